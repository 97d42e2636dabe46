/- The bytes of a number: plain laws (order, one form, none begins another, read back). -/
import Derived.Test.YtakbacfhcllioaaGreatDoorRd
namespace Go.Proofs.YtakbacfhcllioaaGreatDoor
open Go.RowKit Go.PlainAid

/-- The number that bytes say. -/
def valA (a : Int) (l : List Int) : Int := l.foldl (fun a d => a * 256 + d) a
def Dig (l : List Int) : Prop := ∀ d ∈ l, 0 ≤ d ∧ d ≤ 255

theorem Dig.cons {d : Int} {l : List Int} (h : Dig (d :: l)) : (0 ≤ d ∧ d ≤ 255) ∧ Dig l := ⟨h d (by simp), fun x hx => h x (by simp [hx])⟩

theorem valA_lt : ∀ (x y : List Int) (a b : Int), x.length = y.length → Dig x → Dig y → a < b → valA a x < valA b y
  | [], [], a, b, _, _, _, h => h
  | x :: xs, y :: ys, a, b, hl, hx, hy, h => by
    have := hx.cons.1; have := hy.cons.1
    exact valA_lt xs ys (a * 256 + x) (b * 256 + y) (by simpa using hl) hx.cons.2 hy.cons.2 (by omega)

/-- Which row of bytes stands ahead. -/
def lexI : List Int → List Int → Bool
  | _, [] => false
  | [], _ :: _ => true
  | a :: x, b :: y => decide (a < b) || (a == b && lexI x y)

theorem lexI_val : ∀ (x y : List Int) (a : Int), x.length = y.length → Dig x → Dig y → lexI x y = true → valA a x < valA a y
  | [], [], _, _, _, _, h => by cases h
  | x :: xs, y :: ys, a, hl, hx, hy, h => by
    simp only [lexI, Bool.or_eq_true, Bool.and_eq_true, decide_eq_true_eq, beq_iff_eq] at h
    rcases h with h | ⟨rfl, h⟩
    · exact valA_lt xs ys _ _ (by simpa using hl) hx.cons.2 hy.cons.2 (by show a * 256 + x < a * 256 + y; omega)
    · exact lexI_val xs ys _ (by simpa using hl) hx.cons.2 hy.cons.2 h

theorem lexI_tri : ∀ (x y : List Int), x.length = y.length → lexI x y = true ∨ x = y ∨ lexI y x = true
  | [], [], _ => .inr (.inl rfl)
  | x :: xs, y :: ys, hl => by
    simp only [lexI, Bool.or_eq_true, Bool.and_eq_true, decide_eq_true_eq, beq_iff_eq]
    rcases Int.lt_trichotomy x y with h | rfl | h
    · exact .inl (.inl h)
    · rcases lexI_tri xs ys (by simpa using hl) with h | rfl | h
      · exact .inl (.inr ⟨rfl, h⟩)
      · exact .inr (.inl rfl)
      · exact .inr (.inr (.inr ⟨rfl, h⟩))
    · exact .inr (.inr (.inl h))

theorem valA_inj {x y : List Int} {a : Int} (hl : x.length = y.length) (hx : Dig x) (hy : Dig y) (h : valA a x = valA a y) : x = y := by
  rcases lexI_tri x y hl with c | c | c
  · have := lexI_val x y a hl hx hy c; omega
  · exact c
  · have := lexI_val y x a hl.symm hy hx c; omega

theorem valA_nonneg : ∀ (l : List Int) (a : Int), 0 ≤ a → Dig l → a ≤ valA a l
  | [], a, _, _ => Int.le_refl _
  | d :: l, a, ha, h => by
    have := h.cons.1
    have := valA_nonneg l (a * 256 + d) (by omega) h.cons.2
    show a ≤ valA (a * 256 + d) l
    omega

/-- Of two rows of bytes that begin with no 0 the shorter one says less. -/
theorem valA_short (x y : List Int) (hl : x.length < y.length) (hx : Dig x) (hy : Dig y) (h0 : y.head? ≠ some 0) : valA 0 x < valA 0 y := by
  match y, hl, hy, h0 with
  | b :: ys, hl, hy, h0 =>
    have hb := hy.cons.1
    have hb0 : b ≠ 0 := fun e => h0 (by simp [e])
    have hle : x.length ≤ ys.length := by simp at hl; omega
    -- pad x with zeros ahead
    have hz : ∀ n, valA 0 (List.replicate n 0 ++ x) = valA 0 x := fun n => by
      induction n with
      | zero => rfl
      | succ n ih => rw [List.replicate_succ]; show valA (0 * 256 + 0) (List.replicate n 0 ++ x) = _; simpa using ih
    rw [← hz (ys.length - x.length)]
    show _ < valA (0 * 256 + b) ys
    refine valA_lt _ _ _ _ (by simp; omega) ?_ hy.cons.2 (by omega)
    intro d hd
    rcases List.mem_append.1 hd with hd | hd
    · have := List.eq_of_mem_replicate hd; omega
    · exact hx d hd

/-- What a number's bytes are. -/
structure IsEnc (n : Int) (ds : List Int) : Prop where
  dig : Dig ds
  val : valA 0 ds = n
  head : ds.head? ≠ some 0
  len : ds.length ≤ 8

theorem IsEnc.lt {n m : Int} {x y : List Int} (hx : IsEnc n x) (hy : IsEnc m y) (h : x.length < y.length) : n < m := by
  rw [← hx.val, ← hy.val]; exact valA_short x y h hx.dig hy.dig hy.head

theorem IsEnc.uniq {n : Int} {x y : List Int} (hx : IsEnc n x) (hy : IsEnc n y) : x = y := by
  rcases Nat.lt_trichotomy x.length y.length with h | h | h
  · have := hx.lt hy h; omega
  · exact valA_inj h hx.dig hy.dig (hx.val.trans hy.val.symm)
  · have := hy.lt hx h; omega

theorem enc_is (n : Int) (g0 : 0 ≤ n) (g1 : n ≤ 18446744073709551615) : ∃ ds, encI n = ((ds.length : Int) + 2) :: ds ∧ IsEnc n ds := by
  unfold encI
  split
  · exact ⟨[], rfl, by simp [Dig], by simp [valA]; omega, by simp, by simp⟩
  split
  · exact ⟨[n], rfl, fun d hd => by simp only [List.mem_cons, List.not_mem_nil, or_false] at hd; omega, by simp only [valA, List.foldl_cons, List.foldl_nil]; omega, fun e => by simp only [List.head?_cons, Option.some.injEq] at e; omega, by simp⟩
  split
  · exact ⟨[n / 256, n % 256], rfl, fun d hd => by simp only [List.mem_cons, List.not_mem_nil, or_false] at hd; omega, by simp only [valA, List.foldl_cons, List.foldl_nil]; omega, fun e => by simp only [List.head?_cons, Option.some.injEq] at e; omega, by simp⟩
  split
  · exact ⟨[n / 65536, n / 256 % 256, n % 256], rfl, fun d hd => by simp only [List.mem_cons, List.not_mem_nil, or_false] at hd; omega, by simp only [valA, List.foldl_cons, List.foldl_nil]; omega, fun e => by simp only [List.head?_cons, Option.some.injEq] at e; omega, by simp⟩
  split
  · exact ⟨[n / 16777216, n / 65536 % 256, n / 256 % 256, n % 256], rfl, fun d hd => by simp only [List.mem_cons, List.not_mem_nil, or_false] at hd; omega, by simp only [valA, List.foldl_cons, List.foldl_nil]; omega, fun e => by simp only [List.head?_cons, Option.some.injEq] at e; omega, by simp⟩
  split
  · exact ⟨[n / 4294967296, n / 16777216 % 256, n / 65536 % 256, n / 256 % 256, n % 256], rfl, fun d hd => by simp only [List.mem_cons, List.not_mem_nil, or_false] at hd; omega, by simp only [valA, List.foldl_cons, List.foldl_nil]; omega, fun e => by simp only [List.head?_cons, Option.some.injEq] at e; omega, by simp⟩
  split
  · exact ⟨[n / 1099511627776, n / 4294967296 % 256, n / 16777216 % 256, n / 65536 % 256, n / 256 % 256, n % 256], rfl, fun d hd => by simp only [List.mem_cons, List.not_mem_nil, or_false] at hd; omega, by simp only [valA, List.foldl_cons, List.foldl_nil]; omega, fun e => by simp only [List.head?_cons, Option.some.injEq] at e; omega, by simp⟩
  split
  · exact ⟨[n / 281474976710656, n / 1099511627776 % 256, n / 4294967296 % 256, n / 16777216 % 256, n / 65536 % 256, n / 256 % 256, n % 256], rfl, fun d hd => by simp only [List.mem_cons, List.not_mem_nil, or_false] at hd; omega, by simp only [valA, List.foldl_cons, List.foldl_nil]; omega, fun e => by simp only [List.head?_cons, Option.some.injEq] at e; omega, by simp⟩
  · exact ⟨[n / 72057594037927936, n / 281474976710656 % 256, n / 1099511627776 % 256, n / 4294967296 % 256, n / 16777216 % 256, n / 65536 % 256, n / 256 % 256, n % 256], rfl, fun d hd => by simp only [List.mem_cons, List.not_mem_nil, or_false] at hd; omega, by simp only [valA, List.foldl_cons, List.foldl_nil]; omega, fun e => by simp only [List.head?_cons, Option.some.injEq] at e; omega, by simp⟩

/-- Rows of bytes with their length ahead stand as the numbers do. -/
theorem enc_lex {n m : Int} {x y : List Int} (hx : IsEnc n x) (hy : IsEnc m y) : lexI (((x.length : Int) + 2) :: x) (((y.length : Int) + 2) :: y) = decide (n < m) := by
  have key : ∀ {n m : Int} {x y : List Int}, IsEnc n x → IsEnc m y → lexI (((x.length : Int) + 2) :: x) (((y.length : Int) + 2) :: y) = true → n < m := by
    intro n m x y hx hy h
    simp only [lexI, Bool.or_eq_true, Bool.and_eq_true, decide_eq_true_eq, beq_iff_eq] at h
    rcases h with h | ⟨h1, h2⟩
    · exact hx.lt hy (by omega)
    · rw [← hx.val, ← hy.val]; exact lexI_val x y 0 (by omega) hx.dig hy.dig h2
  by_cases h : n < m
  · rw [decide_eq_true h]
    rcases Nat.lt_trichotomy x.length y.length with c | c | c
    · simp only [lexI, Bool.or_eq_true, decide_eq_true_eq]; exact .inl (by omega)
    · rcases lexI_tri x y c with d | d | d
      · simp only [lexI, Bool.or_eq_true, Bool.and_eq_true, decide_eq_true_eq, beq_iff_eq]; exact .inr ⟨by omega, d⟩
      · subst d; have := hx.val; have := hy.val; omega
      · have := lexI_val y x 0 c.symm hy.dig hx.dig d; have := hx.val; have := hy.val; omega
    · have := hy.lt hx c; omega
  · rw [decide_eq_false h]
    cases hq : lexI (((x.length : Int) + 2) :: x) (((y.length : Int) + 2) :: y) with
    | false => rfl
    | true => exact absurd (key hx hy hq) h

def u8I (l : List Int) : List UInt8 := l.map fun n => UInt8.ofNat n.toNat
theorem str_list (l : List Int) : (strOfNums l).toList = u8I l := by rw [ByteArray.toList_eq]; simp [strOfNums, u8I]
theorem str_size (l : List Int) : (strOfNums l).size = l.length := by show (strOfNums l).data.size = _; simp [strOfNums]

theorem u8_lt {a b : Int} (ha : 0 ≤ a ∧ a ≤ 255) (hb : 0 ≤ b ∧ b ≤ 255) : decide (UInt8.ofNat a.toNat < UInt8.ofNat b.toNat) = decide (a < b) := by
  rw [decide_eq_decide, UInt8.lt_iff_toNat_lt, UInt8.toNat_ofNat', UInt8.toNat_ofNat']; omega
theorem u8_inj {a b : Int} (ha : 0 ≤ a ∧ a ≤ 255) (hb : 0 ≤ b ∧ b ≤ 255) (h : UInt8.ofNat a.toNat = UInt8.ofNat b.toNat) : a = b := by
  have := congrArg UInt8.toNat h
  rw [UInt8.toNat_ofNat', UInt8.toNat_ofNat'] at this; omega
theorem u8_beq {a b : Int} (ha : 0 ≤ a ∧ a ≤ 255) (hb : 0 ≤ b ∧ b ≤ 255) : (UInt8.ofNat a.toNat == UInt8.ofNat b.toNat) = (a == b) := by
  by_cases h : a = b
  · subst h; rw [beq_self_eq_true, beq_self_eq_true]
  · rw [beq_eq_false_iff_ne.2 h, beq_eq_false_iff_ne.2 (fun e => h (u8_inj ha hb e))]

theorem less_lex : ∀ (x y : List Int), Dig x → Dig y → Op.bytesLess (u8I x) (u8I y) = lexI x y
  | [], [], _, _ => rfl
  | _ :: _, [], _, _ => rfl
  | [], _ :: _, _, _ => rfl
  | a :: x, b :: y, hx, hy => by
    show (decide (_ < _) || (_ == _ && Op.bytesLess (u8I x) (u8I y))) = _
    rw [less_lex x y hx.cons.2 hy.cons.2, u8_lt hx.cons.1 hy.cons.1, u8_beq hx.cons.1 hy.cons.1]
    rfl

theorem u8I_inj : ∀ (x y : List Int), Dig x → Dig y → u8I x = u8I y → x = y
  | [], [], _, _, _ => rfl
  | _ :: _, [], _, _, h => by cases h
  | [], _ :: _, _, _, h => by cases h
  | a :: x, b :: y, hx, hy, h => by
    obtain ⟨h1, h2⟩ := List.cons.inj (show UInt8.ofNat a.toNat :: u8I x = UInt8.ofNat b.toNat :: u8I y from h)
    rw [u8_inj hx.cons.1 hy.cons.1 h1, u8I_inj x y hx.cons.2 hy.cons.2 h2]

/-- The whole form of a number. -/
theorem encI_dig {n : Int} {ds : List Int} (h : IsEnc n ds) : Dig (((ds.length : Int) + 2) :: ds) := fun d hd => by
  rcases List.mem_cons.1 hd with rfl | hd
  · have := h.len; omega
  · exact h.dig d hd

theorem enc_less (n m : Int) (g0 : 0 ≤ n) (g1 : n ≤ 18446744073709551615) (h0 : 0 ≤ m) (h1 : m ≤ 18446744073709551615) :
    Op.bytesLess (strOfNums (encI n)).toList (strOfNums (encI m)).toList = decide (n < m) := by
  obtain ⟨x, ex, hx⟩ := enc_is n g0 g1
  obtain ⟨y, ey, hy⟩ := enc_is m h0 h1
  rw [str_list, str_list, ex, ey, less_lex _ _ (encI_dig hx) (encI_dig hy), enc_lex hx hy]

theorem enc_inj {n m : Int} (g0 : 0 ≤ n) (g1 : n ≤ 18446744073709551615) (h0 : 0 ≤ m) (h1 : m ≤ 18446744073709551615) (h : encI n = encI m) : n = m := by
  obtain ⟨x, ex, hx⟩ := enc_is n g0 g1
  obtain ⟨y, ey, hy⟩ := enc_is m h0 h1
  rw [ex, ey] at h
  rw [← hx.val, ← hy.val, (List.cons.inj h).2]

theorem enc_beq (n m : Int) (g0 : 0 ≤ n) (g1 : n ≤ 18446744073709551615) (h0 : 0 ≤ m) (h1 : m ≤ 18446744073709551615) :
    ((strOfNums (encI n)).toList == (strOfNums (encI m)).toList) = decide (n = m) := by
  obtain ⟨x, ex, hx⟩ := enc_is n g0 g1
  obtain ⟨y, ey, hy⟩ := enc_is m h0 h1
  rw [str_list, str_list]
  by_cases h : n = m
  · subst h; simp
  · rw [decide_eq_false h, beq_eq_false_iff_ne]
    intro e
    rw [ex, ey] at e
    have := u8I_inj _ _ (encI_dig hx) (encI_dig hy) e
    exact h (enc_inj g0 g1 h0 h1 (by rw [ex, ey]; exact this))

theorem enc_len (n : Int) (g0 : 0 ≤ n) (g1 : n ≤ 18446744073709551615) : 1 ≤ (encI n).length ∧ (encI n).length ≤ 9 := by
  obtain ⟨x, ex, hx⟩ := enc_is n g0 g1
  rw [ex]; have := hx.len; simp; omega

/-- No number's bytes begin another's. -/
theorem enc_prefix (n m : Int) (g0 : 0 ≤ n) (g1 : n ≤ 18446744073709551615) (h0 : 0 ≤ m) (h1 : m ≤ 18446744073709551615) (h : n ≠ m) (k : Nat) (hk : k = (encI n).length) :
    ((strOfNums (encI n)).toList == ((strOfNums (encI m)).extract 0 k).toList) = false := by
  obtain ⟨x, ex, hx⟩ := enc_is n g0 g1
  obtain ⟨y, ey, hy⟩ := enc_is m h0 h1
  subst hk
  rw [beq_eq_false_iff_ne]
  intro e
  rw [str_list, ByteArray.toList_eq, ByteArray.data_extract, Array.toList_extract, ← ByteArray.toList_eq, str_list] at e
  rw [ex, ey] at e
  have e2 : u8I (((x.length : Int) + 2) :: x) = (u8I (((y.length : Int) + 2) :: y)).take (x.length + 1) := by
    have : List.extract (u8I (((y.length : Int) + 2) :: y)) 0 (((x.length : Int) + 2) :: x).length = (u8I (((y.length : Int) + 2) :: y)).take (x.length + 1) := by simp [List.extract]
    rw [← this]; exact e
  have e3 : ((x.length : Int) + 2) = ((y.length : Int) + 2) := by
    have h0 := (List.cons.inj (show UInt8.ofNat ((x.length : Int) + 2).toNat :: u8I x = UInt8.ofNat ((y.length : Int) + 2).toNat :: (u8I y).take x.length from e2)).1
    have := hx.len; have := hy.len
    exact u8_inj (by omega) (by omega) h0
  have e4 : u8I (((x.length : Int) + 2) :: x) = u8I (((y.length : Int) + 2) :: y) := by
    rw [e2, List.take_of_length_le (by simp [u8I]; omega)]
  exact h (enc_inj g0 g1 h0 h1 (by rw [ex, ey]; exact u8I_inj _ _ (encI_dig hx) (encI_dig hy) e4))

theorem bt_str (l : List Int) (h : Dig l) (i : Nat) (hi : i < l.length) : bt (strOfNums l) i = l[i] := by
  have hs : i < (strOfNums l).size := by rw [str_size]; exact hi
  rw [← get_bt _ i hs]
  have : (strOfNums l)[i] = UInt8.ofNat (l[i]).toNat := by
    show (strOfNums l).data[i]'_ = _
    simp [strOfNums]
  rw [this, UInt8.toNat_ofNat']
  have := h l[i] (List.getElem_mem hi)
  omega

theorem bt_app_r (a b : ByteArray) (i : Nat) : bt (a ++ b) (a.size + i) = bt b i := by
  by_cases h : i < b.size
  · have h1 : a.size + i < (a ++ b).size := by rw [ByteArray.size_append]; omega
    rw [← get_bt _ _ h1, ← get_bt _ _ h]
    congr 2
    rw [ByteArray.getElem_append_right (by omega)]
    congr 1; omega
  · rw [bt_end b (by omega), bt_end (a ++ b) (by rw [ByteArray.size_append]; omega)]
theorem bt_app_l (a b : ByteArray) (i : Nat) (h : i < a.size) : bt (a ++ b) i = bt a i := by
  have h1 : i < (a ++ b).size := by rw [ByteArray.size_append]; omega
  rw [← get_bt _ _ h1, ← get_bt _ _ h]
  congr 2
  exact ByteArray.getElem_append_left h
theorem bt_take (a : ByteArray) (k i : Nat) (h : i < k) (hk : k ≤ a.size) : bt (a.extract 0 k) i = bt a i := by
  have h1 : i < (a.extract 0 k).size := by rw [ByteArray.size_extract]; omega
  rw [← get_bt _ _ h1, ← get_bt _ i (by omega)]
  congr 2
  rw [ByteArray.getElem_extract]
  congr 1; omega

theorem valA_snoc (a : Int) (l : List Int) (d : Int) : valA a (l ++ [d]) = valA a l * 256 + d := by simp [valA]
theorem valR_list (s : ByteArray) (a : Nat) (k : Nat) : valR s a k = valA 0 ((List.range k).map fun j => bt s (a + j)) := by
  induction k with
  | zero => rfl
  | succ k ih => rw [List.range_succ, List.map_append, List.map_cons, List.map_nil, valA_snoc, ← ih]; rfl
theorem bts_dig (s : ByteArray) (a k : Nat) : Dig ((List.range k).map fun j => bt s (a + j)) := fun d hd => by
  obtain ⟨j, _, rfl⟩ := List.mem_map.1 hd
  exact ⟨bt_nonneg _ _, bt_le _ _⟩

/-- What is read is the one form. -/
theorem enc_read (s : ByteArray) (i l : Nat) (hl8 : l ≤ 8) (hb : bt s i = (l : Int) + 2) (hl : i + 1 + l ≤ s.size) (hz : l = 0 ∨ bt s (i + 1) ≠ 0) :
    strOfNums (encI (valR s (i + 1) l)) = s.extract i (i + l + 1) := by
  have hv := valR_bd s (i + 1) l
  have hp : (256 ^ l : Nat) ≤ 256 ^ 8 := Nat.pow_le_pow_right (by omega) (by omega)
  have hp8 : (256 ^ 8 : Nat) = 18446744073709551616 := by decide
  obtain ⟨x, ex, hx⟩ := enc_is (valR s (i + 1) l) hv.1 (by omega)
  have hm : IsEnc (valR s (i + 1) l) ((List.range l).map fun j => bt s (i + 1 + j)) := ⟨bts_dig _ _ _, (valR_list _ _ _).symm, by
    rcases hz with rfl | hz
    · simp
    · cases l with
      | zero => simp
      | succ l => rw [List.range_succ_eq_map]; simp; exact hz, by simpa using hl8⟩
  have e := hx.uniq hm
  rw [ex, e]
  apply ByteArray.ext
  apply Array.toList_inj.1
  rw [ByteArray.data_extract, Array.toList_extract]
  show u8I _ = _
  apply List.ext_getElem?
  intro j
  have hd : ∀ k, k < s.size → s.data.toList[k]? = some (UInt8.ofNat (bt s k).toNat) := fun k hk => by
    have := get_bt s k hk
    rw [← this]
    rw [Int.toNat_natCast, UInt8.ofNat_toNat]
    have hk2 : k < s.data.toList.length := by rw [Array.length_toList]; exact hk
    rw [List.getElem?_eq_getElem hk2]
    rfl
  simp only [List.extract, List.getElem?_take, List.getElem?_drop]
  cases j with
  | zero =>
    rw [if_pos (by omega)]
    show _ = s.data.toList[i]?
    rw [hd i (by omega), hb]
    simp [u8I]
  | succ j =>
    show (u8I _)[j]? = _
    by_cases hj : j < l
    · rw [if_pos (by omega), show i + (j + 1) = i + 1 + j by omega, hd _ (by omega)]
      simp [u8I, hj]
    · rw [if_neg (by omega)]
      simp [u8I, hj]

/-- A number's bytes are read behind any, and ahead of any. -/
theorem read_enc (n : Int) (g0 : 0 ≤ n) (g1 : n ≤ 18446744073709551615) (h t : ByteArray) :
    ∃ l, (encI n).length = l + 1 ∧ l ≤ 8 ∧ bt (h ++ strOfNums (encI n) ++ t) h.size = (l : Int) + 2 ∧ (l = 0 ∨ bt (h ++ strOfNums (encI n) ++ t) (h.size + 1) ≠ 0) ∧ valR (h ++ strOfNums (encI n) ++ t) (h.size + 1) l = n := by
  obtain ⟨x, ex, hx⟩ := enc_is n g0 g1
  have hb : ∀ j (hj : j < x.length + 1), bt (h ++ strOfNums (encI n) ++ t) (h.size + j) = (((x.length : Int) + 2) :: x)[j]'(by simpa using hj) := fun j hj => by
    rw [bt_app_l _ _ _ (by rw [ByteArray.size_append, str_size, ex]; simp; omega), bt_app_r, ex, bt_str _ (encI_dig hx)]
  refine ⟨x.length, by rw [ex]; rfl, hx.len, by simpa using hb 0 (by omega), ?_, ?_⟩
  · by_cases hq : x.length = 0
    · exact .inl hq
    · right
      have := hb 1 (by omega)
      rw [this]
      intro e
      refine hx.head ?_
      rw [List.head?_eq_getElem?, List.getElem?_eq_getElem (by omega)]
      exact congrArg some e
  · rw [valR_list]
    refine Eq.trans (congrArg (valA 0) ?_) hx.val
    apply List.ext_getElem (by simp)
    intro j h1 h2
    simp only [List.getElem_map, List.getElem_range]
    rw [show h.size + 1 + j = h.size + (j + 1) by omega, hb (j + 1) (by omega)]
    rfl
end Go.Proofs.YtakbacfhcllioaaGreatDoor
