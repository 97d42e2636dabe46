/- normal.Text, decomposed, where no point has a class; a text comes back from its points. -/
import Derived.Test.YtakbacfhcllioaaGreatDoorOf
namespace Go.Proofs.YtakbacfhcllioaaGreatDoor
open Go.RowKit Go.PlainAid

theorem u8_bt (s : ByteArray) (i : Nat) (h : i < s.size) (n : Nat) (hn : (n : Int) = bt s i) : UInt8.ofNat n = s[i] := by
  have e := get_bt s i h
  apply UInt8.toNat_inj.1
  have := bt_le s i
  rw [UInt8.toNat_ofNat']
  omega

theorem decodeN_cases (n b0 b1 b2 b3 : Nat) (h0 : b0 < 256) :
    ((Lib.decodeN n b0 b1 b2 b3).1 = b0 ∧ (Lib.decodeN n b0 b1 b2 b3).2 = 1 ∧ b0 < 128) ∨
    ((Lib.decodeN n b0 b1 b2 b3).1 = b0 % 32 * 64 + b1 % 64 ∧ (Lib.decodeN n b0 b1 b2 b3).2 = 2 ∧ b0 / 32 = 6 ∧ b1 / 64 = 2 ∧ 1 < n ∧ 128 ≤ b0 % 32 * 64 + b1 % 64) ∨
    ((Lib.decodeN n b0 b1 b2 b3).1 = b0 % 16 * 4096 + b1 % 64 * 64 + b2 % 64 ∧ (Lib.decodeN n b0 b1 b2 b3).2 = 3 ∧ b0 / 16 = 14 ∧ b1 / 64 = 2 ∧ b2 / 64 = 2 ∧ 2 < n ∧ 2048 ≤ b0 % 16 * 4096 + b1 % 64 * 64 + b2 % 64 ∧ (b0 % 16 * 4096 + b1 % 64 * 64 + b2 % 64 < 55296 ∨ 57344 ≤ b0 % 16 * 4096 + b1 % 64 * 64 + b2 % 64)) ∨
    ((Lib.decodeN n b0 b1 b2 b3).1 = b0 % 8 * 262144 + b1 % 64 * 4096 + b2 % 64 * 64 + b3 % 64 ∧ (Lib.decodeN n b0 b1 b2 b3).2 = 4 ∧ b0 / 8 = 30 ∧ b1 / 64 = 2 ∧ b2 / 64 = 2 ∧ b3 / 64 = 2 ∧ 3 < n ∧ 65536 ≤ b0 % 8 * 262144 + b1 % 64 * 4096 + b2 % 64 * 64 + b3 % 64 ∧ b0 % 8 * 262144 + b1 % 64 * 4096 + b2 % 64 * 64 + b3 % 64 ≤ 1114111) ∨
    ((Lib.decodeN n b0 b1 b2 b3).1 = 65533 ∧ (Lib.decodeN n b0 b1 b2 b3).2 = 1) := by
  unfold Lib.decodeN
  repeat' split
  all_goals simp
  all_goals omega

theorem enc1 (c : Nat) (h : c < 128) : (Utf8.encode (c : Int)).data.toList = [UInt8.ofNat c] := by
  have hv : Utf8.valid (c : Int) = true := valid_true (by omega)
  unfold Utf8.encode
  simp only [hv, if_true, Int.toNat_natCast, h]
theorem enc2 (c : Nat) (h0 : 128 ≤ c) (h : c < 2048) : (Utf8.encode (c : Int)).data.toList = [UInt8.ofNat (192 + c / 64), UInt8.ofNat (128 + c % 64)] := by
  have hv : Utf8.valid (c : Int) = true := valid_true (by omega)
  have h1 : ¬ c < 128 := by omega
  unfold Utf8.encode
  simp only [hv, if_true, Int.toNat_natCast, h, h1, if_false]
theorem enc3 (c : Nat) (h0 : 2048 ≤ c) (h : c < 65536) (hv : c < 55296 ∨ 57344 ≤ c) : (Utf8.encode (c : Int)).data.toList = [UInt8.ofNat (224 + c / 4096), UInt8.ofNat (128 + c / 64 % 64), UInt8.ofNat (128 + c % 64)] := by
  have hv : Utf8.valid (c : Int) = true := valid_true (by omega)
  have h1 : ¬ c < 128 := by omega
  have h2 : ¬ c < 2048 := by omega
  unfold Utf8.encode
  simp only [hv, if_true, Int.toNat_natCast, h, h1, h2, if_false]
theorem enc4 (c : Nat) (h0 : 65536 ≤ c) (h : c ≤ 1114111) : (Utf8.encode (c : Int)).data.toList = [UInt8.ofNat (240 + c / 262144), UInt8.ofNat (128 + c / 4096 % 64), UInt8.ofNat (128 + c / 64 % 64), UInt8.ofNat (128 + c % 64)] := by
  have hv : Utf8.valid (c : Int) = true := valid_true (by omega)
  have h1 : ¬ c < 128 := by omega
  have h2 : ¬ c < 2048 := by omega
  have h3 : ¬ c < 65536 := by omega
  unfold Utf8.encode
  simp only [hv, if_true, Int.toNat_natCast, h1, h2, h3, if_false]

theorem encPt_at (s : ByteArray) (i : Nat) (h : i < s.size) : (encPt (ptAt s i)).data.toList = (s.data.toList.drop i).take (Utf8.decode s i).2 := by
  have hl : s.data.toList.length = s.size := by simp
  have hv := dec_valid s i
  have hw := dec_width s i h
  have d1 : ∀ k (hk : k < s.size), s.data.toList.drop k = s[k] :: s.data.toList.drop (k + 1) := fun k hk => by
    rw [List.drop_eq_getElem_cons (by omega)]; rfl
  have b0 := bt_nonneg s i; have b1 := bt_nonneg s (i + 1); have b2 := bt_nonneg s (i + 2); have b3 := bt_nonneg s (i + 3)
  have c0 := bt_le s i; have c1 := bt_le s (i + 1); have c2 := bt_le s (i + 2); have c3 := bt_le s (i + 3)
  by_cases he : (Utf8.decode s i).1 = 65533 ∧ (Utf8.decode s i).2 = 1
  · have e1 : ptAt s i = 1114112 + bt s i := by unfold ptAt; rw [if_pos he]
    have e2 : encPt (1114112 + bt s i) = strOfNums [bt s i] := by
      unfold encPt
      rw [if_neg (by rw [valid_false (by omega)]; simp), show 1114112 + bt s i - 1114112 = bt s i by omega]
    rw [e1, e2, he.2, d1 i h]
    simp only [List.take_succ_cons, List.take_zero]
    show [UInt8.ofNat (bt s i).toNat] = [s[i]]
    rw [u8_bt s i h _ (by omega)]
  · have e1 : ptAt s i = ((Utf8.decode s i).1 : Int) := by unfold ptAt; rw [if_neg he]
    have e2 : encPt ((Utf8.decode s i).1 : Int) = Utf8.encode ((Utf8.decode s i).1 : Int) := by unfold encPt; rw [if_pos hv]
    rw [e1, e2]
    clear hv e1 e2
    rw [dec_at] at he hw ⊢
    have hcs := decodeN_cases (s.size - i) (bt s i).toNat (bt s (i + 1)).toNat (bt s (i + 2)).toNat (bt s (i + 3)).toNat (by omega)
    have e12 : bt s (i + 1 + 1) = bt s (i + 2) := rfl
    have e13 : bt s (i + 1 + 1 + 1) = bt s (i + 3) := rfl
    rcases hcs with ⟨k1, k2, k3⟩ | ⟨k1, k2, k3, k4, k5, k6⟩ | ⟨k1, k2, k3, k4, k5, k6, k7, k8⟩ | ⟨k1, k2, k3, k4, k5, k6, k7, k8, k9⟩ | hc
    · rw [k1, k2, enc1 _ k3, d1 i h]
      simp only [List.take_succ_cons, List.take_zero]
      rw [u8_bt s i h _ (by omega)]
    · rw [k1, k2, enc2 _ (by omega) (by omega), d1 i h, d1 (i + 1) (by omega)]
      simp only [List.take_succ_cons, List.take_zero]
      rw [u8_bt s i h _ (by omega), u8_bt s (i + 1) (by omega) _ (by omega)]
    · rw [k1, k2, enc3 _ (by omega) (by omega) k8, d1 i h, d1 (i + 1) (by omega), d1 (i + 1 + 1) (by omega)]
      simp only [List.take_succ_cons, List.take_zero]
      rw [u8_bt s i h _ (by omega), u8_bt s (i + 1) (by omega) _ (by omega), u8_bt s (i + 1 + 1) (by omega) _ (by omega)]
    · rw [k1, k2, enc4 _ (by omega) k9, d1 i h, d1 (i + 1) (by omega), d1 (i + 1 + 1) (by omega), d1 (i + 1 + 1 + 1) (by omega)]
      simp only [List.take_succ_cons, List.take_zero]
      rw [u8_bt s i h _ (by omega), u8_bt s (i + 1) (by omega) _ (by omega), u8_bt s (i + 1 + 1) (by omega) _ (by omega), u8_bt s (i + 1 + 1 + 1) (by omega) _ (by omega)]
    · exact absurd hc he

theorem textB_pts (s : ByteArray) : ∀ f i, s.size - i ≤ f → textB (ptsF s f i) = s.data.toList.drop i
  | 0, i, h => by
    rw [List.drop_of_length_le (by simp; omega)]; rfl
  | f + 1, i, h => by
    unfold ptsF
    by_cases hi : i < s.size
    · rw [if_pos hi]
      have hw := dec_width s i hi
      show (encPt (ptAt s i)).data.toList ++ textB (ptsF s f (i + (Utf8.decode s i).2)) = _
      rw [encPt_at s i hi, textB_pts s f _ (by omega), ← List.drop_drop, List.take_append_drop]
    · rw [if_neg hi, List.drop_of_length_le (by simp; omega)]; rfl
/-- A text comes back from its points. -/
theorem text_pts (s : ByteArray) : (⟨(textB (ptsOf s)).toArray⟩ : ByteArray) = s := by
  unfold ptsOf
  rw [textB_pts s s.size 0 (by omega)]
  cases s; simp
theorem ptAt_ok (s : ByteArray) (i : Nat) (_h : i < s.size) : ptOk (ptAt s i) = true := by
  unfold ptOk ptAt
  have b0 := bt_nonneg s i; have c0 := bt_le s i
  split
  · rename_i he
    have hb : 128 ≤ bt s i := by
      have := he
      rw [dec_at] at this
      have hcs := decodeN_cases (s.size - i) (bt s i).toNat (bt s (i + 1)).toNat (bt s (i + 2)).toNat (bt s (i + 3)).toNat (by omega)
      by_cases hc : (bt s i).toNat < 128
      · have : (Lib.decodeN (s.size - i) (bt s i).toNat (bt s (i + 1)).toNat (bt s (i + 2)).toNat (bt s (i + 3)).toNat).1 = (bt s i).toNat := by unfold Lib.decodeN; rw [if_pos hc]
        omega
      · omega
    simp
    omega
  · rw [dec_valid]; rfl
theorem pts_ok (s : ByteArray) : ∀ f i, ∀ c ∈ ptsF s f i, ptOk c = true
  | 0, _, c, h => by cases h
  | f + 1, i, c, h => by
    unfold ptsF at h
    by_cases hi : i < s.size
    · rw [if_pos hi] at h
      rcases List.mem_cons.1 h with rfl | h
      · exact ptAt_ok s i hi
      · exact pts_ok s f _ c h
    · rw [if_neg hi] at h; cases h
theorem pts_len (s : ByteArray) : (ptsOf s).length ≤ s.size := by unfold ptsOf; rw [ptsF_len]; exact runesF_len s _ _

set_option maxHeartbeats 1000000 in
/-- normal.Text, decomposed, of a text whose points neither decompose nor have classes: the text itself. -/
theorem ntext0 (bp n₀ : Nat) (m : PM) (hlen : ∀ x ∈ m.decomps, x.2.length ≤ 1099511627776) (s : ByteArray) (hs : s.size ≤ 1099511627776) (w : World) (hn : n₀ ≤ w.heap.size) (hp : IsProps n₀ w bp m)
    (hd : ∀ c ∈ ptsOf s, decP m c = []) (hc : ∀ c ∈ ptsOf s, classP m c = 0) :
    Calls Tryz.prog 69 #[.pointer (some ⟨bp, 0, none⟩), .string s, .bool false] w fun e w' => e = .returned (.string s) ∧ Below w.heap.size w w' := by
  have e1 : (ptsOf s).flatMap (fullN m 0) = ptsOf s := by
    have : ∀ l : List Int, l.flatMap (fullN m 0) = l := fun l => by induction l with | nil => rfl | cons x l ih => simp [fullN]
    exact this _
  have hpl : (ptsOf s).length ≤ 1099511627776 := Nat.le_trans (pts_len s) hs
  have H1 := Lib.hid (of_any s hs w)
  have H2 : Hid (∀ v W, Below w.heap.size w W → OwnR W w.heap.size v (ptsOf s) → Calls Tryz.prog 119 #[.pointer (some ⟨bp, 0, none⟩), v] W (GivesL W (ptsOf s))) := fun v W hB ho => by
    have := decompose0 bp n₀ m hlen 0 v (ptsOf s) (by rw [e1]; exact hpl) hpl W (Nat.le_trans hn hB.size) (hp.below (hB.mono hn)) ho.runes hd (by rw [e1]; exact hc)
    rwa [e1] at this
  have H3 : Hid (∀ v W B, OwnR W B v (ptsOf s) → Calls Tryz.prog 120 #[v] W fun e w' => e = .returned (.tuple #[.string s, .nilIface]) ∧ Below W.heap.size W w') := fun v W B ho => by
    have := text_ok v (ptsOf s) hpl W ho.runes (pts_ok s _ _)
    rwa [text_pts] at this
  clear hs hp hd hc e1 hpl
  go_enter Tryz.func69, Tryz.ntmps69
  go_wp2_with (first
    | (go_at_call 14; refine H1.out.mono ?_; rintro e w1 ⟨v1, rfl, ho1, hB1⟩)
    | (go_at_call 119; refine (H2.out _ _ hB1 ho1).mono ?_; rintro e w2 ⟨v2, rfl, ho2, hB2⟩)
    | (go_at_call 120; refine (H3.out _ _ _ ho2).mono ?_; rintro e w3 ⟨rfl, hB3⟩))
  go_ret
  exact ⟨rfl, hB1.trans ((hB2.trans (hB3.mono hB2.size)).mono hB1.size)⟩
end Go.Proofs.YtakbacfhcllioaaGreatDoor
