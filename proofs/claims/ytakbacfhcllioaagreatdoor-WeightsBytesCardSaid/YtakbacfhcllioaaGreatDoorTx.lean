/- points.Text: the text of points. -/
import Derived.Test.YtakbacfhcllioaaGreatDoorDe
import Derived.Lib.AppendStr
namespace Go.Proofs.YtakbacfhcllioaaGreatDoor
open Go.RowKit

/-- The bytes of a point. -/
def encPt (c : Int) : ByteArray := if Utf8.valid c then Utf8.encode c else strOfNums [c - 1114112]
/-- May a number be a point of a text? -/
def ptOk (c : Int) : Bool := Utf8.valid c || decide (1114240 ≤ c ∧ c ≤ 1114367)
/-- The bytes of points. -/
def textB (l : List Int) : List UInt8 := l.flatMap fun c => (encPt c).data.toList
theorem valid_false {c : Int} (h : ¬ (0 ≤ c ∧ c < 55296) ∧ ¬ (57344 ≤ c ∧ c ≤ 1114111)) : Utf8.valid c = false := by
  unfold Utf8.valid; simp; omega
theorem valid_true {c : Int} (h : (0 ≤ c ∧ c < 55296) ∨ (57344 ≤ c ∧ c ≤ 1114111)) : Utf8.valid c = true := by
  unfold Utf8.valid; simp; omega
def cellsB (bs : List UInt8) : List Value := bs.map fun b => Value.int .u8 b.toNat

set_option maxHeartbeats 1000000 in
theorem validRune_any (c : Int) (w : World) :
    Calls Tryz.prog 166 #[.int .i32 c] w fun e w' => e = .returned (.bool (Utf8.valid c)) ∧ w = w' := by
  have hd : (c < 0 ∧ Utf8.valid c = false) ∨ (0 ≤ c ∧ c < 55296 ∧ Utf8.valid c = true) ∨ (55296 ≤ c ∧ c < 57344 ∧ Utf8.valid c = false) ∨ (57344 ≤ c ∧ c ≤ 1114111 ∧ Utf8.valid c = true) ∨ (1114111 < c ∧ Utf8.valid c = false) := by
    unfold Utf8.valid; simp; omega
  rcases hd with ⟨c1, e⟩ | ⟨c1, c2, e⟩ | ⟨c1, c2, e⟩ | ⟨c1, c2, e⟩ | ⟨c1, e⟩
  all_goals
    rw [e]
    clear e
    go_enter Tryz.func166, Tryz.ntmps166
    go_wp2
    go_ret
    first | exact ⟨rfl, rfl⟩ | exact ⟨by simp; omega, rfl⟩

theorem info5 : (Tryz.prog.info? 5).map (fun i => (i.zero, i.size, i.bytes)) = some (some (.int .u8 0), 1, 1) := by kernel_rfl

theorem own_string {w : World} {base : Nat} {v : Value} {bs : List UInt8} (h : w.ownsRow base 5 1 v bs.length (cellsB bs)) (dst : TypeId) (hd : Tryz.prog.underlying dst = some .string) :
    (convert 81 dst v).run Tryz.prog w = .ok (.string ⟨bs.toArray⟩) w := by
  rcases h.2 with ⟨rfl, hn⟩ | ⟨g, cap, cur, rfl, hb, hg, hn, hcap, hsz, hx⟩
  · rw [List.eq_nil_of_length_eq_zero hn]
    exact run_convert_bytes_nil w 81 5 Tryz.underlying81 Tryz.underlying5 0 0 dst hd
  · have e := run_convert_bytes_arg (P := Tryz.prog) w 81 5 Tryz.underlying81 Tryz.underlying5 g 0 bs.length cap (bs.map fun b => (b.toNat : Int)) (by simp) (fun i hi => by
      rw [Nat.zero_add, cell_at hg, ← Array.getElem?_toList]
      have e : (cur.toList.take (bs.length * 1))[i]? = (cellsB bs)[i]? := by rw [hx]
      rw [List.getElem?_take_of_lt (by omega)] at e
      rw [e]
      simp [cellsB, List.getD, List.getElem?_eq_getElem hi]) dst hd
    rw [e]
    have e2 : List.map ((fun n : Int => UInt8.ofNat n.toNat) ∘ fun b : UInt8 => (b.toNat : Int)) bs = bs := by
      conv => rhs; rw [← List.map_id bs]
      exact List.map_congr_left fun b _ => by simp
    simp [strOfNums, e2]

theorem encPt_size (c : Int) : (encPt c).size ≤ 4 := by
  unfold encPt
  split
  · unfold Utf8.encode
    dsimp only
    generalize (if Utf8.valid c = true then c.toNat else Utf8.runeError) = k
    split
    · show 1 ≤ 4; omega
    · split
      · show 2 ≤ 4; omega
      · split
        · show 3 ≤ 4; omega
        · show 4 ≤ 4; omega
  · show 1 ≤ 4; omega
theorem textB_len (l : List Int) : (textB l).length ≤ 4 * l.length := by
  unfold textB
  induction l with
  | nil => simp
  | cons c l ih =>
    have := encPt_size c
    have e : (encPt c).data.toList.length = (encPt c).size := by simp
    simp only [List.flatMap_cons, List.length_append, List.length_cons]
    omega
theorem textB_snoc (l : List Int) (c : Int) : textB (l ++ [c]) = textB l ++ (encPt c).data.toList := by simp [textB]
theorem cellsB_app (a b : List UInt8) : cellsB (a ++ b) = cellsB a ++ cellsB b := by simp [cellsB]

set_option maxRecDepth 100000 in
set_option maxHeartbeats 2000000 in
theorem text_ok (v : Value) (l : List Int) (hl : l.length ≤ 1099511627776) (w : World) (hv : Runes w.heap.size w v l) (hok : ∀ c ∈ l, ptOk c = true) :
    Calls Tryz.prog 120 #[v] w fun e w' => e = .returned (.tuple #[.string ⟨(textB l).toArray⟩, .nilIface]) ∧ Below w.heap.size w w' := by
  obtain ⟨a, cap, rfl⟩ := hv.slice
  obtain ⟨i0, hi, hz0, hz1, hz2⟩ := info_parts info5
  have HV := Lib.hid hv
  have HK := Lib.hid hok
  clear hv hok
  go_enter Tryz.func120, Tryz.ntmps120
  go_wp2_with fail
  go_loopw [4, 9] (fun o i wr => ∃ k : Nat, k ≤ l.length ∧ i = .int .i64 k ∧ wr.ownsRow w.heap.size 5 1 o (textB (l.take k)).length (cellsB (textB (l.take k))) ∧ Below w.heap.size w wr) (fun _ i _ => l.length - (intOf i).toNat)
  case atStart => exact ⟨0, Nat.zero_le _, rfl, World.ownsRow_nil _ _ _ _, Below.refl _ _⟩
  case round =>
    obtain ⟨k, hk, rfl, ho, hB⟩ := hrel
    have HO := Lib.hid ho
    have hlow := Lib.hid (own_low ho)
    by_cases hlt : k < l.length
    · rcases HV.out with ⟨e0, e1⟩ | ⟨b, off, cap2, ev, hb, hcap, hc⟩
      · rw [e1] at hlt; simp at hlt
      cases ev
      obtain ⟨x, hx⟩ : ∃ x, l[k]?.getD 0 = x := ⟨_, rfl⟩
      have hx1 : l[k]? = some x := by rw [← hx]; simp [List.getElem?_eq_getElem hlt]
      have hmem : x ∈ l := List.mem_of_getElem? hx1
      have hcx := hc k hlt
      rw [hx] at hcx
      have hcx := (hB.cell (p := ⟨b, off + k, none⟩) hb).trans hcx
      have htake : l.take (k + 1) = l.take k ++ [x] := by rw [List.take_add_one, hx1]; rfl
      have hlen2 := textB_len (l.take k)
      have hlen3 : (l.take k).length ≤ k := List.length_take_le _ _
      have hokx := HK.out x hmem
      have HT := Lib.hid htake
      obtain ⟨n, hn⟩ : ∃ n, (textB (l.take k)).length = n := ⟨_, rfl⟩
      rw [hn] at hlen2 ho
      have HN := Lib.hid hn
      have HO2 := Lib.hid ho
      have h63 : n + 4 ≤ maxLen := by unfold maxLen; omega
      have hby : n + 4 ≤ 140737488355328 := by omega
      clear hx hx1 hmem htake hc ho hn
      by_cases hval : Utf8.valid x = true
      · have hes : (Utf8.encode x).size ≤ 4 := by have := encPt_size x; unfold encPt at this; rw [if_pos hval] at this; exact this
        have hr : x < 55296 ∨ 57344 ≤ x := by unfold Utf8.valid at hval; simp at hval; omega
        clear hokx
        go_wp2_with (first
          | (go_at_call 166; refine (validRune_any _ _).mono ?_; rintro e w' ⟨rfl, rfl⟩)
          | (at_builtin; go_must (refine Lib.wpList_append_own_string _ rfl _ _ 81 9 rfl w.heap.size 5 i0 Tryz.underlying81 Tryz.underlying9 hi hz0 hz1 hz2 _ n _ rfl HO2.out (Utf8.encode x) rfl (by omega) (by omega) hB.size ?_); intro v' w1 hown' hgrow _))
        go_roundw
        case rel =>
          refine ⟨k + 1, by omega, by go_num, ?_, hB.grown hgrow hB.size (fun j e => hlow.out j e)⟩
          rw [HT.out, textB_snoc, cellsB_app, List.length_append, HN.out, show encPt x = Utf8.encode x by unfold encPt; rw [if_pos hval]]
          exact hown'
        case measure => simp [intOf]; omega
      · have hval : Utf8.valid x = false := by simpa using hval
        have hr : 1114240 ≤ x ∧ x ≤ 1114367 := by simpa [ptOk, hval] using hokx
        obtain ⟨hr0, hr1⟩ := hr
        clear hokx
        go_wp2_with (first
          | (go_at_call 166; refine (validRune_any _ _).mono ?_; rintro e w' ⟨rfl, rfl⟩)
          | (at_builtin; refine wpList_append_own _ rfl _ _ 81 rfl w.heap.size 5 i0 (.int .u8 0) 1 1 Tryz.underlying81 hi hz0 hz1 hz2 rfl (by decide) _ n _ rfl (own_below HO2.out ((Below.refl _ wr).alloc (Nat.le_refl _) _)) ⟨wr.heap.size, 0, none⟩ 1 1 [.int .u8 (x - 1114112)] rfl rfl (news_one _ _ _ _ rfl) (by simp [Value.oneCell']) (by omega) (by omega) (by have := hB.size; simp; omega) ?_; intro v' w1 hown' hgrow _))
        go_roundw
        case rel =>
          refine ⟨k + 1, by omega, by go_num, ?_, (hB.trans (((Below.refl _ wr).alloc (Nat.le_refl _) _).mono hB.size)).grown hgrow (by have := hB.size; simp; omega) (fun j e => hlow.out j e)⟩
          rw [HT.out, textB_snoc, cellsB_app, List.length_append, HN.out, show encPt x = strOfNums [x - 1114112] by unfold encPt; rw [if_neg (by simp [hval])]]
          have e1 : cellsB (strOfNums [x - 1114112]).data.toList = [.int .u8 (x - 1114112)] := by
            simp [cellsB, strOfNums]
            omega
          rw [e1]
          exact hown'
        case measure => simp [intOf]; omega
    · obtain rfl : k = l.length := by omega
      have ho' := HO.out
      rw [List.take_length] at ho'
      have hcv := own_string ho' 9 Tryz.underlying9
      obtain ⟨ao, co, rfl⟩ := own_slice ho'
      go_wp2
      go_ret2
      exact ⟨rfl, hB⟩
end Go.Proofs.YtakbacfhcllioaaGreatDoor
