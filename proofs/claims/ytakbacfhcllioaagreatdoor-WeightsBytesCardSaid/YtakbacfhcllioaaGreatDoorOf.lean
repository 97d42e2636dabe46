/- points.Of: a text's points. -/
import Derived.Test.YtakbacfhcllioaaGreatDoorU8
import Derived.Lib.OthersKept
import Derived.Lib.Strings
namespace Go.Proofs.YtakbacfhcllioaaGreatDoor
open Go.RowKit Go.PlainAid

theorem run_runes (w : World) (s : ByteArray) (cap : Nat) (hcap : grownCap w (runesF s s.size 0).length 0 21 = cap) :
    (convert 9 27 (.string s)).run Tryz.prog w = .ok (.slice (some ⟨w.heap.size, 0, none⟩) (runesF s s.size 0).length cap)
      (w.drew.alloc (.cells (((runesF s s.size 0).map (Value.int .i32)).toArray ++ Array.replicate (cap - (runesF s s.size 0).length) (.int .i32 0)) 21)) := by
  subst hcap
  have e := runesF_conv s s.size 0 #[]
  rw [Array.empty_append] at e
  simp [convert, run_underlying Tryz.underlying9, run_underlying Tryz.underlying27, run_underlying Tryz.underlying21, Conv.stringToRunes, e, Question.forced, newRow, grownCap]

/-- Does a text begin with the three bytes of U+FFFD? -/
def hasF (t : ByteArray) : Bool := decide (3 ≤ t.size) && ((t.extract 0 3).toList == [239, 191, 189])

set_option maxHeartbeats 1000000 in
theorem hp3_any (t : ByteArray) (ht : t.size ≤ 140737488351232) (w : World) :
    Calls Tryz.prog 45 #[.string t, .string ⟨#[239, 191, 189]⟩] w fun e w' => e = .returned (.bool (hasF t)) ∧ w = w' := by
  by_cases c : 3 ≤ t.size
  · rw [show hasF t = ((t.extract 0 3).toList == [239, 191, 189]) by unfold hasF; simp [c]]
    go_enter Tryz.func45, Tryz.ntmps45
    go_wp2
    go_ret
    exact ⟨rfl, rfl⟩
  · rw [show hasF t = false by unfold hasF; simp [c]]
    go_enter Tryz.func45, Tryz.ntmps45
    go_wp2
    go_ret
    exact ⟨rfl, rfl⟩

theorem below_iterAt {B : Nat} {a w : World} (h : Below B a w) {k : Nat} (hk : B ≤ k) (s : ByteArray) (p : Nat) : Below B a (w.iterAt k s p) :=
  ⟨h.os, h.tape, h.output, by simpa [World.iterAt] using h.size, fun j hj => by
    rw [← h.block j hj]
    show (w.heap.setIfInBounds k _)[j]? = _
    rw [Array.getElem?_setIfInBounds]
    rw [if_neg (by omega)]⟩
theorem iterAt_other (w : World) {k j : Nat} (hj : j ≠ k) (s : ByteArray) (p : Nat) : (w.iterAt k s p).heap[j]? = w.heap[j]? := by
  show (w.heap.setIfInBounds k _)[j]? = _
  rw [Array.getElem?_setIfInBounds, if_neg (fun e => hj e.symm)]
theorem setCell_at {w : World} {g : Nat} {cur : Array Value} {t : TypeId} {fr : Nat × Nat} (hg : w.heap[g]? = some (.cells cur t fr)) (i : Nat) (v : Value) : (w.setCell ⟨g, i, none⟩ v).heap[g]? = some (.cells (cur.setIfInBounds i v) t fr) := by
  rw [setCell_eq_setRow w g i cur t fr v hg]
  exact setRow_heap w g cur _ t fr hg
theorem setCell_other (w : World) {g j : Nat} (hj : j ≠ g) (i : Nat) (v : Value) : (w.setCell ⟨g, i, none⟩ v).heap[j]? = w.heap[j]? := by
  show (w.heap.modify g _)[j]? = _
  rw [Array.getElem?_modify, if_neg (fun e => hj e.symm)]
theorem iterPos_at {w : World} {k : Nat} {s : ByteArray} {p : Nat} (h : w.heap[k]? = some (.stringIter s p)) : w.iterPos k = p := by
  unfold World.iterPos
  rw [h]

theorem byteList (s : ByteArray) : s.toList = s.data.toList := ByteArray.toList_eq s
theorem hasF_iff (s : ByteArray) (i : Nat) (hi : i ≤ s.size) : hasF (s.extract i s.size) = true ↔ isFFFD s i := by
  unfold hasF isFFFD
  have e3 : (s.extract i s.size).size = s.size - i := by simp
  rw [e3]
  by_cases c : 3 ≤ s.size - i
  · have e4 : ((s.extract i s.size).extract 0 3).toList = [s[i]'(by omega), s[i + 1]'(by omega), s[i + 2]'(by omega)] := by
      rw [byteList, Lib.extract_data, Lib.extract_data]
      have hl : s.data.toList.length = s.size := by simp
      have d0 : s.data.toList.drop i = s[i]'(by omega) :: s[i + 1]'(by omega) :: s[i + 2]'(by omega) :: s.data.toList.drop (i + 3) := by
        rw [List.drop_eq_getElem_cons (by omega), List.drop_eq_getElem_cons (by omega), List.drop_eq_getElem_cons (by omega)]
        rfl
      rw [List.drop_zero, List.take_of_length_le (l := s.data.toList.drop i) (by simp), d0]
      rfl
    rw [e4]
    have b0 := get_bt s i (by omega); have b1 := get_bt s (i + 1) (by omega); have b2 := get_bt s (i + 2) (by omega)
    simp only [c, decide_true, Bool.true_and, beq_iff_eq, List.cons.injEq, and_true]
    constructor
    · rintro ⟨h0, h1, h2⟩
      rw [h0] at b0; rw [h1] at b1; rw [h2] at b2
      exact ⟨by omega, by rw [← b0]; rfl, by rw [← b1]; rfl, by rw [← b2]; rfl⟩
    · rintro ⟨_, h0, h1, h2⟩
      exact ⟨UInt8.toNat_inj.1 (by show _ = 239; omega), UInt8.toNat_inj.1 (by show _ = 191; omega), UInt8.toNat_inj.1 (by show _ = 189; omega)⟩
  · simp only [c, decide_false, Bool.false_and]
    constructor
    · intro h; cases h
    · rintro ⟨h, _⟩; omega

set_option maxRecDepth 100000 in
set_option maxHeartbeats 2000000 in
theorem of_any (s : ByteArray) (hs : s.size ≤ 1099511627776) (w : World) :
    Calls Tryz.prog 14 #[.string s] w (GivesL w (ptsOf s)) := by
  obtain ⟨n, hn⟩ : ∃ n, (runesF s s.size 0).length = n := ⟨_, rfl⟩
  obtain ⟨cap, hcap⟩ : ∃ cap, grownCap w n 0 21 = cap := ⟨_, rfl⟩
  have hrun := run_runes w s cap (by rw [hn]; exact hcap)
  rw [hn] at hrun
  have hnc : n ≤ cap := by rw [← hcap]; exact grownCap_ge w n 0 21
  have hnl : n ≤ s.size := by rw [← hn]; exact runesF_len s _ _
  have hcm : cap ≤ maxLen := by rw [← hcap]; exact grownCap_le_maxLen w n 0 21 (by unfold maxLen; omega)
  obtain ⟨cur, hcur⟩ : ∃ cur, ((runesF s s.size 0).map (Value.int .i32)).toArray ++ Array.replicate (cap - n) (.int .i32 0) = cur := ⟨_, rfl⟩
  rw [hcur] at hrun
  have hcs : cur.size = cap := by rw [← hcur]; simp [hn]; omega
  have hct : cur.toList.take n = (runesF s s.size 0).map (Value.int .i32) := by rw [← hcur]; simp [← hn]
  have HN := Lib.hid hn
  have HC := Lib.hid hcs
  have HT := Lib.hid hct
  clear hn hcap hcs hct hcur
  go_enter Tryz.func14, Tryz.ntmps14
  go_wp2_with fail
  obtain ⟨W0, hW0⟩ : ∃ W0, (w.alloc (.cells cur 21)).drew.iter s 0 = W0 := ⟨_, rfl⟩
  have hI0 : W0.heap[w.heap.size + 1]? = some (.stringIter s 0) := by
    rw [← hW0]; have := World.iter_heap (w.alloc (.cells cur 21)).drew s 0; rwa [show (w.alloc (.cells cur 21)).drew.heap.size = w.heap.size + 1 from by show (w.heap.push _).size = _; simp] at this
  have hR0 : W0.heap[w.heap.size]? = some (.cells cur 21 (0, 0)) := by rw [← hW0]; exact hp_old (hp_new w _)
  have hB0 : Below w.heap.size w W0 := by rw [← hW0]; exact ((Below.refl _ w).alloc (Nat.le_refl _) _).drew.alloc (by show w.heap.size ≤ (w.heap.push _).size; simp) _
  rw [hW0]
  clear hW0
  go_loopw [4] (fun o wr => ∃ (f pos : Nat) (P1 : List Int) (cur' : Array Value), o = .int .i64 P1.length ∧ s.size - pos ≤ f ∧ pos ≤ s.size ∧ ptsOf s = P1 ++ ptsF s f pos ∧ wr.heap[w.heap.size]? = some (.cells cur' 21 (0, 0)) ∧ cur'.size = cap ∧
      cur'.toList.take n = (P1 ++ runesF s f pos).map (Value.int .i32) ∧ (P1 ++ runesF s f pos).length = n ∧ wr.heap[w.heap.size + 1]? = some (.stringIter s pos) ∧ Below w.heap.size w wr) (fun _ wr => s.size - wr.iterPos (w.heap.size + 1))
  case atStart => exact ⟨s.size, 0, [], cur, rfl, by omega, by omega, rfl, hR0, HC.out, HT.out, HN.out, hI0, hB0⟩
  case round =>
    obtain ⟨f, pos, P1, cur', rfl, hf, hps, hpt, hrow, hsz, htk, hln, hit, hB⟩ := hrel
    have hip := iterPos_at hit
    by_cases hlt : pos < s.size
    · obtain ⟨f, rfl⟩ : ∃ g, f = g + 1 := ⟨f - 1, by omega⟩
      have hnext := fun ty => Lib.run_next_any_at (P := Tryz.prog) wr (w.heap.size + 1) s pos ty hit hlt
      obtain ⟨wd1, wd2, wd3⟩ := dec_width s pos hlt
      have hpa : ptAt s pos = if (Utf8.decode s pos).1 = 65533 ∧ (Utf8.decode s pos).2 = 1 then 1114112 + bt s pos else ((Utf8.decode s pos).1 : Int) := rfl
      have her := dec_err s pos
      have hrl : runesF s (f + 1) pos = ((Utf8.decode s pos).1 : Int) :: runesF s f (pos + (Utf8.decode s pos).2) := by rw [runesF, if_pos hlt]
      have hpl : ptsF s (f + 1) pos = ptAt s pos :: ptsF s f (pos + (Utf8.decode s pos).2) := by rw [ptsF, if_pos hlt]
      obtain ⟨r, hr⟩ : ∃ r, (Utf8.decode s pos).1 = r := ⟨_, rfl⟩
      obtain ⟨wd, hwd⟩ : ∃ wd, (Utf8.decode s pos).2 = wd := ⟨_, rfl⟩
      have hrle : r ≤ 2147483647 := by rw [← hr]; exact decode_le s pos
      rw [hr] at hpa her hrl
      simp only [hr, hwd] at hnext
      rw [hwd] at hpa her hrl hpl
      rw [hwd] at wd1 wd2 wd3
      rw [hrl] at htk hln
      rw [hpl] at hpt
      have hP1 : P1.length < n := by rw [← hln]; simp
      have HPA := Lib.hid hpa
      have HER := Lib.hid her
      have HPT := Lib.hid hpt
      have HROW := Lib.hid hrow
      have HSZ := Lib.hid hsz
      have HTK := Lib.hid htk
      have HLN := Lib.hid hln
      have HIT := Lib.hid hit
      have HIP := Lib.hid hip
      have hbt := get_bt s
      have hb0 := bt_nonneg s pos
      have hb1 := bt_le s pos
      clear hpa her hpt hrow hsz htk hln hit hr hwd hrl hpl hip
      have hsize : (s.extract pos s.size).size ≤ 140737488351232 := by simp; omega
      by_cases hc : r = 65533
      · subst hc
        rcases HER.out rfl with ⟨rfl, hnf⟩ | ⟨rfl, hif⟩
        · have hF : hasF (s.extract pos s.size) = false := by
            cases h : hasF (s.extract pos s.size)
            · rfl
            · exact absurd ((hasF_iff s pos hps).1 h) hnf
          have hcell : (wr.iterAt (w.heap.size + 1) s (pos + 1)).heap[w.heap.size]? = some (.cells cur' 21 (0, 0)) := (iterAt_other wr (by omega) s _).trans HROW.out
          have hc2 : (wr.iterAt (w.heap.size + 1) s (pos + 1)).cell? ⟨w.heap.size, P1.length, none⟩ = some ((cur'[P1.length]?).getD undef) := by
            rw [cell_at hcell, Array.getElem?_eq_getElem (by have := HSZ.out; omega)]; rfl
          have hfz : (wr.iterAt (w.heap.size + 1) s (pos + 1)).frozen? ⟨w.heap.size, P1.length, none⟩ = false := by
            unfold World.frozen?; rw [hcell]; simp
          have HCL := Lib.hid hcell
          clear hnf hcell
          go_wp2_with (go_at_call 45; refine (hp3_any _ hsize _).mono ?_; rintro e w' ⟨rfl, rfl⟩)
          go_roundw
          case rel =>
            refine ⟨f, pos + 1, P1 ++ [1114112 + bt s pos], cur'.setIfInBounds P1.length (.int .i32 (1114112 + bt s pos)), by simp, by omega, by omega, ?_, setCell_at HCL.out _ _, by simpa using HSZ.out, ?_, by simpa using HLN.out, (setCell_other _ (by omega) _ _).trans (Lib.iterAt_heap wr _ s pos _ HIT.out), (below_iterAt hB (by omega) s _).setCell (Nat.le_refl _) _⟩
            · rw [HPT.out, HPA.out, if_pos (by simp)]; simp
            · rw [Array.toList_setIfInBounds, List.take_set, HTK.out]
              simp [List.set_append_right]
          case measure => rw [iterPos_at ((setCell_other _ (by omega) _ _).trans (Lib.iterAt_heap wr _ s pos (pos + 1) HIT.out)), HIP.out]; omega
        · have hF : hasF (s.extract pos s.size) = true := (hasF_iff s pos hps).2 hif
          clear hif
          go_wp2_with (go_at_call 45; refine (hp3_any _ hsize _).mono ?_; rintro e w' ⟨rfl, rfl⟩)
          go_roundw
          case rel =>
            refine ⟨f, pos + 3, P1 ++ [65533], cur', by simp, by omega, by omega, ?_, (iterAt_other wr (by omega) s _).trans HROW.out, HSZ.out, by simpa using HTK.out, by simpa using HLN.out, Lib.iterAt_heap wr _ s pos _ HIT.out, below_iterAt hB (by omega) s _⟩
            rw [HPT.out, HPA.out, if_neg (by omega)]; simp
          case measure => rw [iterPos_at (Lib.iterAt_heap wr _ s pos (pos + 3) HIT.out), HIP.out]; omega
      · have hc1 : ((r : Int) == 65533) = false := by simp; omega
        go_wp2
        go_roundw
        case rel =>
          refine ⟨f, pos + wd, P1 ++ [(r : Int)], cur', by simp, by omega, by omega, ?_, (iterAt_other wr (by omega) s _).trans HROW.out, HSZ.out, by simpa using HTK.out, by simpa using HLN.out, Lib.iterAt_heap wr _ s pos _ HIT.out, below_iterAt hB (by omega) s _⟩
          rw [HPT.out, HPA.out, if_neg (by omega)]; simp
        case measure => rw [iterPos_at (Lib.iterAt_heap wr _ s pos (pos + wd) HIT.out), HIP.out]; omega
    · have hend := fun ty => Lib.run_next_end_at (P := Tryz.prog) wr (w.heap.size + 1) s pos ty hit hlt
      have e1 : runesF s f pos = [] := by cases f <;> simp [runesF, hlt]
      have e2 : ptsF s f pos = [] := by cases f <;> simp [ptsF, hlt]
      rw [e1, List.append_nil] at htk hln
      rw [e2, List.append_nil] at hpt
      go_wp2
      go_ret
      rw [hpt]
      refine ⟨.slice (some ⟨w.heap.size, 0, none⟩) n cap, rfl, ⟨by simp, .inr ⟨w.heap.size, cap, cur', by rw [hln], Nat.le_refl _, hrow, by omega, hcm, by rw [hsz]; omega, by rw [hln, Nat.mul_one]; exact htk⟩⟩, hB⟩
end Go.Proofs.YtakbacfhcllioaaGreatDoor
