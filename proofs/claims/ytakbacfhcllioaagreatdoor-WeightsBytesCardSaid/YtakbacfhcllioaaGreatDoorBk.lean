/- (*builder).back and (*builder).reset. -/
import Derived.Test.YtakbacfhcllioaaGreatDoorRp
namespace Go.Proofs.YtakbacfhcllioaaGreatDoor
open Go.RowKit
attribute [local go_sem ↓] Go.wp_at_zero Go.wp_at_succ

theorem bk_end {base : Nat} {W : World} {bb bo bp : Nat} {o : OM} {b : BM} (t : ByteArray) (hbb : base ≤ bb) (h : IsB W bb bo b) (ho : IsOrd base W bo bp o) :
    ∃ W', W' = W.setCell ⟨bb, 4, none⟩ (.string t) ∧ IsB W' bb bo { b with text := t } ∧ IsOrd base W' bo bp o ∧ Below base W W' := by
  have s1 := setB h 4 (.string t)
  exact ⟨_, rfl, s1.1, ho.turn s1.2, (Below.refl base W).setCell (p := ⟨bb, 4, none⟩) hbb _⟩

set_option maxRecDepth 100000 in
set_option maxHeartbeats 4000000 in
theorem back_plain (base n₀ bb bo bp : Nat) (m : PM) (o : OM) (b : BM) (x : Rule) (t : ByteArray) (w : World) (hst : Std base n₀ bb bo bp m o w) (hs : Small m o)
    (hb : IsB w bb bo b) (hx : (x.text.toList == []) = false) (hnt : NT base bp w x.text t) (h8 : (ptsOf t).length ≤ 8) (hbf : x.before = false) (hf : (findM m o t).2.2 = true) :
    Calls Tryz.prog 146 #[.pointer (some ⟨bb, 0, none⟩), .agg (ruleC x)] w (Built base bb bo bp o { b with text := t } w) := by
  obtain ⟨r, i, hx2, -⟩ := findM_yes hf
  have HF := Lib.hid hx2
  clear hf hx2
  have hne := hnt
  have hbl := hb.lt
  have hB0 : Below w.heap.size w (w.alloc (.cells #[.int .i64 x.kind, .bool x.before, .int .i64 x.anchor, .string x.text, .int .i64 x.level, .string x.extend, .int .i64 x.line] 109)) := (Below.refl _ w).alloc (Nat.le_refl _) _
  have HB0 := Lib.hid hB0
  have HBW := Lib.hid (hB0.mono hst.hb)
  have HST := Lib.hid (hst.fresh hB0)
  have HBB := Lib.hid (hb.below hB0)
  have HR : Hid (IsR (w.alloc (.cells #[.int .i64 x.kind, .bool x.before, .int .i64 x.anchor, .string x.text, .int .i64 x.level, .string x.extend, .int .i64 x.line] 109)) w.heap.size x) := IsR.new x w
  have HNT := Lib.hid hnt
  have HNE := Lib.hid hne
  have HTS := Lib.hid hnt.1
  obtain ⟨r0, r1, r2, r3, r4, r5, r6⟩ := HR.out.cells
  obtain ⟨b0, b1, b2, b3, b4, b5, b6⟩ := HBB.out.cells
  clear hst hb hB0 hnt hne
  unfold ruleC
  clear HNE
  rw [hbf] at r1
  have HBF := Lib.hid hbf
  clear hbf
  go_enter Tryz.func146, Tryz.ntmps146
  go_wp2_with (first
    | (go_at_call 147; (with_reducible refine (piece_any base bb bo bp x.text t _ (HNT.out.below HBW.out) b0 HST.out.ho.ptr h8).mono ?_); rintro e w1 ⟨rfl, hB1⟩; have HB0 := Lib.hid (HB0.out.trans (hB1.mono HB0.out.size)); have HBW := Lib.hid (HBW.out.trans (hB1.mono HST.out.hb)); have HST := Lib.hid (HST.out.fresh hB1); have HBB := Lib.hid (HBB.out.below hB1); have HR := Lib.hid (HR.out.below hB1); obtain ⟨r0, r1, r2, r3, r4, r5, r6⟩ := HR.out.cells; obtain ⟨b0, b1, b2, b3, b4, b5, b6⟩ := HBB.out.cells; clear hB1)
    | (go_at_call 68; (with_reducible refine (HST.out.find hs t HTS.out).mono ?_); rintro e w5 ⟨rfl, hB1⟩; rw [HF.out]; have HBW := Lib.hid (HBW.out.trans (hB1.mono HST.out.hb)); have HST := Lib.hid (HST.out.fresh hB1); have HBB := Lib.hid (HBB.out.below hB1); have HR := Lib.hid (HR.out.below hB1); obtain ⟨r0, r1, r2, r3, r4, r5, r6⟩ := HR.out.cells; obtain ⟨b0, b1, b2, b3, b4, b5, b6⟩ := HBB.out.cells; clear hB1; rw [HBF.out] at r1; obtain ⟨W', hW', e1, e2, e3⟩ := bk_end t HST.out.hbb HBB.out HST.out.ho; have z4 := HBB.out.frozen 4; have HE := Lib.hid (show IsOrd base W' bo bp _ ∧ IsB W' bb bo { b with text := t } ∧ Below base w W' from ⟨e2, e1, HBW.out.trans e3⟩); have HW := Lib.hid hW'; have hr1 : (w5.setCell ⟨bb, 4, none⟩ (.string t)).cell? ⟨w.heap.size, 1, none⟩ = some (.bool false) := (World.cell?_setCell_far _ _ _ _ (by show bb ≠ w.heap.size; omega)).trans r1; clear e1 e2 e3 hW'))
  go_ret
  rw [← HW.out]
  exact ⟨rfl, HE.out⟩
end Go.Proofs.YtakbacfhcllioaaGreatDoor
