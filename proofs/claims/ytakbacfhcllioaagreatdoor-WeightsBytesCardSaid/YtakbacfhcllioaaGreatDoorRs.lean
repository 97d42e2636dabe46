/- (*builder).reset. -/
import Derived.Test.YtakbacfhcllioaaGreatDoorBk
namespace Go.Proofs.YtakbacfhcllioaaGreatDoor
open Go.RowKit
attribute [local go_sem ↓] Go.wp_at_zero Go.wp_at_succ

/-- The world behind '*b = builder{..}'. -/
def resetW (w : World) (bb bo : Nat) : World := (((((((w.setCell ⟨bb, 0, none⟩ (.pointer (some ⟨bo, 0, none⟩))).setCell ⟨bb, 1, none⟩ (.bool true)).setCell ⟨bb, 2, none⟩ (.bool false)).setCell ⟨bb, 3, none⟩ (.int .i32 0)).setCell ⟨bb, 4, none⟩ (.string ⟨#[]⟩)).setCell ⟨bb, 5, none⟩ (.string ⟨#[]⟩)).setCell ⟨bb, 6, none⟩ (.bool false))

theorem reset_set {base n₀ bb bo bp : Nat} {m : PM} {o : OM} {w : World} {b : BM} (hst : Std base n₀ bb bo bp m o w) (hb : IsB w bb bo b) :
    Std base n₀ bb bo bp m o (resetW w bb bo) ∧ IsB (resetW w bb bo) bb bo ⟨true, false, 0, ⟨#[]⟩, ⟨#[]⟩, false⟩ ∧ Below base w (resetW w bb bo) := by
  have s0 := setB hb 0 (.pointer (some ⟨bo, 0, none⟩))
  have t0 : IsB _ bb bo b := s0.1
  have s1 := setB t0 1 (.bool true)
  have t1 : IsB _ bb bo ⟨true, b.list, b.number, b.text, b.head, b.ahead⟩ := s1.1
  have s2 := setB t1 2 (.bool false)
  have t2 : IsB _ bb bo ⟨true, false, b.number, b.text, b.head, b.ahead⟩ := s2.1
  have s3 := setB t2 3 (.int .i32 0)
  have t3 : IsB _ bb bo ⟨true, false, 0, b.text, b.head, b.ahead⟩ := s3.1
  have s4 := setB t3 4 (.string ⟨#[]⟩)
  have t4 : IsB _ bb bo ⟨true, false, 0, ⟨#[]⟩, b.head, b.ahead⟩ := s4.1
  have s5 := setB t4 5 (.string ⟨#[]⟩)
  have t5 : IsB _ bb bo ⟨true, false, 0, ⟨#[]⟩, ⟨#[]⟩, b.ahead⟩ := s5.1
  have s6 := setB t5 6 (.bool false)
  have t6 : IsB _ bb bo ⟨true, false, 0, ⟨#[]⟩, ⟨#[]⟩, false⟩ := s6.1
  have hB : Below base w (resetW w bb bo) := (((((((Below.refl base w).setCell (p := ⟨bb, 0, none⟩) hst.hbb _).setCell (p := ⟨bb, 1, none⟩) hst.hbb _).setCell (p := ⟨bb, 2, none⟩) hst.hbb _).setCell (p := ⟨bb, 3, none⟩) hst.hbb _).setCell (p := ⟨bb, 4, none⟩) hst.hbb _).setCell (p := ⟨bb, 5, none⟩) hst.hbb _).setCell (p := ⟨bb, 6, none⟩) hst.hbb _
  exact ⟨⟨hst.hn, Nat.le_trans hst.hb hB.size, hst.hp.below (hB.mono hst.hn), ((((((hst.ho.turn s0.2).turn s1.2).turn s2.2).turn s3.2).turn s4.2).turn s5.2).turn s6.2, hst.hbb⟩, t6, hB⟩

set_option maxRecDepth 100000 in
set_option maxHeartbeats 4000000 in
theorem reset_text (base n₀ bb bo bp : Nat) (m : PM) (o : OM) (b : BM) (x : Rule) (t : ByteArray) (w : World) (hst : Std base n₀ bb bo bp m o w) (hs : Small m o)
    (hb : IsB w bb bo b) (hx : (x.text.toList == []) = false) (hnt : NT base bp w x.text t) (h8 : (ptsOf t).length ≤ 8) (hbf : x.before = false) (han : (x.anchor == 0) = true) (hf : (findM m o t).2.2 = true) :
    Calls Tryz.prog 102 #[.pointer (some ⟨bb, 0, none⟩), .agg (ruleC x)] w (Built base bb bo bp o ⟨true, false, 0, t, ⟨#[]⟩, false⟩ w) := by
  obtain ⟨S1, S2, S3⟩ := reset_set hst hb
  have hBx := (Below.refl (resetW w bb bo).heap.size (resetW w bb bo)).alloc (Nat.le_refl _) (.cells #[.int .i64 x.kind, .bool x.before, .int .i64 x.anchor, .string x.text, .int .i64 x.level, .string x.extend, .int .i64 x.line] 109)
  have HC := Lib.hid (back_plain base n₀ bb bo bp m o ⟨true, false, 0, ⟨#[]⟩, ⟨#[]⟩, false⟩ x t _ (S1.fresh hBx) hs (S2.below hBx) hx (hnt.below (S3.trans (hBx.mono S1.hb))) h8 hbf hf)
  have HBX := Lib.hid (S3.trans (hBx.mono S1.hb))
  unfold resetW ruleC at HC
  unfold resetW at HBX
  clear S1 S2 S3 hBx
  have hne := hnt
  have hbl := hb.lt
  obtain ⟨d0, d1, d2, d3, d4, d5, d6⟩ := hb.cells
  have zf0 := hb.frozen 0
  have zf1 := hb.frozen 1
  have zf2 := hb.frozen 2
  have zf3 := hb.frozen 3
  have zf4 := hb.frozen 4
  have zf5 := hb.frozen 5
  have zf6 := hb.frozen 6
  have HBF := Lib.hid hbf
  have HFN := Lib.hid hf
  clear hbf hf
  have hB0 : Below w.heap.size w (w.alloc (.cells #[.int .i64 x.kind, .bool x.before, .int .i64 x.anchor, .string x.text, .int .i64 x.level, .string x.extend, .int .i64 x.line] 109)) := (Below.refl _ w).alloc (Nat.le_refl _) _
  have HB0 := Lib.hid hB0
  have HBW := Lib.hid (hB0.mono hst.hb)
  have HST := Lib.hid (hst.fresh hB0)
  have HBB := Lib.hid (hb.below hB0)
  have HR : Hid (IsR (w.alloc (.cells #[.int .i64 x.kind, .bool x.before, .int .i64 x.anchor, .string x.text, .int .i64 x.level, .string x.extend, .int .i64 x.line] 109)) w.heap.size x) := IsR.new x w
  have HNT := Lib.hid hnt
  have HNE := Lib.hid hne
  have HTS := Lib.hid hnt.1
  obtain ⟨r0, r1, r2, r3, r4, r5, r6⟩ := HR.out.cells
  obtain ⟨b0, b1, b2, b3, b4, b5, b6⟩ := HBB.out.cells
  clear hst hb hB0 hnt hne
  unfold ruleC
  clear HNE
  go_enter Tryz.func102, Tryz.ntmps102
  go_wp2_with (first | (go_at_call 146; (with_reducible refine HC.out.mono ?_); rintro e w3 ⟨rfl, e1, e2, e3⟩; have HE := Lib.hid (show IsOrd base w3 bo bp _ ∧ IsB w3 bb bo ⟨true, false, 0, t, ⟨#[]⟩, false⟩ ∧ Below base w w3 from ⟨e1, e2, HBX.out.trans e3⟩); clear e1 e2 e3))
  go_ret
  exact ⟨rfl, HE.out⟩

set_option maxRecDepth 100000 in
set_option maxHeartbeats 4000000 in
theorem reset_ign (base n₀ bb bo bp : Nat) (m : PM) (o : OM) (b : BM) (x : Rule) (w : World) (hst : Std base n₀ bb bo bp m o w)
    (hb : IsB w bb bo b) (hbf : x.before = false) (ha0 : (x.anchor == 0) = false) (ha1 : (x.anchor == 1) = true) :
    Calls Tryz.prog 102 #[.pointer (some ⟨bb, 0, none⟩), .agg (ruleC x)] w (Built base bb bo bp o ⟨true, true, -2, ⟨#[]⟩, ⟨#[]⟩, false⟩ w) := by
  have hbl := hb.lt
  obtain ⟨d0, d1, d2, d3, d4, d5, d6⟩ := hb.cells
  have zf0 := hb.frozen 0
  have zf1 := hb.frozen 1
  have zf2 := hb.frozen 2
  have zf3 := hb.frozen 3
  have zf4 := hb.frozen 4
  have zf5 := hb.frozen 5
  have zf6 := hb.frozen 6
  obtain ⟨S1, S2, S3⟩ := reset_set hst hb
  have q1 := setB S2 3 (.int .i32 (-2))
  have q1b : IsB _ bb bo ⟨true, false, -2, ⟨#[]⟩, ⟨#[]⟩, false⟩ := q1.1
  have q2 := setB q1b 2 (.bool true)
  have q2b : IsB _ bb bo ⟨true, true, -2, ⟨#[]⟩, ⟨#[]⟩, false⟩ := q2.1
  have qo := (S1.ho.turn q1.2).turn q2.2
  have qB : Below base w (((resetW w bb bo).setCell ⟨bb, 3, none⟩ (.int .i32 (-2))).setCell ⟨bb, 2, none⟩ (.bool true)) := (S3.setCell (p := ⟨bb, 3, none⟩) hst.hbb _).setCell (p := ⟨bb, 2, none⟩) hst.hbb _
  have hBx := (Below.refl (((resetW w bb bo).setCell ⟨bb, 3, none⟩ (.int .i32 (-2))).setCell ⟨bb, 2, none⟩ (.bool true)).heap.size (((resetW w bb bo).setCell ⟨bb, 3, none⟩ (.int .i32 (-2))).setCell ⟨bb, 2, none⟩ (.bool true))).alloc (Nat.le_refl _) (.cells #[.int .i64 x.kind, .bool false, .int .i64 x.anchor, .string x.text, .int .i64 x.level, .string x.extend, .int .i64 x.line] 109)
  have HE := Lib.hid (show IsOrd base _ bo bp o ∧ IsB _ bb bo ⟨true, true, -2, ⟨#[]⟩, ⟨#[]⟩, false⟩ ∧ Below base w _ from ⟨qo.fresh hBx, q2b.below hBx, qB.trans (hBx.mono (Nat.le_trans hst.hb qB.size))⟩)
  clear S1 S2 S3 q1 q1b q2 q2b qo qB hBx hst hb
  unfold ruleC
  rw [hbf]
  clear hbf
  go_enter Tryz.func102, Tryz.ntmps102
  go_wp2_with (fail)
  go_ret
  exact ⟨rfl, HE.out⟩
end Go.Proofs.YtakbacfhcllioaaGreatDoor
