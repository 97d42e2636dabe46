/- (*builder).relation behind a text. -/
import Derived.Test.YtakbacfhcllioaaGreatDoorRl
import Derived.Deep.QuietTactic
import Derived.BigQuiet
namespace Go.Proofs.YtakbacfhcllioaaGreatDoor
open Go.RowKit
attribute [local go_sem ↓] Go.wp_at_zero Go.wp_at_succ

/-- The place behind those from i on that differ less than a level. -/
def placeL (l : List Seat) (i : Nat) (n : Int) : Nat := i + ((l.drop i).takeWhile (fun s => decide (n < s.level))).length

theorem placeL_at {l : List Seat} {i k : Nat} {n : Int} (h1 : i ≤ k) (h2 : k ≤ l.length) (h3 : ∀ q, (hq : q < l.length) → i ≤ q → q < k → n < l[q].level) (h4 : (h : k < l.length) → ¬ n < l[k].level) : placeL l i n = k := by
  unfold placeL
  have hd : l.drop i = (l.drop i).take (k - i) ++ l.drop k := by
    conv => lhs; rw [← List.take_append_drop (k - i) (l.drop i)]
    rw [List.drop_drop, show i + (k - i) = k by omega]
  have ht : ∀ s ∈ (l.drop i).take (k - i), decide (n < s.level) = true := by
    intro s hs
    obtain ⟨j, hj, rfl⟩ := List.mem_iff_getElem.1 hs
    simp only [List.length_take, List.length_drop] at hj
    simp only [List.getElem_take, List.getElem_drop, decide_eq_true_eq]
    exact h3 (i + j) (by omega) (by omega) (by omega)
  rw [hd, List.takeWhile_append_of_pos ht]
  have hr : (l.drop k).takeWhile (fun s => decide (n < s.level)) = [] := by
    by_cases hk : k < l.length
    · rw [List.drop_eq_getElem_cons hk, List.takeWhile_cons, if_neg (by simpa using h4 hk)]
    · rw [List.drop_of_length_le (by omega)]; rfl
  rw [hr, List.append_nil, List.length_take, List.length_drop]
  omega

theorem below_drewN (W : World) (n : Nat) : Below W.heap.size W (W.drewN n) := ⟨rfl, rfl, rfl, Nat.le_refl _, fun _ _ => rfl⟩

set_option maxRecDepth 100000 in
set_option maxHeartbeats 4000000 in
theorem rel_plain (base n₀ bb bo bp : Nat) (m : PM) (o : OM) (number : Int) (bt bh : ByteArray) (x : Rule) (t ext : ByteArray) (w : World) (hst : Std base n₀ bb bo bp m o w) (hs : Small m o) (hs1 : Small m (takeM m o t))
    (hb : IsB w bb bo ⟨true, false, number, bt, bh, false⟩) (hbt : bt.size ≤ 1099511627776)
    (hx : (x.text.toList == []) = false) (hnt : NT base bp w x.text t) (hne : NT base bp w x.extend ext) (h8 : (ptsOf t).length ≤ 8) (e8 : (ptsOf ext).length ≤ 8)
    (hn1 : 1 ≤ x.level) (hn4 : x.level ≤ 4) (h2 : x.level = 1 → (findM m o bt).1 ≠ -2) (htb : (t.toList == bt.toList) = false) (r : Int) (i : Nat) (hf : findM m (takeM m o t) bt = (r, (i : Int), true)) :
    Calls Tryz.prog 103 #[.pointer (some ⟨bb, 0, none⟩), .agg (ruleC x)] w
      (Built base bb bo bp (putM m (takeM m o t) r (placeL (seatsM m (takeM m o t) r) (i + 1) x.level) (newS t ext x.level)) ⟨true, false, number, t, bh, false⟩ w) := by
  obtain ⟨o1, ho1⟩ : ∃ o1, takeM m o t = o1 := ⟨_, rfl⟩
  rw [ho1] at hs1 hf ⊢
  have HO1 := Lib.hid ho1
  clear ho1
  have HF := Lib.hid hf
  obtain ⟨l, hll⟩ : ∃ l, seatsM m o1 r = l := ⟨_, rfl⟩
  have HLL := Lib.hid hll
  have hl40 : l.length ≤ 1099511627776 := by rw [← hll]; exact hs1.seats r
  have hil : i < l.length := by
    have h0 := hf
    obtain ⟨r', i', h1, h2⟩ := findM_yes (show (findM m o1 bt).2.2 = true by rw [h0])
    rw [h0] at h1
    cases h1
    rw [← hll]; exact h2
  rw [hll]
  clear hll hf
  have hi1 : (0 : Int) ≤ (i : Int) + 1 := by omega
  have hi2 : (i : Int) + 1 ≤ 1099511627777 := by omega
  have hB0 : Below w.heap.size w (w.alloc (.cells #[.int .i64 x.kind, .bool x.before, .int .i64 x.anchor, .string x.text, .int .i64 x.level, .string x.extend, .int .i64 x.line] 109)) := (Below.refl _ w).alloc (Nat.le_refl _) _
  have HB0 := Lib.hid hB0
  have HBW := Lib.hid (hB0.mono hst.hb)
  have HST := Lib.hid (hst.fresh hB0)
  have HBB := Lib.hid (hb.below hB0)
  have HR : Hid (IsR (w.alloc (.cells #[.int .i64 x.kind, .bool x.before, .int .i64 x.anchor, .string x.text, .int .i64 x.level, .string x.extend, .int .i64 x.line] 109)) w.heap.size x) := IsR.new x w
  have HNT := Lib.hid hnt
  have HNE := Lib.hid hne
  have HTS := Lib.hid hnt.1
  obtain ⟨r0, r1, r2, r3, r4, r5, r6⟩ := HR.out.cells
  obtain ⟨b0, b1, b2, b3, b4, b5, b6⟩ := HBB.out.cells
  dsimp only at b0 b1 b2 b3 b4 b5 b6
  clear hst hb hB0 hnt hne
  unfold ruleC
  go_enter Tryz.func103, Tryz.ntmps103
  go_wp2_with (first
    | (go_at_call 147; (with_reducible refine (piece_any base bb bo bp x.text t _ (HNT.out.below HBW.out) b0 HST.out.ho.ptr h8).mono ?_); rintro e w1 ⟨rfl, hB1⟩; have HB0 := Lib.hid (HB0.out.trans (hB1.mono HB0.out.size)); have HBW := Lib.hid (HBW.out.trans (hB1.mono HST.out.hb)); have HST := Lib.hid (HST.out.fresh hB1); have HBB := Lib.hid (HBB.out.below hB1); have HR := Lib.hid (HR.out.below hB1); obtain ⟨r0, r1, r2, r3, r4, r5, r6⟩ := HR.out.cells; obtain ⟨b0, b1, b2, b3, b4, b5, b6⟩ := HBB.out.cells; dsimp only at b0 b1 b2 b3 b4 b5 b6; clear hB1)
    | (go_at_call 147; (with_reducible refine (piece_any base bb bo bp x.extend ext _ (HNE.out.below HBW.out) b0 HST.out.ho.ptr e8).mono ?_); rintro e w1 ⟨rfl, hB1⟩; have HB0 := Lib.hid (HB0.out.trans (hB1.mono HB0.out.size)); have HBW := Lib.hid (HBW.out.trans (hB1.mono HST.out.hb)); have HST := Lib.hid (HST.out.fresh hB1); have HBB := Lib.hid (HBB.out.below hB1); have HR := Lib.hid (HR.out.below hB1); obtain ⟨r0, r1, r2, r3, r4, r5, r6⟩ := HR.out.cells; obtain ⟨b0, b1, b2, b3, b4, b5, b6⟩ := HBB.out.cells; dsimp only at b0 b1 b2 b3 b4 b5 b6; clear hB1)
    | (go_at_call 148; (with_reducible refine (wrong_find bb bo m o ⟨true, false, number, bt, bh, false⟩ x.level rfl (fun q => by cases q) hn1 hn4 h2 _ HBB.out (fun W hW => (HST.out.fresh hW).find hs bt hbt)).mono ?_); rintro e w3 ⟨rfl, hB1⟩; have HBW := Lib.hid (HBW.out.trans (hB1.mono HST.out.hb)); have HST := Lib.hid (HST.out.fresh hB1); have HBB := Lib.hid (HBB.out.below hB1); have HR := Lib.hid (HR.out.below hB1); obtain ⟨r0, r1, r2, r3, r4, r5, r6⟩ := HR.out.cells; obtain ⟨b0, b1, b2, b3, b4, b5, b6⟩ := HBB.out.cells; dsimp only at b0 b1 b2 b3 b4 b5 b6; clear hB1)
    | (go_at_call 149; (with_reducible refine (HST.out.take hs t HTS.out).mono ?_); rintro e w4 ⟨rfl, hO1, hF1⟩; rw [HO1.out] at hO1; have HBW := Lib.hid (outFr HBW.out hF1 HST.out.hb); have HBB := Lib.hid (HBB.out.fr hF1); have HR := Lib.hid (HR.out.fr hF1); have HST := Lib.hid (HST.out.turn hF1 hO1); obtain ⟨r0, r1, r2, r3, r4, r5, r6⟩ := HR.out.cells; obtain ⟨b0, b1, b2, b3, b4, b5, b6⟩ := HBB.out.cells; dsimp only at b0 b1 b2 b3 b4 b5 b6; clear hF1 hO1; have hB1 : Below w4.heap.size w4 (w4.alloc (.cells #[.string t, .int .i32 0, .int .i64 x.level, .string ext] 62)) := (Below.refl _ w4).alloc (Nat.le_refl _) _; have HBW := Lib.hid (HBW.out.trans (hB1.mono HST.out.hb)); have HST := Lib.hid (HST.out.fresh hB1); have HBB := Lib.hid (HBB.out.below hB1); have HR := Lib.hid (HR.out.below hB1); obtain ⟨r0, r1, r2, r3, r4, r5, r6⟩ := HR.out.cells; obtain ⟨b0, b1, b2, b3, b4, b5, b6⟩ := HBB.out.cells; dsimp only at b0 b1 b2 b3 b4 b5 b6; clear hB1; have HSEAT : Hid (BoxS (newS t ext x.level) 0 w4.heap.size (w4.alloc (.cells #[.string t, .int .i32 0, .int .i64 x.level, .string ext] 62))) := BoxS.new (newS t ext x.level) 0 w4; have hB1 : Below (w4.alloc (.cells #[.string t, .int .i32 0, .int .i64 x.level, .string ext] 62)).heap.size (w4.alloc (.cells #[.string t, .int .i32 0, .int .i64 x.level, .string ext] 62)) (w4.alloc (.cells #[.string t, .int .i32 0, .int .i64 x.level, .string ext] 62)).drew := (Below.refl _ _).drew; have HBW := Lib.hid (HBW.out.trans (hB1.mono HST.out.hb)); have HST := Lib.hid (HST.out.fresh hB1); have HBB := Lib.hid (HBB.out.below hB1); have HR := Lib.hid (HR.out.below hB1); obtain ⟨r0, r1, r2, r3, r4, r5, r6⟩ := HR.out.cells; obtain ⟨b0, b1, b2, b3, b4, b5, b6⟩ := HBB.out.cells; dsimp only at b0 b1 b2 b3 b4 b5 b6; clear hB1; have HSEAT := Lib.hid HSEAT.out.drew))
  go_region_held3 (fun W => W.cell? ⟨bb, 0, none⟩ = some (.pointer (some ⟨bo, 0, none⟩)) ∧ W.cell? ⟨bb, 4, none⟩ = some (.string bt))
    (first | exact ⟨HBB.out.cells.1, HBB.out.cells.2.2.2.2.1⟩)
    (first | (go_at_call 68; (with_reducible refine (HST.out.find hs1 bt hbt).mono ?_); rintro e w5 ⟨rfl, hB1⟩; rw [HF.out]; have HSEAT := Lib.hid (HSEAT.out.below hB1); have HBW := Lib.hid (HBW.out.trans (hB1.mono HST.out.hb)); have HST := Lib.hid (HST.out.fresh hB1); have HBB := Lib.hid (HBB.out.below hB1); have HR := Lib.hid (HR.out.below hB1); obtain ⟨r0, r1, r2, r3, r4, r5, r6⟩ := HR.out.cells; obtain ⟨b0, b1, b2, b3, b4, b5, b6⟩ := HBB.out.cells; dsimp only at b0 b1 b2 b3 b4 b5 b6; clear hB1))
  go_wp2_with (first | (go_at_call 67; (with_reducible refine (HST.out.seats hs1 r).mono ?_); rintro e w7 ⟨v7, rfl, hv7, hB1⟩; rw [HLL.out] at hv7; obtain ⟨a7, c7, rfl⟩ := own_slice hv7; obtain ⟨g, rfl, -, -, -⟩ := hv7.cell hil; have hv7 := Lib.hid hv7; have HSEAT := Lib.hid (HSEAT.out.below hB1); have HBW := Lib.hid (HBW.out.trans (hB1.mono HST.out.hb)); have HST := Lib.hid (HST.out.fresh hB1); have HBB := Lib.hid (HBB.out.below hB1); have HR := Lib.hid (HR.out.below hB1); obtain ⟨r0, r1, r2, r3, r4, r5, r6⟩ := HR.out.cells; obtain ⟨b0, b1, b2, b3, b4, b5, b6⟩ := HBB.out.cells; dsimp only at b0 b1 b2 b3 b4 b5 b6; clear hB1))
  have hgl : g < w7.heap.size := own_lt hv7.out g rfl
  go_loopw [15] (fun j wr => Hid (Below w7.heap.size w7 wr) ∧ ∃ k : Nat, j = .int .i64 k ∧ i + 1 ≤ k ∧ k ≤ l.length ∧ Hid (∀ q, (hq : q < l.length) → i + 1 ≤ q → q < k → x.level < l[q].level)) (fun j _ => l.length - (intOf j).toNat)
  case atStart => exact ⟨Below.refl _ _, i + 1, by go_num, Nat.le_refl _, hil, fun q hq h1 h2 => absurd h1 (by omega)⟩
  case round =>
    obtain ⟨HB, k, rfl, hk1, hk2, HN⟩ := hrel
    have hB1 := HB.out
    have HSEAT := Lib.hid (HSEAT.out.below hB1)
    have HBW := Lib.hid (HBW.out.trans (hB1.mono HST.out.hb)); have HST := Lib.hid (HST.out.fresh hB1); have HBB := Lib.hid (HBB.out.below hB1); have HR := Lib.hid (HR.out.below hB1); obtain ⟨r0, r1, r2, r3, r4, r5, r6⟩ := HR.out.cells; obtain ⟨b0, b1, b2, b3, b4, b5, b6⟩ := HBB.out.cells; dsimp only at b0 b1 b2 b3 b4 b5 b6; clear hB1
    have HPI : k = placeL l (i + 1) x.level → k ≤ (seatsM m o1 r).length := fun _ => by rw [HLL.out]; exact hk2
    by_cases hlt : k < l.length
    · obtain ⟨s, hs⟩ : ∃ s, l[k] = s := ⟨_, rfl⟩
      obtain ⟨g', e', hb', hn', hcells⟩ := hv7.out.cell hlt
      cases e'
      rw [hs] at hcells
      have c2 : wr.cell? ⟨g, k * 4 + 2, none⟩ = some (.int .i64 s.level) := (HB.out.cell (p := ⟨g, k * 4 + 2, none⟩) hgl).trans (hcells 2 _ rfl)
      have hki : (k : Int) < (l.length : Int) := by omega
      have hk0 : (0 : Int) ≤ (k : Int) := Int.natCast_nonneg _
      clear hcells
      by_cases hx : x.level < s.level
      · go_wp2_with (fail)
        go_quiet (fail)
        go_wp2_with (fail)
        go_roundw
        case rel =>
          refine ⟨HB.out.trans (below_drewN wr _ |>.mono HB.out.size), k + 1, by go_num, by omega, by omega, fun q hq h1 h2 => ?_⟩
          by_cases c : q = k
          · subst c; rw [hs]; exact hx
          · exact HN.out q hq h1 (by omega)
        case measure => simp [intOf]; omega
      · have hkp : placeL l (i + 1) x.level = k := placeL_at hk1 hk2 HN.out (fun _ => by rw [hs]; exact hx)
        have HPK := Lib.hid (HPI hkp.symm)
        have HKP := Lib.hid hkp
        clear hkp HPI
        have hx : decide (x.level < s.level) = false := by simpa using hx
        go_wp2_with (fail)
        go_quiet (fail)
        clear c2 hki hk0
        go_wp2_with (fail)
        go_region_held3 (fun W => W.cell? ⟨bb, 0, none⟩ = some (.pointer (some ⟨bo, 0, none⟩)) ∧ W.cell? ⟨w4.heap.size, 0, none⟩ = some (.string t) ∧ W.cell? ⟨w4.heap.size, 1, none⟩ = some (.int .i32 0) ∧ W.cell? ⟨w4.heap.size, 2, none⟩ = some (.int .i64 x.level) ∧ W.cell? ⟨w4.heap.size, 3, none⟩ = some (.string ext))
          (first | exact ⟨HBB.out.cells.1, HSEAT.out.cells⟩)
          (first | (go_at_call 150; (with_reducible refine ((HST.out.fresh (below_drewN wr _)).putN hs1 r k t ext x.level HPK.out).mono ?_); rintro e w6 ⟨rfl, hO1, hF1⟩; have hF1 := (Fr.fresh (base := base) (below_drewN wr _)).trans hF1; have HSEAT := Lib.hid (HSEAT.out.fr hF1); have HBW := Lib.hid (outFr HBW.out hF1 HST.out.hb); have HBB := Lib.hid (HBB.out.fr hF1); have HR := Lib.hid (HR.out.fr hF1); have HST := Lib.hid (HST.out.turn hF1 hO1); obtain ⟨r0, r1, r2, r3, r4, r5, r6⟩ := HR.out.cells; obtain ⟨b0, b1, b2, b3, b4, b5, b6⟩ := HBB.out.cells; dsimp only at b0 b1 b2 b3 b4 b5 b6; clear hF1 hO1))
        obtain ⟨W', hW', e1, e2, e3⟩ := rel_end (b := ⟨true, false, number, bt, bh, false⟩) t HST.out.hbb HBB.out HST.out.ho
        have z4 := HBB.out.frozen 4
        have z2 := HBB.out.frozen 2
        have z6 := HBB.out.frozen 6
        have HE := Lib.hid (show IsOrd base W' bo bp _ ∧ IsB W' bb bo ⟨true, false, number, t, bh, false⟩ ∧ Below base w W' from ⟨e2, e1, HBW.out.trans e3⟩)
        have HW := Lib.hid hW'
        clear e1 e2 e3 hW'
        go_wp2
        go_ret
        rw [← HW.out, HKP.out]
        exact ⟨rfl, HE.out⟩
    · have hkp : placeL l (i + 1) x.level = k := placeL_at hk1 hk2 HN.out (fun h => absurd h hlt)
      have HPK := Lib.hid (HPI hkp.symm)
      have HKP := Lib.hid hkp
      clear hkp HPI
      have hx : (l.length : Int) ≤ (k : Int) := by omega
      go_wp2_with (fail)
      go_quiet (fail)
      go_wp2_with (fail)
      go_region_held3 (fun W => W.cell? ⟨bb, 0, none⟩ = some (.pointer (some ⟨bo, 0, none⟩)) ∧ W.cell? ⟨w4.heap.size, 0, none⟩ = some (.string t) ∧ W.cell? ⟨w4.heap.size, 1, none⟩ = some (.int .i32 0) ∧ W.cell? ⟨w4.heap.size, 2, none⟩ = some (.int .i64 x.level) ∧ W.cell? ⟨w4.heap.size, 3, none⟩ = some (.string ext))
        (first | exact ⟨HBB.out.cells.1, HSEAT.out.cells⟩)
        (first | (go_at_call 150; (with_reducible refine ((HST.out.fresh (below_drewN wr _)).putN hs1 r k t ext x.level HPK.out).mono ?_); rintro e w6 ⟨rfl, hO1, hF1⟩; have hF1 := (Fr.fresh (base := base) (below_drewN wr _)).trans hF1; have HSEAT := Lib.hid (HSEAT.out.fr hF1); have HBW := Lib.hid (outFr HBW.out hF1 HST.out.hb); have HBB := Lib.hid (HBB.out.fr hF1); have HR := Lib.hid (HR.out.fr hF1); have HST := Lib.hid (HST.out.turn hF1 hO1); obtain ⟨r0, r1, r2, r3, r4, r5, r6⟩ := HR.out.cells; obtain ⟨b0, b1, b2, b3, b4, b5, b6⟩ := HBB.out.cells; dsimp only at b0 b1 b2 b3 b4 b5 b6; clear hF1 hO1))
      obtain ⟨W', hW', e1, e2, e3⟩ := rel_end (b := ⟨true, false, number, bt, bh, false⟩) t HST.out.hbb HBB.out HST.out.ho
      have z4 := HBB.out.frozen 4
      have z2 := HBB.out.frozen 2
      have z6 := HBB.out.frozen 6
      have HE := Lib.hid (show IsOrd base W' bo bp _ ∧ IsB W' bb bo ⟨true, false, number, t, bh, false⟩ ∧ Below base w W' from ⟨e2, e1, HBW.out.trans e3⟩)
      have HW := Lib.hid hW'
      clear e1 e2 e3 hW'
      go_wp2
      go_ret
      rw [← HW.out, HKP.out]
      exact ⟨rfl, HE.out⟩
end Go.Proofs.YtakbacfhcllioaaGreatDoor
