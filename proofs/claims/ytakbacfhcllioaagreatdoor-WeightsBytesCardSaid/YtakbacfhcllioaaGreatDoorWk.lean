/- glossarylaw12.works: the chapter's order. -/
import Derived.Test.YtakbacfhcllioaaGreatDoorWf
import Derived.Test.YtakbacfhcllioaaGreatDoorPz
import Derived.Test.YtakbacfhcllioaaGreatDoorBy
import Derived.Test.YtakbacfhcllioaaGreatDoorRd
import Derived.Test.YtakbacfhcllioaaGreatDoorPl
namespace Go.Proofs.YtakbacfhcllioaaGreatDoor
open Go.RowKit
attribute [local go_sem ↓] Go.wp_at_zero Go.wp_at_succ

theorem classP0 (r : Int) : classP pm0 r = 0 := by
  unfold classP
  split
  · rfl
  · rfl

theorem nt_plain {n₀ base bp : Nat} {w : World} (hp : IsProps n₀ w bp pm0) (hn : n₀ ≤ base) (hb : base ≤ w.heap.size) (s : ByteArray) (hs : s.size ≤ 1099511627776) (hd : ∀ c ∈ ptsOf s, decP pm0 c = []) : NT base bp w s s :=
  ⟨hs, fun W hW => ntext0 bp n₀ pm0 (by simp [pm0]) s hs W (by have := hW.size; omega) (hp.below (hW.mono hn)) hd (fun c _ => classP0 c)⟩

def wr0 : Rule := ⟨1, false, 0, sA, 0, sE, 0⟩
def wr1 : Rule := ⟨2, false, 0, sB, 1, sE, 0⟩
def wr2 : Rule := ⟨2, false, 0, sC, 2, sE, 0⟩
def wr3 : Rule := ⟨1, false, 1, sE, 0, sE, 0⟩
def wr4 : Rule := ⟨2, false, 0, sX, 3, sE, 0⟩
def wkRules : List Rule := [wr0, wr1, wr2, wr3, wr4]
theorem tl_ne (s : ByteArray) (h : s.data.toList ≠ []) : (s.toList == []) = false := by rw [byteList, beq_eq_false_iff_ne]; exact h
theorem tl_two (s t : ByteArray) (h : s.data.toList ≠ t.data.toList) : (s.toList == t.toList) = false := by rw [byteList, byteList, beq_eq_false_iff_ne]; exact h
def wkSt : Nat → OM × BM
  | 0 => (om0, bm0)
  | 1 => (om0, ⟨true, false, 0, sA, sE, false⟩)
  | 2 => (wk2, ⟨true, false, 0, sB, sE, false⟩)
  | 3 => (wk4, ⟨true, false, 0, sC, sE, false⟩)
  | 4 => (wk4, ⟨true, true, -2, sE, sE, false⟩)
  | _ => (wk6, ⟨true, false, -2, sX, sE, false⟩)

theorem dA : ∀ c ∈ ptsOf sA, decP pm0 c = [] := by
  rw [show ptsOf sA = [97] by kernel_rfl]; intro c hc; simp at hc; subst hc; rfl
theorem dB : ∀ c ∈ ptsOf sB, decP pm0 c = [] := by
  rw [show ptsOf sB = [98] by kernel_rfl]; intro c hc; simp at hc; subst hc; rfl
theorem dC : ∀ c ∈ ptsOf sC, decP pm0 c = [] := by
  rw [show ptsOf sC = [99] by kernel_rfl]; intro c hc; simp at hc; subst hc; rfl
theorem dX : ∀ c ∈ ptsOf sX, decP pm0 c = [] := by
  rw [show ptsOf sX = [120] by kernel_rfl]; intro c hc; simp at hc; subst hc; rfl
theorem dE : ∀ c ∈ ptsOf sE, decP pm0 c = [] := by
  rw [show ptsOf sE = [] by kernel_rfl]; intro c hc; simp at hc
theorem dAB : ∀ c ∈ ptsOf ⟨#[97, 98]⟩, decP pm0 c = [] := by
  rw [show ptsOf ⟨#[97, 98]⟩ = [97, 98] by kernel_rfl]; intro c hc; simp at hc; rcases hc with rfl | rfl <;> rfl

theorem wk_step {n₀ base bp : Nat} (k : Nat) (hk : k < wkRules.length) (bb bo : Nat) (W : World) (hst : Std base n₀ bb bo bp pm0 (wkSt k).1 W) (hb : IsB W bb bo (wkSt k).2) :
    ((wkRules[k].kind == 1) = true ∧ Calls Tryz.prog 102 #[.pointer (some ⟨bb, 0, none⟩), .agg (ruleC wkRules[k])] W (Built base bb bo bp (wkSt (k + 1)).1 (wkSt (k + 1)).2 W)) ∨
    ((wkRules[k].kind == 1) = false ∧ (wkRules[k].kind == 2) = true ∧ Calls Tryz.prog 103 #[.pointer (some ⟨bb, 0, none⟩), .agg (ruleC wkRules[k])] W (Built base bb bo bp (wkSt (k + 1)).1 (wkSt (k + 1)).2 W)) := by
  have nt : ∀ s : ByteArray, s.size ≤ 1099511627776 → (∀ c ∈ ptsOf s, decP pm0 c = []) → NT base bp W s s := fun s hs hd => nt_plain hst.hp hst.hn hst.hb s hs hd
  match k, hk with
  | 0, _ =>
    refine .inl ⟨rfl, ?_⟩
    exact reset_text base n₀ bb bo bp pm0 om0 bm0 wr0 sA W hst (small0.small (by omega)) hb (tl_ne _ (by decide)) (nt sA (by decide) dA) (by decide) rfl rfl (by rw [f0])
  | 1, _ =>
    refine .inr ⟨rfl, rfl, ?_⟩
    exact rel_plain base n₀ bb bo bp pm0 om0 0 sA sE wr1 sB sE W hst (small0.small (by omega)) (small1.small (by omega)) hb (by decide) (tl_ne _ (by decide)) (nt sB (by decide) dB) (nt sE (by decide) dE) (by decide) (by decide) (by decide) (by decide)
      (by rw [f0]; decide) (tl_two _ _ (by decide)) 97 0 f1
  | 2, _ =>
    refine .inr ⟨rfl, rfl, ?_⟩
    exact rel_plain base n₀ bb bo bp pm0 wk2 0 sB sE wr2 sC sE W hst (small2.small (by omega)) (small3.small (by omega)) hb (by decide) (tl_ne _ (by decide)) (nt sC (by decide) dC) (nt sE (by decide) dE) (by decide) (by decide) (by decide) (by decide)
      (by rw [f2]; decide) (tl_two _ _ (by decide)) 97 1 f3
  | 3, _ =>
    refine .inl ⟨rfl, ?_⟩
    exact reset_ign base n₀ bb bo bp pm0 wk4 ⟨true, false, 0, sC, sE, false⟩ wr3 W hst hb rfl rfl rfl
  | 4, _ =>
    refine .inr ⟨rfl, rfl, ?_⟩
    exact rel_list base n₀ bb bo bp pm0 wk4 (-2) sE sE wr4 sX sE W hst (small4.small (by omega)) (small5.small (by omega)) hb (tl_ne _ (by decide)) (nt sX (by decide) dX) (nt sE (by decide) dE) (by decide) (by decide) (by decide) (by decide)
      (by decide) (.inr (.inl rfl))

theorem wk_cells (w : World) (k : Nat) (hk : k < wkRules.length) (j : Nat) (v : Value) (hv : (ruleC wkRules[k])[j]? = some v) :
    (w.alloc (.cells #[.int .i64 1, .bool false, .int .i64 0, .string ⟨#[97]⟩, .int .i64 0, .string ⟨#[]⟩, .int .i64 0, .int .i64 2, .bool false, .int .i64 0, .string ⟨#[98]⟩, .int .i64 1, .string ⟨#[]⟩, .int .i64 0, .int .i64 2, .bool false, .int .i64 0, .string ⟨#[99]⟩, .int .i64 2, .string ⟨#[]⟩, .int .i64 0, .int .i64 1, .bool false, .int .i64 1, .string ⟨#[]⟩, .int .i64 0, .string ⟨#[]⟩, .int .i64 0, .int .i64 2, .bool false, .int .i64 0, .string ⟨#[120]⟩, .int .i64 3, .string ⟨#[]⟩, .int .i64 0] 109)).cell? ⟨w.heap.size, k * 7 + j, none⟩ = some v := by
  rw [cell_at (hp_new w _)]
  have hj : j < 7 := by have := (Array.getElem?_eq_some_iff.1 hv).1; exact this
  match k, hk, j, hj with
  | 0, _, 0, _ => exact hv
  | 0, _, 1, _ => exact hv
  | 0, _, 2, _ => exact hv
  | 0, _, 3, _ => exact hv
  | 0, _, 4, _ => exact hv
  | 0, _, 5, _ => exact hv
  | 0, _, 6, _ => exact hv
  | 1, _, 0, _ => exact hv
  | 1, _, 1, _ => exact hv
  | 1, _, 2, _ => exact hv
  | 1, _, 3, _ => exact hv
  | 1, _, 4, _ => exact hv
  | 1, _, 5, _ => exact hv
  | 1, _, 6, _ => exact hv
  | 2, _, 0, _ => exact hv
  | 2, _, 1, _ => exact hv
  | 2, _, 2, _ => exact hv
  | 2, _, 3, _ => exact hv
  | 2, _, 4, _ => exact hv
  | 2, _, 5, _ => exact hv
  | 2, _, 6, _ => exact hv
  | 3, _, 0, _ => exact hv
  | 3, _, 1, _ => exact hv
  | 3, _, 2, _ => exact hv
  | 3, _, 3, _ => exact hv
  | 3, _, 4, _ => exact hv
  | 3, _, 5, _ => exact hv
  | 3, _, 6, _ => exact hv
  | 4, _, 0, _ => exact hv
  | 4, _, 1, _ => exact hv
  | 4, _, 2, _ => exact hv
  | 4, _, 3, _ => exact hv
  | 4, _, 4, _ => exact hv
  | 4, _, 5, _ => exact hv
  | 4, _, 6, _ => exact hv

theorem wkC {B n₀ bo bp : Nat} {w : World} (hst : Std B n₀ B bo bp pm0 wk6 w) : Calls Tryz.prog 25 #[.pointer (some ⟨bo, 0, none⟩), .string ⟨#[99]⟩] w fun e w' =>
    e = .returned (.tuple #[.agg #[.int .u64 104857602, .int .u32 33, .int .u32 32], .bool true]) ∧ Below w.heap.size w w' := by
  have h := wof_yes B n₀ B bo bp pm0 wk6 sC sC 97 2 w hst (small6.small (by omega)) (nt_plain hst.hp hst.hn hst.hb sC (by decide) dC) f6c _ l6c (by decide) rfl (by decide) (by omega) (by omega) (by omega)
  rw [show weighM 97 [⟨sA, 97, 1, sE⟩, ⟨sB, 97, 1, sE⟩, ⟨sC, 97, 2, sE⟩] 2 = (104857602, 33, 32) by kernel_rfl] at h
  exact h
theorem wkX {B n₀ bo bp : Nat} {w : World} (hst : Std B n₀ B bo bp pm0 wk6 w) : Calls Tryz.prog 25 #[.pointer (some ⟨bo, 0, none⟩), .string ⟨#[120]⟩] w fun e w' =>
    e = .returned (.tuple #[.agg #[.int .u64 0, .int .u32 0, .int .u32 33], .bool true]) ∧ Below w.heap.size w w' := by
  have h := wof_ign B n₀ B bo bp pm0 wk6 sX sX (-2) 0 w hst (small6.small (by omega)) (nt_plain hst.hp hst.hn hst.hb sX (by decide) dX) f6x _ l6x (by decide) rfl rfl (by omega) (by omega) (by omega)
  rw [show weighM (-2) [⟨sX, -2, 3, sE⟩] 0 = (0, 0, 33) by kernel_rfl] at h
  exact h
theorem wkAB {B n₀ bo bp : Nat} {w : World} (hst : Std B n₀ B bo bp pm0 wk6 w) : Calls Tryz.prog 25 #[.pointer (some ⟨bo, 0, none⟩), .string ⟨#[97, 98]⟩] w fun e w' =>
    e = .returned (.tuple #[.agg #[.int .u64 0, .int .u32 0, .int .u32 0], .bool false]) ∧ Below w.heap.size w w' :=
  wof_no B n₀ B bo bp pm0 wk6 ⟨#[97, 98]⟩ ⟨#[97, 98]⟩ w hst (small6.small (by omega)) (nt_plain hst.hp hst.hn hst.hb ⟨#[97, 98]⟩ (by decide) dAB) f6ab
theorem wkRead (w : World) : Calls Tryz.prog 28 #[.string ⟨#[4, 1, 0]⟩, .int .i64 0] w fun e w' => e = .returned (.tuple #[.int .u64 256, .int .i64 3, .bool true]) ∧ w = w' := by
  have h := read_ok ⟨#[4, 1, 0]⟩ 0 2 (by decide) (by omega) (by kernel_rfl) (by decide) (.inr (by decide)) w
  rw [show beR ⟨#[4, 1, 0]⟩ (0 + 1) 2 = 256 by kernel_rfl] at h
  exact h
theorem wkPlain (w : World) : Calls Tryz.prog 32 #[.int .i32 97] w fun e w' => e = .returned (.agg #[.int .u64 104857601, .int .u32 32, .int .u32 32]) ∧ Below w.heap.size w w' := by
  have h := plain_yes 97 (by unfold noPt; omega) w
  rw [show plainV 97 = .agg #[.int .u64 104857601, .int .u32 32, .int .u32 32] by kernel_rfl] at h
  exact h
theorem wkBytes (w : World) : Calls Tryz.prog 30 #[.int .u64 256] w fun e w' => e = .returned (.string ⟨#[4, 1, 0]⟩) ∧ Below w.heap.size w w' := by
  have h := bytes_any 256 (by omega) (by omega) w
  rw [show strOfNums (encI 256) = ⟨#[4, 1, 0]⟩ by kernel_rfl] at h
  exact h

set_option maxRecDepth 100000 in
set_option maxHeartbeats 4000000 in
theorem works_any (w : World) : Calls Tryz.prog 21 #[] w fun e w' => e = .returned (.bool true) ∧ Below w.heap.size w w' := by
  have H1 := Lib.hid (parse_e w)
  have H2 : Hid (∀ (bp : Nat) (W : World), IsProps W.heap.size W bp pm0 → Calls Tryz.prog 55 #[.pointer (some ⟨bp, 0, none⟩), .agg #[.int .i64 3, .bool false, .bool false, .slice none 0 0, .slice (some ⟨W.heap.size, 0, none⟩) 5 5]] (W.alloc (.cells #[.int .i64 1, .bool false, .int .i64 0, .string ⟨#[97]⟩, .int .i64 0, .string ⟨#[]⟩, .int .i64 0, .int .i64 2, .bool false, .int .i64 0, .string ⟨#[98]⟩, .int .i64 1, .string ⟨#[]⟩, .int .i64 0, .int .i64 2, .bool false, .int .i64 0, .string ⟨#[99]⟩, .int .i64 2, .string ⟨#[]⟩, .int .i64 0, .int .i64 1, .bool false, .int .i64 1, .string ⟨#[]⟩, .int .i64 0, .string ⟨#[]⟩, .int .i64 0, .int .i64 2, .bool false, .int .i64 0, .string ⟨#[120]⟩, .int .i64 3, .string ⟨#[]⟩, .int .i64 0] 109)) (GivesO (W.alloc (.cells #[.int .i64 1, .bool false, .int .i64 0, .string ⟨#[97]⟩, .int .i64 0, .string ⟨#[]⟩, .int .i64 0, .int .i64 2, .bool false, .int .i64 0, .string ⟨#[98]⟩, .int .i64 1, .string ⟨#[]⟩, .int .i64 0, .int .i64 2, .bool false, .int .i64 0, .string ⟨#[99]⟩, .int .i64 2, .string ⟨#[]⟩, .int .i64 0, .int .i64 1, .bool false, .int .i64 1, .string ⟨#[]⟩, .int .i64 0, .string ⟨#[]⟩, .int .i64 0, .int .i64 2, .bool false, .int .i64 0, .string ⟨#[120]⟩, .int .i64 3, .string ⟨#[]⟩, .int .i64 0] 109)) bp wk6)) :=
    show ∀ (bp : Nat) (W : World), _ from fun bp W hp => build_chain W.heap.size bp pm0 wkRules wkSt W.heap.size 5 3 false false none 0 0 _ (hp.below ((Below.refl _ W).alloc (Nat.le_refl _) _)) (by simp) (by omega) (by omega) (by decide) (by simp) (wk_cells W) rfl
      (fun k hk bb bo W2 _ hst hb => wk_step k hk bb bo W2 hst hb)
  go_enter Tryz.func21, Tryz.ntmps21
  go_wp2_with (first
    | (go_at_call 44; refine H1.out.mono ?_; rintro e w1 ⟨⟨bp, rfl, hp⟩, hB1⟩; have hp := Lib.hid hp; have HB := Lib.hid hB1; clear hB1)
    | (go_at_call 55; refine (H2.out bp w1 hp.out).mono ?_; rintro e w2 ⟨bo, rfl, ho, hB2⟩; have hp := Lib.hid (hp.out.below ((Below.refl _ w1).alloc (Nat.le_refl _) (.cells #[.int .i64 1, .bool false, .int .i64 0, .string ⟨#[97]⟩, .int .i64 0, .string ⟨#[]⟩, .int .i64 0, .int .i64 2, .bool false, .int .i64 0, .string ⟨#[98]⟩, .int .i64 1, .string ⟨#[]⟩, .int .i64 0, .int .i64 2, .bool false, .int .i64 0, .string ⟨#[99]⟩, .int .i64 2, .string ⟨#[]⟩, .int .i64 0, .int .i64 1, .bool false, .int .i64 1, .string ⟨#[]⟩, .int .i64 0, .string ⟨#[]⟩, .int .i64 0, .int .i64 2, .bool false, .int .i64 0, .string ⟨#[120]⟩, .int .i64 3, .string ⟨#[]⟩, .int .i64 0] 109) |>.trans (hB2.mono (by simp)))); have HO := Lib.hid ho; have HB := Lib.hid (HB.out.trans (((Below.refl _ w1).alloc (Nat.le_refl _) (.cells #[.int .i64 1, .bool false, .int .i64 0, .string ⟨#[97]⟩, .int .i64 0, .string ⟨#[]⟩, .int .i64 0, .int .i64 2, .bool false, .int .i64 0, .string ⟨#[98]⟩, .int .i64 1, .string ⟨#[]⟩, .int .i64 0, .int .i64 2, .bool false, .int .i64 0, .string ⟨#[99]⟩, .int .i64 2, .string ⟨#[]⟩, .int .i64 0, .int .i64 1, .bool false, .int .i64 1, .string ⟨#[]⟩, .int .i64 0, .string ⟨#[]⟩, .int .i64 0, .int .i64 2, .bool false, .int .i64 0, .string ⟨#[120]⟩, .int .i64 3, .string ⟨#[]⟩, .int .i64 0] 109)).trans (hB2.mono (by simp)) |>.mono HB.out.size)); have hs2 := hB2.size; simp at hs2; have HST := Lib.hid (Std.mk (m := pm0) (bb := w1.heap.size + 1) (Nat.le_succ _) hs2 hp.out (by have h := HO.out; simp at h; exact h) (Nat.le_refl _)); clear ho hB2 hs2)
    | (go_at_call 25; first
        | ((with_reducible refine (wkC HST.out).mono ?_); rintro e w3 ⟨rfl, hB1⟩; have HB := Lib.hid (HB.out.trans (hB1.mono HB.out.size)); have HST := Lib.hid (HST.out.fresh hB1); clear hB1; have HC1 := Lib.hid (IsC.new w3 #[.int .u64 104857602, .int .u32 33, .int .u32 32] 58); have hB1 : Below w3.heap.size w3 (w3.alloc (.cells #[.int .u64 104857602, .int .u32 33, .int .u32 32] 58)) := (Below.refl _ w3).alloc (Nat.le_refl _) _; have HB := Lib.hid (HB.out.trans (hB1.mono HB.out.size)); have HST := Lib.hid (HST.out.fresh hB1); clear hB1)
        | ((with_reducible refine (wkX HST.out).mono ?_); rintro e w4 ⟨rfl, hB1⟩; have HC1 := Lib.hid (HC1.out.below hB1); have HB := Lib.hid (HB.out.trans (hB1.mono HB.out.size)); have HST := Lib.hid (HST.out.fresh hB1); clear hB1; have HC2 := Lib.hid (IsC.new w4 #[.int .u64 0, .int .u32 0, .int .u32 33] 58); have HC1 := Lib.hid (HC1.out.alloc (.cells #[.int .u64 0, .int .u32 0, .int .u32 33] 58)); have hB1 : Below w4.heap.size w4 (w4.alloc (.cells #[.int .u64 0, .int .u32 0, .int .u32 33] 58)) := (Below.refl _ w4).alloc (Nat.le_refl _) _; have HB := Lib.hid (HB.out.trans (hB1.mono HB.out.size)); have HST := Lib.hid (HST.out.fresh hB1); clear hB1)
        | ((with_reducible refine (wkAB HST.out).mono ?_); rintro e w5 ⟨rfl, hB1⟩; have HC1 := Lib.hid (HC1.out.below hB1); have HC2 := Lib.hid (HC2.out.below hB1); have HB := Lib.hid (HB.out.trans (hB1.mono HB.out.size)); have HST := Lib.hid (HST.out.fresh hB1); clear hB1; have HC1 := Lib.hid (HC1.out.alloc (.cells #[.int .u64 0, .int .u32 0, .int .u32 0] 58)); have HC2 := Lib.hid (HC2.out.alloc (.cells #[.int .u64 0, .int .u32 0, .int .u32 0] 58)); have hB1 : Below w5.heap.size w5 (w5.alloc (.cells #[.int .u64 0, .int .u32 0, .int .u32 0] 58)) := (Below.refl _ w5).alloc (Nat.le_refl _) _; have HB := Lib.hid (HB.out.trans (hB1.mono HB.out.size)); have HST := Lib.hid (HST.out.fresh hB1); clear hB1; have a0 := HC1.out.cell 0 _ rfl; have a1 := HC1.out.cell 1 _ rfl; have a2 := HC1.out.cell 2 _ rfl; have b0 := HC2.out.cell 0 _ rfl; have b1 := HC2.out.cell 1 _ rfl; have b2 := HC2.out.cell 2 _ rfl))
    | (go_at_call 28; (with_reducible refine (wkRead _).mono ?_); rintro e w6 ⟨rfl, rfl⟩)
    | (go_at_call 32; (with_reducible refine (wkPlain _).mono ?_); rintro e w7 ⟨rfl, hB1⟩; have HB := Lib.hid (HB.out.trans (hB1.mono HB.out.size)); clear hB1)
    | (go_at_call 30; (with_reducible refine (wkBytes _).mono ?_); rintro e w8 ⟨rfl, hB1⟩; have HB := Lib.hid (HB.out.trans (hB1.mono HB.out.size)); clear hB1))
  go_ret
  exact ⟨rfl, HB.out⟩
end Go.Proofs.YtakbacfhcllioaaGreatDoor
