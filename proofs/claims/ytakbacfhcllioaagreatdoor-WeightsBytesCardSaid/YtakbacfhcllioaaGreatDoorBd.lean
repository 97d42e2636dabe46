/- order.Build: rules one behind the other. -/
import Derived.Test.YtakbacfhcllioaaGreatDoorRs
namespace Go.Proofs.YtakbacfhcllioaaGreatDoor
open Go.RowKit
attribute [local go_sem ↓] Go.wp_at_zero Go.wp_at_succ

def om0 : OM := ⟨[], fun _ => none, fun _ => none⟩
def bm0 : BM := ⟨false, false, 0, ⟨#[]⟩, ⟨#[]⟩, false⟩

def GivesO (w : World) (bp : Nat) (o : OM) (e : Ending) (w' : World) : Prop :=
  ∃ bo, e = .returned (.tuple #[.pointer (some ⟨bo, 0, none⟩), .nilIface]) ∧ IsOrd w.heap.size w' bo bp o ∧ Below w.heap.size w w'

theorem build_start (w : World) (bp : Nat) (rc : Obj) :
    IsOrd w.heap.size (((((w.alloc rc).alloc (.map #[] 0)).alloc (.map #[] 0)).alloc (.cells #[.pointer (some ⟨bp, 0, none⟩), .map (some (w.heap.size + 1)), .slice none 0 0, .map (some (w.heap.size + 1 + 1))] 135)).alloc
      (.cells #[.pointer (some ⟨w.heap.size + 1 + 1 + 1, 0, none⟩), .bool false, .bool false, .int .i32 0, .string ⟨#[]⟩, .string ⟨#[]⟩, .bool false] 194)) (w.heap.size + 1 + 1 + 1) bp om0 ∧
    IsB (((((w.alloc rc).alloc (.map #[] 0)).alloc (.map #[] 0)).alloc (.cells #[.pointer (some ⟨bp, 0, none⟩), .map (some (w.heap.size + 1)), .slice none 0 0, .map (some (w.heap.size + 1 + 1))] 135)).alloc
      (.cells #[.pointer (some ⟨w.heap.size + 1 + 1 + 1, 0, none⟩), .bool false, .bool false, .int .i32 0, .string ⟨#[]⟩, .string ⟨#[]⟩, .bool false] 194)) (w.heap.size + 1 + 1 + 1 + 1) (w.heap.size + 1 + 1 + 1) bm0 ∧
    Below w.heap.size w (((((w.alloc rc).alloc (.map #[] 0)).alloc (.map #[] 0)).alloc (.cells #[.pointer (some ⟨bp, 0, none⟩), .map (some (w.heap.size + 1)), .slice none 0 0, .map (some (w.heap.size + 1 + 1))] 135)).alloc
      (.cells #[.pointer (some ⟨w.heap.size + 1 + 1 + 1, 0, none⟩), .bool false, .bool false, .int .i32 0, .string ⟨#[]⟩, .string ⟨#[]⟩, .bool false] 194)) := by
  obtain ⟨w1, h1⟩ : ∃ w1, w.alloc rc = w1 := ⟨_, rfl⟩
  have z1 : w1.heap.size = w.heap.size + 1 := by rw [← h1]; simp
  rw [h1]
  obtain ⟨w2, h2⟩ : ∃ w2, w1.alloc (.map #[] 0) = w2 := ⟨_, rfl⟩
  have z2 : w2.heap.size = w.heap.size + 1 + 1 := by rw [← h2, World.size_alloc, z1]
  have y2 : w2.heap[w.heap.size + 1]? = some (.map #[] 0) := by rw [← h2, ← z1]; exact hp_new _ _
  rw [h2]
  obtain ⟨w3, h3⟩ : ∃ w3, w2.alloc (.map #[] 0) = w3 := ⟨_, rfl⟩
  have z3 : w3.heap.size = w.heap.size + 1 + 1 + 1 := by rw [← h3, World.size_alloc, z2]
  have y3 : w3.heap[w.heap.size + 1 + 1]? = some (.map #[] 0) := by rw [← h3, ← z2]; exact hp_new _ _
  have y3a : w3.heap[w.heap.size + 1]? = some (.map #[] 0) := by rw [← h3]; exact hp_old y2
  rw [h3]
  obtain ⟨w4, h4⟩ : ∃ w4, w3.alloc (.cells #[.pointer (some ⟨bp, 0, none⟩), .map (some (w.heap.size + 1)), .slice none 0 0, .map (some (w.heap.size + 1 + 1))] 135) = w4 := ⟨_, rfl⟩
  have z4 : w4.heap.size = w.heap.size + 1 + 1 + 1 + 1 := by rw [← h4, World.size_alloc, z3]
  have y4 : w4.heap[w.heap.size + 1 + 1 + 1]? = some (.cells #[.pointer (some ⟨bp, 0, none⟩), .map (some (w.heap.size + 1)), .slice none 0 0, .map (some (w.heap.size + 1 + 1))] 135) := by rw [← h4, ← z3]; exact hp_new _ _
  have y4a : w4.heap[w.heap.size + 1]? = some (.map #[] 0) := by rw [← h4]; exact hp_old y3a
  have y4b : w4.heap[w.heap.size + 1 + 1]? = some (.map #[] 0) := by rw [← h4]; exact hp_old y3
  rw [h4]
  refine ⟨⟨w.heap.size + 1, w.heap.size + 1 + 1, .slice none 0 0, by omega, by omega, by omega, by omega, hp_old y4, ⟨#[], 0, hp_old y4a, Rep.empty⟩, ⟨#[], 0, hp_old y4b, Rep.empty⟩, World.ownsRow_nil _ _ _ _, List.Pairwise.nil⟩, ?_, ?_⟩
  · unfold IsB
    rw [← z4]
    exact hp_new _ _
  · rw [← h4, ← h3, ← h2, ← h1]
    refine (((((Below.refl _ w).alloc (Nat.le_refl _) _).alloc ?_ _).alloc ?_ _).alloc ?_ _).alloc ?_ _ <;> simp <;> omega

theorem Std.built {base n₀ bb bo bp : Nat} {m : PM} {o o' : OM} {b' : BM} {W w' : World} {e : Ending} (h : Std base n₀ bb bo bp m o W) (hb : Built base bb bo bp o' b' W e w') : Std base n₀ bb bo bp m o' w' ∧ IsB w' bb bo b' :=
  ⟨⟨h.hn, Nat.le_trans h.hb hb.2.2.2.size, h.hp.below (hb.2.2.2.mono h.hn), hb.2.1, h.hbb⟩, hb.2.2.1⟩

set_option maxRecDepth 100000 in
set_option maxHeartbeats 4000000 in
theorem build_chain (n₀ bp : Nat) (m : PM) (xs : List Rule) (st : Nat → OM × BM) (ib cap : Nat) (strength : Int) (sh bk : Bool) (va : Option Addr) (vn vc : Nat) (w : World) (hp : IsProps n₀ w bp m) (hn : n₀ ≤ w.heap.size)
    (hs1 : 1 ≤ strength) (hs5 : strength ≤ 5) (hlen : xs.length ≤ 4096) (hib : ib < w.heap.size)
    (hcells : ∀ k (hk : k < xs.length) j v, (ruleC xs[k])[j]? = some v → w.cell? ⟨ib, k * 7 + j, none⟩ = some v)
    (h0 : st 0 = (om0, bm0))
    (hstep : ∀ k (hk : k < xs.length) bb bo W, Below w.heap.size w W → Std w.heap.size n₀ bb bo bp m (st k).1 W → IsB W bb bo (st k).2 →
      ((xs[k].kind == 1) = true ∧ Calls Tryz.prog 102 #[.pointer (some ⟨bb, 0, none⟩), .agg (ruleC xs[k])] W (Built w.heap.size bb bo bp (st (k + 1)).1 (st (k + 1)).2 W)) ∨
      ((xs[k].kind == 1) = false ∧ (xs[k].kind == 2) = true ∧ Calls Tryz.prog 103 #[.pointer (some ⟨bb, 0, none⟩), .agg (ruleC xs[k])] W (Built w.heap.size bb bo bp (st (k + 1)).1 (st (k + 1)).2 W))) :
    Calls Tryz.prog 55 #[.pointer (some ⟨bp, 0, none⟩), .agg #[.int .i64 strength, .bool sh, .bool bk, .slice va vn vc, .slice (some ⟨ib, 0, none⟩) xs.length cap]] w (GivesO w bp (st xs.length).1) := by
  have HC := Lib.hid hcells
  have HS := Lib.hid hstep
  have HP := Lib.hid hp
  have H0 := Lib.hid h0
  have hl1 : (xs.length : Int) ≤ 4096 := by omega
  clear hcells hstep hp h0
  have hmm := @run_makeMap Tryz.prog
  go_enter Tryz.func55, Tryz.ntmps55
  go_wp2_with (fail)
  obtain ⟨q1, q2, q3⟩ := build_start w bp (.cells #[.int .i64 strength, .bool sh, .bool bk, .slice va vn vc, .slice (some ⟨ib, 0, none⟩) xs.length cap] 46)
  have hst0 := Lib.hid (Std.mk (m := m) (bb := w.heap.size + 1 + 1 + 1 + 1) hn q3.size (HP.out.below (q3.mono hn)) q1 (by omega))
  have hb0 := Lib.hid q2
  have hw0 := Lib.hid q3
  clear q1 q2 q3
  go_loopw [38] (fun i wr => ∃ k : Nat, i = .int .i64 k ∧ k ≤ xs.length ∧ Hid (Std w.heap.size n₀ (w.heap.size + 1 + 1 + 1 + 1) (w.heap.size + 1 + 1 + 1) bp m (st k).1 wr ∧ IsB wr (w.heap.size + 1 + 1 + 1 + 1) (w.heap.size + 1 + 1 + 1) (st k).2 ∧ Below w.heap.size w wr)) (fun i _ => xs.length - (intOf i).toNat)
  case atStart => exact ⟨0, by simp, Nat.zero_le _, by rw [H0.out]; exact ⟨hst0.out, hb0.out, hw0.out⟩⟩
  case round =>
    obtain ⟨k, rfl, hk, HI⟩ := hrel
    clear hst0 hb0 hw0
    by_cases hlt : k < xs.length
    · obtain ⟨x, hx⟩ : ∃ x, xs[k] = x := ⟨_, rfl⟩
      have hkl : (k : Int) < (xs.length : Int) := by omega
      have hk0 : (0 : Int) ≤ (k : Int) := Int.natCast_nonneg _
      have hcl : ∀ j v, (ruleC x)[j]? = some v → wr.cell? ⟨ib, k * 7 + j, none⟩ = some v := fun j v hv => (HI.out.2.2.cell (p := ⟨ib, k * 7 + j, none⟩) hib).trans (HC.out k hlt j v (by rw [hx]; exact hv))
      have c0 : wr.cell? ⟨ib, k * 7, none⟩ = some (.int .i64 x.kind) := hcl 0 _ rfl
      have c1 : wr.cell? ⟨ib, k * 7 + 1, none⟩ = some (.bool x.before) := hcl 1 _ rfl
      have c2 : wr.cell? ⟨ib, k * 7 + 2, none⟩ = some (.int .i64 x.anchor) := hcl 2 _ rfl
      have c3 : wr.cell? ⟨ib, k * 7 + 3, none⟩ = some (.string x.text) := hcl 3 _ rfl
      have c4 : wr.cell? ⟨ib, k * 7 + 4, none⟩ = some (.int .i64 x.level) := hcl 4 _ rfl
      have c5 : wr.cell? ⟨ib, k * 7 + 5, none⟩ = some (.string x.extend) := hcl 5 _ rfl
      have c6 : wr.cell? ⟨ib, k * 7 + 6, none⟩ = some (.int .i64 x.line) := hcl 6 _ rfl
      have hBx : Below wr.heap.size wr (wr.alloc (.cells #[.int .i64 x.kind, .bool x.before, .int .i64 x.anchor, .string x.text, .int .i64 x.level, .string x.extend, .int .i64 x.line] 109)) := (Below.refl _ wr).alloc (Nat.le_refl _) _
      have hst1 := Lib.hid (HI.out.1.fresh hBx)
      have hb1 := Lib.hid (HI.out.2.1.below hBx)
      have hbw1 := Lib.hid (HI.out.2.2.trans (hBx.mono HI.out.2.2.size))
      have hcase := HS.out k hlt _ _ _ hbw1.out hst1.out hb1.out
      rw [hx] at hcase
      clear hcl hx hBx
      rcases hcase with ⟨hk1, hcall⟩ | ⟨hk1, hk2, hcall⟩
      · have HCL := Lib.hid hcall
        clear hcall
        unfold ruleC at HCL
        go_wp2_with (first | (go_at_call 102; (with_reducible refine HCL.out.mono ?_); rintro e w2 hbuilt; obtain ⟨hs2, hb2⟩ := hst1.out.built hbuilt; have HN2 := Lib.hid (show _ ∧ _ ∧ Below w.heap.size w w2 from ⟨hs2, hb2, hbw1.out.trans hbuilt.2.2.2⟩); obtain ⟨rfl, -⟩ := hbuilt; clear hs2 hb2))
        go_roundw
        case rel => exact ⟨k + 1, by go_num, by omega, HN2.out⟩
        case measure => simp [intOf]; omega
      · have HCL := Lib.hid hcall
        clear hcall
        unfold ruleC at HCL
        go_wp2_with (first | (go_at_call 103; (with_reducible refine HCL.out.mono ?_); rintro e w2 hbuilt; obtain ⟨hs2, hb2⟩ := hst1.out.built hbuilt; have HN2 := Lib.hid (show _ ∧ _ ∧ Below w.heap.size w w2 from ⟨hs2, hb2, hbw1.out.trans hbuilt.2.2.2⟩); obtain ⟨rfl, -⟩ := hbuilt; clear hs2 hb2))
        go_roundw
        case rel => exact ⟨k + 1, by go_num, by omega, HN2.out⟩
        case measure => simp [intOf]; omega
    · obtain rfl : k = xs.length := by omega
      have c0 := HI.out.2.1.cells.1
      go_wp2_with (fail)
      go_ret2
      exact ⟨_, rfl, HI.out.1.ho, HI.out.2.2⟩
end Go.Proofs.YtakbacfhcllioaaGreatDoor
