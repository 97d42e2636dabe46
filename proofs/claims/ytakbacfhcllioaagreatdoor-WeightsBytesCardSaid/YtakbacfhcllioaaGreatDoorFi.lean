/- (*Order).Find and (*Order).List. -/
import Derived.Test.YtakbacfhcllioaaGreatDoorBd
namespace Go.Proofs.YtakbacfhcllioaaGreatDoor
open Go.RowKit
attribute [local go_sem ↓] Go.wp_at_zero Go.wp_at_succ

/-- A block of cells that a call made for itself. -/
def IsC (W : World) (b : Nat) (cs : Array Value) (t : TypeId) : Prop := W.heap[b]? = some (.cells cs t (0, 0))
theorem IsC.below {W W' : World} {b : Nat} {cs : Array Value} {t : TypeId} (h : IsC W b cs t) (hB : Below W.heap.size W W') : IsC W' b cs t := (hB.block b (Array.getElem?_eq_some_iff.1 h).1).trans h
theorem IsC.new (W : World) (cs : Array Value) (t : TypeId) : IsC (W.alloc (.cells cs t)) W.heap.size cs t := hp_new W _
theorem IsC.lt {W : World} {b : Nat} {cs : Array Value} {t : TypeId} (h : IsC W b cs t) : b < W.heap.size := (Array.getElem?_eq_some_iff.1 h).1
theorem IsC.cell {W : World} {b : Nat} {cs : Array Value} {t : TypeId} (h : IsC W b cs t) (j : Nat) (v : Value) (hv : cs[j]? = some v) : W.cell? ⟨b, j, none⟩ = some v := by
  unfold IsC at h
  rw [cell_at h]; exact hv
theorem IsC.frozen {W : World} {b : Nat} {cs : Array Value} {t : TypeId} (h : IsC W b cs t) (j : Nat) : W.frozen? ⟨b, j, none⟩ = false := by
  unfold IsC at h
  simp [World.frozen?, h]

set_option maxRecDepth 100000 in
set_option maxHeartbeats 2000000 in
theorem list_any (base n₀ bb bo bp : Nat) (m : PM) (o : OM) (r : Int) (w : World) (hst : Std base n₀ bb bo bp m o w) (hs : Small m o) :
    Calls Tryz.prog 37 #[.pointer (some ⟨bo, 0, none⟩), .int .i32 r] w (GivesSn w (seatsM m o r)) := by
  have H1 := Lib.hid (hst.seats hs r)
  have hl := hs.seats r
  obtain ⟨l, hll⟩ : ∃ l, seatsM m o r = l := ⟨_, rfl⟩
  rw [hll] at H1 hl ⊢
  clear hst hs hll
  go_enter Tryz.func37, Tryz.ntmps37
  go_wp2_with (first
    | (go_at_call 67; (with_reducible refine H1.out.mono ?_); rintro e w1 ⟨v1, rfl, hv1, hB1⟩)
    | (go_at_call 66; (with_reducible refine (clone_s base _ l hl _ hv1).mono ?_); rintro e w2 ⟨v2, rfl, hv2, hB2⟩))
  go_ret
  exact ⟨v2, rfl, own_base hB1.size hv2, hB1.trans (hB2.mono hB1.size)⟩

set_option maxRecDepth 100000 in
set_option maxHeartbeats 2000000 in
theorem find_no (base n₀ bb bo bp : Nat) (m : PM) (o : OM) (s t : ByteArray) (w : World) (hst : Std base n₀ bb bo bp m o w) (hs : Small m o) (hnt : NT base bp w s t) (hf : (findM m o t).2.2 = false) :
    Calls Tryz.prog 39 #[.pointer (some ⟨bo, 0, none⟩), .string s] w fun e w' => e = .returned (.tuple #[.agg #[.string ⟨#[]⟩, .int .i32 0, .int .i64 0, .string ⟨#[]⟩], .int .i64 0, .bool false]) ∧ Below w.heap.size w w' := by
  have hB0 : Below w.heap.size w (w.alloc (.cells #[.string ⟨#[]⟩, .int .i32 0, .int .i64 0, .string ⟨#[]⟩] 62)) := (Below.refl _ w).alloc (Nat.le_refl _) _
  have HB0 := Lib.hid hB0
  have HST := Lib.hid (hst.fresh hB0)
  have b0 := HST.out.ho.ptr
  have HNT := Lib.hid (hnt.2 _ (hB0.mono hst.hb))
  have HTS := Lib.hid hnt.1
  obtain ⟨⟨r, i, ok⟩, hx⟩ : ∃ x, findM m o t = x := ⟨_, rfl⟩
  have hok : ok = false := by rw [hx] at hf; exact hf
  subst hok
  have HX := Lib.hid hx
  have HC := Lib.hid (IsC.new w #[.string ⟨#[]⟩, .int .i32 0, .int .i64 0, .string ⟨#[]⟩] 62)
  clear hst hB0 hnt hf hx
  go_enter Tryz.func39, Tryz.ntmps39
  go_wp2_with (first
    | (go_at_call 69; (with_reducible refine HNT.out.mono ?_); rintro e w1 ⟨rfl, hB1⟩; have HST := Lib.hid (HST.out.fresh hB1); have HC := Lib.hid (HC.out.below hB1); have HB0 := Lib.hid (HB0.out.trans (hB1.mono HB0.out.size)); clear hB1)
    | (go_at_call 68; (with_reducible refine (HST.out.find hs t HTS.out).mono ?_); rintro e w2 ⟨rfl, hB1⟩; rw [HX.out]; have HC := Lib.hid (HC.out.below hB1); have HB0 := Lib.hid (HB0.out.trans (hB1.mono HB0.out.size)); clear hB1; have c0 := HC.out.cell 0 _ rfl; have c1 := HC.out.cell 1 _ rfl; have c2 := HC.out.cell 2 _ rfl; have c3 := HC.out.cell 3 _ rfl; have z0 := HC.out.frozen 0; have z1 := HC.out.frozen 1; have z2 := HC.out.frozen 2; have z3 := HC.out.frozen 3))
  refine bodyPost_ret (v := .tuple #[.agg #[.string ⟨#[]⟩, .int .i32 0, .int .i64 0, .string ⟨#[]⟩], .int .i64 0, .bool false]) (by simp [results, Tryz.results39, go_sem, c0, c1, c2, c3]) rfl ⟨rfl, ?_⟩
  exact (((HB0.out.setCell (p := ⟨w.heap.size, 0, none⟩) (Nat.le_refl _) _).setCell (p := ⟨w.heap.size, 1, none⟩) (Nat.le_refl _) _).setCell (p := ⟨w.heap.size, 2, none⟩) (Nat.le_refl _) _).setCell (p := ⟨w.heap.size, 3, none⟩) (Nat.le_refl _) _

set_option maxRecDepth 100000 in
set_option maxHeartbeats 2000000 in
theorem find_yes (base n₀ bb bo bp : Nat) (m : PM) (o : OM) (s t : ByteArray) (r : Int) (i : Nat) (w : World) (hst : Std base n₀ bb bo bp m o w) (hs : Small m o) (hnt : NT base bp w s t) (hf : findM m o t = (r, (i : Int), true))
    (l : List Seat) (hll : seatsM m o r = l) (hil : i < l.length) :
    Calls Tryz.prog 39 #[.pointer (some ⟨bo, 0, none⟩), .string s] w fun e w' => e = .returned (.tuple #[.agg #[.string l[i].text, .int .i32 l[i].list, .int .i64 l[i].level, .string l[i].ext], .int .i64 i, .bool true]) ∧ Below w.heap.size w w' := by
  have hB0 : Below w.heap.size w (w.alloc (.cells #[.string ⟨#[]⟩, .int .i32 0, .int .i64 0, .string ⟨#[]⟩] 62)) := (Below.refl _ w).alloc (Nat.le_refl _) _
  have HB0 := Lib.hid hB0
  have HST := Lib.hid (hst.fresh hB0)
  have b0 := HST.out.ho.ptr
  have HNT := Lib.hid (hnt.2 _ (hB0.mono hst.hb))
  have HTS := Lib.hid hnt.1
  have HX := Lib.hid hf
  have HLL := Lib.hid hll
  have HC := Lib.hid (IsC.new w #[.string ⟨#[]⟩, .int .i32 0, .int .i64 0, .string ⟨#[]⟩] 62)
  have hi0 : (0 : Int) ≤ (i : Int) := Int.natCast_nonneg _
  have hi1 : (i : Int) < (l.length : Int) := by omega
  obtain ⟨x, hx⟩ : ∃ x, l[i] = x := ⟨_, rfl⟩
  have HXI := Lib.hid hx
  rw [hx]
  clear hst hB0 hnt hf hll hx
  go_enter Tryz.func39, Tryz.ntmps39
  go_wp2_with (first
    | (go_at_call 69; (with_reducible refine HNT.out.mono ?_); rintro e w1 ⟨rfl, hB1⟩; have HST := Lib.hid (HST.out.fresh hB1); have HC := Lib.hid (HC.out.below hB1); have HB0 := Lib.hid (HB0.out.trans (hB1.mono HB0.out.size)); clear hB1)
    | (go_at_call 68; (with_reducible refine (HST.out.find hs t HTS.out).mono ?_); rintro e w2 ⟨rfl, hB1⟩; rw [HX.out]; have HST := Lib.hid (HST.out.fresh hB1); have HC := Lib.hid (HC.out.below hB1); have HB0 := Lib.hid (HB0.out.trans (hB1.mono HB0.out.size)); clear hB1)
    | (go_at_call 67; (with_reducible refine (HST.out.seats hs r).mono ?_); rintro e w3 ⟨v3, rfl, hv3, hB1⟩; rw [HLL.out] at hv3; have HC := Lib.hid (HC.out.below hB1); have HB0 := Lib.hid (HB0.out.trans (hB1.mono HB0.out.size)); clear hB1; obtain ⟨a3, c3, rfl⟩ := own_slice hv3; obtain ⟨g, rfl, -, -, hcl⟩ := hv3.cell hil; rw [HXI.out] at hcl; have e0 : w3.cell? ⟨g, i * 4, none⟩ = some (.string x.text) := hcl 0 _ rfl; have e1 : w3.cell? ⟨g, i * 4 + 1, none⟩ = some (.int .i32 x.list) := hcl 1 _ rfl; have e2 : w3.cell? ⟨g, i * 4 + 2, none⟩ = some (.int .i64 x.level) := hcl 2 _ rfl; have e3 : w3.cell? ⟨g, i * 4 + 3, none⟩ = some (.string x.ext) := hcl 3 _ rfl; clear hcl hv3; have c0 := HC.out.cell 0 _ rfl; have c1 := HC.out.cell 1 _ rfl; have c2 := HC.out.cell 2 _ rfl; have c3 := HC.out.cell 3 _ rfl; have z0 := HC.out.frozen 0; have z1 := HC.out.frozen 1; have z2 := HC.out.frozen 2; have z3 := HC.out.frozen 3))
  refine bodyPost_ret (v := .tuple #[.agg #[.string x.text, .int .i32 x.list, .int .i64 x.level, .string x.ext], .int .i64 i, .bool true]) (by simp [results, Tryz.results39, go_sem, c0, c1, c2, c3]) rfl ⟨rfl, ?_⟩
  exact (((HB0.out.setCell (p := ⟨w.heap.size, 0, none⟩) (Nat.le_refl _) _).setCell (p := ⟨w.heap.size, 1, none⟩) (Nat.le_refl _) _).setCell (p := ⟨w.heap.size, 2, none⟩) (Nat.le_refl _) _).setCell (p := ⟨w.heap.size, 3, none⟩) (Nat.le_refl _) _
end Go.Proofs.YtakbacfhcllioaaGreatDoor
