/- (*builder).piece and (*builder).wrongLevel. -/
import Derived.Test.YtakbacfhcllioaaGreatDoorTk
import Derived.Deep.DrawnRows
import Derived.Deep.RegionHeld3
namespace Go.Proofs.YtakbacfhcllioaaGreatDoor
open Go.RowKit
attribute [local go_sem ↓] Go.wp_at_zero Go.wp_at_succ

structure BM where
  begun : Bool
  list : Bool
  number : Int
  text : ByteArray
  head : ByteArray
  ahead : Bool

def bCells (bo : Nat) (b : BM) : Array Value := #[.pointer (some ⟨bo, 0, none⟩), .bool b.begun, .bool b.list, .int .i32 b.number, .string b.text, .string b.head, .bool b.ahead]
/-- A builder lies at bb. -/
def IsB (W : World) (bb bo : Nat) (b : BM) : Prop := W.heap[bb]? = some (.cells (bCells bo b) 194 (0, 0))
theorem IsB.below {W W' : World} {bb bo : Nat} {b : BM} (h : IsB W bb bo b) (hB : Below W.heap.size W W') : IsB W' bb bo b :=
  (hB.block bb (Array.getElem?_eq_some_iff.1 h).1).trans h
theorem IsB.fr {base : Nat} {W W' : World} {bb bo : Nat} {b : BM} (h : IsB W bb bo b) (hF : Fr base W W') : IsB W' bb bo b :=
  (hF.row _ _ _ _ h (by decide) (by decide)).trans h
theorem IsB.cells {W : World} {bb bo : Nat} {b : BM} (h : IsB W bb bo b) :
    W.cell? ⟨bb, 0, none⟩ = some (.pointer (some ⟨bo, 0, none⟩)) ∧ W.cell? ⟨bb, 1, none⟩ = some (.bool b.begun) ∧ W.cell? ⟨bb, 2, none⟩ = some (.bool b.list) ∧ W.cell? ⟨bb, 3, none⟩ = some (.int .i32 b.number) ∧
    W.cell? ⟨bb, 4, none⟩ = some (.string b.text) ∧ W.cell? ⟨bb, 5, none⟩ = some (.string b.head) ∧ W.cell? ⟨bb, 6, none⟩ = some (.bool b.ahead) := by
  unfold IsB at h
  refine ⟨?_, ?_, ?_, ?_, ?_, ?_, ?_⟩ <;> (rw [cell_at h]; rfl)
theorem IsOrd.ptr {base : Nat} {W : World} {bo bp : Nat} {o : OM} (h : IsOrd base W bo bp o) : W.cell? ⟨bo, 0, none⟩ = some (.pointer (some ⟨bp, 0, none⟩)) := by
  obtain ⟨lr, wr, tv, h1, h2, h3, h4, h5, _⟩ := h
  rw [cell_at h5]; rfl

/-- normal.Text of s is t, from w on, whatever turns from base on. -/
def NT (base bp : Nat) (w : World) (s t : ByteArray) : Prop :=
  t.size ≤ 1099511627776 ∧ ∀ W, Below base w W → Calls Tryz.prog 69 #[.pointer (some ⟨bp, 0, none⟩), .string s, .bool false] W fun e w' => e = .returned (.string t) ∧ Below W.heap.size W w'
theorem NT.below {base bp : Nat} {w w1 : World} {s t : ByteArray} (h : NT base bp w s t) (hB : Below base w w1) : NT base bp w1 s t :=
  ⟨h.1, fun W hW => h.2 W (hB.trans hW)⟩

set_option maxRecDepth 100000 in
set_option maxHeartbeats 2000000 in
theorem piece_any (base bb bo bp : Nat) (s t : ByteArray) (w : World) (hnt : NT base bp w s t) (h0 : w.cell? ⟨bb, 0, none⟩ = some (.pointer (some ⟨bo, 0, none⟩))) (h1 : w.cell? ⟨bo, 0, none⟩ = some (.pointer (some ⟨bp, 0, none⟩)))
    (h8 : (ptsOf t).length ≤ 8) :
    Calls Tryz.prog 147 #[.pointer (some ⟨bb, 0, none⟩), .string s] w fun e w' => e = .returned (.tuple #[.string t, .int .i64 0]) ∧ Below w.heap.size w w' := by
  have H1 := Lib.hid (hnt.2 w (Below.refl _ _))
  have H2 : Hid (∀ W, Calls Tryz.prog 14 #[.string t] W fun e w' => ∃ v', e = .returned v' ∧ OwnR w' W.heap.size v' (ptsOf t) ∧ Below W.heap.size W w') := show ∀ W, _ from fun W => of_any t hnt.1 W
  have h9 : ((ptsOf t).length : Int) ≤ 8 := by omega
  clear hnt h8
  go_enter Tryz.func147, Tryz.ntmps147
  go_wp2_with (first
    | (go_at_call 69; refine H1.out.mono ?_; rintro e w1 ⟨rfl, hB1⟩)
    | (go_at_call 14; refine (H2.out _).mono ?_; rintro e w2 ⟨v2, rfl, hv2, hB2⟩; obtain ⟨a2, c2, rfl⟩ := own_slice hv2))
  go_ret2
  exact ⟨rfl, hB1.trans (hB2.mono hB1.size)⟩

/-- Where a list begins to be told of. -/
def lastR (m : PM) (o : OM) (b : BM) : Int := if b.list then b.number else (findM m o b.text).1

set_option maxRecDepth 100000 in
set_option maxHeartbeats 2000000 in
theorem wrong_list (bb bo : Nat) (b : BM) (n : Int) (hl : b.list = true) (ha : b.ahead = false) (hn1 : 1 ≤ n) (hn4 : n ≤ 4) (h2 : n = 1 → b.number ≠ -2) (w : World) (hb : IsB w bb bo b) :
    Calls Tryz.prog 148 #[.pointer (some ⟨bb, 0, none⟩), .int .i64 n] w fun e w' => e = .returned (.bool false) ∧ w = w' := by
  obtain ⟨k0, k1, k2, k3, k4, k5, k6⟩ := hb.cells
  rw [hl] at k2
  rw [ha] at k6
  clear hb hl ha
  by_cases h1 : n = 1
  · have h3 := h2 h1
    subst h1
    have h4 : (b.number == -2) = false := by simpa using h3
    clear h2 h3
    go_enter Tryz.func148, Tryz.ntmps148
    go_wp2
    go_ret
    exact ⟨rfl, rfl⟩
  · have h4 : (n == 1) = false := by simpa using h1
    clear h2 h1
    go_enter Tryz.func148, Tryz.ntmps148
    go_wp2
    go_ret
    exact ⟨rfl, rfl⟩

set_option maxRecDepth 100000 in
set_option maxHeartbeats 2000000 in
theorem wrong_find (bb bo : Nat) (m : PM) (o : OM) (b : BM) (n : Int) (hl : b.list = false) (ha : b.ahead = true → n = 1) (hn1 : 1 ≤ n) (hn4 : n ≤ 4) (h2 : n = 1 → (findM m o b.text).1 ≠ -2) (w : World) (hb : IsB w bb bo b)
    (hfd : ∀ W, Below w.heap.size w W → Calls Tryz.prog 68 #[.pointer (some ⟨bo, 0, none⟩), .string b.text] W (Found m o b.text W)) :
    Calls Tryz.prog 148 #[.pointer (some ⟨bb, 0, none⟩), .int .i64 n] w fun e w' => e = .returned (.bool false) ∧ Below w.heap.size w w' := by
  obtain ⟨k0, k1, k2, k3, k4, k5, k6⟩ := hb.cells
  rw [hl] at k2
  obtain ⟨⟨r, i, ok⟩, hx⟩ : ∃ x, findM m o b.text = x := ⟨_, rfl⟩
  have h2 : n = 1 → r ≠ -2 := by rw [hx] at h2; exact h2
  have HX := Lib.hid hx
  have HFD := Lib.hid hfd
  have HB1 := Lib.hid (Below.refl w.heap.size w).drew
  have HBB := Lib.hid (hb.below (Below.refl w.heap.size w).drew)
  clear hb hl hx hfd
  by_cases ha1 : b.ahead = true
  · have h1 := ha ha1
    have h3 := h2 h1
    rw [ha1] at k6
    subst h1
    have h4 : (r == -2) = false := by simpa using h3
    clear h2 h3 ha ha1
    go_enter Tryz.func148, Tryz.ntmps148
    go_wp2_with (fail)
    go_region_held3 (fun W => W.cell? ⟨bb, 0, none⟩ = some (.pointer (some ⟨bo, 0, none⟩)) ∧ W.cell? ⟨bb, 4, none⟩ = some (.string b.text))
      (first | exact ⟨HB2.out.cells.1, HB2.out.cells.2.2.2.2.1⟩ | exact ⟨HBB.out.cells.1, HBB.out.cells.2.2.2.2.1⟩)
      (first | (go_at_call 68; (with_reducible refine (HFD.out _ HB1.out).mono ?_); rintro e w1 ⟨rfl, hB1⟩; rw [HX.out]; have HB2 := Lib.hid (HBB.out.below hB1); have hB1 := Lib.hid (HB1.out.trans (hB1.mono HB1.out.size))))
    go_wp2
    go_ret
    exact ⟨rfl, hB1.out⟩
  · have ha2 : b.ahead = false := by simpa using ha1
    rw [ha2] at k6
    by_cases h1 : n = 1
    · have h3 := h2 h1
      subst h1
      have h4 : (r == -2) = false := by simpa using h3
      clear h2 h3 ha ha1 ha2
      go_enter Tryz.func148, Tryz.ntmps148
      go_wp2_with (fail)
      go_region_held3 (fun W => W.cell? ⟨bb, 0, none⟩ = some (.pointer (some ⟨bo, 0, none⟩)) ∧ W.cell? ⟨bb, 4, none⟩ = some (.string b.text))
        (first | exact ⟨HB2.out.cells.1, HB2.out.cells.2.2.2.2.1⟩ | exact ⟨HBB.out.cells.1, HBB.out.cells.2.2.2.2.1⟩)
        (first | (go_at_call 68; (with_reducible refine (HFD.out _ HB1.out).mono ?_); rintro e w1 ⟨rfl, hB1⟩; rw [HX.out]; have HB2 := Lib.hid (HBB.out.below hB1); have hB1 := Lib.hid (HB1.out.trans (hB1.mono HB1.out.size))))
      go_wp2
      go_ret
      exact ⟨rfl, hB1.out⟩
    · have h4 : (n == 1) = false := by simpa using h1
      clear h2 h1 ha ha1 ha2
      go_enter Tryz.func148, Tryz.ntmps148
      go_wp2_with (fail)
      go_region_held3 (fun W => W.cell? ⟨bb, 0, none⟩ = some (.pointer (some ⟨bo, 0, none⟩)) ∧ W.cell? ⟨bb, 4, none⟩ = some (.string b.text))
        (first | exact ⟨HB2.out.cells.1, HB2.out.cells.2.2.2.2.1⟩ | exact ⟨HBB.out.cells.1, HBB.out.cells.2.2.2.2.1⟩)
        (first | (go_at_call 68; (with_reducible refine (HFD.out _ HB1.out).mono ?_); rintro e w1 ⟨rfl, hB1⟩; rw [HX.out]; have HB2 := Lib.hid (HBB.out.below hB1); have hB1 := Lib.hid (HB1.out.trans (hB1.mono HB1.out.size))))
      go_wp2
      go_ret
      exact ⟨rfl, hB1.out⟩
end Go.Proofs.YtakbacfhcllioaaGreatDoor
