/- The order of works(): its states, plainly; how great an order's lists get. -/
import Derived.Test.YtakbacfhcllioaaGreatDoorWo
namespace Go.Proofs.YtakbacfhcllioaaGreatDoor
open Go.RowKit

/-- No list is longer than N. -/
structure SmallN (m : PM) (o : OM) (N : Nat) : Prop where
  touched : o.touched.length ≤ N
  lists : ∀ r, ((o.lists r).getD []).length ≤ N
  one : 1 ≤ N
  decomps : ∀ x ∈ m.decomps, x.2.length ≤ 1099511627776
theorem ownL_len (m : PM) (r : Int) : (ownL m r).length ≤ 1 := by unfold ownL; split <;> simp
theorem SmallN.seats {m : PM} {o : OM} {N : Nat} (h : SmallN m o N) (r : Int) : (seatsM m o r).length ≤ N := by
  unfold seatsM
  split
  · exact h.lists r
  · exact Nat.le_trans (ownL_len m r) h.one
theorem SmallN.small {m : PM} {o : OM} {N : Nat} (h : SmallN m o N) (hN : N ≤ 1099511627776) : Small m o :=
  ⟨Nat.le_trans h.touched hN, fun r => Nat.le_trans (h.seats r) hN, h.decomps⟩
theorem insT_len (l : List Int) (r : Int) : (insT l r).length ≤ l.length + 1 := by
  unfold insT
  split
  · omega
  · have := bsI_le l r
    simp
    omega
theorem SmallN.set {m : PM} {o : OM} {N : Nat} (h : SmallN m o N) (r : Int) (l : List Seat) (hl : l.length ≤ N + 1) : SmallN m (setM o r l) (N + 1) := by
  refine ⟨Nat.le_trans (insT_len _ _) (Nat.succ_le_succ h.touched), fun q => ?_, by omega, h.decomps⟩
  show ((putL o.lists r l q).getD []).length ≤ N + 1
  unfold putL upd
  split <;> (by_cases e : q = r) <;> simp [e]
  · exact Nat.le_succ_of_le (h.lists q)
  · exact hl
  · exact Nat.le_succ_of_le (h.lists q)
theorem outL_len (l : List Seat) (i : Nat) : (outL l i).length ≤ l.length := by
  unfold outL
  rw [List.length_append, List.length_take, List.length_drop, levL_len]
  omega
theorem SmallN.mono {m : PM} {o : OM} {N M : Nat} (h : SmallN m o N) (hN : N ≤ M) : SmallN m o M :=
  ⟨Nat.le_trans h.touched hN, fun r => Nat.le_trans (h.lists r) hN, Nat.le_trans h.one hN, h.decomps⟩
theorem SmallN.take {m : PM} {o : OM} {N : Nat} (h : SmallN m o N) (t : ByteArray) : SmallN m (takeM m o t) (N + 1) := by
  unfold takeM
  split
  · next r i heq =>
    have := h.set r (outL (seatsM m o r) i.toNat) (Nat.le_succ_of_le (Nat.le_trans (outL_len _ _) (h.seats r)))
    exact ⟨this.touched, this.lists, this.one, this.decomps⟩
  · exact h.mono (Nat.le_succ N)
theorem SmallN.put {m : PM} {o : OM} {N : Nat} (h : SmallN m o N) (r : Int) (i : Nat) (s : Seat) : SmallN m (putM m o r i s) (N + 1) := by
  have := h.set r ((seatsM m o r).take i ++ { s with list := r } :: (seatsM m o r).drop i) (by
    have := h.seats r
    simp
    omega)
  exact ⟨this.touched, this.lists, this.one, this.decomps⟩

def pm0 : PM := ⟨[], [], [], [], []⟩
def sA : ByteArray := ⟨#[97]⟩
def sB : ByteArray := ⟨#[98]⟩
def sC : ByteArray := ⟨#[99]⟩
def sX : ByteArray := ⟨#[120]⟩
def sE : ByteArray := ⟨#[]⟩
def wk1 : OM := takeM pm0 om0 sB
def wk2 : OM := putM pm0 wk1 97 (placeL (seatsM pm0 wk1 97) 1 1) (newS sB sE 1)
def wk3 : OM := takeM pm0 wk2 sC
def wk4 : OM := putM pm0 wk3 97 (placeL (seatsM pm0 wk3 97) 2 2) (newS sC sE 2)
def wk5 : OM := takeM pm0 wk4 sX
def wk6 : OM := putM pm0 wk5 (-2) (seatsM pm0 wk5 (-2)).length (newS sX sE 3)

theorem small0 : SmallN pm0 om0 1 := ⟨by simp [om0], fun r => by simp [om0], Nat.le_refl _, by simp [pm0]⟩
theorem small1 : SmallN pm0 wk1 2 := small0.take sB
theorem small2 : SmallN pm0 wk2 3 := small1.put _ _ _
theorem small3 : SmallN pm0 wk3 4 := small2.take sC
theorem small4 : SmallN pm0 wk4 5 := small3.put _ _ _
theorem small5 : SmallN pm0 wk5 6 := small4.take sX
theorem small6 : SmallN pm0 wk6 7 := small5.put _ _ _

theorem f0 : findM pm0 om0 sA = (97, 0, true) := by kernel_rfl
theorem f1 : findM pm0 wk1 sA = (97, 0, true) := by kernel_rfl
theorem f2 : findM pm0 wk2 sB = (97, 1, true) := by kernel_rfl
theorem f3 : findM pm0 wk3 sB = (97, 1, true) := by kernel_rfl
theorem f6c : findM pm0 wk6 sC = (97, 2, true) := by kernel_rfl
theorem f6x : findM pm0 wk6 sX = (-2, 0, true) := by kernel_rfl
theorem f6ab : (findM pm0 wk6 ⟨#[97, 98]⟩).2.2 = false := by kernel_rfl
theorem l5 : seatsM pm0 wk5 (-2) = [] := by kernel_rfl
theorem l6c : seatsM pm0 wk6 97 = [⟨sA, 97, 1, sE⟩, ⟨sB, 97, 1, sE⟩, ⟨sC, 97, 2, sE⟩] := by kernel_rfl
theorem l6x : seatsM pm0 wk6 (-2) = [⟨sX, -2, 3, sE⟩] := by kernel_rfl
end Go.Proofs.YtakbacfhcllioaaGreatDoor
