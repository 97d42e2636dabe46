/- Seats: their cells; Clone and Delete of rows of seats. -/
import Derived.Test.YtakbacfhcllioaaGreatDoorInS
import Derived.Test.YtakbacfhcllioaaGreatDoorBs
import Derived.Lib.SliceRun
namespace Go.Proofs.YtakbacfhcllioaaGreatDoor
open Go.RowKit

structure Seat where
  text : ByteArray
  list : Int
  level : Int
  ext : ByteArray

def seatC (s : Seat) : List Value := [.string s.text, .int .i32 s.list, .int .i64 s.level, .string s.ext]
def seatsC (l : List Seat) : List Value := l.flatMap seatC

theorem seatsC_len (l : List Seat) : (seatsC l).length = l.length * 4 := by
  induction l with
  | nil => rfl
  | cons a l ih => simp [seatsC, seatC] at ih ⊢; omega

theorem seatsC_app (l k : List Seat) : seatsC (l ++ k) = seatsC l ++ seatsC k := by simp [seatsC]

theorem seatsC_one (l : List Seat) : ∀ u ∈ seatsC l, u.oneCell' = true := by
  intro u hu
  obtain ⟨s, _, hs⟩ := List.mem_flatMap.1 hu
  simp [seatC] at hs
  rcases hs with rfl | rfl | rfl | rfl <;> rfl

theorem seatsC_take (l : List Seat) (i : Nat) : (seatsC l).take (i * 4) = seatsC (l.take i) := by
  rw [← List.take_append_drop i l, seatsC_app]
  by_cases h : i ≤ l.length
  · rw [List.take_append_of_le_length (by rw [seatsC_len, List.length_take]; omega), List.take_of_length_le (by rw [seatsC_len, List.length_take]; omega)]
    simp
  · rw [List.take_of_length_le (l := seatsC _ ++ _) (by rw [List.length_append, seatsC_len, seatsC_len, List.length_take, List.length_drop]; omega), List.drop_of_length_le (by omega), List.take_of_length_le (by omega)]
    simp [seatsC, List.take_of_length_le (show l.length ≤ i by omega)]

/-- A row of seats of the call's own. -/
def OwnS (w : World) (base : Nat) (v : Value) (l : List Seat) : Prop := w.ownsRow base 62 4 v l.length (seatsC l)

theorem OwnS.cell {w : World} {base : Nat} {a : Option Addr} {n c : Nat} {l : List Seat} (h : OwnS w base (.slice a n c) l) {k : Nat} (hk : k < l.length) :
    ∃ g, a = some ⟨g, 0, none⟩ ∧ base ≤ g ∧ n = l.length ∧ ∀ j u, (seatC l[k])[j]? = some u → w.cell? ⟨g, k * 4 + j, none⟩ = some u := by
  rcases h.2 with ⟨h, h0⟩ | ⟨g, c', cur, hv, hb, hg, hn, hm, hs, ht⟩
  · omega
  · cases hv
    refine ⟨g, rfl, hb, rfl, fun j u hu => ?_⟩
    have hj : j < 4 := by simpa [seatC] using (List.getElem?_eq_some_iff.1 hu).1
    rw [cell_at hg, ← Array.getElem?_toList]
    have h1 : (seatsC l)[k * 4 + j]? = some u := by
      conv => lhs; rw [← List.take_append_drop k l, seatsC_app]
      rw [List.getElem?_append_right (by rw [seatsC_len, List.length_take]; omega), seatsC_len, List.length_take, Nat.min_eq_left (by omega), Nat.add_sub_cancel_left, List.drop_eq_getElem_cons hk]
      show (seatC l[k] ++ seatsC (l.drop (k + 1)))[j]? = some u
      rw [List.getElem?_append_left (by simpa [seatC] using hj)]
      exact hu
    rw [← ht, List.getElem?_take] at h1
    split at h1
    · exact h1
    · cases h1

def GivesS (w : World) (base : Nat) (s : Value) (l : List Seat) (e : Ending) (w' : World) : Prop := ∃ v', e = .returned v' ∧ OwnS w' base v' l ∧ GF w s w' v'

theorem insS_seat (base : Nat) (s : Value) (l : List Seat) (i : Nat) (hi : i ≤ l.length) (x : Seat) (w : World) (hown : OwnS w base s l) (hb : base ≤ w.heap.size) (hn : l.length ≤ 1099511627776)
    (vb : Nat) (hvg : ∀ k, s.ownBlock = some k → vb ≠ k) (hvb : w.heap[vb]? = some (.cells (seatC x).toArray 62 (0, 0))) :
    Calls Tryz.prog 191 #[s, .int .i64 i, .slice (some ⟨vb, 0, none⟩) 1 1] w (GivesS w base s (l.take i ++ x :: l.drop i)) := by
  have e : l.length = i + (l.length - i) := by omega
  have h := insS_any base s i (l.length - i) (seatsC (l.take i)) (seatsC (l.drop i)) w (by rw [← e, ← seatsC_app, List.take_append_drop]; exact hown)
    (by rw [seatsC_len, List.length_take]; omega) (by rw [seatsC_len, List.length_drop]) hb (by omega) (seatsC_one _) vb hvg (seatC x) rfl hvb (by simp [seatC, Value.oneCell'])
  refine h.mono ?_
  rintro en w' ⟨v', rfl, ho, hg⟩
  refine ⟨v', rfl, ?_, hg⟩
  unfold OwnS
  rw [show (l.take i ++ x :: l.drop i).length = i + (l.length - i) + 1 by rw [List.length_append, List.length_cons, List.length_take, List.length_drop]; omega]
  rw [show seatsC (l.take i ++ x :: l.drop i) = seatsC (l.take i) ++ (seatC x ++ seatsC (l.drop i)) by simp [seatsC]]
  exact ho
end Go.Proofs.YtakbacfhcllioaaGreatDoor
