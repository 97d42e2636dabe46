/- The order: its model, and what only reads it. -/
import Derived.Test.YtakbacfhcllioaaGreatDoorMp
namespace Go.Proofs.YtakbacfhcllioaaGreatDoor
open Go.RowKit
open Go.MapKept (IsKey)

def intK (k : Int) : Value := .int .i32 k
def strK (s : ByteArray) : Value := .string s
theorem intK_inj : ∀ a b, intK a = intK b → a = b := fun a b h => by cases h; rfl
theorem strK_inj : ∀ a b, strK a = strK b → a = b := fun a b h => by cases h; rfl
theorem intK_key (k : Int) : IsKey (.int .i32) (intK k) := rfl
theorem strK_key (k : ByteArray) : IsKey .string (strK k) := trivial

structure OM where
  touched : List Int
  lists : Int → Option (List Seat)
  whr : ByteArray → Option Int

def seatsM (m : PM) (o : OM) (r : Int) : List Seat := if r ∈ o.touched then (o.lists r).getD [] else ownL m r

def OrdAt (base : Nat) (W : World) (bo bp lr wr : Nat) (tv : Value) (o : OM) : Prop :=
  base ≤ bo ∧ base ≤ lr ∧ base ≤ wr ∧ lr ≠ wr ∧ W.heap[bo]? = some (.cells #[.pointer (some ⟨bp, 0, none⟩), .map (some lr), tv, .map (some wr)] 135 (0, 0)) ∧
  (∃ es c, W.heap[lr]? = some (.map es c) ∧ Rep intK (fun v l => OwnS W base v l) es.toList o.lists) ∧
  (∃ es c, W.heap[wr]? = some (.map es c) ∧ Rep strK (fun v r => v = .int .i32 r) es.toList o.whr) ∧
  OwnR W base tv o.touched ∧ o.touched.Pairwise (· < ·)

/-- An order lies at bo, all that it is made of from base on. -/
def IsOrd (base : Nat) (W : World) (bo bp : Nat) (o : OM) : Prop := ∃ lr wr tv, OrdAt base W bo bp lr wr tv o

/-- Below base nothing turned, nor a row of cells that is neither an order nor a row of runes. -/
structure Fr (base : Nat) (w w' : World) : Prop where
  os : w'.os = w.os
  tape : w'.tape = w.tape
  output : w'.output = w.output
  size : w.heap.size ≤ w'.heap.size
  low : ∀ k, k < base → k < w.heap.size → w'.heap[k]? = w.heap[k]?
  row : ∀ (k : Nat) cs t fz, w.heap[k]? = some (.cells cs t fz) → t ≠ 135 → t ≠ 21 → w'.heap[k]? = w.heap[k]?

theorem Fr.refl (base : Nat) (w : World) : Fr base w w := ⟨rfl, rfl, rfl, Nat.le_refl _, fun _ _ _ => rfl, fun _ _ _ _ _ _ _ => rfl⟩
theorem Fr.trans {base : Nat} {w w1 w2 : World} (h : Fr base w w1) (k : Fr base w1 w2) : Fr base w w2 :=
  ⟨k.os.trans h.os, k.tape.trans h.tape, k.output.trans h.output, Nat.le_trans h.size k.size,
   fun j h1 h2 => (k.low j h1 (Nat.lt_of_lt_of_le h2 h.size)).trans (h.low j h1 h2),
   fun j cs t fz hj h1 h2 => (k.row j cs t fz ((h.row j cs t fz hj h1 h2).trans hj) h1 h2).trans (h.row j cs t fz hj h1 h2)⟩
theorem Fr.fresh {base : Nat} {w w' : World} (h : Below w.heap.size w w') : Fr base w w' :=
  ⟨h.os, h.tape, h.output, h.size, fun k _ h2 => h.block k h2, fun k _cs _t _fz hk _ _ => h.block k (Array.getElem?_eq_some_iff.1 hk).1⟩
theorem Fr.below {base : Nat} {w w' : World} (h : Fr base w w') (hb : base ≤ w.heap.size) : Below base w w' :=
  ⟨h.os, h.tape, h.output, h.size, fun k hk => h.low k hk (by omega)⟩

theorem own_seg {w w' : World} {base : Nat} {e : TypeId} {size : Nat} {v : Value} {n : Nat} {xs : List Value} (h : w.ownsRow base e size v n xs)
    (hk : ∀ (g : Nat) (cur : Array Value), w.heap[g]? = some (Obj.cells cur e (0, 0)) → w'.heap[g]? = w.heap[g]?) : w'.ownsRow base e size v n xs := by
  refine ⟨h.1, ?_⟩
  rcases h.2 with h0 | ⟨g, cap, cur, hv, hb, hg, r⟩
  · exact .inl h0
  · exact .inr ⟨g, cap, cur, hv, hb, (hk g cur hg).trans hg, r⟩
theorem own_base {w : World} {base base' : Nat} {e : TypeId} {size : Nat} {v : Value} {n : Nat} {xs : List Value} (hb : base ≤ base') (h : w.ownsRow base' e size v n xs) : w.ownsRow base e size v n xs := by
  refine ⟨h.1, ?_⟩
  rcases h.2 with h0 | ⟨g, cap, cur, hv, hb', r⟩
  · exact .inl h0
  · exact .inr ⟨g, cap, cur, hv, by omega, r⟩

theorem OwnS.fr {base : Nat} {w w' : World} {v : Value} {l : List Seat} (h : OwnS w base v l) (hf : Fr base w w') : OwnS w' base v l :=
  own_seg h fun g cur hg => hf.row g _ _ _ hg (by decide) (by decide)
theorem OwnS.fresh {base : Nat} {w w' : World} {v : Value} {l : List Seat} (h : OwnS w base v l) (hf : Below w.heap.size w w') : OwnS w' base v l :=
  own_seg h fun g _cur hg => hf.block g (Array.getElem?_eq_some_iff.1 hg).1

theorem OrdAt.fresh {base : Nat} {w w' : World} {bo bp lr wr : Nat} {tv : Value} {o : OM} (h : OrdAt base w bo bp lr wr tv o) (hf : Below w.heap.size w w') : OrdAt base w' bo bp lr wr tv o := by
  obtain ⟨h1, h2, h3, h4, h5, ⟨es1, c1, h6, h7⟩, ⟨es2, c2, h8, h9⟩, h10, h11⟩ := h
  have hin : ∀ {k : Nat} {x : Obj}, w.heap[k]? = some x → w'.heap[k]? = some x := fun {k x} hk => (hf.block k (Array.getElem?_eq_some_iff.1 hk).1).trans hk
  exact ⟨h1, h2, h3, h4, hin h5, ⟨es1, c1, hin h6, h7.mono fun v l hv => OwnS.fresh hv hf⟩, ⟨es2, c2, hin h8, h9⟩, own_seg h10 fun g cur hg => hf.block g (Array.getElem?_eq_some_iff.1 hg).1, h11⟩
theorem IsOrd.fresh {base : Nat} {w w' : World} {bo bp : Nat} {o : OM} (h : IsOrd base w bo bp o) (hf : Below w.heap.size w w') : IsOrd base w' bo bp o := by
  obtain ⟨lr, wr, tv, h⟩ := h
  exact ⟨lr, wr, tv, h.fresh hf⟩

/-- Hands back seats that lie from base on. -/
def SeatsAt (base : Nat) (w : World) (l : List Seat) (e : Ending) (w' : World) : Prop := ∃ v', e = .returned v' ∧ OwnS w' base v' l ∧ Below w.heap.size w w'

set_option maxRecDepth 100000 in
set_option maxHeartbeats 2000000 in
theorem seats_any (base n₀ bo bp : Nat) (m : PM) (hlen : ∀ x ∈ m.decomps, x.2.length ≤ 1099511627776) (o : OM) (ht : o.touched.length ≤ 1099511627776) (r : Int) (w : World) (hn : n₀ ≤ w.heap.size) (hb : base ≤ w.heap.size)
    (hp : IsProps n₀ w bp m) (ho : IsOrd base w bo bp o) :
    Calls Tryz.prog 67 #[.pointer (some ⟨bo, 0, none⟩), .int .i32 r] w (SeatsAt base w (seatsM m o r)) := by
  obtain ⟨lr, wr, tv, h1, h2, h3, h4, h5, ⟨es1, c1, h6, h7⟩, ⟨es2, c2, h8, h9⟩, h10, h11⟩ := ho
  have k0 : w.cell? ⟨bo, 0, none⟩ = some (.pointer (some ⟨bp, 0, none⟩)) := by rw [cell_at h5]; rfl
  have k1 : w.cell? ⟨bo, 1, none⟩ = some (.map (some lr)) := by rw [cell_at h5]; rfl
  have k2 : w.cell? ⟨bo, 2, none⟩ = some tv := by rw [cell_at h5]; rfl
  have HB := Lib.hid (bs_any w.heap.size tv o.touched r w h10.runes h11 ht)
  by_cases hin : r ∈ o.touched
  · have e1 : seatsM m o r = (o.lists r).getD [] := by unfold seatsM; rw [if_pos hin]
    have hd : decide (r ∈ o.touched) = true := by simpa using hin
    rw [hd] at HB
    obtain ⟨v, hv, hrun⟩ : ∃ v, OwnS w base v ((o.lists r).getD []) ∧ (Instr.lookup 132 (.map (some lr)) (.int .i32 r) false).run Tryz.prog w = .ok v w := by
      rcases rep_look (P := Tryz.prog) intK_inj intK_key Tryz.underlying132 Tryz.underlying21 h6 h7 r (.slice none 0 0) (Tryz.zeroValue53 w) with ⟨e2, hr⟩ | ⟨a, v, e2, hv, hr⟩
      · exact ⟨_, by rw [e2]; exact World.ownsRow_nil _ _ _ _, hr false⟩
      · exact ⟨v, by rw [e2]; exact hv, hr false⟩
    rw [e1]
    have HV := Lib.hid hv
    clear h5 h6 h7 h8 h9 h10 h11 hv hd hin e1 hp
    go_enter Tryz.func67, Tryz.ntmps67
    go_wp2_with (go_at_call 114; refine HB.out.mono ?_; rintro e w1 ⟨rfl, rfl⟩)
    go_ret
    exact ⟨v, rfl, HV.out, Below.refl _ _⟩
  · have e1 : seatsM m o r = ownL m r := by unfold seatsM; rw [if_neg hin]
    have hd : decide (r ∈ o.touched) = false := by simpa using hin
    rw [hd] at HB
    rw [e1]
    have HO := Lib.hid (own_any bo bp n₀ m hlen r w hn hp k0)
    clear h5 h6 h7 h8 h9 h10 h11 hd hin e1 hp
    go_enter Tryz.func67, Tryz.ntmps67
    go_wp2_with (first
      | (go_at_call 114; refine HB.out.mono ?_; rintro e w1 ⟨rfl, rfl⟩)
      | (go_at_call 115; refine HO.out.mono ?_; rintro e w1 ⟨v1, rfl, hv1, hB1⟩))
    go_ret
    exact ⟨v1, rfl, own_base hb hv1, hB1⟩
end Go.Proofs.YtakbacfhcllioaaGreatDoor
