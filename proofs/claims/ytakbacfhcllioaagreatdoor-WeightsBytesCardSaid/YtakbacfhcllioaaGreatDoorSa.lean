/- slices.Backward over rows of properties, and props.said. -/
import Derived.RangeFuncNested
import Derived.RangeFuncBound
import Derived.RangeFuncCalls
import Derived.RangeFuncLeaves
import Derived.RangeFuncBox
import Derived.Shelf.Abstract
import Derived.Shelf.RegionOpen
import Derived.WalkKit
import Derived.OwnWalkIn
import Derived.TacticsInMore
import Derived.LoopNIn
import Derived.LoopIn
import Derived.Outline
import Derived.Test.YtakbacfhcllioaaGreatDoorK
namespace Go.Proofs.YtakbacfhcllioaaGreatDoor
open Go.RowKit Go.Shelf
attribute [local go_sem] Oper.semAt_some

def upto {α : Type} (f : Nat → α) (k : Nat) : List α := (List.range k).map f
theorem upto_succ {α : Type} (f : Nat → α) (k : Nat) : upto f (k + 1) = upto f k ++ [f k] := by simp [upto, List.range_succ]
theorem upto_length {α : Type} (f : Nat → α) (k : Nat) : (upto f k).length = k := by simp [upto]

/-- A row of properties: from, to, what is said. -/
abbrev Row3 := Int × Int × Int
/-- A slice that reads as rows; its block lies below n₀. -/
def Rows3 (n₀ : Nat) (W : World) (v : Value) (l : List Row3) : Prop :=
  (v = .slice none 0 0 ∧ l = []) ∨ ∃ b cap, v = .slice (some ⟨b, 0, none⟩) l.length cap ∧ b < n₀ ∧
    ∀ j, j < l.length → W.cell? ⟨b, j * 3, none⟩ = some (.int .i32 (l[j]?.getD (0, 0, 0)).1) ∧ W.cell? ⟨b, j * 3 + 1, none⟩ = some (.int .i32 (l[j]?.getD (0, 0, 0)).2.1) ∧ W.cell? ⟨b, j * 3 + 2, none⟩ = some (.int .i64 (l[j]?.getD (0, 0, 0)).2.2)
theorem Rows3.mono {n₀ n₁ : Nat} {A : World} (h : n₀ ≤ n₁) {v : Value} {l : List Row3} : Rows3 n₀ A v l → Rows3 n₁ A v l := by
  rintro (h0 | ⟨b, cap, hv, hb, hc⟩)
  · exact .inl h0
  · exact .inr ⟨b, cap, hv, by omega, hc⟩
theorem Rows3.below {n₀ : Nat} {A B : World} (h : Below n₀ A B) {v : Value} {l : List Row3} : Rows3 n₀ A v l → Rows3 n₀ B v l := by
  rintro (h0 | ⟨b, cap, hv, hb, hc⟩)
  · exact .inl h0
  · exact .inr ⟨b, cap, hv, hb, fun j hj => ⟨(h.cell (p := ⟨b, j * 3, none⟩) hb).trans (hc j hj).1, (h.cell (p := ⟨b, j * 3 + 1, none⟩) hb).trans (hc j hj).2.1, (h.cell (p := ⟨b, j * 3 + 2, none⟩) hb).trans (hc j hj).2.2⟩⟩

/-- The r-th that comes from behind. -/
def backAt (l : List Row3) (r : Nat) : Nat × Row3 := (l.length - 1 - r, l[l.length - 1 - r]?.getD (0, 0, 0))
def encB (x : Nat × Row3) : Array Value := #[.int .i64 (x.1 : Int), .agg #[.int .i32 x.2.1, .int .i32 x.2.2.1, .int .i64 x.2.2.2]]

set_option maxRecDepth 100000 in
set_option maxHeartbeats 2000000 in
theorem back1_in (F : Fence) (n : Nat) (h8 : F.fn 139) (hro : F.round = none) (hn : 1 ≤ n) (l Bs n₀ b cap : Nat) (zs : List Row3) (hreach : zs.length ≤ 4611686018427387904) (hb : b < n₀) (J Jx : List (Nat × Row3) → World → Prop)
    (hY : ∀ pre x W, J pre W → pre.length < zs.length → YieldAt F (n - 1) Tryz.prog l (encB x) W fun e W' =>
      (e = .returned (.bool true) ∧ J (pre ++ [x]) W' ∧ Below n₀ W W') ∨ (e = .returned (.bool false) ∧ Jx (pre ++ [x]) W'))
    (W : World) (hBs : W.cell? ⟨Bs, 0, none⟩ = some (.slice (some ⟨b, 0, none⟩) zs.length cap)) (hBn : Bs < n₀)
    (hc : ∀ j, j < zs.length → W.cell? ⟨b, j * 3, none⟩ = some (.int .i32 (zs[j]?.getD (0, 0, 0)).1) ∧ W.cell? ⟨b, j * 3 + 1, none⟩ = some (.int .i32 (zs[j]?.getD (0, 0, 0)).2.1) ∧ W.cell? ⟨b, j * 3 + 2, none⟩ = some (.int .i64 (zs[j]?.getD (0, 0, 0)).2.2)) (h0 : J [] W) :
    CallsIn F n Tryz.prog 139 #[.func (.yield l) #[] #[], .pointer (some ⟨Bs, 0, none⟩)] W fun e W' => (∃ v, e = .returned v) ∧
      ((∃ ys, ys = upto (backAt zs) zs.length ∧ J ys W') ∨ (∃ pre, (∃ k, k ≤ zs.length ∧ pre = upto (backAt zs) k) ∧ Jx pre W')) := by
  refine callsIn_of_wp Tryz.func139 rfl h8 ?_ hro
  simp only [Tryz.ntmps139, List.size_toArray, List.length_cons, List.length_nil, Nat.reduceAdd, Nat.reduceSub, Array.replicate_succ, Array.replicate_zero, List.push_toArray, List.append_toArray, List.nil_append, List.cons_append]
  gi_wp2
  gi_loopw [3] (fun i wr => ∃ k : Nat, k ≤ zs.length ∧ i = .int .i64 ((zs.length : Int) - 1 - k) ∧ J (upto (backAt zs) k) wr ∧ Below n₀ W wr)
    (fun i _ => (intOf i + 1).toNat)
  case atStart => exact ⟨0, Nat.zero_le _, by simp, h0, Below.refl _ _⟩
  case round =>
    obtain ⟨k, hk, rfl, hJs, hnx⟩ := hrel
    have hBs' := (hnx.cell (p := ⟨Bs, 0, none⟩) hBn).trans hBs
    by_cases hlt : k < zs.length
    · obtain ⟨m, hm⟩ : ∃ m, zs.length - 1 - k = m := ⟨_, rfl⟩
      have em : (zs.length : Int) - 1 - k = (m : Int) := by omega
      have hml : m < zs.length := by omega
      have hba : backAt zs k = (m, zs[m]?.getD (0, 0, 0)) := by unfold backAt; rw [hm]
      obtain ⟨c0, c1, c2⟩ := hc m hml
      obtain ⟨⟨lo, hi, q⟩, hx⟩ : ∃ x, zs[m]?.getD (0, 0, 0) = x := ⟨_, rfl⟩
      rw [hx] at hba c0 c1 c2
      obtain ⟨fn, tmps, assign, body, hy, hR⟩ := hY _ (backAt zs k) wr hJs (by rw [upto_length]; exact hlt)
      rw [hba] at hy
      unfold encB at hy
      dsimp only at hy c0 c1 c2
      clear hx
      have c0' := (hnx.cell (p := ⟨b, m * 3, none⟩) hb).trans c0
      have c1' := (hnx.cell (p := ⟨b, m * 3 + 1, none⟩) hb).trans c1
      have c2' := (hnx.cell (p := ⟨b, m * 3 + 2, none⟩) hb).trans c2
      clear c0 c1 c2 hc
      have Hm : Hid (zs.length - 1 - k = m) := hm
      have Hba : Hid (backAt zs k = (m, lo, hi, q)) := hba
      clear hm hba
      rw [em]
      have Em : Hid ((zs.length : Int) - 1 - k = (m : Int)) := em
      clear em
      gi_wp2
      refine hR.mono ?_
      rintro e W3 (⟨rfl, hJ3, hk3⟩ | ⟨rfl, hJx3⟩)
      · gi_wp2
        go_roundw
        case rel => exact ⟨k + 1, by omega, by rw [show ((m : Int) - 1) = (zs.length : Int) - 1 - ((k + 1 : Nat) : Int) by have := Em.out; omega], by rw [upto_succ]; exact hJ3, hnx.trans hk3⟩
        case measure => simp [intOf]
      · gi_wp2
        refine bodyPost_ret (results_none rfl _ _ _) rfl ?_
        exact ⟨⟨_, rfl⟩, .inr ⟨_, ⟨k + 1, by omega, (upto_succ _ _).symm⟩, hJx3⟩⟩
    · obtain rfl : k = zs.length := by omega
      gi_wp2
      go_end0
      exact ⟨⟨_, rfl⟩, .inl ⟨_, rfl, hJs⟩⟩

set_option maxHeartbeats 1000000 in
theorem back1_nil_in (F : Fence) (n : Nat) (h8 : F.fn 139) (hro : F.round = none) (l Bs : Nat) (J : List (Nat × Row3) → World → Prop) (W : World) (hBs : W.cell? ⟨Bs, 0, none⟩ = some (.slice none 0 0)) (h0 : J [] W) :
    CallsIn F n Tryz.prog 139 #[.func (.yield l) #[] #[], .pointer (some ⟨Bs, 0, none⟩)] W fun e W' => (∃ v, e = .returned v) ∧ J [] W' := by
  refine callsIn_of_wp Tryz.func139 rfl h8 ?_ hro
  simp only [Tryz.ntmps139, List.size_toArray, List.length_cons, List.length_nil, Nat.reduceAdd, Nat.reduceSub, Array.replicate_succ, Array.replicate_zero, List.push_toArray, List.append_toArray, List.nil_append, List.cons_append]
  gi_wp2
  gi_loopw [3] (fun i wr => i = .int .i64 (-1) ∧ J [] wr) (fun _ _ => 0)
  case atStart => exact ⟨rfl, h0⟩
  case round =>
    obtain ⟨rfl, hJs⟩ := hrel
    gi_wp2
    go_end0
    exact ⟨⟨_, rfl⟩, hJs⟩

theorem back_in (F : Fence) (n : Nat) (h6 : F.fn 91) (hro : F.round = none) (v : Value) (a : Option Addr) (len cap : Nat) (hv : v = .slice a len cap) (w : World) :
    CallsIn F n Tryz.prog 91 #[v] w fun e w' => e = .returned (.func (.func 139) #[] #[.pointer (some ⟨w.heap.size, 0, none⟩)]) ∧ w' = w.alloc (.cells #[v] 95) := by
  subst hv
  refine callsIn_of_wp Tryz.func91 rfl h6 ?_ hro
  simp only [Tryz.ntmps91, List.size_toArray, List.length_cons, List.length_nil, Nat.reduceAdd, Nat.reduceSub, Array.replicate_succ, Array.replicate_zero, List.push_toArray, List.append_toArray, List.nil_append, List.cons_append]
  gi_wp2
  go_ret
  exact ⟨rfl, rfl⟩

theorem back_stops (F : Fence) (n : Nat) (h8 : F.fn 139) (hro : F.round = none) (hn : 1 ≤ n) (Bs n₀ : Nat) (sv : Value) (zs : List Row3) (hreach : zs.length ≤ 4611686018427387904) (w : World) (hBs : Bs < n₀) (hn₀ : n₀ ≤ w.heap.size)
    (hc : w.cell? ⟨Bs, 0, none⟩ = some sv) (hI : Rows3 n₀ w sv zs) :
    SeqStopsK F n Tryz.prog 139 #[.pointer (some ⟨Bs, 0, none⟩)] encB (Below n₀) (fun ys => ys = upto (backAt zs) zs.length)
      (fun pre => ∃ k, k ≤ zs.length ∧ pre = upto (backAt zs) k) zs.length w := fun l J Jx W hW _ _ hY h0 => by
  have hc' := (hW.cell (p := ⟨Bs, 0, none⟩) (Nat.lt_of_lt_of_le hBs hn₀)).trans hc
  rcases hI.below (hW.mono hn₀) with ⟨rfl, rfl⟩ | ⟨b, cap, rfl, hb, hcs⟩
  · exact (back1_nil_in F n h8 hro l Bs J W hc' h0).mono fun e W' ⟨he, hj⟩ => ⟨he, .inl ⟨_, rfl, hj⟩⟩
  · exact back1_in F n h8 hro hn l Bs n₀ b cap zs hreach hb J Jx hY W hc' hBs hcs h0

/-- What the last row that has a point says of it. -/
def saidL (l : List Row3) (r other : Int) : Int :=
  match l.reverse.find? (fun x => decide (x.1 ≤ r) && decide (r ≤ x.2.1)) with
  | some x => x.2.2
  | none => other

def rowHas (r : Int) (x : Row3) : Bool := decide (x.1 ≤ r) && decide (r ≤ x.2.1)
theorem upto_rev (zs : List Row3) : ∀ k, k ≤ zs.length → (upto (backAt zs) k).map Prod.snd = zs.reverse.take k := by
  intro k
  induction k with
  | zero => intro _; rfl
  | succ k ih =>
    intro hk
    rw [upto_succ, List.map_append, ih (by omega), List.take_add_one, List.getElem?_reverse (by omega), List.getElem?_eq_getElem (by omega)]
    simp [backAt, List.getElem?_eq_getElem (show zs.length - 1 - k < zs.length by omega)]
theorem saidL_none {zs : List Row3} {r other : Int} (h : ∀ p ∈ upto (backAt zs) zs.length, rowHas r p.2 = false) : saidL zs r other = other := by
  have e : zs.reverse.find? (rowHas r) = none := by
    rw [List.find?_eq_none]
    intro x hx
    have e2 := upto_rev zs zs.length (Nat.le_refl _)
    rw [List.take_of_length_le (by simp)] at e2
    rw [← e2] at hx
    obtain ⟨p, hp, rfl⟩ := List.mem_map.1 hx
    simp [h p hp]
  unfold saidL
  rw [show (fun x : Row3 => decide (x.1 ≤ r) && decide (r ≤ x.2.1)) = rowHas r from rfl, e]
theorem saidL_some {zs : List Row3} {r other : Int} {k : Nat} (hk : k < zs.length) (h : ∀ p ∈ upto (backAt zs) k, rowHas r p.2 = false) (hm : rowHas r (backAt zs k).2 = true) : saidL zs r other = (backAt zs k).2.2.2 := by
  have e : zs.reverse.find? (rowHas r) = some (backAt zs k).2 := by
    have e2 := upto_rev zs (k + 1) (by omega)
    rw [upto_succ, List.map_append] at e2
    rw [← List.take_append_drop (k + 1) zs.reverse, ← e2, List.find?_append, List.find?_append]
    have e3 : ((upto (backAt zs) k).map Prod.snd).find? (rowHas r) = none := by
      rw [List.find?_eq_none]
      intro x hx
      obtain ⟨p, hp, rfl⟩ := List.mem_map.1 hx
      simp [h p hp]
    simp [e3, hm]
  unfold saidL
  rw [show (fun x : Row3 => decide (x.1 ≤ r) && decide (r ≤ x.2.1)) = rowHas r from rfl, e]

theorem pre_snoc {pre : List (Nat × Row3)} {x : Nat × Row3} {r : Int} (hp : ∀ p ∈ pre, rowHas r p.2 = false) (hx : rowHas r x.2 = false) : ∀ p ∈ pre ++ [x], rowHas r p.2 = false := fun p h =>
  (List.mem_append.1 h).elim (hp p) (fun e => by rw [List.mem_singleton.1 e]; exact hx)
theorem cell_alloc_k {W : World} {a : Addr} {v : Value} (o : Obj) (h : W.cell? a = some v) : (W.alloc o).cell? a = some v := cell_kept h (World.grownBy_alloc W o none) (fun r e => by cases e)
theorem frozen_alloc_k {W : World} {a : Addr} {v : Value} (o : Obj) (h : W.cell? a = some v) (hf : W.frozen? a = false) : (W.alloc o).frozen? a = false := (frozen_kept h (World.grownBy_alloc W o none) (fun r e => by cases e)).trans hf
theorem cell_new_at (W : World) (c : Array Value) (t : TypeId) (j : Nat) : (W.alloc (.cells c t)).cell? ⟨W.heap.size, j, none⟩ = c[j]? := cell_at (hp_new W _)

theorem cell3_kept_own {n₀ : Nat} (Q : Nat → Row3 → Act → Prop) (x : Row3) (a' : Act) : OwnFrom n₀ (fun (_ : Unit) W => ∃ Bx, Q Bx x a' ∧ W.cell? ⟨Bx, 0, none⟩ = some (.int .i32 x.1) ∧ W.cell? ⟨Bx, 1, none⟩ = some (.int .i32 x.2.1) ∧ W.cell? ⟨Bx, 2, none⟩ = some (.int .i64 x.2.2)) :=
  Own.from (fun s A B row hs hg hr => by
    obtain ⟨Bx, hq, h0, h1, h2⟩ := hs
    exact ⟨Bx, hq, cell_kept h0 hg hr, cell_kept h1 hg hr, cell_kept h2 hg hr⟩) _

set_option maxRecDepth 100000 in
set_option maxHeartbeats 2000000 in
theorem said_in (F : Fence) (n : Nat) (h3 : F.fn 48) (h5 : F.fn 91) (h6 : F.fn 139) (hro : F.round = none) (hn : 3 ≤ n) (v : Value) (zs : List Row3) (r other : Int) (hreach : zs.length ≤ 4611686018427387904) (w : World) (hI : Rows3 w.heap.size w v zs) :
    CallsIn F n Tryz.prog 48 #[v, .int .i32 r, .int .i64 other] w fun e W' => e = .returned (.int .i64 (saidL zs r other)) ∧ Below w.heap.size w W' := by
  have h1 : 1 ≤ n := by omega
  obtain ⟨a, len, cap, rfl⟩ : ∃ a len cap, v = .slice a len cap := by
    rcases hI with ⟨h, _⟩ | ⟨b, c, h, _⟩
    · exact ⟨_, _, _, h⟩
    · exact ⟨_, _, _, h⟩
  refine callsIn_of_wp_marks Tryz.func48 rfl h3 ?_ hro
  simp only [Tryz.ntmps48, List.size_toArray, List.length_cons, List.length_nil, Nat.reduceAdd, Nat.reduceSub, Array.replicate_succ, Array.replicate_zero, List.push_toArray, List.append_toArray, List.nil_append, List.cons_append]
  gi_wp2_with (gi_at_call 91; refine (back_in F (n - 1) h5 hro _ _ _ _ rfl _).mono ?_; rintro e w' ⟨rfl, rfl⟩)
  have bR := Boxed.new w 21 (.int .i32 r)
  have bN := Boxed.new (w.alloc (.cells #[.int .i32 r] 21)) 3 (.int .i64 0)
  have bS := Boxed.new ((w.alloc (.cells #[.int .i32 r] 21)).alloc (.cells #[.int .i64 0] 3)) 95 (.slice a len cap)
  rw [World.size_alloc] at bN bS
  rw [World.size_alloc] at bS
  have hB0 : Below w.heap.size w (((w.alloc (.cells #[.int .i32 r] 21)).alloc (.cells #[.int .i64 0] 3)).alloc (.cells #[.slice a len cap] 95)) := (((Below.refl _ w).alloc (Nat.le_refl _) _).alloc (by simp) _).alloc (by simp; omega) _
  obtain ⟨W0, hW0⟩ : ∃ W0, (((w.alloc (.cells #[.int .i32 r] 21)).alloc (.cells #[.int .i64 0] 3)).alloc (.cells #[.slice a len cap] 95)) = W0 := ⟨_, rfl⟩
  have hsz : W0.heap.size = w.heap.size + 3 := by rw [← hW0]; simp
  have bR0 := ((bR.alloc (.cells #[.int .i64 0] 3)).alloc (.cells #[.slice a len cap] 95))
  have bN0 := bN.alloc (.cells #[.slice a len cap] 95)
  rw [hW0] at hB0 bS bR0 bN0 ⊢
  refine wpIn_rangeFunc_ownH hro h1 (gf := 139) (lb := #[.pointer (some ⟨w.heap.size + 1 + 1, 0, none⟩)]) rfl h6 (enters_of Tryz.func139 (by kernel_rfl) rfl)
    (back_stops F (n - 1) h6 hro (by omega) (w.heap.size + 1 + 1) (w.heap.size + 3) _ zs hreach _ (by omega) (by omega) bS.cell ((hI.below hB0).mono (by omega))) belowK_t (belowK_b (by omega)) (Below.refl _ _) (fun _ => rfl)
    (fun pre W => ((∀ p ∈ pre, rowHas r p.2 = false) ∧ W.cell? ⟨w.heap.size, 0, none⟩ = some (.int .i32 r) ∧ W.cell? ⟨w.heap.size + 1, 0, none⟩ = some (.int .i64 0) ∧ W.frozen? ⟨w.heap.size + 1, 0, none⟩ = false) ∧ Below (w.heap.size + 3) W0 W)
    (fun c pre W => (c = .ret ∧ ∃ ini last, pre = ini ++ [last] ∧ (∀ p ∈ ini, rowHas r p.2 = false) ∧ rowHas r last.2 = true ∧ W.cell? ⟨w.heap.size + 1, 0, none⟩ = some (.int .i64 last.2.2.2)) ∧ Below w.heap.size w W)
    (OwnFrom.and (Own.from (fun s A B row hs hg hr => ⟨hs.1, cell_kept hs.2.1 hg hr, cell_kept hs.2.2.1 hg hr, (frozen_kept hs.2.2.1 hg hr).trans hs.2.2.2⟩) _) (ownFrom_below (by omega) (by omega)))
    (fun c => OwnFrom.and (Own.from (fun s A B row hs hg hr => by obtain ⟨hc, ini, last, e1, e2, e3, e4⟩ := hs; exact ⟨hc, ini, last, e1, e2, e3, cell_kept e4 hg hr⟩) _) (ownFrom_below (by omega) (by omega)))
    ⟨⟨by simp, bR0.cell, bN0.cell, bN0.frozen⟩, Below.refl _ _⟩
    (fun x a' W => ∃ Bx, (w.heap.size + 3 ≤ Bx ∧ ∃ s11 s12, a' = { tmps := #[.slice a len cap, .int .i32 r, .int .i64 other, undef, .pointer (some ⟨w.heap.size, 0, none⟩), undef, .pointer (some ⟨w.heap.size + 1, 0, none⟩), undef, .pointer (some ⟨Bx, 0, none⟩), .slice a len cap, .func (.func 139) #[] #[.pointer (some ⟨w.heap.size + 1 + 1, 0, none⟩)], s11, s12, undef, undef, undef, undef, undef, undef, undef, undef, undef, undef, undef, undef, undef, undef, undef], defers := [] })
        ∧ W.cell? ⟨Bx, 0, none⟩ = some (.int .i32 x.2.1) ∧ W.cell? ⟨Bx, 1, none⟩ = some (.int .i32 x.2.2.1) ∧ W.cell? ⟨Bx, 2, none⟩ = some (.int .i64 x.2.2.2))
    (fun x a' => cell3_kept_own (fun Bx _ a' => w.heap.size + 3 ≤ Bx ∧ ∃ s11 s12, a' = { tmps := #[.slice a len cap, .int .i32 r, .int .i64 other, undef, .pointer (some ⟨w.heap.size, 0, none⟩), undef, .pointer (some ⟨w.heap.size + 1, 0, none⟩), undef, .pointer (some ⟨Bx, 0, none⟩), .slice a len cap, .func (.func 139) #[] #[.pointer (some ⟨w.heap.size + 1 + 1, 0, none⟩)], s11, s12, undef, undef, undef, undef, undef, undef, undef, undef, undef, undef, undef, undef, undef, undef, undef], defers := [] }) x.2 a')
    ?assign ?body ?done ?stop
  case assign =>
    rintro l pre ⟨i, lo, hi, q⟩ W K ⟨⟨hp, hr, hcr, hfr⟩, hB⟩ hK
    unfold encB
    gi_wp2
    have hle : w.heap.size + 3 ≤ W.heap.size := by have := hB.size; omega
    exact hK _ _ ((KeepsOthers.alloc _ _).from _) ((Below.refl _ W).alloc hle _) ⟨⟨hp, cell_alloc_k _ hr, cell_alloc_k _ hcr, frozen_alloc_k _ hcr hfr⟩, hB.alloc hle _⟩ ⟨W.heap.size, ⟨hle, _, _, rfl⟩, cell_new_at _ _ _ 0, cell_new_at _ _ _ 1, cell_new_at _ _ _ 2⟩
  case body =>
    rintro l pre ⟨i, lo, hi, q⟩ a' W hl - ⟨⟨hp, hr, hcr, hfr⟩, hB⟩ ⟨Bx, ⟨hBx, s11, s12, rfl⟩, c0, c1, c2⟩ _
    dsimp only at c0 c1 c2
    by_cases t1 : lo ≤ r
    · by_cases t2 : r ≤ hi
      · gi_wp2
        exact ⟨(KeepsOthers.setCell _ _ _).from _, ⟨rfl, pre, (i, lo, hi, q), rfl, hp, by simp [rowHas, t1, t2], World.cell?_setCell_same' _ _ _ (by rw [hcr]; rfl)⟩, (hB0.trans (hB.mono (by omega))).setCell (p := ⟨w.heap.size + 1, 0, none⟩) (by simp) _⟩
      · gi_wp2
        exact ⟨KeepsFrom.refl _ _, Below.refl _ _, ⟨by have h := pre_snoc (x := (i, lo, hi, q)) hp (r := r) (by simp [rowHas]; omega); simpa using h, hr, hcr, hfr⟩, hB⟩
    · gi_wp2
      exact ⟨KeepsFrom.refl _ _, Below.refl _ _, ⟨by have h := pre_snoc (x := (i, lo, hi, q)) hp (r := r) (by simp [rowHas]; omega); simpa using h, hr, hcr, hfr⟩, hB⟩
  case done =>
    rintro D ys W hD rfl ⟨⟨hne, hr, hcr, hfr⟩, hB⟩ hK
    gi_wp2
    have hK' := (KeepsOthers.setCell W ⟨w.heap.size + 1, 0, none⟩ (.int .i64 other)).same D _ hK rfl
    refine ⟨by simp, .inl ⟨_, _, rfl, run_takeDeferred hK', ?_⟩⟩
    have hc5 := cell_kept (World.cell?_setCell_same' W ⟨w.heap.size + 1, 0, none⟩ (.int .i64 other) (by rw [hcr]; rfl)) (grownBy_putObj' _ D (.deferred none)) (fun r e => by cases e; exact ⟨_, hK', rfl⟩)
    refine ⟨.int .i64 other, ?_, by rw [saidL_none hne], ((hB0.trans (hB.mono (by omega))).setCell (p := ⟨w.heap.size + 1, 0, none⟩) (by simp) _).trans (belowK_b (w := W0) (by omega) _ D _ _ hD hK' rfl rfl)⟩
    simp [results, Tryz.f48, go_sem, hc5]
  case stop =>
    rintro D c pre W hD ⟨k, hk, rfl⟩ ⟨⟨rfl, ini, last, e1, e2, e3, hcr⟩, hB⟩ hK
    gi_wp2
    refine ⟨by simp, .inl ⟨_, _, rfl, run_takeDeferred hK, ?_⟩⟩
    have hc5 := cell_kept hcr (grownBy_putObj' _ D (.deferred none)) (fun r e => by cases e; exact ⟨_, hK, rfl⟩)
    obtain ⟨k', rfl⟩ : ∃ k', k = k' + 1 := by
      cases k with
      | zero => simp [upto] at e1
      | succ k' => exact ⟨k', rfl⟩
    rw [upto_succ] at e1
    obtain ⟨rfl, e5⟩ := List.append_inj' e1 rfl
    obtain rfl : backAt zs k' = last := by simpa using e5
    refine ⟨.int .i64 (backAt zs k').2.2.2, ?_, by rw [saidL_some (by omega) e2 e3], hB.trans (belowK_b (w := W0) (by omega) _ D _ _ hD hK rfl rfl)⟩
    simp [results, Tryz.f48, go_sem, hc5]

/-- props.said: at any rows. -/
theorem said_any (v : Value) (zs : List Row3) (r other : Int) (hreach : zs.length ≤ 4611686018427387904) (w : World) (hI : Rows3 w.heap.size w v zs) :
    Calls Tryz.prog 48 #[v, .int .i32 r, .int .i64 other] w fun e W' => e = .returned (.int .i64 (saidL zs r other)) ∧ Below w.heap.size w W' :=
  callsIn_wide.1 (said_in Fence.wide 3 trivial trivial trivial rfl (Nat.le_refl _) v zs r other hreach w hI)
end Go.Proofs.YtakbacfhcllioaaGreatDoor
