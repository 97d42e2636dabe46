/- props.Parse of the empty text. -/
import Derived.Test.YtakbacfhcllioaaGreatDoorPs
import Derived.RangeFuncNested
import Derived.RangeFuncBound
import Derived.RangeFuncCalls
import Derived.RangeFuncLeaves
import Derived.RangeFuncBox
import Derived.RangeFuncWrites
import Derived.Shelf.Abstract
import Derived.Shelf.RegionOpen
import Derived.OwnWalkIn
import Derived.TacticsInMore
import Derived.LoopNIn
import Derived.LoopIn
namespace Go.Proofs.YtakbacfhcllioaaGreatDoor
open Go.RowKit Go.Shelf
attribute [local go_sem] Oper.semAt_some

def encE (_ : Unit) : Array Value := #[.string ⟨#[]⟩]

set_option maxRecDepth 100000 in
set_option maxHeartbeats 2000000 in
theorem split1_in (n l sepB sB saveB : Nat) (hn : 1 ≤ n) (Kp : World → World → Prop) (J Jx : List Unit → World → Prop)
    (hY : ∀ pre x W, J pre W → pre.length < 1 → YieldAt Fence.wide (n - 1) Tryz.prog l (encE x) W fun e W' =>
      (e = .returned (.bool true) ∧ J (pre ++ [x]) W' ∧ Kp W W') ∨ (e = .returned (.bool false) ∧ Jx (pre ++ [x]) W'))
    (W : World) (hsep : W.cell? ⟨sepB, 0, none⟩ = some (.string ⟨#[10]⟩)) (hs : W.cell? ⟨sB, 0, none⟩ = some (.string ⟨#[]⟩)) (h0 : J [] W) :
    CallsIn Fence.wide n Tryz.prog 180 #[.func (.yield l) #[] #[], .pointer (some ⟨sepB, 0, none⟩), .pointer (some ⟨sB, 0, none⟩), .pointer (some ⟨saveB, 0, none⟩)] W fun e W' => (∃ v, e = .returned v) ∧
      ((∃ ys, ys = [()] ∧ J ys W') ∨ (∃ pre, pre = [()] ∧ Jx pre W')) := by
  have H := Lib.hid (index_nl W)
  obtain ⟨fn, tmps, assign, body, hy, hR⟩ := hY [] () W h0 (by simp)
  unfold encE at hy
  refine callsIn_of_wp Tryz.func180 rfl trivial ?_ rfl
  simp only [Tryz.ntmps180, List.size_toArray, List.length_cons, List.length_nil, Nat.reduceAdd, Nat.reduceSub, Array.replicate_succ, Array.replicate_zero, List.push_toArray, List.append_toArray, List.nil_append, List.cons_append]
  gi_wp2
  gi_loopw [] (fun wr => wr = W) (fun _ => 0)
  case atStart => rfl
  case round =>
    obtain rfl := hrel
    gi_wp2_with (refine ⟨trivial, ?_⟩; gi_at_call 127; refine (callsIn_wide.2 H.out).mono ?_; rintro e w1 ⟨rfl, rfl⟩)
    refine hR.mono ?_
    rintro e W3 (⟨rfl, hJ3, hk3⟩ | ⟨rfl, hJx3⟩)
    · gi_wp2
      go_end0
      exact ⟨⟨_, rfl⟩, .inl ⟨_, rfl, hJ3⟩⟩
    · gi_wp2
      go_end0
      exact ⟨⟨_, rfl⟩, .inr ⟨_, rfl, hJx3⟩⟩

theorem split134 (w : World) : Calls Tryz.prog 134 #[.string ⟨#[]⟩, .string ⟨#[10]⟩, .int .i64 0] w fun e w' =>
    e = .returned (.func (.func 180) #[] #[.pointer (some ⟨w.heap.size + 1, 0, none⟩), .pointer (some ⟨w.heap.size, 0, none⟩), .pointer (some ⟨w.heap.size + 1 + 1, 0, none⟩)]) ∧
    w' = ((w.alloc (.cells #[.string ⟨#[]⟩] 9)).alloc (.cells #[.string ⟨#[10]⟩] 9)).alloc (.cells #[.int .i64 0] 3) := by
  go_enter Tryz.func134, Tryz.ntmps134
  go_wp2
  go_ret
  exact ⟨rfl, rfl⟩
theorem splitSeq_e (w : World) : Calls Tryz.prog 84 #[.string ⟨#[]⟩, .string ⟨#[10]⟩] w fun e w' =>
    e = .returned (.func (.func 180) #[] #[.pointer (some ⟨w.heap.size + 1, 0, none⟩), .pointer (some ⟨w.heap.size, 0, none⟩), .pointer (some ⟨w.heap.size + 1 + 1, 0, none⟩)]) ∧
    w' = ((w.alloc (.cells #[.string ⟨#[]⟩] 9)).alloc (.cells #[.string ⟨#[10]⟩] 9)).alloc (.cells #[.int .i64 0] 3) := by
  have H := Lib.hid (split134 w)
  go_enter Tryz.func84, Tryz.ntmps84
  go_wp2_with (go_at_call 134; refine H.out.mono ?_; rintro e w1 ⟨rfl, rfl⟩)
  go_ret
  exact ⟨rfl, rfl⟩

theorem allocs_heap : ∀ (os : List Obj) (w : World) (j : Nat) (hj : j < os.length), (os.foldl World.alloc w).heap[w.heap.size + j]? = some os[j] := by
  have keep : ∀ (os : List Obj) (w : World) (k : Nat) (x : Obj), w.heap[k]? = some x → (os.foldl World.alloc w).heap[k]? = some x := by
    intro os
    induction os with
    | nil => intro w k x h; exact h
    | cons o os ih => intro w k x h; exact ih (w.alloc o) k x (hp_old h)
  intro os
  induction os with
  | nil => intro w j hj; cases hj
  | cons o os ih =>
    intro w j hj
    cases j with
    | zero => exact keep os (w.alloc o) w.heap.size o (hp_new w o)
    | succ j =>
      have := ih (w.alloc o) j (by simpa using hj)
      rw [World.size_alloc] at this
      rw [show w.heap.size + (j + 1) = w.heap.size + 1 + j by omega]
      simpa using this
theorem allocs_below : ∀ (os : List Obj) (w : World), Below w.heap.size w (os.foldl World.alloc w) ∧ (os.foldl World.alloc w).heap.size = w.heap.size + os.length := by
  intro os
  induction os with
  | nil => intro w; exact ⟨Below.refl _ _, rfl⟩
  | cons o os ih =>
    intro w
    obtain ⟨h1, h2⟩ := ih (w.alloc o)
    refine ⟨((Below.refl _ w).alloc (Nat.le_refl _) o).trans (h1.mono (by simp)), ?_⟩
    show (os.foldl World.alloc (w.alloc o)).heap.size = _
    rw [h2, World.size_alloc, List.length_cons]; omega

theorem ins_new (X : World) (es : Array MapEntry) (c : Nat) (f : ByteArray → Option Unit) (h : Rep strK (fun _ _ => True) es.toList f) (k : ByteArray) (v : Value) (b : Nat) (hb : X.heap.size = b) :
    ∃ es' c', (Instr.mapUpdate 162 (.map (some b)) (.string k) v).run Tryz.prog (X.alloc (.map es c)) = .ok () (X.alloc (.map es' c')) ∧ ∃ f', Rep strK (fun _ (_ : Unit) => True) es'.toList f' := by
  subst hb
  obtain ⟨es', c', h1, h2⟩ := rep_update (P := Tryz.prog) (w := X.alloc (.map es c)) strK_inj strK_key Tryz.underlying162 Tryz.underlying9 (hp_new X _) h k v () trivial
  refine ⟨es', c', h1.trans ?_, _, h2⟩
  have hp : ∀ (h : Array Obj) (x y : Obj), (h.push x).setIfInBounds h.size y = h.push y := by
    intro h x y
    apply Array.toList_inj.1
    simp
  show Result.ok () ({ X.alloc (.map es c) with heap := (X.heap.push (.map es c)).setIfInBounds X.heap.size (.map es' c') } : World) = _
  rw [hp]
  rfl

set_option maxRecDepth 100000 in
set_option maxHeartbeats 2000000 in
theorem parse_in (n : Nat) (hn : 3 ≤ n) (w : World) : CallsIn Fence.wide n Tryz.prog 44 #[.string ⟨#[]⟩] w fun e w' =>
    (∃ bp, e = .returned (.tuple #[.pointer (some ⟨bp, 0, none⟩), .nilIface]) ∧ IsProps w'.heap.size w' bp ⟨[], [], [], [], []⟩) ∧ Below w.heap.size w w' := by
  have hmm := @run_makeMap Tryz.prog
  have h1 : 1 ≤ n := by omega
  have h1b : 1 ≤ n - 1 - 1 := by omega
  have hro : Fence.wide.round = none := rfl
  obtain ⟨X, hX⟩ : ∃ X, ((((((((w.alloc (.cells #[.pointer none] 22)).alloc (.cells #[.nilIface] 90)).alloc (.map #[] 0)).alloc (.map #[] 0)).alloc (.map #[] 0)).alloc
    (.cells #[.slice none 0 0, .slice none 0 0, .map (some (w.heap.size + 1 + 1)), .map (some (w.heap.size + 1 + 1 + 1)), .map (some (w.heap.size + 1 + 1 + 1 + 1))] 99)).alloc (.map #[] 0)).alloc
    (.cells #[.pointer (some ⟨w.heap.size + 1 + 1 + 1 + 1 + 1, 0, none⟩), .map (some (w.heap.size + 1 + 1 + 1 + 1 + 1 + 1)), .int .i64 0] 160)).alloc (.cells #[.pointer (some ⟨w.heap.size + 1 + 1 + 1 + 1 + 1 + 1 + 1, 0, none⟩)] 157) = X := ⟨_, rfl⟩
  have hXs : X.heap.size = w.heap.size + 1 + 1 + 1 + 1 + 1 + 1 + 1 + 1 + 1 := by rw [← hX]; simp
  obtain ⟨es1, c1, q1, f1, r1⟩ := ins_new X #[] 0 _ Rep.empty ⟨#[99, 108, 97, 115, 115]⟩ (.func (.func 80) #[.pointer (some ⟨w.heap.size + 1 + 1 + 1 + 1 + 1 + 1 + 1, 0, none⟩)] #[]) _ hXs
  obtain ⟨es2, c2, q2, f2, r2⟩ := ins_new X es1 c1 f1 r1 ⟨#[107, 105, 110, 100]⟩ (.func (.func 81) #[.pointer (some ⟨w.heap.size + 1 + 1 + 1 + 1 + 1 + 1 + 1, 0, none⟩)] #[]) _ hXs
  obtain ⟨es3, c3, q3, f3, r3⟩ := ins_new X es2 c2 f2 r2 ⟨#[102, 111, 108, 100]⟩ (.func (.func 82) #[.pointer (some ⟨w.heap.size + 1 + 1 + 1 + 1 + 1 + 1 + 1, 0, none⟩)] #[]) _ hXs
  obtain ⟨es4, c4, q4, -, -⟩ := ins_new X es3 c3 f3 r3 ⟨#[100, 101, 99, 111, 109, 112]⟩ (.func (.func 83) #[.pointer (some ⟨w.heap.size + 1 + 1 + 1 + 1 + 1 + 1 + 1, 0, none⟩)] #[]) _ hXs
  clear r1 r2 r3 hXs
  subst hX
  refine callsIn_of_wp_marks Tryz.func44 rfl trivial ?_ rfl
  simp only [Tryz.ntmps44, List.size_toArray, List.length_cons, List.length_nil, Nat.reduceAdd, Nat.reduceSub, Array.replicate_succ, Array.replicate_zero, List.push_toArray, List.append_toArray, List.nil_append, List.cons_append]
  gi_wp2_with (first
    | (refine ⟨trivial, ?_⟩; gi_at_call 79; refine (callsIn_wide.2 (count_e _)).mono ?_; rintro e w1 ⟨rfl, rfl⟩)
    | (refine ⟨trivial, ?_⟩; gi_at_call 84; refine (callsIn_wide.2 (splitSeq_e _)).mono ?_; rintro e w1 ⟨rfl, rfl⟩))
  clear q1 q2 q3 q4
  obtain ⟨W0, hW0⟩ : ∃ W0, ((((((((((((((w.alloc (.cells #[.pointer none] 22)).alloc (.cells #[.nilIface] 90)).alloc (.map #[] 0)).alloc (.map #[] 0)).alloc (.map #[] 0)).alloc (.cells #[.slice none 0 0, .slice none 0 0, .map (some (w.heap.size + 1 + 1)), .map (some (w.heap.size + 1 + 1 + 1)), .map (some (w.heap.size + 1 + 1 + 1 + 1))] 99)).alloc (.map #[] 0)).alloc (.cells #[.pointer (some ⟨w.heap.size + 1 + 1 + 1 + 1 + 1, 0, none⟩), .map (some (w.heap.size + 1 + 1 + 1 + 1 + 1 + 1)), .int .i64 0] 160)).alloc (.cells #[.pointer (some ⟨w.heap.size + 1 + 1 + 1 + 1 + 1 + 1 + 1, 0, none⟩)] 157)).alloc (.map es4 c4)).alloc (.cells #[.map (some (w.heap.size + 1 + 1 + 1 + 1 + 1 + 1 + 1 + 1 + 1))] 162)).alloc (.cells #[.string ⟨#[]⟩] 9)).alloc (.cells #[.string ⟨#[10]⟩] 9)).alloc (.cells #[.int .i64 0] 3)) = W0 := ⟨_, rfl⟩
  have q0 : W0.heap[w.heap.size]? = some (.cells #[.pointer none] 22) := by rw [show w.heap.size = w.heap.size + 0 by omega, ← hW0]; exact allocs_heap [(.cells #[.pointer none] 22 : Obj), .cells #[.nilIface] 90, .map #[] 0, .map #[] 0, .map #[] 0, .cells #[.slice none 0 0, .slice none 0 0, .map (some (w.heap.size + 1 + 1)), .map (some (w.heap.size + 1 + 1 + 1)), .map (some (w.heap.size + 1 + 1 + 1 + 1))] 99, .map #[] 0, .cells #[.pointer (some ⟨w.heap.size + 1 + 1 + 1 + 1 + 1, 0, none⟩), .map (some (w.heap.size + 1 + 1 + 1 + 1 + 1 + 1)), .int .i64 0] 160, .cells #[.pointer (some ⟨w.heap.size + 1 + 1 + 1 + 1 + 1 + 1 + 1, 0, none⟩)] 157, .map es4 c4, .cells #[.map (some (w.heap.size + 1 + 1 + 1 + 1 + 1 + 1 + 1 + 1 + 1))] 162, .cells #[.string ⟨#[]⟩] 9, .cells #[.string ⟨#[10]⟩] 9, .cells #[.int .i64 0] 3] w 0 (by simp)
  have q1 : W0.heap[w.heap.size + 1]? = some (.cells #[.nilIface] 90) := by rw [show w.heap.size + 1 = w.heap.size + 1 by omega, ← hW0]; exact allocs_heap [(.cells #[.pointer none] 22 : Obj), .cells #[.nilIface] 90, .map #[] 0, .map #[] 0, .map #[] 0, .cells #[.slice none 0 0, .slice none 0 0, .map (some (w.heap.size + 1 + 1)), .map (some (w.heap.size + 1 + 1 + 1)), .map (some (w.heap.size + 1 + 1 + 1 + 1))] 99, .map #[] 0, .cells #[.pointer (some ⟨w.heap.size + 1 + 1 + 1 + 1 + 1, 0, none⟩), .map (some (w.heap.size + 1 + 1 + 1 + 1 + 1 + 1)), .int .i64 0] 160, .cells #[.pointer (some ⟨w.heap.size + 1 + 1 + 1 + 1 + 1 + 1 + 1, 0, none⟩)] 157, .map es4 c4, .cells #[.map (some (w.heap.size + 1 + 1 + 1 + 1 + 1 + 1 + 1 + 1 + 1))] 162, .cells #[.string ⟨#[]⟩] 9, .cells #[.string ⟨#[10]⟩] 9, .cells #[.int .i64 0] 3] w 1 (by simp)
  have q2 : W0.heap[w.heap.size + 1 + 1]? = some (.map #[] 0) := by rw [show w.heap.size + 1 + 1 = w.heap.size + 2 by omega, ← hW0]; exact allocs_heap [(.cells #[.pointer none] 22 : Obj), .cells #[.nilIface] 90, .map #[] 0, .map #[] 0, .map #[] 0, .cells #[.slice none 0 0, .slice none 0 0, .map (some (w.heap.size + 1 + 1)), .map (some (w.heap.size + 1 + 1 + 1)), .map (some (w.heap.size + 1 + 1 + 1 + 1))] 99, .map #[] 0, .cells #[.pointer (some ⟨w.heap.size + 1 + 1 + 1 + 1 + 1, 0, none⟩), .map (some (w.heap.size + 1 + 1 + 1 + 1 + 1 + 1)), .int .i64 0] 160, .cells #[.pointer (some ⟨w.heap.size + 1 + 1 + 1 + 1 + 1 + 1 + 1, 0, none⟩)] 157, .map es4 c4, .cells #[.map (some (w.heap.size + 1 + 1 + 1 + 1 + 1 + 1 + 1 + 1 + 1))] 162, .cells #[.string ⟨#[]⟩] 9, .cells #[.string ⟨#[10]⟩] 9, .cells #[.int .i64 0] 3] w 2 (by simp)
  have q3 : W0.heap[w.heap.size + 1 + 1 + 1]? = some (.map #[] 0) := by rw [show w.heap.size + 1 + 1 + 1 = w.heap.size + 3 by omega, ← hW0]; exact allocs_heap [(.cells #[.pointer none] 22 : Obj), .cells #[.nilIface] 90, .map #[] 0, .map #[] 0, .map #[] 0, .cells #[.slice none 0 0, .slice none 0 0, .map (some (w.heap.size + 1 + 1)), .map (some (w.heap.size + 1 + 1 + 1)), .map (some (w.heap.size + 1 + 1 + 1 + 1))] 99, .map #[] 0, .cells #[.pointer (some ⟨w.heap.size + 1 + 1 + 1 + 1 + 1, 0, none⟩), .map (some (w.heap.size + 1 + 1 + 1 + 1 + 1 + 1)), .int .i64 0] 160, .cells #[.pointer (some ⟨w.heap.size + 1 + 1 + 1 + 1 + 1 + 1 + 1, 0, none⟩)] 157, .map es4 c4, .cells #[.map (some (w.heap.size + 1 + 1 + 1 + 1 + 1 + 1 + 1 + 1 + 1))] 162, .cells #[.string ⟨#[]⟩] 9, .cells #[.string ⟨#[10]⟩] 9, .cells #[.int .i64 0] 3] w 3 (by simp)
  have q4 : W0.heap[w.heap.size + 1 + 1 + 1 + 1]? = some (.map #[] 0) := by rw [show w.heap.size + 1 + 1 + 1 + 1 = w.heap.size + 4 by omega, ← hW0]; exact allocs_heap [(.cells #[.pointer none] 22 : Obj), .cells #[.nilIface] 90, .map #[] 0, .map #[] 0, .map #[] 0, .cells #[.slice none 0 0, .slice none 0 0, .map (some (w.heap.size + 1 + 1)), .map (some (w.heap.size + 1 + 1 + 1)), .map (some (w.heap.size + 1 + 1 + 1 + 1))] 99, .map #[] 0, .cells #[.pointer (some ⟨w.heap.size + 1 + 1 + 1 + 1 + 1, 0, none⟩), .map (some (w.heap.size + 1 + 1 + 1 + 1 + 1 + 1)), .int .i64 0] 160, .cells #[.pointer (some ⟨w.heap.size + 1 + 1 + 1 + 1 + 1 + 1 + 1, 0, none⟩)] 157, .map es4 c4, .cells #[.map (some (w.heap.size + 1 + 1 + 1 + 1 + 1 + 1 + 1 + 1 + 1))] 162, .cells #[.string ⟨#[]⟩] 9, .cells #[.string ⟨#[10]⟩] 9, .cells #[.int .i64 0] 3] w 4 (by simp)
  have q5 : W0.heap[w.heap.size + 1 + 1 + 1 + 1 + 1]? = some (.cells #[.slice none 0 0, .slice none 0 0, .map (some (w.heap.size + 1 + 1)), .map (some (w.heap.size + 1 + 1 + 1)), .map (some (w.heap.size + 1 + 1 + 1 + 1))] 99) := by rw [show w.heap.size + 1 + 1 + 1 + 1 + 1 = w.heap.size + 5 by omega, ← hW0]; exact allocs_heap [(.cells #[.pointer none] 22 : Obj), .cells #[.nilIface] 90, .map #[] 0, .map #[] 0, .map #[] 0, .cells #[.slice none 0 0, .slice none 0 0, .map (some (w.heap.size + 1 + 1)), .map (some (w.heap.size + 1 + 1 + 1)), .map (some (w.heap.size + 1 + 1 + 1 + 1))] 99, .map #[] 0, .cells #[.pointer (some ⟨w.heap.size + 1 + 1 + 1 + 1 + 1, 0, none⟩), .map (some (w.heap.size + 1 + 1 + 1 + 1 + 1 + 1)), .int .i64 0] 160, .cells #[.pointer (some ⟨w.heap.size + 1 + 1 + 1 + 1 + 1 + 1 + 1, 0, none⟩)] 157, .map es4 c4, .cells #[.map (some (w.heap.size + 1 + 1 + 1 + 1 + 1 + 1 + 1 + 1 + 1))] 162, .cells #[.string ⟨#[]⟩] 9, .cells #[.string ⟨#[10]⟩] 9, .cells #[.int .i64 0] 3] w 5 (by simp)
  have q6 : W0.heap[w.heap.size + 1 + 1 + 1 + 1 + 1 + 1]? = some (.map #[] 0) := by rw [show w.heap.size + 1 + 1 + 1 + 1 + 1 + 1 = w.heap.size + 6 by omega, ← hW0]; exact allocs_heap [(.cells #[.pointer none] 22 : Obj), .cells #[.nilIface] 90, .map #[] 0, .map #[] 0, .map #[] 0, .cells #[.slice none 0 0, .slice none 0 0, .map (some (w.heap.size + 1 + 1)), .map (some (w.heap.size + 1 + 1 + 1)), .map (some (w.heap.size + 1 + 1 + 1 + 1))] 99, .map #[] 0, .cells #[.pointer (some ⟨w.heap.size + 1 + 1 + 1 + 1 + 1, 0, none⟩), .map (some (w.heap.size + 1 + 1 + 1 + 1 + 1 + 1)), .int .i64 0] 160, .cells #[.pointer (some ⟨w.heap.size + 1 + 1 + 1 + 1 + 1 + 1 + 1, 0, none⟩)] 157, .map es4 c4, .cells #[.map (some (w.heap.size + 1 + 1 + 1 + 1 + 1 + 1 + 1 + 1 + 1))] 162, .cells #[.string ⟨#[]⟩] 9, .cells #[.string ⟨#[10]⟩] 9, .cells #[.int .i64 0] 3] w 6 (by simp)
  have q7 : W0.heap[w.heap.size + 1 + 1 + 1 + 1 + 1 + 1 + 1]? = some (.cells #[.pointer (some ⟨w.heap.size + 1 + 1 + 1 + 1 + 1, 0, none⟩), .map (some (w.heap.size + 1 + 1 + 1 + 1 + 1 + 1)), .int .i64 0] 160) := by rw [show w.heap.size + 1 + 1 + 1 + 1 + 1 + 1 + 1 = w.heap.size + 7 by omega, ← hW0]; exact allocs_heap [(.cells #[.pointer none] 22 : Obj), .cells #[.nilIface] 90, .map #[] 0, .map #[] 0, .map #[] 0, .cells #[.slice none 0 0, .slice none 0 0, .map (some (w.heap.size + 1 + 1)), .map (some (w.heap.size + 1 + 1 + 1)), .map (some (w.heap.size + 1 + 1 + 1 + 1))] 99, .map #[] 0, .cells #[.pointer (some ⟨w.heap.size + 1 + 1 + 1 + 1 + 1, 0, none⟩), .map (some (w.heap.size + 1 + 1 + 1 + 1 + 1 + 1)), .int .i64 0] 160, .cells #[.pointer (some ⟨w.heap.size + 1 + 1 + 1 + 1 + 1 + 1 + 1, 0, none⟩)] 157, .map es4 c4, .cells #[.map (some (w.heap.size + 1 + 1 + 1 + 1 + 1 + 1 + 1 + 1 + 1))] 162, .cells #[.string ⟨#[]⟩] 9, .cells #[.string ⟨#[10]⟩] 9, .cells #[.int .i64 0] 3] w 7 (by simp)
  have q8 : W0.heap[w.heap.size + 1 + 1 + 1 + 1 + 1 + 1 + 1 + 1]? = some (.cells #[.pointer (some ⟨w.heap.size + 1 + 1 + 1 + 1 + 1 + 1 + 1, 0, none⟩)] 157) := by rw [show w.heap.size + 1 + 1 + 1 + 1 + 1 + 1 + 1 + 1 = w.heap.size + 8 by omega, ← hW0]; exact allocs_heap [(.cells #[.pointer none] 22 : Obj), .cells #[.nilIface] 90, .map #[] 0, .map #[] 0, .map #[] 0, .cells #[.slice none 0 0, .slice none 0 0, .map (some (w.heap.size + 1 + 1)), .map (some (w.heap.size + 1 + 1 + 1)), .map (some (w.heap.size + 1 + 1 + 1 + 1))] 99, .map #[] 0, .cells #[.pointer (some ⟨w.heap.size + 1 + 1 + 1 + 1 + 1, 0, none⟩), .map (some (w.heap.size + 1 + 1 + 1 + 1 + 1 + 1)), .int .i64 0] 160, .cells #[.pointer (some ⟨w.heap.size + 1 + 1 + 1 + 1 + 1 + 1 + 1, 0, none⟩)] 157, .map es4 c4, .cells #[.map (some (w.heap.size + 1 + 1 + 1 + 1 + 1 + 1 + 1 + 1 + 1))] 162, .cells #[.string ⟨#[]⟩] 9, .cells #[.string ⟨#[10]⟩] 9, .cells #[.int .i64 0] 3] w 8 (by simp)
  have q11 : W0.heap[w.heap.size + 1 + 1 + 1 + 1 + 1 + 1 + 1 + 1 + 1 + 1 + 1]? = some (.cells #[.string ⟨#[]⟩] 9) := by rw [show w.heap.size + 1 + 1 + 1 + 1 + 1 + 1 + 1 + 1 + 1 + 1 + 1 = w.heap.size + 11 by omega, ← hW0]; exact allocs_heap [(.cells #[.pointer none] 22 : Obj), .cells #[.nilIface] 90, .map #[] 0, .map #[] 0, .map #[] 0, .cells #[.slice none 0 0, .slice none 0 0, .map (some (w.heap.size + 1 + 1)), .map (some (w.heap.size + 1 + 1 + 1)), .map (some (w.heap.size + 1 + 1 + 1 + 1))] 99, .map #[] 0, .cells #[.pointer (some ⟨w.heap.size + 1 + 1 + 1 + 1 + 1, 0, none⟩), .map (some (w.heap.size + 1 + 1 + 1 + 1 + 1 + 1)), .int .i64 0] 160, .cells #[.pointer (some ⟨w.heap.size + 1 + 1 + 1 + 1 + 1 + 1 + 1, 0, none⟩)] 157, .map es4 c4, .cells #[.map (some (w.heap.size + 1 + 1 + 1 + 1 + 1 + 1 + 1 + 1 + 1))] 162, .cells #[.string ⟨#[]⟩] 9, .cells #[.string ⟨#[10]⟩] 9, .cells #[.int .i64 0] 3] w 11 (by simp)
  have q12 : W0.heap[w.heap.size + 1 + 1 + 1 + 1 + 1 + 1 + 1 + 1 + 1 + 1 + 1 + 1]? = some (.cells #[.string ⟨#[10]⟩] 9) := by rw [show w.heap.size + 1 + 1 + 1 + 1 + 1 + 1 + 1 + 1 + 1 + 1 + 1 + 1 = w.heap.size + 12 by omega, ← hW0]; exact allocs_heap [(.cells #[.pointer none] 22 : Obj), .cells #[.nilIface] 90, .map #[] 0, .map #[] 0, .map #[] 0, .cells #[.slice none 0 0, .slice none 0 0, .map (some (w.heap.size + 1 + 1)), .map (some (w.heap.size + 1 + 1 + 1)), .map (some (w.heap.size + 1 + 1 + 1 + 1))] 99, .map #[] 0, .cells #[.pointer (some ⟨w.heap.size + 1 + 1 + 1 + 1 + 1, 0, none⟩), .map (some (w.heap.size + 1 + 1 + 1 + 1 + 1 + 1)), .int .i64 0] 160, .cells #[.pointer (some ⟨w.heap.size + 1 + 1 + 1 + 1 + 1 + 1 + 1, 0, none⟩)] 157, .map es4 c4, .cells #[.map (some (w.heap.size + 1 + 1 + 1 + 1 + 1 + 1 + 1 + 1 + 1))] 162, .cells #[.string ⟨#[]⟩] 9, .cells #[.string ⟨#[10]⟩] 9, .cells #[.int .i64 0] 3] w 12 (by simp)
  have q13 : W0.heap[w.heap.size + 1 + 1 + 1 + 1 + 1 + 1 + 1 + 1 + 1 + 1 + 1 + 1 + 1]? = some (.cells #[.int .i64 0] 3) := by rw [show w.heap.size + 1 + 1 + 1 + 1 + 1 + 1 + 1 + 1 + 1 + 1 + 1 + 1 + 1 = w.heap.size + 13 by omega, ← hW0]; exact allocs_heap [(.cells #[.pointer none] 22 : Obj), .cells #[.nilIface] 90, .map #[] 0, .map #[] 0, .map #[] 0, .cells #[.slice none 0 0, .slice none 0 0, .map (some (w.heap.size + 1 + 1)), .map (some (w.heap.size + 1 + 1 + 1)), .map (some (w.heap.size + 1 + 1 + 1 + 1))] 99, .map #[] 0, .cells #[.pointer (some ⟨w.heap.size + 1 + 1 + 1 + 1 + 1, 0, none⟩), .map (some (w.heap.size + 1 + 1 + 1 + 1 + 1 + 1)), .int .i64 0] 160, .cells #[.pointer (some ⟨w.heap.size + 1 + 1 + 1 + 1 + 1 + 1 + 1, 0, none⟩)] 157, .map es4 c4, .cells #[.map (some (w.heap.size + 1 + 1 + 1 + 1 + 1 + 1 + 1 + 1 + 1))] 162, .cells #[.string ⟨#[]⟩] 9, .cells #[.string ⟨#[10]⟩] 9, .cells #[.int .i64 0] 3] w 13 (by simp)
  have hBz := allocs_below [(.cells #[.pointer none] 22 : Obj), .cells #[.nilIface] 90, .map #[] 0, .map #[] 0, .map #[] 0, .cells #[.slice none 0 0, .slice none 0 0, .map (some (w.heap.size + 1 + 1)), .map (some (w.heap.size + 1 + 1 + 1)), .map (some (w.heap.size + 1 + 1 + 1 + 1))] 99, .map #[] 0, .cells #[.pointer (some ⟨w.heap.size + 1 + 1 + 1 + 1 + 1, 0, none⟩), .map (some (w.heap.size + 1 + 1 + 1 + 1 + 1 + 1)), .int .i64 0] 160, .cells #[.pointer (some ⟨w.heap.size + 1 + 1 + 1 + 1 + 1 + 1 + 1, 0, none⟩)] 157, .map es4 c4, .cells #[.map (some (w.heap.size + 1 + 1 + 1 + 1 + 1 + 1 + 1 + 1 + 1))] 162, .cells #[.string ⟨#[]⟩] 9, .cells #[.string ⟨#[10]⟩] 9, .cells #[.int .i64 0] 3] w
  have hB0 : Below w.heap.size w W0 := by rw [← hW0]; exact hBz.1
  have hsz : W0.heap.size = w.heap.size + 14 := by rw [← hW0]; exact hBz.2
  rw [hW0]
  clear hBz hW0
  have t12 : W0.cell? ⟨w.heap.size + 1 + 1 + 1 + 1 + 1 + 1 + 1 + 1 + 1 + 1 + 1 + 1, 0, none⟩ = some (.string ⟨#[10]⟩) := by rw [cell_at q12]; rfl
  have t11 : W0.cell? ⟨w.heap.size + 1 + 1 + 1 + 1 + 1 + 1 + 1 + 1 + 1 + 1 + 1, 0, none⟩ = some (.string ⟨#[]⟩) := by rw [cell_at q11]; rfl
  have t8 : W0.cell? ⟨w.heap.size + 1 + 1 + 1 + 1 + 1 + 1 + 1 + 1, 0, none⟩ = some (.pointer (some ⟨w.heap.size + 1 + 1 + 1 + 1 + 1 + 1 + 1, 0, none⟩)) := by rw [cell_at q8]; rfl
  have t70 : W0.cell? ⟨w.heap.size + 1 + 1 + 1 + 1 + 1 + 1 + 1, 0, none⟩ = some (.pointer (some ⟨w.heap.size + 1 + 1 + 1 + 1 + 1, 0, none⟩)) := by rw [cell_at q7]; rfl
  have t71 : W0.cell? ⟨w.heap.size + 1 + 1 + 1 + 1 + 1 + 1 + 1, 1, none⟩ = some (.map (some (w.heap.size + 1 + 1 + 1 + 1 + 1 + 1))) := by rw [cell_at q7]; rfl
  have t72 : W0.cell? ⟨w.heap.size + 1 + 1 + 1 + 1 + 1 + 1 + 1, 2, none⟩ = some (.int .i64 0) := by rw [cell_at q7]; rfl
  have tf : W0.frozen? ⟨w.heap.size + 1 + 1 + 1 + 1 + 1 + 1 + 1, 2, none⟩ = false := by simp [World.frozen?, q7]
  refine wpIn_rangeFunc_ownG hro h1 (gf := 180) (lb := #[.pointer (some ⟨w.heap.size + 1 + 1 + 1 + 1 + 1 + 1 + 1 + 1 + 1 + 1 + 1 + 1, 0, none⟩), .pointer (some ⟨w.heap.size + 1 + 1 + 1 + 1 + 1 + 1 + 1 + 1 + 1 + 1 + 1, 0, none⟩), .pointer (some ⟨w.heap.size + 1 + 1 + 1 + 1 + 1 + 1 + 1 + 1 + 1 + 1 + 1 + 1 + 1, 0, none⟩)]) rfl trivial (enters_of Tryz.func180 (by kernel_rfl) rfl)
    (encs := encE) (Kp := Below (w.heap.size + 7)) (S := fun ys => ys = [()]) (Sp := fun pre => pre = [()]) (N := 1) (w0 := W0)
    (fun l J Jx W hW _ _ hY h0 => split1_in (n - 1) l (w.heap.size + 1 + 1 + 1 + 1 + 1 + 1 + 1 + 1 + 1 + 1 + 1 + 1) (w.heap.size + 1 + 1 + 1 + 1 + 1 + 1 + 1 + 1 + 1 + 1 + 1) (w.heap.size + 1 + 1 + 1 + 1 + 1 + 1 + 1 + 1 + 1 + 1 + 1 + 1 + 1) (by omega) _ J Jx hY W ((hW.cell (p := ⟨w.heap.size + 1 + 1 + 1 + 1 + 1 + 1 + 1 + 1 + 1 + 1 + 1 + 1, 0, none⟩) (by show w.heap.size + 1 + 1 + 1 + 1 + 1 + 1 + 1 + 1 + 1 + 1 + 1 + 1 < _; omega)).trans t12) ((hW.cell (p := ⟨w.heap.size + 1 + 1 + 1 + 1 + 1 + 1 + 1 + 1 + 1 + 1 + 1, 0, none⟩) (by show w.heap.size + 1 + 1 + 1 + 1 + 1 + 1 + 1 + 1 + 1 + 1 + 1 < _; omega)).trans t11) h0)
    belowK_t (belowK_b (by omega)) (Below.refl _ _) (fun _ => rfl)
    (fun pre W => (W.cell? ⟨w.heap.size + 1 + 1 + 1 + 1 + 1 + 1 + 1 + 1, 0, none⟩ = some (.pointer (some ⟨w.heap.size + 1 + 1 + 1 + 1 + 1 + 1 + 1, 0, none⟩)) ∧ W.cell? ⟨w.heap.size + 1 + 1 + 1 + 1 + 1 + 1 + 1, 0, none⟩ = some (.pointer (some ⟨w.heap.size + 1 + 1 + 1 + 1 + 1, 0, none⟩)) ∧ W.cell? ⟨w.heap.size + 1 + 1 + 1 + 1 + 1 + 1 + 1, 1, none⟩ = some (.map (some (w.heap.size + 1 + 1 + 1 + 1 + 1 + 1))) ∧ W.cell? ⟨w.heap.size + 1 + 1 + 1 + 1 + 1 + 1 + 1, 2, none⟩ = some (.int .i64 pre.length) ∧ W.frozen? ⟨w.heap.size + 1 + 1 + 1 + 1 + 1 + 1 + 1, 2, none⟩ = false) ∧ Below (w.heap.size + 7) W0 W)
    (fun _ _ _ => False)
    (OwnFrom.and (Own.from (fun s A B row hs hg hr => ⟨cell_kept hs.1 hg hr, cell_kept hs.2.1 hg hr, cell_kept hs.2.2.1 hg hr, cell_kept hs.2.2.2.1 hg hr, (frozen_kept hs.2.2.2.1 hg hr).trans hs.2.2.2.2⟩) _) (ownFrom_below (by omega) (by omega)))
    (fun c s A B row hs hg hr => hs) ⟨⟨t8, t70, t71, t72, tf⟩, Below.refl _ _⟩ ?a1 ?assign ?body ?done ?stop
  case assign =>
    intro l x W K hK
    unfold encE
    gi_wp2
    exact hK
  case body =>
    rintro l pre ⟨⟩ W ⟨⟨i1, i2, i3, i4, i5⟩, hB⟩ hlen
    obtain rfl : pre = [] := List.eq_nil_of_length_eq_zero (by omega)
    have i4 : W.cell? ⟨w.heap.size + 1 + 1 + 1 + 1 + 1 + 1 + 1, 2, none⟩ = some (.int .i64 0) := i4
    have hWs : W0.heap.size ≤ W.heap.size := hB.size
    obtain ⟨W1, hW1⟩ : ∃ W1, W.setCell ⟨w.heap.size + 1 + 1 + 1 + 1 + 1 + 1 + 1, 2, none⟩ (.int .i64 1) = W1 := ⟨_, rfl⟩
    have k1 : W1.cell? ⟨w.heap.size + 1 + 1 + 1 + 1 + 1 + 1 + 1 + 1, 0, none⟩ = some (.pointer (some ⟨w.heap.size + 1 + 1 + 1 + 1 + 1 + 1 + 1, 0, none⟩)) := by rw [← hW1, World.cell?_setCell_far _ _ _ _ (by simp)]; exact i1
    have k2 : W1.cell? ⟨w.heap.size + 1 + 1 + 1 + 1 + 1 + 1 + 1, 0, none⟩ = some (.pointer (some ⟨w.heap.size + 1 + 1 + 1 + 1 + 1, 0, none⟩)) := by rw [← hW1, World.cell?_setCell_other _ _ _ _ (by intro e; cases e)]; exact i2
    have k3 : W1.cell? ⟨w.heap.size + 1 + 1 + 1 + 1 + 1 + 1 + 1, 1, none⟩ = some (.map (some (w.heap.size + 1 + 1 + 1 + 1 + 1 + 1))) := by rw [← hW1, World.cell?_setCell_other _ _ _ _ (by intro e; cases e)]; exact i3
    have k4 : W1.cell? ⟨w.heap.size + 1 + 1 + 1 + 1 + 1 + 1 + 1, 2, none⟩ = some (.int .i64 1) := by rw [← hW1]; exact World.cell?_setCell_same' _ _ _ (by rw [i4]; rfl)
    have k5 : W1.frozen? ⟨w.heap.size + 1 + 1 + 1 + 1 + 1 + 1 + 1, 2, none⟩ = false := by rw [← hW1, World.frozen?_setCell]; exact i5
    have kK : KeepsFrom W0.heap.size W W1 := by rw [← hW1]; exact (KeepsOthers.setCell W _ _).from _
    have kB : Below (w.heap.size + 7) W W1 := by rw [← hW1]; exact (Below.refl _ W).setCell (p := ⟨w.heap.size + 1 + 1 + 1 + 1 + 1 + 1 + 1, 2, none⟩) (by show w.heap.size + 7 ≤ w.heap.size + 1 + 1 + 1 + 1 + 1 + 1 + 1; omega) _
    have HK := Lib.hid (show _ ∧ _ ∧ _ ∧ _ ∧ _ ∧ KeepsFrom W0.heap.size W W1 ∧ Below (w.heap.size + 7) W W1 from ⟨k1, k2, k3, k4, k5, kK, kB⟩)
    clear k1 k2 k3 k4 k5 kK kB
    have HB := Lib.hid hB
    clear hB
    gi_wp2_with (first
      | (refine ⟨trivial, ?_⟩; gi_at_call 86; refine (CallsIn.inRound l (callsIn_wide.2 (trim_e _))).mono ?_; rintro e w1 ⟨rfl, rfl⟩)
      | (refine ⟨trivial, ?_⟩; gi_at_call 85; refine (CallsIn.inRound l (callsIn_wide.2 (cut_e _))).mono ?_; rintro e w1 ⟨rfl, rfl⟩)
      | (refine ⟨trivial, ?_⟩; gi_at_call 87; refine (CallsIn.inRound l (callsIn_wide.2 (fields_e _ _))).mono ?_; rintro e W2 ⟨⟨a2, c2, rfl⟩, hB2⟩))
    obtain ⟨k1, k2, k3, k4, k5, kK, kB⟩ := HK.out
    have hs1 : w.heap.size + 14 ≤ W1.heap.size := by have := kK.size; omega
    have kk : ∀ (b j : Nat), b < w.heap.size + 14 → W2.cell? ⟨b, j, none⟩ = W1.cell? ⟨b, j, none⟩ := fun b j hb => hB2.cell (p := ⟨b, j, none⟩) (by show b < _; omega)
    have kf : W2.frozen? ⟨w.heap.size + 1 + 1 + 1 + 1 + 1 + 1 + 1, 2, none⟩ = false := (hB2.frozen (p := ⟨w.heap.size + 1 + 1 + 1 + 1 + 1 + 1 + 1, 2, none⟩) (by show w.heap.size + 1 + 1 + 1 + 1 + 1 + 1 + 1 < _; omega)).trans k5
    refine ⟨kK.trans (KeepsFrom.of_grownBy (row := none) ⟨hB2.os, hB2.tape, hB2.output, hB2.size, fun k hk _ => hB2.block k hk⟩ (fun j e => by cases e)), kB.trans (hB2.mono (by omega)), ⟨?_, ?_, ?_, ?_, kf⟩, HB.out.trans (kB.trans (hB2.mono (by omega)))⟩
    · rw [kk _ _ (by omega)]; exact k1
    · rw [kk _ _ (by omega)]; exact k2
    · rw [kk _ _ (by omega)]; exact k3
    · rw [kk _ _ (by omega)]; exact k4
  case done =>
    rintro D ys W hD rfl ⟨⟨i1, i2, i3, i4, i5⟩, hB⟩ hK
    have HB := Lib.hid hB
    have hlm : W.heap[w.heap.size + 1 + 1 + 1 + 1 + 1 + 1]? = some (.map #[] 0) := (hB.block _ (by omega)).trans q6
    have HE := Lib.hid (ends_e (w.heap.size + 1 + 1 + 1 + 1 + 1 + 1 + 1) (w.heap.size + 1 + 1 + 1 + 1 + 1 + 1) W i3 hlm)
    clear hB hlm
    have hWs : w.heap.size + 14 ≤ W.heap.size := by have := HB.out.size; omega
    have p0 : W.heap[w.heap.size]? = some (.cells #[.pointer none] 22) := (HB.out.block _ (by omega)).trans q0
    have p1 : W.heap[w.heap.size + 1]? = some (.cells #[.nilIface] 90) := (HB.out.block _ (by omega)).trans q1
    gi_wp2_with (first
      | (refine ⟨trivial, ?_⟩; gi_at_call 89; refine (callsIn_wide.2 HE.out).mono ?_; rintro e W2 ⟨rfl, hB2⟩;
         have m0 := (hB2.block w.heap.size (by omega)).trans p0; have m1 := (hB2.block (w.heap.size + 1) (by omega)).trans p1;
         have u1 : W2.cell? ⟨w.heap.size + 1 + 1 + 1 + 1 + 1 + 1 + 1 + 1, 0, none⟩ = some (.pointer (some ⟨w.heap.size + 1 + 1 + 1 + 1 + 1 + 1 + 1, 0, none⟩)) := (hB2.cell (p := ⟨w.heap.size + 1 + 1 + 1 + 1 + 1 + 1 + 1 + 1, 0, none⟩) (by show w.heap.size + 1 + 1 + 1 + 1 + 1 + 1 + 1 + 1 < _; omega)).trans i1;
         have u2 : W2.cell? ⟨w.heap.size + 1 + 1 + 1 + 1 + 1 + 1 + 1, 0, none⟩ = some (.pointer (some ⟨w.heap.size + 1 + 1 + 1 + 1 + 1, 0, none⟩)) := (hB2.cell (p := ⟨w.heap.size + 1 + 1 + 1 + 1 + 1 + 1 + 1, 0, none⟩) (by show w.heap.size + 1 + 1 + 1 + 1 + 1 + 1 + 1 < _; omega)).trans i2;
         have u3 : W2.cell? ⟨w.heap.size, 0, none⟩ = some (.pointer none) := by rw [cell_at m0]; rfl;
         have u4 : W2.frozen? ⟨w.heap.size, 0, none⟩ = false := by simp [World.frozen?, m0];
         have u5 : W2.cell? ⟨w.heap.size + 1, 0, none⟩ = some .nilIface := by rw [cell_at m1]; rfl;
         have u6 : W2.frozen? ⟨w.heap.size + 1, 0, none⟩ = false := by simp [World.frozen?, m1];
         have HBW := Lib.hid (HB.out.trans (hB2.mono (by omega)));
         have HKD := Lib.hid ((hB2.block D (Array.getElem?_eq_some_iff.1 hK).1).trans hK);
         clear hB2 m0 m1 p0 p1))
    obtain ⟨W3, hW3⟩ : ∃ W3, (W2.setCell ⟨w.heap.size, 0, none⟩ (.pointer (some ⟨w.heap.size + 1 + 1 + 1 + 1 + 1, 0, none⟩))).setCell ⟨w.heap.size + 1, 0, none⟩ .nilIface = W3 := ⟨_, rfl⟩
    have hK' : W3.heap[D]? = some (.deferred (some [])) := by rw [← hW3]; exact (KeepsOthers.setCell _ _ _).same D _ ((KeepsOthers.setCell _ _ _).same D _ HKD.out rfl) rfl
    have v0 : W3.cell? ⟨w.heap.size, 0, none⟩ = some (.pointer (some ⟨w.heap.size + 1 + 1 + 1 + 1 + 1, 0, none⟩)) := by
      rw [← hW3, World.cell?_setCell_far _ _ _ _ (by simp)]; exact World.cell?_setCell_same' _ _ _ (by rw [u3]; rfl)
    have v1 : W3.cell? ⟨w.heap.size + 1, 0, none⟩ = some .nilIface := by
      rw [← hW3]; exact World.cell?_setCell_same' _ _ _ (by rw [World.cell?_setCell_far _ _ _ _ (by simp), u5]; rfl)
    have hb3 : Below w.heap.size W2 W3 := by rw [← hW3]; exact ((Below.refl _ W2).setCell (p := ⟨w.heap.size, 0, none⟩) (Nat.le_refl _) _).setCell (p := ⟨w.heap.size + 1, 0, none⟩) (by show w.heap.size ≤ w.heap.size + 1; omega) _
    have hk3 : ∀ k, w.heap.size + 1 < k → W3.heap[k]? = W2.heap[k]? := fun k hk => by rw [← hW3, setCell_other _ (by omega), setCell_other _ (by omega)]
    rw [hW3]
    refine ⟨by simp, .inl ⟨_, _, rfl, run_takeDeferred hK', ?_⟩⟩
    have y0 := cell_kept v0 (grownBy_putObj' _ D (.deferred none)) (fun r e => by cases e; exact ⟨_, hK', rfl⟩)
    have y1 := cell_kept v1 (grownBy_putObj' _ D (.deferred none)) (fun r e => by cases e; exact ⟨_, hK', rfl⟩)
    have hb4 : Below (w.heap.size + 14) W3 (W3.putObj D (.deferred none)) := belowK_b (w := W0) (by omega) _ D _ _ hD hK' rfl rfl
    have hk4 : ∀ k, w.heap.size + 1 < k → k < w.heap.size + 7 → (W3.putObj D (.deferred none)).heap[k]? = W0.heap[k]? := fun k h1 h2 => (hb4.block k (by omega)).trans ((hk3 k h1).trans (HBW.out.block k (by omega)))
    have hs4 : w.heap.size + 14 ≤ (W3.putObj D (.deferred none)).heap.size := by have := hb4.size; have := hb3.size; have := HBW.out.size; omega
    refine ⟨.tuple #[.pointer (some ⟨w.heap.size + 1 + 1 + 1 + 1 + 1, 0, none⟩), .nilIface], ?_, ⟨_, rfl, by omega, .slice none 0 0, .slice none 0 0, w.heap.size + 1 + 1, w.heap.size + 1 + 1 + 1, w.heap.size + 1 + 1 + 1 + 1, (hk4 _ (by omega) (by omega)).trans q5, .inl ⟨rfl, rfl⟩, .inl ⟨rfl, rfl⟩, ⟨by omega, #[], 0, (hk4 _ (by omega) (by omega)).trans q2, trivial⟩, ⟨by omega, #[], 0, (hk4 _ (by omega) (by omega)).trans q3, trivial⟩, by simp, by simp⟩, ?_⟩
    · simp [results, Tryz.f44, go_sem, y0, y1]
    · exact hB0.trans ((HBW.out.mono (by omega)).trans (hb3.trans (hb4.mono (by omega))))
  case stop =>
    rintro D c pre W hD - h hK
    exact h.elim

theorem parse_e (w : World) : Calls Tryz.prog 44 #[.string ⟨#[]⟩] w fun e w' =>
    (∃ bp, e = .returned (.tuple #[.pointer (some ⟨bp, 0, none⟩), .nilIface]) ∧ IsProps w'.heap.size w' bp ⟨[], [], [], [], []⟩) ∧ Below w.heap.size w w' :=
  callsIn_wide.1 (parse_in 3 (Nat.le_refl _) w)
end Go.Proofs.YtakbacfhcllioaaGreatDoor
