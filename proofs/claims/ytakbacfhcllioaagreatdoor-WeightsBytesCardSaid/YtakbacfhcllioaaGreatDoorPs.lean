/- props.Parse of the empty text: what the library answers there. -/
import Derived.Test.YtakbacfhcllioaaGreatDoorFi
import Derived.Laws.IdiomRangeMap
namespace Go.Proofs.YtakbacfhcllioaaGreatDoor
open Go.RowKit

theorem ix10 (w : World) : (Instr.index 9 (.string ⟨#[10]⟩) (.int .i64 0)).run Tryz.prog w = .ok (.int .u8 10) w := by kernel_rfl
theorem ix35 (w : World) : (Instr.index 9 (.string ⟨#[35]⟩) (.int .i64 0)).run Tryz.prog w = .ok (.int .u8 35) w := by kernel_rfl

theorem count_e (w : World) : Calls Tryz.prog 79 #[.string ⟨#[]⟩, .string ⟨#[10]⟩] w fun e w' => e = .returned (.int .i64 0) ∧ w = w' := by
  have h : ∀ w, (callFunc 126 #[.string ⟨#[]⟩, .int .u8 10]).run Tryz.prog w = .ok (.value (.int .i64 0)) w := fun _ => by kernel_rfl
  have hi := ix10
  go_enter Tryz.func79, Tryz.ntmps79
  go_wp2_with (fail)
  go_ret
  exact ⟨rfl, rfl⟩

theorem indexByte_e (w : World) (c : Int) (hc : c = 10 ∨ c = 35) : Calls Tryz.prog 201 #[.string ⟨#[]⟩, .int .u8 c] w fun e w' => e = .returned (.int .i64 (-1)) ∧ w = w' := by
  have h1 : ∀ w, (callFunc 234 #[.string ⟨#[]⟩, .int .u8 10]).run Tryz.prog w = .ok (.value (.int .i64 (-1))) w := fun _ => by kernel_rfl
  have h2 : ∀ w, (callFunc 234 #[.string ⟨#[]⟩, .int .u8 35]).run Tryz.prog w = .ok (.value (.int .i64 (-1))) w := fun _ => by kernel_rfl
  rcases hc with rfl | rfl
  · go_enter Tryz.func201, Tryz.ntmps201
    go_wp2
    go_ret
    exact ⟨rfl, rfl⟩
  · go_enter Tryz.func201, Tryz.ntmps201
    go_wp2
    go_ret
    exact ⟨rfl, rfl⟩

set_option maxRecDepth 100000 in
theorem sidx_nl (w : World) : Calls Tryz.prog 168 #[.string ⟨#[]⟩, .string ⟨#[10]⟩] w fun e w' => e = .returned (.int .i64 (-1)) ∧ w = w' := by
  have H := Lib.hid (indexByte_e w 10 (.inl rfl))
  have hi := ix10
  go_enter Tryz.func168, Tryz.ntmps168
  go_wp2_with (first | (go_at_call 201; (with_reducible refine H.out.mono ?_); rintro e w1 ⟨rfl, rfl⟩))
  go_ret
  exact ⟨rfl, rfl⟩
set_option maxRecDepth 100000 in
theorem sidx_hash (w : World) : Calls Tryz.prog 168 #[.string ⟨#[]⟩, .string ⟨#[35]⟩] w fun e w' => e = .returned (.int .i64 (-1)) ∧ w = w' := by
  have H := Lib.hid (indexByte_e w 35 (.inr rfl))
  have hi := ix35
  go_enter Tryz.func168, Tryz.ntmps168
  go_wp2_with (first | (go_at_call 201; (with_reducible refine H.out.mono ?_); rintro e w1 ⟨rfl, rfl⟩))
  go_ret
  exact ⟨rfl, rfl⟩
theorem index_nl (w : World) : Calls Tryz.prog 127 #[.string ⟨#[]⟩, .string ⟨#[10]⟩] w fun e w' => e = .returned (.int .i64 (-1)) ∧ w = w' := by
  have H := Lib.hid (sidx_nl w)
  go_enter Tryz.func127, Tryz.ntmps127
  go_wp2_with (first | (go_at_call 168; (with_reducible refine H.out.mono ?_); rintro e w1 ⟨rfl, rfl⟩))
  go_ret
  exact ⟨rfl, rfl⟩
theorem scut_e (w : World) : Calls Tryz.prog 135 #[.string ⟨#[]⟩, .string ⟨#[35]⟩] w fun e w' => e = .returned (.tuple #[.string ⟨#[]⟩, .string ⟨#[]⟩, .bool false]) ∧ w = w' := by
  have H := Lib.hid (sidx_hash w)
  go_enter Tryz.func135, Tryz.ntmps135
  go_wp2_with (first | (go_at_call 168; (with_reducible refine H.out.mono ?_); rintro e w1 ⟨rfl, rfl⟩))
  go_ret3
  exact ⟨rfl, rfl⟩
theorem cut_e (w : World) : Calls Tryz.prog 85 #[.string ⟨#[]⟩, .string ⟨#[35]⟩] w fun e w' => e = .returned (.tuple #[.string ⟨#[]⟩, .string ⟨#[]⟩, .bool false]) ∧ w = w' := by
  have H := Lib.hid (scut_e w)
  go_enter Tryz.func85, Tryz.ntmps85
  go_wp2_with (first | (go_at_call 135; (with_reducible refine H.out.mono ?_); rintro e w1 ⟨rfl, rfl⟩))
  go_ret3
  exact ⟨rfl, rfl⟩
theorem hsuf_e (w : World) : Calls Tryz.prog 181 #[.string ⟨#[]⟩, .string ⟨#[13]⟩] w fun e w' => e = .returned (.bool false) ∧ w = w' := by
  go_enter Tryz.func181, Tryz.ntmps181
  go_wp2
  go_ret
  exact ⟨rfl, rfl⟩
theorem strim_e (w : World) : Calls Tryz.prog 136 #[.string ⟨#[]⟩, .string ⟨#[13]⟩] w fun e w' => e = .returned (.string ⟨#[]⟩) ∧ w = w' := by
  have H := Lib.hid (hsuf_e w)
  go_enter Tryz.func136, Tryz.ntmps136
  go_wp2_with (first | (go_at_call 181; (with_reducible refine H.out.mono ?_); rintro e w1 ⟨rfl, rfl⟩))
  go_ret
  exact ⟨rfl, rfl⟩
theorem trim_e (w : World) : Calls Tryz.prog 86 #[.string ⟨#[]⟩, .string ⟨#[13]⟩] w fun e w' => e = .returned (.string ⟨#[]⟩) ∧ w = w' := by
  have H := Lib.hid (strim_e w)
  go_enter Tryz.func86, Tryz.ntmps86
  go_wp2_with (first | (go_at_call 136; (with_reducible refine H.out.mono ?_); rintro e w1 ⟨rfl, rfl⟩))
  go_ret
  exact ⟨rfl, rfl⟩

def spanZ : Obj := .cells (List.replicate 64 (Value.int .i64 0)).toArray 235
theorem mk233 (w : World) : (Instr.makeSlice 233 (.int .i64 0) (.int .i64 32)).run Tryz.prog w = .ok (.slice (some ⟨w.heap.size, 0, none⟩) 0 32) (w.alloc spanZ) := by kernel_rfl
theorem mk43 (w : World) : (Instr.makeSlice 43 (.int .i64 0) (.int .i64 0)).run Tryz.prog w = .ok (.slice (some ⟨w.heap.size, 0, none⟩) 0 0) (w.alloc (.cells #[] 9)) := by kernel_rfl

set_option maxRecDepth 100000 in
set_option maxHeartbeats 2000000 in
theorem fields_e (w : World) (f : Value) : Calls Tryz.prog 87 #[.string ⟨#[]⟩, f] w fun e w' => (∃ a c, e = .returned (.slice a 0 c)) ∧ Below w.heap.size w w' := by
  have h1 := mk233
  have h2 := mk43
  go_enter Tryz.func87, Tryz.ntmps87
  go_wp2_with (fail)
  obtain ⟨W0, hW0⟩ : ∃ W0, (w.alloc spanZ).iter ⟨#[]⟩ 0 = W0 := ⟨_, rfl⟩
  have hI0 : W0.heap[w.heap.size + 1]? = some (.stringIter ⟨#[]⟩ 0) := by
    rw [← hW0]; have := World.iter_heap (w.alloc spanZ) ⟨#[]⟩ 0; rwa [show (w.alloc spanZ).heap.size = w.heap.size + 1 from by simp] at this
  have hB0 : Below w.heap.size w W0 := by rw [← hW0]; exact ((Below.refl _ w).alloc (Nat.le_refl _) _).alloc (by simp) _
  rw [hW0]
  clear hW0
  have HB := Lib.hid hB0
  have hnext := fun ty => Lib.run_next_end_at (P := Tryz.prog) W0 (w.heap.size + 1) ⟨#[]⟩ 0 ty hI0 (by decide)
  go_loopw [5, 6] (fun v o wr => v = .slice (some ⟨w.heap.size, 0, none⟩) 0 32 ∧ o = .int .i64 (-1) ∧ wr = W0) (fun _ _ _ => 0)
  case atStart => exact ⟨rfl, rfl, rfl⟩
  case round =>
    obtain ⟨rfl, rfl, rfl⟩ := hrel
    go_wp2_with (fail)
    go_loopw [49] (fun o wx => o = .int .i64 0 ∧ wx = wr.alloc (.cells #[] 9)) (fun _ _ => 0)
    case atStart => exact ⟨rfl, rfl⟩
    case round =>
      obtain ⟨rfl, rfl⟩ := hrel
      go_wp2_with (fail)
      go_ret
      exact ⟨⟨_, _, rfl⟩, HB.out.alloc HB.out.size _⟩

set_option maxRecDepth 100000 in
theorem len64_e (w : World) : Calls Tryz.prog 222 #[.int .u64 0] w fun e w' => e = .returned (.int .i64 0) ∧ w = w' := by
  go_enter Tryz.func222, Tryz.ntmps222
  go_wp2_with (fail)
  go_ret
  refine ⟨?_, rfl⟩
  kernel_rfl
theorem len_e (w : World) : Calls Tryz.prog 183 #[.int .u64 0] w fun e w' => e = .returned (.int .i64 0) ∧ w = w' := by
  have H := Lib.hid (len64_e w)
  go_enter Tryz.func183, Tryz.ntmps183
  go_wp2_with (first | (go_at_call 222; (with_reducible refine H.out.mono ?_); rintro e w1 ⟨rfl, rfl⟩))
  go_ret
  exact ⟨rfl, rfl⟩

set_option maxRecDepth 100000 in
theorem insort_e (w : World) : Calls Tryz.prog 213 #[.slice none 0 0, .int .i64 0, .int .i64 0] w fun e w' => e = .returned (.tuple #[]) ∧ w = w' := by
  go_enter Tryz.func213, Tryz.ntmps213
  go_wp2_with (fail)
  go_loopw [6] (fun o wx => o = .int .i64 1 ∧ wx = w) (fun _ _ => 0)
  case atStart => exact ⟨rfl, rfl⟩
  case round =>
    obtain ⟨rfl, rfl⟩ := hrel
    go_wp2_with (fail)
    go_end0
    exact ⟨rfl, rfl⟩

set_option maxRecDepth 100000 in
set_option maxHeartbeats 2000000 in
theorem pdq_e (w : World) : Calls Tryz.prog 182 #[.slice none 0 0, .int .i64 0, .int .i64 0, .int .i64 0] w fun e w' => e = .returned (.tuple #[]) ∧ w = w' := by
  have H := Lib.hid (insort_e w)
  go_enter Tryz.func182, Tryz.ntmps182
  go_wp2_with (fail)
  go_loopw [1, 2, 3, 8, 9] (fun a b c d e wx => a = .int .i64 0 ∧ b = .int .i64 0 ∧ c = .int .i64 0 ∧ d = .bool true ∧ e = .bool true ∧ wx = w) (fun _ _ _ _ _ _ => 0)
  case atStart => exact ⟨rfl, rfl, rfl, rfl, rfl, rfl⟩
  case round =>
    obtain ⟨rfl, rfl, rfl, rfl, rfl, rfl⟩ := hrel
    go_wp2_with (first | (go_at_call 213; (with_reducible refine H.out.mono ?_); rintro e w1 ⟨rfl, rfl⟩))
    refine bodyPost_ret (results_none rfl _ _ _) rfl ?_
    exact ⟨rfl, rfl⟩
theorem sort_e (w : World) : Calls Tryz.prog 137 #[.slice none 0 0] w fun e w' => e = .returned (.tuple #[]) ∧ w = w' := by
  have H1 := Lib.hid (len_e w)
  have H2 := Lib.hid (pdq_e w)
  go_enter Tryz.func137, Tryz.ntmps137
  go_wp2_with (first
    | (go_at_call 183; (with_reducible refine H1.out.mono ?_); rintro e w1 ⟨rfl, rfl⟩)
    | (go_at_call 182; (with_reducible refine H2.out.mono ?_); rintro e w1 ⟨rfl, rfl⟩))
  go_end0
  exact ⟨rfl, rfl⟩

set_option maxRecDepth 100000 in
set_option maxHeartbeats 2000000 in
theorem ends_e (xb lm : Nat) (w : World) (h1 : w.cell? ⟨xb, 1, none⟩ = some (.map (some lm))) (h2 : w.heap[lm]? = some (.map #[] 0)) :
    Calls Tryz.prog 89 #[.pointer (some ⟨xb, 0, none⟩)] w fun e w' => e = .returned .nilIface ∧ Below w.heap.size w w' := by
  have hr := run_range_map (P := Tryz.prog) w 158 21 3 lm #[] 0 Tryz.underlying158 h2
  have hn : ∀ ty, (Instr.next (.pointer (some ⟨w.heap.size, 0, none⟩)) false ty).run Tryz.prog (w.alloc (.mapIter (some lm) 0 #[] 0)) = .ok (.tuple #[.bool false]) (w.alloc (.mapIter (some lm) 0 #[] 0)) := fun ty => by
    rcases run_next_map (P := Tryz.prog) w ty lm 0 0 #[] #[] 0 h2 (by simp) (Nat.le_refl _) with ⟨_, h⟩ | ⟨e, he, _⟩
    · exact h
    · simp [leftOf] at he
  have hmm := @run_makeMap Tryz.prog
  have hB0 : Below w.heap.size w (w.alloc (.mapIter (some lm) 0 #[] 0)) := (Below.refl _ w).alloc (Nat.le_refl _) _
  have HS := Lib.hid (sort_e (w.alloc (.mapIter (some lm) 0 #[] 0)))
  have HB := Lib.hid hB0
  clear hB0 h2
  go_enter Tryz.func89, Tryz.ntmps89
  go_wp2_with (fail)
  go_loopw [3] (fun a wx => a = .slice none 0 0 ∧ wx = w.alloc (.mapIter (some lm) 0 #[] 0)) (fun _ _ => 0)
  case atStart => exact ⟨rfl, rfl⟩
  case round =>
    obtain ⟨rfl, rfl⟩ := hrel
    go_wp2_with (first | (go_at_call 137; (with_reducible refine HS.out.mono ?_); rintro e w1 ⟨rfl, rfl⟩))
    go_loopw [27] (fun a wx => a = .int .i64 0 ∧ wx = (w.alloc (.mapIter (some lm) 0 #[] 0)).alloc (.map #[] 0)) (fun _ _ => 0)
    case atStart => exact ⟨rfl, rfl⟩
    case round =>
      obtain ⟨rfl, rfl⟩ := hrel
      go_wp2_with (fail)
      go_ret
      exact ⟨rfl, HB.out.alloc HB.out.size _⟩
end Go.Proofs.YtakbacfhcllioaaGreatDoor
