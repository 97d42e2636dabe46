/- glossaryref12.Bytes: its answer at every number, nine ways. -/
import Derived.Test.YtakbacfhcllioaaGreatDoorK
import Derived.WalkKit
import Derived.WalkSpells
import Derived.WalkLawsBesides
import Derived.OpenShut
import Derived.Handy
import Derived.RegionTactic
import Derived.ChangeAlike
import Derived.Laws.CopyRow
import Derived.Deep.WholeRow
import Derived.Laws.BytesArg
namespace Go.Proofs.YtakbacfhcllioaaGreatDoor
open Go.RowKit

set_option maxRecDepth 100000 in
set_option maxHeartbeats 1000000 in
theorem rbytes_0 (n : Int) (g0 : 0 ≤ n) (g1 : n ≤ 0) (w : World) :
    Calls Tryz.prog 31 #[.int .u64 n] w fun e w' => e = .returned (.string (strOfNums (encI n))) ∧ Below w.heap.size w w' := by
  rw [encI_0 g0 g1]
  have hcv := conv1
  have hsz := strOfNums_size
  go_enter Tryz.func31, Tryz.ntmps31
  go_wp2
  go_rounds 9
  go_ret
  refine ⟨?_, by go_grown⟩
  simp only [str_nil, ← str_app, List.cons_append, List.nil_append]
  rfl


set_option maxRecDepth 100000 in
set_option maxHeartbeats 1000000 in
theorem rbytes_1 (n : Int) (g0 : 1 ≤ n) (g1 : n ≤ 255) (w : World) :
    Calls Tryz.prog 31 #[.int .u64 n] w fun e w' => e = .returned (.string (strOfNums (encI n))) ∧ Below w.heap.size w w' := by
  rw [encI_1 g0 g1]
  have hcv := conv1
  have hsz := strOfNums_size
  go_enter Tryz.func31, Tryz.ntmps31
  go_wp2
  go_rounds 9
  go_ret
  refine ⟨?_, by go_grown⟩
  simp only [str_nil, ← str_app, List.cons_append, List.nil_append]
  rfl


set_option maxRecDepth 100000 in
set_option maxHeartbeats 1000000 in
theorem rbytes_2 (n : Int) (g0 : 256 ≤ n) (g1 : n ≤ 65535) (w : World) :
    Calls Tryz.prog 31 #[.int .u64 n] w fun e w' => e = .returned (.string (strOfNums (encI n))) ∧ Below w.heap.size w w' := by
  rw [encI_2 g0 g1]
  have hcv := conv1
  have hsz := strOfNums_size
  go_enter Tryz.func31, Tryz.ntmps31
  go_wp2
  go_rounds 9
  go_ret
  refine ⟨?_, by go_grown⟩
  simp only [str_nil, ← str_app, List.cons_append, List.nil_append]
  rfl


set_option maxRecDepth 100000 in
set_option maxHeartbeats 1000000 in
theorem rbytes_3 (n : Int) (g0 : 65536 ≤ n) (g1 : n ≤ 16777215) (w : World) :
    Calls Tryz.prog 31 #[.int .u64 n] w fun e w' => e = .returned (.string (strOfNums (encI n))) ∧ Below w.heap.size w w' := by
  rw [encI_3 g0 g1, ← (show [5, n / 256 / 256, n / 256 % 256, n % 256] = [5, n / 65536, n / 256 % 256, n % 256] from by simp only [List.cons.injEq, and_true, true_and]; omega)]
  have hcv := conv1
  have hsz := strOfNums_size
  go_enter Tryz.func31, Tryz.ntmps31
  go_wp2
  go_rounds 9
  go_ret
  refine ⟨?_, by go_grown⟩
  simp only [str_nil, ← str_app, List.cons_append, List.nil_append]
  rfl


set_option maxRecDepth 100000 in
set_option maxHeartbeats 1000000 in
theorem rbytes_4 (n : Int) (g0 : 16777216 ≤ n) (g1 : n ≤ 4294967295) (w : World) :
    Calls Tryz.prog 31 #[.int .u64 n] w fun e w' => e = .returned (.string (strOfNums (encI n))) ∧ Below w.heap.size w w' := by
  rw [encI_4 g0 g1, ← (show [6, n / 256 / 256 / 256, n / 256 / 256 % 256, n / 256 % 256, n % 256] = [6, n / 16777216, n / 65536 % 256, n / 256 % 256, n % 256] from by simp only [List.cons.injEq, and_true, true_and]; omega)]
  have hcv := conv1
  have hsz := strOfNums_size
  go_enter Tryz.func31, Tryz.ntmps31
  go_wp2
  go_rounds 9
  go_ret
  refine ⟨?_, by go_grown⟩
  simp only [str_nil, ← str_app, List.cons_append, List.nil_append]
  rfl


set_option maxRecDepth 100000 in
set_option maxHeartbeats 1000000 in
theorem rbytes_5 (n : Int) (g0 : 4294967296 ≤ n) (g1 : n ≤ 1099511627775) (w : World) :
    Calls Tryz.prog 31 #[.int .u64 n] w fun e w' => e = .returned (.string (strOfNums (encI n))) ∧ Below w.heap.size w w' := by
  rw [encI_5 g0 g1, ← (show [7, n / 256 / 256 / 256 / 256, n / 256 / 256 / 256 % 256, n / 256 / 256 % 256, n / 256 % 256, n % 256] = [7, n / 4294967296, n / 16777216 % 256, n / 65536 % 256, n / 256 % 256, n % 256] from by simp only [List.cons.injEq, and_true, true_and]; omega)]
  have hcv := conv1
  have hsz := strOfNums_size
  go_enter Tryz.func31, Tryz.ntmps31
  go_wp2
  go_rounds 9
  go_ret
  refine ⟨?_, by go_grown⟩
  simp only [str_nil, ← str_app, List.cons_append, List.nil_append]
  rfl


set_option maxRecDepth 100000 in
set_option maxHeartbeats 1000000 in
theorem rbytes_6 (n : Int) (g0 : 1099511627776 ≤ n) (g1 : n ≤ 281474976710655) (w : World) :
    Calls Tryz.prog 31 #[.int .u64 n] w fun e w' => e = .returned (.string (strOfNums (encI n))) ∧ Below w.heap.size w w' := by
  rw [encI_6 g0 g1, ← (show [8, n / 256 / 256 / 256 / 256 / 256, n / 256 / 256 / 256 / 256 % 256, n / 256 / 256 / 256 % 256, n / 256 / 256 % 256, n / 256 % 256, n % 256] = [8, n / 1099511627776, n / 4294967296 % 256, n / 16777216 % 256, n / 65536 % 256, n / 256 % 256, n % 256] from by simp only [List.cons.injEq, and_true, true_and]; omega)]
  have hcv := conv1
  have hsz := strOfNums_size
  go_enter Tryz.func31, Tryz.ntmps31
  go_wp2
  go_rounds 9
  go_ret
  refine ⟨?_, by go_grown⟩
  simp only [str_nil, ← str_app, List.cons_append, List.nil_append]
  rfl


set_option maxRecDepth 100000 in
set_option maxHeartbeats 1000000 in
theorem rbytes_7 (n : Int) (g0 : 281474976710656 ≤ n) (g1 : n ≤ 72057594037927935) (w : World) :
    Calls Tryz.prog 31 #[.int .u64 n] w fun e w' => e = .returned (.string (strOfNums (encI n))) ∧ Below w.heap.size w w' := by
  rw [encI_7 g0 g1, ← (show [9, n / 256 / 256 / 256 / 256 / 256 / 256, n / 256 / 256 / 256 / 256 / 256 % 256, n / 256 / 256 / 256 / 256 % 256, n / 256 / 256 / 256 % 256, n / 256 / 256 % 256, n / 256 % 256, n % 256] = [9, n / 281474976710656, n / 1099511627776 % 256, n / 4294967296 % 256, n / 16777216 % 256, n / 65536 % 256, n / 256 % 256, n % 256] from by simp only [List.cons.injEq, and_true, true_and]; omega)]
  have hcv := conv1
  have hsz := strOfNums_size
  go_enter Tryz.func31, Tryz.ntmps31
  go_wp2
  go_rounds 9
  go_ret
  refine ⟨?_, by go_grown⟩
  simp only [str_nil, ← str_app, List.cons_append, List.nil_append]
  rfl


set_option maxRecDepth 100000 in
set_option maxHeartbeats 1000000 in
theorem rbytes_8 (n : Int) (g0 : 72057594037927936 ≤ n) (g1 : n ≤ 18446744073709551615) (w : World) :
    Calls Tryz.prog 31 #[.int .u64 n] w fun e w' => e = .returned (.string (strOfNums (encI n))) ∧ Below w.heap.size w w' := by
  rw [encI_8 g0 g1, ← (show [10, n / 256 / 256 / 256 / 256 / 256 / 256 / 256, n / 256 / 256 / 256 / 256 / 256 / 256 % 256, n / 256 / 256 / 256 / 256 / 256 % 256, n / 256 / 256 / 256 / 256 % 256, n / 256 / 256 / 256 % 256, n / 256 / 256 % 256, n / 256 % 256, n % 256] = [10, n / 72057594037927936, n / 281474976710656 % 256, n / 1099511627776 % 256, n / 4294967296 % 256, n / 16777216 % 256, n / 65536 % 256, n / 256 % 256, n % 256] from by simp only [List.cons.injEq, and_true, true_and]; omega)]
  have hcv := conv1
  have hsz := strOfNums_size
  go_enter Tryz.func31, Tryz.ntmps31
  go_wp2
  go_rounds 9
  go_ret
  refine ⟨?_, by go_grown⟩
  simp only [str_nil, ← str_app, List.cons_append, List.nil_append]
  rfl

/-- glossaryref12.Bytes, at every number. -/
theorem rbytes_any (n : Int) (g0 : 0 ≤ n) (g1 : n ≤ 18446744073709551615) (w : World) :
    Calls Tryz.prog 31 #[.int .u64 n] w fun e w' => e = .returned (.string (strOfNums (encI n))) ∧ Below w.heap.size w w' := by
  by_cases c0 : n < 1
  · exact rbytes_0 n (by omega) (by omega) w
  by_cases c1 : n < 256
  · exact rbytes_1 n (by omega) (by omega) w
  by_cases c2 : n < 65536
  · exact rbytes_2 n (by omega) (by omega) w
  by_cases c3 : n < 16777216
  · exact rbytes_3 n (by omega) (by omega) w
  by_cases c4 : n < 4294967296
  · exact rbytes_4 n (by omega) (by omega) w
  by_cases c5 : n < 1099511627776
  · exact rbytes_5 n (by omega) (by omega) w
  by_cases c6 : n < 281474976710656
  · exact rbytes_6 n (by omega) (by omega) w
  by_cases c7 : n < 72057594037927936
  · exact rbytes_7 n (by omega) (by omega) w
  · exact rbytes_8 n (by omega) (by omega) w
end Go.Proofs.YtakbacfhcllioaaGreatDoor
