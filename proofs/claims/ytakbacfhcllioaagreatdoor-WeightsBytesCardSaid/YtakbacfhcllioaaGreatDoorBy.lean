/- weights.Bytes: its answer at every number, nine ways. -/
import Derived.Test.YtakbacfhcllioaaGreatDoorK
import Derived.WalkKit
import Derived.WalkSpells
import Derived.WalkLawsBesides
import Derived.OpenShut
import Derived.Handy
import Derived.RegionTactic
import Derived.ChangeAlike
import Derived.Laws.CopyRow
import Derived.Deep.WholeRow
import Derived.Laws.BytesArg
namespace Go.Proofs.YtakbacfhcllioaaGreatDoor
open Go.RowKit

set_option maxRecDepth 100000 in
set_option maxHeartbeats 1000000 in
theorem bytes_0 (n : Int) (_g0 : 0 ≤ n) (h0 : (n / 72057594037927936 % 256 == 0) = false) (w : World) :
    Calls Tryz.prog 30 #[.int .u64 n] w fun e w' => e = .returned (.string (strOfNums [10, n / 72057594037927936 % 256, n / 281474976710656 % 256, n / 1099511627776 % 256, n / 4294967296 % 256, n / 16777216 % 256, n / 65536 % 256, n / 256 % 256, n % 256])) ∧ Below w.heap.size w w' := by
  have hcp : (Builtin.copy_ #[81, 81] 3 #[.slice (some ⟨w.heap.size + 1, 1, none⟩) 8 8, .slice (some ⟨w.heap.size, 0, none⟩) 8 8]).run Tryz.prog
      ((w.alloc (.cells #[.int .u8 (n / 72057594037927936 % 256), .int .u8 (n / 281474976710656 % 256), .int .u8 (n / 1099511627776 % 256), .int .u8 (n / 4294967296 % 256), .int .u8 (n / 16777216 % 256), .int .u8 (n / 65536 % 256), .int .u8 (n / 256 % 256), .int .u8 (n % 256)] 130)).alloc (.cells #[.int .u8 10, .int .u8 0, .int .u8 0, .int .u8 0, .int .u8 0, .int .u8 0, .int .u8 0, .int .u8 0, .int .u8 0] 131)).drew = .ok (goInt 8) ((w.alloc (.cells #[.int .u8 (n / 72057594037927936 % 256), .int .u8 (n / 281474976710656 % 256), .int .u8 (n / 1099511627776 % 256), .int .u8 (n / 4294967296 % 256), .int .u8 (n / 16777216 % 256), .int .u8 (n / 65536 % 256), .int .u8 (n / 256 % 256), .int .u8 (n % 256)] 130)).alloc (.cells #[.int .u8 10, .int .u8 (n / 72057594037927936 % 256), .int .u8 (n / 281474976710656 % 256), .int .u8 (n / 1099511627776 % 256), .int .u8 (n / 4294967296 % 256), .int .u8 (n / 16777216 % 256), .int .u8 (n / 65536 % 256), .int .u8 (n / 256 % 256), .int .u8 (n % 256)] 131)).drew :=
    cp w #[.int .u8 (n / 72057594037927936 % 256), .int .u8 (n / 281474976710656 % 256), .int .u8 (n / 1099511627776 % 256), .int .u8 (n / 4294967296 % 256), .int .u8 (n / 16777216 % 256), .int .u8 (n / 65536 % 256), .int .u8 (n / 256 % 256), .int .u8 (n % 256)] #[.int .u8 10, .int .u8 0, .int .u8 0, .int .u8 0, .int .u8 0, .int .u8 0, .int .u8 0, .int .u8 0, .int .u8 0] #[.int .u8 10, .int .u8 (n / 72057594037927936 % 256), .int .u8 (n / 281474976710656 % 256), .int .u8 (n / 1099511627776 % 256), .int .u8 (n / 4294967296 % 256), .int .u8 (n / 16777216 % 256), .int .u8 (n / 65536 % 256), .int .u8 (n / 256 % 256), .int .u8 (n % 256)] [.int .u8 (n / 72057594037927936 % 256), .int .u8 (n / 281474976710656 % 256), .int .u8 (n / 1099511627776 % 256), .int .u8 (n / 4294967296 % 256), .int .u8 (n / 16777216 % 256), .int .u8 (n / 65536 % 256), .int .u8 (n / 256 % 256), .int .u8 (n % 256)] 0 8 rfl rfl rfl (by simp [Value.oneCell']) rfl rfl (by omega)
  have hcv := cv w #[.int .u8 (n / 72057594037927936 % 256), .int .u8 (n / 281474976710656 % 256), .int .u8 (n / 1099511627776 % 256), .int .u8 (n / 4294967296 % 256), .int .u8 (n / 16777216 % 256), .int .u8 (n / 65536 % 256), .int .u8 (n / 256 % 256), .int .u8 (n % 256)] #[.int .u8 10, .int .u8 (n / 72057594037927936 % 256), .int .u8 (n / 281474976710656 % 256), .int .u8 (n / 1099511627776 % 256), .int .u8 (n / 4294967296 % 256), .int .u8 (n / 16777216 % 256), .int .u8 (n / 65536 % 256), .int .u8 (n / 256 % 256), .int .u8 (n % 256)] [10, n / 72057594037927936 % 256, n / 281474976710656 % 256, n / 1099511627776 % 256, n / 4294967296 % 256, n / 16777216 % 256, n / 65536 % 256, n / 256 % 256, n % 256] 9 rfl rfl
  go_enter Tryz.func30, Tryz.ntmps30
  go_wp2
  go_rounds 9
  go_rounds 9
  go_region
  all_goals (go_wp2)
  all_goals go_ret
  all_goals exact ⟨rfl, by go_grown⟩


set_option maxRecDepth 100000 in
set_option maxHeartbeats 1000000 in
theorem bytes_1 (n : Int) (_g0 : 0 ≤ n) (h0 : (n / 72057594037927936 % 256 == 0) = true) (h1 : (n / 281474976710656 % 256 == 0) = false) (w : World) :
    Calls Tryz.prog 30 #[.int .u64 n] w fun e w' => e = .returned (.string (strOfNums [9, n / 281474976710656 % 256, n / 1099511627776 % 256, n / 4294967296 % 256, n / 16777216 % 256, n / 65536 % 256, n / 256 % 256, n % 256])) ∧ Below w.heap.size w w' := by
  have hcp : (Builtin.copy_ #[81, 81] 3 #[.slice (some ⟨w.heap.size + 1, 1, none⟩) 8 8, .slice (some ⟨w.heap.size, 1, none⟩) 7 7]).run Tryz.prog
      ((w.alloc (.cells #[.int .u8 (n / 72057594037927936 % 256), .int .u8 (n / 281474976710656 % 256), .int .u8 (n / 1099511627776 % 256), .int .u8 (n / 4294967296 % 256), .int .u8 (n / 16777216 % 256), .int .u8 (n / 65536 % 256), .int .u8 (n / 256 % 256), .int .u8 (n % 256)] 130)).alloc (.cells #[.int .u8 9, .int .u8 0, .int .u8 0, .int .u8 0, .int .u8 0, .int .u8 0, .int .u8 0, .int .u8 0, .int .u8 0] 131)).drew = .ok (goInt 7) ((w.alloc (.cells #[.int .u8 (n / 72057594037927936 % 256), .int .u8 (n / 281474976710656 % 256), .int .u8 (n / 1099511627776 % 256), .int .u8 (n / 4294967296 % 256), .int .u8 (n / 16777216 % 256), .int .u8 (n / 65536 % 256), .int .u8 (n / 256 % 256), .int .u8 (n % 256)] 130)).alloc (.cells #[.int .u8 9, .int .u8 (n / 281474976710656 % 256), .int .u8 (n / 1099511627776 % 256), .int .u8 (n / 4294967296 % 256), .int .u8 (n / 16777216 % 256), .int .u8 (n / 65536 % 256), .int .u8 (n / 256 % 256), .int .u8 (n % 256), .int .u8 0] 131)).drew :=
    cp w #[.int .u8 (n / 72057594037927936 % 256), .int .u8 (n / 281474976710656 % 256), .int .u8 (n / 1099511627776 % 256), .int .u8 (n / 4294967296 % 256), .int .u8 (n / 16777216 % 256), .int .u8 (n / 65536 % 256), .int .u8 (n / 256 % 256), .int .u8 (n % 256)] #[.int .u8 9, .int .u8 0, .int .u8 0, .int .u8 0, .int .u8 0, .int .u8 0, .int .u8 0, .int .u8 0, .int .u8 0] #[.int .u8 9, .int .u8 (n / 281474976710656 % 256), .int .u8 (n / 1099511627776 % 256), .int .u8 (n / 4294967296 % 256), .int .u8 (n / 16777216 % 256), .int .u8 (n / 65536 % 256), .int .u8 (n / 256 % 256), .int .u8 (n % 256), .int .u8 0] [.int .u8 (n / 281474976710656 % 256), .int .u8 (n / 1099511627776 % 256), .int .u8 (n / 4294967296 % 256), .int .u8 (n / 16777216 % 256), .int .u8 (n / 65536 % 256), .int .u8 (n / 256 % 256), .int .u8 (n % 256)] 1 7 rfl rfl rfl (by simp [Value.oneCell']) rfl rfl (by omega)
  have hcv := cv w #[.int .u8 (n / 72057594037927936 % 256), .int .u8 (n / 281474976710656 % 256), .int .u8 (n / 1099511627776 % 256), .int .u8 (n / 4294967296 % 256), .int .u8 (n / 16777216 % 256), .int .u8 (n / 65536 % 256), .int .u8 (n / 256 % 256), .int .u8 (n % 256)] #[.int .u8 9, .int .u8 (n / 281474976710656 % 256), .int .u8 (n / 1099511627776 % 256), .int .u8 (n / 4294967296 % 256), .int .u8 (n / 16777216 % 256), .int .u8 (n / 65536 % 256), .int .u8 (n / 256 % 256), .int .u8 (n % 256), .int .u8 0] [9, n / 281474976710656 % 256, n / 1099511627776 % 256, n / 4294967296 % 256, n / 16777216 % 256, n / 65536 % 256, n / 256 % 256, n % 256] 8 rfl rfl
  go_enter Tryz.func30, Tryz.ntmps30
  go_wp2
  go_rounds 9
  go_rounds 9
  go_region
  all_goals (go_wp2)
  all_goals go_ret
  all_goals exact ⟨rfl, by go_grown⟩


set_option maxRecDepth 100000 in
set_option maxHeartbeats 1000000 in
theorem bytes_2 (n : Int) (_g0 : 0 ≤ n) (h0 : (n / 72057594037927936 % 256 == 0) = true) (h1 : (n / 281474976710656 % 256 == 0) = true) (h2 : (n / 1099511627776 % 256 == 0) = false) (w : World) :
    Calls Tryz.prog 30 #[.int .u64 n] w fun e w' => e = .returned (.string (strOfNums [8, n / 1099511627776 % 256, n / 4294967296 % 256, n / 16777216 % 256, n / 65536 % 256, n / 256 % 256, n % 256])) ∧ Below w.heap.size w w' := by
  have hcp : (Builtin.copy_ #[81, 81] 3 #[.slice (some ⟨w.heap.size + 1, 1, none⟩) 8 8, .slice (some ⟨w.heap.size, 2, none⟩) 6 6]).run Tryz.prog
      ((w.alloc (.cells #[.int .u8 (n / 72057594037927936 % 256), .int .u8 (n / 281474976710656 % 256), .int .u8 (n / 1099511627776 % 256), .int .u8 (n / 4294967296 % 256), .int .u8 (n / 16777216 % 256), .int .u8 (n / 65536 % 256), .int .u8 (n / 256 % 256), .int .u8 (n % 256)] 130)).alloc (.cells #[.int .u8 8, .int .u8 0, .int .u8 0, .int .u8 0, .int .u8 0, .int .u8 0, .int .u8 0, .int .u8 0, .int .u8 0] 131)).drew = .ok (goInt 6) ((w.alloc (.cells #[.int .u8 (n / 72057594037927936 % 256), .int .u8 (n / 281474976710656 % 256), .int .u8 (n / 1099511627776 % 256), .int .u8 (n / 4294967296 % 256), .int .u8 (n / 16777216 % 256), .int .u8 (n / 65536 % 256), .int .u8 (n / 256 % 256), .int .u8 (n % 256)] 130)).alloc (.cells #[.int .u8 8, .int .u8 (n / 1099511627776 % 256), .int .u8 (n / 4294967296 % 256), .int .u8 (n / 16777216 % 256), .int .u8 (n / 65536 % 256), .int .u8 (n / 256 % 256), .int .u8 (n % 256), .int .u8 0, .int .u8 0] 131)).drew :=
    cp w #[.int .u8 (n / 72057594037927936 % 256), .int .u8 (n / 281474976710656 % 256), .int .u8 (n / 1099511627776 % 256), .int .u8 (n / 4294967296 % 256), .int .u8 (n / 16777216 % 256), .int .u8 (n / 65536 % 256), .int .u8 (n / 256 % 256), .int .u8 (n % 256)] #[.int .u8 8, .int .u8 0, .int .u8 0, .int .u8 0, .int .u8 0, .int .u8 0, .int .u8 0, .int .u8 0, .int .u8 0] #[.int .u8 8, .int .u8 (n / 1099511627776 % 256), .int .u8 (n / 4294967296 % 256), .int .u8 (n / 16777216 % 256), .int .u8 (n / 65536 % 256), .int .u8 (n / 256 % 256), .int .u8 (n % 256), .int .u8 0, .int .u8 0] [.int .u8 (n / 1099511627776 % 256), .int .u8 (n / 4294967296 % 256), .int .u8 (n / 16777216 % 256), .int .u8 (n / 65536 % 256), .int .u8 (n / 256 % 256), .int .u8 (n % 256)] 2 6 rfl rfl rfl (by simp [Value.oneCell']) rfl rfl (by omega)
  have hcv := cv w #[.int .u8 (n / 72057594037927936 % 256), .int .u8 (n / 281474976710656 % 256), .int .u8 (n / 1099511627776 % 256), .int .u8 (n / 4294967296 % 256), .int .u8 (n / 16777216 % 256), .int .u8 (n / 65536 % 256), .int .u8 (n / 256 % 256), .int .u8 (n % 256)] #[.int .u8 8, .int .u8 (n / 1099511627776 % 256), .int .u8 (n / 4294967296 % 256), .int .u8 (n / 16777216 % 256), .int .u8 (n / 65536 % 256), .int .u8 (n / 256 % 256), .int .u8 (n % 256), .int .u8 0, .int .u8 0] [8, n / 1099511627776 % 256, n / 4294967296 % 256, n / 16777216 % 256, n / 65536 % 256, n / 256 % 256, n % 256] 7 rfl rfl
  go_enter Tryz.func30, Tryz.ntmps30
  go_wp2
  go_rounds 9
  go_rounds 9
  go_region
  all_goals (go_wp2)
  all_goals go_ret
  all_goals exact ⟨rfl, by go_grown⟩


set_option maxRecDepth 100000 in
set_option maxHeartbeats 1000000 in
theorem bytes_3 (n : Int) (_g0 : 0 ≤ n) (h0 : (n / 72057594037927936 % 256 == 0) = true) (h1 : (n / 281474976710656 % 256 == 0) = true) (h2 : (n / 1099511627776 % 256 == 0) = true) (h3 : (n / 4294967296 % 256 == 0) = false) (w : World) :
    Calls Tryz.prog 30 #[.int .u64 n] w fun e w' => e = .returned (.string (strOfNums [7, n / 4294967296 % 256, n / 16777216 % 256, n / 65536 % 256, n / 256 % 256, n % 256])) ∧ Below w.heap.size w w' := by
  have hcp : (Builtin.copy_ #[81, 81] 3 #[.slice (some ⟨w.heap.size + 1, 1, none⟩) 8 8, .slice (some ⟨w.heap.size, 3, none⟩) 5 5]).run Tryz.prog
      ((w.alloc (.cells #[.int .u8 (n / 72057594037927936 % 256), .int .u8 (n / 281474976710656 % 256), .int .u8 (n / 1099511627776 % 256), .int .u8 (n / 4294967296 % 256), .int .u8 (n / 16777216 % 256), .int .u8 (n / 65536 % 256), .int .u8 (n / 256 % 256), .int .u8 (n % 256)] 130)).alloc (.cells #[.int .u8 7, .int .u8 0, .int .u8 0, .int .u8 0, .int .u8 0, .int .u8 0, .int .u8 0, .int .u8 0, .int .u8 0] 131)).drew = .ok (goInt 5) ((w.alloc (.cells #[.int .u8 (n / 72057594037927936 % 256), .int .u8 (n / 281474976710656 % 256), .int .u8 (n / 1099511627776 % 256), .int .u8 (n / 4294967296 % 256), .int .u8 (n / 16777216 % 256), .int .u8 (n / 65536 % 256), .int .u8 (n / 256 % 256), .int .u8 (n % 256)] 130)).alloc (.cells #[.int .u8 7, .int .u8 (n / 4294967296 % 256), .int .u8 (n / 16777216 % 256), .int .u8 (n / 65536 % 256), .int .u8 (n / 256 % 256), .int .u8 (n % 256), .int .u8 0, .int .u8 0, .int .u8 0] 131)).drew :=
    cp w #[.int .u8 (n / 72057594037927936 % 256), .int .u8 (n / 281474976710656 % 256), .int .u8 (n / 1099511627776 % 256), .int .u8 (n / 4294967296 % 256), .int .u8 (n / 16777216 % 256), .int .u8 (n / 65536 % 256), .int .u8 (n / 256 % 256), .int .u8 (n % 256)] #[.int .u8 7, .int .u8 0, .int .u8 0, .int .u8 0, .int .u8 0, .int .u8 0, .int .u8 0, .int .u8 0, .int .u8 0] #[.int .u8 7, .int .u8 (n / 4294967296 % 256), .int .u8 (n / 16777216 % 256), .int .u8 (n / 65536 % 256), .int .u8 (n / 256 % 256), .int .u8 (n % 256), .int .u8 0, .int .u8 0, .int .u8 0] [.int .u8 (n / 4294967296 % 256), .int .u8 (n / 16777216 % 256), .int .u8 (n / 65536 % 256), .int .u8 (n / 256 % 256), .int .u8 (n % 256)] 3 5 rfl rfl rfl (by simp [Value.oneCell']) rfl rfl (by omega)
  have hcv := cv w #[.int .u8 (n / 72057594037927936 % 256), .int .u8 (n / 281474976710656 % 256), .int .u8 (n / 1099511627776 % 256), .int .u8 (n / 4294967296 % 256), .int .u8 (n / 16777216 % 256), .int .u8 (n / 65536 % 256), .int .u8 (n / 256 % 256), .int .u8 (n % 256)] #[.int .u8 7, .int .u8 (n / 4294967296 % 256), .int .u8 (n / 16777216 % 256), .int .u8 (n / 65536 % 256), .int .u8 (n / 256 % 256), .int .u8 (n % 256), .int .u8 0, .int .u8 0, .int .u8 0] [7, n / 4294967296 % 256, n / 16777216 % 256, n / 65536 % 256, n / 256 % 256, n % 256] 6 rfl rfl
  go_enter Tryz.func30, Tryz.ntmps30
  go_wp2
  go_rounds 9
  go_rounds 9
  go_region
  all_goals (go_wp2)
  all_goals go_ret
  all_goals exact ⟨rfl, by go_grown⟩


set_option maxRecDepth 100000 in
set_option maxHeartbeats 1000000 in
theorem bytes_4 (n : Int) (_g0 : 0 ≤ n) (h0 : (n / 72057594037927936 % 256 == 0) = true) (h1 : (n / 281474976710656 % 256 == 0) = true) (h2 : (n / 1099511627776 % 256 == 0) = true) (h3 : (n / 4294967296 % 256 == 0) = true) (h4 : (n / 16777216 % 256 == 0) = false) (w : World) :
    Calls Tryz.prog 30 #[.int .u64 n] w fun e w' => e = .returned (.string (strOfNums [6, n / 16777216 % 256, n / 65536 % 256, n / 256 % 256, n % 256])) ∧ Below w.heap.size w w' := by
  have hcp : (Builtin.copy_ #[81, 81] 3 #[.slice (some ⟨w.heap.size + 1, 1, none⟩) 8 8, .slice (some ⟨w.heap.size, 4, none⟩) 4 4]).run Tryz.prog
      ((w.alloc (.cells #[.int .u8 (n / 72057594037927936 % 256), .int .u8 (n / 281474976710656 % 256), .int .u8 (n / 1099511627776 % 256), .int .u8 (n / 4294967296 % 256), .int .u8 (n / 16777216 % 256), .int .u8 (n / 65536 % 256), .int .u8 (n / 256 % 256), .int .u8 (n % 256)] 130)).alloc (.cells #[.int .u8 6, .int .u8 0, .int .u8 0, .int .u8 0, .int .u8 0, .int .u8 0, .int .u8 0, .int .u8 0, .int .u8 0] 131)).drew = .ok (goInt 4) ((w.alloc (.cells #[.int .u8 (n / 72057594037927936 % 256), .int .u8 (n / 281474976710656 % 256), .int .u8 (n / 1099511627776 % 256), .int .u8 (n / 4294967296 % 256), .int .u8 (n / 16777216 % 256), .int .u8 (n / 65536 % 256), .int .u8 (n / 256 % 256), .int .u8 (n % 256)] 130)).alloc (.cells #[.int .u8 6, .int .u8 (n / 16777216 % 256), .int .u8 (n / 65536 % 256), .int .u8 (n / 256 % 256), .int .u8 (n % 256), .int .u8 0, .int .u8 0, .int .u8 0, .int .u8 0] 131)).drew :=
    cp w #[.int .u8 (n / 72057594037927936 % 256), .int .u8 (n / 281474976710656 % 256), .int .u8 (n / 1099511627776 % 256), .int .u8 (n / 4294967296 % 256), .int .u8 (n / 16777216 % 256), .int .u8 (n / 65536 % 256), .int .u8 (n / 256 % 256), .int .u8 (n % 256)] #[.int .u8 6, .int .u8 0, .int .u8 0, .int .u8 0, .int .u8 0, .int .u8 0, .int .u8 0, .int .u8 0, .int .u8 0] #[.int .u8 6, .int .u8 (n / 16777216 % 256), .int .u8 (n / 65536 % 256), .int .u8 (n / 256 % 256), .int .u8 (n % 256), .int .u8 0, .int .u8 0, .int .u8 0, .int .u8 0] [.int .u8 (n / 16777216 % 256), .int .u8 (n / 65536 % 256), .int .u8 (n / 256 % 256), .int .u8 (n % 256)] 4 4 rfl rfl rfl (by simp [Value.oneCell']) rfl rfl (by omega)
  have hcv := cv w #[.int .u8 (n / 72057594037927936 % 256), .int .u8 (n / 281474976710656 % 256), .int .u8 (n / 1099511627776 % 256), .int .u8 (n / 4294967296 % 256), .int .u8 (n / 16777216 % 256), .int .u8 (n / 65536 % 256), .int .u8 (n / 256 % 256), .int .u8 (n % 256)] #[.int .u8 6, .int .u8 (n / 16777216 % 256), .int .u8 (n / 65536 % 256), .int .u8 (n / 256 % 256), .int .u8 (n % 256), .int .u8 0, .int .u8 0, .int .u8 0, .int .u8 0] [6, n / 16777216 % 256, n / 65536 % 256, n / 256 % 256, n % 256] 5 rfl rfl
  go_enter Tryz.func30, Tryz.ntmps30
  go_wp2
  go_rounds 9
  go_rounds 9
  go_region
  all_goals (go_wp2)
  all_goals go_ret
  all_goals exact ⟨rfl, by go_grown⟩


set_option maxRecDepth 100000 in
set_option maxHeartbeats 1000000 in
theorem bytes_5 (n : Int) (_g0 : 0 ≤ n) (h0 : (n / 72057594037927936 % 256 == 0) = true) (h1 : (n / 281474976710656 % 256 == 0) = true) (h2 : (n / 1099511627776 % 256 == 0) = true) (h3 : (n / 4294967296 % 256 == 0) = true) (h4 : (n / 16777216 % 256 == 0) = true) (h5 : (n / 65536 % 256 == 0) = false) (w : World) :
    Calls Tryz.prog 30 #[.int .u64 n] w fun e w' => e = .returned (.string (strOfNums [5, n / 65536 % 256, n / 256 % 256, n % 256])) ∧ Below w.heap.size w w' := by
  have hcp : (Builtin.copy_ #[81, 81] 3 #[.slice (some ⟨w.heap.size + 1, 1, none⟩) 8 8, .slice (some ⟨w.heap.size, 5, none⟩) 3 3]).run Tryz.prog
      ((w.alloc (.cells #[.int .u8 (n / 72057594037927936 % 256), .int .u8 (n / 281474976710656 % 256), .int .u8 (n / 1099511627776 % 256), .int .u8 (n / 4294967296 % 256), .int .u8 (n / 16777216 % 256), .int .u8 (n / 65536 % 256), .int .u8 (n / 256 % 256), .int .u8 (n % 256)] 130)).alloc (.cells #[.int .u8 5, .int .u8 0, .int .u8 0, .int .u8 0, .int .u8 0, .int .u8 0, .int .u8 0, .int .u8 0, .int .u8 0] 131)).drew = .ok (goInt 3) ((w.alloc (.cells #[.int .u8 (n / 72057594037927936 % 256), .int .u8 (n / 281474976710656 % 256), .int .u8 (n / 1099511627776 % 256), .int .u8 (n / 4294967296 % 256), .int .u8 (n / 16777216 % 256), .int .u8 (n / 65536 % 256), .int .u8 (n / 256 % 256), .int .u8 (n % 256)] 130)).alloc (.cells #[.int .u8 5, .int .u8 (n / 65536 % 256), .int .u8 (n / 256 % 256), .int .u8 (n % 256), .int .u8 0, .int .u8 0, .int .u8 0, .int .u8 0, .int .u8 0] 131)).drew :=
    cp w #[.int .u8 (n / 72057594037927936 % 256), .int .u8 (n / 281474976710656 % 256), .int .u8 (n / 1099511627776 % 256), .int .u8 (n / 4294967296 % 256), .int .u8 (n / 16777216 % 256), .int .u8 (n / 65536 % 256), .int .u8 (n / 256 % 256), .int .u8 (n % 256)] #[.int .u8 5, .int .u8 0, .int .u8 0, .int .u8 0, .int .u8 0, .int .u8 0, .int .u8 0, .int .u8 0, .int .u8 0] #[.int .u8 5, .int .u8 (n / 65536 % 256), .int .u8 (n / 256 % 256), .int .u8 (n % 256), .int .u8 0, .int .u8 0, .int .u8 0, .int .u8 0, .int .u8 0] [.int .u8 (n / 65536 % 256), .int .u8 (n / 256 % 256), .int .u8 (n % 256)] 5 3 rfl rfl rfl (by simp [Value.oneCell']) rfl rfl (by omega)
  have hcv := cv w #[.int .u8 (n / 72057594037927936 % 256), .int .u8 (n / 281474976710656 % 256), .int .u8 (n / 1099511627776 % 256), .int .u8 (n / 4294967296 % 256), .int .u8 (n / 16777216 % 256), .int .u8 (n / 65536 % 256), .int .u8 (n / 256 % 256), .int .u8 (n % 256)] #[.int .u8 5, .int .u8 (n / 65536 % 256), .int .u8 (n / 256 % 256), .int .u8 (n % 256), .int .u8 0, .int .u8 0, .int .u8 0, .int .u8 0, .int .u8 0] [5, n / 65536 % 256, n / 256 % 256, n % 256] 4 rfl rfl
  go_enter Tryz.func30, Tryz.ntmps30
  go_wp2
  go_rounds 9
  go_rounds 9
  go_region
  all_goals (go_wp2)
  all_goals go_ret
  all_goals exact ⟨rfl, by go_grown⟩


set_option maxRecDepth 100000 in
set_option maxHeartbeats 1000000 in
theorem bytes_6 (n : Int) (_g0 : 0 ≤ n) (h0 : (n / 72057594037927936 % 256 == 0) = true) (h1 : (n / 281474976710656 % 256 == 0) = true) (h2 : (n / 1099511627776 % 256 == 0) = true) (h3 : (n / 4294967296 % 256 == 0) = true) (h4 : (n / 16777216 % 256 == 0) = true) (h5 : (n / 65536 % 256 == 0) = true) (h6 : (n / 256 % 256 == 0) = false) (w : World) :
    Calls Tryz.prog 30 #[.int .u64 n] w fun e w' => e = .returned (.string (strOfNums [4, n / 256 % 256, n % 256])) ∧ Below w.heap.size w w' := by
  have hcp : (Builtin.copy_ #[81, 81] 3 #[.slice (some ⟨w.heap.size + 1, 1, none⟩) 8 8, .slice (some ⟨w.heap.size, 6, none⟩) 2 2]).run Tryz.prog
      ((w.alloc (.cells #[.int .u8 (n / 72057594037927936 % 256), .int .u8 (n / 281474976710656 % 256), .int .u8 (n / 1099511627776 % 256), .int .u8 (n / 4294967296 % 256), .int .u8 (n / 16777216 % 256), .int .u8 (n / 65536 % 256), .int .u8 (n / 256 % 256), .int .u8 (n % 256)] 130)).alloc (.cells #[.int .u8 4, .int .u8 0, .int .u8 0, .int .u8 0, .int .u8 0, .int .u8 0, .int .u8 0, .int .u8 0, .int .u8 0] 131)).drew = .ok (goInt 2) ((w.alloc (.cells #[.int .u8 (n / 72057594037927936 % 256), .int .u8 (n / 281474976710656 % 256), .int .u8 (n / 1099511627776 % 256), .int .u8 (n / 4294967296 % 256), .int .u8 (n / 16777216 % 256), .int .u8 (n / 65536 % 256), .int .u8 (n / 256 % 256), .int .u8 (n % 256)] 130)).alloc (.cells #[.int .u8 4, .int .u8 (n / 256 % 256), .int .u8 (n % 256), .int .u8 0, .int .u8 0, .int .u8 0, .int .u8 0, .int .u8 0, .int .u8 0] 131)).drew :=
    cp w #[.int .u8 (n / 72057594037927936 % 256), .int .u8 (n / 281474976710656 % 256), .int .u8 (n / 1099511627776 % 256), .int .u8 (n / 4294967296 % 256), .int .u8 (n / 16777216 % 256), .int .u8 (n / 65536 % 256), .int .u8 (n / 256 % 256), .int .u8 (n % 256)] #[.int .u8 4, .int .u8 0, .int .u8 0, .int .u8 0, .int .u8 0, .int .u8 0, .int .u8 0, .int .u8 0, .int .u8 0] #[.int .u8 4, .int .u8 (n / 256 % 256), .int .u8 (n % 256), .int .u8 0, .int .u8 0, .int .u8 0, .int .u8 0, .int .u8 0, .int .u8 0] [.int .u8 (n / 256 % 256), .int .u8 (n % 256)] 6 2 rfl rfl rfl (by simp [Value.oneCell']) rfl rfl (by omega)
  have hcv := cv w #[.int .u8 (n / 72057594037927936 % 256), .int .u8 (n / 281474976710656 % 256), .int .u8 (n / 1099511627776 % 256), .int .u8 (n / 4294967296 % 256), .int .u8 (n / 16777216 % 256), .int .u8 (n / 65536 % 256), .int .u8 (n / 256 % 256), .int .u8 (n % 256)] #[.int .u8 4, .int .u8 (n / 256 % 256), .int .u8 (n % 256), .int .u8 0, .int .u8 0, .int .u8 0, .int .u8 0, .int .u8 0, .int .u8 0] [4, n / 256 % 256, n % 256] 3 rfl rfl
  go_enter Tryz.func30, Tryz.ntmps30
  go_wp2
  go_rounds 9
  go_rounds 9
  go_region
  all_goals (go_wp2)
  all_goals go_ret
  all_goals exact ⟨rfl, by go_grown⟩


set_option maxRecDepth 100000 in
set_option maxHeartbeats 1000000 in
theorem bytes_7 (n : Int) (_g0 : 0 ≤ n) (h0 : (n / 72057594037927936 % 256 == 0) = true) (h1 : (n / 281474976710656 % 256 == 0) = true) (h2 : (n / 1099511627776 % 256 == 0) = true) (h3 : (n / 4294967296 % 256 == 0) = true) (h4 : (n / 16777216 % 256 == 0) = true) (h5 : (n / 65536 % 256 == 0) = true) (h6 : (n / 256 % 256 == 0) = true) (h7 : (n % 256 == 0) = false) (w : World) :
    Calls Tryz.prog 30 #[.int .u64 n] w fun e w' => e = .returned (.string (strOfNums [3, n % 256])) ∧ Below w.heap.size w w' := by
  have hcp : (Builtin.copy_ #[81, 81] 3 #[.slice (some ⟨w.heap.size + 1, 1, none⟩) 8 8, .slice (some ⟨w.heap.size, 7, none⟩) 1 1]).run Tryz.prog
      ((w.alloc (.cells #[.int .u8 (n / 72057594037927936 % 256), .int .u8 (n / 281474976710656 % 256), .int .u8 (n / 1099511627776 % 256), .int .u8 (n / 4294967296 % 256), .int .u8 (n / 16777216 % 256), .int .u8 (n / 65536 % 256), .int .u8 (n / 256 % 256), .int .u8 (n % 256)] 130)).alloc (.cells #[.int .u8 3, .int .u8 0, .int .u8 0, .int .u8 0, .int .u8 0, .int .u8 0, .int .u8 0, .int .u8 0, .int .u8 0] 131)).drew = .ok (goInt 1) ((w.alloc (.cells #[.int .u8 (n / 72057594037927936 % 256), .int .u8 (n / 281474976710656 % 256), .int .u8 (n / 1099511627776 % 256), .int .u8 (n / 4294967296 % 256), .int .u8 (n / 16777216 % 256), .int .u8 (n / 65536 % 256), .int .u8 (n / 256 % 256), .int .u8 (n % 256)] 130)).alloc (.cells #[.int .u8 3, .int .u8 (n % 256), .int .u8 0, .int .u8 0, .int .u8 0, .int .u8 0, .int .u8 0, .int .u8 0, .int .u8 0] 131)).drew :=
    cp w #[.int .u8 (n / 72057594037927936 % 256), .int .u8 (n / 281474976710656 % 256), .int .u8 (n / 1099511627776 % 256), .int .u8 (n / 4294967296 % 256), .int .u8 (n / 16777216 % 256), .int .u8 (n / 65536 % 256), .int .u8 (n / 256 % 256), .int .u8 (n % 256)] #[.int .u8 3, .int .u8 0, .int .u8 0, .int .u8 0, .int .u8 0, .int .u8 0, .int .u8 0, .int .u8 0, .int .u8 0] #[.int .u8 3, .int .u8 (n % 256), .int .u8 0, .int .u8 0, .int .u8 0, .int .u8 0, .int .u8 0, .int .u8 0, .int .u8 0] [.int .u8 (n % 256)] 7 1 rfl rfl rfl (by simp [Value.oneCell']) rfl rfl (by omega)
  have hcv := cv w #[.int .u8 (n / 72057594037927936 % 256), .int .u8 (n / 281474976710656 % 256), .int .u8 (n / 1099511627776 % 256), .int .u8 (n / 4294967296 % 256), .int .u8 (n / 16777216 % 256), .int .u8 (n / 65536 % 256), .int .u8 (n / 256 % 256), .int .u8 (n % 256)] #[.int .u8 3, .int .u8 (n % 256), .int .u8 0, .int .u8 0, .int .u8 0, .int .u8 0, .int .u8 0, .int .u8 0, .int .u8 0] [3, n % 256] 2 rfl rfl
  go_enter Tryz.func30, Tryz.ntmps30
  go_wp2
  go_rounds 9
  go_rounds 9
  go_region
  all_goals (go_wp2)
  all_goals go_ret
  all_goals exact ⟨rfl, by go_grown⟩


set_option maxRecDepth 100000 in
set_option maxHeartbeats 1000000 in
theorem bytes_8 (n : Int) (_g0 : 0 ≤ n) (h0 : (n / 72057594037927936 % 256 == 0) = true) (h1 : (n / 281474976710656 % 256 == 0) = true) (h2 : (n / 1099511627776 % 256 == 0) = true) (h3 : (n / 4294967296 % 256 == 0) = true) (h4 : (n / 16777216 % 256 == 0) = true) (h5 : (n / 65536 % 256 == 0) = true) (h6 : (n / 256 % 256 == 0) = true) (h7 : (n % 256 == 0) = true) (w : World) :
    Calls Tryz.prog 30 #[.int .u64 n] w fun e w' => e = .returned (.string (strOfNums [2])) ∧ Below w.heap.size w w' := by
  have hcp : (Builtin.copy_ #[81, 81] 3 #[.slice (some ⟨w.heap.size + 1, 1, none⟩) 8 8, .slice (some ⟨w.heap.size, 0, none⟩) 0 0]).run Tryz.prog
      ((w.alloc (.cells #[.int .u8 (n / 72057594037927936 % 256), .int .u8 (n / 281474976710656 % 256), .int .u8 (n / 1099511627776 % 256), .int .u8 (n / 4294967296 % 256), .int .u8 (n / 16777216 % 256), .int .u8 (n / 65536 % 256), .int .u8 (n / 256 % 256), .int .u8 (n % 256)] 130)).alloc (.cells #[.int .u8 2, .int .u8 0, .int .u8 0, .int .u8 0, .int .u8 0, .int .u8 0, .int .u8 0, .int .u8 0, .int .u8 0] 131)).drew = .ok (goInt 0) ((w.alloc (.cells #[.int .u8 (n / 72057594037927936 % 256), .int .u8 (n / 281474976710656 % 256), .int .u8 (n / 1099511627776 % 256), .int .u8 (n / 4294967296 % 256), .int .u8 (n / 16777216 % 256), .int .u8 (n / 65536 % 256), .int .u8 (n / 256 % 256), .int .u8 (n % 256)] 130)).alloc (.cells #[.int .u8 2, .int .u8 0, .int .u8 0, .int .u8 0, .int .u8 0, .int .u8 0, .int .u8 0, .int .u8 0, .int .u8 0] 131)).drew :=
    cp w #[.int .u8 (n / 72057594037927936 % 256), .int .u8 (n / 281474976710656 % 256), .int .u8 (n / 1099511627776 % 256), .int .u8 (n / 4294967296 % 256), .int .u8 (n / 16777216 % 256), .int .u8 (n / 65536 % 256), .int .u8 (n / 256 % 256), .int .u8 (n % 256)] #[.int .u8 2, .int .u8 0, .int .u8 0, .int .u8 0, .int .u8 0, .int .u8 0, .int .u8 0, .int .u8 0, .int .u8 0] #[.int .u8 2, .int .u8 0, .int .u8 0, .int .u8 0, .int .u8 0, .int .u8 0, .int .u8 0, .int .u8 0, .int .u8 0] [] 0 0 rfl rfl rfl (by simp [Value.oneCell']) rfl rfl (by omega)
  have hcv := cv w #[.int .u8 (n / 72057594037927936 % 256), .int .u8 (n / 281474976710656 % 256), .int .u8 (n / 1099511627776 % 256), .int .u8 (n / 4294967296 % 256), .int .u8 (n / 16777216 % 256), .int .u8 (n / 65536 % 256), .int .u8 (n / 256 % 256), .int .u8 (n % 256)] #[.int .u8 2, .int .u8 0, .int .u8 0, .int .u8 0, .int .u8 0, .int .u8 0, .int .u8 0, .int .u8 0, .int .u8 0] [2] 1 rfl rfl
  go_enter Tryz.func30, Tryz.ntmps30
  go_wp2
  go_rounds 9
  go_rounds 9
  go_region
  all_goals (go_wp2)
  all_goals go_ret
  all_goals exact ⟨rfl, by go_grown⟩

/-- weights.Bytes, at every number. -/
theorem bytes_any (n : Int) (g0 : 0 ≤ n) (g1 : n ≤ 18446744073709551615) (w : World) :
    Calls Tryz.prog 30 #[.int .u64 n] w fun e w' => e = .returned (.string (strOfNums (encI n))) ∧ Below w.heap.size w w' := by
  by_cases c0 : n < 1
  · rw [encI_0 (by omega) (by omega)]
    exact bytes_8 n g0 (beq_iff_eq.2 (by omega)) (beq_iff_eq.2 (by omega)) (beq_iff_eq.2 (by omega)) (beq_iff_eq.2 (by omega)) (beq_iff_eq.2 (by omega)) (beq_iff_eq.2 (by omega)) (beq_iff_eq.2 (by omega)) (beq_iff_eq.2 (by omega)) w
  by_cases c1 : n < 256
  · rw [encI_1 (by omega) (by omega), ← (show [3, n % 256] = [3, n] from by simp only [List.cons.injEq, and_true, true_and]; omega)]
    exact bytes_7 n g0 (beq_iff_eq.2 (by omega)) (beq_iff_eq.2 (by omega)) (beq_iff_eq.2 (by omega)) (beq_iff_eq.2 (by omega)) (beq_iff_eq.2 (by omega)) (beq_iff_eq.2 (by omega)) (beq_iff_eq.2 (by omega)) (beq_eq_false_iff_ne.2 (by omega)) w
  by_cases c2 : n < 65536
  · rw [encI_2 (by omega) (by omega), ← (show [4, n / 256 % 256, n % 256] = [4, n / 256, n % 256] from by simp only [List.cons.injEq, and_true, true_and]; omega)]
    exact bytes_6 n g0 (beq_iff_eq.2 (by omega)) (beq_iff_eq.2 (by omega)) (beq_iff_eq.2 (by omega)) (beq_iff_eq.2 (by omega)) (beq_iff_eq.2 (by omega)) (beq_iff_eq.2 (by omega)) (beq_eq_false_iff_ne.2 (by omega)) w
  by_cases c3 : n < 16777216
  · rw [encI_3 (by omega) (by omega), ← (show [5, n / 65536 % 256, n / 256 % 256, n % 256] = [5, n / 65536, n / 256 % 256, n % 256] from by simp only [List.cons.injEq, and_true, true_and]; omega)]
    exact bytes_5 n g0 (beq_iff_eq.2 (by omega)) (beq_iff_eq.2 (by omega)) (beq_iff_eq.2 (by omega)) (beq_iff_eq.2 (by omega)) (beq_iff_eq.2 (by omega)) (beq_eq_false_iff_ne.2 (by omega)) w
  by_cases c4 : n < 4294967296
  · rw [encI_4 (by omega) (by omega), ← (show [6, n / 16777216 % 256, n / 65536 % 256, n / 256 % 256, n % 256] = [6, n / 16777216, n / 65536 % 256, n / 256 % 256, n % 256] from by simp only [List.cons.injEq, and_true, true_and]; omega)]
    exact bytes_4 n g0 (beq_iff_eq.2 (by omega)) (beq_iff_eq.2 (by omega)) (beq_iff_eq.2 (by omega)) (beq_iff_eq.2 (by omega)) (beq_eq_false_iff_ne.2 (by omega)) w
  by_cases c5 : n < 1099511627776
  · rw [encI_5 (by omega) (by omega), ← (show [7, n / 4294967296 % 256, n / 16777216 % 256, n / 65536 % 256, n / 256 % 256, n % 256] = [7, n / 4294967296, n / 16777216 % 256, n / 65536 % 256, n / 256 % 256, n % 256] from by simp only [List.cons.injEq, and_true, true_and]; omega)]
    exact bytes_3 n g0 (beq_iff_eq.2 (by omega)) (beq_iff_eq.2 (by omega)) (beq_iff_eq.2 (by omega)) (beq_eq_false_iff_ne.2 (by omega)) w
  by_cases c6 : n < 281474976710656
  · rw [encI_6 (by omega) (by omega), ← (show [8, n / 1099511627776 % 256, n / 4294967296 % 256, n / 16777216 % 256, n / 65536 % 256, n / 256 % 256, n % 256] = [8, n / 1099511627776, n / 4294967296 % 256, n / 16777216 % 256, n / 65536 % 256, n / 256 % 256, n % 256] from by simp only [List.cons.injEq, and_true, true_and]; omega)]
    exact bytes_2 n g0 (beq_iff_eq.2 (by omega)) (beq_iff_eq.2 (by omega)) (beq_eq_false_iff_ne.2 (by omega)) w
  by_cases c7 : n < 72057594037927936
  · rw [encI_7 (by omega) (by omega), ← (show [9, n / 281474976710656 % 256, n / 1099511627776 % 256, n / 4294967296 % 256, n / 16777216 % 256, n / 65536 % 256, n / 256 % 256, n % 256] = [9, n / 281474976710656, n / 1099511627776 % 256, n / 4294967296 % 256, n / 16777216 % 256, n / 65536 % 256, n / 256 % 256, n % 256] from by simp only [List.cons.injEq, and_true, true_and]; omega)]
    exact bytes_1 n g0 (beq_iff_eq.2 (by omega)) (beq_eq_false_iff_ne.2 (by omega)) w
  · rw [encI_8 (by omega) (by omega), ← (show [10, n / 72057594037927936 % 256, n / 281474976710656 % 256, n / 1099511627776 % 256, n / 4294967296 % 256, n / 16777216 % 256, n / 65536 % 256, n / 256 % 256, n % 256] = [10, n / 72057594037927936, n / 281474976710656 % 256, n / 1099511627776 % 256, n / 4294967296 % 256, n / 16777216 % 256, n / 65536 % 256, n / 256 % 256, n % 256] from by simp only [List.cons.injEq, and_true, true_and]; omega)]
    exact bytes_0 n g0 (beq_eq_false_iff_ne.2 (by omega)) w
end Go.Proofs.YtakbacfhcllioaaGreatDoor
