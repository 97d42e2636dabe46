/- Small lemmas on worlds, strings of numbers, the bytes of a number: no Go function is walked here. -/
import Derived.Test.YtakbacfhcllioaaGreatDoorProg
import Derived.WalkKit
import Derived.WalkSpells
import Derived.WalkLawsBesides
import Derived.OpenShut
import Derived.Handy
import Derived.RegionTactic
import Derived.ChangeAlike
import Derived.Laws.CopyRow
import Derived.Deep.WholeRow
import Derived.Laws.BytesArg
namespace Go.Proofs.YtakbacfhcllioaaGreatDoor
open Go.RowKit

theorem hp_new (w : World) (o : Obj) : (w.alloc o).heap[w.heap.size]? = some o := by show (w.heap.push o)[w.heap.size]? = _; simp
theorem hp_old {w : World} {o x : Obj} {b : Nat} (h : w.heap[b]? = some x) : (w.alloc o).heap[b]? = some x := by
  show (w.heap.push o)[b]? = _
  have hlt : b < w.heap.size := (Array.getElem?_eq_some_iff.1 h).1
  rw [Array.getElem?_push_lt hlt]; rw [← h]; simp [hlt]
theorem addr_add (b o j : Nat) : Addr.add ⟨b, o, none⟩ j = ⟨b, o + j, none⟩ := by
  unfold Addr.add
  split
  · rename_i h; subst h; rfl
  · rfl
theorem cell_at {w : World} {b o : Nat} {c : Array Value} {t : TypeId} {fr : Nat × Nat} (h : w.heap[b]? = some (.cells c t fr)) : w.cell? ⟨b, o, none⟩ = c[o]? := by
  unfold World.cell?
  rw [h]
  rfl

theorem cp (w : World) (A B B2 : Array Value) (cs : List Value) (k m : Nat) (hc : (A.toList.drop k).take m = cs) (hl : cs.length = m) (hB : (B.toList.take 1 ++ cs ++ B.toList.drop (1 + cs.length)).toArray = B2) (h1 : ∀ v ∈ cs, v.oneCell' = true) (hs : B.size = 9) (hm : Nat.min m 8 = m) (hm8 : m ≤ 8) :
    (Builtin.copy_ #[81, 81] 3 #[.slice (some ⟨w.heap.size + 1, 1, none⟩) 8 8, .slice (some ⟨w.heap.size, k, none⟩) m m]).run Tryz.prog
      ((w.alloc (.cells A 130)).alloc (.cells B 131)).drew = .ok (goInt m) ((w.alloc (.cells A 130)).alloc (.cells B2 131)).drew := by
  have hA : (((w.alloc (.cells A 130)).alloc (.cells B 131)).drew).heap[w.heap.size]? = some (.cells A 130) := hp_old (hp_new w _)
  have hBB : (((w.alloc (.cells A 130)).alloc (.cells B 131)).drew).heap[w.heap.size + 1]? = some (.cells B 131) := by
    have := hp_new (w.alloc (.cells A 130)) (.cells B 131)
    rwa [World.size_alloc] at this
  have e := run_copy_row (P := Tryz.prog) ((w.alloc (.cells A 130)).alloc (.cells B 131)).drew 81 81 3 5 (w.heap.size + 1) 1 8 8 ⟨w.heap.size, k, none⟩ m m B 131 cs Tryz.underlying81 (by kernel_rfl) hBB (by rw [hl, hm])
    (fun j v hj => by
      have hjm : j < m := by have := (List.getElem?_eq_some_iff.1 hj).1; omega
      rw [← hc, List.getElem?_take_of_lt hjm, List.getElem?_drop] at hj
      rw [addr_add, cell_at hA]
      simpa using hj) (by omega) h1
  have e2 : (((w.alloc (.cells A 130)).alloc (.cells B 131)).drew).setRow (w.heap.size + 1) B2 = (((w.alloc (.cells A 130)).alloc (.cells B 131)).setRow (w.alloc (.cells A 130)).heap.size B2).drew := by rw [World.size_alloc]; rfl
  rw [e, hB, hl, e2, World.setRow_alloc_new]

theorem take_get {B : Array Value} {m i : Nat} {xs : List Int} (hB : B.toList.take m = xs.map (Value.int .u8)) (hi : i < m) (hl : xs.length = m) : B[i]? = some (.int .u8 (xs.getD i 0)) := by
  have e : (B.toList.take m)[i]? = (xs.map (Value.int .u8))[i]? := by rw [hB]
  rw [List.getElem?_take_of_lt hi] at e
  rw [← Array.getElem?_toList, e]
  simp [List.getD, List.getElem?_eq_getElem (show i < xs.length by omega)]

theorem cv (w : World) (A B : Array Value) (xs : List Int) (m : Nat) (hl : xs.length = m) (hB : B.toList.take m = xs.map (Value.int .u8)) :
    (convert 81 9 (.slice (some ⟨w.heap.size + 1, 0, none⟩) m 9)).run Tryz.prog ((w.alloc (.cells A 130)).alloc (.cells B 131)).drew = .ok (.string (strOfNums xs)) ((w.alloc (.cells A 130)).alloc (.cells B 131)).drew := by
  have hBB : (((w.alloc (.cells A 130)).alloc (.cells B 131)).drew).heap[w.heap.size + 1]? = some (.cells B 131) := by
    have := hp_new (w.alloc (.cells A 130)) (.cells B 131)
    rwa [World.size_alloc] at this
  exact run_convert_bytes_arg _ 81 5 Tryz.underlying81 Tryz.underlying5 (w.heap.size + 1) 0 m 9 xs hl (fun i hi => by rw [Nat.zero_add, cell_at hBB]; exact take_get hB hi hl) 9 Tryz.underlying9

theorem str_nil : (ByteArray.mk #[]) = strOfNums [] := rfl
theorem str_app (a b : List Int) : strOfNums (a ++ b) = strOfNums a ++ strOfNums b := by
  apply ByteArray.ext
  rw [ByteArray.data_append]
  simp [strOfNums]
theorem conv1 (w : World) (x : Int) (k : Nat) (hk : w.heap.size = k) : (convert 81 9 (.slice (some ⟨k, 0, none⟩) 1 1)).run Tryz.prog (w.alloc (.cells #[.int .u8 x] 5)) = .ok (.string (strOfNums [x])) (w.alloc (.cells #[.int .u8 x] 5)) := by
  subst hk
  have hBB : (w.alloc (.cells #[.int .u8 x] 5)).heap[w.heap.size]? = some (.cells #[.int .u8 x] 5) := by show (w.heap.push _)[w.heap.size]? = _; simp
  refine run_convert_bytes_arg _ 81 5 Tryz.underlying81 Tryz.underlying5 w.heap.size 0 1 1 [x] rfl (fun i hi => ?_) 9 Tryz.underlying9
  obtain rfl : i = 0 := by omega
  unfold World.cell?
  rw [hBB]
  rfl

/-- The bytes of a number (0 to 2^64 - 1): how many there are, and two; then these, the greatest first. -/
def encI (n : Int) : List Int :=
  if n < 1 then [2]
  else if n < 256 then [3, n]
  else if n < 65536 then [4, n / 256, n % 256]
  else if n < 16777216 then [5, n / 65536, n / 256 % 256, n % 256]
  else if n < 4294967296 then [6, n / 16777216, n / 65536 % 256, n / 256 % 256, n % 256]
  else if n < 1099511627776 then [7, n / 4294967296, n / 16777216 % 256, n / 65536 % 256, n / 256 % 256, n % 256]
  else if n < 281474976710656 then [8, n / 1099511627776, n / 4294967296 % 256, n / 16777216 % 256, n / 65536 % 256, n / 256 % 256, n % 256]
  else if n < 72057594037927936 then [9, n / 281474976710656, n / 1099511627776 % 256, n / 4294967296 % 256, n / 16777216 % 256, n / 65536 % 256, n / 256 % 256, n % 256]
  else [10, n / 72057594037927936, n / 281474976710656 % 256, n / 1099511627776 % 256, n / 4294967296 % 256, n / 16777216 % 256, n / 65536 % 256, n / 256 % 256, n % 256]
theorem encI_0 {n : Int} (g0 : 0 ≤ n) (g1 : n ≤ 0) : encI n = [2] := by
  unfold encI
  rw [if_pos (by omega)]
theorem encI_1 {n : Int} (g0 : 1 ≤ n) (g1 : n ≤ 255) : encI n = [3, n] := by
  unfold encI
  rw [if_neg (by omega), if_pos (by omega)]
theorem encI_2 {n : Int} (g0 : 256 ≤ n) (g1 : n ≤ 65535) : encI n = [4, n / 256, n % 256] := by
  unfold encI
  rw [if_neg (by omega), if_neg (by omega), if_pos (by omega)]
theorem encI_3 {n : Int} (g0 : 65536 ≤ n) (g1 : n ≤ 16777215) : encI n = [5, n / 65536, n / 256 % 256, n % 256] := by
  unfold encI
  rw [if_neg (by omega), if_neg (by omega), if_neg (by omega), if_pos (by omega)]
theorem encI_4 {n : Int} (g0 : 16777216 ≤ n) (g1 : n ≤ 4294967295) : encI n = [6, n / 16777216, n / 65536 % 256, n / 256 % 256, n % 256] := by
  unfold encI
  rw [if_neg (by omega), if_neg (by omega), if_neg (by omega), if_neg (by omega), if_pos (by omega)]
theorem encI_5 {n : Int} (g0 : 4294967296 ≤ n) (g1 : n ≤ 1099511627775) : encI n = [7, n / 4294967296, n / 16777216 % 256, n / 65536 % 256, n / 256 % 256, n % 256] := by
  unfold encI
  rw [if_neg (by omega), if_neg (by omega), if_neg (by omega), if_neg (by omega), if_neg (by omega), if_pos (by omega)]
theorem encI_6 {n : Int} (g0 : 1099511627776 ≤ n) (g1 : n ≤ 281474976710655) : encI n = [8, n / 1099511627776, n / 4294967296 % 256, n / 16777216 % 256, n / 65536 % 256, n / 256 % 256, n % 256] := by
  unfold encI
  rw [if_neg (by omega), if_neg (by omega), if_neg (by omega), if_neg (by omega), if_neg (by omega), if_neg (by omega), if_pos (by omega)]
theorem encI_7 {n : Int} (g0 : 281474976710656 ≤ n) (g1 : n ≤ 72057594037927935) : encI n = [9, n / 281474976710656, n / 1099511627776 % 256, n / 4294967296 % 256, n / 16777216 % 256, n / 65536 % 256, n / 256 % 256, n % 256] := by
  unfold encI
  rw [if_neg (by omega), if_neg (by omega), if_neg (by omega), if_neg (by omega), if_neg (by omega), if_neg (by omega), if_neg (by omega), if_pos (by omega)]
theorem encI_8 {n : Int} (g0 : 72057594037927936 ≤ n) (g1 : n ≤ 18446744073709551615) : encI n = [10, n / 72057594037927936, n / 281474976710656 % 256, n / 1099511627776 % 256, n / 4294967296 % 256, n / 16777216 % 256, n / 65536 % 256, n / 256 % 256, n % 256] := by
  unfold encI
  rw [if_neg (by omega), if_neg (by omega), if_neg (by omega), if_neg (by omega), if_neg (by omega), if_neg (by omega), if_neg (by omega), if_neg (by omega)]
end Go.Proofs.YtakbacfhcllioaaGreatDoor
