/- weights.Plain, glossaryref12.Plain, glossarykit.Head. -/
import Derived.Test.YtakbacfhcllioaaGreatDoorK
namespace Go.Proofs.YtakbacfhcllioaaGreatDoor
open Go.RowKit

/-- Is a number no point? -/
def noPt (r : Int) : Prop := r < 0 ∨ 1114367 < r ∨ (55296 ≤ r ∧ r ≤ 57343) ∨ (1114112 ≤ r ∧ r < 1114240)
def plainV (r : Int) : Value := .agg #[.int .u64 ((r + 3) * 1048576 + 1), .int .u32 32, .int .u32 32]
def zeroV : Value := .agg #[.int .u64 0, .int .u32 0, .int .u32 0]

set_option maxHeartbeats 1000000 in
theorem plain_no (r : Int) (h0 : -2147483648 ≤ r) (h1 : r ≤ 2147483647) (h : noPt r) (w : World) :
    Calls Tryz.prog 32 #[.int .i32 r] w fun e w' => e = .returned zeroV ∧ Below w.heap.size w w' := by
  unfold noPt at h
  unfold zeroV
  by_cases c1 : r < 0
  · clear h
    go_enter Tryz.func32, Tryz.ntmps32
    go_wp2
    go_returns
    exact ⟨rfl, by go_grown⟩
  by_cases c2 : 1114367 < r
  · clear h
    go_enter Tryz.func32, Tryz.ntmps32
    go_wp2
    go_returns
    exact ⟨rfl, by go_grown⟩
  by_cases c3 : 55296 ≤ r ∧ r ≤ 57343
  · obtain ⟨c3, c4⟩ := c3
    clear h
    go_enter Tryz.func32, Tryz.ntmps32
    go_wp2
    go_returns
    exact ⟨rfl, by go_grown⟩
  have c4 : 1114112 ≤ r := by omega
  have c5 : r < 1114240 := by omega
  have c6 : 57343 < r := by omega
  clear h c3
  go_enter Tryz.func32, Tryz.ntmps32
  go_wp2
  go_returns
  exact ⟨rfl, by go_grown⟩

set_option maxHeartbeats 1000000 in
theorem plain_yes (r : Int) (h : ¬ noPt r) (w : World) :
    Calls Tryz.prog 32 #[.int .i32 r] w fun e w' => e = .returned (plainV r) ∧ Below w.heap.size w w' := by
  unfold noPt at h
  unfold plainV
  have c1 : 0 ≤ r := by omega
  have c2 : r ≤ 1114367 := by omega
  by_cases c3 : r < 55296
  · clear h
    go_enter Tryz.func32, Tryz.ntmps32
    go_wp2
    go_returns
    exact ⟨rfl, by go_grown⟩
  have c4 : 57343 < r := by omega
  by_cases c5 : r < 1114112
  · clear h
    go_enter Tryz.func32, Tryz.ntmps32
    go_wp2
    go_returns
    exact ⟨rfl, by go_grown⟩
  have c6 : 1114240 ≤ r := by omega
  clear h
  go_enter Tryz.func32, Tryz.ntmps32
  go_wp2
  go_returns
  exact ⟨rfl, by go_grown⟩

set_option maxHeartbeats 1000000 in
theorem number_no (r : Int) (h0 : -2147483648 ≤ r) (h1 : r ≤ 2147483647) (h : noPt r) (w : World) :
    Calls Tryz.prog 64 #[.int .i32 r] w fun e w' => e = .returned (.int .i64 (-1)) ∧ w = w' := by
  unfold noPt at h
  by_cases c1 : r < 0
  · clear h
    go_enter Tryz.func64, Tryz.ntmps64
    go_wp2
    go_ret
    exact ⟨rfl, rfl⟩
  by_cases c2 : 1114367 < r
  · clear h
    go_enter Tryz.func64, Tryz.ntmps64
    go_wp2
    go_ret
    exact ⟨rfl, rfl⟩
  by_cases c3 : 55296 ≤ r ∧ r ≤ 57343
  · obtain ⟨c3, c4⟩ := c3
    clear h
    go_enter Tryz.func64, Tryz.ntmps64
    go_wp2
    go_ret
    exact ⟨rfl, rfl⟩
  have c4 : 1114112 ≤ r := by omega
  have c5 : r < 1114240 := by omega
  have c6 : 57343 < r := by omega
  clear h c3
  go_enter Tryz.func64, Tryz.ntmps64
  go_wp2
  go_ret
  exact ⟨rfl, rfl⟩

set_option maxHeartbeats 1000000 in
theorem number_yes (r : Int) (h : ¬ noPt r) (w : World) :
    Calls Tryz.prog 64 #[.int .i32 r] w fun e w' => (∃ n : Int, 0 ≤ n ∧ n ≤ 2000000 ∧ e = .returned (.int .i64 n)) ∧ w = w' := by
  unfold noPt at h
  have c1 : 0 ≤ r := by omega
  have c2 : r ≤ 1114367 := by omega
  by_cases c3 : r < 55296
  · clear h
    go_enter Tryz.func64, Tryz.ntmps64
    go_wp2
    go_ret
    exact ⟨⟨r, by omega, by omega, rfl⟩, rfl⟩
  have c4 : 57343 < r := by omega
  by_cases c5 : r < 1114112
  · clear h
    go_enter Tryz.func64, Tryz.ntmps64
    go_wp2
    go_ret
    exact ⟨⟨r - 2048, by omega, by omega, rfl⟩, rfl⟩
  have c6 : 1114240 ≤ r := by omega
  clear h
  go_enter Tryz.func64, Tryz.ntmps64
  go_wp2
  go_ret
  exact ⟨⟨r - 2176, by omega, by omega, rfl⟩, rfl⟩

set_option maxHeartbeats 1000000 in
theorem rplain_no (r : Int) (h0 : -2147483648 ≤ r) (h1 : r ≤ 2147483647) (h : noPt r) (w : World) :
    Calls Tryz.prog 33 #[.int .i32 r] w fun e w' => e = .returned zeroV ∧ Below w.heap.size w w' := by
  have HC := fun W => number_no r h0 h1 h W
  unfold zeroV
  go_enter Tryz.func33, Tryz.ntmps33
  go_wp2_with (go_at_call 64; refine (HC _).mono ?_; rintro e w' ⟨rfl, rfl⟩)
  go_returns
  exact ⟨rfl, by go_grown⟩

set_option maxHeartbeats 1000000 in
theorem rplain_yes (r : Int) (h : ¬ noPt r) (w : World) :
    Calls Tryz.prog 33 #[.int .i32 r] w fun e w' => e = .returned (plainV r) ∧ Below w.heap.size w w' := by
  have HC := fun W => number_yes r h W
  have c1 : 0 ≤ r ∧ r ≤ 1114367 := by unfold noPt at h; omega
  obtain ⟨c1, c2⟩ := c1
  clear h
  unfold plainV
  go_enter Tryz.func33, Tryz.ntmps33
  go_wp2_with (go_at_call 64; refine (HC _).mono ?_; rintro e w' ⟨⟨n, hn0, hn1, rfl⟩, rfl⟩)
  go_returns
  exact ⟨rfl, by go_grown⟩

/-- The first bytes of a text. -/
def headS (s : ByteArray) (n : Int) : ByteArray := if n < 1 then ByteArray.empty else if (s.size : Int) ≤ n then s else s.extract 0 n.toNat

set_option maxHeartbeats 400000 in
theorem head_any (s : ByteArray) (n : Int) (hn : -9223372036854775808 ≤ n) (hn' : n ≤ 9223372036854775807) (_hs : s.size ≤ 140737488351232) (w : World) :
    Calls Tryz.prog 34 #[.string s, .int .i64 n] w fun e w' => e = .returned (.string (headS s n)) ∧ w = w' := by
  by_cases h1 : n < 1
  · rw [show headS s n = ⟨#[]⟩ by unfold headS; rw [if_pos h1]; rfl]
    go_enter Tryz.func34, Tryz.ntmps34
    go_wp2
    go_ret
    exact ⟨rfl, rfl⟩
  · by_cases h2 : (s.size : Int) ≤ n
    · rw [show headS s n = s by unfold headS; rw [if_neg h1, if_pos h2]]
      go_enter Tryz.func34, Tryz.ntmps34
      go_wp2
      go_ret
      exact ⟨rfl, rfl⟩
    · rw [show headS s n = s.extract 0 n.toNat by unfold headS; rw [if_neg h1, if_neg h2]]
      go_enter Tryz.func34, Tryz.ntmps34
      go_wp2
      go_ret
      exact ⟨rfl, rfl⟩
end Go.Proofs.YtakbacfhcllioaaGreatDoor
