/- glossaryref12.Read at every text and place; the two Plain. -/
import Derived.Test.YtakbacfhcllioaaGreatDoorRd
import Derived.Test.YtakbacfhcllioaaGreatDoorRb
import Derived.Deep.QuietTactic
import Derived.BigQuiet
import Derived.Outline
import Derived.Lib.Hide
import Derived.Deep.RegionHeld3
import Derived.Deep.DeepCutAuto
namespace Go.Proofs.YtakbacfhcllioaaGreatDoor
open Go.RowKit Go.PlainAid

set_option maxRecDepth 100000 in
set_option maxHeartbeats 1000000 in
theorem rread_no (s : ByteArray) (i : Int) (hi : -9223372036854775808 ≤ i) (hi' : i ≤ 9223372036854775807) (_hs : s.size ≤ 140737488351232)
    (h : i < 0 ∨ s.size ≤ i ∨ (0 ≤ i ∧ i < s.size ∧ (bt s i.toNat < 2 ∨ 10 < bt s i.toNat ∨ s.size < i + 1 + (bt s i.toNat - 2)))) (w : World) :
    Calls Tryz.prog 29 #[.string s, .int .i64 i] w fun e w' => e = .returned (.tuple #[.int .u64 0, .int .i64 0, .bool false]) ∧ w = w' := by
  have hbt := get_bt s
  by_cases c1 : i < 0
  · clear h
    go_enter Tryz.func29, Tryz.ntmps29
    go_wp2
    go_ret3
    exact ⟨rfl, rfl⟩
  obtain ⟨i, rfl⟩ := Int.eq_ofNat_of_zero_le (show 0 ≤ i by omega)
  by_cases c2 : s.size ≤ i
  · clear h
    go_enter Tryz.func29, Tryz.ntmps29
    go_wp2
    go_ret3
    exact ⟨rfl, rfl⟩
  have b0 := bt_nonneg s i
  have b1 := bt_le s i
  rw [Int.toNat_natCast] at h
  by_cases c3 : bt s i < 2
  · clear h
    go_enter Tryz.func29, Tryz.ntmps29
    go_wp2
    go_ret3
    exact ⟨rfl, rfl⟩
  by_cases c4 : 10 < bt s i
  · clear h
    go_enter Tryz.func29, Tryz.ntmps29
    go_wp2
    go_ret3
    exact ⟨rfl, rfl⟩
  have c5 : (s.size : Int) - i - 1 < bt s i - 2 := by omega
  clear h
  go_enter Tryz.func29, Tryz.ntmps29
  go_wp2
  go_ret3
  exact ⟨rfl, rfl⟩

set_option maxRecDepth 100000 in
set_option maxHeartbeats 1000000 in
theorem rread_some (s : ByteArray) (i l : Nat) (hs : s.size ≤ 140737488351232) (hl8 : l ≤ 8) (hb : bt s i = (l : Int) + 2) (hl : i + 1 + l ≤ s.size) (ok : Bool) (hok : ((strOfNums (encI (valR s (i + 1) l))).toList == (s.extract i (i + l + 1)).toList) = ok) (w : World) :
    Calls Tryz.prog 29 #[.string s, .int .i64 i] w fun e w' => e = .returned (if ok then .tuple #[.int .u64 (valR s (i + 1) l), .int .i64 (l + 1), .bool true] else .tuple #[.int .u64 0, .int .i64 0, .bool false]) ∧ Below w.heap.size w w' := by
  have hbt := get_bt s
  have HB : Hid (bt s i = (l : Int) + 2) := hb
  have c1 : ¬ ((s.size : Int) - i - 1 < l) := by omega
  have hv := valR_bd s (i + 1) l
  have hp : (256 ^ l : Nat) ≤ 256 ^ 8 := Nat.pow_le_pow_right (by omega) (by omega)
  have hp8 : (256 ^ 8 : Nat) = 18446744073709551616 := by decide
  have h0 : 0 ≤ valR s (i + 1) l := hv.1
  have h1 : valR s (i + 1) l ≤ 18446744073709551615 := by omega
  have Hb : Hid (beR s (i + 1) l = valR s (i + 1) l) := beR_eq s (i + 1) l hl8
  clear hv hp hp8
  have HC : ∀ W, Calls Tryz.prog 31 #[.int .u64 (valR s (i + 1) l)] W fun e w' => e = .returned (.string (strOfNums (encI (valR s (i + 1) l)))) ∧ Below W.heap.size W w' := fun W => rbytes_any (valR s (i + 1) l) h0 h1 W
  go_enter Tryz.func29, Tryz.ntmps29
  go_wp2
  go_loop [7, 9] (fun n k => ∃ j : Nat, j ≤ l ∧ k = .int .i64 (j + 1) ∧ n = .int .u64 (beR s (i + 1) j)) (fun _ k => l + 1 - (intOf k).toNat)
  case atStart => exact ⟨0, Nat.zero_le _, rfl, rfl⟩
  case round =>
    obtain ⟨j, hj, rfl, rfl⟩ := hrel
    by_cases hlt : j < l
    · go_wp2
      go_round
      case rel => exact ⟨j + 1, by omega, by go_num, by rw [← beR_succ, Nat.add_right_comm, Nat.add_assoc i j 1]⟩
      case measure => simp [intOf]; omega
    · obtain rfl : j = l := by omega
      rw [Hb.out]
      have e8 : (j : Int) + 2 - 1 = (j : Int) + 1 := by omega
      have hsl : ∀ wx, (Instr.slice 9 (.string s) (some (.int .i64 (i : Int))) (some (.int .i64 ((i : Int) + ((j : Int) + 1)))) none).run Tryz.prog wx = .ok (.string (s.extract i (i + j + 1))) wx := fun wx => by
        have := run_slice_string (P := Tryz.prog) wx 9 s .i64 .i64 (i : Int) ((i : Int) + ((j : Int) + 1)) Tryz.underlying9 (by omega) (by omega) (by omega)
        rwa [show ((i : Int) + ((j : Int) + 1)).toNat = i + j + 1 by omega, show ((i : Nat) : Int).toNat = i from rfl] at this
      have hwr : IntKind.i64.wrap ((i : Int) + ((j : Int) + 1)) = (i : Int) + ((j : Int) + 1) := by rw [IntKind.wrap_i64]; omega
      go_upto_region 9 with fail
      rw [e8]
      go_cut [70] (fun v wx => v = .bool (!ok) ∧ Below w.heap.size w wx)
      case first =>
        go_region_with (go_at_call 31; refine (HC _).mono ?_; rintro e w' ⟨rfl, hg⟩)
        all_goals (go_wp2_with fail; go_meet; exact ⟨rfl, ((Below.refl _ w).drew).trans hg⟩)
      case rest =>
        obtain ⟨rfl, hB⟩ := hcut
        cases ok
        · go_wp2
          go_ret3
          exact ⟨rfl, hB⟩
        · go_wp2
          go_ret3
          exact ⟨rfl, hB⟩
end Go.Proofs.YtakbacfhcllioaaGreatDoor
