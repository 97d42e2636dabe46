/- glossarylaw12.WeightsForms: the walk. -/
import Derived.Test.YtakbacfhcllioaaGreatDoorLa
namespace Go.Proofs.YtakbacfhcllioaaGreatDoor
open Go.RowKit Go.PlainAid
attribute [local go_sem ↓] Go.wp_at_zero Go.wp_at_succ

/-- What is read: nothing, or a number in its one form. -/
theorem read_form (s : ByteArray) (at' : Int) (h0 : -9223372036854775808 ≤ at') (h1 : at' ≤ 9223372036854775807) (hs : s.size ≤ 1024) :
    (∀ W, Calls Tryz.prog 28 #[.string s, .int .i64 at'] W fun e w' => e = .returned (.tuple #[.int .u64 0, .int .i64 0, .bool false]) ∧ W = w') ∨
    ∃ (i l : Nat) (n : Int), at' = (i : Int) ∧ i + 1 + l ≤ s.size ∧ 0 ≤ n ∧ n ≤ 18446744073709551615 ∧ strOfNums (encI n) = s.extract i (i + l + 1) ∧
      (∀ W, Calls Tryz.prog 28 #[.string s, .int .i64 i] W fun e w' => e = .returned (.tuple #[.int .u64 n, .int .i64 (l + 1), .bool true]) ∧ W = w') := by
  by_cases hA : ReadOk s at'
  · right
    obtain ⟨a1, a2, a3, a4, a5, a6⟩ := hA
    obtain ⟨i, rfl⟩ := Int.eq_ofNat_of_zero_le a1
    rw [Int.toNat_natCast] at a3 a4 a5 a6
    obtain ⟨l, hl⟩ : ∃ l : Nat, bt s i = (l : Int) + 2 := ⟨(bt s i - 2).toNat, by omega⟩
    have hl8 : l ≤ 8 := by omega
    have hil : i + 1 + l ≤ s.size := by omega
    have hz : l = 0 ∨ bt s (i + 1) ≠ 0 := by
      rcases a6 with h | h
      · left; omega
      · exact .inr h
    have hv := valR_bd s (i + 1) l
    have hp : (256 ^ l : Nat) ≤ 256 ^ 8 := Nat.pow_le_pow_right (by omega) (by omega)
    have hp8 : (256 ^ 8 : Nat) = 18446744073709551616 := by decide
    refine ⟨i, l, valR s (i + 1) l, rfl, hil, hv.1, by omega, enc_read s i l hl8 hl hil hz, fun W => ?_⟩
    have := read_ok s i l (by omega) hl8 hl hil hz W
    rwa [beR_eq s (i + 1) l hl8] at this
  · exact .inl fun W => read_no s at' h0 h1 (by omega) hA W

set_option maxRecDepth 100000 in
set_option maxHeartbeats 4000000 in
theorem forms_any (s : ByteArray) (at' : Int) (h0 : -9223372036854775808 ≤ at') (h1 : at' ≤ 9223372036854775807) (w : World) :
    Calls Tryz.prog 8 #[.string s, .int .i64 at'] w fun e w' => e = .returned (.bool true) ∧ Below w.heap.size w w' := by
  by_cases hs : s.size ≤ 1024
  · have hs2 : (s.size : Int) ≤ 1024 := by omega
    rcases read_form s at' h0 h1 hs with hr | ⟨i, l, n, rfl, hil, n0, n1, he, hr⟩
    · have H1 := Lib.hid hr
      clear hr h0 h1 hs
      go_enter Tryz.func8, Tryz.ntmps8
      go_wp2_with (first
        | (go_at_call 28; (with_reducible refine (H1.out _).mono ?_); rintro e w1 ⟨rfl, rfl⟩)
        | (go_at_call 21; (with_reducible refine (works_any _).mono ?_); rintro e w7 ⟨rfl, hB1⟩))
      go_ret
      exact ⟨rfl, hB1⟩
    · have H1 := Lib.hid hr
      have H5 : Hid (∀ W, Calls Tryz.prog 30 #[.int .u64 n] W fun e w' => e = .returned (.string (strOfNums (encI n))) ∧ Below W.heap.size W w') := show ∀ W, _ from fun W => bytes_any n n0 n1 W
      obtain ⟨z, hz⟩ : ∃ z, strOfNums (encI n) = z := ⟨_, rfl⟩
      rw [hz] at H5 he
      have hi0 : (0 : Int) ≤ (i : Int) := Int.natCast_nonneg _
      have hi1 : (0 : Int) ≤ (l : Int) := Int.natCast_nonneg _
      have hi2 : (i : Int) + ((l : Int) + 1) ≤ (s.size : Int) := by omega
      have hsl : ∀ wx, (Instr.slice 9 (.string s) (some (.int .i64 (i : Int))) (some (.int .i64 ((i : Int) + ((l : Int) + 1)))) none).run Tryz.prog wx = .ok (.string z) wx := fun wx => by
        have := run_slice_string (P := Tryz.prog) wx 9 s .i64 .i64 (i : Int) ((i : Int) + ((l : Int) + 1)) Tryz.underlying9 (by omega) (by omega) (by omega)
        rwa [show ((i : Int) + ((l : Int) + 1)).toNat = i + l + 1 by omega, show ((i : Nat) : Int).toNat = i from rfl, ← he] at this
      have hwr : IntKind.i64.wrap ((i : Int) + ((l : Int) + 1)) = (i : Int) + ((l : Int) + 1) := by rw [IntKind.wrap_i64]; omega
      clear hr h0 h1 hs hil n0 n1 hz he
      go_enter Tryz.func8, Tryz.ntmps8
      go_wp2_with (first
        | (go_at_call 28; (with_reducible refine (H1.out _).mono ?_); rintro e w1 ⟨rfl, hw1⟩; subst hw1))
      have HB := Lib.hid (Below.refl w.heap.size w).drew
      go_region_held3 (fun _ => True) (trivial)
        (first
          | (go_at_call 30; (with_reducible refine (H5.out _).mono ?_); rintro e w2 ⟨rfl, hB1⟩; have HB := Lib.hid (HB.out.trans (hB1.mono HB.out.size)); clear hB1)
          | (go_at_call 21; (with_reducible refine (works_any _).mono ?_); rintro e w3 ⟨rfl, hB1⟩; have HB := Lib.hid (HB.out.trans (hB1.mono HB.out.size)); clear hB1))
      go_wp2
      go_ret
      exact ⟨rfl, HB.out⟩
  · have hs2 : (1024 : Int) < (s.size : Int) := by omega
    go_enter Tryz.func8, Tryz.ntmps8
    go_wp2_with (fail)
    go_ret
    exact ⟨rfl, Below.refl _ _⟩
end Go.Proofs.YtakbacfhcllioaaGreatDoor
