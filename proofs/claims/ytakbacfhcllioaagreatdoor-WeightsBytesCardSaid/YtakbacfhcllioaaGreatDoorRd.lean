/- weights.Read at every text and place: what it answers. -/
import Derived.Test.YtakbacfhcllioaaGreatDoorK
import Derived.PlainAid
import Derived.Laws.Bits64b
namespace Go.Proofs.YtakbacfhcllioaaGreatDoor
open Go.RowKit Go.PlainAid

def stepR (a b : Int) : Int := bits BinOp.or IntKind.u64 (IntKind.u64.wrap (a * 256)) (IntKind.u64.wrap b)
/-- What Read comes to of k bytes from a on. -/
def beR (s : ByteArray) (a : Nat) : Nat → Int
  | 0 => 0
  | k + 1 => stepR (beR s a k) (bt s (a + k))
theorem beR_succ (s : ByteArray) (a k : Nat) : bits BinOp.or IntKind.u64 (IntKind.u64.wrap (beR s a k * 256)) (IntKind.u64.wrap (bt s (a + k))) = beR s a (k + 1) := rfl
/-- The number that k bytes from a on say. -/
def valR (s : ByteArray) (a : Nat) : Nat → Int
  | 0 => 0
  | k + 1 => valR s a k * 256 + bt s (a + k)

theorem stepR_eq {a b : Int} (h0 : 0 ≤ a) (h1 : a < 72057594037927936) (h2 : 0 ≤ b) (h3 : b ≤ 255) : stepR a b = a * 256 + b := by
  obtain ⟨m, rfl⟩ := Int.eq_ofNat_of_zero_le h0
  obtain ⟨c, rfl⟩ := Int.eq_ofNat_of_zero_le h2
  have e1 : IntKind.u64.wrap ((m : Int) * 256) = ((m * 256 : Nat) : Int) := by rw [IntKind.wrap_u64]; omega
  have e2 : IntKind.u64.wrap (c : Int) = (c : Int) := by rw [IntKind.wrap_u64]; omega
  unfold stepR
  rw [e1, e2, bits_or_u64_nat _ _ (by omega) (by omega)]
  have e3 : m * 256 ||| c = m * 256 + c := by
    rw [show m * 256 = 2 ^ 8 * m by omega]
    exact (Nat.two_pow_add_eq_or_of_lt (by omega) m).symm
  rw [e3]
  omega

theorem valR_bd (s : ByteArray) (a k : Nat) : 0 ≤ valR s a k ∧ valR s a k < ((256 ^ k : Nat) : Int) := by
  induction k with
  | zero => exact ⟨Int.le_refl _, by simp [valR]⟩
  | succ k ih =>
    have := bt_nonneg s (a + k)
    have := bt_le s (a + k)
    have e : ((256 ^ (k + 1) : Nat) : Int) = ((256 ^ k : Nat) : Int) * 256 := by rw [Nat.pow_succ]; omega
    rw [e]
    simp only [valR]
    omega

theorem beR_eq (s : ByteArray) (a k : Nat) (hk : k ≤ 8) : beR s a k = valR s a k := by
  induction k with
  | zero => rfl
  | succ k ih =>
    have h := valR_bd s a k
    have hp : (256 ^ k : Nat) ≤ 256 ^ 7 := Nat.pow_le_pow_right (by omega) (by omega)
    have hp7 : (256 ^ 7 : Nat) = 72057594037927936 := by decide
    simp only [beR, valR]
    rw [ih (by omega), stepR_eq h.1 (by omega) (bt_nonneg _ _) (bt_le _ _)]

/-- May a number be read at a place? -/
def ReadOk (s : ByteArray) (i : Int) : Prop :=
  0 ≤ i ∧ i < s.size ∧ 2 ≤ bt s i.toNat ∧ bt s i.toNat ≤ 10 ∧ i + 1 + (bt s i.toNat - 2) ≤ s.size ∧ (bt s i.toNat = 2 ∨ bt s (i.toNat + 1) ≠ 0)

set_option maxRecDepth 100000 in
set_option maxHeartbeats 1000000 in
theorem read_ok (s : ByteArray) (i l : Nat) (hs : s.size ≤ 140737488351232) (hl8 : l ≤ 8) (hb : bt s i = (l : Int) + 2) (hl : i + 1 + l ≤ s.size) (hz : l = 0 ∨ bt s (i + 1) ≠ 0) (w : World) :
    Calls Tryz.prog 28 #[.string s, .int .i64 i] w fun e w' => e = .returned (.tuple #[.int .u64 (beR s (i + 1) l), .int .i64 (l + 1), .bool true]) ∧ w = w' := by
  have hbt := get_bt s
  have HB : Hid (bt s i = (l : Int) + 2) := hb
  by_cases c : l = 0
  · subst c
    go_enter Tryz.func28, Tryz.ntmps28
    go_wp2
    go_rounds 2
    go_ret3
    exact ⟨rfl, rfl⟩
  · have hz' : (bt s (i + 1) == 0) = false := by simp; omega
    clear hz
    go_enter Tryz.func28, Tryz.ntmps28
    go_wp2
    go_loop [8, 50] (fun n k => ∃ j : Nat, j ≤ l ∧ k = .int .i64 j ∧ n = .int .u64 (beR s (i + 1) j)) (fun _ k => l - (intOf k).toNat)
    case atStart => exact ⟨0, Nat.zero_le _, rfl, rfl⟩
    case round =>
      obtain ⟨j, hj, rfl, rfl⟩ := hrel
      by_cases hlt : j < l
      · go_wp2
        go_round
        case rel => exact ⟨j + 1, by omega, by go_num, rfl⟩
        case measure => simp [intOf]; omega
      · obtain rfl : j = l := by omega
        go_wp2
        go_ret3
        exact ⟨rfl, rfl⟩

set_option maxRecDepth 100000 in
set_option maxHeartbeats 1000000 in
theorem read_no (s : ByteArray) (i : Int) (hi : -9223372036854775808 ≤ i) (hi' : i ≤ 9223372036854775807) (hs : s.size ≤ 140737488351232) (h : ¬ ReadOk s i) (w : World) :
    Calls Tryz.prog 28 #[.string s, .int .i64 i] w fun e w' => e = .returned (.tuple #[.int .u64 0, .int .i64 0, .bool false]) ∧ w = w' := by
  have hbt := get_bt s
  by_cases c1 : i < 0
  · clear h
    go_enter Tryz.func28, Tryz.ntmps28
    go_wp2
    go_ret3
    exact ⟨rfl, rfl⟩
  obtain ⟨i, rfl⟩ := Int.eq_ofNat_of_zero_le (show 0 ≤ i by omega)
  by_cases c2 : s.size ≤ i
  · clear h
    go_enter Tryz.func28, Tryz.ntmps28
    go_wp2
    go_ret3
    exact ⟨rfl, rfl⟩
  have b0 := bt_nonneg s i
  have b1 := bt_le s i
  unfold ReadOk at h
  rw [Int.toNat_natCast] at h
  by_cases c3 : bt s i < 2
  · clear h
    go_enter Tryz.func28, Tryz.ntmps28
    go_wp2
    go_ret3
    exact ⟨rfl, rfl⟩
  by_cases c4 : 10 < bt s i
  · clear h
    go_enter Tryz.func28, Tryz.ntmps28
    go_wp2
    go_ret3
    exact ⟨rfl, rfl⟩
  by_cases c5 : (s.size : Int) < i + 1 + (bt s i - 2)
  · clear h
    go_enter Tryz.func28, Tryz.ntmps28
    go_wp2
    go_ret3
    exact ⟨rfl, rfl⟩
  have h6 : 2 < bt s i := by omega
  have h7 : (bt s (i + 1) == 0) = true := by simp; omega
  clear h
  go_enter Tryz.func28, Tryz.ntmps28
  go_wp2
  go_ret3
  exact ⟨rfl, rfl⟩
end Go.Proofs.YtakbacfhcllioaaGreatDoor
