/- glossarylaw12.WeightsBytes: the walk. -/
import Derived.Test.YtakbacfhcllioaaGreatDoorLf
namespace Go.Proofs.YtakbacfhcllioaaGreatDoor
open Go.RowKit Go.PlainAid
attribute [local go_sem ↓] Go.wp_at_zero Go.wp_at_succ

theorem headS_size (s : ByteArray) : (headS s 1024).size ≤ 1024 := by
  unfold headS
  split
  · exact Nat.zero_le _
  split
  · omega
  · rw [ByteArray.size_extract]; simp; omega

/-- What the law asks of a number's bytes. -/
theorem enc_facts (n : Int) (n0 : 0 ≤ n) (n1 : n ≤ 18446744073709551615) : ∃ l : Nat, l ≤ 8 ∧ (strOfNums (encI n)).size = l + 1 ∧ bt (strOfNums (encI n)) 0 = (l : Int) + 2 ∧
    ∀ k, k < l + 1 → ¬ ReadOk ((strOfNums (encI n)).extract 0 k) 0 := by
  obtain ⟨x, ex, hx⟩ := enc_is n n0 n1
  have hsz : (strOfNums (encI n)).size = x.length + 1 := by rw [str_size, ex]; rfl
  have hb0 : bt (strOfNums (encI n)) 0 = (x.length : Int) + 2 := by rw [ex, bt_str _ (encI_dig hx) 0 (by simp)]; rfl
  refine ⟨x.length, hx.len, hsz, hb0, fun k hk => ?_⟩
  rintro ⟨a1, a2, a3, a4, a5, a6⟩
  have hs2 : ((strOfNums (encI n)).extract 0 k).size = k := by rw [ByteArray.size_extract]; omega
  rw [hs2] at a2 a5
  have : bt ((strOfNums (encI n)).extract 0 k) 0 = (x.length : Int) + 2 := by rw [bt_take _ k 0 (by omega) (by omega), hb0]
  rw [show (0 : Int).toNat = 0 from rfl, this] at a5
  omega

set_option maxRecDepth 100000 in
set_option maxHeartbeats 4000000 in
/-- From the second reading on. -/
theorem bytes_case (n m : Int) (n0 : 0 ≤ n) (n1 : n ≤ 18446744073709551615) (m0 : 0 ≤ m) (m1 : m ≤ 18446744073709551615) (head tail : ByteArray) (hh : head.size ≤ 140737488351232) (ht : tail.size ≤ 140737488351232)
    (w : World) :
    Calls Tryz.prog 7 #[.int .u64 n, .int .u64 m, .string head, .string tail] w fun e w' => e = .returned (.bool true) ∧ Below w.heap.size w w' := by
  have G1 := Lib.hid (fun W => head_any head 1024 (by omega) (by omega) hh W)
  have G2 := Lib.hid (fun W => head_any tail 1024 (by omega) (by omega) ht W)
  have z1 := headS_size head
  have z2 := headS_size tail
  obtain ⟨h, hh'⟩ : ∃ h, headS head 1024 = h := ⟨_, rfl⟩
  obtain ⟨t, ht'⟩ : ∃ t, headS tail 1024 = t := ⟨_, rfl⟩
  rw [hh'] at G1 z1
  rw [ht'] at G2 z2
  have H5 : Hid (∀ W, Calls Tryz.prog 30 #[.int .u64 n] W fun e w' => e = .returned (.string (strOfNums (encI n))) ∧ Below W.heap.size W w') := show ∀ W, _ from fun W => bytes_any n n0 n1 W
  have H6 : Hid (∀ W, Calls Tryz.prog 30 #[.int .u64 m] W fun e w' => e = .returned (.string (strOfNums (encI m))) ∧ Below W.heap.size W w') := show ∀ W, _ from fun W => bytes_any m m0 m1 W
  obtain ⟨l, hl8, hsz, hb0, hro⟩ := enc_facts n n0 n1
  obtain ⟨l2, hl82, hsz2, -, -⟩ := enc_facts m m0 m1
  have hless := enc_less n m n0 n1 m0 m1
  have hbeq := enc_beq n m n0 n1 m0 m1
  have hpre : n ≠ m → ((strOfNums (encI n)).toList == ((strOfNums (encI m)).extract 0 (l + 1)).toList) = false := fun hne => enc_prefix n m n0 n1 m0 m1 hne (l + 1) (by rw [← hsz, str_size])
  obtain ⟨l', el, hl8', eb, ez, ev⟩ := read_enc n n0 n1 h t
  obtain rfl : l' = l := by rw [str_size] at hsz; omega
  have HRD : Hid (∀ W, Calls Tryz.prog 28 #[.string (h ++ strOfNums (encI n) ++ t), .int .i64 h.size] W fun e w' => e = .returned (.tuple #[.int .u64 n, .int .i64 ((l' : Int) + 1), .bool true]) ∧ W = w') := show ∀ W, _ from fun W => by
    have := read_ok (h ++ strOfNums (encI n) ++ t) h.size l' (by rw [ByteArray.size_append, ByteArray.size_append]; omega) hl8 eb (by rw [ByteArray.size_append, ByteArray.size_append]; omega) ez W
    rwa [beR_eq _ _ _ hl8, ev] at this
  obtain ⟨a, ha⟩ : ∃ a, strOfNums (encI n) = a := ⟨_, rfl⟩
  obtain ⟨b, hb⟩ : ∃ b, strOfNums (encI m) = b := ⟨_, rfl⟩
  rw [ha] at H5 hsz hb0 hro hless hbeq hpre HRD
  rw [hb] at H6 hsz2 hless hbeq hpre
  have HRN : Hid (∀ k, k < l' + 1 → ∀ W, Calls Tryz.prog 28 #[.string (a.extract 0 k), .int .i64 0] W fun e w' => e = .returned (.tuple #[.int .u64 0, .int .i64 0, .bool false]) ∧ W = w') := show ∀ k, _ from fun k hk W =>
    read_no (a.extract 0 k) 0 (by omega) (by omega) (by rw [ByteArray.size_extract]; omega) (hro k hk) W
  have hcat1 : ∀ W, (Op.stringOp .add h a).run Tryz.prog W = .ok (.string (h ++ a)) W := fun W => run_string_add_sum _ _ _ (by omega)
  have hcat2 : ∀ W, (Op.stringOp .add (h ++ a) t).run Tryz.prog W = .ok (.string (h ++ a ++ t)) W := fun W => run_string_add_sum _ _ _ (by rw [ByteArray.size_append]; omega)
  have hpos : 0 < a.size := by omega
  have ga := get_bt a 0 hpos
  rw [hb0] at ga
  have sa1 : (a.size : Int) = (l' : Int) + 1 := by omega
  have sb1 : (b.size : Int) = (l2 : Int) + 1 := by omega
  have sl0 : (0 : Int) ≤ (l' : Int) := Int.natCast_nonneg _
  have sl8 : (l' : Int) ≤ 8 := by omega
  have hsl2 : a.size = l' + 1 := hsz
  clear hro n0 n1 m0 m1 hh ht hl8 hl82 el hl8' eb ez ev hsz2 hb0 z1 z2
  have HB := Lib.hid (Below.refl w.heap.size w)
  rcases Int.lt_trichotomy n m with hnm | hnm | hnm
  · rw [decide_eq_true hnm] at hless
    rw [decide_eq_false (by omega)] at hbeq
    have hp := hpre (by omega)
    have hq : (n == m) = false := by simp; omega
    have hq2 : (n != m) = true := by simp; omega
    clear hpre
    by_cases hlen : a.size ≤ b.size
    · have hlen2 : (a.size : Int) ≤ (b.size : Int) := by omega
      have hsl : ∀ W, (Instr.slice 9 (.string b) none (some (.int .i64 ((l' : Int) + 1))) none).run Tryz.prog W = .ok (.string (b.extract 0 (l' + 1))) W := fun W => by
        rw [run_slice_string_to_if (h := Tryz.underlying9), if_pos (by omega)]
        rw [show ((l' : Int) + 1).toNat = l' + 1 by omega]
      clear ha hb
      go_enter Tryz.func7, Tryz.ntmps7
      go_wp2_with (first
        | (go_at_call 34; first
            | ((with_reducible refine (G1.out _).mono ?_); rintro e w1 ⟨rfl, rfl⟩)
            | ((with_reducible refine (G2.out _).mono ?_); rintro e w1 ⟨rfl, rfl⟩))
        | (go_at_call 30; first
            | ((with_reducible refine (H5.out _).mono ?_); rintro e w2 ⟨rfl, hB1⟩; have HB := Lib.hid (HB.out.trans (hB1.mono HB.out.size)); clear hB1)
            | ((with_reducible refine (H6.out _).mono ?_); rintro e w3 ⟨rfl, hB1⟩; have HB := Lib.hid (HB.out.trans (hB1.mono HB.out.size)); clear hB1))
        | (go_at_call 28; (with_reducible refine (HRD.out _).mono ?_); rintro e w4 ⟨rfl, rfl⟩))
      go_loopw [14] (fun i wr => Hid (Below w.heap.size w wr) ∧ ∃ k : Nat, i = .int .i64 k ∧ k ≤ l' + 1) (fun i _ => l' + 1 - (intOf i).toNat)
      case atStart => exact ⟨HB.out, 0, by simp, Nat.zero_le _⟩
      case round =>
        obtain ⟨HB, k, rfl, hk⟩ := hrel
        by_cases hlt : k < l' + 1
        · have HK := Lib.hid (HRN.out k hlt)
          have hki : (k : Int) < (l' : Int) + 1 := by omega
          have hk0 : (0 : Int) ≤ (k : Int) := Int.natCast_nonneg _
          have hks : (k : Int) ≤ (a.size : Int) := by omega
          go_wp2_with (first | (go_at_call 28; (with_reducible refine (HK.out _).mono ?_); rintro e w5 ⟨rfl, rfl⟩))
          go_roundw
          case rel => exact ⟨HB.out, k + 1, by go_num, by omega⟩
          case measure => simp [intOf]; omega
        · obtain rfl : k = l' + 1 := by omega
          go_wp2_with (first | (go_at_call 21; (with_reducible refine (works_any _).mono ?_); rintro e w7 ⟨rfl, hB1⟩))
          go_ret
          exact ⟨rfl, HB.out.trans (hB1.mono HB.out.size)⟩
    · have hlen2 : (b.size : Int) < (a.size : Int) := by omega
      clear ha hb
      go_enter Tryz.func7, Tryz.ntmps7
      go_wp2_with (first
        | (go_at_call 34; first
            | ((with_reducible refine (G1.out _).mono ?_); rintro e w1 ⟨rfl, rfl⟩)
            | ((with_reducible refine (G2.out _).mono ?_); rintro e w1 ⟨rfl, rfl⟩))
        | (go_at_call 30; first
            | ((with_reducible refine (H5.out _).mono ?_); rintro e w2 ⟨rfl, hB1⟩; have HB := Lib.hid (HB.out.trans (hB1.mono HB.out.size)); clear hB1)
            | ((with_reducible refine (H6.out _).mono ?_); rintro e w3 ⟨rfl, hB1⟩; have HB := Lib.hid (HB.out.trans (hB1.mono HB.out.size)); clear hB1))
        | (go_at_call 28; (with_reducible refine (HRD.out _).mono ?_); rintro e w4 ⟨rfl, rfl⟩))
      go_loopw [14] (fun i wr => Hid (Below w.heap.size w wr) ∧ ∃ k : Nat, i = .int .i64 k ∧ k ≤ l' + 1) (fun i _ => l' + 1 - (intOf i).toNat)
      case atStart => exact ⟨HB.out, 0, by simp, Nat.zero_le _⟩
      case round =>
        obtain ⟨HB, k, rfl, hk⟩ := hrel
        by_cases hlt : k < l' + 1
        · have HK := Lib.hid (HRN.out k hlt)
          have hki : (k : Int) < (l' : Int) + 1 := by omega
          have hk0 : (0 : Int) ≤ (k : Int) := Int.natCast_nonneg _
          have hks : (k : Int) ≤ (a.size : Int) := by omega
          go_wp2_with (first | (go_at_call 28; (with_reducible refine (HK.out _).mono ?_); rintro e w5 ⟨rfl, rfl⟩))
          go_roundw
          case rel => exact ⟨HB.out, k + 1, by go_num, by omega⟩
          case measure => simp [intOf]; omega
        · obtain rfl : k = l' + 1 := by omega
          go_wp2_with (first | (go_at_call 21; (with_reducible refine (works_any _).mono ?_); rintro e w7 ⟨rfl, hB1⟩))
          go_ret
          exact ⟨rfl, HB.out.trans (hB1.mono HB.out.size)⟩
  · subst hnm
    obtain rfl : a = b := ha.symm.trans hb
    rw [decide_eq_false (by omega)] at hless
    rw [decide_eq_true rfl] at hbeq
    have hq : (n == n) = true := by simp
    clear hpre
    go_enter Tryz.func7, Tryz.ntmps7
    go_wp2_with (first
      | (go_at_call 34; first
          | ((with_reducible refine (G1.out _).mono ?_); rintro e w1 ⟨rfl, rfl⟩)
          | ((with_reducible refine (G2.out _).mono ?_); rintro e w1 ⟨rfl, rfl⟩))
      | (go_at_call 30; first
          | ((with_reducible refine (H5.out _).mono ?_); rintro e w2 ⟨rfl, hB1⟩; have HB := Lib.hid (HB.out.trans (hB1.mono HB.out.size)); clear hB1)
          | ((with_reducible refine (H6.out _).mono ?_); rintro e w3 ⟨rfl, hB1⟩; have HB := Lib.hid (HB.out.trans (hB1.mono HB.out.size)); clear hB1))
      | (go_at_call 28; (with_reducible refine (HRD.out _).mono ?_); rintro e w4 ⟨rfl, rfl⟩))
    go_loopw [14] (fun i wr => Hid (Below w.heap.size w wr) ∧ ∃ k : Nat, i = .int .i64 k ∧ k ≤ l' + 1) (fun i _ => l' + 1 - (intOf i).toNat)
    case atStart => exact ⟨HB.out, 0, by simp, Nat.zero_le _⟩
    case round =>
      obtain ⟨HB, k, rfl, hk⟩ := hrel
      by_cases hlt : k < l' + 1
      · have HK := Lib.hid (HRN.out k hlt)
        have hki : (k : Int) < (l' : Int) + 1 := by omega
        have hk0 : (0 : Int) ≤ (k : Int) := Int.natCast_nonneg _
        have hks : (k : Int) ≤ (a.size : Int) := by omega
        go_wp2_with (first | (go_at_call 28; (with_reducible refine (HK.out _).mono ?_); rintro e w5 ⟨rfl, rfl⟩))
        go_roundw
        case rel => exact ⟨HB.out, k + 1, by go_num, by omega⟩
        case measure => simp [intOf]; omega
      · obtain rfl : k = l' + 1 := by omega
        go_wp2_with (first | (go_at_call 21; (with_reducible refine (works_any _).mono ?_); rintro e w7 ⟨rfl, hB1⟩))
        go_ret
        exact ⟨rfl, HB.out.trans (hB1.mono HB.out.size)⟩
  · rw [decide_eq_false (by omega)] at hless
    rw [decide_eq_false (by omega)] at hbeq
    have hp := hpre (by omega)
    have hq : (n == m) = false := by simp; omega
    have hq2 : (n != m) = true := by simp; omega
    have hnm2 : ¬ n < m := by omega
    clear hpre
    by_cases hlen : a.size ≤ b.size
    · have hlen2 : (a.size : Int) ≤ (b.size : Int) := by omega
      have hsl : ∀ W, (Instr.slice 9 (.string b) none (some (.int .i64 ((l' : Int) + 1))) none).run Tryz.prog W = .ok (.string (b.extract 0 (l' + 1))) W := fun W => by
        rw [run_slice_string_to_if (h := Tryz.underlying9), if_pos (by omega)]
        rw [show ((l' : Int) + 1).toNat = l' + 1 by omega]
      clear ha hb
      go_enter Tryz.func7, Tryz.ntmps7
      go_wp2_with (first
        | (go_at_call 34; first
            | ((with_reducible refine (G1.out _).mono ?_); rintro e w1 ⟨rfl, rfl⟩)
            | ((with_reducible refine (G2.out _).mono ?_); rintro e w1 ⟨rfl, rfl⟩))
        | (go_at_call 30; first
            | ((with_reducible refine (H5.out _).mono ?_); rintro e w2 ⟨rfl, hB1⟩; have HB := Lib.hid (HB.out.trans (hB1.mono HB.out.size)); clear hB1)
            | ((with_reducible refine (H6.out _).mono ?_); rintro e w3 ⟨rfl, hB1⟩; have HB := Lib.hid (HB.out.trans (hB1.mono HB.out.size)); clear hB1))
        | (go_at_call 28; (with_reducible refine (HRD.out _).mono ?_); rintro e w4 ⟨rfl, rfl⟩))
      go_loopw [14] (fun i wr => Hid (Below w.heap.size w wr) ∧ ∃ k : Nat, i = .int .i64 k ∧ k ≤ l' + 1) (fun i _ => l' + 1 - (intOf i).toNat)
      case atStart => exact ⟨HB.out, 0, by simp, Nat.zero_le _⟩
      case round =>
        obtain ⟨HB, k, rfl, hk⟩ := hrel
        by_cases hlt : k < l' + 1
        · have HK := Lib.hid (HRN.out k hlt)
          have hki : (k : Int) < (l' : Int) + 1 := by omega
          have hk0 : (0 : Int) ≤ (k : Int) := Int.natCast_nonneg _
          have hks : (k : Int) ≤ (a.size : Int) := by omega
          go_wp2_with (first | (go_at_call 28; (with_reducible refine (HK.out _).mono ?_); rintro e w5 ⟨rfl, rfl⟩))
          go_roundw
          case rel => exact ⟨HB.out, k + 1, by go_num, by omega⟩
          case measure => simp [intOf]; omega
        · obtain rfl : k = l' + 1 := by omega
          go_wp2_with (first | (go_at_call 21; (with_reducible refine (works_any _).mono ?_); rintro e w7 ⟨rfl, hB1⟩))
          go_ret
          exact ⟨rfl, HB.out.trans (hB1.mono HB.out.size)⟩
    · have hlen2 : (b.size : Int) < (a.size : Int) := by omega
      clear ha hb
      go_enter Tryz.func7, Tryz.ntmps7
      go_wp2_with (first
        | (go_at_call 34; first
            | ((with_reducible refine (G1.out _).mono ?_); rintro e w1 ⟨rfl, rfl⟩)
            | ((with_reducible refine (G2.out _).mono ?_); rintro e w1 ⟨rfl, rfl⟩))
        | (go_at_call 30; first
            | ((with_reducible refine (H5.out _).mono ?_); rintro e w2 ⟨rfl, hB1⟩; have HB := Lib.hid (HB.out.trans (hB1.mono HB.out.size)); clear hB1)
            | ((with_reducible refine (H6.out _).mono ?_); rintro e w3 ⟨rfl, hB1⟩; have HB := Lib.hid (HB.out.trans (hB1.mono HB.out.size)); clear hB1))
        | (go_at_call 28; (with_reducible refine (HRD.out _).mono ?_); rintro e w4 ⟨rfl, rfl⟩))
      go_loopw [14] (fun i wr => Hid (Below w.heap.size w wr) ∧ ∃ k : Nat, i = .int .i64 k ∧ k ≤ l' + 1) (fun i _ => l' + 1 - (intOf i).toNat)
      case atStart => exact ⟨HB.out, 0, by simp, Nat.zero_le _⟩
      case round =>
        obtain ⟨HB, k, rfl, hk⟩ := hrel
        by_cases hlt : k < l' + 1
        · have HK := Lib.hid (HRN.out k hlt)
          have hki : (k : Int) < (l' : Int) + 1 := by omega
          have hk0 : (0 : Int) ≤ (k : Int) := Int.natCast_nonneg _
          have hks : (k : Int) ≤ (a.size : Int) := by omega
          go_wp2_with (first | (go_at_call 28; (with_reducible refine (HK.out _).mono ?_); rintro e w5 ⟨rfl, rfl⟩))
          go_roundw
          case rel => exact ⟨HB.out, k + 1, by go_num, by omega⟩
          case measure => simp [intOf]; omega
        · obtain rfl : k = l' + 1 := by omega
          go_wp2_with (first | (go_at_call 21; (with_reducible refine (works_any _).mono ?_); rintro e w7 ⟨rfl, hB1⟩))
          go_ret
          exact ⟨rfl, HB.out.trans (hB1.mono HB.out.size)⟩
end Go.Proofs.YtakbacfhcllioaaGreatDoor
