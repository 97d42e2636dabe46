/- glossarylaw12.WeightsNumbers: the walk. -/
import Derived.Test.YtakbacfhcllioaaGreatDoorWk
import Derived.Test.YtakbacfhcllioaaGreatDoorPv
import Derived.Test.YtakbacfhcllioaaGreatDoorRq
namespace Go.Proofs.YtakbacfhcllioaaGreatDoor
open Go.RowKit Go.PlainAid

theorem enc_read_no (s : ByteArray) (i l : Nat) (hl8 : l ≤ 8) (hl : i + 1 + l ≤ s.size) (hl0 : 0 < l) (hz : bt s (i + 1) = 0) :
    ((strOfNums (encI (valR s (i + 1) l))).toList == (s.extract i (i + l + 1)).toList) = false := by
  have hv := valR_bd s (i + 1) l
  have hp : (256 ^ l : Nat) ≤ 256 ^ 8 := Nat.pow_le_pow_right (by omega) (by omega)
  have hp8 : (256 ^ 8 : Nat) = 18446744073709551616 := by decide
  obtain ⟨x, ex, hx⟩ := enc_is (valR s (i + 1) l) hv.1 (by omega)
  rw [beq_eq_false_iff_ne]
  intro e
  rw [str_list, ex, byteList, ByteArray.data_extract, Array.toList_extract] at e
  have hlen := congrArg List.length e
  simp only [u8I, List.length_map, List.length_cons, List.extract, List.length_take, List.length_drop, Array.length_toList] at hlen
  have hss : s.data.size = s.size := rfl
  have hxl : 0 < x.length := by omega
  have e1 := congrArg (fun q => q[1]?) e
  simp only [List.extract, List.getElem?_take, List.getElem?_drop] at e1
  rw [if_pos (by omega)] at e1
  have e2 : (u8I (((x.length : Int) + 2) :: x))[1]? = some (UInt8.ofNat (x[0]).toNat) := by
    unfold u8I
    rw [List.map_cons, List.getElem?_cons_succ, List.getElem?_map, List.getElem?_eq_getElem hxl]
    rfl
  have e3 : s.data.toList[i + 1]? = some (UInt8.ofNat 0) := by
    have h2 : i + 1 < s.data.toList.length := by rw [Array.length_toList]; show i + 1 < s.size; omega
    rw [List.getElem?_eq_getElem h2]
    have := get_bt s (i + 1) (by omega)
    rw [hz] at this
    congr 1
    apply UInt8.toNat_inj.1
    show (s[i + 1]'_).toNat = 0
    omega
  rw [e2, e3] at e1
  have hd := hx.dig x[0] (List.getElem_mem hxl)
  have e4 := u8_inj hd (by omega) (show UInt8.ofNat (x[0]).toNat = UInt8.ofNat (0 : Int).toNat from Option.some.inj e1)
  refine hx.head ?_
  rw [List.head?_eq_getElem?, List.getElem?_eq_getElem hxl, e4]

/-- Both readers answer alike. -/
theorem read_both (s : ByteArray) (at' : Int) (h0 : -9223372036854775808 ≤ at') (h1 : at' ≤ 9223372036854775807) (hs : s.size ≤ 1024) :
    ∃ (k v : Int) (b : Bool), (∀ W, Calls Tryz.prog 28 #[.string s, .int .i64 at'] W fun e w' => e = .returned (.tuple #[.int .u64 k, .int .i64 v, .bool b]) ∧ W = w') ∧
      (∀ W, Calls Tryz.prog 29 #[.string s, .int .i64 at'] W fun e w' => e = .returned (.tuple #[.int .u64 k, .int .i64 v, .bool b]) ∧ Below W.heap.size W w') := by
  by_cases hA : 0 ≤ at' ∧ at' < s.size ∧ 2 ≤ bt s at'.toNat ∧ bt s at'.toNat ≤ 10 ∧ at' + 1 + (bt s at'.toNat - 2) ≤ s.size
  · obtain ⟨a1, a2, a3, a4, a5⟩ := hA
    obtain ⟨i, rfl⟩ := Int.eq_ofNat_of_zero_le a1
    rw [Int.toNat_natCast] at a3 a4 a5
    obtain ⟨l, hl⟩ : ∃ l : Nat, bt s i = (l : Int) + 2 := ⟨(bt s i - 2).toNat, by omega⟩
    have hl8 : l ≤ 8 := by omega
    have hil : i + 1 + l ≤ s.size := by omega
    by_cases hz : l = 0 ∨ bt s (i + 1) ≠ 0
    · refine ⟨valR s (i + 1) l, (l : Int) + 1, true, fun W => ?_, fun W => ?_⟩
      · have := read_ok s i l (by omega) hl8 hl hil hz W
        rwa [beR_eq s (i + 1) l hl8] at this
      · have := rread_some s i l (by omega) hl8 hl hil true (by rw [enc_read s i l hl8 hl hil hz]; exact beq_self_eq_true _) W
        simpa using this
    · have hl0 : 0 < l := by omega
      have hz0 : bt s (i + 1) = 0 := by omega
      refine ⟨0, 0, false, fun W => ?_, fun W => ?_⟩
      · exact read_no s i (by omega) (by omega) (by omega) (by unfold ReadOk; rw [Int.toNat_natCast]; omega) W
      · have := rread_some s i l (by omega) hl8 hl hil false (enc_read_no s i l hl8 hil hl0 hz0) W
        simpa using this
  · refine ⟨0, 0, false, fun W => ?_, fun W => ?_⟩
    · exact read_no s at' h0 h1 (by omega) (by unfold ReadOk; omega) W
    · refine (rread_no s at' h0 h1 (by omega) (by omega) W).mono ?_
      rintro e w' ⟨rfl, rfl⟩
      exact ⟨rfl, Below.refl _ _⟩

theorem plain_both (r : Int) (h0 : -2147483648 ≤ r) (h1 : r ≤ 2147483647) :
    ∃ a b c : Int, (∀ W, Calls Tryz.prog 32 #[.int .i32 r] W fun e w' => e = .returned (.agg #[.int .u64 a, .int .u32 b, .int .u32 c]) ∧ Below W.heap.size W w') ∧
      (∀ W, Calls Tryz.prog 33 #[.int .i32 r] W fun e w' => e = .returned (.agg #[.int .u64 a, .int .u32 b, .int .u32 c]) ∧ Below W.heap.size W w') := by
  by_cases h : noPt r
  · exact ⟨0, 0, 0, fun W => plain_no r h0 h1 h W, fun W => rplain_no r h0 h1 h W⟩
  · exact ⟨(r + 3) * 1048576 + 1, 32, 32, fun W => plain_yes r h W, fun W => rplain_yes r h W⟩

set_option maxRecDepth 100000 in
set_option maxHeartbeats 4000000 in
theorem numbers_any (n r : Int) (s : ByteArray) (at' : Int) (n0 : 0 ≤ n) (n1 : n ≤ 18446744073709551615) (r0 : -2147483648 ≤ r) (r1 : r ≤ 2147483647) (h0 : -9223372036854775808 ≤ at') (h1 : at' ≤ 9223372036854775807) (w : World) :
    Calls Tryz.prog 6 #[.int .u64 n, .int .i32 r, .string s, .int .i64 at'] w fun e w' => e = .returned (.bool true) ∧ Below w.heap.size w w' := by
  by_cases hs : s.size ≤ 1024
  · obtain ⟨k, v, b, hr1, hr2⟩ := read_both s at' h0 h1 hs
    obtain ⟨pa, pb, pc, hp1, hp2⟩ := plain_both r r0 r1
    have H1 := Lib.hid hr1
    have H2 := Lib.hid hr2
    have H3 := Lib.hid hp1
    have H4 := Lib.hid hp2
    have H5 : Hid (∀ W, Calls Tryz.prog 30 #[.int .u64 n] W fun e w' => e = .returned (.string (strOfNums (encI n))) ∧ Below W.heap.size W w') := show ∀ W, _ from fun W => bytes_any n n0 n1 W
    have H6 : Hid (∀ W, Calls Tryz.prog 31 #[.int .u64 n] W fun e w' => e = .returned (.string (strOfNums (encI n))) ∧ Below W.heap.size W w') := show ∀ W, _ from fun W => rbytes_any n n0 n1 W
    obtain ⟨z, hz⟩ : ∃ z, strOfNums (encI n) = z := ⟨_, rfl⟩
    rw [hz] at H5 H6
    have hs2 : (s.size : Int) ≤ 1024 := by omega
    clear hr1 hr2 hp1 hp2 hz n0 n1 r0 r1 h0 h1 hs
    go_enter Tryz.func6, Tryz.ntmps6
    go_wp2_with (first
      | (go_at_call 28; (with_reducible refine (H1.out _).mono ?_); rintro e w1 ⟨rfl, rfl⟩)
      | (go_at_call 29; (with_reducible refine (H2.out _).mono ?_); rintro e w2 ⟨rfl, hB1⟩; have HB := Lib.hid hB1; clear hB1)
      | (go_at_call 30; (with_reducible refine (H5.out _).mono ?_); rintro e w3 ⟨rfl, hB1⟩; have HB := Lib.hid (HB.out.trans (hB1.mono HB.out.size)); clear hB1)
      | (go_at_call 31; (with_reducible refine (H6.out _).mono ?_); rintro e w4 ⟨rfl, hB1⟩; have HB := Lib.hid (HB.out.trans (hB1.mono HB.out.size)); clear hB1)
      | (go_at_call 32; (with_reducible refine (H3.out _).mono ?_); rintro e w5 ⟨rfl, hB1⟩; have HB := Lib.hid (HB.out.trans (hB1.mono HB.out.size)); clear hB1)
      | (go_at_call 33; (with_reducible refine (H4.out _).mono ?_); rintro e w6 ⟨rfl, hB1⟩; have HB := Lib.hid (HB.out.trans (hB1.mono HB.out.size)); clear hB1)
      | (go_at_call 21; (with_reducible refine (works_any _).mono ?_); rintro e w7 ⟨rfl, hB1⟩; have HB := Lib.hid (HB.out.trans (hB1.mono HB.out.size)); clear hB1))
    go_ret
    exact ⟨rfl, HB.out⟩
  · have hs2 : (1024 : Int) < (s.size : Int) := by omega
    go_enter Tryz.func6, Tryz.ntmps6
    go_wp2_with (fail)
    go_ret
    exact ⟨rfl, Below.refl _ _⟩
end Go.Proofs.YtakbacfhcllioaaGreatDoor
