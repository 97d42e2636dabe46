/- slices.BinarySearch over a rising list of runes. -/
import Derived.Test.YtakbacfhcllioaaGreatDoorInR
namespace Go.Proofs.YtakbacfhcllioaaGreatDoor
open Go.RowKit

/-- Where t stands or would stand. -/
def bsI (l : List Int) (t : Int) : Nat := (l.takeWhile (fun x => decide (x < t))).length

theorem bsI_eq (t : Int) : ∀ (l : List Int) (i : Nat), i ≤ l.length → (∀ k, k < i → l.getD k 0 < t) → (i < l.length → ¬ l.getD i 0 < t) → bsI l t = i
  | [], i, h, _, _ => by simp at h; subst h; rfl
  | x :: l, i, h, h1, h2 => by
    cases i with
    | zero =>
      have := h2 (by simp)
      unfold bsI
      rw [List.takeWhile_cons_of_neg (by simpa using this)]
      rfl
    | succ i =>
      have h3 := h1 0 (by omega)
      have := bsI_eq t l i (by simpa using h) (fun k hk => by simpa using h1 (k + 1) (by omega)) (fun hk => by simpa using h2 (by simpa using hk))
      unfold bsI at this ⊢
      rw [List.takeWhile_cons_of_pos (by simpa using h3), List.length_cons, this]

theorem rising_get {l : List Int} (hs : l.Pairwise (· < ·)) {i j : Nat} (hij : i < j) (hj : j < l.length) : l.getD i 0 < l.getD j 0 := by
  have := List.pairwise_iff_getElem.1 hs i j (by omega) hj hij
  simpa [List.getD, List.getElem?_eq_getElem hj, List.getElem?_eq_getElem (show i < l.length by omega)] using this

theorem bs_mem {l : List Int} {t : Int} (hs : l.Pairwise (· < ·)) {i : Nat} (hi : i ≤ l.length) (h1 : ∀ k, k < i → l.getD k 0 < t) (h2 : i < l.length → ¬ l.getD i 0 < t) : t ∈ l ↔ i < l.length ∧ l.getD i 0 = t := by
  constructor
  · intro h
    obtain ⟨k, hk, e⟩ := List.mem_iff_getElem.1 h
    have e' : l.getD k 0 = t := by simpa [List.getD, List.getElem?_eq_getElem hk] using e
    by_cases c1 : k < i
    · have := h1 k c1; omega
    · by_cases c2 : k = i
      · subst c2; exact ⟨hk, e'⟩
      · have h3 := rising_get hs (show i < k by omega) hk
        have := h2 (by omega); omega
  · rintro ⟨h, e⟩
    rw [← e]
    simp only [List.getD, List.getElem?_eq_getElem h, Option.getD_some]
    exact List.getElem_mem h

set_option maxHeartbeats 400000 in
theorem nan_any (t : Int) (w : World) : Calls Tryz.prog 161 #[.int .i32 t] w fun e w' => e = .returned (.bool false) ∧ w = w' := by
  go_enter Tryz.func161, Tryz.ntmps161
  go_wp2
  go_ret
  simp
set_option maxHeartbeats 400000 in
theorem nan2_any (t : Int) (w : World) : Calls Tryz.prog 197 #[.int .i32 t] w fun e w' => e = .returned (.bool false) ∧ w = w' := by
  go_enter Tryz.func197, Tryz.ntmps197
  go_wp2
  go_ret
  simp
set_option maxHeartbeats 400000 in
theorem less_any (a b : Int) (w : World) : Calls Tryz.prog 160 #[.int .i32 a, .int .i32 b] w fun e w' => e = .returned (.bool (decide (a < b))) ∧ w = w' := by
  go_enter Tryz.func160, Tryz.ntmps160
  go_wp2_with (go_at_call 197; refine (nan2_any _ _).mono ?_; rintro e w1 ⟨rfl, rfl⟩)
  go_ret
  simp

set_option maxRecDepth 100000 in
set_option maxHeartbeats 4000000 in
theorem bs_some (b off cap : Nat) (l : List Int) (t : Int) (w : World) (hc : ∀ k, k < l.length → w.cell? ⟨b, off + k, none⟩ = some (.int .i32 (l.getD k 0))) (hs : l.Pairwise (· < ·)) (hl : l.length ≤ 1099511627776) :
    Calls Tryz.prog 114 #[.slice (some ⟨b, off, none⟩) l.length cap, .int .i32 t] w fun e w' => e = .returned (.tuple #[.int .i64 (bsI l t), .bool (decide (t ∈ l))]) ∧ w = w' := by
  have HC := Lib.hid hc
  have HS := Lib.hid hs
  clear hc hs
  go_enter Tryz.func114, Tryz.ntmps114
  go_wp2_with (fail)
  go_loopw [7, 8] (fun i j wr => wr = w ∧ ∃ p q : Nat, i = .int .i64 p ∧ j = .int .i64 q ∧ p ≤ q ∧ q ≤ l.length ∧ Hid (∀ k, k < p → l.getD k 0 < t) ∧ Hid (∀ k, q ≤ k → k < l.length → t ≤ l.getD k 0)) (fun i j _ => (intOf j).toNat - (intOf i).toNat)
  case atStart => exact ⟨rfl, 0, l.length, rfl, rfl, Nat.zero_le _, Nat.le_refl _, fun k hk => absurd hk (by omega), fun k h1 h2 => absurd h2 (by omega)⟩
  case round =>
    obtain ⟨hwr, p, q, rfl, rfl, hpq, hq, HA, HB⟩ := hrel
    subst hwr
    by_cases hlt : p < q
    · obtain ⟨h, hh⟩ : ∃ h, (p + q) / 2 = h := ⟨_, rfl⟩
      have hph : p ≤ h := by omega
      have hhq : h < q := by omega
      have hcx := HC.out h (by omega)
      by_cases hx : l.getD h 0 < t
      · have hd : decide (l.getD h 0 < t) = true := by simpa using hx
        have HX := Lib.hid hx
        clear hx
        have hls := less_any (l.getD h 0) t wr
        rw [hd] at hls
        have HLS := Lib.hid hls
        clear hls hd
        go_wp2_with (go_at_call 160; refine HLS.out.mono ?_; rintro e w1 ⟨rfl, rfl⟩)
        go_roundw
        case rel =>
          refine ⟨by trivial, h + 1, q, by go_num, rfl, by omega, hq, fun k hk => ?_, HB⟩
          by_cases c : k = h
          · rw [c]; exact HX.out
          · have := rising_get HS.out (show k < h by omega) (by omega); have := HX.out; omega
        case measure => simp [intOf]; omega
      · have hd : decide (l.getD h 0 < t) = false := by simpa using hx
        have HX := Lib.hid hx
        clear hx
        have hls := less_any (l.getD h 0) t wr
        rw [hd] at hls
        have HLS := Lib.hid hls
        clear hls hd
        go_wp2_with (go_at_call 160; refine HLS.out.mono ?_; rintro e w1 ⟨rfl, rfl⟩)
        go_roundw
        case rel =>
          refine ⟨by trivial, p, h, rfl, by go_num, by omega, by omega, HA, fun k hk hk2 => ?_⟩
          by_cases c : k = h
          · rw [c]; have := HX.out; omega
          · have := rising_get HS.out (show h < k by omega) hk2; have := HX.out; omega
        case measure => simp [intOf]; omega
    · obtain rfl : p = q := by omega
      have e1 := bsI_eq t l p hq HA.out (fun h => by have := HB.out p (Nat.le_refl _) h; omega)
      have e2 := bs_mem HS.out hq HA.out (fun h => by have := HB.out p (Nat.le_refl _) h; omega)
      by_cases hlt2 : p < l.length
      · have hcx := HC.out p hlt2
        by_cases hx : l.getD p 0 = t
        · have e3 : decide (t ∈ l) = true := by rw [decide_eq_true_iff, e2]; exact ⟨hlt2, hx⟩
          have hxx : l[p] = t := by simpa [List.getD, List.getElem?_eq_getElem hlt2] using hx
          have hxy : (l[p] == t) = true := by simpa using hxx
          have HE := Lib.hid (And.intro e1 e3)
          clear e1 e2 e3
          go_wp2_with (go_at_call 161; refine (nan_any _ _).mono ?_; rintro e w1 ⟨rfl, rfl⟩)
          all_goals (go_ret2; exact ⟨by rw [HE.out.1, HE.out.2]; rfl, rfl⟩)
        · have e3 : decide (t ∈ l) = false := by rw [decide_eq_false_iff_not, e2]; exact fun h => hx h.2
          have hxx : ¬ (l[p] = t) := by simpa [List.getD, List.getElem?_eq_getElem hlt2] using hx
          have hxy : (l[p] == t) = false := by simpa using hxx
          have HE := Lib.hid (And.intro e1 e3)
          clear e1 e2 e3
          go_wp2_with (go_at_call 161; refine (nan_any _ _).mono ?_; rintro e w1 ⟨rfl, rfl⟩)
          all_goals (go_ret2; exact ⟨by rw [HE.out.1, HE.out.2]; rfl, rfl⟩)
      · have e3 : decide (t ∈ l) = false := by rw [decide_eq_false_iff_not, e2]; exact fun h => hlt2 h.1
        have HE := Lib.hid (And.intro e1 e3)
        clear e1 e2 e3
        go_wp2_with (go_at_call 161; refine (nan_any _ _).mono ?_; rintro e w1 ⟨rfl, rfl⟩)
        go_ret2
        exact ⟨by rw [HE.out.1, HE.out.2]; rfl, rfl⟩
set_option maxRecDepth 100000 in
set_option maxHeartbeats 1000000 in
theorem bs_nil (t : Int) (w : World) :
    Calls Tryz.prog 114 #[.slice none 0 0, .int .i32 t] w fun e w' => e = .returned (.tuple #[.int .i64 0, .bool false]) ∧ w = w' := by
  go_enter Tryz.func114, Tryz.ntmps114
  go_wp2_with (fail)
  go_rounds 1
  go_wp2_with (go_at_call 161; refine (nan_any _ _).mono ?_; rintro e w1 ⟨rfl, rfl⟩)
  go_ret2
  exact ⟨rfl, rfl⟩

theorem bs_any (n₀ : Nat) (v : Value) (l : List Int) (t : Int) (w : World) (h : Runes n₀ w v l) (hs : l.Pairwise (· < ·)) (hl : l.length ≤ 1099511627776) :
    Calls Tryz.prog 114 #[v, .int .i32 t] w fun e w' => e = .returned (.tuple #[.int .i64 (bsI l t), .bool (decide (t ∈ l))]) ∧ w = w' := by
  rcases h with ⟨rfl, rfl⟩ | ⟨b, off, cap, rfl, hb, hcap, hc⟩
  · exact (bs_nil t w)
  · exact bs_some b off cap l t w (fun k hk => by simpa [List.getD] using hc k hk) hs hl
end Go.Proofs.YtakbacfhcllioaaGreatDoor
