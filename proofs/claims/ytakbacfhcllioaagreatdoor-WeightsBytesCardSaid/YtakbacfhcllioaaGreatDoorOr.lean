/- normal.order where no point has a class: nothing is moved. -/
import Derived.Test.YtakbacfhcllioaaGreatDoorWh
import Derived.Deep.RegionHeld3
import Derived.Deep.DeepCutAuto
import Derived.Outline
namespace Go.Proofs.YtakbacfhcllioaaGreatDoor
open Go.RowKit

set_option maxHeartbeats 1000000 in
theorem sort0 (a : Option Addr) (cap : Nat) (f : Value) (w : World) :
    Calls Tryz.prog 200 #[.slice a 0 cap, f] w fun e w' => e = .returned (.tuple #[]) ∧ w = w' := by
  go_enter Tryz.func200, Tryz.ntmps200
  go_wp2
  go_rounds 2
  go_rounds 2
  go_rounds 2
  go_end0
  exact ⟨rfl, rfl⟩

set_option maxRecDepth 100000 in
set_option maxHeartbeats 2000000 in
theorem order0 (bp n₀ : Nat) (m : PM) (v : Value) (l : List Int) (hl : l.length ≤ 1099511627776) (w : World) (hn : n₀ ≤ w.heap.size) (hp : IsProps n₀ w bp m) (hv : Runes w.heap.size w v l) (h0 : ∀ x ∈ l, classP m x = 0) :
    Calls Tryz.prog 165 #[.pointer (some ⟨bp, 0, none⟩), v] w fun e w' => e = .returned (.tuple #[]) ∧ Below w.heap.size w w' := by
  obtain ⟨a, cap, rfl⟩ := hv.slice
  have hcp : l.length ≤ cap := by
    rcases hv with ⟨e0, e1⟩ | ⟨b, off, cap2, ev, hb, hcap, hc⟩
    · rw [e1]; exact Nat.zero_le _
    · cases ev; exact hcap
  have HV := Lib.hid hv
  have HP := Lib.hid hp
  have H0 := Lib.hid h0
  clear hv hp h0
  go_enter Tryz.func165, Tryz.ntmps165
  go_wp2_with fail
  obtain ⟨W0, hW0⟩ : ∃ W0, w.alloc (.cells #[.pointer (some ⟨bp, 0, none⟩)] 22) = W0 := ⟨_, rfl⟩
  have hbox : W0.cell? ⟨w.heap.size, 0, none⟩ = some (.pointer (some ⟨bp, 0, none⟩)) := by rw [← hW0]; exact cell_new_at _ _ _ 0
  have hB0 : Below w.heap.size w W0 := by rw [← hW0]; exact (Below.refl _ w).alloc (Nat.le_refl _) _
  have hsz : w.heap.size + 1 = W0.heap.size := by rw [← hW0]; simp
  rw [hW0]
  have HS := Lib.hid hsz
  have HX := Lib.hid hbox
  clear hW0 hsz hbox
  go_loopw [5, 11] (fun f i wr => ∃ k : Nat, k ≤ l.length + 1 ∧ f = .int .i64 k ∧ i = .int .i64 k ∧ Below W0.heap.size W0 wr) (fun _ i _ => l.length + 1 - (intOf i).toNat)
  case atStart => exact ⟨0, Nat.zero_le _, rfl, rfl, Below.refl _ _⟩
  case round =>
    obtain ⟨k, hk, rfl, rfl, hBw⟩ := hrel
    have hbx : wr.cell? ⟨w.heap.size, 0, none⟩ = some (.pointer (some ⟨bp, 0, none⟩)) := (hBw.cell (p := ⟨w.heap.size, 0, none⟩) (by have := HS.out; show w.heap.size < W0.heap.size; omega)).trans HX.out
    by_cases hlt : k < l.length + 1
    · by_cases hlast : k = l.length
      · subst hlast
        go_upto_region 6 with fail
        go_cut [26] (fun v wx => v = .bool true ∧ Below W0.heap.size W0 wx)
        case first =>
          go_quiet (fail)
          all_goals (go_wp2_with fail; go_meet; exact ⟨rfl, below_drewN hBw _⟩)
        case rest =>
          obtain ⟨rfl, hB3⟩ := hcut
          go_wp2_with (go_at_call 200; refine (sort0 _ _ _ _).mono ?_; rintro e w' ⟨rfl, rfl⟩)
          go_roundw
          case rel => exact ⟨l.length + 1, Nat.le_refl _, rfl, rfl, hB3⟩
          case measure => simp [intOf]
      · have hlt2 : k < l.length := by omega
        have hne : ((k : Int) == (l.length : Int)) = false := by simp; omega
        rcases HV.out with ⟨e0, e1⟩ | ⟨b, off, cap2, ev, hb, hcap, hc⟩
        · rw [e1] at hlt2; simp at hlt2
        cases ev
        obtain ⟨x, hx⟩ : ∃ x, l[k]?.getD 0 = x := ⟨_, rfl⟩
        have hcx := hc k hlt2
        rw [hx] at hcx
        have hcx : wr.cell? ⟨b, off + k, none⟩ = some (.int .i32 x) := ((hB0.trans (hBw.mono hB0.size)).cell (p := ⟨b, off + k, none⟩) hb).trans hcx
        have hcl : classP m x = 0 := H0.out x (by rw [← hx, List.getElem?_eq_getElem hlt2]; simp)
        have HC : ∀ W, Below W0.heap.size W0 W → Calls Tryz.prog 96 #[.pointer (some ⟨bp, 0, none⟩), .int .i32 x] W fun e w' => e = .returned (.int .i64 0) ∧ Below W.heap.size W w' := fun W hW => by
          have := class_any bp n₀ m x W (by have := hB0.size; have := hW.size; omega) (HP.out.below ((hB0.mono hn).trans (hW.mono (by have := hB0.size; omega))))
          rw [hcl] at this
          exact this
        have HCC := Lib.hid HC
        clear HC hc hx hcl
        go_upto_region 6 with fail
        go_cut [26] (fun v wx => v = .bool true ∧ Below W0.heap.size W0 wx)
        case first =>
          go_region_with (go_at_call 96; refine (HCC.out _ (by repeat (first | exact hBw | apply Below.drew))).mono ?_; rintro e w' ⟨rfl, hB4⟩)
          all_goals (go_wp2_with fail; go_meet; exact ⟨rfl, hBw.drew.trans (hB4.mono hBw.size)⟩)
        case rest =>
          obtain ⟨rfl, hB3⟩ := hcut
          go_wp2_with (go_at_call 200; refine (sort0 _ _ _ _).mono ?_; rintro e w' ⟨rfl, rfl⟩)
          go_roundw
          case rel => exact ⟨k + 1, by omega, rfl, rfl, hB3⟩
          case measure => simp [intOf]; omega
    · obtain rfl : k = l.length + 1 := by omega
      go_wp2
      go_end0
      exact ⟨rfl, hB0.trans (hBw.mono hB0.size)⟩
end Go.Proofs.YtakbacfhcllioaaGreatDoor
