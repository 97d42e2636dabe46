/- normal.Decompose where no point has a class. -/
import Derived.Test.YtakbacfhcllioaaGreatDoorOr
namespace Go.Proofs.YtakbacfhcllioaaGreatDoor
open Go.RowKit

set_option maxRecDepth 100000 in
set_option maxHeartbeats 2000000 in
theorem decompose0 (bp n₀ : Nat) (m : PM) (hlen : ∀ x ∈ m.decomps, x.2.length ≤ 1099511627776) (d : Nat) (v : Value) (l : List Int) (hl : (l.flatMap (fullN m d)).length ≤ 1099511627776) (hl2 : l.length ≤ 1099511627776) (w : World) (hn : n₀ ≤ w.heap.size) (hp : IsProps n₀ w bp m) (hv : Runes w.heap.size w v l)
    (he : ∀ x ∈ l, Ends m d x) (h0 : ∀ x ∈ l.flatMap (fullN m d), classP m x = 0) :
    Calls Tryz.prog 119 #[.pointer (some ⟨bp, 0, none⟩), v] w (GivesL w (l.flatMap (fullN m d))) := by
  obtain ⟨a, cap, rfl⟩ := hv.slice
  have HV := Lib.hid hv
  have HP := Lib.hid hp
  have H0 := Lib.hid h0
  have HE := Lib.hid he
  have HL := Lib.hid hl
  clear hv hp h0 he hl
  go_enter Tryz.func119, Tryz.ntmps119
  go_wp2_with fail
  go_loopw [5, 10] (fun o i wr => ∃ k : Nat, k ≤ l.length ∧ i = .int .i64 k ∧ OwnR wr w.heap.size o ((l.take k).flatMap (fullN m d)) ∧ Below w.heap.size w wr) (fun _ i _ => l.length - (intOf i).toNat)
  case atStart => exact ⟨0, Nat.zero_le _, rfl, World.ownsRow_nil _ _ _ _, Below.refl _ _⟩
  case round =>
    obtain ⟨k, hk, rfl, ho, hB⟩ := hrel
    have HO := Lib.hid ho
    clear ho
    by_cases hlt : k < l.length
    · rcases HV.out with ⟨e0, e1⟩ | ⟨b, off, cap2, ev, hb, hcap, hc⟩
      · rw [e1] at hlt; simp at hlt
      cases ev
      obtain ⟨x, hx⟩ : ∃ x, l[k]?.getD 0 = x := ⟨_, rfl⟩
      have hx1 : l[k]? = some x := by rw [← hx]; simp [List.getElem?_eq_getElem hlt]
      have hmem : x ∈ l := List.mem_of_getElem? hx1
      have hcx := hc k hlt
      rw [hx] at hcx
      have hcx : u5 = u5 ∧ wr.cell? ⟨b, off + k, none⟩ = some (.int .i32 x) := ⟨rfl, (hB.cell (p := ⟨b, off + k, none⟩) hb).trans hcx⟩
      have hcx := hcx.2
      have htake : l.take (k + 1) = l.take k ++ [x] := by rw [List.take_add_one, hx1]; rfl
      have hlen2 : ((l.take k).flatMap (fullN m d)).length + (fullN m d x).length ≤ 1099511627776 := by
        have h1 := HL.out
        have h2 : (l.take (k + 1)).flatMap (fullN m d) ++ (l.drop (k + 1)).flatMap (fullN m d) = l.flatMap (fullN m d) := by
          rw [← List.flatMap_append, List.take_append_drop]
        rw [← h2, htake, List.flatMap_append] at h1
        simp only [List.length_append, List.flatMap_cons, List.flatMap_nil, List.append_nil] at h1 ⊢
        omega
      have HC := Lib.hid (whole_any bp n₀ m hlen w.heap.size hn d x _ _ wr (HE.out x hmem) (HP.out.below (hB.mono hn)) hB.size HO.out hlen2)
      have HK := Lib.hid htake
      have HW := Lib.hid (own_low HO.out)
      clear hx hx1 hmem htake hlen2 hc
      go_wp2_with (go_at_call 164; refine HC.out.mono ?_; rintro e w3 ⟨v3, rfl, ho3, hgf3⟩)
      go_roundw
      case rel => exact ⟨k + 1, by omega, by go_num, by rw [HK.out, List.flatMap_append]; simpa [OwnR] using ho3, hB.trans (hgf3.below hB.size HW.out)⟩
      case measure => simp [intOf]; omega
    · obtain rfl : k = l.length := by omega
      have ho' := HO.out
      rw [List.take_length] at ho'
      have HO' := Lib.hid ho'
      have HC := Lib.hid (order0 bp n₀ m _ _ HL.out wr (Nat.le_trans hn hB.size) (HP.out.below (hB.mono hn)) ho'.runes H0.out)
      clear ho' HO
      go_wp2_with (go_at_call 165; refine HC.out.mono ?_; rintro e w3 ⟨rfl, hB3⟩)
      go_ret
      exact ⟨_, rfl, own_below HO'.out hB3, hB.trans (hB3.mono hB.size)⟩
end Go.Proofs.YtakbacfhcllioaaGreatDoor
