/- order.own: the list that a point begins with. -/
import Derived.Test.YtakbacfhcllioaaGreatDoorIx
namespace Go.Proofs.YtakbacfhcllioaaGreatDoor
open Go.RowKit

def BadText (e : Ending) : Prop := ∃ v, e = .returned (.tuple #[.string ⟨#[]⟩, .iface 173 v])

set_option maxRecDepth 100000 in
set_option maxHeartbeats 2000000 in
theorem text_bad (b : Nat) (r : Int) (hr : ptOk r = false) (w : World) (hc : w.cell? ⟨b, 0, none⟩ = some (.int .i32 r)) :
    Calls Tryz.prog 120 #[.slice (some ⟨b, 0, none⟩) 1 1] w fun e w' => BadText e ∧ w = w' := by
  have hb : r < 0 ∨ (55296 ≤ r ∧ r < 57344) ∨ (1114111 < r ∧ r < 1114240) ∨ 1114367 < r := by
    unfold ptOk Utf8.valid at hr; simp at hr; omega
  clear hr
  rcases hb with hb | ⟨hb, hb2⟩ | ⟨hb, hb2⟩ | hb
  all_goals
    go_enter Tryz.func120, Tryz.ntmps120
    go_wp2_with (fail)
    go_rounds 1
    go_wp2_with (fail)
    go_ret2
    exact ⟨⟨_, rfl⟩, rfl⟩

/-- The list as it stands where nothing was tailored. -/
def ownL (m : PM) (r : Int) : List Seat := if ptOk r && (decP m r).isEmpty then [⟨⟨(textB [r]).toArray⟩, r, 1, ⟨#[]⟩⟩] else []

set_option maxRecDepth 100000 in
set_option maxHeartbeats 2000000 in
theorem own_any (bo bp n₀ : Nat) (m : PM) (hlen : ∀ x ∈ m.decomps, x.2.length ≤ 1099511627776) (r : Int) (w : World) (hn : n₀ ≤ w.heap.size) (hp : IsProps n₀ w bp m) (hbo : w.cell? ⟨bo, 0, none⟩ = some (.pointer (some ⟨bp, 0, none⟩))) :
    Calls Tryz.prog 115 #[.pointer (some ⟨bo, 0, none⟩), .int .i32 r] w (GivesSn w (ownL m r)) := by
  have hbl : bo < w.heap.size := by
    rcases Nat.lt_or_ge bo w.heap.size with h | h
    · exact h
    · simp [World.cell?, Array.getElem?_eq_none h] at hbo
  have hB1 : Below w.heap.size w (w.alloc (.cells #[.int .i32 r] 21)) := (Below.refl _ w).alloc (Nat.le_refl _) _
  by_cases hok : ptOk r = true
  · have HT := Lib.hid (text_ok (.slice (some ⟨w.heap.size, 0, none⟩) 1 1) [r] (by simp) (w.alloc (.cells #[.int .i32 r] 21))
      (.inr ⟨w.heap.size, 0, 1, rfl, by simp, by simp, fun j hj => by simp at hj; subst hj; rw [cell_new_at]; rfl⟩) (by simp [hok]))
    have HP := Lib.hid hp
    have HC := Lib.hid hbo
    have HB1 := Lib.hid hB1
    by_cases hd : decP m r = []
    · have e1 : ownL m r = [⟨⟨(textB [r]).toArray⟩, r, 1, ⟨#[]⟩⟩] := by unfold ownL; simp [hok, hd]
      have HD : ∀ w2, Below w.heap.size w w2 → Calls Tryz.prog 162 #[.pointer (some ⟨bp, 0, none⟩), .int .i32 r] w2 (GivesL w2 []) := fun w2 h2 => by
        have := decomp_any bp n₀ m r w2 (Nat.le_trans hn h2.size) (hp.below (h2.mono hn)) hlen
        rwa [hd] at this
      have HD := Lib.hid HD
      rw [e1]
      clear hp hbo hB1 e1
      go_enter Tryz.func115, Tryz.ntmps115
      go_wp2_with (first
        | (go_at_call 120; refine HT.out.mono ?_; rintro e w1 ⟨rfl, hB2⟩; have hc2 : w1.cell? ⟨bo, 0, none⟩ = some (.pointer (some ⟨bp, 0, none⟩)) := ((HB1.out.trans (hB2.mono HB1.out.size)).cell (p := ⟨bo, 0, none⟩) hbl).trans HC.out)
        | (go_at_call 162; refine (HD.out _ (HB1.out.trans (hB2.mono HB1.out.size))).mono ?_; rintro e w3 ⟨v7, rfl, hv7, hB3⟩; obtain ⟨a7, c7, rfl⟩ := own_slice hv7))
      go_ret
      refine ⟨_, rfl, ⟨rfl, .inr ⟨w3.heap.size, 1, _, rfl, ?_, hp_new w3 _, Nat.le_refl _, by simp [maxLen], rfl, rfl⟩⟩, ?_⟩
      · exact Nat.le_trans (HB1.out.trans (hB2.mono HB1.out.size)).size hB3.size
      · exact (HB1.out.trans (hB2.mono HB1.out.size)).trans ((hB3.mono ((HB1.out.trans (hB2.mono HB1.out.size)).size)).trans ((Below.refl _ w3).alloc (Nat.le_trans (HB1.out.trans (hB2.mono HB1.out.size)).size hB3.size) _))
    · have e1 : ownL m r = [] := by unfold ownL; simp [hd]
      obtain ⟨own, hown⟩ : ∃ own, decP m r = own := ⟨_, rfl⟩
      have HD : ∀ w2, Below w.heap.size w w2 → Calls Tryz.prog 162 #[.pointer (some ⟨bp, 0, none⟩), .int .i32 r] w2 (GivesL w2 own) := fun w2 h2 => by
        have := decomp_any bp n₀ m r w2 (Nat.le_trans hn h2.size) (hp.below (h2.mono hn)) hlen
        rwa [hown] at this
      have HD := Lib.hid HD
      rw [e1]
      have hpos : 0 < own.length := by rw [← hown]; exact List.length_pos_iff.2 hd
      clear hp hbo hB1 e1 hd hown
      go_enter Tryz.func115, Tryz.ntmps115
      go_wp2_with (first
        | (go_at_call 120; refine HT.out.mono ?_; rintro e w1 ⟨rfl, hB2⟩; have hc2 : w1.cell? ⟨bo, 0, none⟩ = some (.pointer (some ⟨bp, 0, none⟩)) := ((HB1.out.trans (hB2.mono HB1.out.size)).cell (p := ⟨bo, 0, none⟩) hbl).trans HC.out)
        | (go_at_call 162; refine (HD.out _ (HB1.out.trans (hB2.mono HB1.out.size))).mono ?_; rintro e w3 ⟨v7, rfl, hv7, hB3⟩; obtain ⟨a7, c7, rfl⟩ := own_slice hv7))
      go_ret
      exact ⟨_, rfl, World.ownsRow_nil _ _ _ _, (HB1.out.trans (hB2.mono HB1.out.size)).trans (hB3.mono ((HB1.out.trans (hB2.mono HB1.out.size)).size))⟩
  · have hok : ptOk r = false := by simpa using hok
    have e1 : ownL m r = [] := by unfold ownL; simp [hok]
    rw [e1]
    have HT := Lib.hid (text_bad w.heap.size r hok (w.alloc (.cells #[.int .i32 r] 21)) (by rw [cell_new_at]; rfl))
    have HB1 := Lib.hid hB1
    clear hp hbo hB1 e1
    go_enter Tryz.func115, Tryz.ntmps115
    go_wp2_with (go_at_call 120; refine HT.out.mono ?_; rintro e w1 ⟨⟨v1, rfl⟩, rfl⟩)
    go_ret
    exact ⟨_, rfl, World.ownsRow_nil _ _ _ _, HB1.out⟩
end Go.Proofs.YtakbacfhcllioaaGreatDoor
