/- slices.IndexFunc with the closure of (*Order).find. -/
import Derived.Test.YtakbacfhcllioaaGreatDoorCl
namespace Go.Proofs.YtakbacfhcllioaaGreatDoor
open Go.RowKit

theorem beq_toList (a b : ByteArray) : (a.toList == b.toList) = (a == b) := by
  by_cases h : a = b
  · subst h
    rw [(MapKept.bytes_beq a a).2 rfl]; simp
  · have h1 : (a == b) = false := by
      rcases hh : (a == b) with _ | _
      · rfl
      · exact absurd ((MapKept.bytes_beq a b).1 hh) h
    rw [h1]
    simp only [beq_eq_false_iff_ne, ne_eq]
    intro e
    apply h
    rw [ByteArray.toList_eq, ByteArray.toList_eq] at e
    cases a; cases b
    congr 1
    exact Array.toList_inj.1 e

set_option maxHeartbeats 1000000 in
theorem fi_any (s : Seat) (text : ByteArray) (tb : Nat) (w : World) (hc : w.cell? ⟨tb, 0, none⟩ = some (.string text)) :
    Calls Tryz.prog 117 #[.agg #[.string s.text, .int .i32 s.list, .int .i64 s.level, .string s.ext], .pointer (some ⟨tb, 0, none⟩)] w fun e w' => e = .returned (.bool (s.text == text)) ∧ Below w.heap.size w w' := by
  have hc2 : (w.alloc (.cells #[.string s.text, .int .i32 s.list, .int .i64 s.level, .string s.ext] 62)).cell? ⟨tb, 0, none⟩ = some (.string text) := cell_alloc_k _ hc
  go_enter Tryz.func117, Tryz.ntmps117
  go_wp2
  go_ret
  rw [← beq_toList]
  exact ⟨rfl, (Below.refl _ w).alloc (Nat.le_refl _) _⟩

/-- The place of the text among the seats. -/
def seatI (l : List Seat) (text : ByteArray) : Option Nat := l.findIdx? (fun s => s.text == text)

def idxV (l : List Seat) (text : ByteArray) : Int := match seatI l text with | some i => (i : Int) | none => -1

theorem idxV_at {l : List Seat} {text : ByteArray} {k : Nat} (hk : k < l.length) (h : (l[k].text == text) = true) (h0 : ∀ j, (hj : j < l.length) → j < k → (l[j].text == text) = false) : idxV l text = k := by
  have : seatI l text = some k := by
    unfold seatI
    rw [List.findIdx?_eq_some_iff_getElem]
    exact ⟨hk, h, fun j hj => by have := h0 j (by omega) hj; simp [this]⟩
  unfold idxV
  rw [this]

theorem idxV_no {l : List Seat} {text : ByteArray} (h0 : ∀ j, (hj : j < l.length) → (l[j].text == text) = false) : idxV l text = -1 := by
  have : seatI l text = none := by
    unfold seatI
    rw [List.findIdx?_eq_none_iff]
    intro s hs
    obtain ⟨j, hj, rfl⟩ := List.mem_iff_getElem.1 hs
    exact h0 j hj
  unfold idxV
  rw [this]

set_option maxRecDepth 100000 in
set_option maxHeartbeats 2000000 in
theorem idx_some (base g c : Nat) (l : List Seat) (text : ByteArray) (tb : Nat) (w : World) (h : OwnS w base (.slice (some ⟨g, 0, none⟩) l.length c) l) (hl : l.length ≤ 1099511627776) (hc : w.cell? ⟨tb, 0, none⟩ = some (.string text)) :
    Calls Tryz.prog 116 #[.slice (some ⟨g, 0, none⟩) l.length c, .func (.func 117) #[] #[.pointer (some ⟨tb, 0, none⟩)]] w fun e w' => e = .returned (.int .i64 (idxV l text)) ∧ Below w.heap.size w w' := by
  have hglt : g < w.heap.size := own_lt h g rfl
  have htb : tb < w.heap.size := by
    rcases Nat.lt_or_ge tb w.heap.size with h | h
    · exact h
    · simp [World.cell?, Array.getElem?_eq_none h] at hc
  have HS := Lib.hid h
  have HC := Lib.hid hc
  clear h hc
  go_enter Tryz.func116, Tryz.ntmps116
  go_wp2_with (fail)
  go_loopw [8] (fun i wr => Hid (Below w.heap.size w wr) ∧ ∃ k : Nat, i = .int .i64 k ∧ k ≤ l.length ∧ Hid (∀ j, (hj : j < l.length) → j < k → (l[j].text == text) = false)) (fun i _ => l.length - (intOf i).toNat)
  case atStart => exact ⟨Below.refl _ _, 0, rfl, Nat.zero_le _, fun j hj h => absurd h (by omega)⟩
  case round =>
    obtain ⟨HB, k, rfl, hk, HN⟩ := hrel
    by_cases hlt : k < l.length
    · obtain ⟨s, hs⟩ : ∃ s, l[k] = s := ⟨_, rfl⟩
      obtain ⟨g', e', hb', hn', hcells⟩ := HS.out.cell hlt
      cases e'
      rw [hs] at hcells
      have hw : ∀ j u, (seatC s)[j]? = some u → wr.cell? ⟨g, k * 4 + j, none⟩ = some u := fun j u hu => (HB.out.cell (p := ⟨g, k * 4 + j, none⟩) hglt).trans (hcells j u hu)
      have c0 : wr.cell? ⟨g, k * 4, none⟩ = some (.string s.text) := hw 0 _ rfl
      have c1 : wr.cell? ⟨g, k * 4 + 1, none⟩ = some (.int .i32 s.list) := hw 1 _ rfl
      have c2 : wr.cell? ⟨g, k * 4 + 2, none⟩ = some (.int .i64 s.level) := hw 2 _ rfl
      have c3 : wr.cell? ⟨g, k * 4 + 3, none⟩ = some (.string s.ext) := hw 3 _ rfl
      have hct : wr.cell? ⟨tb, 0, none⟩ = some (.string text) := (HB.out.cell (p := ⟨tb, 0, none⟩) htb).trans HC.out
      have HF := Lib.hid (fi_any s text tb wr hct)
      clear hw hcells hct
      by_cases hx : (s.text == text) = true
      · rw [hx] at HF
        have HE := Lib.hid (idxV_at hlt (by rw [hs]; exact hx) HN.out)
        go_wp2_with (go_at_call 117; refine HF.out.mono ?_; rintro e w1 ⟨rfl, hB1⟩)
        go_ret
        exact ⟨by rw [HE.out]; rfl, HB.out.trans (hB1.mono HB.out.size)⟩
      · have hx : (s.text == text) = false := by simpa using hx
        rw [hx] at HF
        have HX := Lib.hid hx
        clear hx
        go_wp2_with (go_at_call 117; refine HF.out.mono ?_; rintro e w1 ⟨rfl, hB1⟩)
        go_roundw
        case rel =>
          refine ⟨HB.out.trans (hB1.mono HB.out.size), k + 1, by go_num, by omega, fun j hj hjk => ?_⟩
          by_cases c : j = k
          · subst c; rw [hs]; exact HX.out
          · exact HN.out j hj (by omega)
        case measure => simp [intOf]; omega
    · obtain rfl : k = l.length := by omega
      have HE := Lib.hid (idxV_no (l := l) (text := text) (fun j hj => HN.out j hj hj))
      go_wp2_with (fail)
      go_ret
      exact ⟨by rw [HE.out]; rfl, HB.out⟩

set_option maxRecDepth 100000 in
set_option maxHeartbeats 1000000 in
theorem idx_nil (_text : ByteArray) (f : Value) (w : World) :
    Calls Tryz.prog 116 #[.slice none 0 0, f] w fun e w' => e = .returned (.int .i64 (-1)) ∧ w = w' := by
  go_enter Tryz.func116, Tryz.ntmps116
  go_wp2_with (fail)
  go_rounds 1
  go_wp2_with (fail)
  go_ret
  exact ⟨rfl, rfl⟩

theorem idx_any (base : Nat) (v : Value) (l : List Seat) (text : ByteArray) (tb : Nat) (w : World) (h : OwnS w base v l) (hl : l.length ≤ 1099511627776) (hc : w.cell? ⟨tb, 0, none⟩ = some (.string text)) :
    Calls Tryz.prog 116 #[v, .func (.func 117) #[] #[.pointer (some ⟨tb, 0, none⟩)]] w fun e w' => e = .returned (.int .i64 (idxV l text)) ∧ Below w.heap.size w w' := by
  rcases h.2 with ⟨rfl, h0⟩ | ⟨g, c, cur, rfl, _⟩
  · obtain rfl := List.eq_nil_of_length_eq_zero h0
    exact (idx_nil text _ w).mono (by rintro e w' ⟨rfl, rfl⟩; exact ⟨rfl, Below.refl _ _⟩)
  · exact idx_some base g c l text tb w h hl hc
end Go.Proofs.YtakbacfhcllioaaGreatDoor
