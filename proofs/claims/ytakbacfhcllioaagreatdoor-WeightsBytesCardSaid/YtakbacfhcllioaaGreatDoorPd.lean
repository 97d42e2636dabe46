/- Props.Kind, Props.Decomp. -/
import Derived.Test.YtakbacfhcllioaaGreatDoorPr
import Derived.Outline
namespace Go.Proofs.YtakbacfhcllioaaGreatDoor
open Go.RowKit

set_option maxHeartbeats 1000000 in
theorem kind_any (bp n₀ : Nat) (m : PM) (r : Int) (w : World) (hn : n₀ ≤ w.heap.size) (h : IsProps n₀ w bp m) :
    Calls Tryz.prog 15 #[.pointer (some ⟨bp, 0, none⟩), .int .i32 r] w fun e w' => e = .returned (.int .i64 (kindP m r)) ∧ Below w.heap.size w w' := by
  obtain ⟨hbp, cs, ks, bf, bd, bq, hb, hcs, hks, hf, hd, hl1, hl2⟩ := h
  have hc0 : w.cell? ⟨bp, 1, none⟩ = some ks := by rw [cell_at hb]; rfl
  have HS := Lib.hid (said_any ks m.kinds r 0 hl2 w (hks.mono hn))
  have HT := Lib.hid (said_any ks m.kinds r 1 hl2 w (hks.mono hn))
  clear hb hcs hks hf hd hl1 hl2
  by_cases c1 : isChar r = true
  · by_cases c2 : isSyl r = true
    · rw [show kindP m r = saidL m.kinds r 1 by unfold kindP; simp [c1, c2]]
      go_enter Tryz.func15, Tryz.ntmps15
      go_wp2_with (first | (go_at_call 46; refine (char_any _ _).mono ?_; rintro e w' ⟨rfl, rfl⟩) | (go_at_call 47; refine (syl_any _ _).mono ?_; rintro e w' ⟨rfl, rfl⟩) | (go_at_call 48; refine HT.out.mono ?_; rintro e w' ⟨rfl, hB⟩))
      go_ret
      exact ⟨rfl, hB⟩
    · have c2 : isSyl r = false := by simpa using c2
      rw [show kindP m r = saidL m.kinds r 0 by unfold kindP; simp [c1, c2]]
      go_enter Tryz.func15, Tryz.ntmps15
      go_wp2_with (first | (go_at_call 46; refine (char_any _ _).mono ?_; rintro e w' ⟨rfl, rfl⟩) | (go_at_call 47; refine (syl_any _ _).mono ?_; rintro e w' ⟨rfl, rfl⟩) | (go_at_call 48; refine HS.out.mono ?_; rintro e w' ⟨rfl, hB⟩))
      go_ret
      exact ⟨rfl, hB⟩
  · have c1 : isChar r = false := by simpa using c1
    rw [show kindP m r = 0 by unfold kindP; simp [c1]]
    go_enter Tryz.func15, Tryz.ntmps15
    go_wp2_with (first | (go_at_call 46; refine (char_any _ _).mono ?_; rintro e w' ⟨rfl, rfl⟩) | (go_at_call 47; refine (syl_any _ _).mono ?_; rintro e w' ⟨rfl, rfl⟩))
    go_ret
    exact ⟨rfl, Below.refl _ _⟩

theorem findNow_rr {n₀ : Nat} {W : World} (k : Int) : ∀ (es : List MapEntry) (l : List (Int × List Int)) (i : Nat), EntsRR n₀ W es l →
    ∃ r, Instr.findNow (.int .i32) (.int .i32 k) es i = some r ∧ ((r = none ∧ l.lookup k = none) ∨ ∃ j v x, r = some (j, v) ∧ l.lookup k = some x ∧ Runes n₀ W v x)
  | [], [], _, _ => ⟨none, rfl, .inl ⟨rfl, rfl⟩⟩
  | e :: es, (x, y) :: l, i, ⟨h1, h2, h3⟩ => by
    dsimp only at h1 h2
    unfold Instr.findNow
    rw [h1]
    by_cases c : k = x
    · subst c
      refine ⟨some (i, e.val), by simp [Instr.sameNow], .inr ⟨i, e.val, y, rfl, by simp, h2⟩⟩
    · obtain ⟨r, e1, e2⟩ := findNow_rr k es l (i + 1) h3
      have c' : (k == x) = false := by simpa using c
      refine ⟨r, by simp [Instr.sameNow, c', e1], ?_⟩
      simpa [List.lookup_cons, c'] using e2

theorem run_getObj_map {W : World} {b : Nat} {es : Array MapEntry} {c : Nat} (h : W.heap[b]? = some (.map es c)) : (getObj b).run Tryz.prog W = .ok (.map es c) W := by
  simp [getObj, Sem.run, h]
theorem run_check21 (W : World) (b : Bool) (k : Int) (n : Nat) : (Instr.checkKey b (n + 1) 21 (.int .i32 k)).run Tryz.prog W = .ok () W := by
  simp [Instr.checkKey, run_underlying Tryz.underlying21]

theorem look_rr {n₀ : Nat} {W : World} {b : Nat} {l : List (Int × List Int)} (h : MapRR n₀ W b l) (k : Int) :
    ∃ v, (Instr.lookup 96 (.map (some b)) (.int .i32 k) false).run Tryz.prog W = .ok v W ∧ Runes n₀ W v ((l.lookup k).getD []) := by
  obtain ⟨hb, es, clock, hh, he⟩ := h
  obtain ⟨r, e1, e2⟩ := findNow_rr k es.toList l 0 he
  have hu : Tryz.prog.underlying 21 = some (.int .i32) := Tryz.underlying21
  have hck : ∀ b : Bool, (Instr.checkKey b 10000 21 (.int .i32 k)).run Tryz.prog W = .ok () W := fun b => run_check21 W b k 9999
  have hfk : (Instr.findKey 21 (.int .i32 k) es.toList).run Tryz.prog W = .ok r W := by
    simp [Instr.findKey, run_underlying hu, e1]
  rcases e2 with ⟨rfl, e2⟩ | ⟨j, v, x, rfl, e2, e3⟩
  · refine ⟨.slice none 0 0, ?_, .inl ⟨rfl, by rw [e2]; rfl⟩⟩
    simp [Instr.lookup, run_underlying Tryz.underlying96, run_getObj_map hh, hck, hfk, Tryz.zeroValue27]
  · refine ⟨v, ?_, by rw [e2]; exact e3⟩
    simp [Instr.lookup, run_underlying Tryz.underlying96, run_getObj_map hh, hck, hfk]

/-- A point's own decomposition. -/
def decP (m : PM) (r : Int) : List Int :=
  if isSyl r then (if 0 < (r - 44032) % 28 then [4352 + (r - 44032) / 588, 4449 + (r - 44032) / 28 % 21, 4519 + (r - 44032) % 28] else [4352 + (r - 44032) / 588, 4449 + (r - 44032) / 28 % 21])
  else (m.decomps.lookup r).getD []
theorem lookup_len {l : List (Int × List Int)} {k : Int} {n : Nat} (h : ∀ x ∈ l, x.2.length ≤ n) : ((l.lookup k).getD []).length ≤ n := by
  induction l with
  | nil => simp
  | cons x l ih =>
    rw [List.lookup_cons]
    split
    · simpa using h x (by simp)
    · exact ih fun y hy => h y (by simp [hy])

/-- Hands back a row of runes of its own. -/
def GivesL (w : World) (l : List Int) (e : Ending) (w' : World) : Prop := ∃ v', e = .returned v' ∧ OwnR w' w.heap.size v' l ∧ Below w.heap.size w w'

set_option maxRecDepth 100000 in
set_option maxHeartbeats 1000000 in
theorem decomp_any (bp n₀ : Nat) (m : PM) (r : Int) (w : World) (hn : n₀ ≤ w.heap.size) (h : IsProps n₀ w bp m) (hlen : ∀ x ∈ m.decomps, x.2.length ≤ 1099511627776) :
    Calls Tryz.prog 162 #[.pointer (some ⟨bp, 0, none⟩), .int .i32 r] w (GivesL w (decP m r)) := by
  by_cases c2 : isSyl r = true
  · have hr : 44032 ≤ r ∧ r < 55204 := by simpa [isSyl] using c2
    obtain ⟨hr0, hr1⟩ := hr
    clear h
    by_cases c3 : 0 < (r - 44032) % 28
    · rw [show decP m r = [4352 + (r - 44032) / 588, 4449 + (r - 44032) / 28 % 21, 4519 + (r - 44032) % 28] by unfold decP; simp [c2, c3]]
      obtain ⟨i0, hi, hz0, hz1, hz2⟩ := info_parts info21
      obtain ⟨x, hx⟩ : ∃ x, 4352 + (r - 44032) / 588 = x := ⟨_, rfl⟩
      obtain ⟨y, hy⟩ : ∃ y, 4449 + (r - 44032) / 28 % 21 = y := ⟨_, rfl⟩
      obtain ⟨z, hz⟩ : ∃ z, 4519 + (r - 44032) % 28 = z := ⟨_, rfl⟩
      rw [hx, hy, hz]
      obtain ⟨W2, hW2⟩ : ∃ W2, ((w.alloc (.cells #[.int .i32 x, .int .i32 y] 21)).alloc (.cells #[.int .i32 z] 21)) = W2 := ⟨_, rfl⟩
      have hown : W2.ownsRow w.heap.size 21 1 (.slice (some ⟨w.heap.size, 0, none⟩) 2 2) 2 [.int .i32 x, .int .i32 y] := by
        rw [← hW2]; exact ⟨rfl, .inr ⟨w.heap.size, 2, #[.int .i32 x, .int .i32 y], rfl, Nat.le_refl _, hp_old (hp_new w _), Nat.le_refl _, by simp [maxLen], rfl, rfl⟩⟩
      have hnews : ∀ (j : Nat) (u : Value), [Value.int .i32 z][j]? = some u → W2.cell? (Addr.add ⟨w.heap.size + 1, 0, none⟩ j) = some u := by
        intro j u hu
        obtain rfl : j = 0 := by have := (List.getElem?_eq_some_iff.1 hu).1; simpa using this
        have h2 := hp_new (w.alloc (.cells #[.int .i32 x, .int .i32 y] 21)) (.cells #[.int .i32 z] 21)
        rw [World.size_alloc, hW2] at h2
        rw [addr_add, cell_at h2]
        simpa using hu
      have HN : Hid _ := hnews
      have k2 : 2 + 1 ≤ maxLen := by unfold maxLen; omega
      have k4 : w.heap.size ≤ W2.heap.size := by rw [← hW2]; simp; omega
      have hB2 : Below w.heap.size w W2 := by rw [← hW2]; exact ((Below.refl _ w).alloc (Nat.le_refl _) _).alloc (by simp) _
      have Hx : Hid _ := hx
      have Hy : Hid _ := hy
      have Hz : Hid _ := hz
      have HW : Hid _ := hW2
      clear hnews hx hy hz hW2
      go_enter Tryz.func162, Tryz.ntmps162
      go_wp2_with (first | (go_at_call 47; refine (syl_any _ _).mono ?_; rintro e w' ⟨rfl, rfl⟩) | (at_builtin; rw [Hx.out, Hy.out, Hz.out, HW.out]; refine wpList_append_own _ rfl _ _ 27 rfl w.heap.size 21 i0 (.int .i32 0) 1 4 Tryz.underlying27 hi hz0 hz1 hz2 rfl (by decide) _ 2 _ rfl hown ⟨w.heap.size + 1, 0, none⟩ 1 1 [.int .i32 z] rfl rfl HN.out (by simp [Value.oneCell']) k2 (by omega) k4 ?_; intro v' w1 hown' hgrow _))
      go_ret
      exact ⟨v', rfl, hown', hB2.grown hgrow k4 (fun k e => by cases e; exact Nat.le_refl _)⟩
    · rw [show decP m r = [4352 + (r - 44032) / 588, 4449 + (r - 44032) / 28 % 21] by unfold decP; simp [c2, c3]]
      go_enter Tryz.func162, Tryz.ntmps162
      go_wp2_with (go_at_call 47; refine (syl_any _ _).mono ?_; rintro e w' ⟨rfl, rfl⟩)
      go_ret
      exact ⟨_, rfl, ⟨rfl, .inr ⟨w.heap.size, 2, _, rfl, Nat.le_refl _, hp_new w _, Nat.le_refl _, by simp [maxLen], rfl, rfl⟩⟩, by go_grown⟩
  · have c2 : isSyl r = false := by simpa using c2
    obtain ⟨hbp, cs, ks, bf, bd, bq, hb, hcs, hks, hf, hd, hl1, hl2⟩ := h
    have hc0 : w.cell? ⟨bp, 3, none⟩ = some (.map (some bd)) := by rw [cell_at hb]; rfl
    obtain ⟨v, hrun, hv⟩ := look_rr hd r
    have hlen' : ((m.decomps.lookup r).getD []).length ≤ 1099511627776 := lookup_len hlen
    have HS := Lib.hid (clone_r v _ hlen' w (hv.mono hn))
    rw [show decP m r = (m.decomps.lookup r).getD [] by unfold decP; simp [c2]]
    clear hb hcs hks hf hd hl1 hl2 hv hlen hlen'
    go_enter Tryz.func162, Tryz.ntmps162
    go_wp2_with (first | (go_at_call 47; refine (syl_any _ _).mono ?_; rintro e w' ⟨rfl, rfl⟩) | (go_at_call 198; refine HS.out.mono ?_; rintro e w' ⟨v', rfl, hown, _, hB⟩))
    go_ret
    exact ⟨v', rfl, hown, hB⟩
end Go.Proofs.YtakbacfhcllioaaGreatDoor
