/- Slices of runes; slices.Clone at runes; what is told of points by their numbers. -/
import Derived.Test.YtakbacfhcllioaaGreatDoorSa
import Derived.Deep.QuietTactic
import Derived.BigQuiet
import Derived.Lib.Hide
namespace Go.Proofs.YtakbacfhcllioaaGreatDoor
open Go.RowKit

/-- A slice that reads as numbers of kind i32; its block lies below n₀. -/
def Runes (n₀ : Nat) (W : World) (v : Value) (l : List Int) : Prop :=
  (v = .slice none 0 0 ∧ l = []) ∨ ∃ b off cap, v = .slice (some ⟨b, off, none⟩) l.length cap ∧ b < n₀ ∧ l.length ≤ cap ∧ ∀ j, j < l.length → W.cell? ⟨b, off + j, none⟩ = some (.int .i32 (l[j]?.getD 0))
theorem Runes.mono {n₀ n₁ : Nat} {A : World} (h : n₀ ≤ n₁) {v : Value} {l : List Int} : Runes n₀ A v l → Runes n₁ A v l := by
  rintro (h0 | ⟨b, off, cap, hv, hb, hl, hc⟩)
  · exact .inl h0
  · exact .inr ⟨b, off, cap, hv, by omega, hl, hc⟩
theorem Runes.below {n₀ : Nat} {A B : World} (h : Below n₀ A B) {v : Value} {l : List Int} : Runes n₀ A v l → Runes n₀ B v l := by
  rintro (h0 | ⟨b, off, cap, hv, hb, hl, hc⟩)
  · exact .inl h0
  · exact .inr ⟨b, off, cap, hv, hb, hl, fun j hj => (h.cell (p := ⟨b, off + j, none⟩) hb).trans (hc j hj)⟩
theorem Runes.slice {n₀ : Nat} {W : World} {v : Value} {l : List Int} (h : Runes n₀ W v l) : ∃ a cap, v = .slice a l.length cap := by
  rcases h with ⟨h, rfl⟩ | ⟨b, off, cap, h, _⟩
  · exact ⟨_, _, h⟩
  · exact ⟨_, _, h⟩

/-- A row of runes of the call's own. -/
abbrev OwnR (w : World) (base : Nat) (v : Value) (l : List Int) : Prop := w.ownsRow base 21 1 v l.length (l.map (Value.int .i32))

theorem OwnR.runes {w : World} {base : Nat} {v : Value} {l : List Int} (h : OwnR w base v l) : Runes w.heap.size w v l := by
  obtain ⟨_, h⟩ := h
  rcases h with ⟨rfl, hn⟩ | ⟨g, cap, cur, rfl, hb, hg, hn, hcap, hsz, hx⟩
  · exact .inl ⟨rfl, List.eq_nil_of_length_eq_zero hn⟩
  · refine .inr ⟨g, 0, cap, rfl, (Array.getElem?_eq_some_iff.1 hg).1, hn, fun j hj => ?_⟩
    rw [Nat.zero_add, cell_at hg, ← Array.getElem?_toList]
    have e : (cur.toList.take (l.length * 1))[j]? = (l.map (Value.int .i32))[j]? := by rw [hx]
    rw [List.getElem?_take_of_lt (by omega)] at e
    rw [e]
    simp [List.getElem?_eq_getElem hj]

theorem info21 : (Tryz.prog.info? 21).map (fun i => (i.zero, i.size, i.bytes)) = some (some (.int .i32 0), 1, 4) := by kernel_rfl

theorem runes_news {W : World} {b off : Nat} {l : List Int} (h : ∀ j, j < l.length → W.cell? ⟨b, off + j, none⟩ = some (.int .i32 (l[j]?.getD 0))) :
    ∀ j u, (l.map (Value.int .i32))[j]? = some u → W.cell? (Addr.add ⟨b, off, none⟩ j) = some u := by
  intro j u hu
  have hj : j < l.length := by simpa using (List.getElem?_eq_some_iff.1 hu).1
  rw [addr_add, h j hj, ← hu]
  simp [List.getElem?_eq_getElem hj]
theorem runes_one (l : List Int) : ∀ u ∈ l.map (Value.int .i32), u.oneCell' = true := by
  intro u hu
  obtain ⟨x, _, rfl⟩ := List.mem_map.1 hu
  rfl

/-- What a call that hands back a row of runes of its own leaves; nil, if and only if nl. -/
def GivesR (w : World) (l : List Int) (nl : Prop) (e : Ending) (w' : World) : Prop :=
  ∃ v', e = .returned v' ∧ OwnR w' w.heap.size v' l ∧ (v' = .slice none 0 0 ↔ nl) ∧ Below w.heap.size w w'

set_option maxRecDepth 100000 in
set_option maxHeartbeats 1000000 in
theorem clone_r (v : Value) (l : List Int) (hl : l.length ≤ 1099511627776) (w : World) (h : Runes w.heap.size w v l) :
    Calls Tryz.prog 198 #[v] w (GivesR w l (v = .slice none 0 0)) := by
  obtain ⟨i0, hi, hz0, hz1, hz2⟩ := info_parts info21
  rcases h with ⟨rfl, rfl⟩ | ⟨b, off, cap, rfl, hb, hcap, hc⟩
  · have hnil := fun (wx : World) => Lib.run_eql_slice_nil (P := Tryz.prog) wx 27 21 none 0 0 0 0 Tryz.underlying27
    go_enter Tryz.func198, Tryz.ntmps198
    go_wp2
    go_ret
    exact ⟨.slice none 0 0, rfl, World.ownsRow_nil _ _ _ _, by simp, Below.refl _ _⟩
  · have hnil := fun (wx : World) => Lib.run_eql_slice_nil (P := Tryz.prog) wx 27 21 (some ⟨b, off, none⟩) l.length cap 0 0 Tryz.underlying27
    have hown : (w.alloc (.cells #[] 21)).ownsRow w.heap.size 21 1 (.slice (some ⟨w.heap.size, 0, none⟩) 0 0) 0 [] := ⟨rfl, .inr ⟨w.heap.size, 0, #[], rfl, Nat.le_refl _, hp_new w _, Nat.le_refl _, by simp [maxLen], rfl, rfl⟩⟩
    have hnews : ∀ j u, (l.map (Value.int .i32))[j]? = some u → (w.alloc (.cells #[] 21)).cell? (Addr.add ⟨b, off, none⟩ j) = some u := runes_news fun j hj => cell_alloc_k _ (hc j hj)
    have HN : Hid _ := hnews
    have HC : Hid _ := hc
    have H1 : Hid _ := runes_one l
    clear hnews hc
    have k1 : (l.map (Value.int .i32)).length = l.length * 1 := by simp
    have k2 : 0 + l.length ≤ maxLen := by unfold maxLen; omega
    have k3 : (0 + l.length) * 4 ≤ 140737488355328 := by omega
    have k4 : w.heap.size ≤ (w.alloc (.cells #[] 21)).heap.size := by simp
    have K1 : Hid _ := k1
    clear k1 hl
    go_enter Tryz.func198, Tryz.ntmps198
    go_wp2_with (at_builtin; go_must (refine wpList_append_own _ rfl _ _ 27 rfl w.heap.size 21 i0 (.int .i32 0) 1 4 Tryz.underlying27 hi hz0 hz1 hz2 rfl (by decide) _ 0 [] rfl hown ⟨b, off, none⟩ l.length cap (l.map (Value.int .i32)) rfl K1.out HN.out H1.out k2 k3 k4 ?_); intro v' w1 hown' hgrow hnl)
    go_ret
    rw [Nat.zero_add, List.nil_append] at hown'
    refine ⟨v', rfl, hown', ⟨fun h => ?_, fun h => by cases h⟩, ((Below.refl _ w).alloc (Nat.le_refl _) _).grown hgrow k4 (fun k e => by cases e; exact Nat.le_refl _)⟩
    have := (hnl.1 h).1
    cases this

def isChar (r : Int) : Bool := decide (0 ≤ r ∧ r ≤ 1114111 ∧ (r < 55296 ∨ 57343 < r))
def isSyl (r : Int) : Bool := decide (44032 ≤ r ∧ r < 55204)
def isJamo (r : Int) : Bool := decide ((4352 ≤ r ∧ r < 4371) ∨ (4449 ≤ r ∧ r < 4470) ∨ (4519 < r ∧ r < 4547))

set_option maxHeartbeats 400000 in
theorem char_any (r : Int) (w : World) :
    Calls Tryz.prog 46 #[.int .i32 r] w fun e w' => e = .returned (.bool (isChar r)) ∧ w = w' := by
  by_cases c1 : 0 ≤ r
  · by_cases c2 : r ≤ 1114111
    · by_cases c3 : r < 55296
      · rw [show isChar r = true by unfold isChar; simp; omega]
        go_enter Tryz.func46, Tryz.ntmps46
        go_wp2
        go_ret
        exact ⟨rfl, rfl⟩
      · by_cases c4 : 57343 < r
        · rw [show isChar r = true by unfold isChar; simp; omega]
          go_enter Tryz.func46, Tryz.ntmps46
          go_wp2
          go_ret
          exact ⟨rfl, rfl⟩
        · rw [show isChar r = false by unfold isChar; simp; omega]
          go_enter Tryz.func46, Tryz.ntmps46
          go_wp2
          go_ret
          exact ⟨rfl, rfl⟩
    · rw [show isChar r = false by unfold isChar; simp; omega]
      go_enter Tryz.func46, Tryz.ntmps46
      go_wp2
      go_ret
      exact ⟨rfl, rfl⟩
  · rw [show isChar r = false by unfold isChar; simp; omega]
    go_enter Tryz.func46, Tryz.ntmps46
    go_wp2
    go_ret
    exact ⟨rfl, rfl⟩

set_option maxHeartbeats 400000 in
theorem syl_any (r : Int) (w : World) :
    Calls Tryz.prog 47 #[.int .i32 r] w fun e w' => e = .returned (.bool (isSyl r)) ∧ w = w' := by
  by_cases c1 : 44032 ≤ r
  · by_cases c2 : r < 55204
    · rw [show isSyl r = true by unfold isSyl; simp; omega]
      go_enter Tryz.func47, Tryz.ntmps47
      go_wp2
      go_ret
      exact ⟨rfl, rfl⟩
    · rw [show isSyl r = false by unfold isSyl; simp; omega]
      go_enter Tryz.func47, Tryz.ntmps47
      go_wp2
      go_ret
      exact ⟨rfl, rfl⟩
  · rw [show isSyl r = false by unfold isSyl; simp; omega]
    go_enter Tryz.func47, Tryz.ntmps47
    go_wp2
    go_ret
    exact ⟨rfl, rfl⟩

set_option maxHeartbeats 1000000 in
theorem jamo_any (r : Int) (w : World) :
    Calls Tryz.prog 133 #[.int .i32 r] w fun e w' => e = .returned (.bool (isJamo r)) ∧ w = w' := by
  have hd : (r < 4352 ∧ isJamo r = false) ∨ (4352 ≤ r ∧ r < 4371 ∧ isJamo r = true) ∨ (4371 ≤ r ∧ r < 4449 ∧ isJamo r = false) ∨ (4449 ≤ r ∧ r < 4470 ∧ isJamo r = true) ∨ (4470 ≤ r ∧ r ≤ 4519 ∧ isJamo r = false) ∨ (4519 < r ∧ r < 4547 ∧ isJamo r = true) ∨ (4547 ≤ r ∧ isJamo r = false) := by
    unfold isJamo; simp; omega
  rcases hd with ⟨c1, e⟩ | ⟨c1, c2, e⟩ | ⟨c1, c2, e⟩ | ⟨c1, c2, e⟩ | ⟨c1, c2, e⟩ | ⟨c1, c2, e⟩ | ⟨c1, e⟩
  all_goals
    rw [e]
    clear e
    go_enter Tryz.func133, Tryz.ntmps133
    go_wp2
    go_ret
    first | exact ⟨rfl, rfl⟩ | exact ⟨by simp; omega, rfl⟩

/-- Properties, as plain data: rows of classes and of kinds; what points fold and decompose to; what pairs compose to. -/
structure PM where
  classes : List Row3
  kinds : List Row3
  folds : List (Int × List Int)
  decomps : List (Int × List Int)
  pairs : List ((Int × Int) × Int)

/-- Entries that read as a list of numbers with lists of runes. -/
def EntsRR (n₀ : Nat) (W : World) : List MapEntry → List (Int × List Int) → Prop
  | [], [] => True
  | e :: es, x :: l => e.key = .int .i32 x.1 ∧ Runes n₀ W e.val x.2 ∧ EntsRR n₀ W es l
  | _, _ => False
theorem EntsRR.mono {n₀ n₁ : Nat} {A : World} (h : n₀ ≤ n₁) : ∀ {es : List MapEntry} {l : List (Int × List Int)}, EntsRR n₀ A es l → EntsRR n₁ A es l
  | [], [], _ => trivial
  | _ :: _, _ :: _, ⟨a, b, c⟩ => ⟨a, b.mono h, EntsRR.mono h c⟩
theorem EntsRR.below {n₀ : Nat} {A B : World} (h : Below n₀ A B) : ∀ {es : List MapEntry} {l : List (Int × List Int)}, EntsRR n₀ A es l → EntsRR n₀ B es l
  | [], [], _ => trivial
  | _ :: _, _ :: _, ⟨a, b, c⟩ => ⟨a, b.below h, EntsRR.below h c⟩
/-- A map from runes to lists of runes, in the order of its entries. -/
def MapRR (n₀ : Nat) (W : World) (b : Nat) (l : List (Int × List Int)) : Prop :=
  b < n₀ ∧ ∃ es clock, W.heap[b]? = some (.map es clock) ∧ EntsRR n₀ W es.toList l
theorem MapRR.mono {n₀ n₁ : Nat} {A : World} {b : Nat} {l : List (Int × List Int)} (h : n₀ ≤ n₁) : MapRR n₀ A b l → MapRR n₁ A b l := fun ⟨a, es, c, h1, h2⟩ => ⟨by omega, es, c, h1, h2.mono h⟩
theorem MapRR.below {n₀ : Nat} {A B : World} {b : Nat} {l : List (Int × List Int)} (h : Below n₀ A B) : MapRR n₀ A b l → MapRR n₀ B b l := fun ⟨a, es, c, h1, h2⟩ => ⟨a, es, c, (h.block b a).trans h1, h2.below h⟩
/-- Properties lie at block bp; all that they are made of lies below n₀. -/
def IsProps (n₀ : Nat) (W : World) (bp : Nat) (m : PM) : Prop :=
  bp < n₀ ∧ ∃ cs ks bf bd bq, W.heap[bp]? = some (.cells #[cs, ks, .map (some bf), .map (some bd), .map (some bq)] 99 (0, 0)) ∧ Rows3 n₀ W cs m.classes ∧ Rows3 n₀ W ks m.kinds ∧
    MapRR n₀ W bf m.folds ∧ MapRR n₀ W bd m.decomps ∧ m.classes.length ≤ 4611686018427387904 ∧ m.kinds.length ≤ 4611686018427387904

def classP (m : PM) (r : Int) : Int := if isChar r && !isSyl r && !isJamo r then saidL m.classes r 0 else 0
def kindP (m : PM) (r : Int) : Int := if !isChar r then 0 else saidL m.kinds r (if isSyl r then 1 else 0)

theorem IsProps.mono {n₀ n₁ : Nat} {A : World} {bp : Nat} {m : PM} (h : n₀ ≤ n₁) : IsProps n₀ A bp m → IsProps n₁ A bp m :=
  fun ⟨a, cs, ks, bf, bd, bq, h1, h2, h3, h4, h5, h6⟩ => ⟨by omega, cs, ks, bf, bd, bq, h1, h2.mono h, h3.mono h, h4.mono h, h5.mono h, h6⟩
theorem IsProps.below {n₀ : Nat} {A B : World} {bp : Nat} {m : PM} (h : Below n₀ A B) : IsProps n₀ A bp m → IsProps n₀ B bp m :=
  fun ⟨a, cs, ks, bf, bd, bq, h1, h2, h3, h4, h5, h6⟩ => ⟨a, cs, ks, bf, bd, bq, (h.block bp a).trans h1, h2.below h, h3.below h, h4.below h, h5.below h, h6⟩

set_option maxHeartbeats 1000000 in
theorem class_any (bp n₀ : Nat) (m : PM) (r : Int) (w : World) (hn : n₀ ≤ w.heap.size) (h : IsProps n₀ w bp m) :
    Calls Tryz.prog 96 #[.pointer (some ⟨bp, 0, none⟩), .int .i32 r] w fun e w' => e = .returned (.int .i64 (classP m r)) ∧ Below w.heap.size w w' := by
  obtain ⟨hbp, cs, ks, bf, bd, bq, hb, hcs, hks, hf, hd, hl1, hl2⟩ := h
  have hc0 : w.cell? ⟨bp, 0, none⟩ = some cs := by rw [cell_at hb]; rfl
  have HS := Lib.hid (said_any cs m.classes r 0 hl1 w (hcs.mono hn))
  clear hb hcs hks hf hd hl1 hl2
  by_cases c1 : isChar r = true
  · by_cases c2 : isSyl r = true
    · rw [show classP m r = 0 by unfold classP; simp [c1, c2]]
      go_enter Tryz.func96, Tryz.ntmps96
      go_wp2_with (first | (go_at_call 46; refine (char_any _ _).mono ?_; rintro e w' ⟨rfl, rfl⟩) | (go_at_call 47; refine (syl_any _ _).mono ?_; rintro e w' ⟨rfl, rfl⟩) | (go_at_call 133; refine (jamo_any _ _).mono ?_; rintro e w' ⟨rfl, rfl⟩))
      go_ret
      exact ⟨rfl, Below.refl _ _⟩
    · have c2 : isSyl r = false := by simpa using c2
      by_cases c3 : isJamo r = true
      · rw [show classP m r = 0 by unfold classP; simp [c1, c2, c3]]
        go_enter Tryz.func96, Tryz.ntmps96
        go_wp2_with (first | (go_at_call 46; refine (char_any _ _).mono ?_; rintro e w' ⟨rfl, rfl⟩) | (go_at_call 47; refine (syl_any _ _).mono ?_; rintro e w' ⟨rfl, rfl⟩) | (go_at_call 133; refine (jamo_any _ _).mono ?_; rintro e w' ⟨rfl, rfl⟩))
        go_ret
        exact ⟨rfl, Below.refl _ _⟩
      · have c3 : isJamo r = false := by simpa using c3
        rw [show classP m r = saidL m.classes r 0 by unfold classP; simp [c1, c2, c3]]
        go_enter Tryz.func96, Tryz.ntmps96
        go_wp2_with (first | (go_at_call 46; refine (char_any _ _).mono ?_; rintro e w' ⟨rfl, rfl⟩) | (go_at_call 47; refine (syl_any _ _).mono ?_; rintro e w' ⟨rfl, rfl⟩) | (go_at_call 133; refine (jamo_any _ _).mono ?_; rintro e w' ⟨rfl, rfl⟩) | (go_at_call 48; refine HS.out.mono ?_; rintro e w' ⟨rfl, hB⟩))
        go_ret
        exact ⟨rfl, hB⟩
  · have c1 : isChar r = false := by simpa using c1
    rw [show classP m r = 0 by unfold classP; simp [c1]]
    go_enter Tryz.func96, Tryz.ntmps96
    go_wp2_with (first | (go_at_call 46; refine (char_any _ _).mono ?_; rintro e w' ⟨rfl, rfl⟩) | (go_at_call 47; refine (syl_any _ _).mono ?_; rintro e w' ⟨rfl, rfl⟩) | (go_at_call 133; refine (jamo_any _ _).mono ?_; rintro e w' ⟨rfl, rfl⟩))
    go_ret
    exact ⟨rfl, Below.refl _ _⟩
end Go.Proofs.YtakbacfhcllioaaGreatDoor
