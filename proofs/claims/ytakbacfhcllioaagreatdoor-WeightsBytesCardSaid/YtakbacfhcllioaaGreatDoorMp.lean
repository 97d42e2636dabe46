/- A map of the model as a function: what a look-up, an update, a deletion do to it. -/
import Derived.Test.YtakbacfhcllioaaGreatDoorOw
import Derived.MapKept
set_option linter.unusedSectionVars false
namespace Go.Proofs.YtakbacfhcllioaaGreatDoor
open Go.RowKit
open Go.MapKept (IsKey findNow_spec run_checkKey run_findKey run_setObj_map run_keyThatStays heap_set)

def upd {κ α : Type} [DecidableEq κ] (f : κ → Option α) (k : κ) (a : Option α) : κ → Option α := fun j => if j = k then a else f j

def Rep {κ α : Type} (kv : κ → Value) (R : Value → α → Prop) (es : List MapEntry) (f : κ → Option α) : Prop :=
  (es.map (·.key)).Nodup ∧ (∀ e ∈ es, ∃ k a, e.key = kv k ∧ f k = some a ∧ R e.val a) ∧ ∀ k a, f k = some a → ∃ e ∈ es, e.key = kv k

section
variable {κ α : Type} [DecidableEq κ] {kv : κ → Value} {R : Value → α → Prop} {es : List MapEntry} {f : κ → Option α}

theorem Rep.mono {R' : Value → α → Prop} (h : Rep kv R es f) (hR : ∀ v a, R v a → R' v a) : Rep kv R' es f :=
  ⟨h.1, fun e he => by obtain ⟨k, a, h1, h2, h3⟩ := h.2.1 e he; exact ⟨k, a, h1, h2, hR _ _ h3⟩, h.2.2⟩

theorem Rep.empty : Rep kv R [] (fun _ => none) := ⟨by simp, by simp, by simp⟩

theorem Rep.find (inj : ∀ a b, kv a = kv b → a = b) {d : TypeDesc} (hk : ∀ k, IsKey d (kv k)) (h : Rep kv R es f) (k : κ) :
    (Instr.findNow d (kv k) es 0 = some none ∧ f k = none ∧ ∀ x ∈ es, x.key ≠ kv k) ∨
    ∃ j e, Instr.findNow d (kv k) es 0 = some (some (j, e.val)) ∧ es[j]? = some e ∧ e.key = kv k ∧ ∃ a, f k = some a ∧ R e.val a := by
  rcases findNow_spec (hk k) es 0 (fun x hx => by obtain ⟨k', a, h1, _⟩ := h.2.1 x hx; rw [h1]; exact hk k') with ⟨h1, h2⟩ | ⟨j, e, h1, h2, h3⟩
  · refine .inl ⟨h1, ?_, h2⟩
    cases hf : f k with
    | none => rfl
    | some a => obtain ⟨e, he, e1⟩ := h.2.2 k a hf; exact absurd e1 (h2 e he)
  · refine .inr ⟨j, e, by simpa using h1, h2, h3, ?_⟩
    obtain ⟨k', a, e1, e2, e3⟩ := h.2.1 e (List.mem_of_getElem? h2)
    have := inj _ _ (e1.symm.trans h3)
    subst this
    exact ⟨a, e2, e3⟩

theorem Rep.push (_inj : ∀ a b, kv a = kv b → a = b) (h : Rep kv R es f) {k : κ} {v : Value} {a : α} (hn : ∀ x ∈ es, x.key ≠ kv k) (hv : R v a) (b : Nat) :
    Rep kv R (es ++ [{ key := kv k, val := v, born := b }]) (upd f k (some a)) := by
  refine ⟨?_, ?_, ?_⟩
  · rw [List.map_append, List.nodup_append]
    refine ⟨h.1, by simp, ?_⟩
    intro x hx y hy
    obtain ⟨e, he, rfl⟩ := List.mem_map.1 hx
    simp at hy
    subst hy
    exact hn e he
  · intro e he
    rcases List.mem_append.1 he with he | he
    · obtain ⟨k', a', e1, e2, e3⟩ := h.2.1 e he
      have hne : k' ≠ k := fun q => hn e he (by rw [e1, q])
      exact ⟨k', a', e1, by simp [upd, hne, e2], e3⟩
    · simp at he
      subst he
      exact ⟨k, a, rfl, by simp [upd], hv⟩
  · intro k' a' hk'
    by_cases hc : k' = k
    · subst hc
      exact ⟨_, List.mem_append_right _ (List.mem_singleton.2 rfl), rfl⟩
    · simp [upd, hc] at hk'
      obtain ⟨e, he, e1⟩ := h.2.2 k' a' hk'
      exact ⟨e, List.mem_append_left _ he, e1⟩

theorem nodup_get {l : List Value} (h : l.Nodup) {i j : Nat} {v : Value} (hi : l[i]? = some v) (hj : l[j]? = some v) : i = j := by
  obtain ⟨hi1, hi2⟩ := List.getElem?_eq_some_iff.1 hi
  obtain ⟨hj1, hj2⟩ := List.getElem?_eq_some_iff.1 hj
  have hp := List.pairwise_iff_getElem.1 h
  rcases Nat.lt_trichotomy i j with c | c | c
  · exact absurd (hi2.trans hj2.symm) (hp i j hi1 hj1 c)
  · exact c
  · exact absurd (hj2.trans hi2.symm) (hp j i hj1 hi1 c)

theorem Rep.modify (_inj : ∀ a b, kv a = kv b → a = b) (h : Rep kv R es f) {k : κ} {v : Value} {a : α} {j : Nat} {e : MapEntry} (hj : es[j]? = some e) (he : e.key = kv k) (hv : R v a) :
    Rep kv R (es.modify j fun e => { e with key := kv k, val := v }) (upd f k (some a)) := by
  have hkeys : (es.modify j fun e => { e with key := kv k, val := v }).map (·.key) = es.map (·.key) := by
    apply List.ext_getElem?
    intro i
    simp only [List.getElem?_map, List.getElem?_modify]
    by_cases c : j = i
    · subst c; simp [hj, he]
    · simp [c]
  have hget : ∀ i x, (es.modify j fun e => { e with key := kv k, val := v })[i]? = some x → (i = j ∧ x.key = kv k ∧ x.val = v) ∨ (i ≠ j ∧ es[i]? = some x) := by
    intro i x hx
    rw [List.getElem?_modify] at hx
    by_cases c : j = i
    · subst c; simp [hj] at hx; subst hx; exact .inl ⟨rfl, rfl, rfl⟩
    · simp [c] at hx; exact .inr ⟨fun e => c e.symm, hx⟩
  refine ⟨by rw [hkeys]; exact h.1, ?_, ?_⟩
  · intro x hx
    obtain ⟨i, hi⟩ := List.mem_iff_getElem?.1 hx
    rcases hget i x hi with ⟨_, h1, h2⟩ | ⟨hne, h1⟩
    · exact ⟨k, a, h1, by simp [upd], by rw [h2]; exact hv⟩
    · obtain ⟨k', a', e1, e2, e3⟩ := h.2.1 x (List.mem_of_getElem? h1)
      have hk' : k' ≠ k := fun q => hne (nodup_get h.1 (v := kv k) (by rw [List.getElem?_map, h1]; simp [e1, q]) (by rw [List.getElem?_map, hj]; simp [he]))
      exact ⟨k', a', e1, by simp [upd, hk', e2], e3⟩
  · intro k' a' hk'
    have hm : kv k' ∈ (es.modify j fun e => { e with key := kv k, val := v }).map (·.key) := by
      rw [hkeys]
      by_cases c : k' = k
      · subst c; rw [← he]; exact List.mem_map_of_mem (List.mem_of_getElem? hj)
      · simp [upd, c] at hk'
        obtain ⟨x, hx, e1⟩ := h.2.2 k' a' hk'
        rw [← e1]; exact List.mem_map_of_mem hx
    obtain ⟨x, hx, e1⟩ := List.mem_map.1 hm
    exact ⟨x, hx, e1⟩

theorem Rep.erase (inj : ∀ a b, kv a = kv b → a = b) (h : Rep kv R es f) {k : κ} {j : Nat} {e : MapEntry} (hj : es[j]? = some e) (he : e.key = kv k) :
    Rep kv R (es.eraseIdx j) (upd f k none) := by
  refine ⟨h.1.sublist ((List.eraseIdx_sublist es j).map _), ?_, ?_⟩
  · intro x hx
    obtain ⟨i, hne, hi⟩ := List.mem_eraseIdx_iff_getElem?.1 hx
    obtain ⟨k', a', e1, e2, e3⟩ := h.2.1 x (List.mem_of_getElem? hi)
    have hk' : k' ≠ k := fun q => hne (nodup_get h.1 (v := kv k) (by rw [List.getElem?_map, hi]; simp [e1, q]) (by rw [List.getElem?_map, hj]; simp [he]))
    exact ⟨k', a', e1, by simp [upd, hk', e2], e3⟩
  · intro k' a' hk'
    by_cases c : k' = k
    · subst c; simp [upd] at hk'
    · simp [upd, c] at hk'
      obtain ⟨x, hx, e1⟩ := h.2.2 k' a' hk'
      obtain ⟨i, hi⟩ := List.mem_iff_getElem?.1 hx
      refine ⟨x, List.mem_eraseIdx_iff_getElem?.2 ⟨i, ?_, hi⟩, e1⟩
      intro q
      subst q
      rw [hj] at hi
      cases hi
      exact c (inj _ _ (e1.symm.trans he))

theorem upd_none {k : κ} (h : f k = none) : upd f k none = f := by
  funext j
  unfold upd
  split
  · next q => rw [q, h]
  · rfl
end

/-- The world with the map r turned. -/
def setMap (w : World) (r : Nat) (es : Array MapEntry) (c : Nat) : World := { w with heap := w.heap.setIfInBounds r (.map es c) }
theorem setMap_same {w : World} {r : Nat} {es0 es : Array MapEntry} {c0 c : Nat} (h : w.heap[r]? = some (.map es0 c0)) : (setMap w r es c).heap[r]? = some (.map es c) := (heap_set h).1
theorem setMap_only {w : World} {r : Nat} {es : Array MapEntry} {c : Nat} : Only r w (setMap w r es c) :=
  ⟨rfl, rfl, rfl, by simp [setMap], fun k hk => by simp [setMap, Ne.symm hk]⟩

section
variable {κ α : Type} [DecidableEq κ] {kv : κ → Value} {R : Value → α → Prop} {es : Array MapEntry} {f : κ → Option α}
variable {P : Program} {w : World} {mty kt et : TypeId} {d : TypeDesc} {r clock : Nat}

theorem rep_look (inj : ∀ a b, kv a = kv b → a = b) (hk : ∀ k, IsKey d (kv k)) (hm : P.underlying mty = some (.map kt et)) (hd : P.underlying kt = some d)
    (hb : w.heap[r]? = some (.map es clock)) (h : Rep kv R es.toList f) (k : κ) (z : Value) (hz : (zeroValue et).run P w = .ok z w) :
    (f k = none ∧ ∀ c, (Instr.lookup mty (.map (some r)) (kv k) c).run P w = .ok (if c then .tuple #[z, .bool false] else z) w) ∨
    ∃ a v, f k = some a ∧ R v a ∧ ∀ c, (Instr.lookup mty (.map (some r)) (kv k) c).run P w = .ok (if c then .tuple #[v, .bool true] else v) w := by
  rcases h.find inj hk k with ⟨h1, h2, h3⟩ | ⟨j, e, h1, h2, h3, a, h4, h5⟩
  · refine .inl ⟨h2, fun c => ?_⟩
    cases c <;> simp [Instr.lookup, run_underlying hm, MapKept.run_getObj_map hb, run_checkKey hd (hk k), run_findKey hd h1, hz, Result.andThen]
  · refine .inr ⟨a, e.val, h4, h5, fun c => ?_⟩
    cases c <;> simp [Instr.lookup, run_underlying hm, MapKept.run_getObj_map hb, run_checkKey hd (hk k), run_findKey hd h1, Result.andThen]

theorem rep_update (inj : ∀ a b, kv a = kv b → a = b) (hk : ∀ k, IsKey d (kv k)) (hm : P.underlying mty = some (.map kt et)) (hd : P.underlying kt = some d)
    (hb : w.heap[r]? = some (.map es clock)) (h : Rep kv R es.toList f) (k : κ) (v : Value) (a : α) (hv : R v a) :
    ∃ es' c', (Instr.mapUpdate mty (.map (some r)) (kv k) v).run P w = .ok () (setMap w r es' c') ∧ Rep kv R es'.toList (upd f k (some a)) := by
  rcases h.find inj hk k with ⟨h1, h2, h3⟩ | ⟨j, e, h1, h2, h3, a', h4, h5⟩
  · refine ⟨_, _, by simp [Instr.mapUpdate, run_underlying hm, MapKept.run_getObj_map hb, run_checkKey hd (hk k), run_findKey hd h1, run_setObj_map _ hb, Result.andThen]; rfl, ?_⟩
    rw [Array.toList_push]
    exact h.push inj h3 hv _
  · have hj : es[j]? = some e := by simpa using h2
    refine ⟨_, _, by simp [Instr.mapUpdate, run_underlying hm, MapKept.run_getObj_map hb, run_checkKey hd (hk k), run_findKey hd h1, hj, h3, run_keyThatStays (hk k), run_setObj_map _ hb, Result.andThen]; rfl, ?_⟩
    rw [Array.toList_modify]
    exact h.modify inj h2 h3 hv

theorem rep_delete (inj : ∀ a b, kv a = kv b → a = b) (hk : ∀ k, IsKey d (kv k)) (hm : P.underlying mty = some (.map kt et)) (hd : P.underlying kt = some d)
    (hb : w.heap[r]? = some (.map es clock)) (h : Rep kv R es.toList f) (k : κ) (ty kt' : TypeId) :
    ∃ es' c', (Builtin.delete_ #[mty, kt'] ty #[.map (some r), kv k]).run P w = .ok (.tuple #[]) (setMap w r es' c') ∧ Rep kv R es'.toList (upd f k none) := by
  rcases h.find inj hk k with ⟨h1, h2, h3⟩ | ⟨j, e, h1, h2, h3, a', h4, h5⟩
  · refine ⟨es, clock, by simp [Builtin.delete_, run_underlying hm, MapKept.run_getObj_map hb, run_checkKey hd (hk k), run_findKey hd h1, run_setObj_map _ hb, Result.andThen]; rfl, ?_⟩
    rw [upd_none h2]
    exact h
  · have hj : j < es.size := by have := (List.getElem?_eq_some_iff.1 h2).1; simpa using this
    refine ⟨es.eraseIdxIfInBounds j, clock, by simp [Builtin.delete_, run_underlying hm, MapKept.run_getObj_map hb, run_checkKey hd (hk k), run_findKey hd h1, run_setObj_map _ hb, Result.andThen]; rfl, ?_⟩
    rw [Array.eraseIdxIfInBounds, dif_pos hj, Array.toList_eraseIdx]
    exact h.erase inj h2 h3
end
end Go.Proofs.YtakbacfhcllioaaGreatDoor
