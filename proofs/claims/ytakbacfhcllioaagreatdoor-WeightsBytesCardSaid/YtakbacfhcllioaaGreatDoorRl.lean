/- (*builder).relation. -/
import Derived.Test.YtakbacfhcllioaaGreatDoorPc
namespace Go.Proofs.YtakbacfhcllioaaGreatDoor
open Go.RowKit
attribute [local go_sem ↓] Go.wp_at_zero Go.wp_at_succ

structure Rule where
  kind : Int
  before : Bool
  anchor : Int
  text : ByteArray
  level : Int
  extend : ByteArray
  line : Int

def ruleC (x : Rule) : Array Value := #[.int .i64 x.kind, .bool x.before, .int .i64 x.anchor, .string x.text, .int .i64 x.level, .string x.extend, .int .i64 x.line]
/-- A rule lies at b. -/
def IsR (W : World) (b : Nat) (x : Rule) : Prop := W.heap[b]? = some (.cells (ruleC x) 109 (0, 0))
theorem IsR.below {W W' : World} {b : Nat} {x : Rule} (h : IsR W b x) (hB : Below W.heap.size W W') : IsR W' b x := (hB.block b (Array.getElem?_eq_some_iff.1 h).1).trans h
theorem IsR.fr {base : Nat} {W W' : World} {b : Nat} {x : Rule} (h : IsR W b x) (hF : Fr base W W') : IsR W' b x := (hF.row _ _ _ _ h (by decide) (by decide)).trans h
theorem IsR.cells {W : World} {b : Nat} {x : Rule} (h : IsR W b x) :
    W.cell? ⟨b, 0, none⟩ = some (.int .i64 x.kind) ∧ W.cell? ⟨b, 1, none⟩ = some (.bool x.before) ∧ W.cell? ⟨b, 2, none⟩ = some (.int .i64 x.anchor) ∧ W.cell? ⟨b, 3, none⟩ = some (.string x.text) ∧
    W.cell? ⟨b, 4, none⟩ = some (.int .i64 x.level) ∧ W.cell? ⟨b, 5, none⟩ = some (.string x.extend) ∧ W.cell? ⟨b, 6, none⟩ = some (.int .i64 x.line) := by
  unfold IsR at h
  refine ⟨?_, ?_, ?_, ?_, ?_, ?_, ?_⟩ <;> (rw [cell_at h]; rfl)
theorem IsR.new (x : Rule) (W : World) : IsR (W.alloc (.cells (ruleC x) 109)) W.heap.size x := hp_new W _
theorem IsR.lt {W : World} {b : Nat} {x : Rule} (h : IsR W b x) : b < W.heap.size := (Array.getElem?_eq_some_iff.1 h).1

/-- A seat whose list is not told yet. -/
def newS (t ext : ByteArray) (level : Int) : Seat := ⟨t, 0, level, ext⟩

/-- The builder behind a relation. -/
def relB (b : BM) (t : ByteArray) : BM := { b with text := t, list := false, ahead := false }

/-- What a builder's function leaves: no error; the order and the builder so. -/
def Built (base bb bo bp : Nat) (o : OM) (b : BM) (w : World) (e : Ending) (w' : World) : Prop :=
  e = .returned (.int .i64 0) ∧ IsOrd base w' bo bp o ∧ IsB w' bb bo b ∧ Below base w w'

/-- What every function of the builder may lean on. -/
structure Std (base n₀ bb bo bp : Nat) (m : PM) (o : OM) (w : World) : Prop where
  hn : n₀ ≤ base
  hb : base ≤ w.heap.size
  hp : IsProps n₀ w bp m
  ho : IsOrd base w bo bp o
  hbb : base ≤ bb
theorem Std.fresh {base n₀ bb bo bp : Nat} {m : PM} {o : OM} {w w' : World} (h : Std base n₀ bb bo bp m o w) (hB : Below w.heap.size w w') : Std base n₀ bb bo bp m o w' :=
  ⟨h.hn, Nat.le_trans h.hb hB.size, h.hp.below (hB.mono (Nat.le_trans h.hn h.hb)), h.ho.fresh hB, h.hbb⟩
theorem Std.turn {base n₀ bb bo bp : Nat} {m : PM} {o o' : OM} {w w' : World} (h : Std base n₀ bb bo bp m o w) (hF : Fr base w w') (ho : IsOrd base w' bo bp o') : Std base n₀ bb bo bp m o' w' :=
  ⟨h.hn, Nat.le_trans h.hb hF.size, h.hp.below ((hF.below h.hb).mono h.hn), ho, h.hbb⟩
theorem Std.find {base n₀ bb bo bp : Nat} {m : PM} {o : OM} {w : World} (h : Std base n₀ bb bo bp m o w) (hs : Small m o) (t : ByteArray) (ht : t.size ≤ 1099511627776) :
    Calls Tryz.prog 68 #[.pointer (some ⟨bo, 0, none⟩), .string t] w (Found m o t w) := find_any base n₀ bo bp m o hs t ht w (Nat.le_trans h.hn h.hb) h.hb h.hp h.ho
theorem Std.seats {base n₀ bb bo bp : Nat} {m : PM} {o : OM} {w : World} (h : Std base n₀ bb bo bp m o w) (hs : Small m o) (r : Int) :
    Calls Tryz.prog 67 #[.pointer (some ⟨bo, 0, none⟩), .int .i32 r] w (SeatsAt base w (seatsM m o r)) := seats_any base n₀ bo bp m hs.decomps o hs.touched r w (Nat.le_trans h.hn h.hb) h.hb h.hp h.ho
theorem Std.take {base n₀ bb bo bp : Nat} {m : PM} {o : OM} {w : World} (h : Std base n₀ bb bo bp m o w) (hs : Small m o) (t : ByteArray) (ht : t.size ≤ 1099511627776) :
    Calls Tryz.prog 149 #[.pointer (some ⟨bo, 0, none⟩), .string t] w (Ords base bo bp (takeM m o t) w) := take_any base n₀ bo bp m o hs t ht w (Nat.le_trans h.hn h.hb) h.hb h.hp h.ho
theorem Std.put {base n₀ bb bo bp : Nat} {m : PM} {o : OM} {w : World} (h : Std base n₀ bb bo bp m o w) (hs : Small m o) (r : Int) (i : Nat) (s : Seat) (hi : i ≤ (seatsM m o r).length) :
    Calls Tryz.prog 150 #[.pointer (some ⟨bo, 0, none⟩), .int .i32 r, .int .i64 i, .agg #[.string s.text, .int .i32 s.list, .int .i64 s.level, .string s.ext]] w (Ords base bo bp (putM m o r i s) w) :=
  put_any base n₀ bo bp m o hs r i s hi w (Nat.le_trans h.hn h.hb) h.hb h.hp h.ho

theorem Std.putN {base n₀ bb bo bp : Nat} {m : PM} {o : OM} {w : World} (h : Std base n₀ bb bo bp m o w) (hs : Small m o) (r : Int) (i : Nat) (t ext : ByteArray) (level : Int) (hi : i ≤ (seatsM m o r).length) :
    Calls Tryz.prog 150 #[.pointer (some ⟨bo, 0, none⟩), .int .i32 r, .int .i64 i, .agg #[.string t, .int .i32 0, .int .i64 level, .string ext]] w (Ords base bo bp (putM m o r i (newS t ext level)) w) := h.put hs r i (newS t ext level) hi

theorem own_turn {w w' : World} {base : Nat} {e : TypeId} {size : Nat} {v : Value} {n : Nat} {xs : List Value} (h : w.ownsRow base e size v n xs) (he : e ≠ 194)
    (hk : ∀ (k : Nat) (x : Obj), w.heap[k]? = some x → (∀ cs, x ≠ .cells cs 194 (0, 0)) → w'.heap[k]? = some x) : w'.ownsRow base e size v n xs :=
  own_seg h fun g cur hg => (hk g _ hg (fun cs q => by cases q; exact he rfl)).trans hg.symm
theorem IsOrd.turn {base : Nat} {W W' : World} {bo bp : Nat} {o : OM} (h : IsOrd base W bo bp o) (hk : ∀ (k : Nat) (x : Obj), W.heap[k]? = some x → (∀ cs, x ≠ .cells cs 194 (0, 0)) → W'.heap[k]? = some x) : IsOrd base W' bo bp o := by
  obtain ⟨lr, wr, tv, h1, h2, h3, h4, h5, ⟨es1, c1, h6, h7⟩, ⟨es2, c2, h8, h9⟩, h10, h11⟩ := h
  exact ⟨lr, wr, tv, h1, h2, h3, h4, hk _ _ h5 (fun cs q => by cases q), ⟨es1, c1, hk _ _ h6 (fun cs q => by cases q), h7.mono fun v l hv => own_turn hv (by decide) hk⟩, ⟨es2, c2, hk _ _ h8 (fun cs q => by cases q), h9⟩, own_turn h10 (by decide) hk, h11⟩

theorem setB {W : World} {bb : Nat} {cs : Array Value} (h : W.heap[bb]? = some (.cells cs 194 (0, 0))) (j : Nat) (v : Value) :
    (W.setCell ⟨bb, j, none⟩ v).heap[bb]? = some (.cells (cs.setIfInBounds j v) 194 (0, 0)) ∧ ∀ (k : Nat) (x : Obj), W.heap[k]? = some x → (∀ cs, x ≠ .cells cs 194 (0, 0)) → (W.setCell ⟨bb, j, none⟩ v).heap[k]? = some x :=
  ⟨setCell_at h j v, fun k x hx hn => (setCell_other W (fun q => by rw [q, h] at hx; cases hx; exact hn _ rfl) j v).trans hx⟩

/-- The three stores at a relation's end. -/
theorem rel_end {base : Nat} {W : World} {bb bo bp : Nat} {o : OM} {b : BM} (t : ByteArray) (hbb : base ≤ bb) (h : IsB W bb bo b) (ho : IsOrd base W bo bp o) :
    ∃ W', W' = ((W.setCell ⟨bb, 4, none⟩ (.string t)).setCell ⟨bb, 2, none⟩ (.bool false)).setCell ⟨bb, 6, none⟩ (.bool false) ∧ IsB W' bb bo (relB b t) ∧ IsOrd base W' bo bp o ∧ Below base W W' := by
  have s1 := setB h 4 (.string t)
  have s2 := setB s1.1 2 (.bool false)
  have s3 := setB s2.1 6 (.bool false)
  refine ⟨_, rfl, s3.1, ((ho.turn s1.2).turn s2.2).turn s3.2, (((Below.refl base W).setCell (p := ⟨bb, 4, none⟩) hbb _).setCell (p := ⟨bb, 2, none⟩) hbb _).setCell (p := ⟨bb, 6, none⟩) hbb _⟩
theorem IsB.frozen {W : World} {bb bo : Nat} {b : BM} (h : IsB W bb bo b) (j : Nat) : W.frozen? ⟨bb, j, none⟩ = false := by
  unfold IsB at h
  simp [World.frozen?, h]

theorem IsB.lt {W : World} {bb bo : Nat} {b : BM} (h : IsB W bb bo b) : bb < W.heap.size := (Array.getElem?_eq_some_iff.1 h).1
theorem outFr {base : Nat} {w W W' : World} (h : Below base w W) (hF : Fr base W W') (hb : base ≤ W.heap.size) : Below base w W' := h.trans (hF.below hb)

set_option maxRecDepth 100000 in
set_option maxHeartbeats 4000000 in
theorem rel_list (base n₀ bb bo bp : Nat) (m : PM) (o : OM) (number : Int) (bt bh : ByteArray) (x : Rule) (t ext : ByteArray) (w : World) (hst : Std base n₀ bb bo bp m o w) (hs : Small m o) (hs1 : Small m (takeM m o t))
    (hb : IsB w bb bo ⟨true, true, number, bt, bh, false⟩)
    (hx : (x.text.toList == []) = false) (hnt : NT base bp w x.text t) (hne : NT base bp w x.extend ext) (h8 : (ptsOf t).length ≤ 8) (e8 : (ptsOf ext).length ≤ 8)
    (hn1 : 1 ≤ x.level) (hn4 : x.level ≤ 4) (h2 : x.level = 1 → number ≠ -2) (hcase : x.level = 1 ∨ number = -2 ∨ seatsM m (takeM m o t) number ≠ []) :
    Calls Tryz.prog 103 #[.pointer (some ⟨bb, 0, none⟩), .agg (ruleC x)] w
      (Built base bb bo bp (putM m (takeM m o t) number (seatsM m (takeM m o t) number).length (newS t ext x.level)) ⟨true, false, number, t, bh, false⟩ w) := by
  obtain ⟨o1, ho1⟩ : ∃ o1, takeM m o t = o1 := ⟨_, rfl⟩
  rw [ho1] at hs1 hcase ⊢
  have HO1 := Lib.hid ho1
  clear ho1
  obtain ⟨l, hll⟩ : ∃ l, seatsM m o1 number = l := ⟨_, rfl⟩
  rw [hll] at hcase
  have HLL := Lib.hid hll
  have HPI : Hid (l.length ≤ (seatsM m o1 number).length) := show _ ≤ _ by rw [hll]; exact Nat.le_refl _
  rw [hll]
  clear hll
  have hlen : Hid (((l.length : Int) == 0) = false ∨ (((l.length : Int) == 0) = true ∧ (x.level != 1) = false) ∨ (((l.length : Int) == 0) = true ∧ (x.level != 1) = true ∧ (number != -2) = false)) := by
    show _ ∨ _ ∨ _
    by_cases h1 : l = []
    · subst h1
      by_cases h3 : x.level = 1
      · exact .inr (.inl ⟨rfl, by simpa using h3⟩)
      · refine .inr (.inr ⟨rfl, by simpa using h3, ?_⟩)
        rcases hcase with h | h | h
        · exact absurd h h3
        · simpa using h
        · exact absurd rfl h
    · exact .inl (by simp; exact h1)
  clear hcase
  have hB0 : Below w.heap.size w (w.alloc (.cells #[.int .i64 x.kind, .bool x.before, .int .i64 x.anchor, .string x.text, .int .i64 x.level, .string x.extend, .int .i64 x.line] 109)) := (Below.refl _ w).alloc (Nat.le_refl _) _
  have HB0 := Lib.hid hB0
  have HBW := Lib.hid (hB0.mono hst.hb)
  have HST := Lib.hid (hst.fresh hB0)
  have HBB := Lib.hid (hb.below hB0)
  have HR : Hid (IsR (w.alloc (.cells #[.int .i64 x.kind, .bool x.before, .int .i64 x.anchor, .string x.text, .int .i64 x.level, .string x.extend, .int .i64 x.line] 109)) w.heap.size x) := IsR.new x w
  have HNT := Lib.hid hnt
  have HNE := Lib.hid hne
  have HTS := Lib.hid hnt.1
  obtain ⟨r0, r1, r2, r3, r4, r5, r6⟩ := HR.out.cells
  obtain ⟨b0, b1, b2, b3, b4, b5, b6⟩ := HBB.out.cells
  dsimp only at b0 b1 b2 b3 b4 b5 b6
  clear hst hb hB0 hnt hne
  unfold ruleC
  go_enter Tryz.func103, Tryz.ntmps103
  go_wp2_with (first
    | (go_at_call 147; (with_reducible refine (piece_any base bb bo bp x.text t _ (HNT.out.below HBW.out) b0 HST.out.ho.ptr h8).mono ?_); rintro e w1 ⟨rfl, hB1⟩; have HB0 := Lib.hid (HB0.out.trans (hB1.mono HB0.out.size)); have HBW := Lib.hid (HBW.out.trans (hB1.mono HST.out.hb)); have HST := Lib.hid (HST.out.fresh hB1); have HBB := Lib.hid (HBB.out.below hB1); have HR := Lib.hid (HR.out.below hB1); obtain ⟨r0, r1, r2, r3, r4, r5, r6⟩ := HR.out.cells; obtain ⟨b0, b1, b2, b3, b4, b5, b6⟩ := HBB.out.cells; dsimp only at b0 b1 b2 b3 b4 b5 b6; clear hB1)
    | (go_at_call 147; (with_reducible refine (piece_any base bb bo bp x.extend ext _ (HNE.out.below HBW.out) b0 HST.out.ho.ptr e8).mono ?_); rintro e w1 ⟨rfl, hB1⟩; have HB0 := Lib.hid (HB0.out.trans (hB1.mono HB0.out.size)); have HBW := Lib.hid (HBW.out.trans (hB1.mono HST.out.hb)); have HST := Lib.hid (HST.out.fresh hB1); have HBB := Lib.hid (HBB.out.below hB1); have HR := Lib.hid (HR.out.below hB1); obtain ⟨r0, r1, r2, r3, r4, r5, r6⟩ := HR.out.cells; obtain ⟨b0, b1, b2, b3, b4, b5, b6⟩ := HBB.out.cells; dsimp only at b0 b1 b2 b3 b4 b5 b6; clear hB1)
    | (go_at_call 148; (with_reducible refine (wrong_list bb bo ⟨true, true, number, bt, bh, false⟩ x.level rfl rfl hn1 hn4 h2 _ HBB.out).mono ?_); rintro e w3 ⟨rfl, rfl⟩; skip)
    | (go_at_call 149; (with_reducible refine (HST.out.take hs t HTS.out).mono ?_); rintro e w4 ⟨rfl, hO1, hF1⟩; rw [HO1.out] at hO1; have HBW := Lib.hid (outFr HBW.out hF1 HST.out.hb); have HBB := Lib.hid (HBB.out.fr hF1); have HR := Lib.hid (HR.out.fr hF1); have HST := Lib.hid (HST.out.turn hF1 hO1); obtain ⟨r0, r1, r2, r3, r4, r5, r6⟩ := HR.out.cells; obtain ⟨b0, b1, b2, b3, b4, b5, b6⟩ := HBB.out.cells; dsimp only at b0 b1 b2 b3 b4 b5 b6; clear hF1 hO1; have hB1 : Below w4.heap.size w4 (w4.alloc (.cells #[.string t, .int .i32 0, .int .i64 x.level, .string ext] 62)) := (Below.refl _ w4).alloc (Nat.le_refl _) _; have HBW := Lib.hid (HBW.out.trans (hB1.mono HST.out.hb)); have HST := Lib.hid (HST.out.fresh hB1); have HBB := Lib.hid (HBB.out.below hB1); have HR := Lib.hid (HR.out.below hB1); obtain ⟨r0, r1, r2, r3, r4, r5, r6⟩ := HR.out.cells; obtain ⟨b0, b1, b2, b3, b4, b5, b6⟩ := HBB.out.cells; dsimp only at b0 b1 b2 b3 b4 b5 b6; clear hB1; have HSEAT : Hid (BoxS (newS t ext x.level) 0 w4.heap.size (w4.alloc (.cells #[.string t, .int .i32 0, .int .i64 x.level, .string ext] 62))) := BoxS.new (newS t ext x.level) 0 w4; have hB1 : Below (w4.alloc (.cells #[.string t, .int .i32 0, .int .i64 x.level, .string ext] 62)).heap.size (w4.alloc (.cells #[.string t, .int .i32 0, .int .i64 x.level, .string ext] 62)) (w4.alloc (.cells #[.string t, .int .i32 0, .int .i64 x.level, .string ext] 62)).drew := (Below.refl _ _).drew; have HBW := Lib.hid (HBW.out.trans (hB1.mono HST.out.hb)); have HST := Lib.hid (HST.out.fresh hB1); have HBB := Lib.hid (HBB.out.below hB1); have HR := Lib.hid (HR.out.below hB1); obtain ⟨r0, r1, r2, r3, r4, r5, r6⟩ := HR.out.cells; obtain ⟨b0, b1, b2, b3, b4, b5, b6⟩ := HBB.out.cells; dsimp only at b0 b1 b2 b3 b4 b5 b6; clear hB1; have HSEAT := Lib.hid HSEAT.out.drew))
  go_region_held3 (fun W => W.cell? ⟨bb, 0, none⟩ = some (.pointer (some ⟨bo, 0, none⟩)) ∧ W.cell? ⟨bb, 3, none⟩ = some (.int .i32 number))
    (first | exact ⟨HBB.out.cells.1, HBB.out.cells.2.2.2.1⟩)
    (first | (go_at_call 67; (with_reducible refine (HST.out.seats hs1 number).mono ?_); rintro e w5 ⟨v5, rfl, hv5, hB1⟩; rw [HLL.out] at hv5; obtain ⟨a5, c5, rfl⟩ := own_slice hv5; clear hv5; have HSEAT := Lib.hid (HSEAT.out.below hB1); have HBW := Lib.hid (HBW.out.trans (hB1.mono HST.out.hb)); have HST := Lib.hid (HST.out.fresh hB1); have HBB := Lib.hid (HBB.out.below hB1); have HR := Lib.hid (HR.out.below hB1); obtain ⟨r0, r1, r2, r3, r4, r5, r6⟩ := HR.out.cells; obtain ⟨b0, b1, b2, b3, b4, b5, b6⟩ := HBB.out.cells; dsimp only at b0 b1 b2 b3 b4 b5 b6; clear hB1))
  rcases hlen.out with hc | ⟨hc, hd⟩ | ⟨hc, hd, he⟩
  all_goals
    go_wp2_with (fail)
    have hB1 := (Below.refl w5.heap.size w5).drew
    have HSEAT := Lib.hid (HSEAT.out.below hB1)
    have HBW := Lib.hid (HBW.out.trans (hB1.mono HST.out.hb)); have HST := Lib.hid (HST.out.fresh hB1); have HBB := Lib.hid (HBB.out.below hB1); have HR := Lib.hid (HR.out.below hB1); obtain ⟨r0, r1, r2, r3, r4, r5, r6⟩ := HR.out.cells; obtain ⟨b0, b1, b2, b3, b4, b5, b6⟩ := HBB.out.cells; dsimp only at b0 b1 b2 b3 b4 b5 b6; clear hB1
    go_region_held3 (fun W => W.cell? ⟨bb, 0, none⟩ = some (.pointer (some ⟨bo, 0, none⟩)) ∧ W.cell? ⟨bb, 3, none⟩ = some (.int .i32 number) ∧ W.cell? ⟨w4.heap.size, 0, none⟩ = some (.string t) ∧ W.cell? ⟨w4.heap.size, 1, none⟩ = some (.int .i32 0) ∧ W.cell? ⟨w4.heap.size, 2, none⟩ = some (.int .i64 x.level) ∧ W.cell? ⟨w4.heap.size, 3, none⟩ = some (.string ext))
      (first | exact ⟨HBB.out.cells.1, HBB.out.cells.2.2.2.1, HSEAT.out.cells⟩)
      (first | (go_at_call 150; (with_reducible refine (HST.out.putN hs1 number l.length t ext x.level HPI.out).mono ?_); rintro e w6 ⟨rfl, hO1, hF1⟩; have HSEAT := Lib.hid (HSEAT.out.fr hF1); have HBW := Lib.hid (outFr HBW.out hF1 HST.out.hb); have HBB := Lib.hid (HBB.out.fr hF1); have HR := Lib.hid (HR.out.fr hF1); have HST := Lib.hid (HST.out.turn hF1 hO1); obtain ⟨r0, r1, r2, r3, r4, r5, r6⟩ := HR.out.cells; obtain ⟨b0, b1, b2, b3, b4, b5, b6⟩ := HBB.out.cells; dsimp only at b0 b1 b2 b3 b4 b5 b6; clear hF1 hO1))
    obtain ⟨W', hW', e1, e2, e3⟩ := rel_end (b := ⟨true, true, number, bt, bh, false⟩) t HST.out.hbb HBB.out HST.out.ho
    have z4 := HBB.out.frozen 4
    have z2 := HBB.out.frozen 2
    have z6 := HBB.out.frozen 6
    have HE := Lib.hid (show IsOrd base W' bo bp _ ∧ IsB W' bb bo ⟨true, false, number, t, bh, false⟩ ∧ Below base w W' from ⟨e2, e1, HBW.out.trans e3⟩)
    have HW := Lib.hid hW'
    clear e1 e2 e3 hW'
    go_wp2
    go_ret
    rw [← HW.out]
    exact ⟨rfl, HE.out⟩
end Go.Proofs.YtakbacfhcllioaaGreatDoor
