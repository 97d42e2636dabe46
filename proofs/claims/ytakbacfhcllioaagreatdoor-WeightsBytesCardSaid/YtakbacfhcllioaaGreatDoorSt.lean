/- (*Order).set. -/
import Derived.Test.YtakbacfhcllioaaGreatDoorFd
namespace Go.Proofs.YtakbacfhcllioaaGreatDoor
open Go.RowKit

def insT (l : List Int) (r : Int) : List Int := if r ∈ l then l else l.take (bsI l r) ++ r :: l.drop (bsI l r)
def putL (f : Int → Option (List Seat)) (r : Int) (l : List Seat) : Int → Option (List Seat) := if l = [] then upd f r none else upd f r (some l)
def setM (o : OM) (r : Int) (l : List Seat) : OM := { touched := insT o.touched r, lists := putL o.lists r l, whr := o.whr }

theorem bsI_le (l : List Int) (r : Int) : bsI l r ≤ l.length := (List.takeWhile_sublist _).length_le
theorem take_bsI (l : List Int) (r : Int) : l.take (bsI l r) = l.takeWhile (fun x => decide (x < r)) := by
  unfold bsI
  conv => lhs; arg 2; rw [← List.takeWhile_append_dropWhile (p := fun x => decide (x < r)) (l := l)]
  rw [List.take_left' rfl]
theorem drop_bsI (l : List Int) (r : Int) : l.drop (bsI l r) = l.dropWhile (fun x => decide (x < r)) := by
  unfold bsI
  conv => lhs; arg 2; rw [← List.takeWhile_append_dropWhile (p := fun x => decide (x < r)) (l := l)]
  rw [List.drop_left' rfl]

theorem insT_rising {l : List Int} {r : Int} (h : l.Pairwise (· < ·)) : (insT l r).Pairwise (· < ·) := by
  unfold insT
  split
  · exact h
  · next hr =>
    rw [take_bsI, drop_bsI]
    have hsplit : (l.takeWhile (fun x => decide (x < r)) ++ l.dropWhile (fun x => decide (x < r))).Pairwise (· < ·) := by rw [List.takeWhile_append_dropWhile]; exact h
    obtain ⟨p1, p2, p3⟩ := List.pairwise_append.1 hsplit
    have ht : ∀ x ∈ l.takeWhile (fun x => decide (x < r)), x < r := fun x hx => by
      have := List.all_eq_true.1 (List.all_takeWhile (p := fun x => decide (x < r)) (l := l)) x hx
      simpa using this
    have hd : ∀ x ∈ l.dropWhile (fun x => decide (x < r)), r < x := by
      cases hq : l.dropWhile (fun x => decide (x < r)) with
      | nil => simp
      | cons y ys =>
        have hy : ¬ y < r := by
          have := List.head?_dropWhile_not (fun x => decide (x < r)) l
          rw [hq] at this
          simpa using this
        have hyr : y ≠ r := fun e => hr (by rw [← e]; exact (List.dropWhile_sublist _).subset (by rw [hq]; simp))
        rw [hq] at p2
        intro x hx
        rcases List.mem_cons.1 hx with rfl | hx
        · omega
        · have := (List.pairwise_cons.1 p2).1 x hx; omega
    refine List.pairwise_append.2 ⟨p1, List.pairwise_cons.2 ⟨hd, p2⟩, fun a ha b hb => ?_⟩
    rcases List.mem_cons.1 hb with rfl | hb
    · exact ht a ha
    · have := ht a ha; have := hd b hb; omega

theorem ord_lists {base : Nat} {W : World} {bo bp lr wr : Nat} {tv : Value} {o : OM} (h : OrdAt base W bo bp lr wr tv o) {es' : Array MapEntry} {c' : Nat} {f : Int → Option (List Seat)}
    (hr : Rep intK (fun v l => OwnS W base v l) es'.toList f) : OrdAt base (setMap W lr es' c') bo bp lr wr tv { o with lists := f } := by
  obtain ⟨h1, h2, h3, h4, h5, ⟨es1, c1, h6, h7⟩, ⟨es2, c2, h8, h9⟩, h10, h11⟩ := h
  have hk : ∀ k, k ≠ lr → (setMap W lr es' c').heap[k]? = W.heap[k]? := fun k hk => setMap_only.block k hk
  have hcells : ∀ (e : TypeId) (g : Nat) (cur : Array Value), W.heap[g]? = some (Obj.cells cur e (0, 0)) → (setMap W lr es' c').heap[g]? = W.heap[g]? := fun e g cur hg => hk g (fun q => by rw [q, h6] at hg; cases hg)
  refine ⟨h1, h2, h3, h4, (hk bo (fun q => by rw [q, h6] at h5; cases h5)).trans h5, ⟨es', c', setMap_same h6, hr.mono fun v l hv => own_seg hv (hcells 62)⟩, ⟨es2, c2, (hk wr (Ne.symm h4)).trans h8, h9⟩, own_seg h10 (hcells 21), h11⟩

theorem ord_whr {base : Nat} {W : World} {bo bp lr wr : Nat} {tv : Value} {o : OM} (h : OrdAt base W bo bp lr wr tv o) {es' : Array MapEntry} {c' : Nat} {f : ByteArray → Option Int}
    (hr : Rep strK (fun v r => v = .int .i32 r) es'.toList f) : OrdAt base (setMap W wr es' c') bo bp lr wr tv { o with whr := f } := by
  obtain ⟨h1, h2, h3, h4, h5, ⟨es1, c1, h6, h7⟩, ⟨es2, c2, h8, h9⟩, h10, h11⟩ := h
  have hk : ∀ k, k ≠ wr → (setMap W wr es' c').heap[k]? = W.heap[k]? := fun k hk => setMap_only.block k hk
  have hcells : ∀ (e : TypeId) (g : Nat) (cur : Array Value), W.heap[g]? = some (Obj.cells cur e (0, 0)) → (setMap W wr es' c').heap[g]? = W.heap[g]? := fun e g cur hg => hk g (fun q => by rw [q, h8] at hg; cases hg)
  refine ⟨h1, h2, h3, h4, (hk bo (fun q => by rw [q, h8] at h5; cases h5)).trans h5, ⟨es1, c1, (hk lr h4).trans h6, h7.mono fun v l hv => own_seg hv (hcells 62)⟩, ⟨es', c', setMap_same h8, hr⟩, own_seg h10 (hcells 21), h11⟩

theorem Fr.map {base : Nat} {W : World} {r : Nat} {es es' : Array MapEntry} {c c' : Nat} (hb : base ≤ r) (h : W.heap[r]? = some (.map es c)) : Fr base W (setMap W r es' c') :=
  ⟨rfl, rfl, rfl, by simp [setMap], fun k hk _ => setMap_only.block k (by omega), fun k cs t fz hk _ _ => setMap_only.block k (fun q => by rw [q, h] at hk; cases hk)⟩

/-- An append or an insertion at the touched lists turns no other row. -/
theorem Fr.gf {base : Nat} {w w' : World} {tv v' : Value} {n : Nat} {xs : List Value} (h : GF w tv w' v') (ho : w.ownsRow base 21 1 tv n xs) : Fr base w w' := by
  have hlow := own_low ho
  refine ⟨h.grown.os, h.grown.tape, h.grown.output, h.grown.size, fun k hk h2 => h.grown.block k h2 (fun e => by have := hlow k e.symm; omega), fun k cs t fz hk h1 h2 => h.grown.block k (Array.getElem?_eq_some_iff.1 hk).1 (fun e => ?_)⟩
  rcases ho.2 with ⟨rfl, _⟩ | ⟨g, cap, cur, rfl, _, hg, _⟩
  · cases e
  · cases e; rw [hg] at hk; cases hk; exact h2 rfl

theorem ord_insert {base : Nat} {w w' : World} {bo bp lr wr : Nat} {tv v' : Value} {o : OM} {l : List Int} (h : OrdAt base w bo bp lr wr tv o) (_hb : base ≤ w.heap.size) (hg : GF w tv w' v') (ho : OwnR w' base v' l) (hl : l.Pairwise (· < ·)) :
    ∃ cs, w'.heap[bo]? = some (.cells cs 135 (0, 0)) ∧ cs.size = 4 ∧ OrdAt base (w'.setCell ⟨bo, 2, none⟩ v') bo bp lr wr v' { o with touched := l } ∧ Fr base w (w'.setCell ⟨bo, 2, none⟩ v') := by
  obtain ⟨h1, h2, h3, h4, h5, ⟨es1, c1, h6, h7⟩, ⟨es2, c2, h8, h9⟩, h10, h11⟩ := h
  have hf : Fr base w w' := Fr.gf hg h10
  have hne : ∀ {k : Nat} {x : Obj}, w.heap[k]? = some x → (∀ cur, x ≠ .cells cur 21 (0, 0)) → w'.heap[k]? = some x := fun {k x} hk hx => (hg.grown.block k (Array.getElem?_eq_some_iff.1 hk).1 (fun e => by
    rcases h10.2 with ⟨rfl, _⟩ | ⟨g, cap, cur, rfl, _, hg', _⟩
    · cases e
    · cases e; rw [hg'] at hk; cases hk; exact hx _ rfl)).trans hk
  have hbo := hne h5 (fun cur e => by cases e)
  have hlt : bo < w'.heap.size := (Array.getElem?_eq_some_iff.1 hbo).1
  have hs : ∀ k, k ≠ bo → (w'.setCell ⟨bo, 2, none⟩ v').heap[k]? = w'.heap[k]? := fun k hk => Below.heap_setCell _ _ _ _ (fun e => hk (by simpa using e))
  have hown : ∀ (e : TypeId), e ≠ 135 → ∀ (g : Nat) (cur : Array Value), w'.heap[g]? = some (Obj.cells cur e (0, 0)) → (w'.setCell ⟨bo, 2, none⟩ v').heap[g]? = w'.heap[g]? := fun e he g cur hg => hs g (fun q => by rw [q, hbo] at hg; cases hg; exact he rfl)
  refine ⟨_, hbo, rfl, ⟨h1, h2, h3, h4, ?_, ⟨es1, c1, (hs lr (fun q => by rw [q, h5] at h6; cases h6)).trans (hne h6 (fun cur e => by cases e)), h7.mono fun v l hv => own_seg (OwnS.fr hv hf) (hown 62 (by decide))⟩,
    ⟨es2, c2, (hs wr (fun q => by rw [q, h5] at h8; cases h8)).trans (hne h8 (fun cur e => by cases e)), h9⟩, own_seg ho (hown 21 (by decide)), hl⟩, hf.trans ⟨rfl, rfl, rfl, by simp [World.setCell], fun k hk _ => hs k (by omega), fun k cs t fz hk ht _ => hs k (fun q => by rw [q, hbo] at hk; cases hk; exact ht rfl)⟩⟩
  · exact setCell_at hbo 2 v'
/-- Leaves the order so. -/
def Ords (base bo bp : Nat) (o : OM) (w : World) (e : Ending) (w' : World) : Prop := e = .returned (.tuple #[]) ∧ IsOrd base w' bo bp o ∧ Fr base w w'

theorem set_after {base : Nat} {W : World} {bo bp lr wr : Nat} {tv v : Value} {o : OM} {l : List Seat} (h : OrdAt base W bo bp lr wr tv o) (hv : OwnS W base v l) (r : Int) :
    ∃ W', Hid (IsOrd base W' bo bp { o with lists := putL o.lists r l }) ∧ Hid (Fr base W W') ∧
      (l = [] → (Builtin.delete_ #[132, 21] 0 #[.map (some lr), .int .i32 r]).run Tryz.prog W = .ok (.tuple #[]) W') ∧
      (l ≠ [] → (Instr.mapUpdate 132 (.map (some lr)) (.int .i32 r) v).run Tryz.prog W = .ok () W') := by
  have hh := h
  obtain ⟨h1, h2, h3, h4, h5, ⟨es1, c1, h6, h7⟩, ⟨es2, c2, h8, h9⟩, h10, h11⟩ := h
  by_cases hl : l = []
  · obtain ⟨es', c', hrun, hrep⟩ := rep_delete (P := Tryz.prog) intK_inj intK_key Tryz.underlying132 Tryz.underlying21 h6 h7 r 0 21
    refine ⟨setMap W lr es' c', show IsOrd _ _ _ _ _ from ⟨lr, wr, tv, ord_lists hh (by unfold putL; rw [if_pos hl]; exact hrep)⟩, Fr.map (base := base) h2 h6, fun _ => hrun, fun q => absurd hl q⟩
  · obtain ⟨es', c', hrun, hrep⟩ := rep_update (P := Tryz.prog) intK_inj intK_key Tryz.underlying132 Tryz.underlying21 h6 h7 r v l hv
    refine ⟨setMap W lr es' c', show IsOrd _ _ _ _ _ from ⟨lr, wr, tv, ord_lists hh (by unfold putL; rw [if_neg hl]; exact hrep)⟩, Fr.map (base := base) h2 h6, fun q => absurd q hl, fun _ => hrun⟩

set_option maxRecDepth 100000 in
set_option maxHeartbeats 4000000 in
theorem set_in (base bo bp : Nat) (o : OM) (ht : o.touched.length ≤ 1099511627776) (r : Int) (hin : r ∈ o.touched) (v : Value) (l : List Seat) (w : World) (ho : IsOrd base w bo bp o) (hv : OwnS w base v l) :
    Calls Tryz.prog 189 #[.pointer (some ⟨bo, 0, none⟩), .int .i32 r, v] w (Ords base bo bp (setM o r l) w) := by
  obtain ⟨lr, wr, tv, ho⟩ := ho
  have hod := ho
  obtain ⟨h1, h2, h3, h4, h5, ⟨es1, c1, h6, h7⟩, ⟨es2, c2, h8, h9⟩, h10, h11⟩ := ho
  have k1 : w.cell? ⟨bo, 1, none⟩ = some (.map (some lr)) := by rw [cell_at h5]; rfl
  have k2 : w.cell? ⟨bo, 2, none⟩ = some tv := by rw [cell_at h5]; rfl
  have HB := Lib.hid (bs_any w.heap.size tv o.touched r w h10.runes h11 ht)
  have hd : decide (r ∈ o.touched) = true := by simpa using hin
  rw [hd] at HB
  rw [show setM o r l = { o with lists := putL o.lists r l } by unfold setM insT; rw [if_pos hin]]
  obtain ⟨W', HO, HF, hdel, hput⟩ := set_after hod hv r
  obtain ⟨a, c, rfl⟩ := own_slice hv
  clear h5 h6 h7 h8 h9 h10 h11 hod hin hd hv
  by_cases hl : l = []
  · have hrun := hdel hl
    have hl0 : l.length = 0 := by rw [hl]; rfl
    have hl1 : ((l.length : Int) == 0) = true := by simp [hl0]
    clear hdel hput hl
    go_enter Tryz.func189, Tryz.ntmps189
    go_wp2_with (go_at_call 114; refine HB.out.mono ?_; rintro e w1 ⟨rfl, rfl⟩)
    refine bodyPost_ret (results_none rfl _ _ _) rfl ?_
    exact ⟨rfl, HO.out, HF.out⟩
  · have hrun := hput hl
    have hl0 : ¬ (l.length = 0) := fun q => hl (List.eq_nil_of_length_eq_zero q)
    have hl1 : ((l.length : Int) == 0) = false := by simp; omega
    clear hdel hput hl
    go_enter Tryz.func189, Tryz.ntmps189
    go_wp2_with (go_at_call 114; refine HB.out.mono ?_; rintro e w1 ⟨rfl, rfl⟩)
    go_end0
    exact ⟨rfl, HO.out, HF.out⟩
set_option maxRecDepth 100000 in
set_option maxHeartbeats 4000000 in
theorem set_out (base bo bp : Nat) (o : OM) (ht : o.touched.length ≤ 1099511627776) (r : Int) (hin : r ∉ o.touched) (v : Value) (l : List Seat) (w : World) (hb : base ≤ w.heap.size) (ho : IsOrd base w bo bp o) (hv : OwnS w base v l) :
    Calls Tryz.prog 189 #[.pointer (some ⟨bo, 0, none⟩), .int .i32 r, v] w (Ords base bo bp (setM o r l) w) := by
  obtain ⟨lr, wr, tv, ho⟩ := ho
  have hod := ho
  obtain ⟨h1, h2, h3, h4, h5, ⟨es1, c1, h6, h7⟩, ⟨es2, c2, h8, h9⟩, h10, h11⟩ := ho
  have k2 : w.cell? ⟨bo, 2, none⟩ = some tv := by rw [cell_at h5]; rfl
  have HB := Lib.hid (bs_any w.heap.size tv o.touched r w h10.runes h11 ht)
  have hd : decide (r ∈ o.touched) = false := by simpa using hin
  rw [hd] at HB
  obtain ⟨i, hi⟩ : ∃ i, bsI o.touched r = i := ⟨_, rfl⟩
  have hil : i ≤ o.touched.length := by rw [← hi]; exact bsI_le _ _
  rw [hi] at HB
  have e1 : insT o.touched r = o.touched.take i ++ r :: o.touched.drop i := by unfold insT; rw [if_neg hin, hi]
  have hB0 : Below w.heap.size w (w.alloc (.cells #[.int .i32 r] 21)) := (Below.refl _ w).alloc (Nat.le_refl _) _
  have hod0 := hod.fresh hB0
  have hfr0 : Fr base w (w.alloc (.cells #[.int .i32 r] 21)) := Fr.fresh hB0
  have ho0 : (w.alloc (.cells #[.int .i32 r] 21)).ownsRow base 21 1 tv (i + (o.touched.length - i)) ((o.touched.take i).map (Value.int .i32) ++ (o.touched.drop i).map (Value.int .i32)) := by
    rw [← List.map_append, List.take_append_drop, show i + (o.touched.length - i) = o.touched.length by omega]
    exact hod0.2.2.2.2.2.2.2.1
  have hbb : base ≤ (w.alloc (.cells #[.int .i32 r] 21)).heap.size := Nat.le_trans hb hB0.size
  have hii := (insR_any base tv i (o.touched.length - i) ((o.touched.take i).map (Value.int .i32)) ((o.touched.drop i).map (Value.int .i32)) (w.alloc (.cells #[.int .i32 r] 21)) ho0 (by simp; omega) (by simp) hbb (by omega)
    (runes_one _) w.heap.size (fun k hk e => by have := own_lt h10 k hk; omega) [.int .i32 r] rfl (hp_new w _) (by simp [Value.oneCell']))
  have hlen1 : i + (o.touched.length - i) + 1 = o.touched.length + 1 := by omega
  rw [hlen1] at hii
  have HI := Lib.hid hii
  clear hii
  -- what stands behind the insertion and the store
  have hafter : Hid (∀ (v1 : Value) (w2 : World), w2.ownsRow base 21 1 v1 (o.touched.length + 1) ((o.touched.take i).map (Value.int .i32) ++ ([.int .i32 r] ++ (o.touched.drop i).map (Value.int .i32))) → GF (w.alloc (.cells #[.int .i32 r] 21)) tv w2 v1 →
      ∃ W', (∃ u, w2.cell? ⟨bo, 2, none⟩ = some u) ∧ w2.frozen? ⟨bo, 2, none⟩ = false ∧ (w2.setCell ⟨bo, 2, none⟩ v1).cell? ⟨bo, 1, none⟩ = some (.map (some lr)) ∧ Hid (IsOrd base W' bo bp (setM o r l)) ∧ Hid (Fr base w W') ∧
      (l = [] → (Builtin.delete_ #[132, 21] 0 #[.map (some lr), .int .i32 r]).run Tryz.prog (w2.setCell ⟨bo, 2, none⟩ v1) = .ok (.tuple #[]) W') ∧
      (l ≠ [] → (Instr.mapUpdate 132 (.map (some lr)) (.int .i32 r) v).run Tryz.prog (w2.setCell ⟨bo, 2, none⟩ v1) = .ok () W')) := by
    show ∀ (v1 : Value) (w2 : World), _
    intro v1 w2 hown hgf
    have hor : OwnR w2 base v1 (insT o.touched r) := by
      unfold OwnR
      rw [e1, show (o.touched.take i ++ r :: o.touched.drop i).length = o.touched.length + 1 by simp; omega, List.map_append, List.map_cons]
      exact hown
    obtain ⟨cs, hc1, hc2, ho3, hf3⟩ := ord_insert hod0 hbb hgf hor (insT_rising h11)
    have hv3 : OwnS (w2.setCell ⟨bo, 2, none⟩ v1) base v l := (hv.fresh hB0).fr hf3
    have hlr := ho3.2.2.2.2.1
    obtain ⟨W', a1, a2, a3, a4⟩ := set_after ho3 hv3 r
    refine ⟨W', ⟨cs[2], by rw [cell_at hc1]; simp [hc2]⟩, ?_, by rw [cell_at hlr]; rfl, a1, (hfr0.trans hf3).trans a2.out, a3, a4⟩
    simp [World.frozen?, hc1]
  obtain ⟨a, c, rfl⟩ := own_slice hv
  clear h5 h6 h7 h8 h9 h10 h11 hod hin hd hv hod0 hfr0 ho0 e1 hB0
  by_cases hl : l = []
  · have hl0 : l.length = 0 := by rw [hl]; rfl
    have hl1 : ((l.length : Int) == 0) = true := by simp [hl0]
    go_enter Tryz.func189, Tryz.ntmps189
    go_wp2_with (first
      | (go_at_call 114; refine HB.out.mono ?_; rintro e w1 ⟨rfl, rfl⟩)
      | (go_at_call 226; refine HI.out.mono ?_; rintro e w2 ⟨v1, rfl, hown, hgf⟩; obtain ⟨a1, c1, rfl⟩ := own_slice hown; obtain ⟨W', ⟨u, hu⟩, hfz, hk1, HO, HF, hdel, -⟩ := hafter.out _ w2 hown hgf; have hrun := hdel hl; clear hdel hown hgf))
    refine bodyPost_ret (results_none rfl _ _ _) rfl ?_
    exact ⟨rfl, HO.out, HF.out⟩
  · have hl0 : ¬ (l.length = 0) := fun q => hl (List.eq_nil_of_length_eq_zero q)
    have hl1 : ((l.length : Int) == 0) = false := by simp; omega
    go_enter Tryz.func189, Tryz.ntmps189
    go_wp2_with (first
      | (go_at_call 114; refine HB.out.mono ?_; rintro e w1 ⟨rfl, rfl⟩)
      | (go_at_call 226; refine HI.out.mono ?_; rintro e w2 ⟨v1, rfl, hown, hgf⟩; obtain ⟨a1, c1, rfl⟩ := own_slice hown; obtain ⟨W', ⟨u, hu⟩, hfz, hk1, HO, HF, -, hput⟩ := hafter.out _ w2 hown hgf; have hrun := hput hl; clear hput hown hgf))
    go_end0
    exact ⟨rfl, HO.out, HF.out⟩
theorem set_any (base bo bp : Nat) (o : OM) (ht : o.touched.length ≤ 1099511627776) (r : Int) (v : Value) (l : List Seat) (w : World) (hb : base ≤ w.heap.size) (ho : IsOrd base w bo bp o) (hv : OwnS w base v l) :
    Calls Tryz.prog 189 #[.pointer (some ⟨bo, 0, none⟩), .int .i32 r, v] w (Ords base bo bp (setM o r l) w) := by
  by_cases hin : r ∈ o.touched
  · exact set_in base bo bp o ht r hin v l w ho hv
  · exact set_out base bo bp o ht r hin v l w hb ho hv
end Go.Proofs.YtakbacfhcllioaaGreatDoor
