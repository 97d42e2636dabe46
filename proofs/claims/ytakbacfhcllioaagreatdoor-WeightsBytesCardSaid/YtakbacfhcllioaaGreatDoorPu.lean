/- (*Order).put. -/
import Derived.Test.YtakbacfhcllioaaGreatDoorSt
import Derived.Deep.DrawnRows
import Derived.Deep.RegionHeld3
namespace Go.Proofs.YtakbacfhcllioaaGreatDoor
open Go.RowKit
attribute [local go_sem ↓] Go.wp_at_zero Go.wp_at_succ

def putM (m : PM) (o : OM) (r : Int) (at' : Nat) (s : Seat) : OM :=
  { setM o r ((seatsM m o r).take at' ++ { s with list := r } :: (seatsM m o r).drop at') with whr := upd o.whr s.text (some r) }

def SeatsB (base b2 : Nat) (w0 W : World) (l : List Seat) (e : Ending) (w' : World) : Prop := ∃ v', e = .returned v' ∧ OwnS w' base v' l ∧ Below w0.heap.size w0 w' ∧ Below b2 W w'

/-- The boxed seat. -/
def BoxS (s : Seat) (r : Int) (b : Nat) (W : World) : Prop := W.heap[b]? = some (.cells #[.string s.text, .int .i32 r, .int .i64 s.level, .string s.ext] 62 (0, 0))
theorem BoxS.cells {s : Seat} {r : Int} {b : Nat} {W : World} (h : BoxS s r b W) : W.cell? ⟨b, 0, none⟩ = some (.string s.text) ∧ W.cell? ⟨b, 1, none⟩ = some (.int .i32 r) ∧ W.cell? ⟨b, 2, none⟩ = some (.int .i64 s.level) ∧ W.cell? ⟨b, 3, none⟩ = some (.string s.ext) := by
  unfold BoxS at h
  refine ⟨?_, ?_, ?_, ?_⟩ <;> (rw [cell_at h]; rfl)
theorem BoxS.below {s : Seat} {r : Int} {b : Nat} {W W' : World} (h : BoxS s r b W) (hb : Below W.heap.size W W') : BoxS s r b W' :=
  (hb.block b (Array.getElem?_eq_some_iff.1 h).1).trans h
theorem BoxS.belowB {s : Seat} {r : Int} {b B : Nat} {W W' : World} (h : BoxS s r b W) (hB : b < B) (hb : Below B W W') : BoxS s r b W' := (hb.block b hB).trans h
theorem BoxS.fr {s : Seat} {r : Int} {b base : Nat} {W W' : World} (h : BoxS s r b W) (hb : Fr base W W') : BoxS s r b W' := (hb.row _ _ _ _ h (by decide) (by decide)).trans h
theorem BoxS.lt {s : Seat} {r : Int} {b : Nat} {W : World} (h : BoxS s r b W) : b < W.heap.size := (Array.getElem?_eq_some_iff.1 h).1
theorem BoxS.drew {s : Seat} {r : Int} {b : Nat} {W : World} (h : BoxS s r b W) : BoxS s r b W.drew := h
theorem BoxS.alloc {s : Seat} {r : Int} {b : Nat} {W : World} (h : BoxS s r b W) (x : Obj) : BoxS s r b (W.alloc x) := h.below ((Below.refl _ W).alloc (Nat.le_refl _) _)
theorem BoxS.new (s : Seat) (r : Int) (W : World) : BoxS s r W.heap.size (W.alloc (.cells #[.string s.text, .int .i32 r, .int .i64 s.level, .string s.ext] 62)) := hp_new W _

theorem BoxS.new1 (s : Seat) (r : Int) (W : World) (x : Obj) : BoxS s r (W.heap.size + 1) ((W.alloc x).alloc (.cells #[.string s.text, .int .i32 r, .int .i64 s.level, .string s.ext] 62)).drew := by
  have h := (BoxS.new s r (W.alloc x)).drew
  rw [World.size_alloc] at h
  exact h

theorem put_after (base bo bp : Nat) {o : OM} (t : ByteArray) (r : Int) {w : World} (h : IsOrd base w bo bp o) :
    ∃ W', Hid (IsOrd base W' bo bp { o with whr := upd o.whr t (some r) }) ∧ Hid (Fr base w W') ∧ ∃ wr, w.drew.cell? ⟨bo, 3, none⟩ = some (.map (some wr)) ∧
      (Instr.mapUpdate 133 (.map (some wr)) (.string t) (.int .i32 r)).run Tryz.prog w.drew = .ok () W' := by
  obtain ⟨lr, wr, tv, h⟩ := h.fresh (Below.refl w.heap.size w).drew
  have hh := h
  obtain ⟨h1, h2, h3, h4, h5, _, ⟨es2, c2, h8, h9⟩, h10, h11⟩ := h
  obtain ⟨es', c', hrun, hrep⟩ := rep_update (P := Tryz.prog) strK_inj strK_key Tryz.underlying133 Tryz.underlying9 h8 h9 t (.int .i32 r) r rfl
  exact ⟨setMap w.drew wr es' c', show IsOrd _ _ _ _ _ from ⟨lr, wr, tv, ord_whr hh hrep⟩, show Fr _ _ _ from (Fr.fresh (Below.refl w.heap.size w).drew).trans (Fr.map h3 h8), wr, by rw [cell_at h5]; rfl, hrun⟩

theorem ins_step (base b2 : Nat) {w0 W : World} {v2 : Value} {l : List Seat} (hW : Below w0.heap.size w0 W) (hb : base ≤ w0.heap.size) (h2 : w0.heap.size ≤ b2) (h3 : b2 ≤ W.heap.size) (hv : OwnS W b2 v2 l) (i : Nat) (hi : i ≤ l.length) (hl : l.length ≤ 1099511627776)
    (s : Seat) (r : Int) (vb : Nat) (hvb : BoxS s r vb W) (hne : ∀ k, v2.ownBlock = some k → vb ≠ k) :
    Calls Tryz.prog 191 #[v2, .int .i64 i, .slice (some ⟨vb, 0, none⟩) 1 1] W (SeatsB base b2 w0 W (l.take i ++ { s with list := r } :: l.drop i)) := by
  refine (insS_seat b2 v2 l i hi { s with list := r } W hv h3 hl vb hne hvb).mono ?_
  rintro e w' ⟨v', rfl, ho, hg⟩
  exact ⟨v', rfl, own_base (Nat.le_trans hb h2) ho, hW.trans (hg.below hW.size (fun k hk => Nat.le_trans h2 (own_low hv k hk))), hg.below h3 (own_low hv)⟩

theorem boxC {W : World} {b : Nat} {cs : Array Value} {t : TypeId} (h : W.heap[b]? = some (.cells cs t (0, 0))) (j : Nat) (u : Value) (hj : cs[j]? = some u) : W.cell? ⟨b, j, none⟩ = some u := by
  rw [cell_at h]; exact hj

set_option maxRecDepth 100000 in
set_option maxHeartbeats 4000000 in
theorem put_any (base n₀ bo bp : Nat) (m : PM) (o : OM) (hsm : Small m o) (r : Int) (i : Nat) (s : Seat) (hi : i ≤ (seatsM m o r).length) (w : World) (hn : n₀ ≤ w.heap.size) (hb : base ≤ w.heap.size)
    (hp : IsProps n₀ w bp m) (ho : IsOrd base w bo bp o) :
    Calls Tryz.prog 150 #[.pointer (some ⟨bo, 0, none⟩), .int .i32 r, .int .i64 i, .agg #[.string s.text, .int .i32 s.list, .int .i64 s.level, .string s.ext]] w (Ords base bo bp (putM m o r i s) w) := by
  obtain ⟨l, hl⟩ : ∃ l, seatsM m o r = l := ⟨_, rfl⟩
  have hi' : i ≤ l.length := by rw [← hl]; exact hi
  have hll : l.length ≤ 1099511627776 := by rw [← hl]; exact hsm.seats r
  have hseats : Hid (∀ W, Below w.heap.size w W → Calls Tryz.prog 67 #[.pointer (some ⟨bo, 0, none⟩), .int .i32 r] W (SeatsAt base W l)) :=
    show ∀ W, Below w.heap.size w W → _ from fun W hW => hl ▸ seats_any base n₀ bo bp m hsm.decomps o hsm.touched r W (Nat.le_trans hn hW.size) (Nat.le_trans hb hW.size) (hp.below (hW.mono hn)) (ho.fresh hW)
  have hset : Hid (∀ v k W, Below w.heap.size w W → OwnS W base v k → Calls Tryz.prog 189 #[.pointer (some ⟨bo, 0, none⟩), .int .i32 r, v] W (Ords base bo bp (setM o r k) W)) :=
    show ∀ v k W, Below w.heap.size w W → _ from fun v k W hW hv => set_any base bo bp o hsm.touched r v k W (Nat.le_trans hb hW.size) (ho.fresh hW) hv
  have hB1 : Below w.heap.size w (w.alloc (.cells #[.string s.text, .int .i32 r, .int .i64 s.level, .string s.ext] 62)).drew := ((Below.refl _ w).alloc (Nat.le_refl _) _).drew
  have hB1b : Below w.heap.size w ((w.alloc (.cells #[.string s.text, .int .i32 r, .int .i64 s.level, .string s.ext] 62)).alloc (.cells #[.string s.text, .int .i32 r, .int .i64 s.level, .string s.ext] 62)).drew := ((((Below.refl _ w).alloc (Nat.le_refl _) _).alloc (by simp) _)).drew
  have hbx : (w.alloc (.cells #[.string s.text, .int .i32 r, .int .i64 s.level, .string s.ext] 62)).drew.heap[w.heap.size]? = some (.cells #[.string s.text, .int .i32 r, .int .i64 s.level, .string s.ext] 62 (0, 0)) := hp_new w _
  have hbl : w.heap.size < (w.alloc (.cells #[.string s.text, .int .i32 r, .int .i64 s.level, .string s.ext] 62)).drew.heap.size := (Array.getElem?_eq_some_iff.1 hbx).1
  have HBX := Lib.hid hbx
  clear hbx
  have HB1 := Lib.hid hB1
  have HB1b := Lib.hid hB1b
  have HX := Lib.hid ho
  clear hB1 hB1b hp ho hsm
  have HL := Lib.hid (show putM m o r i s = { setM o r (l.take i ++ { s with list := r } :: l.drop i) with whr := upd o.whr s.text (some r) } by unfold putM; rw [hl])
  have HBX : Hid (BoxS s r w.heap.size _) := (BoxS.new s r w).drew
  have hc0 := HBX.out.cells
  obtain ⟨p0, p1, p2, p3⟩ := hc0
  go_enter Tryz.func150, Tryz.ntmps150
  go_wp2_with (fail)
  go_region_held3 (fun W => W.cell? ⟨w.heap.size, 0, none⟩ = some (.string s.text) ∧ W.cell? ⟨w.heap.size, 1, none⟩ = some (.int .i32 r) ∧ W.cell? ⟨w.heap.size, 2, none⟩ = some (.int .i64 s.level) ∧ W.cell? ⟨w.heap.size, 3, none⟩ = some (.string s.ext))
    (first | exact (HBX4.out).cells | exact (HBX3.out).cells | exact (HBX2.out).cells | exact (HBX2.out.alloc _).cells | exact (HBX1.out).cells | exact (HBX1.out.alloc _).cells | exact (((BoxS.new s r w).alloc _).drew).cells | exact (HBX.out).cells)
    (first
    | (go_at_call 67; first
        | ((with_reducible show Calls _ _ _ (World.drew (World.alloc w _)) _); ((with_reducible refine (hseats.out _ HB1.out).mono ?_); rintro e w1 ⟨v1, rfl, hv1, hB2⟩; have HW1 := Lib.hid (HB1.out.trans (hB2.mono HB1.out.size)); have HBX1 := Lib.hid (HBX.out.below hB2); clear hB2; obtain ⟨a1, c1, rfl⟩ := own_slice hv1; have hv1 := Lib.hid hv1))
        | ((with_reducible show Calls _ _ _ (World.drew (World.alloc (World.alloc w _) _)) _); ((with_reducible refine (hseats.out _ HB1b.out).mono ?_); rintro e w1 ⟨v1, rfl, hv1, hB2⟩; have HW1 := Lib.hid (HB1b.out.trans (hB2.mono HB1b.out.size)); have HBX1 := Lib.hid (((BoxS.new s r w).alloc _).drew.below hB2); have HBB := Lib.hid (BoxS.below (s := s) (r := r) (b := w.heap.size + 1) (BoxS.new1 s r w _) hB2); clear hB2; obtain ⟨a1, c1, rfl⟩ := own_slice hv1; have hv1 := Lib.hid hv1)))
    | (go_at_call 66; first
        | ((with_reducible show Calls _ _ _ (World.alloc w1 _) _); ((with_reducible refine (clone_s base _ l hll _ (hv1.out.fresh ((Below.refl _ w1).alloc (Nat.le_refl _) _))).mono ?_); rintro e w2 ⟨v2, rfl, hv2, hB3⟩; have HBX2 := Lib.hid ((HBX1.out.alloc _).below hB3); have HVB := Lib.hid (BoxS.below (s := s) (r := r) (b := w1.heap.size) (BoxS.new s r _) hB3); have HW2 := Lib.hid ((HW1.out.alloc HW1.out.size _).trans (hB3.mono (HW1.out.alloc HW1.out.size _).size)); have HSZ := Lib.hid hB3.size; have HLO := Lib.hid (own_low hv2); obtain ⟨a2, c2, rfl⟩ := own_slice hv2; have hv2 := Lib.hid hv2; clear hB3))
        | (((with_reducible refine (clone_s base _ l hll _ hv1.out).mono ?_); rintro e w2 ⟨v2, rfl, hv2, hB3⟩; have HBX2 := Lib.hid (HBX1.out.below hB3); have HW2 := Lib.hid (HW1.out.trans (hB3.mono HW1.out.size)); have HSZ := Lib.hid hB3.size; have HLO := Lib.hid (own_low hv2); have HLT := Lib.hid (own_lt hv2); (try have HVC := Lib.hid (HBB.out.below hB3)); obtain ⟨a2, c2, rfl⟩ := own_slice hv2; have hv2 := Lib.hid hv2; clear hB3)))
    | (go_at_call 191; first
        | ((with_reducible show Calls _ _ _ (World.alloc w2 _) _); ((with_reducible refine (ins_step base w1.heap.size (HW2.out.alloc HW2.out.size _) hb HW1.out.size (Nat.le_trans HSZ.out (by simp)) (hv2.out.fresh ((Below.refl _ w2).alloc (Nat.le_refl _) _)) i hi' hll s r w2.heap.size (BoxS.new s r w2) (fun k hk => by have := HLT.out k hk; omega)).mono ?_); rintro e w3 ⟨v3, rfl, hv3, hB4, hB5⟩; have HBX3 := Lib.hid (BoxS.belowB (HBX2.out.alloc _) HBX1.out.lt hB5); clear hB5; have hv3 := Lib.hid hv3; have hB4 := Lib.hid hB4))
        | (((with_reducible refine (ins_step base _ HW2.out hb (HW1.out.alloc HW1.out.size _).size HSZ.out hv2.out i hi' hll s r w1.heap.size HVB.out (fun k hk => by have := HLO.out k hk; simp at this; omega)).mono ?_); rintro e w3 ⟨v3, rfl, hv3, hB4, hB5⟩; have HBX3 := Lib.hid (BoxS.belowB HBX2.out (Nat.lt_of_lt_of_le HBX1.out.lt (by simp)) hB5); clear hB5; have hv3 := Lib.hid hv3; have hB4 := Lib.hid hB4))
        | (((with_reducible refine (ins_step base _ HW2.out hb HW1.out.size HSZ.out hv2.out i hi' hll s r (w.heap.size + 1) HVC.out (fun k hk => by have h1 := HLO.out k hk; have h2 := HBB.out.lt; omega)).mono ?_); rintro e w3 ⟨v3, rfl, hv3, hB4, hB5⟩; have HBX3 := Lib.hid (BoxS.belowB HBX2.out (Nat.lt_of_lt_of_le HBX1.out.lt (by simp)) hB5); clear hB5; have hv3 := Lib.hid hv3; have hB4 := Lib.hid hB4)))
    | (go_at_call 189; (with_reducible refine (hset.out _ _ _ hB4.out hv3.out).mono ?_); rintro e w4 ⟨rfl, hO4, hF4⟩; have HBX4 := Lib.hid (HBX3.out.fr hF4); have hO4 := Lib.hid hO4; have hF4 := Lib.hid hF4))
  all_goals
    obtain ⟨W', HO, HF, wr, hk, hrun⟩ := put_after base bo bp s.text r hO4.out
    have hq := HBX4.out.drew.cells.1
    have HFF := Lib.hid ((Fr.fresh (base := base) hB4.out).trans (hF4.out.trans HF.out))
    clear HBX1 HBX2 HBX3 HBX4 HBX hO4 hF4 hB4 hv3 HB1 HB1b hseats hset HX hbl p0 p1 p2 p3
    go_wp2_with (fail)
    go_region
    go_wp2_with (fail)
    go_end0
    rw [HL.out]
    exact ⟨rfl, HO.out, HFF.out⟩
end Go.Proofs.YtakbacfhcllioaaGreatDoor
