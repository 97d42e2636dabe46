/- (*Order).find. -/
import Derived.Test.YtakbacfhcllioaaGreatDoorOm
namespace Go.Proofs.YtakbacfhcllioaaGreatDoor
open Go.RowKit

def findL (o : OM) (t : ByteArray) : Option Int :=
  match o.whr t with
  | some r => some r
  | none => match ptsOf t with
    | [c] => some c
    | _ => none
def findM (m : PM) (o : OM) (t : ByteArray) : Int × Int × Bool :=
  match findL o t with
  | none => (0, 0, false)
  | some r => (r, idxV (seatsM m o r) t, decide (0 ≤ idxV (seatsM m o r) t))

def Found (m : PM) (o : OM) (t : ByteArray) (w : World) (e : Ending) (w' : World) : Prop :=
  e = .returned (.tuple #[.int .i32 (findM m o t).1, .int .i64 (findM m o t).2.1, .bool (findM m o t).2.2]) ∧ Below w.heap.size w w'

structure Small (m : PM) (o : OM) : Prop where
  touched : o.touched.length ≤ 1099511627776
  seats : ∀ r, (seatsM m o r).length ≤ 1099511627776
  decomps : ∀ x ∈ m.decomps, x.2.length ≤ 1099511627776

theorem idxV_i64 {l : List Seat} {t : ByteArray} : idxV l t = -1 ∨ ∃ i : Nat, i < l.length ∧ idxV l t = i := by
  unfold idxV
  cases h : seatI l t with
  | none => exact .inl rfl
  | some i =>
    unfold seatI at h
    exact .inr ⟨i, (List.findIdx?_eq_some_iff_getElem.1 h).1, rfl⟩

set_option maxRecDepth 100000 in
set_option maxHeartbeats 4000000 in
theorem find_any (base n₀ bo bp : Nat) (m : PM) (o : OM) (hsm : Small m o) (t : ByteArray) (hts : t.size ≤ 1099511627776) (w : World) (hn : n₀ ≤ w.heap.size) (hb : base ≤ w.heap.size)
    (hp : IsProps n₀ w bp m) (ho : IsOrd base w bo bp o) :
    Calls Tryz.prog 68 #[.pointer (some ⟨bo, 0, none⟩), .string t] w (Found m o t w) := by
  obtain ⟨w0, hw0⟩ : ∃ w0, w.alloc (.cells #[.string t] 9) = w0 := ⟨_, rfl⟩
  have hB0 : Below w.heap.size w w0 := by rw [← hw0]; exact (Below.refl _ w).alloc (Nat.le_refl _) _
  have hB1 : Below w.heap.size w w0.drew := hB0.drew
  have ho1 := ho.fresh hB1
  have hp1 := hp.below (hB1.mono hn)
  obtain ⟨lr, wr, tv, h1, h2, h3, h4, h5, _, ⟨es2, c2, h8, h9⟩, h10, h11⟩ := ho1
  have k0 : w0.drew.cell? ⟨bo, 3, none⟩ = some (.map (some wr)) := by rw [cell_at h5]; rfl
  have k1 : w0.drew.cell? ⟨w.heap.size, 0, none⟩ = some (.string t) := by rw [← hw0, World.cell?_drew, cell_new_at]; rfl
  have HO := Lib.hid ho
  have HP := Lib.hid hp
  have HB1 := Lib.hid hB1
  -- the rest of the walk, from the list on
  have hrest : Hid (∀ (r : Int) (W : World), Below w.heap.size w W → Calls Tryz.prog 67 #[.pointer (some ⟨bo, 0, none⟩), .int .i32 r] W (SeatsAt base W (seatsM m o r))) :=
    show ∀ (r : Int) (W : World), Below w.heap.size w W → Calls Tryz.prog 67 #[.pointer (some ⟨bo, 0, none⟩), .int .i32 r] W (SeatsAt base W (seatsM m o r)) from fun r W hW =>
      seats_any base n₀ bo bp m hsm.decomps o hsm.touched r W (Nat.le_trans hn hW.size) (Nat.le_trans hb hW.size) (hp.below (hW.mono hn)) (ho.fresh hW)
  have hidx : Hid (∀ (v : Value) (l : List Seat) (W : World), Below w.heap.size w W → W.cell? ⟨w.heap.size, 0, none⟩ = some (.string t) → OwnS W base v l → l.length ≤ 1099511627776 →
      Calls Tryz.prog 116 #[v, .func (.func 117) #[] #[.pointer (some ⟨w.heap.size, 0, none⟩)]] W fun e w' => e = .returned (.int .i64 (idxV l t)) ∧ Below W.heap.size W w') :=
    show ∀ (v : Value) (l : List Seat) (W : World), _ from fun v l W hW hc hv hl => idx_any base v l t w.heap.size W hv hl hc
  have HS := Lib.hid hsm.seats
  have hlt1 : w.heap.size < w0.drew.heap.size := by rw [← hw0]; show w.heap.size < (w.alloc _).heap.size; simp
  rcases rep_look (P := Tryz.prog) strK_inj strK_key Tryz.underlying133 Tryz.underlying9 h8 h9 t (.int .i32 0) (Tryz.zeroValue21 w0.drew) with ⟨e2, hr⟩ | ⟨a, v, e2, hv, hr⟩
  · have hrun : (Instr.lookup 133 (.map (some wr)) (.string t) true).run Tryz.prog w0.drew = .ok (.tuple #[.int .i32 0, .bool false]) w0.drew := hr true
    have HL := Lib.hid (of_any t hts w0.drew)
    obtain ⟨pts, hpts⟩ : ∃ pts, ptsOf t = pts := ⟨_, rfl⟩
    rw [hpts] at HL
    by_cases hone : pts.length = 1
    · obtain ⟨c, rfl⟩ : ∃ c, pts = [c] := by
        match pts, hone with
        | [c], _ => exact ⟨c, rfl⟩
      have ef : findM m o t = (c, idxV (seatsM m o c) t, decide (0 ≤ idxV (seatsM m o c) t)) := by unfold findM findL; rw [e2, hpts]
      have HE := Lib.hid ef
      obtain ⟨ii, hii⟩ : ∃ ii, idxV (seatsM m o c) t = ii := ⟨_, rfl⟩
      clear h5 h8 h9 h10 h11 hr e2 ho hp hB0 hsm ef hB1
      subst hw0
      go_enter Tryz.func68, Tryz.ntmps68
      go_wp2_with (fail)
      go_region
      go_wp2_with (first
        | (go_at_call 14; refine HL.out.mono ?_; rintro e w1 ⟨v1, rfl, hv1, hB2⟩; obtain ⟨a1, c1, rfl⟩ := own_slice hv1; obtain ⟨g1, cap1, e1, hg1, hg2, hcc⟩ := own_cell hv1 (k := 0) (by simp); cases e1; have hc0 := hcc 0 (by simp))
        | (go_at_call 67; refine (hrest.out _ _ (HB1.out.trans (hB2.mono HB1.out.size))).mono ?_; rintro e w4 ⟨v4, rfl, hv4, hB4⟩)
        | (go_at_call 116; refine (hidx.out _ _ _ ((HB1.out.trans (hB2.mono HB1.out.size)).trans (hB4.mono (HB1.out.trans (hB2.mono HB1.out.size)).size)) ((hB4.cell (p := ⟨w.heap.size, 0, none⟩) (Nat.lt_of_lt_of_le hlt1 hB2.size)).trans ((hB2.cell (p := ⟨w.heap.size, 0, none⟩) hlt1).trans k1)) hv4 (HS.out _)).mono ?_; rintro e w3 ⟨rfl, hB3⟩; rw [hii]))
      go_ret3
      have hB5 := (HB1.out.trans (hB2.mono HB1.out.size)).trans (hB4.mono (HB1.out.trans (hB2.mono HB1.out.size)).size)
      exact ⟨by rw [HE.out, hii]; rfl, hB5.trans (hB3.mono hB5.size)⟩
    · have ef : findM m o t = (0, 0, false) := by
        unfold findM findL; rw [e2, hpts]
        match pts, hone with
        | [], _ => rfl
        | [c], h => exact absurd rfl h
        | _ :: _ :: _, _ => rfl
      have HE := Lib.hid ef
      have hne : ((pts.length : Int) == 1) = false := by simp; omega
      clear h5 h8 h9 h10 h11 hr e2 ho hp hB0 hsm ef hB1
      subst hw0
      go_enter Tryz.func68, Tryz.ntmps68
      go_wp2_with (fail)
      go_region
      go_wp2_with (go_at_call 14; refine HL.out.mono ?_; rintro e w1 ⟨v1, rfl, hv1, hB2⟩; obtain ⟨a1, c1, rfl⟩ := own_slice hv1)
      go_ret3
      exact ⟨by rw [HE.out]; rfl, HB1.out.trans (hB2.mono HB1.out.size)⟩
  · subst hv
    have hrun : (Instr.lookup 133 (.map (some wr)) (.string t) true).run Tryz.prog w0.drew = .ok (.tuple #[.int .i32 a, .bool true]) w0.drew := hr true
    have ef : findM m o t = (a, idxV (seatsM m o a) t, decide (0 ≤ idxV (seatsM m o a) t)) := by unfold findM findL; rw [e2]
    have HE := Lib.hid ef
    obtain ⟨ii, hii⟩ : ∃ ii, idxV (seatsM m o a) t = ii := ⟨_, rfl⟩
    clear h5 h8 h9 h10 h11 hr e2 ho hp hB0 hsm ef hB1
    subst hw0
    go_enter Tryz.func68, Tryz.ntmps68
    go_wp2_with (fail)
    go_region
    go_wp2_with (first
      | (go_at_call 67; refine (hrest.out _ _ HB1.out).mono ?_; rintro e w1 ⟨v1, rfl, hv1, hB2⟩)
      | (go_at_call 116; refine (hidx.out _ _ _ (HB1.out.trans (hB2.mono HB1.out.size)) ((hB2.cell (p := ⟨w.heap.size, 0, none⟩) hlt1).trans k1) hv1 (HS.out _)).mono ?_; rintro e w3 ⟨rfl, hB3⟩; rw [hii]))
    go_ret3
    exact ⟨by rw [HE.out, hii]; rfl, (HB1.out.trans (hB2.mono HB1.out.size)).trans (hB3.mono (HB1.out.trans (hB2.mono HB1.out.size)).size)⟩
end Go.Proofs.YtakbacfhcllioaaGreatDoor
