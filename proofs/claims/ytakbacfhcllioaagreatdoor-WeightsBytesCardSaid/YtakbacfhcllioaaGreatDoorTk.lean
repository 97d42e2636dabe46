/- (*Order).take. -/
import Derived.Test.YtakbacfhcllioaaGreatDoorPu
namespace Go.Proofs.YtakbacfhcllioaaGreatDoor
open Go.RowKit
attribute [local go_sem ↓] Go.wp_at_zero Go.wp_at_succ

def minL (a b : Int) : Int := if b < a then b else a
/-- The seat behind the i-th is no farther from what stands ahead than the i-th was. -/
def levL (l : List Seat) (i : Nat) : List Seat :=
  match l[i]?, l[i + 1]? with
  | some a, some b => l.set (i + 1) { b with level := minL a.level b.level }
  | _, _ => l
def outL (l : List Seat) (i : Nat) : List Seat := (levL l i).take i ++ (levL l i).drop (i + 1)
def takeM (m : PM) (o : OM) (t : ByteArray) : OM :=
  match findM m o t with
  | (r, i, true) => { setM o r (outL (seatsM m o r) i.toNat) with whr := upd o.whr t none }
  | _ => o

theorem levL_len (l : List Seat) (i : Nat) : (levL l i).length = l.length := by unfold levL; split <;> simp
theorem levL_out {l : List Seat} {i : Nat} (h : l.length ≤ i + 1) : levL l i = l := by
  unfold levL
  rw [List.getElem?_eq_none (l := l) (i := i + 1) h]
  split <;> first | rfl | (rename_i h1 h2; cases h2)
theorem levL_in {l : List Seat} {i : Nat} (h : i + 1 < l.length) : levL l i = l.set (i + 1) { l[i + 1] with level := minL l[i].level l[i + 1].level } := by
  unfold levL
  rw [List.getElem?_eq_getElem h, List.getElem?_eq_getElem (show i < l.length by omega)]

theorem seatsC_set : ∀ (l : List Seat) (k : Nat) (v : Int) (hk : k < l.length), (seatsC l).set (k * 4 + 2) (.int .i64 v) = seatsC (l.set k { l[k] with level := v })
  | a :: l, 0, v, _ => rfl
  | a :: l, k + 1, v, hk => by
    have := seatsC_set l k v (by simpa using hk)
    show (seatC a ++ seatsC l).set ((k + 1) * 4 + 2) _ = seatC a ++ seatsC (l.set k _)
    rw [List.set_append_right _ _ (by show 4 ≤ _; omega), show (k + 1) * 4 + 2 - (seatC a).length = k * 4 + 2 by show _ - 4 = _; omega, this]
    rfl

theorem OwnS.setLevel {w : World} {base g n c : Nat} {l : List Seat} (h : OwnS w base (.slice (some ⟨g, 0, none⟩) n c) l) {k : Nat} (hk : k < l.length) (v : Int) :
    OwnS (w.setCell ⟨g, k * 4 + 2, none⟩ (.int .i64 v)) base (.slice (some ⟨g, 0, none⟩) n c) (l.set k { l[k] with level := v }) := by
  rcases h.2 with ⟨h0, _⟩ | ⟨g', c', cur, hv, hb, hg, hn, hm, hs, ht⟩
  · cases h0
  · cases hv
    refine ⟨by rw [seatsC_len, List.length_set], .inr ⟨g, c, cur.setIfInBounds (k * 4 + 2) (.int .i64 v), by rw [List.length_set], hb, setCell_at hg _ _, by rw [List.length_set]; exact hn, hm, by simpa using hs, ?_⟩⟩
    rw [List.length_set, Array.toList_setIfInBounds, List.take_set, ht, seatsC_set l k v hk]

theorem OwnS.frozen {w : World} {base g n c : Nat} {l : List Seat} (h : OwnS w base (.slice (some ⟨g, 0, none⟩) n c) l) {k : Nat} (_ : 0 < k) : w.frozen? ⟨g, k, none⟩ = false := by
  rcases h.2 with ⟨h0, _⟩ | ⟨g', c', cur, hv, hb, hg, hn, hm, hs, ht⟩
  · cases h0
  · cases hv
    simp [World.frozen?, hg]

theorem del_s (base g c : Nat) (l : List Seat) (i : Nat) (hi : i < l.length) (w : World) (h : OwnS w base (.slice (some ⟨g, 0, none⟩) l.length c) l) (hl : l.length ≤ 1099511627776) :
    Calls Tryz.prog 190 #[.slice (some ⟨g, 0, none⟩) l.length c, .int .i64 i, .int .i64 ((i : Int) + 1)] w (GivesS w base (.slice (some ⟨g, 0, none⟩) l.length c) (l.take i ++ l.drop (i + 1))) := by
  have e : l = l.take i ++ l[i] :: l.drop (i + 1) := by rw [← List.drop_eq_getElem_cons hi, List.take_append_drop]
  have e1 : (l.take i).length = i := by rw [List.length_take]; omega
  have e2 : i + 1 + (l.drop (i + 1)).length = l.length := by rw [List.length_drop]; omega
  have := delete_s base g c (l.take i) (l.drop (i + 1)) l[i] w (by rw [e1, e2, ← e]; exact h) (by rw [e1, e2]; exact hl)
  rw [e1, e2] at this
  exact this

theorem delete_after (base bo bp : Nat) {o : OM} (t : ByteArray) {w : World} (h : IsOrd base w bo bp o) :
    ∃ W', Hid (IsOrd base W' bo bp { o with whr := upd o.whr t none }) ∧ Hid (Fr base w W') ∧ ∃ wr, w.cell? ⟨bo, 3, none⟩ = some (.map (some wr)) ∧
      (Builtin.delete_ #[133, 9] 0 #[.map (some wr), .string t]).run Tryz.prog w = .ok (.tuple #[]) W' := by
  obtain ⟨lr, wr, tv, h⟩ := h
  have hh := h
  obtain ⟨h1, h2, h3, h4, h5, _, ⟨es2, c2, h8, h9⟩, h10, h11⟩ := h
  obtain ⟨es', c', hrun, hrep⟩ := rep_delete (P := Tryz.prog) strK_inj strK_key Tryz.underlying133 Tryz.underlying9 h8 h9 t 0 9
  exact ⟨setMap w wr es' c', show IsOrd _ _ _ _ _ from ⟨lr, wr, tv, ord_whr hh hrep⟩, show Fr _ _ _ from Fr.map h3 h8, wr, by rw [cell_at h5]; rfl, hrun⟩

theorem takeM_no {m : PM} {o : OM} {t : ByteArray} (h : (findM m o t).2.2 = false) : takeM m o t = o := by
  unfold takeM
  split
  · next h2 => rw [h2] at h; cases h
  · rfl
theorem takeM_yes {m : PM} {o : OM} {t : ByteArray} {r : Int} {i : Nat} (h : findM m o t = (r, (i : Int), true)) : takeM m o t = { setM o r (outL (seatsM m o r) i) with whr := upd o.whr t none } := by
  unfold takeM
  rw [h]
  rfl
theorem findM_yes {m : PM} {o : OM} {t : ByteArray} (h : (findM m o t).2.2 = true) : ∃ (r : Int) (i : Nat), findM m o t = (r, (i : Int), true) ∧ i < (seatsM m o r).length := by
  unfold findM at h ⊢
  cases e : findL o t with
  | none => rw [e] at h; cases h
  | some r =>
    rw [e] at h
    have h2 : 0 ≤ idxV (seatsM m o r) t := by simpa using h
    rcases idxV_i64 (l := seatsM m o r) (t := t) with h3 | ⟨i, h3, h4⟩
    · omega
    · exact ⟨r, i, by simp [h4], h3⟩

set_option maxRecDepth 100000 in
set_option maxHeartbeats 4000000 in
theorem take_any (base n₀ bo bp : Nat) (m : PM) (o : OM) (hsm : Small m o) (t : ByteArray) (hts : t.size ≤ 1099511627776) (w : World) (hn : n₀ ≤ w.heap.size) (hb : base ≤ w.heap.size)
    (hp : IsProps n₀ w bp m) (ho : IsOrd base w bo bp o) :
    Calls Tryz.prog 149 #[.pointer (some ⟨bo, 0, none⟩), .string t] w (Ords base bo bp (takeM m o t) w) := by
  have HF := Lib.hid (find_any base n₀ bo bp m o hsm t hts w hn hb hp ho)
  by_cases hf : (findM m o t).2.2 = false
  · rw [takeM_no hf]
    have HO := Lib.hid ho
    obtain ⟨a, b, c⟩ : Int × Int × Bool := findM m o t
    obtain ⟨⟨x, i, ok⟩, hx⟩ : ∃ x, findM m o t = x := ⟨_, rfl⟩
    have hok : ok = false := by rw [hx] at hf; exact hf
    subst hok
    have HX := Lib.hid hx
    clear hf ho hp hx a b c
    go_enter Tryz.func149, Tryz.ntmps149
    go_wp2_with (go_at_call 68; refine HF.out.mono ?_; rintro e w1 ⟨rfl, hB1⟩; rw [HX.out])
    refine bodyPost_ret (results_none rfl _ _ _) rfl ?_
    exact ⟨rfl, HO.out.fresh hB1, Fr.fresh hB1⟩
  · have hf : (findM m o t).2.2 = true := by simpa using hf
    obtain ⟨r, i, hx, hil⟩ := findM_yes hf
    rw [takeM_yes hx]
    obtain ⟨l, hl⟩ : ∃ l, seatsM m o r = l := ⟨_, rfl⟩
    rw [hl] at hil ⊢
    have hll : l.length ≤ 1099511627776 := by rw [← hl]; exact hsm.seats r
    have hseats : Hid (∀ W, Below w.heap.size w W → Calls Tryz.prog 67 #[.pointer (some ⟨bo, 0, none⟩), .int .i32 r] W (SeatsAt base W l)) :=
      show ∀ W, Below w.heap.size w W → _ from fun W hW => hl ▸ seats_any base n₀ bo bp m hsm.decomps o hsm.touched r W (Nat.le_trans hn hW.size) (Nat.le_trans hb hW.size) (hp.below (hW.mono hn)) (ho.fresh hW)
    have hset : Hid (∀ v k W, Below w.heap.size w W → OwnS W base v k → Calls Tryz.prog 189 #[.pointer (some ⟨bo, 0, none⟩), .int .i32 r, v] W (Ords base bo bp (setM o r k) W)) :=
      show ∀ v k W, Below w.heap.size w W → _ from fun v k W hW hv => set_any base bo bp o hsm.touched r v k W (Nat.le_trans hb hW.size) (ho.fresh hW) hv
    have HX := Lib.hid hx
    have hi0 : (0 : Int) ≤ (i : Int) := Int.natCast_nonneg _
    have hi1 : (i : Int) < (l.length : Int) := by omega
    clear hx hf hp ho hl hsm
    by_cases hm : i + 1 < l.length
    · obtain ⟨l', hl'⟩ : ∃ l', l.set (i + 1) { l[i + 1] with level := minL l[i].level l[i + 1].level } = l' := ⟨_, rfl⟩
      rw [show outL l i = l'.take i ++ l'.drop (i + 1) by unfold outL; rw [levL_in hm, hl']]
      have hll' : l'.length = l.length := by rw [← hl', List.length_set]
      have hdel : Hid (∀ (B g c : Nat) (W : World), OwnS W B (.slice (some ⟨g, 0, none⟩) l.length c) l' → Calls Tryz.prog 190 #[.slice (some ⟨g, 0, none⟩) l.length c, .int .i64 i, .int .i64 ((i : Int) + 1)] W (GivesS W B (.slice (some ⟨g, 0, none⟩) l.length c) (l'.take i ++ l'.drop (i + 1)))) :=
        show ∀ (B g c : Nat) (W : World), _ from fun B g c W hv => by
          have := del_s B g c l' i (by omega) W (by rw [hll']; exact hv) (by rw [hll']; exact hll)
          rwa [hll'] at this
      have hsetl : Hid (∀ (B g c : Nat) (W : World), OwnS W B (.slice (some ⟨g, 0, none⟩) l.length c) l → OwnS (W.setCell ⟨g, (i + 1) * 4 + 2, none⟩ (.int .i64 (minL l[i].level l[i + 1].level))) B (.slice (some ⟨g, 0, none⟩) l.length c) l') :=
        show ∀ (B g c : Nat) (W : World), _ from fun B g c W hv => hl' ▸ hv.setLevel hm _
      have hm2 : (i : Int) + 1 < (l.length : Int) := by omega
      obtain ⟨x, hxi⟩ : ∃ x, l[i].level = x := ⟨_, rfl⟩
      obtain ⟨y, hyi⟩ : ∃ y, l[i + 1].level = y := ⟨_, rfl⟩
      rw [hxi, hyi] at hsetl
      have HXI := Lib.hid hxi
      have HYI := Lib.hid hyi
      have hi2 : (0 : Int) ≤ (i : Int) + 1 := by omega
      have hi3 : ((i : Int) + 1).toNat = i + 1 := by omega
      have hi4 : (i : Int).toNat = i := by omega
      clear hl' hll' hxi hyi
      obtain ⟨z, hz⟩ : ∃ z, minL x y = z := ⟨_, rfl⟩
      rw [hz] at hsetl
      have hzz : (if y < x then y else x) = z := hz
      clear hz
      go_enter Tryz.func149, Tryz.ntmps149
      go_wp2_with (first
        | (go_at_call 68; refine HF.out.mono ?_; rintro e w1 ⟨rfl, hB1⟩; rw [HX.out]; have hB1 := Lib.hid hB1)
        | (go_at_call 67; refine (hseats.out _ hB1.out).mono ?_; rintro e w2 ⟨v2, rfl, hv2, hB2⟩; have HW2 := Lib.hid (hB1.out.trans (hB2.mono hB1.out.size)))
        | (go_at_call 66; refine (clone_s base _ l hll _ hv2).mono ?_; rintro e w3 ⟨v3, rfl, hv3, hB3⟩; have HW3 := Lib.hid (HW2.out.trans (hB3.mono HW2.out.size)); have HSZ := Lib.hid HW2.out.size; have HSY := Lib.hid hB3.size; clear hv2 hB2 hB3; obtain ⟨a3, c3, rfl⟩ := own_slice hv3; obtain ⟨g, rfl, hg, -, hcA⟩ := hv3.cell (k := i) (by omega); have hA := hcA 2 _ rfl; obtain ⟨g', hge, -, -, hcB⟩ := hv3.cell (k := i + 1) hm; cases hge; have hBB := hcB 2 _ rfl; rw [HXI.out] at hA; rw [HYI.out] at hBB; clear hcA hcB; have hv3 := Lib.hid hv3))
      have hfz := hv3.out.frozen (k := (i + 1) * 4 + 2) (by omega)
      have HS4 := Lib.hid (hsetl.out w2.heap.size g c3 w3.drew (hv3.out.fresh (Below.refl _ w3).drew))
      have HW4 : Hid (Below w.heap.size w (w3.drew.setCell ⟨g, (i + 1) * 4 + 2, none⟩ (.int .i64 z))) :=
        (HW3.out.drew).setCell (p := ⟨g, (i + 1) * 4 + 2, none⟩) (Nat.le_trans HSZ.out hg) _
      clear hseats hf HF
      go_region
      go_wp2_with (first
        | (go_at_call 190; refine (hdel.out _ g c3 _ HS4.out).mono ?_; rintro e w4 ⟨v4, rfl, hv4, hg4⟩; have HW5 := Lib.hid (HW4.out.trans (hg4.below HW4.out.size (fun k hk => Nat.le_trans HSZ.out (own_low HS4.out k hk)))); have hv4 := Lib.hid (own_base (Nat.le_trans hb HSZ.out) hv4); clear hg4)
        | (go_at_call 189; refine (hset.out _ _ _ HW5.out hv4.out).mono ?_; rintro e w5 ⟨rfl, hO5, hF5⟩; have HFF := Lib.hid ((Fr.fresh (base := base) HW5.out).trans hF5); obtain ⟨W', HO, HF6, wr, hk, hrun⟩ := delete_after base bo bp t hO5; clear hO5 hF5))
      refine bodyPost_ret (results_none rfl _ _ _) rfl ?_
      exact ⟨rfl, HO.out, HFF.out.trans HF6.out⟩
    · have hm2 : (l.length : Int) ≤ (i : Int) + 1 := by omega
      rw [show outL l i = l.take i ++ l.drop (i + 1) by unfold outL; rw [levL_out (by omega)]]
      go_enter Tryz.func149, Tryz.ntmps149
      go_wp2_with (first
        | (go_at_call 68; refine HF.out.mono ?_; rintro e w1 ⟨rfl, hB1⟩; rw [HX.out]; have hB1 := Lib.hid hB1)
        | (go_at_call 67; refine (hseats.out _ hB1.out).mono ?_; rintro e w2 ⟨v2, rfl, hv2, hB2⟩; have HW2 := Lib.hid (hB1.out.trans (hB2.mono hB1.out.size)))
        | (go_at_call 66; refine (clone_s base _ l hll _ hv2).mono ?_; rintro e w3 ⟨v3, rfl, hv3, hB3⟩; have HW3 := Lib.hid (HW2.out.trans (hB3.mono HW2.out.size)); have HSZ := Lib.hid HW2.out.size; have HSY := Lib.hid hB3.size; clear hv2 hB2 hB3; obtain ⟨a3, c3, rfl⟩ := own_slice hv3; obtain ⟨g, rfl, hg, -, -⟩ := hv3.cell (k := i) (by omega); have hv3 := Lib.hid hv3)
        | (go_at_call 190; refine (del_s _ g c3 l i (by omega) _ hv3.out hll).mono ?_; rintro e w4 ⟨v4, rfl, hv4, hg4⟩; have HW4 := Lib.hid (HW3.out.trans (hg4.below (Nat.le_trans HSZ.out HSY.out) (fun k hk => Nat.le_trans HSZ.out (own_low hv3.out k hk)))); have hv4 := Lib.hid (own_base (Nat.le_trans hb HSZ.out) hv4); clear hg4)
        | (go_at_call 189; refine (hset.out _ _ _ HW4.out hv4.out).mono ?_; rintro e w5 ⟨rfl, hO5, hF5⟩; have HFF := Lib.hid ((Fr.fresh (base := base) HW4.out).trans hF5); obtain ⟨W', HO, HF6, wr, hk, hrun⟩ := delete_after base bo bp t hO5; clear hO5 hF5))
      refine bodyPost_ret (results_none rfl _ _ _) rfl ?_
      exact ⟨rfl, HO.out, HFF.out.trans HF6.out⟩
end Go.Proofs.YtakbacfhcllioaaGreatDoor
