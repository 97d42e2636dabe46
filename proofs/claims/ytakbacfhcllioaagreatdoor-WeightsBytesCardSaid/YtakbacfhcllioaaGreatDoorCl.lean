/- slices.Clone and slices.Delete of seats. -/
import Derived.Test.YtakbacfhcllioaaGreatDoorSc
namespace Go.Proofs.YtakbacfhcllioaaGreatDoor
open Go.RowKit

def GivesSn (w : World) (l : List Seat) (e : Ending) (w' : World) : Prop := ∃ v', e = .returned v' ∧ OwnS w' w.heap.size v' l ∧ Below w.heap.size w w'

set_option maxRecDepth 100000 in
set_option maxHeartbeats 1000000 in
theorem clone_s (base : Nat) (v : Value) (l : List Seat) (hl : l.length ≤ 1099511627776) (w : World) (h : OwnS w base v l) :
    Calls Tryz.prog 66 #[v] w (GivesSn w l) := by
  obtain ⟨i0, hi, hz0, hz1, hz2⟩ := info_parts info62i
  have hcells := h
  rcases h.2 with ⟨rfl, h0⟩ | ⟨g, cap, cur, rfl, hb, hg, hn, hm, hs, ht⟩
  · obtain rfl : l = [] := List.eq_nil_of_length_eq_zero h0
    have hnil := fun (wx : World) => Lib.run_eql_slice_nil (P := Tryz.prog) wx 53 62 none 0 0 0 0 Tryz.underlying53
    go_enter Tryz.func66, Tryz.ntmps66
    go_wp2
    go_ret
    exact ⟨.slice none 0 0, rfl, World.ownsRow_nil _ _ _ _, Below.refl _ _⟩
  · have hnil := fun (wx : World) => Lib.run_eql_slice_nil (P := Tryz.prog) wx 53 62 (some ⟨g, 0, none⟩) l.length cap 0 0 Tryz.underlying53
    have hown : (w.alloc (.cells #[] 62)).ownsRow w.heap.size 62 4 (.slice (some ⟨w.heap.size, 0, none⟩) 0 0) 0 [] := ⟨rfl, .inr ⟨w.heap.size, 0, #[], rfl, Nat.le_refl _, hp_new w _, Nat.le_refl _, by simp [maxLen], rfl, rfl⟩⟩
    have hnews : ∀ j u, (seatsC l)[j]? = some u → (w.alloc (.cells #[] 62)).cell? (Addr.add ⟨g, 0, none⟩ j) = some u := fun j u hu =>
      cell_alloc_k _ (hcells.cells (g := g) rfl j u hu)
    have HN := Lib.hid hnews
    have H1 := Lib.hid (seatsC_one l)
    have k1 := Lib.hid (seatsC_len l)
    have k2 : 0 + l.length ≤ maxLen := by unfold maxLen; omega
    have k3 : (0 + l.length) * 48 ≤ 140737488355328 := by omega
    have k4 : w.heap.size ≤ (w.alloc (.cells #[] 62)).heap.size := by simp
    clear hnews hl hg hs ht hcells h
    go_enter Tryz.func66, Tryz.ntmps66
    go_wp2_with (at_builtin; go_must (refine wpList_append_own _ rfl _ _ 53 rfl w.heap.size 62 i0 (.agg #[.string ⟨#[]⟩, .int .i32 0, .int .i64 0, .string ⟨#[]⟩]) 4 48 Tryz.underlying53 hi hz0 hz1 hz2 rfl (by decide) _ 0 [] rfl hown ⟨g, 0, none⟩ l.length cap (seatsC l) rfl k1.out HN.out H1.out k2 k3 k4 ?_); intro v' w1 hown' hgrow hnl)
    go_ret
    rw [Nat.zero_add, List.nil_append] at hown'
    exact ⟨v', rfl, hown', ((Below.refl _ w).alloc (Nat.le_refl _) _).grown hgrow k4 (fun k e => by cases e; exact Nat.le_refl _)⟩

theorem run_clear_k {P : Program} (w : World) (t e ty : TypeId) (z : Value) (ht : P.underlying t = some (.slice e)) (hv : ∀ w, (zeroValue e).run P w = .ok z w) (h1 : ∀ u ∈ z.cells, u.oneCell' = true)
    (g o n c : Nat) (cur : List Value) (hg : w.heap[g]? = some (.cells cur.toArray e (0, 0))) (hn : 0 < n) (hfit : o + n * z.cells.size ≤ cur.length) :
    ∃ w', Hid (w'.heap[g]? = some (.cells (splice cur o (Builtin.zeroCells z.cells n).toList).toArray e (0, 0))) ∧ Hid (Only g w w') ∧
    (Builtin.clear_ #[t] ty #[.slice (some ⟨g, o, none⟩) n c]).run P w = .ok (.tuple #[]) w' := by
  have hlen : (Builtin.zeroCells z.cells n).toList.length = n * z.cells.size := by rw [Array.length_toList, size_zeroCells]
  have hone : ∀ u ∈ (Builtin.zeroCells z.cells n).toList, u.oneCell' = true := by
    intro u hu
    simp only [Builtin.zeroCells, Array.toList_map, List.mem_map, Array.mem_toList_iff, Array.mem_range] at hu
    obtain ⟨k, hk, rfl⟩ := hu
    have hp : 0 < z.cells.size := by rcases Nat.eq_zero_or_pos z.cells.size with h | h; (rw [h] at hk; omega); exact h
    rw [getElem!_pos z.cells (k % z.cells.size) (Nat.mod_lt _ hp)]
    exact h1 _ (Array.getElem_mem _)
  have hst := run_storeCells_at P g o e (Builtin.zeroCells z.cells n).toList 0 cur.toArray w hg (by rw [hlen]; simpa using hfit) hone
  refine ⟨w.setRow g (splice cur o (Builtin.zeroCells z.cells n).toList).toArray, ?_, ?_, ?_⟩
  · show _ = _
    exact setRow_heap w g _ _ e _ hg
  · exact Only.setRow w g _
  · cases n with
    | zero => omega
    | succ n =>
      simp [Builtin.clear_, run_underlying ht, hv, hst, splice]

theorem step_append_run {P : Program} {ops : Array Oper} {o : Oper} {a : Act} {w : World} {K : Act → World → Prop} {Q : Exit → Act → World → Prop} {E : Prop}
    (hg : o.guard = none) (d x : Operand) (dT sT : TypeId) (hop : o.op = Op.call { callee := Callee.builtin Builtin.append, args := #[d, x], argTypes := #[dT, sT] })
    (v u : Value) (hd : a.eval d = v) (hx : a.eval x = u) {v' : Value} {w' : World} (hr : (Builtin.append_ #[dT, sT] o.type #[v, u]).run P w = .ok v' w') (hK : K (a.put o.dst v') w') :
    if Region.wanted o (yielded ops a.tmps) = true then Oper.wp P o a w K Q else E := by
  have hw : Region.wanted o (yielded ops a.tmps) = true := by simp [Region.wanted, hg]
  rw [if_pos hw]
  unfold Oper.wp execOp
  simp only [hop, resolve, invoke, builtin, Sem.run_bind, Sem.run_pure, Result.andThen_ok, List.map_toArray, List.map_cons, List.map_nil, hd, hx, hr]
  exact hK

set_option maxRecDepth 100000 in
set_option maxHeartbeats 4000000 in
theorem delete_s (base g c : Nat) (A B : List Seat) (x : Seat) (w : World) (h : OwnS w base (.slice (some ⟨g, 0, none⟩) (A.length + 1 + B.length) c) (A ++ x :: B)) (hl : A.length + 1 + B.length ≤ 1099511627776) :
    Calls Tryz.prog 190 #[.slice (some ⟨g, 0, none⟩) (A.length + 1 + B.length) c, .int .i64 A.length, .int .i64 (A.length + 1 : Nat)] w (GivesS w base (.slice (some ⟨g, 0, none⟩) (A.length + 1 + B.length) c) (A ++ B)) := by
  obtain ⟨i0, hi, hz0, hz1, hz2⟩ := info_parts info62i
  obtain ⟨i, hiA⟩ : ∃ i, A.length = i := ⟨_, rfl⟩
  obtain ⟨r, hrB⟩ : ∃ r, B.length = r := ⟨_, rfl⟩
  have hn0 : (A ++ x :: B).length = i + 1 + r := by rw [List.length_append, List.length_cons, hiA, hrB]; omega
  have h : w.ownsRow base 62 4 (.slice (some ⟨g, 0, none⟩) (i + 1 + r) c) (i + 1 + r) (seatsC (A ++ x :: B)) := by rw [← hiA, ← hrB, show A.length + 1 + B.length = (A ++ x :: B).length by rw [hn0, hiA, hrB]]; rw [show A.length + 1 + B.length = (A ++ x :: B).length by rw [hn0, hiA, hrB]] at h; exact h
  have hlow := own_low h g rfl
  have hc : i + 1 + r ≤ c := own_cap h
  obtain ⟨cur, hgc, hcm, hcs, htake⟩ : ∃ cur, w.heap[g]? = some (.cells cur 62 (0, 0)) ∧ c ≤ maxLen ∧ cur.size = c * 4 ∧ cur.toList.take ((i + 1 + r) * 4) = seatsC (A ++ x :: B) := by
    rcases h.2 with ⟨h, _⟩ | ⟨g', c', cur, h, _, hg, _, hm, hs, ht⟩
    · cases h
    · cases h
      exact ⟨cur, hg, hm, hs, ht⟩
  obtain ⟨zs, hcz⟩ : ∃ zs, cur.toList = (seatsC A ++ (seatC x ++ seatsC B)) ++ zs := ⟨cur.toList.drop ((i + 1 + r) * 4), by
    rw [show seatsC A ++ (seatC x ++ seatsC B) = seatsC (A ++ x :: B) by simp [seatsC], ← htake]; exact (List.take_append_drop _ cur.toList).symm⟩
  have hal : (seatsC A).length = i * 4 := by rw [seatsC_len, hiA]
  have hbl : (seatsC B).length = r * 4 := by rw [seatsC_len, hrB]
  have hxl : (seatC x).length = 4 := rfl
  have hcl : cur.toList.length = c * 4 := by rw [Array.length_toList]; exact hcs
  have hzl : zs.length = (c - (i + 1 + r)) * 4 := by
    have := congrArg List.length hcz
    rw [hcl] at this
    simp only [List.length_append, hal, hbl, hxl] at this
    omega
  have hcur : w.heap[g]? = some (.cells (seatsC A ++ (seatC x ++ (seatsC B ++ zs))).toArray 62 (0, 0)) := by rw [hgc, show seatsC A ++ (seatC x ++ (seatsC B ++ zs)) = cur.toList by rw [hcz]; simp]
  -- the append of the rest, in place
  have happ : ∀ ad : Addr, (c ≠ i + 1 → ad = ⟨g, (i + 1) * 4, none⟩) → ∃ w2, Hid (w2.heap[g]? = some (.cells (splice (seatsC A ++ (seatC x ++ (seatsC B ++ zs))) (i * 4) (seatsC B)).toArray 62 (0, 0))) ∧ Hid (Only g w.drew w2) ∧
      (Builtin.append_ #[53, 53] 53 #[.slice (some ⟨g, 0, none⟩) i c, .slice (some ad) r (c - (i + 1))]).run Tryz.prog w.drew = .ok (.slice (some ⟨g, 0, none⟩) (i + r) c) w2 := by
    intro ad had
    have hrun := run_append_room (P := Tryz.prog) w.drew 53 53 62 i0 Tryz.underlying53 hi g i c (seatsC A ++ (seatC x ++ (seatsC B ++ zs))).toArray hcur ad r (c - (i + 1)) (seatsC B) (by rw [hz1, hbl]) (fun j u hu => by
      have hne : c ≠ i + 1 := by
        intro e
        have : B.length = 0 := by omega
        rw [List.eq_nil_of_length_eq_zero this] at hu
        cases hu
      rw [had hne, addr_add, World.cell?_drew, cell_at hcur, List.getElem?_toArray]
      show (seatsC A ++ (seatC x ++ (seatsC B ++ zs)))[(i + 1) * 4 + j]? = some u
      rw [← List.append_assoc, List.getElem?_append_right (by rw [List.length_append, hal, hxl]; omega), List.length_append, hal, hxl, show (i + 1) * 4 + j - (i * 4 + 4) = j by omega, List.getElem?_append_left (List.getElem?_eq_some_iff.1 hu).1]
      exact hu) (seatsC_one _) (by omega) (by rw [hz1, hbl, List.size_toArray]; simp only [List.length_append, hal, hbl, hxl, hzl]; omega)
    rw [hz1] at hrun
    exact ⟨_, show _ = _ by simpa [splice] using setRow_heap w.drew g _ _ 62 _ hcur, Only.setRow w.drew g _, hrun⟩
  have hsp : splice (seatsC A ++ (seatC x ++ (seatsC B ++ zs))) (i * 4) (seatsC B) = seatsC A ++ seatsC B ++ (seatC x ++ (seatsC B ++ zs)).drop (seatsC B).length := splice_app _ _ _ _ hal
  obtain ⟨row2, hrow2⟩ : ∃ row2, splice (seatsC A ++ (seatC x ++ (seatsC B ++ zs))) (i * 4) (seatsC B) = row2 := ⟨_, rfl⟩
  have hlen2 : row2.length = c * 4 := by
    rw [← hrow2, length_splice _ _ _ (by simp only [List.length_append, hal, hbl, hxl, hzl]; omega)]
    simp only [List.length_append, hal, hbl, hxl, hzl]; omega
  have htake2 : row2.take ((i + r) * 4) = seatsC (A ++ B) := by
    rw [← hrow2, hsp, seatsC_app, List.take_append_of_le_length (by rw [List.length_append, hal, hbl]; omega), List.take_of_length_le (by rw [List.length_append, hal, hbl]; omega)]
  rw [hrow2] at happ
  obtain ⟨row3, hrow3⟩ : ∃ row3, splice row2 ((i + r) * 4) (Builtin.zeroCells (Value.agg #[.string ⟨#[]⟩, .int .i32 0, .int .i64 0, .string ⟨#[]⟩]).cells 1).toList = row3 := ⟨_, rfl⟩
  have hzc : (Builtin.zeroCells (Value.agg #[.string ⟨#[]⟩, .int .i32 0, .int .i64 0, .string ⟨#[]⟩]).cells 1).toList.length = 4 := by rw [Array.length_toList, size_zeroCells]; rfl
  have hlen3 : row3.length = c * 4 := by rw [← hrow3, length_splice _ _ _ (by rw [hzc, hlen2]; omega), hlen2]
  have htake3 : row3.take ((i + r) * 4) = seatsC (A ++ B) := by
    rw [← hrow3, ← htake2]
    unfold splice
    rw [List.take_append_of_le_length (by rw [List.length_take]; omega), List.take_take, Nat.min_self]
  have hclr : ∀ w2 : World, w2.heap[g]? = some (.cells row2.toArray 62 (0, 0)) → ∃ w3, Hid (w3.heap[g]? = some (.cells row3.toArray 62 (0, 0))) ∧ Hid (Only g w2 w3) ∧ (Builtin.clear_ #[53] 0 #[.slice (some ⟨g, (i + r) * 4, none⟩) 1 (c - (i + r))]).run Tryz.prog w2 = .ok (.tuple #[]) w3 := by
    intro w2 h2
    have := run_clear_k (P := Tryz.prog) w2 53 62 0 (.agg #[.string ⟨#[]⟩, .int .i32 0, .int .i64 0, .string ⟨#[]⟩]) Tryz.underlying53 (fun w => by simp [zeroValue, typeInfo, hi, hz0]) (by simp [Value.cells, Value.oneCell']) g ((i + r) * 4) 1 (c - (i + r)) row2 h2 (by omega) (by rw [hlen2]; show _ + 1 * 4 ≤ _; omega)
    rw [hrow3] at this
    exact this
  have hAB : (A ++ B).length = i + r := by rw [List.length_append, hiA, hrB]
  rw [hiA, hrB] at hl ⊢
  have HR := Lib.hid (And.intro hlen3 (And.intro htake3 hAB))
  have HROW : Hid (B.length = 0 → w.drew.heap[g]? = some (.cells row2.toArray 62 (0, 0))) := show B.length = 0 → w.drew.heap[g]? = some (.cells row2.toArray 62 (0, 0)) from fun h0 => by
    obtain rfl := List.eq_nil_of_length_eq_zero h0
    rw [← hrow2]
    show w.heap[g]? = _
    rw [hcur]
    simp [splice, seatsC]
  clear h hgc hcs htake hcz hcl hzl hcur hsp hrow2 hlen2 htake2 hrow3 hzc hlen3 htake3 hal hbl hxl hn0 hAB
  have hne : ((i : Int) == (i : Int) + 1) = false := by simp; omega
  have hb4 : ¬ (c = i + r) := by omega
  have hb6 : i ≤ c := by omega
  have hb8 : (0 : Int) ≤ (i : Int) + 1 := by omega
  have hb9 : i + 1 ≤ i + 1 + r := by omega
  have hb10 : (0 : Int) ≤ (r : Int) := by omega
  have hb7 : (i : Int) + 1 ≤ (i : Int) + 1 + r := by omega
  have hb5 : (i : Int) + (r : Int) ≤ (i : Int) + 1 + r := by omega
  by_cases hci : c = i + 1
  · obtain rfl : r = 0 := by omega
    obtain ⟨w3, HW3, HB3, hr3⟩ := hclr w.drew (HROW.out hrB)
    subst hci
    have hr3' : (Builtin.clear_ #[53] 0 #[.slice (some ⟨g, i * 4, none⟩) 1 1]).run Tryz.prog w.drew = .ok (.tuple #[]) w3 := by simpa using hr3
    clear hr3
    go_enter Tryz.func190, Tryz.ntmps190
    go_wp2_with (fail)
    go_region
    go_wp2_with (fail)
    go_ret
    refine ⟨_, rfl, ⟨?_, .inr ⟨g, i + 1, row3.toArray, by rw [HR.out.2.2]; rfl, hlow, HW3.out, ?_, hcm, ?_, ?_⟩⟩, ⟨((Only.drew w g).trans HB3.out).grown, fun k hk => .inl hk⟩⟩
    · rw [seatsC_len]
    · rw [HR.out.2.2]; omega
    · rw [List.size_toArray]; exact HR.out.1
    · rw [HR.out.2.2]; exact HR.out.2.1
  · obtain ⟨w2, HW2, HB2, hr2⟩ := happ ⟨g, (i + 1) * 4, none⟩ (fun _ => rfl)
    obtain ⟨w3, HW3, HB3, hr3⟩ := hclr w2 HW2.out
    have hr3' : (Builtin.clear_ #[53] 0 #[.slice (some ⟨g, (i + r) * 4, none⟩) (i + 1 + r - (i + r)) (c - (i + r))]).run Tryz.prog w2 = .ok (.tuple #[]) w3 := by
      rw [show i + 1 + r - (i + r) = 1 by omega]; exact hr3
    clear hr3
    go_enter Tryz.func190, Tryz.ntmps190
    go_wp2_with (fail)
    go_region_law (refine step_append_run rfl (.tmp 22) (.tmp 25) 53 53 rfl _ _ rfl rfl hr2 ?_)
    go_wp2_with (fail)
    go_ret
    refine ⟨_, rfl, ⟨?_, .inr ⟨g, c, row3.toArray, by rw [HR.out.2.2]; rfl, hlow, HW3.out, ?_, hcm, ?_, ?_⟩⟩, ⟨((Only.drew w g).trans (HB2.out.trans HB3.out)).grown, fun k hk => .inl hk⟩⟩
    · rw [seatsC_len]
    · rw [HR.out.2.2]; omega
    · rw [List.size_toArray]; exact HR.out.1
    · rw [HR.out.2.2]; exact HR.out.2.1
end Go.Proofs.YtakbacfhcllioaaGreatDoor
