/- slices.Insert of one element, at the element type 62. -/
import Derived.Test.YtakbacfhcllioaaGreatDoorNt
import Derived.Test.YtakbacfhcllioaaGreatDoorSl
import Derived.Lib.AppendZerosOnto
import Derived.Lib.Overlaps
import Derived.Outline
namespace Go.Proofs.YtakbacfhcllioaaGreatDoor
open Go.RowKit

theorem info62i : (Tryz.prog.info? 62).map (fun i => (i.zero, i.size, i.bytes)) = some (some (.agg #[.string ⟨#[]⟩, .int .i32 0, .int .i64 0, .string ⟨#[]⟩]), 4, 48) := by kernel_rfl

set_option maxRecDepth 100000 in
set_option maxHeartbeats 2000000 in
theorem insS_end (base : Nat) (s : Value) (n : Nat) (xs : List Value) (w : World) (hown : w.ownsRow base 62 4 s n xs) (hb : base ≤ w.heap.size) (hn : n ≤ 1099511627776)
    (vb : Nat) (x : List Value) (hx : x.length = 4) (hvb : w.heap[vb]? = some (.cells x.toArray 62 (0, 0))) (hx1 : ∀ u ∈ x, u.oneCell' = true) :
    Calls Tryz.prog 191 #[s, .int .i64 n, .slice (some ⟨vb, 0, none⟩) 1 1] w (GivesRow w base s 62 4 (n + 1) (xs ++ x)) := by
  obtain ⟨i0, hi, hz0, hz1, hz2⟩ := info_parts info62i
  have hnews : ∀ (j : Nat) (u : Value), x[j]? = some u → w.cell? (Addr.add ⟨vb, 0, none⟩ j) = some u := fun j u hu => by
    rw [addr_add, cell_at hvb]; simpa using hu
  have HN := Lib.hid hnews
  have HX := Lib.hid hx1
  have HL := Lib.hid hx
  have HO := Lib.hid hown
  have k2 : n + 1 ≤ maxLen := by unfold maxLen; omega
  have k3 : (n + 1) * 48 ≤ 140737488355328 := by omega
  obtain ⟨a, c, rfl⟩ := own_slice hown
  have hc : n ≤ c := own_cap hown
  clear hnews hx hx1 hown hvb
  have hne : ((n : Int) == (n : Int)) = true := by simp
  by_cases hcn : c = n
  all_goals
   first | (have hcn2 : (if c = n then a else Option.map (fun x => x.add n) a) = a := if_pos hcn) | (have hcn2 : (if c = n then a else Option.map (fun x => x.add n) a) = Option.map (fun x => x.add n) a := if_neg hcn)
  all_goals
   go_enter Tryz.func191, Tryz.ntmps191
   go_wp2_with (at_builtin; go_must (refine wpList_append_gf _ rfl _ _ 53 rfl base 62 i0 (.agg #[.string ⟨#[]⟩, .int .i32 0, .int .i64 0, .string ⟨#[]⟩]) 4 48 Tryz.underlying53 hi hz0 hz1 hz2 rfl (by decide) _ n _ rfl HO.out ⟨vb, 0, none⟩ 1 1 x rfl (by have := HL.out; omega) HN.out HX.out k2 k3 hb ?_); intro v' w2 hown' hgf _)
   go_ret
   exact ⟨v', rfl, hown', hgf⟩

set_option maxRecDepth 100000 in
set_option maxHeartbeats 4000000 in
theorem insS_room (base g i r c : Nat) (xs ys : List Value) (w : World) (hown : w.ownsRow base 62 4 (.slice (some ⟨g, 0, none⟩) (i + r) c) (i + r) (xs ++ ys)) (hr : 0 < r) (hxl : xs.length = (i * 4)) (hyl : ys.length = (r * 4)) (_hb : base ≤ w.heap.size) (hn : i + r ≤ 1099511627776)
    (hnc : i + r + 1 ≤ c) (hy1 : ∀ u ∈ ys, u.oneCell' = true)
    (vb : Nat) (hvg : vb ≠ g) (x : List Value) (hx : x.length = 4) (hvb : w.heap[vb]? = some (.cells x.toArray 62 (0, 0))) (hx1 : ∀ u ∈ x, u.oneCell' = true) :
    Calls Tryz.prog 191 #[.slice (some ⟨g, 0, none⟩) (i + r) c, .int .i64 i, .slice (some ⟨vb, 0, none⟩) 1 1] w (GivesRow w base (.slice (some ⟨g, 0, none⟩) (i + r) c) 62 4 (i + r + 1) (xs ++ (x ++ ys))) := by
  obtain ⟨i0, hi, hz0, hz1, hz2⟩ := info_parts info62i
  have hsz : ∀ w, (Go.sizeOf 62).run Tryz.prog w = .ok 4 w := fun w => by simp [sizeOf, typeInfo, hi, hz1]
  have hlow := own_low hown g rfl
  have hglt := own_lt hown g rfl
  obtain ⟨cur, hgc, hcm, hcs, htake⟩ : ∃ cur, w.heap[g]? = some (.cells cur 62 (0, 0)) ∧ c ≤ maxLen ∧ cur.size = c * 4 ∧ cur.toList.take ((i + r) * 4) = xs ++ ys := by
    rcases hown.2 with ⟨h, _⟩ | ⟨g', c', cur, h, _, hg, _, hm, hs, ht⟩
    · cases h
    · cases h; exact ⟨cur, hg, hm, hs, ht⟩
  obtain ⟨zs, hcz⟩ : ∃ zs, cur.toList = (xs ++ ys) ++ zs := ⟨_, by rw [← htake]; exact (List.take_append_drop ((i + r) * 4) cur.toList).symm⟩
  have hcl : cur.toList.length = c * 4 := by rw [Array.length_toList]; exact hcs
  have hzl : zs.length = (c - (i + r)) * 4 := by
    have := congrArg List.length hcz
    rw [hcl] at this
    simp only [List.length_append, hxl, hyl] at this
    omega
  have hcur : w.heap[g]? = some (.cells (xs ++ (ys ++ zs)).toArray 62 (0, 0)) := by rw [hgc, ← List.append_assoc, ← hcz]
  have hov : ∀ lb cb, (callFunc 227 #[.slice (some ⟨vb, 0, none⟩) 1 1, .slice (some ⟨g, ((i + 1) * 4), none⟩) lb cb]).run Tryz.prog w = .ok (.value (.bool false)) w := fun lb cb => by
    rw [run_callFunc_extern (f := 227) (fn := Tryz.f227) (by kernel_rfl) (by kernel_rfl) (by kernel_rfl) (by kernel_rfl) (e := Extern.SlicesOverlaps.overlaps #[53, 53] #[4]) (by kernel_rfl),
      Lib.run_overlaps_apart w 53 4 62 Tryz.underlying53 4 hsz ⟨vb, 0, none⟩ ⟨g, ((i + 1) * 4), none⟩ 1 1 lb cb hvg 62 62 4 (c * 4) (by simp [World.shape?, hvb, hx]) (by simp [World.shape?, hgc, hcs]) (by omega) (by simp [World.frozen?, hvb]) (by simp [World.frozen?, hvb])]
    rfl
  have hw1 : IntKind.i64.wrap ((i : Int) + (r : Int) + 1) = (i : Int) + r + 1 := by rw [IntKind.wrap_i64]; omega
  have hw3 : IntKind.i64.wrap ((i : Int) + 1) = (i : Int) + 1 := by rw [IntKind.wrap_i64]; omega
  have HSZ : Hid ((Tryz.prog.info? 62).map (·.size) = some 4) := show _ = _ by simp [hi, hz1]
  have hm : Nat.min (i + r + 1 - i) r = r := by
    rw [show i + r + 1 - i = r + 1 by omega]; exact Nat.min_eq_right (by omega)
  obtain ⟨w2, HW2, HB2, hr2⟩ := run_copy_to (P := Tryz.prog) w.drew 53 53 3 62 4 g ((i + 1) * 4) r (c - (i + 1)) ⟨g, (i * 4), none⟩ (i + r + 1 - i) (c - i) (xs ++ (ys ++ zs)) 62 ys r Tryz.underlying53 HSZ.out hcur
    hm.symm (by rw [hyl]; try omega) (fun j u hu => by
          rw [addr_add, World.cell?_drew, cell_at hcur]
          show (xs ++ (ys ++ zs)).toArray[(i * 4) + j]? = some u
          rw [List.getElem?_toArray, ← hxl, List.getElem?_append_right (Nat.le_add_right ..), Nat.add_sub_cancel_left, List.getElem?_append_left (List.getElem?_eq_some_iff.1 hu).1]
          exact hu) (by simp only [List.length_append, hxl, hyl, hzl]; omega) hy1
  have hfit3 : (i * 4) + x.length ≤ (splice (xs ++ (ys ++ zs)) ((i + 1) * 4) ys).length := by
    rw [length_splice _ _ _ (by simp only [List.length_append, hxl, hyl, hzl]; omega)]; simp only [List.length_append, hxl, hyl, hzl, hx]; omega
  obtain ⟨w3, HW3, HB3, hr3⟩ := run_copy_to (P := Tryz.prog) w2 53 53 3 62 4 g (i * 4) (i + r + 1 - i) (c - i) ⟨vb, 0, none⟩ 1 1 (splice (xs ++ (ys ++ zs)) ((i + 1) * 4) ys) 62 x 1 Tryz.underlying53 HSZ.out HW2.out
    (by rw [show i + r + 1 - i = r + 1 by omega]; exact (Nat.min_eq_left (by omega)).symm) (by rw [hx]) (fun j u hu => by
          rw [addr_add, cell_at ((HB2.out.block vb hvg).trans hvb)]; simpa using hu) hfit3 hx1
  have HFIN : Hid ((splice (splice (xs ++ (ys ++ zs)) ((i + 1) * 4) ys) (i * 4) x).length = c * 4 ∧ (splice (splice (xs ++ (ys ++ zs)) ((i + 1) * 4) ys) (i * 4) x).take ((i + r + 1) * 4) = xs ++ (x ++ ys)) := by
    refine ⟨?_, ?_⟩
    · rw [length_splice _ _ _ hfit3, length_splice _ _ _ (by simp only [List.length_append, hxl, hyl, hzl]; omega)]
      simp only [List.length_append, hxl, hyl, hzl]; omega
    · have e := room_row xs ys zs x (by rw [hx, hzl]; omega)
      rw [hxl, hyl, hx] at e
      rw [show (i + r + 1) * 4 = (i * 4) + 4 + (r * 4) by omega, show ((i + 1) * 4) = (i * 4) + 4 by omega]
      exact e
  have HOnly : Hid (Only g w w3) := (Only.drew w g).trans (HB2.out.trans HB3.out)
  have hlen : (xs ++ (x ++ ys)).length = (i + r + 1) * 4 := by simp only [List.length_append, hxl, hyl, hx]; omega
  have HLEN := Lib.hid hlen
  clear hown hgc hcs htake hcz hcl hzl hcur hfit3 hlen hvb hx1 hx hxl hyl hy1 HW2 HB2 HB3
  have HOV := hov
  have hne2 : ((i : Int) == (i : Int) + (r : Int)) = false := by simp; omega
  have hlt : ¬ ((c : Int) < (i : Int) + r + 1) := by omega
  have hb1 : (0 : Int) ≤ (i : Int) + 1 := by omega
  have hb2 : ¬ (c = i + 1) := by omega
  have hb4 : ¬ (c = i) := by omega
  have hb3 : (i : Int) + 1 ≤ (i : Int) + r + 1 := by omega
  have hb5 : (i : Int) ≤ (i : Int) + r + 1 := by omega
  have hb6 : (i : Int) + r + 1 ≤ (c : Int) := by omega
  have hb7 : (0 : Int) ≤ (i : Int) + r + 1 := by omega
  have ht1 : ((i : Int) + r + 1).toNat = i + r + 1 := by omega
  have ht2 : ((i : Int) + 1).toNat = i + 1 := by omega
  go_enter Tryz.func191, Tryz.ntmps191
  go_wp2_with (fail)
  go_region
  go_wp2_with (fail)
  go_ret
  refine ⟨.slice (some ⟨g, 0, none⟩) (i + r + 1) c, rfl, ⟨HLEN.out, .inr ⟨g, c, (splice (splice (xs ++ (ys ++ zs)) ((i + 1) * 4) ys) (i * 4) x).toArray, rfl, hlow, HW3.out, hnc, hcm, ?_, ?_⟩⟩, ⟨HOnly.out.grown, ?_⟩⟩
  · rw [List.size_toArray]; exact HFIN.out.1
  · exact HFIN.out.2
  · intro k hk; exact .inl hk

set_option maxRecDepth 100000 in
set_option maxHeartbeats 4000000 in
theorem insS_grow (base g i r c : Nat) (xs ys : List Value) (w : World) (hown : w.ownsRow base 62 4 (.slice (some ⟨g, 0, none⟩) (i + r) c) (i + r) (xs ++ ys)) (hr : 0 < r) (hxl : xs.length = (i * 4)) (hyl : ys.length = (r * 4)) (hb : base ≤ w.heap.size) (hn : i + r ≤ 1099511627776)
    (hnc : c < i + r + 1) (hy1 : ∀ u ∈ ys, u.oneCell' = true)
    (vb : Nat) (x : List Value) (hx : x.length = 4) (hvb : w.heap[vb]? = some (.cells x.toArray 62 (0, 0))) (hx1 : ∀ u ∈ x, u.oneCell' = true) :
    Calls Tryz.prog 191 #[.slice (some ⟨g, 0, none⟩) (i + r) c, .int .i64 i, .slice (some ⟨vb, 0, none⟩) 1 1] w (GivesRow w base (.slice (some ⟨g, 0, none⟩) (i + r) c) 62 4 (i + r + 1) (xs ++ (x ++ ys))) := by
  obtain ⟨i0, hi, hz0, hz1, hz2⟩ := info_parts info62i
  have hvlt : vb < w.heap.size := (Array.getElem?_eq_some_iff.1 hvb).1
  have hlow := own_low hown g rfl
  have hglt := own_lt hown g rfl
  have hcell : ∀ j u, (xs ++ ys)[j]? = some u → w.cell? (Addr.add ⟨g, 0, none⟩ j) = some u := hown.cells (g := g) rfl
  have hc : i + r ≤ c := own_cap hown
  have hce : c = i + r := by omega
  have HOL : Hid (∀ j u, xs[j]? = some u → w.cell? (Addr.add ⟨g, 0, none⟩ j) = some u) := show ∀ j u, xs[j]? = some u → w.cell? (Addr.add ⟨g, 0, none⟩ j) = some u from fun j u hu => hcell j u (by rw [List.getElem?_append_left (List.getElem?_eq_some_iff.1 hu).1]; exact hu)
  have HOR : Hid (∀ j u, ys[j]? = some u → w.cell? (Addr.add ⟨g, (i * 4), none⟩ j) = some u) := show ∀ j u, ys[j]? = some u → w.cell? (Addr.add ⟨g, (i * 4), none⟩ j) = some u from fun j u hu => by
    have := hcell ((i * 4) + j) u (by rw [← hxl, List.getElem?_append_right (Nat.le_add_right ..), Nat.add_sub_cancel_left]; exact hu)
    rw [addr_add] at this ⊢
    simpa using this
  have hnews : ∀ (j : Nat) (u : Value), x[j]? = some u → w.cell? (Addr.add ⟨vb, 0, none⟩ j) = some u := fun j u hu => by
    rw [addr_add, cell_at hvb]; simpa using hu
  have HN := Lib.hid hnews
  have HX := Lib.hid hx1
  have HY := Lib.hid hy1
  have HL := Lib.hid hx
  have HXL := Lib.hid hxl
  have HYL := Lib.hid hyl
  have HV := Lib.hid hvb
  have HSZ : Hid ((Tryz.prog.info? 62).map (·.size) = some 4) := show _ = _ by simp [hi, hz1]
  have h63 : ((i + (r + 1) : Nat) : Int) ≤ 9223372036854775807 := by omega
  have h48 : (r + 1) * i0.bytes ≤ 281474976710656 := by rw [hz2]; omega
  have hfit : Builtin.nextslicecap (i + (r + 1)) (i + r) * i0.bytes ≤ 281474976710656 := by rw [hz2]; exact growslice_fits (by omega) (by omega)
  clear hnews hx hx1 hown hvb hcell hy1 hyl hxl hnc
  subst hce
  have hne : ((i : Int) == ((i + r : Nat) : Int)) = false := by simp; omega
  have hne2 : ((i : Int) == (i : Int) + (r : Int)) = false := by simp; omega
  have hw1 : IntKind.i64.wrap ((i : Int) + (r : Int) + 1) = (i : Int) + r + 1 := by rw [IntKind.wrap_i64]; omega
  have hw2 : IntKind.i64.wrap ((i : Int) + r + 1 - i) = ((r + 1 : Nat) : Int) := by rw [IntKind.wrap_i64]; omega
  have hw3 : IntKind.i64.wrap ((i : Int) + 1) = ((i + 1 : Nat) : Int) := by rw [IntKind.wrap_i64]; omega
  have hri : ¬ (i + r = i) := by omega
  have hlt : ((i : Int) + r < (i : Int) + r + 1) := by omega
  go_enter Tryz.func191, Tryz.ntmps191
  go_wp2_with (first
    | (at_builtin; go_must (refine wpList_zeros rfl (.tmp 34) (.tmp 39) 53 3 rfl 62 i0 (.agg #[.string ⟨#[]⟩, .int .i32 0, .int .i64 0, .string ⟨#[]⟩]) .i64 .i64 4 Tryz.underlying53 Tryz.underlying3 hi hz0 hz1 rfl g i (i + r) (r + 1) xs (by simpa using HXL.out) HOL.out (by rfl) (by rfl) (by omega) (by decide) (by omega) h63 h48 hfit ?_); intro w1 c1 zs HW1 HZL hc1 hc2 HB1 HS1)
    | (with_reducible refine wpList_copy_k rfl (.tmp 43) (.tmp 44) 53 53 rfl 62 4 Tryz.underlying53 HSZ.out w.heap.size (i * 4) (r + 1) (c1 - i) ⟨vb, 0, none⟩ 1 1 rfl rfl (xs ++ zs) 62 HW1.out x ?c1 ?c2 ?c3 HX.out ?next)
    )
  case c1 => rw [HL.out, show Nat.min 1 (r + 1) = 1 from Nat.min_eq_left (by omega)]
  case c2 => intro j u hu; rw [addr_add, cell_at ((HB1.out.block vb hvlt).trans HV.out)]; simpa using hu
  case c3 => rw [List.length_append, HXL.out, HL.out, HZL.out]; omega
  intro w2 HW2 HB2
  go_wp2_with (fail)
  have hg1 : ((0 : Int) ≤ (i : Int) + 1 ∧ (1 : Int) ≤ (r : Int) + 1) := by omega
  have hci : ¬ (c1 = i + 1) := by omega
  have hg2 : (i : Int) ≤ (i : Int) + r := by omega
  have hr0 : ¬ (r = 0) := by omega
  have hfit2 : ((i + 1) * 4) + ys.length ≤ (splice (xs ++ zs) (i * 4) x).length := by
    rw [length_splice _ _ _ (by rw [List.length_append, HXL.out, HL.out, HZL.out]; omega), List.length_append, HXL.out, HZL.out, HYL.out]; omega
  have HF2 := Lib.hid hfit2
  clear hfit2
  obtain ⟨w3, HW3, HB3, hr3⟩ := run_copy_to (P := Tryz.prog) w2.drew 53 53 3 62 4 w.heap.size ((i + 1) * 4) (i + (r + 1) - (i + 1)) (c1 - (i + 1)) ⟨g, (i * 4), none⟩ r r (splice (xs ++ zs) (i * 4) x) 62 ys r Tryz.underlying53 HSZ.out HW2.out
    (show r = Nat.min r (i + (r + 1) - (i + 1)) from (Nat.min_eq_left (by omega)).symm) (by rw [HYL.out]; try omega) (fun j u hu => by
          have h := HOR.out j u hu
          rw [addr_add] at h ⊢
          rw [World.cell?_drew]
          refine (cell_block ((HB2.out.block g (by omega)).trans (HB1.out.block g hglt)) _ rfl).trans ?_
          exact h) HF2.out HY.out
  go_region
  go_wp2_with (fail)
  go_ret
  refine ⟨.slice (some ⟨w.heap.size, 0, none⟩) (i + (r + 1)) c1, rfl, ⟨?_, .inr ⟨w.heap.size, c1, (splice (splice (xs ++ zs) (i * 4) x) ((i + 1) * 4) ys).toArray, rfl, hb, HW3.out, hc1, hc2, ?_, ?_⟩⟩, ⟨?_, ?_⟩⟩
  · simp only [List.length_append, HXL.out, HL.out, HYL.out]; omega
  · rw [List.size_toArray, length_splice _ _ _ HF2.out, length_splice _ _ _ (by rw [List.length_append, HXL.out, HL.out, HZL.out]; omega), List.length_append, HXL.out, HZL.out]; omega
  · have e := ins_row xs ys x zs
    rw [HXL.out, HL.out, HYL.out] at e
    rw [show (i + r + 1) * 4 = (i * 4) + 4 + (r * 4) by omega, show ((i + 1) * 4) = (i * 4) + 4 by omega]
    exact e
  · have hbb := (HB1.out.trans ((HB2.out.trans ((Only.drew w2 _).trans HB3.out)).below (Nat.le_refl _)))
    exact (GF.of_below hbb (.slice (some ⟨g, 0, none⟩) (i + r) (i + r))).grown
  · intro k hk; cases hk; exact .inr (Nat.le_refl _)

theorem insS_any (base : Nat) (s : Value) (i r : Nat) (xs ys : List Value) (w : World) (hown : w.ownsRow base 62 4 s (i + r) (xs ++ ys)) (hxl : xs.length = (i * 4)) (hyl : ys.length = (r * 4)) (hb : base ≤ w.heap.size) (hn : i + r ≤ 1099511627776)
    (hy1 : ∀ u ∈ ys, u.oneCell' = true) (vb : Nat) (hvg : ∀ k, s.ownBlock = some k → vb ≠ k) (x : List Value) (hx : x.length = 4) (hvb : w.heap[vb]? = some (.cells x.toArray 62 (0, 0))) (hx1 : ∀ u ∈ x, u.oneCell' = true) :
    Calls Tryz.prog 191 #[s, .int .i64 i, .slice (some ⟨vb, 0, none⟩) 1 1] w (GivesRow w base s 62 4 (i + r + 1) (xs ++ (x ++ ys))) := by
  by_cases hr : r = 0
  · subst hr
    obtain rfl : ys = [] := List.eq_nil_of_length_eq_zero (by simpa using hyl)
    rw [List.append_nil]
    exact insS_end base s i xs w (by simpa using hown) hb hn vb x hx hvb hx1
  · obtain ⟨a, c, rfl⟩ := own_slice hown
    obtain ⟨g, rfl⟩ : ∃ g, a = some ⟨g, 0, none⟩ := by
      rcases hown.2 with ⟨h, h0⟩ | ⟨g, c', cur, h, _⟩
      · omega
      · cases h; exact ⟨g, rfl⟩
    by_cases hc : i + r + 1 ≤ c
    · exact insS_room base g i r c xs ys w hown (by omega) hxl hyl hb hn hc hy1 vb (hvg g rfl) x hx hvb hx1
    · exact insS_grow base g i r c xs ys w hown (by omega) hxl hyl hb hn (by omega) hy1 vb x hx hvb hx1
end Go.Proofs.YtakbacfhcllioaaGreatDoor
