/- Copies between rows of elements of any width, and the append of zeros. -/
import Derived.Test.YtakbacfhcllioaaGreatDoorAp
import Derived.Lib.AppendZerosOnto
import Derived.Laws.CopyOwn
import Derived.Deep.RegionLaw
namespace Go.Proofs.YtakbacfhcllioaaGreatDoor
open Go.RowKit

/-- Only the block g may have turned. -/
structure Only (g : Nat) (w w' : World) : Prop where
  os : w'.os = w.os
  tape : w'.tape = w.tape
  output : w'.output = w.output
  size : w'.heap.size = w.heap.size
  block : ∀ k, k ≠ g → w'.heap[k]? = w.heap[k]?

theorem Only.refl (g : Nat) (w : World) : Only g w w := ⟨rfl, rfl, rfl, rfl, fun _ _ => rfl⟩
theorem Only.trans {g : Nat} {w w1 w2 : World} (h : Only g w w1) (k : Only g w1 w2) : Only g w w2 :=
  ⟨k.os.trans h.os, k.tape.trans h.tape, k.output.trans h.output, k.size.trans h.size, fun j hj => (k.block j hj).trans (h.block j hj)⟩
theorem Only.setRow (w : World) (g : Nat) (cs : Array Value) : Only g w (w.setRow g cs) := ⟨rfl, rfl, rfl, by simp [World.setRow], fun k hk => setRow_other w g k cs hk⟩
theorem Only.drew (w : World) (g : Nat) : Only g w w.drew := ⟨rfl, rfl, rfl, rfl, fun _ _ => rfl⟩
theorem Only.below {g B : Nat} {w w' : World} (h : Only g w w') (hg : B ≤ g) : Below B w w' :=
  ⟨h.os, h.tape, h.output, by rw [h.size]; exact Nat.le_refl _, fun k hk => h.block k (by omega)⟩
theorem Only.grown {g : Nat} {w w' : World} (h : Only g w w') : w.grownBy w' (some g) :=
  ⟨h.os, h.tape, h.output, by rw [h.size]; exact Nat.le_refl _, fun k _ hk => h.block k (fun e => hk (by rw [e]))⟩

theorem cell_block {w w' : World} {g : Nat} (h : w'.heap[g]? = w.heap[g]?) (a : Addr) (ha : a.block = g) : w'.cell? a = w.cell? a := by
  subst ha; unfold World.cell?; rw [h]

theorem splice_app (xs zs x : List Value) (n : Nat) (hn : xs.length = n) : splice (xs ++ zs) n x = (xs ++ x) ++ zs.drop x.length := by
  subst hn
  unfold splice
  rw [List.take_left' rfl, List.drop_append, List.drop_of_length_le (l := xs) (by omega), List.nil_append, Nat.add_sub_cancel_left, List.append_assoc]

theorem ins_row (xs ys x zs : List Value) :
    (splice (splice (xs ++ zs) xs.length x) (xs.length + x.length) ys).take (xs.length + x.length + ys.length) = xs ++ (x ++ ys) := by
  rw [splice_app xs zs x _ rfl, splice_app (xs ++ x) _ ys _ (by simp), List.take_append_of_le_length (by simp; omega), List.take_of_length_le (by simp; omega), List.append_assoc]

theorem room_row (xs ys zs x : List Value) (h : x.length ≤ zs.length) :
    (splice (splice (xs ++ (ys ++ zs)) (xs.length + x.length) ys) xs.length x).take (xs.length + x.length + ys.length) = xs ++ (x ++ ys) := by
  obtain ⟨d, e, he, hd⟩ : ∃ d e, ys ++ zs = d ++ e ∧ d.length = x.length := ⟨(ys ++ zs).take x.length, (ys ++ zs).drop x.length, (List.take_append_drop ..).symm, by rw [List.length_take, List.length_append]; omega⟩
  rw [he, ← List.append_assoc xs d e, splice_app (xs ++ d) e ys _ (by rw [List.length_append, hd])]
  rw [List.append_assoc (xs ++ d), List.append_assoc xs d, splice_app xs _ x _ rfl]
  rw [List.drop_append, List.drop_of_length_le (l := d) (by omega), List.nil_append, show x.length - d.length = 0 by omega, List.drop_zero, ← List.append_assoc,
    List.take_append_of_le_length (by simp; omega), List.take_of_length_le (by simp; omega), List.append_assoc]

section
variable {P : Program}
theorem run_copy_k (w : World) (dT sT ty elem : TypeId) (size g o dLen dCap : Nat) (a : Addr) (sLen sCap : Nat) (cur : Array Value) (t : TypeId) (cs : List Value)
    (hu : P.underlying dT = some (.slice elem)) (hs : (P.info? elem).map (·.size) = some size)
    (hg : w.heap[g]? = some (.cells cur t (0, 0))) (hn : cs.length = Nat.min sLen dLen * size)
    (hsrc : ∀ j v, cs[j]? = some v → w.cell? (a.add j) = some v) (hfit : o + cs.length ≤ cur.size) (h1 : ∀ v ∈ cs, v.oneCell' = true) :
    (Builtin.copy_ #[dT, sT] ty #[.slice (some ⟨g, o, none⟩) dLen dCap, .slice (some a) sLen sCap]).run P w =
      .ok (goInt (Nat.min sLen dLen)) (w.setRow g (cur.toList.take o ++ cs ++ cur.toList.drop (o + cs.length)).toArray) := by
  have hl := run_loadCells_list (P := P) w a cs hsrc
  have hst := run_storeCells_at P g o t cs 0 cur w hg (by simpa using hfit) h1
  cases hq : P.info? elem with
  | none => simp [hq] at hs
  | some i =>
    have hi : i.size = size := by simpa [hq] using hs
    simp [Builtin.copy_, run_underlying hu, Builtin.lenOf, Builtin.firstCells, sizeOf, typeInfo, hq, hi, ← hn, hl, hst]

/-- .. as an equation at a world behind it of which the row is known. -/
theorem run_copy_to (w : World) (dT sT ty elem : TypeId) (size g o dLen dCap : Nat) (a : Addr) (sLen sCap : Nat) (cur : List Value) (t : TypeId) (cs : List Value) (m : Nat)
    (hu : P.underlying dT = some (.slice elem)) (hs : (P.info? elem).map (·.size) = some size)
    (hg : w.heap[g]? = some (.cells cur.toArray t (0, 0))) (hm : m = Nat.min sLen dLen) (hn : cs.length = m * size)
    (hsrc : ∀ j v, cs[j]? = some v → w.cell? (a.add j) = some v) (hfit : o + cs.length ≤ cur.length) (h1 : ∀ v ∈ cs, v.oneCell' = true) :
    ∃ w', Hid (w'.heap[g]? = some (.cells (splice cur o cs).toArray t (0, 0))) ∧ Hid (Only g w w') ∧
    (Builtin.copy_ #[dT, sT] ty #[.slice (some ⟨g, o, none⟩) dLen dCap, .slice (some a) sLen sCap]).run P w = .ok (goInt m) w' := by
  refine ⟨_, ?_, ?_, hm ▸ run_copy_k (P := P) w dT sT ty elem size g o dLen dCap a sLen sCap cur.toArray t cs hu hs hg (hm ▸ hn) hsrc (by simpa using hfit) h1⟩
  · show _ = _
    simpa [splice] using setRow_heap w g _ _ t _ hg
  · exact Only.setRow w g _

variable {w : World} {ops : Array Oper} {rest : List Oper} {o : Oper} {a : Act} {Q : Exit → Act → World → Prop} {K : Act → World → Prop}

theorem wp_copy_k (d s : Operand) (dT sT : TypeId)
    (ho : o.op = .call { callee := .builtin .copy, args := #[d, s], argTypes := #[dT, sT] }) (elem : TypeId) (size : Nat) (hu : P.underlying dT = some (.slice elem)) (hsz : (P.info? elem).map (·.size) = some size)
    (g off dLen dCap : Nat) (ad : Addr) (sLen sCap : Nat) (hd : a.eval d = .slice (some ⟨g, off, none⟩) dLen dCap) (hs : a.eval s = .slice (some ad) sLen sCap)
    (cur : List Value) (t : TypeId) (hg : w.heap[g]? = some (.cells cur.toArray t (0, 0))) (cs : List Value) (hn : cs.length = Nat.min sLen dLen * size)
    (hsrc : ∀ j v, cs[j]? = some v → w.cell? (ad.add j) = some v) (hfit : off + cs.length ≤ cur.length) (h1 : ∀ v ∈ cs, v.oneCell' = true)
    (h : ∀ w', Hid (w'.heap[g]? = some (.cells (splice cur off cs).toArray t (0, 0))) → Hid (Only g w w') → K (a.put o.dst (goInt (Nat.min sLen dLen))) w') : o.wp P a w K Q := by
  have hrun := run_copy_k (P := P) w dT sT o.type elem size g off dLen dCap ad sLen sCap cur.toArray t cs hu hsz hg hn hsrc (by simpa using hfit) h1
  unfold Oper.wp
  simp [execOp, ho, resolve, invoke, builtin, hd, hs, hrun, Result.andThen]
  exact h _ (show _ = _ by simpa [splice] using setRow_heap w g _ _ t _ hg) (show Only _ _ _ from Only.setRow w g _)

theorem wpList_copy_k (hgd : o.guard = none) (d s : Operand) (dT sT : TypeId)
    (ho : o.op = .call { callee := .builtin .copy, args := #[d, s], argTypes := #[dT, sT] }) (elem : TypeId) (size : Nat) (hu : P.underlying dT = some (.slice elem)) (hsz : (P.info? elem).map (·.size) = some size)
    (g off dLen dCap : Nat) (ad : Addr) (sLen sCap : Nat) (hd : a.eval d = .slice (some ⟨g, off, none⟩) dLen dCap) (hs : a.eval s = .slice (some ad) sLen sCap)
    (cur : List Value) (t : TypeId) (hg : w.heap[g]? = some (.cells cur.toArray t (0, 0))) (cs : List Value) (hn : cs.length = Nat.min sLen dLen * size)
    (hsrc : ∀ j v, cs[j]? = some v → w.cell? (ad.add j) = some v) (hfit : off + cs.length ≤ cur.length) (h1 : ∀ v ∈ cs, v.oneCell' = true)
    (h : ∀ w', Hid (w'.heap[g]? = some (.cells (splice cur off cs).toArray t (0, 0))) → Hid (Only g w w') → wpList P ops Q rest (a.put o.dst (goInt (Nat.min sLen dLen))) w') :
    wpList P ops Q (o :: rest) a w :=
  wpList_plain hgd fun _K hK => wp_copy_k d s dT sT ho elem size hu hsz g off dLen dCap ad sLen sCap hd hs cur t hg cs hn hsrc hfit h1 fun w' x y => hK _ _ (h w' x y)

theorem step_copy_k {E : Prop} (hgd : o.guard = none) (d s : Operand) (dT sT : TypeId)
    (ho : o.op = .call { callee := .builtin .copy, args := #[d, s], argTypes := #[dT, sT] }) (elem : TypeId) (size : Nat) (hu : P.underlying dT = some (.slice elem)) (hsz : (P.info? elem).map (·.size) = some size)
    (g off dLen dCap : Nat) (ad : Addr) (sLen sCap : Nat) (hd : a.eval d = .slice (some ⟨g, off, none⟩) dLen dCap) (hs : a.eval s = .slice (some ad) sLen sCap)
    (cur : List Value) (t : TypeId) (hg : w.heap[g]? = some (.cells cur.toArray t (0, 0))) (cs : List Value) (hn : cs.length = Nat.min sLen dLen * size)
    (hsrc : ∀ j v, cs[j]? = some v → w.cell? (ad.add j) = some v) (hfit : off + cs.length ≤ cur.length) (h1 : ∀ v ∈ cs, v.oneCell' = true)
    (h : ∀ w', Hid (w'.heap[g]? = some (.cells (splice cur off cs).toArray t (0, 0))) → Hid (Only g w w') → K (a.put o.dst (goInt (Nat.min sLen dLen))) w') :
    if Region.wanted o (yielded ops a.tmps) = true then Oper.wp P o a w K Q else E := by
  have hw : Region.wanted o (yielded ops a.tmps) = true := by simp [Region.wanted, hgd]
  rw [if_pos hw]
  exact wp_copy_k d s dT sT ho elem size hu hsz g off dLen dCap ad sLen sCap hd hs cur t hg cs hn hsrc hfit h1 h

/-- The append of k zeros where there is no room: a new row. -/
theorem wpList_zeros (hgd : o.guard = none) (s x : Operand) (t tn : TypeId)
    (ho : o.op = .call { callee := .builtin .append, args := #[s, x], argTypes := #[t, tn] })
    (e : TypeId) (i : TypeInfo) (z : Value) (kq kn : IntKind) (size : Nat) (ht : P.underlying t = some (.slice e)) (htn : P.underlying tn = some (.int kn)) (hi : P.info? e = some i) (hz : i.zero = some z) (hsize : i.size = size)
    (hzs : z.cells.size = size) (g sLen sCap k : Nat) (olds : List Value) (hol : olds.length = sLen * size) (hold : ∀ j u, olds[j]? = some u → w.cell? (Addr.add ⟨g, 0, none⟩ j) = some u)
    (hs : a.eval s = .slice (some ⟨g, 0, none⟩) sLen sCap) (hx : a.eval x = .int kq k) (h0 : 0 < k) (hsz : 0 < size) (hg : sCap < sLen + k)
    (h63 : ((sLen + k : Nat) : Int) ≤ 9223372036854775807) (h48 : k * i.bytes ≤ 281474976710656) (hfit : Builtin.nextslicecap (sLen + k) sCap * i.bytes ≤ 281474976710656)
    (h : ∀ w' c' zs, Hid (w'.heap[w.heap.size]? = some (.cells (olds ++ zs).toArray e (0, 0))) → Hid (zs.length = (c' - sLen) * size) → sLen + k ≤ c' → c' ≤ maxLen → Hid (Below w.heap.size w w') → Hid (w'.heap.size = w.heap.size + 1) →
      wpList P ops Q rest (a.put o.dst (.slice (some ⟨w.heap.size, 0, none⟩) (sLen + k) c')) w') : wpList P ops Q (o :: rest) a w := by
  subst hsize
  have hf : (Builtin.firstCells i.size sLen (.slice (some ⟨g, 0, none⟩) sLen sCap)).run P w.drew = .ok olds.toArray w.drew := run_firstCells_some w.drew i.size sLen ⟨g, 0, none⟩ sLen sCap olds hol hold
  have hr := Lib.run_append_grow_zeros (P := P) w t tn o.type e i z kq kn ht htn hi hz (some ⟨g, 0, none⟩) sLen sCap olds hf k h0 hsz hg h63 h48 hfit
  have hge := grownCap_ge w (sLen + k) sCap e
  have hle := grownCap_le_maxLen w (sLen + k) sCap e (by unfold maxLen; omega)
  have hzc : ∀ m, (Builtin.zeroCells z.cells m).size = m * i.size := fun m => by rw [Go.size_zeroCells, hzs]
  refine wpList_plain hgd fun _ hK => ?_
  unfold Oper.wp execOp
  simp only [ho, resolve, invoke, builtin, Sem.run_bind, Sem.run_pure, Result.andThen_ok, List.map_toArray, List.map_cons, List.map_nil, hs, hx, hr]
  refine hK _ _ (h _ (grownCap w (sLen + k) sCap e) ((Builtin.zeroCells z.cells k).toList ++ (Builtin.zeroCells z.cells (grownCap w (sLen + k) sCap e - (sLen + k))).toList) ?_ ?_ hge hle ?_ ?_)
  · show _ = _
    exact (heap_alloc_new w.drew _).trans (by simp)
  · show _ = _
    rw [List.length_append, Array.length_toList, Array.length_toList, hzc, hzc, ← Nat.add_mul]
    congr 1
    omega
  · show Below _ _ _
    exact ⟨rfl, rfl, rfl, (by rw [show (w.drew.alloc _).heap.size = w.drew.heap.size + 1 from Array.size_push ..]; exact Nat.le_succ _), fun j hj => heap_alloc_old w.drew _ _ hj⟩
  · exact Array.size_push ..
end
end Go.Proofs.YtakbacfhcllioaaGreatDoor
