/- normal.whole: a point's full decomposition behind what is there. -/
import Derived.Test.YtakbacfhcllioaaGreatDoorAp
import Derived.Outline
namespace Go.Proofs.YtakbacfhcllioaaGreatDoor
open Go.RowKit

/-- Decompositions come to an end within so many steps. -/
def Ends (m : PM) : Nat → Int → Prop
  | 0, r => decP m r = []
  | d + 1, r => ∀ x ∈ decP m r, Ends m d x
/-- A point's full decomposition, within so many steps. -/
def fullN (m : PM) : Nat → Int → List Int
  | 0, r => [r]
  | d + 1, r => if decP m r = [] then [r] else (decP m r).flatMap (fullN m d)

theorem Ends.succ {m : PM} : ∀ {d : Nat} {r : Int}, Ends m d r → Ends m (d + 1) r
  | 0, r, h => by intro x hx; rw [show decP m r = [] from h] at hx; cases hx
  | d + 1, r, h => fun x hx => Ends.succ (h x hx)
theorem fullN_succ {m : PM} : ∀ {d : Nat} {r : Int}, Ends m d r → fullN m (d + 1) r = fullN m d r
  | 0, r, h => by simp [fullN, show decP m r = [] from h]
  | d + 1, r, h => by
    rw [fullN, fullN]
    by_cases c : decP m r = []
    · simp [c]
    · rw [if_neg c, if_neg c, List.flatMap_def, List.flatMap_def, List.map_congr_left fun x hx => fullN_succ (h x hx)]

theorem own_cell {w : World} {base : Nat} {v : Value} {l : List Int} (h : OwnR w base v l) {k : Nat} (hk : k < l.length) : ∃ g cap, v = .slice (some ⟨g, 0, none⟩) l.length cap ∧ base ≤ g ∧ g < w.heap.size ∧ ∀ j, j < l.length → w.cell? ⟨g, j, none⟩ = some (.int .i32 (l[j]?.getD 0)) := by
  rcases h.2 with ⟨_, hn⟩ | ⟨g, cap, cur, hv, hb, hg, hn, hcap, hsz, hx⟩
  · omega
  · refine ⟨g, cap, hv, hb, (Array.getElem?_eq_some_iff.1 hg).1, fun j hj => ?_⟩
    rw [cell_at hg, ← Array.getElem?_toList]
    have e : (cur.toList.take (l.length * 1))[j]? = (l.map (Value.int .i32))[j]? := by rw [hx]
    rw [List.getElem?_take_of_lt (by omega)] at e
    rw [e]
    simp [List.getElem?_eq_getElem hj]

theorem own_slice {w : World} {base : Nat} {e : TypeId} {size : Nat} {v : Value} {n : Nat} {xs : List Value} (h : w.ownsRow base e size v n xs) : ∃ a c, v = .slice a n c := by
  rcases h.2 with ⟨e, rfl⟩ | ⟨g, cap, cur, e, _⟩
  · exact ⟨_, _, e⟩
  · exact ⟨_, _, e⟩
theorem news_one (W : World) (x : Value) (t : TypeId) (k : Nat) (hk : W.heap.size = k) : ∀ (j : Nat) (u : Value), [x][j]? = some u → (W.alloc (.cells #[x] t)).cell? (Addr.add ⟨k, 0, none⟩ j) = some u := by
  subst hk
  intro j u hu
  obtain rfl : j = 0 := by have := (List.getElem?_eq_some_iff.1 hu).1; simpa using this
  rw [addr_add, cell_at (hp_new W _)]
  simpa using hu

/-- Hands back a row: what was there, and more behind it. -/
def GivesOn (w : World) (base : Nat) (out : Value) (l : List Int) (e : Ending) (w' : World) : Prop := ∃ v', e = .returned v' ∧ OwnR w' base v' l ∧ GF w out w' v'

set_option maxRecDepth 100000 in
set_option maxHeartbeats 1000000 in
theorem whole_leaf (bp n₀ : Nat) (m : PM) (hlen : ∀ x ∈ m.decomps, x.2.length ≤ 1099511627776) (r : Int) (he : decP m r = []) (out : Value) (l : List Int) (base : Nat) (w : World) (hp : IsProps n₀ w bp m) (hn : n₀ ≤ base) (hb : base ≤ w.heap.size)
    (ho : OwnR w base out l) (hl : l.length < 1099511627776) :
    Calls Tryz.prog 164 #[.pointer (some ⟨bp, 0, none⟩), .int .i32 r, out] w (GivesOn w base out (l ++ [r])) := by
  obtain ⟨i0, hi, hz0, hz1, hz2⟩ := info_parts info21
  have HD := Lib.hid (decomp_any bp n₀ m r w (by omega) hp hlen)
  rw [he] at HD
  have k2 : l.length + 1 ≤ maxLen := by unfold maxLen; omega
  have k3 : (l.length + 1) * 4 ≤ 140737488355328 := by omega
  have HO := Lib.hid ho
  clear hl ho he hp
  go_enter Tryz.func164, Tryz.ntmps164
  go_wp2_with (first
    | (go_at_call 162; refine HD.out.mono ?_; rintro e w1 ⟨v7, rfl, hv7, hB⟩; obtain ⟨a7, c7, rfl⟩ := own_slice hv7)
    | (at_builtin; refine wpList_append_gf _ rfl _ _ 27 rfl base 21 i0 (.int .i32 0) 1 4 Tryz.underlying27 hi hz0 hz1 hz2 rfl (by decide) _ l.length _ rfl (own_below HO.out (hB.trans ((Below.refl _ w1).alloc hB.size (.cells #[.int .i32 r] 21)))) ⟨w1.heap.size, 0, none⟩ 1 1 [.int .i32 r] rfl rfl (news_one _ _ _ _ rfl) (by simp [Value.oneCell']) k2 k3 (by have := hB.size; simp; omega) ?_; intro v' w2 hown' hgf _))
  go_ret
  exact ⟨v', rfl, by simpa [OwnR] using hown', (GF.of_below (hB.trans ((Below.refl _ w1).alloc hB.size (.cells #[.int .i32 r] 21))) out).trans hgf⟩

theorem dec_len {m : PM} (hlen : ∀ x ∈ m.decomps, x.2.length ≤ 1099511627776) (r : Int) : (decP m r).length ≤ 1099511627776 := by
  unfold decP
  split
  · split <;> simp
  · exact lookup_len hlen

set_option maxRecDepth 100000 in
set_option maxHeartbeats 2000000 in
theorem whole_any (bp n₀ : Nat) (m : PM) (hlen : ∀ x ∈ m.decomps, x.2.length ≤ 1099511627776) (base : Nat) (hn : n₀ ≤ base) : ∀ (d : Nat) (r : Int) (out : Value) (l : List Int) (w : World), Ends m d r → IsProps n₀ w bp m → base ≤ w.heap.size →
    OwnR w base out l → l.length + (fullN m d r).length ≤ 1099511627776 →
    Calls Tryz.prog 164 #[.pointer (some ⟨bp, 0, none⟩), .int .i32 r, out] w (GivesOn w base out (l ++ fullN m d r)) := by
  intro d
  induction d with
  | zero =>
    intro r out l w he hp hb ho hl
    exact whole_leaf bp n₀ m hlen r he out l base w hp hn hb ho (by simp [fullN] at hl; omega)
  | succ d ih =>
    intro r out l w he hp hb ho hl
    by_cases c : decP m r = []
    · rw [show fullN m (d + 1) r = [r] by simp [fullN, c]] at hl ⊢
      exact whole_leaf bp n₀ m hlen r c out l base w hp hn hb ho (by simp at hl; omega)
    · rw [show fullN m (d + 1) r = (decP m r).flatMap (fullN m d) by simp [fullN, c]] at hl ⊢
      obtain ⟨own, hown⟩ : ∃ own, decP m r = own := ⟨_, rfl⟩
      have HD := Lib.hid (decomp_any bp n₀ m r w (by omega) hp hlen)
      have he : ∀ x ∈ decP m r, Ends m d x := he
      rw [hown] at HD hl he c ⊢
      have hpos : 0 < own.length := List.length_pos_iff.2 c
      have hc0 : ((own.length : Int) == 0) = false := by simp; omega
      have hbd : own.length ≤ 1099511627776 := by rw [← hown]; exact dec_len hlen r
      have hlow := own_low ho
      have hlt := own_lt ho
      obtain ⟨ao, co, rfl⟩ := own_slice ho
      have HO := Lib.hid ho
      have HE := Lib.hid he
      have HI := Lib.hid ih
      have HL := Lib.hid hl
      have HP := Lib.hid hp
      have HW := Lib.hid hlow
      have HT := Lib.hid hlt
      clear ho he ih hl hp hown c hlow hlt
      go_enter Tryz.func164, Tryz.ntmps164
      go_wp2_with (go_at_call 162; refine HD.out.mono ?_; rintro e w1 ⟨v7, rfl, hv7, hB⟩; obtain ⟨a7, c7, rfl⟩ := own_slice hv7)
      obtain ⟨g7, cap7, e7, hg1, hg2, hc7⟩ := own_cell hv7 hpos
      cases e7
      have H7 := Lib.hid hc7
      have HV := Lib.hid hv7
      have HBB := Lib.hid hB
      clear hc7 hv7
      go_loopw [2, 22] (fun o i wr => ∃ k : Nat, k ≤ own.length ∧ i = .int .i64 k ∧ OwnR wr base o (l ++ (own.take k).flatMap (fullN m d)) ∧ GF w1 (.slice ao l.length co) wr o) (fun _ i _ => own.length - (intOf i).toNat)
      case atStart => exact ⟨0, Nat.zero_le _, rfl, by simpa [OwnR] using own_below HO.out hB, GF.refl _ _⟩
      case round =>
        obtain ⟨k, hk, rfl, ho', hgf⟩ := hrel
        have Ho' := Lib.hid ho'
        have Hgf := Lib.hid hgf
        clear ho' hgf
        by_cases hlt : k < own.length
        · obtain ⟨x, hx⟩ : ∃ x, own[k]?.getD 0 = x := ⟨_, rfl⟩
          have hx1 : own[k]? = some x := by rw [← hx]; simp [List.getElem?_eq_getElem hlt]
          have hmem : x ∈ own := List.mem_of_getElem? hx1
          have hcx : wr.cell? ⟨g7, k, none⟩ = some (.int .i32 x) := by
            rw [← hx]
            exact Hgf.out.grown.cell (H7.out k hlt) (fun e => by have := HT.out g7 e.symm; omega)
          have hlow1 : ∀ j, Value.ownBlock (.slice ao l.length co) = some j → base ≤ j := HW.out
          have hb1 : base ≤ w1.heap.size := Nat.le_trans hb hB.size
          have hBw : Below base w wr := (hB.mono hb).trans (Hgf.out.below hb1 hlow1)
          have htake : own.take (k + 1) = own.take k ++ [x] := by rw [List.take_add_one, hx1]; rfl
          have hlen2 : (l ++ (own.take k).flatMap (fullN m d)).length + (fullN m d x).length ≤ 1099511627776 := by
            have h1 := HL.out
            have h2 : (own.take (k + 1)).flatMap (fullN m d) ++ (own.drop (k + 1)).flatMap (fullN m d) = own.flatMap (fullN m d) := by
              rw [← List.flatMap_append, List.take_append_drop]
            rw [← h2, htake, List.flatMap_append] at h1
            simp only [List.length_append, List.flatMap_cons, List.flatMap_nil, List.append_nil] at h1 ⊢
            omega
          have HC := Lib.hid (HI.out x _ _ wr (HE.out x hmem) (HP.out.below (hBw.mono hn)) (Nat.le_trans hb1 Hgf.out.grown.size) Ho'.out hlen2)
          have HK := Lib.hid htake
          clear hx hx1 hmem hlow1 hBw htake hlen2
          go_wp2_with (go_at_call 164; refine HC.out.mono ?_; rintro e w3 ⟨v3, rfl, ho3, hgf3⟩)
          go_roundw
          case rel => exact ⟨k + 1, by omega, by go_num, by rw [HK.out, List.flatMap_append, ← List.append_assoc]; simpa [OwnR] using ho3, Hgf.out.trans hgf3⟩
          case measure => simp [intOf]; omega
        · obtain rfl : k = own.length := by omega
          go_wp2
          go_ret
          have ho' := Ho'.out
          rw [List.take_length] at ho'
          exact ⟨_, rfl, ho', (GF.of_below HBB.out _).trans Hgf.out⟩
end Go.Proofs.YtakbacfhcllioaaGreatDoor
