/- weights.Of: what a seat weighs. -/
import Derived.Test.YtakbacfhcllioaaGreatDoorFi
import Derived.Test.YtakbacfhcllioaaGreatDoorPl
namespace Go.Proofs.YtakbacfhcllioaaGreatDoor
open Go.RowKit
attribute [local go_sem ↓] Go.wp_at_zero Go.wp_at_succ

def maxC (b : Int) : Int := if 32 > b then 32 else b
/-- What one more seat does to a weight. -/
def stepW (ign : Bool) (k : Nat) (lv : Int) (w : Int × Int × Int) : Int × Int × Int :=
  if (k = 0 ∧ ign = false) ∨ lv = 1 then (w.1 + 1, 32, 32)
  else if lv = 2 then (w.1, maxC w.2.1 + 1, 32)
  else if lv = 3 then (w.1, w.2.1, maxC w.2.2 + 1)
  else w
def levelAt (l : List Seat) (k : Nat) : Int := (l[k]?.map (·.level)).getD 0
def foldW (ign : Bool) (w0 : Int × Int × Int) (l : List Seat) : Nat → Int × Int × Int
  | 0 => w0
  | k + 1 => stepW ign k (levelAt l k) (foldW ign w0 l k)
def startW (r : Int) : Int × Int × Int := if r = -2 then (0, 0, 0) else ((r + 3) * 1048576, 32, 32)
/-- What the i-th seat of a list weighs. -/
def weighM (r : Int) (l : List Seat) (i : Nat) : Int × Int × Int := foldW (decide (r = -2)) (startW r) l (i + 1)

def wCells (w : Int × Int × Int) : Array Value := #[.int .u64 w.1, .int .u32 w.2.1, .int .u32 w.2.2]

set_option maxRecDepth 100000 in
set_option maxHeartbeats 2000000 in
theorem wof_no (base n₀ bb bo bp : Nat) (m : PM) (o : OM) (s t : ByteArray) (w : World) (hst : Std base n₀ bb bo bp m o w) (hs : Small m o) (hnt : NT base bp w s t) (hf : (findM m o t).2.2 = false) :
    Calls Tryz.prog 25 #[.pointer (some ⟨bo, 0, none⟩), .string s] w fun e w' => e = .returned (.tuple #[.agg #[.int .u64 0, .int .u32 0, .int .u32 0], .bool false]) ∧ Below w.heap.size w w' := by
  have hB0 : Below w.heap.size w (w.alloc (.cells #[.int .u64 0, .int .u32 0, .int .u32 0] 58)) := (Below.refl _ w).alloc (Nat.le_refl _) _
  have HB0 := Lib.hid hB0
  have HC := Lib.hid (IsC.new w #[.int .u64 0, .int .u32 0, .int .u32 0] 58)
  have HF := Lib.hid (find_no base n₀ bb bo bp m o s t _ (hst.fresh hB0) hs (hnt.below (hB0.mono hst.hb)) hf)
  clear hst hB0 hnt hf
  go_enter Tryz.func25, Tryz.ntmps25
  go_wp2_with (first
    | (go_at_call 39; (with_reducible refine HF.out.mono ?_); rintro e w1 ⟨rfl, hB1⟩; have hlt := Nat.lt_of_lt_of_le HC.out.lt hB1.size; have HC := Lib.hid (HC.out.below hB1); have HB0 := Lib.hid (HB0.out.trans (hB1.mono HB0.out.size)); clear hB1; have c0 := HC.out.cell 0 _ rfl; have c1 := HC.out.cell 1 _ rfl; have c2 := HC.out.cell 2 _ rfl; have z0 := HC.out.frozen 0; have z1 := HC.out.frozen 1; have z2 := HC.out.frozen 2))
  refine bodyPost_ret (v := .tuple #[.agg #[.int .u64 0, .int .u32 0, .int .u32 0], .bool false]) (by simp [results, Tryz.results25, go_sem, c0, c1, c2, hlt]) rfl ⟨rfl, ?_⟩
  exact (((HB0.out.setCell (p := ⟨w.heap.size, 0, none⟩) (Nat.le_refl _) _).setCell (p := ⟨w.heap.size, 1, none⟩) (Nat.le_refl _) _).setCell (p := ⟨w.heap.size, 2, none⟩) (Nat.le_refl _) _).alloc (by simpa using HB0.out.size) _

theorem gb_refl (w : World) (b : Nat) : w.grownBy w (some b) := ⟨rfl, rfl, rfl, Nat.le_refl _, fun _ _ _ => rfl⟩
theorem gb_alloc {w wr : World} {b : Nat} (h : w.grownBy wr (some b)) (x : Obj) : w.grownBy (wr.alloc x) (some b) :=
  ⟨h.os, h.tape, h.output, by simp; exact Nat.le_succ_of_le h.size, fun k hk hn => by
    rw [← h.block k hk hn]
    show (wr.heap.push x)[k]? = _
    rw [Array.getElem?_push_lt (Nat.lt_of_lt_of_le hk h.size)]
    simp [Nat.lt_of_lt_of_le hk h.size]⟩
theorem gb_set {w wr : World} {b : Nat} (h : w.grownBy wr (some b)) (j : Nat) (v : Value) : w.grownBy (wr.setCell ⟨b, j, none⟩ v) (some b) :=
  ⟨h.os, h.tape, h.output, by simp [World.setCell]; exact h.size, fun k hk hn => (setCell_other wr (fun e => hn (by rw [e])) j v).trans (h.block k hk hn)⟩
theorem IsC.set {W : World} {b : Nat} {cs : Array Value} {t : TypeId} (h : IsC W b cs t) (j : Nat) (v : Value) : IsC (W.setCell ⟨b, j, none⟩ v) b (cs.setIfInBounds j v) t := setCell_at h j v
theorem IsC.alloc {W : World} {b : Nat} {cs : Array Value} {t : TypeId} (h : IsC W b cs t) (x : Obj) : IsC (W.alloc x) b cs t := hp_old h
theorem IsC.gb {w wr : World} {b c : Nat} {cs : Array Value} {t : TypeId} (h : IsC w b cs t) (g : w.grownBy wr (some c)) (hne : b ≠ c) : IsC wr b cs t := (g.block b h.lt (fun e => hne (by cases e; rfl))).trans h
theorem gb_below {w w3 wr : World} {b : Nat} (h : Below w.heap.size w w3) (g : w3.grownBy wr (some b)) (hb : w.heap.size ≤ b) : Below w.heap.size w wr :=
  h.grown g h.size (fun k e => by cases e; exact hb)

theorem stepW_bd {ign : Bool} {k : Nat} {lv : Int} {w : Int × Int × Int} {A : Int} (h1 : 0 ≤ w.1 ∧ w.1 ≤ A + k) (h2 : 0 ≤ w.2.1 ∧ w.2.1 ≤ 32 + k) (h3 : 0 ≤ w.2.2 ∧ w.2.2 ≤ 32 + k) :
    (0 ≤ (stepW ign k lv w).1 ∧ (stepW ign k lv w).1 ≤ A + (k + 1 : Nat)) ∧ (0 ≤ (stepW ign k lv w).2.1 ∧ (stepW ign k lv w).2.1 ≤ 32 + (k + 1 : Nat)) ∧ (0 ≤ (stepW ign k lv w).2.2 ∧ (stepW ign k lv w).2.2 ≤ 32 + (k + 1 : Nat)) := by
  unfold stepW maxC
  split
  · refine ⟨?_, ?_, ?_⟩ <;> (dsimp only; omega)
  split
  · refine ⟨?_, ?_, ?_⟩ <;> (dsimp only; (try split) <;> omega)
  split
  · refine ⟨?_, ?_, ?_⟩ <;> (dsimp only; (try split) <;> omega)
  · refine ⟨?_, ?_, ?_⟩ <;> omega
theorem foldW_bd {ign : Bool} {w0 : Int × Int × Int} {l : List Seat} {A : Int} (h1 : 0 ≤ w0.1 ∧ w0.1 ≤ A) (h2 : 0 ≤ w0.2.1 ∧ w0.2.1 ≤ 32) (h3 : 0 ≤ w0.2.2 ∧ w0.2.2 ≤ 32) :
    ∀ k : Nat, (0 ≤ (foldW ign w0 l k).1 ∧ (foldW ign w0 l k).1 ≤ A + k) ∧ (0 ≤ (foldW ign w0 l k).2.1 ∧ (foldW ign w0 l k).2.1 ≤ 32 + k) ∧ (0 ≤ (foldW ign w0 l k).2.2 ∧ (foldW ign w0 l k).2.2 ≤ 32 + k)
  | 0 => by refine ⟨?_, ?_, ?_⟩ <;> (show 0 ≤ _ ∧ _; simp only [foldW]; omega)
  | k + 1 => by
    have := foldW_bd (ign := ign) (l := l) h1 h2 h3 k
    exact stepW_bd this.1 this.2.1 this.2.2
theorem startW_bd {r : Int} (hr0 : -3 ≤ r) (hr1 : r ≤ 1114368) : (0 ≤ (startW r).1 ∧ (startW r).1 ≤ 1168508321792) ∧ (0 ≤ (startW r).2.1 ∧ (startW r).2.1 ≤ 32) ∧ (0 ≤ (startW r).2.2 ∧ (startW r).2.2 ≤ 32) := by
  unfold startW
  split <;> (refine ⟨?_, ?_, ?_⟩ <;> (dsimp only; omega))

set_option maxRecDepth 100000 in
set_option maxHeartbeats 8000000 in
theorem wof_yes (base n₀ bb bo bp : Nat) (m : PM) (o : OM) (s t : ByteArray) (r : Int) (i : Nat) (w : World) (hst : Std base n₀ bb bo bp m o w) (hs : Small m o) (hnt : NT base bp w s t) (hf : findM m o t = (r, (i : Int), true))
    (l : List Seat) (hll : seatsM m o r = l) (hil : i < l.length) (hxl : l[i].list = r) (hr : r ≠ -2) (hr0 : -3 ≤ r) (hr1 : r ≤ 1114368) (hsm : i ≤ 1048576) :
    Calls Tryz.prog 25 #[.pointer (some ⟨bo, 0, none⟩), .string s] w fun e w' => e = .returned (.tuple #[.agg (wCells (weighM r l i)), .bool true]) ∧ Below w.heap.size w w' := by
  have hB0 : Below w.heap.size w (w.alloc (.cells #[.int .u64 0, .int .u32 0, .int .u32 0] 58)) := (Below.refl _ w).alloc (Nat.le_refl _) _
  have HB0 := Lib.hid hB0
  have HC := Lib.hid (IsC.new w #[.int .u64 0, .int .u32 0, .int .u32 0] 58)
  have HST := Lib.hid (hst.fresh hB0)
  have hfy := find_yes base n₀ bb bo bp m o s t r i _ (hst.fresh hB0) hs (hnt.below (hB0.mono hst.hb)) hf l hll hil
  rw [hxl] at hfy
  obtain ⟨x, hx⟩ : ∃ x, l[i] = x := ⟨_, rfl⟩
  rw [hx] at hfy
  have HF := Lib.hid hfy
  have HLL := Lib.hid hll
  have HW0 : Hid (weighM r l i = foldW false (startW r) l (i + 1)) := show _ = _ by unfold weighM; rw [decide_eq_false hr]
  have HS0 : Hid (wCells (startW r) = #[.int .u64 ((r + 3) * 1048576), .int .u32 32, .int .u32 32]) := show _ = _ by unfold startW; rw [if_neg hr]; rfl
  have hbd := startW_bd hr0 hr1
  have HBD := Lib.hid (foldW_bd (ign := false) (l := l) hbd.1 hbd.2.1 hbd.2.2)
  have hrb : (r == -2) = false := by simpa using hr
  have hi0 : (0 : Int) ≤ (i : Int) + 1 := by omega
  have hi1 : (i : Int) + 1 ≤ 1048577 := by omega
  clear hst hB0 hnt hf hfy hx hxl hbd
  clear hr
  go_enter Tryz.func25, Tryz.ntmps25
  go_wp2_with (first
    | (go_at_call 39; (with_reducible refine HF.out.mono ?_); rintro e w1 ⟨rfl, hB1⟩; have HBP := Lib.hid hB1.size; have HST := Lib.hid (HST.out.fresh hB1); have HC := Lib.hid (HC.out.below hB1); have HB0 := Lib.hid (HB0.out.trans (hB1.mono HB0.out.size)); clear hB1; have hB1 : Below w1.heap.size w1 ((w1.alloc (.cells #[.string x.text, .int .i32 r, .int .i64 x.level, .string x.ext] 62)).alloc (.cells #[.int .u64 ((r + 3) * 1048576), .int .u32 32, .int .u32 32] 58)) := ((Below.refl _ w1).alloc (Nat.le_refl _) _).alloc (by simp) _; have HL := Lib.hid (list_any base n₀ bb bo bp m o r _ (HST.out.fresh hB1) hs); have HC := Lib.hid (HC.out.below hB1); have HB0 := Lib.hid (HB0.out.trans (hB1.mono HB0.out.size)); have hc10 := IsC.new (w1.alloc (.cells #[.string x.text, .int .i32 r, .int .i64 x.level, .string x.ext] 62)) #[.int .u64 ((r + 3) * 1048576), .int .u32 32, .int .u32 32] 58; rw [World.size_alloc] at hc10; have HC10 := Lib.hid hc10; clear hc10 hB1; have hwlt : w.heap.size < w1.heap.size + 1 := Nat.lt_succ_of_le (by have h8 := HBP.out; simp at h8; omega))
    | (go_at_call 37; (with_reducible refine HL.out.mono ?_); rintro e w3 ⟨v3, rfl, hv3, hB1⟩; rw [HLL.out] at hv3; have HC := Lib.hid (HC.out.below hB1); have HB0 := Lib.hid (HB0.out.trans (hB1.mono HB0.out.size)); have HC10 := Lib.hid (HC10.out.below hB1); clear hB1; obtain ⟨a3, c3, rfl⟩ := own_slice hv3; obtain ⟨g, rfl, hg, -, -⟩ := hv3.cell hil; have hcap := own_cap hv3; have hic : (i : Int) + 1 ≤ (c3 : Int) := by omega))
  have hg2 : g ≠ w1.heap.size + 1 := by simp at hg; omega
  have HV := Lib.hid hv3
  clear hv3 hg
  go_loopw [42] (fun j wr => Hid (w3.grownBy wr (some (w1.heap.size + 1))) ∧ ∃ k : Nat, j = .int .i64 k ∧ k ≤ i + 1 ∧ Hid (IsC wr (w1.heap.size + 1) (wCells (foldW false (startW r) l k)) 58)) (fun j _ => i + 1 - (intOf j).toNat)
  case atStart => exact ⟨gb_refl _ _, 0, by simp, Nat.zero_le _, show IsC w3 (w1.heap.size + 1) (wCells (startW r)) 58 by rw [HS0.out]; exact HC10.out⟩
  case round =>
    obtain ⟨HG, k, rfl, hk, HK⟩ := hrel
    have hbk := HBD.out k
    obtain ⟨⟨a, b, c⟩, habc⟩ : ∃ q, foldW false (startW r) l k = q := ⟨_, rfl⟩
    have hstep : foldW false (startW r) l (k + 1) = stepW false k (levelAt l k) (foldW false (startW r) l k) := rfl
    rw [habc] at hbk HK hstep
    have c0 : wr.cell? ⟨w1.heap.size + 1, 0, none⟩ = some (.int .u64 a) := HK.out.cell 0 _ rfl
    have c1 : wr.cell? ⟨w1.heap.size + 1, 1, none⟩ = some (.int .u32 b) := HK.out.cell 1 _ rfl
    have c2 : wr.cell? ⟨w1.heap.size + 1, 2, none⟩ = some (.int .u32 c) := HK.out.cell 2 _ rfl
    have z0 := HK.out.frozen 0
    have z1 := HK.out.frozen 1
    have z2 := HK.out.frozen 2
    have hlt10 := HK.out.lt
    obtain ⟨⟨ha0, ha1⟩, ⟨hb0, hb1⟩, hc0, hc1⟩ := hbk
    dsimp only at ha0 ha1 hb0 hb1 hc0 hc1
    by_cases hlt : k < i + 1
    · have hkl : k < l.length := by omega
      have hki : (k : Int) < (i : Int) + 1 := by omega
      have hk0 : (0 : Int) ≤ (k : Int) := Int.natCast_nonneg _
      obtain ⟨y, hy⟩ : ∃ y, l[k] = y := ⟨_, rfl⟩
      obtain ⟨g', hge, -, -, hcl⟩ := HV.out.cell hkl
      cases hge
      rw [hy] at hcl
      have hcl2 : ∀ j u, (seatC y)[j]? = some u → wr.cell? ⟨g, k * 4 + j, none⟩ = some u := fun j u hu => (World.cell?_of_block (a := ⟨g, k * 4 + j, none⟩) (HG.out.block g (own_lt HV.out g rfl) (fun e => hg2 (by cases e; rfl)))).trans (hcl j u hu)
      have e0 : wr.cell? ⟨g, k * 4, none⟩ = some (.string y.text) := hcl2 0 _ rfl
      have e1 : wr.cell? ⟨g, k * 4 + 1, none⟩ = some (.int .i32 y.list) := hcl2 1 _ rfl
      have e2 : wr.cell? ⟨g, k * 4 + 2, none⟩ = some (.int .i64 y.level) := hcl2 2 _ rfl
      have e3 : wr.cell? ⟨g, k * 4 + 3, none⟩ = some (.string y.ext) := hcl2 3 _ rfl
      have hla : levelAt l k = y.level := by unfold levelAt; rw [List.getElem?_eq_getElem hkl, hy]; rfl
      rw [hla] at hstep
      clear hcl hcl2 hla hy habc
      by_cases hA : (k = 0 ∧ false = false) ∨ y.level = 1
      · have HSTEP : Hid (foldW false (startW r) l (k + 1) = (a + 1, 32, 32)) := show _ = _ by rw [hstep]; unfold stepW; rw [if_pos hA]
        clear hstep
        by_cases hk1 : k = 0
        · subst hk1
          go_wp2_with (fail)
          go_roundw
          case rel => exact ⟨gb_alloc (gb_set (gb_set (gb_set HG.out 0 _) 1 _) 2 _) _, 0 + 1, by go_num, by omega, by rw [HSTEP.out]; exact (((HK.out.set 0 _).set 1 _).set 2 _).alloc _⟩
          case measure => simp [intOf] <;> omega
        · have h1 : (y.level == 1) = true := by rcases hA with ⟨h, _⟩ | h; (exact absurd h hk1); simpa using h
          have hk2 : ((k : Int) == 0) = false := by simp; omega
          clear hA
          go_wp2_with (fail)
          go_roundw
          case rel => exact ⟨gb_alloc (gb_set (gb_set (gb_set HG.out 0 _) 1 _) 2 _) _, k + 1, by go_num, by omega, by rw [HSTEP.out]; exact (((HK.out.set 0 _).set 1 _).set 2 _).alloc _⟩
          case measure => simp [intOf]; omega
      · have h1 : (y.level == 1) = false := by simp; exact fun e => hA (.inr e)
        have hk2 : ((k : Int) == 0) = false := by simp; exact fun e => hA (.inl ⟨e, rfl⟩)
        by_cases hB : y.level = 2
        · have HSTEP : Hid (foldW false (startW r) l (k + 1) = (a, maxC b + 1, 32)) := show _ = _ by rw [hstep]; unfold stepW; rw [if_neg hA, if_pos hB]
          have h2 : (y.level == 2) = true := by simpa using hB
          clear hstep hA hB
          by_cases hm : 32 > b
          · have HM : Hid (maxC b = 32) := show _ = _ by unfold maxC; rw [if_pos hm]
            go_wp2_with (fail)
            go_roundw
            case rel => exact ⟨gb_alloc (gb_set (gb_set HG.out 1 _) 2 _) _, k + 1, by go_num, by omega, by rw [HSTEP.out, HM.out]; exact ((HK.out.set 1 _).set 2 _).alloc _⟩
            case measure => simp [intOf]; omega
          · have HM : Hid (maxC b = b) := show _ = _ by unfold maxC; rw [if_neg hm]
            have hm2 : 32 ≤ b := by omega
            go_wp2_with (fail)
            go_roundw
            case rel => exact ⟨gb_alloc (gb_set (gb_set HG.out 1 _) 2 _) _, k + 1, by go_num, by omega, by rw [HSTEP.out, HM.out]; exact ((HK.out.set 1 _).set 2 _).alloc _⟩
            case measure => simp [intOf]; omega
        · have h2 : (y.level == 2) = false := by simpa using hB
          by_cases hC : y.level = 3
          · have HSTEP : Hid (foldW false (startW r) l (k + 1) = (a, b, maxC c + 1)) := show _ = _ by rw [hstep]; unfold stepW; rw [if_neg hA, if_neg hB, if_pos hC]
            have h3 : (y.level == 3) = true := by simpa using hC
            clear hstep hA hB hC
            by_cases hm : 32 > c
            · have HM : Hid (maxC c = 32) := show _ = _ by unfold maxC; rw [if_pos hm]
              go_wp2_with (fail)
              go_roundw
              case rel => exact ⟨gb_alloc (gb_set HG.out 2 _) _, k + 1, by go_num, by omega, by rw [HSTEP.out, HM.out]; exact (HK.out.set 2 _).alloc _⟩
              case measure => simp [intOf]; omega
            · have HM : Hid (maxC c = c) := show _ = _ by unfold maxC; rw [if_neg hm]
              have hm2 : 32 ≤ c := by omega
              go_wp2_with (fail)
              go_roundw
              case rel => exact ⟨gb_alloc (gb_set HG.out 2 _) _, k + 1, by go_num, by omega, by rw [HSTEP.out, HM.out]; exact (HK.out.set 2 _).alloc _⟩
              case measure => simp [intOf]; omega
          · have HSTEP : Hid (foldW false (startW r) l (k + 1) = (a, b, c)) := show _ = _ by rw [hstep]; unfold stepW; rw [if_neg hA, if_neg hB, if_neg hC]
            have h3 : (y.level == 3) = false := by simpa using hC
            clear hstep hA hB hC
            go_wp2_with (fail)
            go_roundw
            case rel => exact ⟨gb_alloc HG.out _, k + 1, by go_num, by omega, by rw [HSTEP.out]; exact HK.out.alloc _⟩
            case measure => simp [intOf]; omega
    · obtain rfl : k = i + 1 := by omega
      have HC4 := HC.out.gb HG.out (by omega)
      have d0 := HC4.cell 0 _ rfl
      have d1 := HC4.cell 1 _ rfl
      have d2 := HC4.cell 2 _ rfl
      have y0 := HC4.frozen 0
      have y1 := HC4.frozen 1
      have y2 := HC4.frozen 2
      have HFIN : Hid (wCells (weighM r l i) = #[.int .u64 a, .int .u32 b, .int .u32 c]) := show _ = _ by rw [HW0.out, habc]; rfl
      have HBW := Lib.hid (gb_below HB0.out HG.out (by omega))
      clear hstep habc HC4
      go_wp2_with (fail)
      refine bodyPost_ret (v := .tuple #[.agg #[.int .u64 a, .int .u32 b, .int .u32 c], .bool true]) (by simp [results, Tryz.results25, go_sem, d0, d1, d2]) rfl ⟨?_, ?_⟩
      · rw [HFIN.out]
      · exact ((HBW.out.setCell (p := ⟨w.heap.size, 0, none⟩) (Nat.le_refl _) _).setCell (p := ⟨w.heap.size, 1, none⟩) (Nat.le_refl _) _).setCell (p := ⟨w.heap.size, 2, none⟩) (Nat.le_refl _) _

set_option maxRecDepth 100000 in
set_option maxHeartbeats 8000000 in
theorem wof_ign (base n₀ bb bo bp : Nat) (m : PM) (o : OM) (s t : ByteArray) (r : Int) (i : Nat) (w : World) (hst : Std base n₀ bb bo bp m o w) (hs : Small m o) (hnt : NT base bp w s t) (hf : findM m o t = (r, (i : Int), true))
    (l : List Seat) (hll : seatsM m o r = l) (hil : i < l.length) (hxl : l[i].list = r) (hr : r = -2) (hr0 : -3 ≤ r) (hr1 : r ≤ 1114368) (hsm : i ≤ 1048576) :
    Calls Tryz.prog 25 #[.pointer (some ⟨bo, 0, none⟩), .string s] w fun e w' => e = .returned (.tuple #[.agg (wCells (weighM r l i)), .bool true]) ∧ Below w.heap.size w w' := by
  have hB0 : Below w.heap.size w (w.alloc (.cells #[.int .u64 0, .int .u32 0, .int .u32 0] 58)) := (Below.refl _ w).alloc (Nat.le_refl _) _
  have HB0 := Lib.hid hB0
  have HC := Lib.hid (IsC.new w #[.int .u64 0, .int .u32 0, .int .u32 0] 58)
  have HST := Lib.hid (hst.fresh hB0)
  have hfy := find_yes base n₀ bb bo bp m o s t r i _ (hst.fresh hB0) hs (hnt.below (hB0.mono hst.hb)) hf l hll hil
  rw [hxl] at hfy
  obtain ⟨x, hx⟩ : ∃ x, l[i] = x := ⟨_, rfl⟩
  rw [hx] at hfy
  have HF := Lib.hid hfy
  have HLL := Lib.hid hll
  have HW0 : Hid (weighM r l i = foldW true (startW r) l (i + 1)) := show _ = _ by unfold weighM; rw [decide_eq_true hr]
  have HS0 : Hid (wCells (startW r) = #[.int .u64 0, .int .u32 0, .int .u32 0]) := show _ = _ by unfold startW; rw [if_pos hr]; rfl
  have hbd := startW_bd hr0 hr1
  have HBD := Lib.hid (foldW_bd (ign := true) (l := l) hbd.1 hbd.2.1 hbd.2.2)
  have hrb : (r == -2) = true := by simpa using hr
  have hi0 : (0 : Int) ≤ (i : Int) + 1 := by omega
  have hi1 : (i : Int) + 1 ≤ 1048577 := by omega
  clear hst hB0 hnt hf hfy hx hxl hbd
  have HR := Lib.hid hr
  clear hr
  go_enter Tryz.func25, Tryz.ntmps25
  go_wp2_with (first
    | (go_at_call 39; (with_reducible refine HF.out.mono ?_); rintro e w1 ⟨rfl, hB1⟩; have HBP := Lib.hid hB1.size; have HST := Lib.hid (HST.out.fresh hB1); have HC := Lib.hid (HC.out.below hB1); have HB0 := Lib.hid (HB0.out.trans (hB1.mono HB0.out.size)); clear hB1; have hB1 : Below w1.heap.size w1 ((w1.alloc (.cells #[.string x.text, .int .i32 r, .int .i64 x.level, .string x.ext] 62)).alloc (.cells #[.int .u64 0, .int .u32 0, .int .u32 0] 58)) := ((Below.refl _ w1).alloc (Nat.le_refl _) _).alloc (by simp) _; have HL := Lib.hid (list_any base n₀ bb bo bp m o r _ (HST.out.fresh hB1) hs); have HC := Lib.hid (HC.out.below hB1); have HB0 := Lib.hid (HB0.out.trans (hB1.mono HB0.out.size)); have hc10 := IsC.new (w1.alloc (.cells #[.string x.text, .int .i32 r, .int .i64 x.level, .string x.ext] 62)) #[.int .u64 0, .int .u32 0, .int .u32 0] 58; rw [World.size_alloc] at hc10; have HC10 := Lib.hid hc10; clear hc10 hB1; have hwlt : w.heap.size < w1.heap.size + 1 := Nat.lt_succ_of_le (by have h8 := HBP.out; simp at h8; omega))
    | (go_at_call 37; (with_reducible refine HL.out.mono ?_); rintro e w3 ⟨v3, rfl, hv3, hB1⟩; rw [HLL.out] at hv3; have HC := Lib.hid (HC.out.below hB1); have HB0 := Lib.hid (HB0.out.trans (hB1.mono HB0.out.size)); have HC10 := Lib.hid (HC10.out.below hB1); clear hB1; obtain ⟨a3, c3, rfl⟩ := own_slice hv3; obtain ⟨g, rfl, hg, -, -⟩ := hv3.cell hil; have hcap := own_cap hv3; have hic : (i : Int) + 1 ≤ (c3 : Int) := by omega))
  have hg2 : g ≠ w1.heap.size + 1 := by simp at hg; omega
  have HV := Lib.hid hv3
  clear hv3 hg
  go_loopw [42] (fun j wr => Hid (w3.grownBy wr (some (w1.heap.size + 1))) ∧ ∃ k : Nat, j = .int .i64 k ∧ k ≤ i + 1 ∧ Hid (IsC wr (w1.heap.size + 1) (wCells (foldW true (startW r) l k)) 58)) (fun j _ => i + 1 - (intOf j).toNat)
  case atStart => exact ⟨gb_refl _ _, 0, by simp, Nat.zero_le _, show IsC w3 (w1.heap.size + 1) (wCells (startW r)) 58 by rw [HS0.out]; exact HC10.out⟩
  case round =>
    obtain ⟨HG, k, rfl, hk, HK⟩ := hrel
    have hbk := HBD.out k
    obtain ⟨⟨a, b, c⟩, habc⟩ : ∃ q, foldW true (startW r) l k = q := ⟨_, rfl⟩
    have hstep : foldW true (startW r) l (k + 1) = stepW true k (levelAt l k) (foldW true (startW r) l k) := rfl
    rw [habc] at hbk HK hstep
    have c0 : wr.cell? ⟨w1.heap.size + 1, 0, none⟩ = some (.int .u64 a) := HK.out.cell 0 _ rfl
    have c1 : wr.cell? ⟨w1.heap.size + 1, 1, none⟩ = some (.int .u32 b) := HK.out.cell 1 _ rfl
    have c2 : wr.cell? ⟨w1.heap.size + 1, 2, none⟩ = some (.int .u32 c) := HK.out.cell 2 _ rfl
    have z0 := HK.out.frozen 0
    have z1 := HK.out.frozen 1
    have z2 := HK.out.frozen 2
    have hlt10 := HK.out.lt
    obtain ⟨⟨ha0, ha1⟩, ⟨hb0, hb1⟩, hc0, hc1⟩ := hbk
    dsimp only at ha0 ha1 hb0 hb1 hc0 hc1
    by_cases hlt : k < i + 1
    · have hkl : k < l.length := by omega
      have hki : (k : Int) < (i : Int) + 1 := by omega
      have hk0 : (0 : Int) ≤ (k : Int) := Int.natCast_nonneg _
      obtain ⟨y, hy⟩ : ∃ y, l[k] = y := ⟨_, rfl⟩
      obtain ⟨g', hge, -, -, hcl⟩ := HV.out.cell hkl
      cases hge
      rw [hy] at hcl
      have hcl2 : ∀ j u, (seatC y)[j]? = some u → wr.cell? ⟨g, k * 4 + j, none⟩ = some u := fun j u hu => (World.cell?_of_block (a := ⟨g, k * 4 + j, none⟩) (HG.out.block g (own_lt HV.out g rfl) (fun e => hg2 (by cases e; rfl)))).trans (hcl j u hu)
      have e0 : wr.cell? ⟨g, k * 4, none⟩ = some (.string y.text) := hcl2 0 _ rfl
      have e1 : wr.cell? ⟨g, k * 4 + 1, none⟩ = some (.int .i32 y.list) := hcl2 1 _ rfl
      have e2 : wr.cell? ⟨g, k * 4 + 2, none⟩ = some (.int .i64 y.level) := hcl2 2 _ rfl
      have e3 : wr.cell? ⟨g, k * 4 + 3, none⟩ = some (.string y.ext) := hcl2 3 _ rfl
      have hla : levelAt l k = y.level := by unfold levelAt; rw [List.getElem?_eq_getElem hkl, hy]; rfl
      rw [hla] at hstep
      clear hcl hcl2 hla hy habc
      by_cases hA : (k = 0 ∧ true = false) ∨ y.level = 1
      · have HSTEP : Hid (foldW true (startW r) l (k + 1) = (a + 1, 32, 32)) := show _ = _ by rw [hstep]; unfold stepW; rw [if_pos hA]
        clear hstep
        have h1 : (y.level == 1) = true := by rcases hA with ⟨_, h⟩ | h; (cases h); simpa using h
        clear hA
        rcases Bool.eq_false_or_eq_true ((k : Int) == 0) with hkb | hkb
        all_goals
          go_wp2_with (fail)
          go_roundw
          case rel => exact ⟨gb_alloc (gb_set (gb_set (gb_set HG.out 0 _) 1 _) 2 _) _, k + 1, by go_num, by omega, by rw [HSTEP.out]; exact (((HK.out.set 0 _).set 1 _).set 2 _).alloc _⟩
          case measure => simp [intOf]; omega
      · have h1 : (y.level == 1) = false := by simp; exact fun e => hA (.inr e)
        skip
        by_cases hB : y.level = 2
        · have HSTEP : Hid (foldW true (startW r) l (k + 1) = (a, maxC b + 1, 32)) := show _ = _ by rw [hstep]; unfold stepW; rw [if_neg hA, if_pos hB]
          have h2 : (y.level == 2) = true := by simpa using hB
          clear hstep hA hB
          by_cases hm : 32 > b
          · have HM : Hid (maxC b = 32) := show _ = _ by unfold maxC; rw [if_pos hm]
            rcases Bool.eq_false_or_eq_true ((k : Int) == 0) with hkb | hkb
            all_goals
              go_wp2_with (fail)
              go_roundw
              case rel => exact ⟨gb_alloc (gb_set (gb_set HG.out 1 _) 2 _) _, k + 1, by go_num, by omega, by rw [HSTEP.out, HM.out]; exact ((HK.out.set 1 _).set 2 _).alloc _⟩
              case measure => simp [intOf]; omega
          · have HM : Hid (maxC b = b) := show _ = _ by unfold maxC; rw [if_neg hm]
            have hm2 : 32 ≤ b := by omega
            rcases Bool.eq_false_or_eq_true ((k : Int) == 0) with hkb | hkb
            all_goals
              go_wp2_with (fail)
              go_roundw
              case rel => exact ⟨gb_alloc (gb_set (gb_set HG.out 1 _) 2 _) _, k + 1, by go_num, by omega, by rw [HSTEP.out, HM.out]; exact ((HK.out.set 1 _).set 2 _).alloc _⟩
              case measure => simp [intOf]; omega
        · have h2 : (y.level == 2) = false := by simpa using hB
          by_cases hC : y.level = 3
          · have HSTEP : Hid (foldW true (startW r) l (k + 1) = (a, b, maxC c + 1)) := show _ = _ by rw [hstep]; unfold stepW; rw [if_neg hA, if_neg hB, if_pos hC]
            have h3 : (y.level == 3) = true := by simpa using hC
            clear hstep hA hB hC
            by_cases hm : 32 > c
            · have HM : Hid (maxC c = 32) := show _ = _ by unfold maxC; rw [if_pos hm]
              rcases Bool.eq_false_or_eq_true ((k : Int) == 0) with hkb | hkb
              all_goals
                go_wp2_with (fail)
                go_roundw
                case rel => exact ⟨gb_alloc (gb_set HG.out 2 _) _, k + 1, by go_num, by omega, by rw [HSTEP.out, HM.out]; exact (HK.out.set 2 _).alloc _⟩
                case measure => simp [intOf]; omega
            · have HM : Hid (maxC c = c) := show _ = _ by unfold maxC; rw [if_neg hm]
              have hm2 : 32 ≤ c := by omega
              rcases Bool.eq_false_or_eq_true ((k : Int) == 0) with hkb | hkb
              all_goals
                go_wp2_with (fail)
                go_roundw
                case rel => exact ⟨gb_alloc (gb_set HG.out 2 _) _, k + 1, by go_num, by omega, by rw [HSTEP.out, HM.out]; exact (HK.out.set 2 _).alloc _⟩
                case measure => simp [intOf]; omega
          · have HSTEP : Hid (foldW true (startW r) l (k + 1) = (a, b, c)) := show _ = _ by rw [hstep]; unfold stepW; rw [if_neg hA, if_neg hB, if_neg hC]
            have h3 : (y.level == 3) = false := by simpa using hC
            clear hstep hA hB hC
            rcases Bool.eq_false_or_eq_true ((k : Int) == 0) with hkb | hkb
            all_goals
              go_wp2_with (fail)
              go_roundw
              case rel => exact ⟨gb_alloc HG.out _, k + 1, by go_num, by omega, by rw [HSTEP.out]; exact HK.out.alloc _⟩
              case measure => simp [intOf]; omega
    · obtain rfl : k = i + 1 := by omega
      have HC4 := HC.out.gb HG.out (by omega)
      have d0 := HC4.cell 0 _ rfl
      have d1 := HC4.cell 1 _ rfl
      have d2 := HC4.cell 2 _ rfl
      have y0 := HC4.frozen 0
      have y1 := HC4.frozen 1
      have y2 := HC4.frozen 2
      have HFIN : Hid (wCells (weighM r l i) = #[.int .u64 a, .int .u32 b, .int .u32 c]) := show _ = _ by rw [HW0.out, habc]; rfl
      have HBW := Lib.hid (gb_below HB0.out HG.out (by omega))
      clear hstep habc HC4
      go_wp2_with (fail)
      refine bodyPost_ret (v := .tuple #[.agg #[.int .u64 a, .int .u32 b, .int .u32 c], .bool true]) (by simp [results, Tryz.results25, go_sem, d0, d1, d2]) rfl ⟨?_, ?_⟩
      · rw [HFIN.out]
      · exact ((HBW.out.setCell (p := ⟨w.heap.size, 0, none⟩) (Nat.le_refl _) _).setCell (p := ⟨w.heap.size, 1, none⟩) (Nat.le_refl _) _).setCell (p := ⟨w.heap.size, 2, none⟩) (Nat.le_refl _) _
end Go.Proofs.YtakbacfhcllioaaGreatDoor
