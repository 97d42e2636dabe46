/- What the model's reading of one unit tells; the points of a text, as plain data. No Go function is walked here. -/
import Derived.Lib.DecodeN
import Derived.PlainAid
import Derived.Test.YtakbacfhcllioaaGreatDoorTx
namespace Go.Proofs.YtakbacfhcllioaaGreatDoor
open Go.RowKit Go.PlainAid

theorem decodeN_width (n b0 b1 b2 b3 : Nat) : 1 ≤ (Lib.decodeN n b0 b1 b2 b3).2 ∧ ((Lib.decodeN n b0 b1 b2 b3).2 = 1 ∨ (Lib.decodeN n b0 b1 b2 b3).2 ≤ n) ∧ (Lib.decodeN n b0 b1 b2 b3).2 ≤ 4 := by
  unfold Lib.decodeN
  repeat' split
  all_goals simp
  all_goals omega
theorem decodeN_err (n b0 b1 b2 b3 : Nat) (h0 : b0 < 256) (_h1 : b1 < 256) (_h2 : b2 < 256) (h : (Lib.decodeN n b0 b1 b2 b3).1 = 65533) :
    ((Lib.decodeN n b0 b1 b2 b3).2 = 1 ∧ ¬ (2 < n ∧ b0 = 239 ∧ b1 = 191 ∧ b2 = 189)) ∨ ((Lib.decodeN n b0 b1 b2 b3).2 = 3 ∧ 2 < n ∧ b0 = 239 ∧ b1 = 191 ∧ b2 = 189) := by
  revert h
  unfold Lib.decodeN
  repeat' split
  all_goals intro h
  all_goals simp at h ⊢
  all_goals omega
theorem decodeN_valid (n b0 b1 b2 b3 : Nat) (h0 : b0 < 256) : Utf8.valid ((Lib.decodeN n b0 b1 b2 b3).1 : Int) = true := by
  unfold Lib.decodeN Utf8.valid
  repeat' split
  all_goals simp
  all_goals omega

theorem get_bt' (s : ByteArray) (i : Nat) : ((s.get! i).toNat : Int) = bt s i := by
  by_cases h : i < s.size
  · have e : s.get! i = s[i]'h := by
      cases s with
      | mk d => simp only [ByteArray.get!]; exact getElem!_pos d i h
    rw [e, get_bt s i h]
  · have e : s.get! i = 0 := by
      cases s with
      | mk d => simp only [ByteArray.get!]; exact getElem!_neg d i h
    rw [e, bt_end s (by omega)]
    rfl
theorem dec_at (s : ByteArray) (i : Nat) : Utf8.decode s i = Lib.decodeN (s.size - i) (bt s i).toNat (bt s (i + 1)).toNat (bt s (i + 2)).toNat (bt s (i + 3)).toNat := by
  have e : ∀ k, (bt s k).toNat = (s.get! k).toNat := fun k => by rw [← get_bt' s k]; rfl
  rw [Lib.decode_at, e, e, e, e]
theorem dec_width (s : ByteArray) (i : Nat) (h : i < s.size) : 1 ≤ (Utf8.decode s i).2 ∧ i + (Utf8.decode s i).2 ≤ s.size ∧ (Utf8.decode s i).2 ≤ 4 := by
  rw [dec_at]
  have := decodeN_width (s.size - i) (bt s i).toNat (bt s (i + 1)).toNat (bt s (i + 2)).toNat (bt s (i + 3)).toNat
  omega
theorem dec_valid (s : ByteArray) (i : Nat) : Utf8.valid ((Utf8.decode s i).1 : Int) = true := by
  rw [dec_at]
  exact decodeN_valid _ _ _ _ _ (by have := bt_le s i; have := bt_nonneg s i; omega)
/-- Does the character U+FFFD itself begin at i? -/
def isFFFD (s : ByteArray) (i : Nat) : Prop := 2 < s.size - i ∧ bt s i = 239 ∧ bt s (i + 1) = 191 ∧ bt s (i + 2) = 189
theorem dec_err (s : ByteArray) (i : Nat) (h : (Utf8.decode s i).1 = 65533) : ((Utf8.decode s i).2 = 1 ∧ ¬ isFFFD s i) ∨ ((Utf8.decode s i).2 = 3 ∧ isFFFD s i) := by
  have b0 := bt_nonneg s i; have b1 := bt_nonneg s (i + 1); have b2 := bt_nonneg s (i + 2)
  have c0 := bt_le s i; have c1 := bt_le s (i + 1); have c2 := bt_le s (i + 2)
  rw [dec_at] at h ⊢
  have := decodeN_err (s.size - i) _ _ _ _ (by omega) (by omega) (by omega) h
  unfold isFFFD
  omega

/-- The point at a byte. -/
def ptAt (s : ByteArray) (i : Nat) : Int := if (Utf8.decode s i).1 = 65533 ∧ (Utf8.decode s i).2 = 1 then 1114112 + bt s i else ((Utf8.decode s i).1 : Int)
/-- The units' numbers from a byte on. -/
def runesF (s : ByteArray) : Nat → Nat → List Int
  | 0, _ => []
  | f + 1, i => if i < s.size then ((Utf8.decode s i).1 : Int) :: runesF s f (i + (Utf8.decode s i).2) else []
/-- The points from a byte on. -/
def ptsF (s : ByteArray) : Nat → Nat → List Int
  | 0, _ => []
  | f + 1, i => if i < s.size then ptAt s i :: ptsF s f (i + (Utf8.decode s i).2) else []
/-- A text's points. -/
def ptsOf (s : ByteArray) : List Int := ptsF s s.size 0
theorem ptsF_len (s : ByteArray) : ∀ f i, (ptsF s f i).length = (runesF s f i).length
  | 0, _ => rfl
  | f + 1, i => by
    unfold ptsF runesF
    split
    · simp [ptsF_len s f]
    · rfl
theorem runesF_len (s : ByteArray) : ∀ f i, (runesF s f i).length ≤ f
  | 0, _ => Nat.le_refl _
  | f + 1, i => by
    unfold runesF
    split
    · have := runesF_len s f (i + (Utf8.decode s i).2)
      simp; omega
    · simp
theorem runesF_conv (s : ByteArray) : ∀ f i (acc : Array Value), Conv.runesFrom s f i acc = acc ++ ((runesF s f i).map (Value.int .i32)).toArray
  | 0, _, acc => by simp [Conv.runesFrom, runesF]
  | f + 1, i, acc => by
    unfold Conv.runesFrom runesF
    by_cases h : i < s.size
    · simp only [h, if_true]
      rw [runesF_conv s f]
      simp
    · simp [h]
end Go.Proofs.YtakbacfhcllioaaGreatDoor
