/- wNumbers: what the row's closed cells force. -/
import Derived.Test.YtakbacfhcllioaaGreatDoorRows
import Derived.JoinedOf
namespace Go.Proofs.YtakbacfhcllioaaGreatDoor.wNumbers
theorem j1 : (Rows.weightsNumbersRow.inPlace == Tryz.pinned.checked.prog.inPlace 6) = true := by kernel_rfl
theorem j2 : (Rows.weightsNumbersRow.unfollowed == Tryz.pinned.checked.prog.unfollowed 6) = true := by kernel_rfl
theorem j3 : (Rows.weightsNumbersRow.recurses == Tryz.pinned.checked.prog.recurses 6) = true := by kernel_rfl
theorem j4 : (Rows.weightsNumbersRow.named == Tryz.pinned.checked.prog.varsNamed 6) = true := by kernel_rfl
theorem closed : joinedFacts Tryz.pinned.checked.prog 6 Tryz.f6 Rows.weightsNumbersSpec Rows.weightsNumbersRow = true := by
  unfold joinedFacts
  simp only [j1, j2, j3, j4, Bool.and_true]
  kernel_rfl
end Go.Proofs.YtakbacfhcllioaaGreatDoor.wNumbers
