/- wForms: what the row's closed cells force. -/
import Derived.Test.YtakbacfhcllioaaGreatDoorRows
import Derived.JoinedOf
namespace Go.Proofs.YtakbacfhcllioaaGreatDoor.wForms
theorem j1 : (Rows.weightsFormsRow.inPlace == Tryz.pinned.checked.prog.inPlace 8) = true := by kernel_rfl
theorem j2 : (Rows.weightsFormsRow.unfollowed == Tryz.pinned.checked.prog.unfollowed 8) = true := by kernel_rfl
theorem j3 : (Rows.weightsFormsRow.recurses == Tryz.pinned.checked.prog.recurses 8) = true := by kernel_rfl
theorem j4 : (Rows.weightsFormsRow.named == Tryz.pinned.checked.prog.varsNamed 8) = true := by kernel_rfl
theorem closed : joinedFacts Tryz.pinned.checked.prog 8 Tryz.f8 Rows.weightsFormsSpec Rows.weightsFormsRow = true := by
  unfold joinedFacts
  simp only [j1, j2, j3, j4, Bool.and_true]
  kernel_rfl
end Go.Proofs.YtakbacfhcllioaaGreatDoor.wForms
