/- wBytes: what the row's closed cells force. -/
import Derived.Test.YtakbacfhcllioaaGreatDoorRows
import Derived.JoinedOf
namespace Go.Proofs.YtakbacfhcllioaaGreatDoor.wBytes
theorem j1 : (Rows.weightsBytesRow.inPlace == Tryz.pinned.checked.prog.inPlace 7) = true := by kernel_rfl
theorem j2 : (Rows.weightsBytesRow.unfollowed == Tryz.pinned.checked.prog.unfollowed 7) = true := by kernel_rfl
theorem j3 : (Rows.weightsBytesRow.recurses == Tryz.pinned.checked.prog.recurses 7) = true := by kernel_rfl
theorem j4 : (Rows.weightsBytesRow.named == Tryz.pinned.checked.prog.varsNamed 7) = true := by kernel_rfl
theorem closed : joinedFacts Tryz.pinned.checked.prog 7 Tryz.f7 Rows.weightsBytesSpec Rows.weightsBytesRow = true := by
  unfold joinedFacts
  simp only [j1, j2, j3, j4, Bool.and_true]
  kernel_rfl
end Go.Proofs.YtakbacfhcllioaaGreatDoor.wBytes
