/- CarrierReads: closed facts that the card asks. -/
import Derived.Test.YtoadhpnmbchgcaaGreatDoorQe
namespace Go.Proofs.YtoadhpnmbchgcaaGreatDoor
open Go

theorem cw : Rows.carrierReadsRow.wfByText (OpenSpec.ofChange Rows.carrierReadsSpec) = true := by kernel_rfl
theorem cm : Tryz.pinned.checked.prog.mainIs = some (true, "21f3814bf06bc543d639deedc37b901e81965e1079606b1b8e75edcb3f239745".toList) := by kernel_rfl
theorem cg : false = Rows.carrierReadsRow.goesBy Tryz.pinned.checked.prog := by kernel_rfl
theorem cl : true = Tryz.pinned.checked.prog.looks [] := by kernel_rfl
theorem cn : Tryz.prog.funcNamed "dialtone/dialtonelaw43.CarrierReads" = some 6 := by kernel_rfl
theorem ci : ([3, 69, 3, 5, 3].all fun u => !Tryz.prog.wantsStandIn u) = true := by kernel_rfl

end Go.Proofs.YtoadhpnmbchgcaaGreatDoor
