/- FnFolded: closed facts: ParseProg of the text, by the lengths of its numbers (operator 0). -/
import Derived.Test.YtpcbmenjbcpieaaGreatDoorFoA
set_option linter.unusedVariables false
namespace Go.Proofs.YtpcbmenjbcpieaaGreatDoor.AM
open Go
noncomputable section
theorem p0_1_1 : chkP 0 1 1 = true := by kernel_rfl
theorem p0_1_2 : chkP 0 1 2 = true := by kernel_rfl
theorem p0_1_3 : chkP 0 1 3 = true := by kernel_rfl
theorem p0_1_4 : chkP 0 1 4 = true := by kernel_rfl
theorem p0_3_1 : chkP 0 3 1 = true := by kernel_rfl
theorem p0_3_2 : chkP 0 3 2 = true := by kernel_rfl
theorem p0_3_3 : chkP 0 3 3 = true := by kernel_rfl
theorem p0_3_4 : chkP 0 3 4 = true := by kernel_rfl
theorem p0_4_1 : chkP 0 4 1 = true := by kernel_rfl
theorem p0_4_2 : chkP 0 4 2 = true := by kernel_rfl
theorem p0_4_3 : chkP 0 4 3 = true := by kernel_rfl
theorem p0_4_4 : chkP 0 4 4 = true := by kernel_rfl
theorem p0_5_1 : chkP 0 5 1 = true := by kernel_rfl
theorem p0_5_2 : chkP 0 5 2 = true := by kernel_rfl
theorem p0_5_3 : chkP 0 5 3 = true := by kernel_rfl
theorem p0_5_4 : chkP 0 5 4 = true := by kernel_rfl
end
end Go.Proofs.YtpcbmenjbcpieaaGreatDoor.AM
