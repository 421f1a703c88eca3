/- FnFolded: closed facts: ParseProg of the text, by the lengths of its numbers (operator 3). -/
import Derived.Test.YtpcbmenjbcpieaaGreatDoorFoA
set_option linter.unusedVariables false
namespace Go.Proofs.YtpcbmenjbcpieaaGreatDoor.AM
open Go
noncomputable section
theorem p3_1_1 : chkP 3 1 1 = true := by kernel_rfl
theorem p3_1_2 : chkP 3 1 2 = true := by kernel_rfl
theorem p3_1_3 : chkP 3 1 3 = true := by kernel_rfl
theorem p3_1_4 : chkP 3 1 4 = true := by kernel_rfl
theorem p3_3_1 : chkP 3 3 1 = true := by kernel_rfl
theorem p3_3_2 : chkP 3 3 2 = true := by kernel_rfl
theorem p3_3_3 : chkP 3 3 3 = true := by kernel_rfl
theorem p3_3_4 : chkP 3 3 4 = true := by kernel_rfl
theorem p3_4_1 : chkP 3 4 1 = true := by kernel_rfl
theorem p3_4_2 : chkP 3 4 2 = true := by kernel_rfl
theorem p3_4_3 : chkP 3 4 3 = true := by kernel_rfl
theorem p3_4_4 : chkP 3 4 4 = true := by kernel_rfl
theorem p3_5_1 : chkP 3 5 1 = true := by kernel_rfl
theorem p3_5_2 : chkP 3 5 2 = true := by kernel_rfl
theorem p3_5_3 : chkP 3 5 3 = true := by kernel_rfl
theorem p3_5_4 : chkP 3 5 4 = true := by kernel_rfl
end
end Go.Proofs.YtpcbmenjbcpieaaGreatDoor.AM
