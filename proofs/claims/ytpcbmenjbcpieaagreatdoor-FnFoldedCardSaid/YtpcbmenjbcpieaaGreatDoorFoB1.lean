/- FnFolded: closed facts: ParseProg of the text, by the lengths of its numbers (operator 1). -/
import Derived.Test.YtpcbmenjbcpieaaGreatDoorFoA
set_option linter.unusedVariables false
namespace Go.Proofs.YtpcbmenjbcpieaaGreatDoor.AM
open Go
noncomputable section
theorem p1_1_1 : chkP 1 1 1 = true := by kernel_rfl
theorem p1_1_2 : chkP 1 1 2 = true := by kernel_rfl
theorem p1_1_3 : chkP 1 1 3 = true := by kernel_rfl
theorem p1_1_4 : chkP 1 1 4 = true := by kernel_rfl
theorem p1_3_1 : chkP 1 3 1 = true := by kernel_rfl
theorem p1_3_2 : chkP 1 3 2 = true := by kernel_rfl
theorem p1_3_3 : chkP 1 3 3 = true := by kernel_rfl
theorem p1_3_4 : chkP 1 3 4 = true := by kernel_rfl
theorem p1_4_1 : chkP 1 4 1 = true := by kernel_rfl
theorem p1_4_2 : chkP 1 4 2 = true := by kernel_rfl
theorem p1_4_3 : chkP 1 4 3 = true := by kernel_rfl
theorem p1_4_4 : chkP 1 4 4 = true := by kernel_rfl
theorem p1_5_1 : chkP 1 5 1 = true := by kernel_rfl
theorem p1_5_2 : chkP 1 5 2 = true := by kernel_rfl
theorem p1_5_3 : chkP 1 5 3 = true := by kernel_rfl
theorem p1_5_4 : chkP 1 5 4 = true := by kernel_rfl
end
end Go.Proofs.YtpcbmenjbcpieaaGreatDoor.AM
