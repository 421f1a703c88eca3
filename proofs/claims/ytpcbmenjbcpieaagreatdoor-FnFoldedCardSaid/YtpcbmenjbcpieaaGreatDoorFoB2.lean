/- FnFolded: closed facts: ParseProg of the text, by the lengths of its numbers (operator 2). -/
import Derived.Test.YtpcbmenjbcpieaaGreatDoorFoA
set_option linter.unusedVariables false
namespace Go.Proofs.YtpcbmenjbcpieaaGreatDoor.AM
open Go
noncomputable section
theorem p2_1_1 : chkP 2 1 1 = true := by kernel_rfl
theorem p2_1_2 : chkP 2 1 2 = true := by kernel_rfl
theorem p2_1_3 : chkP 2 1 3 = true := by kernel_rfl
theorem p2_1_4 : chkP 2 1 4 = true := by kernel_rfl
theorem p2_3_1 : chkP 2 3 1 = true := by kernel_rfl
theorem p2_3_2 : chkP 2 3 2 = true := by kernel_rfl
theorem p2_3_3 : chkP 2 3 3 = true := by kernel_rfl
theorem p2_3_4 : chkP 2 3 4 = true := by kernel_rfl
theorem p2_4_1 : chkP 2 4 1 = true := by kernel_rfl
theorem p2_4_2 : chkP 2 4 2 = true := by kernel_rfl
theorem p2_4_3 : chkP 2 4 3 = true := by kernel_rfl
theorem p2_4_4 : chkP 2 4 4 = true := by kernel_rfl
theorem p2_5_1 : chkP 2 5 1 = true := by kernel_rfl
theorem p2_5_2 : chkP 2 5 2 = true := by kernel_rfl
theorem p2_5_3 : chkP 2 5 3 = true := by kernel_rfl
theorem p2_5_4 : chkP 2 5 4 = true := by kernel_rfl
end
end Go.Proofs.YtpcbmenjbcpieaaGreatDoor.AM
