/- FnFolded: closed facts: ParseProg of the text, by the lengths of its numbers (operator 4). -/
import Derived.Test.YtpcbmenjbcpieaaGreatDoorFoA
set_option linter.unusedVariables false
namespace Go.Proofs.YtpcbmenjbcpieaaGreatDoor.AM
open Go
noncomputable section
theorem p4_1_1 : chkP 4 1 1 = true := by kernel_rfl
theorem p4_1_2 : chkP 4 1 2 = true := by kernel_rfl
theorem p4_1_3 : chkP 4 1 3 = true := by kernel_rfl
theorem p4_1_4 : chkP 4 1 4 = true := by kernel_rfl
theorem p4_3_1 : chkP 4 3 1 = true := by kernel_rfl
theorem p4_3_2 : chkP 4 3 2 = true := by kernel_rfl
theorem p4_3_3 : chkP 4 3 3 = true := by kernel_rfl
theorem p4_3_4 : chkP 4 3 4 = true := by kernel_rfl
theorem p4_4_1 : chkP 4 4 1 = true := by kernel_rfl
theorem p4_4_2 : chkP 4 4 2 = true := by kernel_rfl
theorem p4_4_3 : chkP 4 4 3 = true := by kernel_rfl
theorem p4_4_4 : chkP 4 4 4 = true := by kernel_rfl
theorem p4_5_1 : chkP 4 5 1 = true := by kernel_rfl
theorem p4_5_2 : chkP 4 5 2 = true := by kernel_rfl
theorem p4_5_3 : chkP 4 5 3 = true := by kernel_rfl
theorem p4_5_4 : chkP 4 5 4 = true := by kernel_rfl
end
end Go.Proofs.YtpcbmenjbcpieaaGreatDoor.AM
