/- FnFolded: closed facts: Atoi of the digits; the law itself, with the calls whose ends are known. -/
import Derived.Test.YtpcbmenjbcpieaaGreatDoorFoA
set_option linter.unusedVariables false
namespace Go.Proofs.YtpcbmenjbcpieaaGreatDoor.AM
open Go
noncomputable section
theorem nA1 : chkN 0 9 1 = true := by kernel_rfl
theorem nA3 : chkN 0 9 3 = true := by kernel_rfl
theorem nA4 : chkN 0 9 4 = true := by kernel_rfl
theorem nA5 : chkN 0 9 5 = true := by kernel_rfl
theorem nB1 : chkN 5 10 1 = true := by kernel_rfl
theorem nB2 : chkN 5 10 2 = true := by kernel_rfl
theorem nB3 : chkN 5 10 3 = true := by kernel_rfl
theorem nB4 : chkN 5 10 4 = true := by kernel_rfl
theorem fBig : chkB = true := by kernel_rfl
theorem fAdd : chkF 0 [] [] = true := by kernel_rfl
theorem fSubT : chkF 1 [] [(.sub eA eB, .lit 0, true)] = true := by kernel_rfl
theorem fSubF : chkF 1 [] [(.sub eA eB, .lit 0, false)] = true := by kernel_rfl
theorem fMul : chkF 2 [] [] = true := by kernel_rfl
theorem fEqT : chkF 3 [(eA, eB, true)] [] = true := by kernel_rfl
theorem fEqF : chkF 3 [(eA, eB, false)] [] = true := by kernel_rfl
theorem fLtT : chkF 4 [] [(eA, eB, true)] = true := by kernel_rfl
theorem fLtF : chkF 4 [] [(eA, eB, false)] = true := by kernel_rfl
end
end Go.Proofs.YtpcbmenjbcpieaaGreatDoor.AM
