/- FnFolded: the texts that it may make, and the calls whose ends are known. -/
import Derived.Test.YtpcbmenjbcpieaaGreatDoorMaD
import Derived.Test.YtpcbmenjbcpieaaGreatDoorProg
import Derived.KernelRfl
set_option linter.unusedVariables false
namespace Go.Proofs.YtpcbmenjbcpieaaGreatDoor.AM
open Go
noncomputable section

/-- What is known of the unknown numbers: the digits of the first number (0 to 4) and of the second (5 to 8), the two numbers (9, 10), the bytes that they come of (11, 12), a fifth of the third byte (13). -/
def bnds : List (Int × Int) := [(1, 9), (0, 9), (0, 9), (0, 9), (0, 9), (1, 9), (0, 9), (0, 9), (0, 9), (0, 76500), (0, 2805), (0, 255), (0, 255), (0, 51)]
def EE : Env := ⟨bnds, [], []⟩
def dv (i : Nat) : SI := .add (.lit 48) (.var i)
def hv (i : Nat) : SI := .sub (dv i) (.lit 48)
/-- The digits of a number of l digits, from variable b on; of one digit: nought. -/
def dsN (b : Nat) : Nat → List SI
  | 0 => []
  | l + 1 => dsN b l ++ [dv (b + l)]
def dsL (b l : Nat) : List SI := match l with
  | 1 => [.lit 48]
  | l => dsN b l
/-- The number that they tell. -/
def hoN (b : Nat) : Nat → SI
  | 0 => .lit 0
  | 1 => .add (.lit 0) (hv b)
  | l + 1 => .add (.mul (hoN b l) (.lit 10)) (hv (b + l))
def hoL (b l : Nat) : SI := match l with
  | 1 => .lit 0
  | l => hoN b l
/-- The two numbers, as the bytes give them. -/
def eA : SI := .mul (.var 11) (.lit 300)
def eB : SI := .mul (.var 12) (.lit 11)
def opS : Nat → List SI
  | 0 => [.lit 43]
  | 1 => [.lit 45]
  | 2 => [.lit 42]
  | 3 => [.lit 61, .lit 61]
  | _ => [.lit 60]
def mainS : List SI := [.lit 109, .lit 97, .lit 105, .lit 110]
def eqS : List SI := [.lit 109, .lit 97, .lit 105, .lit 110, .lit 32, .lit 61, .lit 32]
/-- The program's text. -/
def txt (j la lb : Nat) : List SI := eqS ++ (dsL 0 la ++ ([.lit 32] ++ (opS j ++ ([.lit 32] ++ (dsL 5 lb ++ [.lit 10])))))
def txtP (j : Nat) : List Pc := eqS.map Pc.byte ++ (.dec eA :: (([SI.lit 32] ++ (opS j ++ [SI.lit 32])).map Pc.byte ++ (.dec eB :: [.byte (.lit 10)])))
/-- Atoi of the digits. -/
def entN (b x l : Nat) : Ent := ⟨303, [.str (dsL b l)], .tup [.int .i64 (.var x), .nili], []⟩
/-- ParseProg of the text. -/
def entP (j : Nat) : Ent := ⟨20, [.text (txtP j)], .tup [.agg [.nils, .slice 0 0 1 none 9], .bool true],
  [⟨[.str mainS, .nils, .int .i64 (.lit 9), .str (opS j), .int .i64 (.lit 0), .slice 1 0 2 (some 2) 6, .nils, .nils, .nils], none, 84, false⟩,
   ⟨[.int .i64 (.lit 3), .str [], .int .i64 eA, .nils, .nils, .nils, .int .i64 (.lit 3), .str [], .int .i64 eB, .nils, .nils, .nils], none, 51, false⟩]⟩
/-- Which blocks of what ParseProg gives are kept. -/
def kfP (v : AV) (H : AH) : List Nat := match v with
  | .tup [.agg [_, .slice b _ _ _ _], _] => match H.get b with
    | some k => match (k.cells[5]? : Option AV) with
      | some (AV.slice c _ _ _ _) => [b, c]
      | _ => []
    | none => []
  | _ => []
def kf0 (_ : AV) (_ : AH) : List Nat := []
def chkN (b x l : Nat) : Bool := chkE [] Tryz.prog EE 60 (entN b x l) [.str (dsL b l)] kf0 [(.var x, hoL b l)]
def thP (la lb : Nat) : List (SI × SI) := match la, lb with
  | 1, 1 => [(eA, .var 9), (eB, .var 9)]
  | _, _ => [(eA, .var 9), (eB, .var 10)]
def chkP (j la lb : Nat) : Bool := chkE [entN 0 9 la, entN 5 10 lb] Tryz.prog EE 300 (entP j) [.str (txt j la lb)] kfP (thP la lb)
def entBig (b : Bool) : Ent := ⟨5, [.opq], .bool b, []⟩
def entAt (i : Nat) (e : SI) : Ent := ⟨19, [.opq, .int .i64 (.lit (Int.ofNat i))], .int .i64 e, []⟩
def entD (e : SI) : Ent := ⟨21, [.int .i64 e], .text [.dec e], []⟩
def e4 (j : Nat) : SI := .add (.mul (.var 13) (.lit 5)) (.lit (Int.ofNat j))
def tabF (j : Nat) : List Ent := [entBig false, entAt 2 (.var 11), entAt 3 (.var 12), entAt 4 (e4 j), entD eA, entD eB, entP j]
def isTrue : Option (AV × AH) → Bool
  | some (.bool true, _) => true
  | _ => false
def EF (eqs lts : List (SI × SI × Bool)) : Env := ⟨bnds, eqs, lts⟩
def chkF (j : Nat) (eqs lts : List (SI × SI × Bool)) : Bool := isTrue (callN (tabF j) Tryz.prog (EF eqs lts) 300 4 [.opq] H00)
def chkB : Bool := isTrue (callN [entBig true] Tryz.prog EE 20 4 [.opq] H00)
end
end Go.Proofs.YtpcbmenjbcpieaaGreatDoor.AM
