/- FnFolded: plain numbers: decimal digits, what digits(n) answers, what at(code, i) answers. -/
import Derived.Test.YtpcbmenjbcpieaaGreatDoorFoA
import Derived.Test.YtpcbmenjbcpieaaGreatDoorPFnFoldedx1
import Derived.Test.YtpcbmenjbcpieaaGreatDoorPFnFoldedx3
set_option linter.unusedVariables false
set_option linter.unusedSimpArgs false
namespace Go.Proofs.YtpcbmenjbcpieaaGreatDoor.AM
open Go Go.RowKit Go.Proofs.YtpcbmenjbcpieaaGreatDoor.PFnFolded Go.Proofs.YtpcbmenjbcpieaaGreatDoorW.PrintWords
noncomputable section

theorem decT_one {d : Nat} (h : d < 10) : decT d = [48 + (d : Int)] := by
  rw [decT, if_pos h]

theorem decT_snoc {q d n : Nat} (hq : 0 < q) (hd : d < 10) (h : n = 10 * q + d) : decT n = decT q ++ [48 + (d : Int)] := by
  rw [decT, if_neg (by omega), show n / 10 = q by omega, show n % 10 = d by omega]

/-- The unknown numbers of one input. -/
def vals (x0 x1 x2 x3 x4 y0 y1 y2 y3 a b v u q : Nat) : List Int := [(x0 : Int), x1, x2, x3, x4, y0, y1, y2, y3, a, b, v, u, q]

def rhoF (l : List Int) : Nat → Int := fun i => l.getD i 0

/-- A number of at most five digits that is a multiple of 300. -/
theorem shapeA (v : Nat) (hv : v < 256) : ∃ la x0 x1 x2 x3 x4 : Nat, (1 ≤ x0 ∧ x0 ≤ 9 ∧ x1 ≤ 9 ∧ x2 ≤ 9 ∧ x3 ≤ 9 ∧ x4 ≤ 9) ∧
    ((la = 1 ∧ v * 300 = 0) ∨ (la = 3 ∧ v * 300 = 10 * (10 * x0 + x1) + x2) ∨ (la = 4 ∧ v * 300 = 10 * (10 * (10 * x0 + x1) + x2) + x3) ∨ (la = 5 ∧ v * 300 = 10 * (10 * (10 * (10 * x0 + x1) + x2) + x3) + x4)) := by
  by_cases h0 : v = 0
  · exact ⟨1, 1, 0, 0, 0, 0, by omega, .inl ⟨rfl, by omega⟩⟩
  by_cases h1 : v * 300 < 1000
  · exact ⟨3, v * 300 / 100, v * 300 / 10 % 10, v * 300 % 10, 0, 0, by omega, .inr (.inl ⟨rfl, by omega⟩)⟩
  by_cases h2 : v * 300 < 10000
  · exact ⟨4, v * 300 / 10 / 10 / 10, v * 300 / 10 / 10 % 10, v * 300 / 10 % 10, v * 300 % 10, 0, by omega, .inr (.inr (.inl ⟨rfl, by omega⟩))⟩
  · exact ⟨5, v * 300 / 10 / 10 / 10 / 10, v * 300 / 10 / 10 / 10 % 10, v * 300 / 10 / 10 % 10, v * 300 / 10 % 10, v * 300 % 10, by omega, .inr (.inr (.inr ⟨rfl, by omega⟩))⟩

/-- A multiple of 11 of at most four digits. -/
theorem shapeB (u : Nat) (hu : u < 256) : ∃ lb y0 y1 y2 y3 : Nat, (1 ≤ y0 ∧ y0 ≤ 9 ∧ y1 ≤ 9 ∧ y2 ≤ 9 ∧ y3 ≤ 9) ∧
    ((lb = 1 ∧ u * 11 = 0) ∨ (lb = 2 ∧ u * 11 = 10 * y0 + y1) ∨ (lb = 3 ∧ u * 11 = 10 * (10 * y0 + y1) + y2) ∨ (lb = 4 ∧ u * 11 = 10 * (10 * (10 * y0 + y1) + y2) + y3)) := by
  by_cases h0 : u = 0
  · exact ⟨1, 1, 0, 0, 0, by omega, .inl ⟨rfl, by omega⟩⟩
  by_cases h1 : u * 11 < 100
  · exact ⟨2, u * 11 / 10, u * 11 % 10, 0, 0, by omega, .inr (.inl ⟨rfl, by omega⟩)⟩
  by_cases h2 : u * 11 < 1000
  · exact ⟨3, u * 11 / 10 / 10, u * 11 / 10 % 10, u * 11 % 10, 0, by omega, .inr (.inr (.inl ⟨rfl, by omega⟩))⟩
  · exact ⟨4, u * 11 / 10 / 10 / 10, u * 11 / 10 / 10 % 10, u * 11 / 10 % 10, u * 11 % 10, by omega, .inr (.inr (.inr ⟨rfl, by omega⟩))⟩

/-- Digits and the number that they tell. -/
def Tells (f : Nat → Int) (b l a : Nat) : Prop := decT a = (dsL b l).map (SI.ev f) ∧ (hoL b l).ev f = (a : Int)

theorem tells1 (f : Nat → Int) (b : Nat) : Tells f b 1 0 := ⟨by rw [decT_one (by omega)]; rfl, rfl⟩

theorem tells2 {f : Nat → Int} {b a x0 x1 : Nat} (h0 : f b = x0) (h1 : f (b + 1) = x1) (g0 : 1 ≤ x0 ∧ x0 ≤ 9) (g1 : x1 ≤ 9) (h : a = 10 * x0 + x1) : Tells f b 2 a := by
  refine ⟨?_, ?_⟩
  · rw [decT_snoc (by omega) (by omega) h, decT_one (by omega)]
    simp [dsL, dsN, dv, SI.ev, h0, h1]
  · simp only [hoL, hoN, hv, dv, SI.ev, h0, h1, Nat.add_zero]; omega

theorem tells3 {f : Nat → Int} {b a x0 x1 x2 : Nat} (h0 : f b = x0) (h1 : f (b + 1) = x1) (h2 : f (b + 2) = x2) (g0 : 1 ≤ x0 ∧ x0 ≤ 9) (g1 : x1 ≤ 9) (g2 : x2 ≤ 9) (h : a = 10 * (10 * x0 + x1) + x2) : Tells f b 3 a := by
  refine ⟨?_, ?_⟩
  · rw [decT_snoc (by omega) (by omega) h, decT_snoc (by omega) (by omega) rfl, decT_one (by omega)]
    simp [dsL, dsN, dv, SI.ev, h0, h1, h2]
  · simp only [hoL, hoN, hv, dv, SI.ev, h0, h1, h2, Nat.add_zero]; omega

theorem tells4 {f : Nat → Int} {b a x0 x1 x2 x3 : Nat} (h0 : f b = x0) (h1 : f (b + 1) = x1) (h2 : f (b + 2) = x2) (h3 : f (b + 3) = x3) (g0 : 1 ≤ x0 ∧ x0 ≤ 9) (g1 : x1 ≤ 9) (g2 : x2 ≤ 9) (g3 : x3 ≤ 9)
    (h : a = 10 * (10 * (10 * x0 + x1) + x2) + x3) : Tells f b 4 a := by
  refine ⟨?_, ?_⟩
  · rw [decT_snoc (by omega) (by omega) h, decT_snoc (by omega) (by omega) rfl, decT_snoc (by omega) (by omega) rfl, decT_one (by omega)]
    simp [dsL, dsN, dv, SI.ev, h0, h1, h2, h3]
  · simp only [hoL, hoN, hv, dv, SI.ev, h0, h1, h2, h3, Nat.add_zero]; omega

theorem tells5 {f : Nat → Int} {b a x0 x1 x2 x3 x4 : Nat} (h0 : f b = x0) (h1 : f (b + 1) = x1) (h2 : f (b + 2) = x2) (h3 : f (b + 3) = x3) (h4 : f (b + 4) = x4) (g0 : 1 ≤ x0 ∧ x0 ≤ 9) (g1 : x1 ≤ 9) (g2 : x2 ≤ 9) (g3 : x3 ≤ 9) (g4 : x4 ≤ 9)
    (h : a = 10 * (10 * (10 * (10 * x0 + x1) + x2) + x3) + x4) : Tells f b 5 a := by
  refine ⟨?_, ?_⟩
  · rw [decT_snoc (by omega) (by omega) h, decT_snoc (by omega) (by omega) rfl, decT_snoc (by omega) (by omega) rfl, decT_snoc (by omega) (by omega) rfl, decT_one (by omega)]
    simp [dsL, dsN, dv, SI.ev, h0, h1, h2, h3, h4]
  · simp only [hoL, hoN, hv, dv, SI.ev, h0, h1, h2, h3, h4, Nat.add_zero]; omega

/-! ### digits -/
theorem wrap64_in {n : Int} (h : -9223372036854775808 ≤ n ∧ n ≤ 9223372036854775807) : wrap64 n = n := by
  unfold wrap64; omega

theorem strOne {d : Nat} (h : d < 10) : (strOfNums [(wrap64 (48 + (d : Int))) % 256]).data.toList.map (fun b => (b.toNat : Int)) = [48 + (d : Int)] := by
  rw [wrap64_in (by omega)]
  have e : (48 + (d : Int)) % 256 = ((48 + d : Nat) : Int) := by omega
  rw [e]
  simp only [strOfNums, List.map_cons, List.map_nil, Int.toNat_natCast]
  have : (UInt8.ofNat (48 + d)).toNat = 48 + d := by
    simp [UInt8.toNat_ofNat']; omega
  simp [this]
  omega

theorem digits_f : ∀ (k n : Nat), k ≤ 100 → n < 10 ^ (k + 1) → n ≤ 1000000 → ∃ s, laws_digits.f (k + 1) (n : Int) = some s ∧ s.data.toList.map (fun b => (b.toNat : Int)) = decT n ∧ s.size ≤ k + 1
  | 0, n, hk, h, hn => by
    have h10 : n < 10 := by simpa using h
    refine ⟨strOfNums [(wrap64 (48 + (n : Int))) % 256], ?_, ?_, ?_⟩
    · simp only [laws_digits.f]
      rw [if_pos (by omega)]
    · rw [strOne h10, decT_one h10]
    · exact Nat.le_refl _
  | k + 1, n, hk, h, hn => by
    by_cases h10 : n < 10
    · refine ⟨strOfNums [(wrap64 (48 + (n : Int))) % 256], ?_, ?_, ?_⟩
      · rw [laws_digits.f]
        rw [if_pos (by omega)]
      · rw [strOne h10, decT_one h10]
      · show 1 ≤ _; omega
    · have hq : n / 10 < 10 ^ (k + 1) := by
        rw [Nat.pow_succ] at h; omega
      obtain ⟨s, h1, h2, h3⟩ := digits_f k (n / 10) (by omega) hq (by omega)
      have hd : n % 10 < 10 := by omega
      refine ⟨s ++ strOfNums [(wrap64 (48 + ((n % 10 : Nat) : Int))) % 256], ?_, ?_, ?_⟩
      · rw [laws_digits.f, if_neg (by omega)]
        have e1 : wrap64 (Int.tdiv (n : Int) 10) = ((n / 10 : Nat) : Int) := by
          rw [Int.tdiv_eq_ediv_of_nonneg (by omega), wrap64_in (by omega)]; omega
        have e2 : Int.tmod (n : Int) 10 = ((n % 10 : Nat) : Int) := by
          rw [Int.tmod_eq_emod_of_nonneg (by omega)]; omega
        rw [e1, h1, e2]
        simp only [Option.bind_some]
        have hs : (strOfNums [(wrap64 (48 + ((n % 10 : Nat) : Int))) % 256]).size = 1 := rfl
        rw [if_pos (by rw [hs]; omega)]
      · have e : (s ++ strOfNums [(wrap64 (48 + ((n % 10 : Nat) : Int))) % 256]).data.toList = s.data.toList ++ (strOfNums [(wrap64 (48 + ((n % 10 : Nat) : Int))) % 256]).data.toList := by simp
        rw [e, List.map_append, h2, strOne hd]
        conv => rhs; rw [decT, if_neg h10]
      · rw [ByteArray.size_append]
        have hs : (strOfNums [(wrap64 (48 + ((n % 10 : Nat) : Int))) % 256]).size = 1 := rfl
        omega

end
end Go.Proofs.YtpcbmenjbcpieaaGreatDoor.AM
