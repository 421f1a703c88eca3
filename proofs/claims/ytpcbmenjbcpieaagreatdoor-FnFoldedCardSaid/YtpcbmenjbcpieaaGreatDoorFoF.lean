/- FnFolded: at every input the law's code comes back with true, and turns nothing that was there. -/
import Derived.Test.YtpcbmenjbcpieaaGreatDoorFoE
set_option linter.unusedVariables false
set_option linter.unusedSimpArgs false
namespace Go.Proofs.YtpcbmenjbcpieaaGreatDoor.AM
open Go Go.RowKit Go.Proofs.YtpcbmenjbcpieaaGreatDoor.PFnFolded Go.Proofs.YtpcbmenjbcpieaaGreatDoorW.PrintWords
noncomputable section

theorem at_val {l : List Int} (hl : l.length ≤ 1048576) (hw : ∀ x ∈ l, (Lit.int .u8 x).wf = true) (i : Nat) (hi : i ≤ 4) : ∃ r : Nat, r < 256 ∧ laws_at.f l (i : Int) = some (r : Int) := by
  unfold laws_at.f
  by_cases h : i < l.length
  · rw [if_pos (by omega), if_pos (by omega)]
    have hr : rd l (i : Int) = l[i] := by simp [rd, h]
    have hwf := hw l[i] (List.getElem_mem h)
    simp only [Lit.wf, IntKind.min, IntKind.max, IntKind.signed, IntKind.bits, Bool.and_eq_true, decide_eq_true_eq] at hwf
    have h0 : 0 ≤ l[i] ∧ l[i] ≤ 255 := by simpa using hwf
    refine ⟨l[i].toNat, by omega, ?_⟩
    rw [hr, wrap64_in (by omega)]
    congr 1
    omega
  · rw [if_neg (by omega)]
    rw [wrap64_in (n := (i : Int) * 31) (by omega), wrap64_in (n := (l.length : Int) * 7) (by omega), wrap64_in (by omega), Int.tmod_eq_emod_of_nonneg (by omega)]
    refine ⟨(i * 31 + l.length * 7) % 256, by omega, ?_⟩
    congr 1

theorem bnds_ok {x0 x1 x2 x3 x4 y0 y1 y2 y3 a b v u q : Nat} (hx : 1 ≤ x0 ∧ x0 ≤ 9 ∧ x1 ≤ 9 ∧ x2 ≤ 9 ∧ x3 ≤ 9 ∧ x4 ≤ 9) (hy : 1 ≤ y0 ∧ y0 ≤ 9 ∧ y1 ≤ 9 ∧ y2 ≤ 9 ∧ y3 ≤ 9) (ha : a ≤ 76500) (hb : b ≤ 2805) (hv : v < 256) (hu : u < 256) (hq : q ≤ 51) :
    ∀ (i : Nat) (p : Int × Int), bnds[i]? = some p → p.1 ≤ rhoF (vals x0 x1 x2 x3 x4 y0 y1 y2 y3 a b v u q) i ∧ rhoF (vals x0 x1 x2 x3 x4 y0 y1 y2 y3 a b v u q) i ≤ p.2 := by
  intro i p h
  rcases i with _ | _ | _ | _ | _ | _ | _ | _ | _ | _ | _ | _ | _ | _ | i
  all_goals first
    | (simp [bnds] at h; done)
    | (simp only [bnds, List.getElem?_cons_zero, List.getElem?_cons_succ, Option.some.injEq] at h
       subst h
       simp only [rhoF, vals, List.getD_cons_zero, List.getD_cons_succ]
       omega)

theorem tellsA {f : Nat → Int} {a la x0 x1 x2 x3 x4 : Nat} (h0 : f 0 = x0) (h1 : f 1 = x1) (h2 : f 2 = x2) (h3 : f 3 = x3) (h4 : f 4 = x4) (hx : 1 ≤ x0 ∧ x0 ≤ 9 ∧ x1 ≤ 9 ∧ x2 ≤ 9 ∧ x3 ≤ 9 ∧ x4 ≤ 9)
    (h : (la = 1 ∧ a = 0) ∨ (la = 3 ∧ a = 10 * (10 * x0 + x1) + x2) ∨ (la = 4 ∧ a = 10 * (10 * (10 * x0 + x1) + x2) + x3) ∨ (la = 5 ∧ a = 10 * (10 * (10 * (10 * x0 + x1) + x2) + x3) + x4)) : Tells f 0 la a := by
  rcases h with ⟨rfl, rfl⟩ | ⟨rfl, h⟩ | ⟨rfl, h⟩ | ⟨rfl, h⟩
  · exact tells1 f 0
  · exact tells3 h0 h1 h2 (by omega) (by omega) (by omega) h
  · exact tells4 h0 h1 h2 h3 (by omega) (by omega) (by omega) (by omega) h
  · exact tells5 h0 h1 h2 h3 h4 (by omega) (by omega) (by omega) (by omega) (by omega) h

theorem tellsB {f : Nat → Int} {b lb y0 y1 y2 y3 : Nat} (h0 : f 5 = y0) (h1 : f 6 = y1) (h2 : f 7 = y2) (h3 : f 8 = y3) (hy : 1 ≤ y0 ∧ y0 ≤ 9 ∧ y1 ≤ 9 ∧ y2 ≤ 9 ∧ y3 ≤ 9)
    (h : (lb = 1 ∧ b = 0) ∨ (lb = 2 ∧ b = 10 * y0 + y1) ∨ (lb = 3 ∧ b = 10 * (10 * y0 + y1) + y2) ∨ (lb = 4 ∧ b = 10 * (10 * (10 * y0 + y1) + y2) + y3)) : Tells f 5 lb b := by
  rcases h with ⟨rfl, rfl⟩ | ⟨rfl, h⟩ | ⟨rfl, h⟩ | ⟨rfl, h⟩
  · exact tells1 f 5
  · exact tells2 h0 h1 (by omega) (by omega) h
  · exact tells3 h0 h1 h2 (by omega) (by omega) (by omega) h
  · exact tells4 h0 h1 h2 h3 (by omega) (by omega) (by omega) (by omega) h

theorem chkP_all (j la lb : Nat) (hj : j < 5) (ha : la = 1 ∨ la = 3 ∨ la = 4 ∨ la = 5) (hb : lb = 1 ∨ lb = 2 ∨ lb = 3 ∨ lb = 4) : chkP j la lb = true := by
  rcases j with _ | _ | _ | _ | _ | j
  · rcases ha with rfl | rfl | rfl | rfl <;> rcases hb with rfl | rfl | rfl | rfl
    · exact p0_1_1
    · exact p0_1_2
    · exact p0_1_3
    · exact p0_1_4
    · exact p0_3_1
    · exact p0_3_2
    · exact p0_3_3
    · exact p0_3_4
    · exact p0_4_1
    · exact p0_4_2
    · exact p0_4_3
    · exact p0_4_4
    · exact p0_5_1
    · exact p0_5_2
    · exact p0_5_3
    · exact p0_5_4
  · rcases ha with rfl | rfl | rfl | rfl <;> rcases hb with rfl | rfl | rfl | rfl
    · exact p1_1_1
    · exact p1_1_2
    · exact p1_1_3
    · exact p1_1_4
    · exact p1_3_1
    · exact p1_3_2
    · exact p1_3_3
    · exact p1_3_4
    · exact p1_4_1
    · exact p1_4_2
    · exact p1_4_3
    · exact p1_4_4
    · exact p1_5_1
    · exact p1_5_2
    · exact p1_5_3
    · exact p1_5_4
  · rcases ha with rfl | rfl | rfl | rfl <;> rcases hb with rfl | rfl | rfl | rfl
    · exact p2_1_1
    · exact p2_1_2
    · exact p2_1_3
    · exact p2_1_4
    · exact p2_3_1
    · exact p2_3_2
    · exact p2_3_3
    · exact p2_3_4
    · exact p2_4_1
    · exact p2_4_2
    · exact p2_4_3
    · exact p2_4_4
    · exact p2_5_1
    · exact p2_5_2
    · exact p2_5_3
    · exact p2_5_4
  · rcases ha with rfl | rfl | rfl | rfl <;> rcases hb with rfl | rfl | rfl | rfl
    · exact p3_1_1
    · exact p3_1_2
    · exact p3_1_3
    · exact p3_1_4
    · exact p3_3_1
    · exact p3_3_2
    · exact p3_3_3
    · exact p3_3_4
    · exact p3_4_1
    · exact p3_4_2
    · exact p3_4_3
    · exact p3_4_4
    · exact p3_5_1
    · exact p3_5_2
    · exact p3_5_3
    · exact p3_5_4
  · rcases ha with rfl | rfl | rfl | rfl <;> rcases hb with rfl | rfl | rfl | rfl
    · exact p4_1_1
    · exact p4_1_2
    · exact p4_1_3
    · exact p4_1_4
    · exact p4_3_1
    · exact p4_3_2
    · exact p4_3_3
    · exact p4_3_4
    · exact p4_4_1
    · exact p4_4_2
    · exact p4_4_3
    · exact p4_4_4
    · exact p4_5_1
    · exact p4_5_2
    · exact p4_5_3
    · exact p4_5_4
  · omega

/-- Which way the operator and the two numbers go. -/
theorem chkF_all (f : Nat → Int) (j : Nat) (hj : j < 5) : ∃ eqs lts : List (SI × SI × Bool), (∀ x ∈ eqs, decide (x.1.ev f = x.2.1.ev f) = x.2.2) ∧ (∀ x ∈ lts, decide (x.1.ev f < x.2.1.ev f) = x.2.2) ∧ chkF j eqs lts = true := by
  have one : ∀ (g : SI × SI × Bool → Prop) (y : SI × SI × Bool), g y → ∀ x ∈ [y], g x := fun g y hy x hx => by
    rw [List.mem_singleton] at hx; subst hx; exact hy
  rcases j with _ | _ | _ | _ | _ | j
  · exact ⟨[], [], fun x hx => (by cases hx), fun x hx => (by cases hx), fAdd⟩
  · by_cases h : (SI.sub eA eB).ev f < (SI.lit 0).ev f
    · exact ⟨[], [(.sub eA eB, .lit 0, true)], fun x hx => (by cases hx), one _ _ (decide_eq_true h), fSubT⟩
    · exact ⟨[], [(.sub eA eB, .lit 0, false)], fun x hx => (by cases hx), one _ _ (decide_eq_false h), fSubF⟩
  · exact ⟨[], [], fun x hx => (by cases hx), fun x hx => (by cases hx), fMul⟩
  · by_cases h : eA.ev f = eB.ev f
    · exact ⟨[(eA, eB, true)], [], one _ _ (decide_eq_true h), fun x hx => (by cases hx), fEqT⟩
    · exact ⟨[(eA, eB, false)], [], one _ _ (decide_eq_false h), fun x hx => (by cases hx), fEqF⟩
  · by_cases h : eA.ev f < eB.ev f
    · exact ⟨[], [(eA, eB, true)], fun x hx => (by cases hx), one _ _ (decide_eq_true h), fLtT⟩
    · exact ⟨[], [(eA, eB, false)], fun x hx => (by cases hx), one _ _ (decide_eq_false h), fLtF⟩
  · omega

theorem folded_calls {A : Option Addr} {l : List Int} {c : Nat} {w0 : World} (hr : ReadsInt w0 .u8 A l.length l) (hc : l.length ≤ c) (hw : ∀ x ∈ l, (Lit.int .u8 x).wf = true) :
    Calls Tryz.prog 4 #[.slice A l.length c] w0 fun e w' => e = .returned (.bool true) ∧ Below w0.heap.size w0 w' := by
  by_cases hbig : (l.length : Int) > 1048576
  · -- too long: true at once
    let ρ : Rho := ⟨rhoF (vals 1 0 0 0 0 1 0 0 0 0 0 0 0 0), w0.heap.size, w0.heap, A, l.length, c⟩
    have hI : Inp ρ w0 A l c := ⟨rfl, rfl, rfl, rfl, rfl, hr, hc⟩
    have hE : EE.ok ρ := ⟨bnds_ok (by omega) (by omega) (by omega) (by omega) (by omega) (by omega) (by omega), fun x hx => (by cases hx), fun x hx => (by cases hx)⟩
    refine run_true hI hE (fun e he => ?_) fBig
    rw [List.mem_singleton] at he
    subst he
    have := entBig_ok hI
    rw [decide_eq_true hbig] at this
    exact this
  · obtain ⟨v, hv, av⟩ := at_val (l := l) (by omega) hw 2 (by omega)
    obtain ⟨u, hu, au⟩ := at_val (l := l) (by omega) hw 3 (by omega)
    obtain ⟨t, ht, at4⟩ := at_val (l := l) (by omega) hw 4 (by omega)
    obtain ⟨la, x0, x1, x2, x3, x4, hx, hA⟩ := shapeA v hv
    obtain ⟨lb, y0, y1, y2, y3, hy, hB⟩ := shapeB u hu
    let ρ : Rho := ⟨rhoF (vals x0 x1 x2 x3 x4 y0 y1 y2 y3 (v * 300) (u * 11) v u (t / 5)), w0.heap.size, w0.heap, A, l.length, c⟩
    have hI : Inp ρ w0 A l c := ⟨rfl, rfl, rfl, rfl, rfl, hr, hc⟩
    have hbn := bnds_ok (x0 := x0) (x1 := x1) (x2 := x2) (x3 := x3) (x4 := x4) (y0 := y0) (y1 := y1) (y2 := y2) (y3 := y3) (a := v * 300) (b := u * 11) (v := v) (u := u) (q := t / 5) hx hy (by omega) (by omega) hv hu (by omega)
    have hE : EE.ok ρ := ⟨hbn, fun x hx => (by cases hx), fun x hx => (by cases hx)⟩
    have eAv : eA.ev ρ = ((v * 300 : Nat) : Int) := by
      show (v : Int) * 300 = _
      omega
    have eBv : eB.ev ρ = ((u * 11 : Nat) : Int) := by
      show (u : Int) * 11 = _
      omega
    have ta : Tells ρ.fn 0 la (v * 300) := tellsA rfl rfl rfl rfl rfl hx hA
    have tb : Tells ρ.fn 5 lb (u * 11) := tellsB rfl rfl rfl rfl hy hB
    have hla : la = 1 ∨ la = 3 ∨ la = 4 ∨ la = 5 := by omega
    have hlb : lb = 1 ∨ lb = 2 ∨ lb = 3 ∨ lb = 4 := by omega
    have na : chkN 0 9 la = true := by
      rcases hla with rfl | rfl | rfl | rfl
      · exact nA1
      · exact nA3
      · exact nA4
      · exact nA5
    have nb : chkN 5 10 lb = true := by
      rcases hlb with rfl | rfl | rfl | rfl
      · exact nB1
      · exact nB2
      · exact nB3
      · exact nB4
    have hj : t % 5 < 5 := by omega
    have h9 : ρ.fn 9 = ((v * 300 : Nat) : Int) := rfl
    have h10 : ρ.fn 10 = ((u * 11 : Nat) : Int) := rfl
    have hth : ∀ p ∈ thP la lb, p.1.ev ρ = p.2.ev ρ := by
      have g1 : eA.ev ρ = (SI.var 9).ev ρ := eAv
      have g2 : eB.ev ρ = (SI.var 10).ev ρ := eBv
      intro p hp
      unfold thP at hp
      split at hp
      · simp only [List.mem_cons, List.mem_nil_iff, or_false] at hp
        rcases hp with rfl | rfl
        · exact g1
        · have z1 : v * 300 = 0 := by omega
          have z2 : u * 11 = 0 := by omega
          show eB.ev ρ = ρ.fn 9
          rw [eBv, h9, z1, z2]
      · simp only [List.mem_cons, List.mem_nil_iff, or_false] at hp
        rcases hp with rfl | rfl
        · exact g1
        · exact g2
    have hflat : AVs.flat (entP (t % 5)).args = true := rfl
    have hP := entP_ok hE eAv eBv h9 h10 ta tb na nb hth (chkP_all (t % 5) la lb hj hla hlb) hflat
    obtain ⟨eqs, lts, q1, q2, q3⟩ := chkF_all ρ.fn (t % 5) hj
    have hEF : (EF eqs lts).ok ρ := ⟨hbn, q1, q2⟩
    refine run_true hI hEF (fun e he => ?_) q3
    simp only [tabF, List.mem_cons, List.mem_nil_iff, or_false] at he
    rcases he with rfl | rfl | rfl | rfl | rfl | rfl | rfl
    · have := entBig_ok hI
      rw [decide_eq_false hbig] at this
      exact this
    · exact entAt_ok hI av
    · exact entAt_ok hI au
    · refine entAt_ok hI ?_
      rw [at4]
      have e4v : (e4 (t % 5)).ev ρ = ((t / 5 : Nat) : Int) * 5 + ((t % 5 : Nat) : Int) := rfl
      rw [e4v]
      exact congrArg some (by omega)
    · exact entD_ok eAv (by omega)
    · exact entD_ok eBv (by omega)
    · exact hP

end
end Go.Proofs.YtpcbmenjbcpieaaGreatDoor.AM
