/- FnFolded: the calls whose ends are known, shown to be so. -/
import Derived.Test.YtpcbmenjbcpieaaGreatDoorFoD
import Derived.Test.YtpcbmenjbcpieaaGreatDoorFoC
import Derived.Test.YtpcbmenjbcpieaaGreatDoorFoB0
import Derived.Test.YtpcbmenjbcpieaaGreatDoorFoB1
import Derived.Test.YtpcbmenjbcpieaaGreatDoorFoB2
import Derived.Test.YtpcbmenjbcpieaaGreatDoorFoB3
import Derived.Test.YtpcbmenjbcpieaaGreatDoorFoB4
import Derived.Test.YtpcbmenjbcpieaaGreatDoorChecked
import Derived.Eval
set_option linter.unusedVariables false
set_option linter.unusedSimpArgs false
namespace Go.Proofs.YtpcbmenjbcpieaaGreatDoor.AM
open Go Go.RowKit Go.Proofs.YtpcbmenjbcpieaaGreatDoor.PFnFolded Go.Proofs.YtpcbmenjbcpieaaGreatDoorW.PrintWords
noncomputable section

theorem mixed : Tryz.prog.follows .mixedOrders = true := Checked.mixed Tryz.checked

/-- An end without blocks. -/
theorem entRet_flat {ρ : Rho} {w w' : World} {e : Ent} {en : Ending} {x : Value} (hb : e.blocks = []) (hen : en = .returned x) (hv : VR (fun _ => none) ρ e.v x) (hw : Below w.heap.size w w') : EntRet ρ w e en w' := by
  subst hen
  refine ⟨fun _ => none, fun b L h => (by cases h), hv, fun i k h => (by rw [hb] at h; simp at h), fun i j L L' h => (by cases h), hw⟩

theorem Drawn0.below' {w w' : World} (h : Drawn0 w w') : Below w.heap.size w w' := by
  obtain ⟨n, rfl⟩ := h
  exact ⟨rfl, rfl, rfl, Nat.le_refl _, fun _ _ => rfl⟩

/-- What lies below stays readable. -/
theorem reads_base {ρ : Rho} {w0 w : World} {A : Option Addr} {n : Nat} {l : List Int} (hn : ρ.n0 = w0.heap.size) (hh : ρ.h0 = w0.heap) (hb : Base ρ w.heap) (h : ReadsInt w0 .u8 A n l) : ReadsInt w .u8 A n l := by
  refine ⟨h.1, h.2.1, fun hp => ?_⟩
  obtain ⟨ad, e, hc⟩ := h.2.2 hp
  refine ⟨ad, e, fun j hj => ?_⟩
  have h1 := hc j hj
  have hlt := World.block_lt_of_cell? w0 _ h1
  have h2 := hb.same (ad.add j).block (by rw [hn]; exact hlt)
  rw [hh] at h2
  unfold World.cell? at h1 ⊢
  rw [h2]
  exact h1

/-- What one input is: where the bytes lie, what they are. -/
structure Inp (ρ : Rho) (w0 : World) (A : Option Addr) (l : List Int) (c : Nat) : Prop where
  n0 : ρ.n0 = w0.heap.size
  h0 : ρ.h0 = w0.heap
  oa : ρ.oa = A
  on : ρ.on = l.length
  oc : ρ.oc = c
  reads : ReadsInt w0 .u8 A l.length l
  cap : l.length ≤ c

theorem entBig_ok {ρ : Rho} {w0 : World} {A : Option Addr} {l : List Int} {c : Nat} (hI : Inp ρ w0 A l c) : EntOk Tryz.prog ρ (entBig (decide ((l.length : Int) > 1048576))) := by
  refine ⟨rfl, fun w xs hb hx => ?_⟩
  cases hx with | cons _ x _ _ h1 hx =>
  cases hx
  cases h1
  rw [hI.oa, hI.on, hI.oc]
  refine Calls.mono (laws_big.calls A c l _ w (Kd.C_of_reads (d := (0 : Int)) (h1 := fun _ => rfl) (reads_base hI.n0 hI.h0 hb hI.reads)) hI.cap rfl) fun en w' hen => ?_
  obtain ⟨h1, h2⟩ := hen
  cases en with
  | returned x => exact entRet_flat rfl h1 (VR.bool _) (Drawn0.below' h2)
  | panicked ch => cases h1
  | outgrown => cases h1

theorem entAt_ok {ρ : Rho} {w0 : World} {A : Option Addr} {l : List Int} {c : Nat} (hI : Inp ρ w0 A l c) {i : Nat} {e : SI} (he : laws_at.f l (i : Int) = some (e.ev ρ)) : EntOk Tryz.prog ρ (entAt i e) := by
  refine ⟨rfl, fun w xs hb hx => ?_⟩
  cases hx with | cons _ x _ _ h1 hx =>
  cases hx with | cons _ y _ _ h2 hx =>
  cases hx
  cases h1
  cases h2
  rw [hI.oa, hI.on, hI.oc]
  refine Calls.mono (laws_at.calls A c l (i : Int) _ w (Kd.C_of_reads (d := (0 : Int)) (h1 := fun _ => rfl) (reads_base hI.n0 hI.h0 hb hI.reads)) hI.cap he) fun en w' hen => ?_
  obtain ⟨h1, h2⟩ := hen
  cases en with
  | returned x => exact entRet_flat rfl h1 (VR.int _ e) (Drawn0.below' h2)
  | panicked ch => cases h1
  | outgrown => cases h1

theorem entD_ok {ρ : Rho} {e : SI} {a : Nat} (he : e.ev ρ = (a : Int)) (ha : a ≤ 1000000) : EntOk Tryz.prog ρ (entD e) := by
  refine ⟨rfl, fun w xs hb hx => ?_⟩
  cases hx with | cons _ x _ _ h1 hx =>
  cases hx
  cases h1
  obtain ⟨s, g1, g2, g3⟩ := digits_f 6 a (by omega) (by omega) ha
  rw [he]
  refine Calls.mono (laws_digits.calls 7 (a : Int) s w g1) fun en w' hen => ?_
  obtain ⟨h1, h2⟩ := hen
  cases en with
  | returned x =>
    refine entRet_flat rfl h1 (VR.text _ _ ⟨?_, ?_⟩) h2
    · rw [g2]
      simp only [List.flatMap_cons, List.flatMap_nil, Pc.bytes, List.append_nil, he, Int.toNat_natCast]
    · simp; omega
  | panicked ch => cases h1
  | outgrown => cases h1

theorem entN_ok {ρ : Rho} (hE : EE.ok ρ) {b x l : Nat} (hc : chkN b x l = true) (hh : ρ.fn x = (hoL b l).ev ρ) : EntOk Tryz.prog ρ (entN b x l) := by
  refine EntOk.of_run (tab := []) mixed hE (fun e h => by cases h) rfl (fun xs h => h) ?_ hc
  intro p hp
  rw [List.mem_singleton] at hp
  subst hp
  exact hh

theorem txt_of {ρ : Rho} {j la lb a b : Nat} (hA : eA.ev ρ = (a : Int)) (hB : eB.ev ρ = (b : Int)) (ta : Tells ρ.fn 0 la a) (tb : Tells ρ.fn 5 lb b) {s : ByteArray} (h : textRel ρ (txtP j) s) : strRel ρ (txt j la lb) s := by
  have hb : ∀ l : List SI, (l.map Pc.byte).flatMap (Pc.bytes ρ) = l.map (SI.ev ρ) := fun l => by
    induction l with
    | nil => rfl
    | cons x l ih => simp only [List.map_cons, List.flatMap_cons, Pc.bytes, List.singleton_append, ih]
  unfold strRel
  rw [h.1]
  simp only [txtP, txt, List.flatMap_append, List.flatMap_cons, List.flatMap_nil, hb, Pc.bytes, hA, hB, Int.toNat_natCast, ta.1, tb.1, List.map_append, List.append_assoc, List.map_cons, List.map_nil, List.append_nil, List.singleton_append, List.cons_append, List.nil_append]

theorem entP_ok {ρ : Rho} (hE : EE.ok ρ) {j la lb a b : Nat} (hA : eA.ev ρ = (a : Int)) (hB : eB.ev ρ = (b : Int)) (h9 : ρ.fn 9 = a) (h10 : ρ.fn 10 = b) (ta : Tells ρ.fn 0 la a) (tb : Tells ρ.fn 5 lb b)
    (na : chkN 0 9 la = true) (nb : chkN 5 10 lb = true) (hth : ∀ p ∈ thP la lb, p.1.ev ρ = p.2.ev ρ) (hc : chkP j la lb = true) (hflat : AVs.flat (entP j).args = true) : EntOk Tryz.prog ρ (entP j) := by
  refine EntOk.of_run (tab := [entN 0 9 la, entN 5 10 lb]) mixed hE ?_ hflat ?_ hth hc
  · intro e he
    simp only [List.mem_cons, List.mem_nil_iff, or_false] at he
    rcases he with rfl | rfl
    · exact entN_ok hE na (by rw [h9]; exact ta.2.symm)
    · exact entN_ok hE nb (by rw [h10]; exact tb.2.symm)
  · intro xs hx
    cases hx with | cons _ x _ _ h1 hx =>
    cases hx
    cases h1 with | text _ s hs =>
    exact .cons _ _ _ _ (VR.str _ s (txt_of hA hB ta tb hs)) .nil

/-- The law itself, out of the calls whose ends are known. -/
theorem run_true {ρ : Rho} {E : Env} {tab : List Ent} {k : Nat} {w0 : World} {A : Option Addr} {l : List Int} {c : Nat} (hI : Inp ρ w0 A l c) (hE : E.ok ρ) (ht : ∀ e ∈ tab, EntOk Tryz.prog ρ e)
    (h : isTrue (callN tab Tryz.prog E k 4 [.opq] H00) = true) : Calls Tryz.prog 4 #[.slice A l.length c] w0 fun e w' => e = .returned (.bool true) ∧ Below w0.heap.size w0 w' := by
  unfold isTrue at h
  split at h
  · rename_i H' hc
    have hb : Base ρ w0.heap := ⟨by rw [hI.n0]; exact Nat.le_refl _, fun i _ => by rw [hI.h0]⟩
    have hx : VRs (fun _ => none) ρ [.opq] [.slice A l.length c] := by
      have : VR (fun _ => none) ρ .opq (.slice ρ.oa ρ.on ρ.oc) := .opq
      rw [hI.oa, hI.on, hI.oc] at this
      exact .cons _ _ _ _ this .nil
    refine Calls.mono (callN_ok mixed hE ht k 4 [.opq] H00 _ H' hc (fun _ => none) w0 _ (HR.empty ρ _ hb) hx).1 fun en w' hen => ?_
    cases en with
    | panicked ch => exact hen.elim
    | outgrown => exact hen.elim
    | returned x =>
      obtain ⟨ι', g1, g2, g3⟩ := hen
      cases g1
      exact ⟨rfl, g3.os, g3.tape, g3.output, g3.size, fun c hc => g3.keep c hc fun ⟨b, k, L, hb, hL, _⟩ => by cases hL⟩
  · cases h

end
end Go.Proofs.YtpcbmenjbcpieaaGreatDoor.AM
