/- An abstract machine for the model's code: regions whose order is drawn, code, calls: what the machine says is what the program does. Third part. -/
import Derived.Test.YtpcbmenjbcpieaaGreatDoorMaB
import Derived.RangeFuncRecord
import Derived.RangeFuncLeaves
/- An abstract machine for the model's code, part Q: what a set of a drawn region's operations has done, seen from one operation that may come next. -/
set_option linter.unusedVariables false
set_option linter.unusedSimpArgs false
namespace Go.Proofs.YtpcbmenjbcpieaaGreatDoor.AM
open Go
noncomputable section

section
variable {P : Program} {E : Env} {C : Caller} {ops : Array Oper} {H0 : AH} {df0 : DF} {base n : Nat} {g0 : Nat → Option AV}

abbrev T : Nat → Bool := fun _ => true

theorem RV.small {l : List Rec} (h : RV P E C ops H0 df0 base n g0 l) : SmallSt l := fun q rs' hs b hb => by
  obtain ⟨tm, _, hg⟩ := h.at hs
  obtain ⟨o, vs, A, hk⟩ := stBlk_of hb
  have := hg.kd
  rw [hk] at this
  exact (putOf_ok (drawKd_store this).2.2.1).1

/-- The heap in the order of the text. -/
theorem RV.last {l : List Rec} (h : RV P E C ops H0 df0 base n g0 l) : heapS H0 df0 T l = lastS H0 df0 l := by
  induction h with
  | nil => rfl
  | cons r rs tm hl hg ih =>
    cases hk : r.kd with
    | eff A df => rw [heapS_eff hk, if_pos rfl]; simp only [lastS, hk]
    | store b o vs A =>
      rw [heapS_store hk, if_pos rfl]
      have := hg.kd
      rw [hk] at this
      have hst := (putOf_ok (drawKd_store this).2.2.1).2.1
      simp only [lastS, hk]
      rw [ih, storeCellsA_eq hst]
    | _ => rw [heapS_other (by rw [hk]; intros; simp) (by rw [hk]; intros; simp), ih]; simp only [lastS, hk]

def Down (S : Nat → Bool) (l : List Rec) : Prop := ∀ q rs', (q :: rs') <:+ l → S rs'.length = true → ∀ b, q.bef.testBit b = true → S b = true

theorem Down.suf {S : Nat → Bool} {l l' : List Rec} (h : Down S l) (hs : l' <:+ l) : Down S l' := fun q rs' h1 => h q rs' (h1.trans hs)

/-- What is behind an operation that is not yet done is not done. -/
theorem Down.not {S : Nat → Bool} {l : List Rec} (h : Down S l) {q : Rec} {rs' : List Rec} (hs : (q :: rs') <:+ l) {i : Nat} (hi : S i = false) (hb : q.bef.testBit i = true) : S rs'.length = false := by
  cases hS : S rs'.length with
  | false => rfl
  | true => rw [h q rs' hs hS i hb] at hi; cases hi

/-- The block of an effect, a store, as the checks of a later store or effect see it: all the ones that count are done. -/
theorem text_get {S : Nat → Bool} {l : List Rec} {b : Nat} (hv : RV P E C ops H0 df0 base n g0 l)
    (hS : ∀ q rs', (q :: rs') <:+ l → (isEff q.kd = true ∨ stBlk q.kd = some b) → S rs'.length = true) : (heapS H0 df0 S l).1.get b = (lastS H0 df0 l).1.get b := by
  rw [← hv.last]
  exact heapS_agree hv.small fun q rs' h1 h2 => hS q rs' h1 h2

theorem store_bits {q : Rec} {rs : List Rec} {tm : Tr AV} {b o : Nat} {vs : List AV} {A : AH} (hg : Good P E C ops H0 df0 base n g0 q rs tm) (hk : q.kd = .store b o vs A)
    {p : Rec} {rs' : List Rec} (hs : (p :: rs') <:+ rs) (h : isEff p.kd = true ∨ stBlk p.kd = some b) : q.bef.testBit rs'.length = true := by
  have h1 := hg.kd
  rw [hk] at h1
  rcases storeOk_ok (drawKd_store h1).2.2.2 _ p (nth_of_suf hs) with h2 | ⟨h2, h3, _⟩
  · exact h2
  · rcases h with h | h
    · rw [h2] at h; cases h
    · exact absurd h h3

theorem eff_bits {q : Rec} {rs : List Rec} {tm : Tr AV} {A : AH} {df : DF} (hg : Good P E C ops H0 df0 base n g0 q rs tm) (hk : q.kd = .eff A df)
    {p : Rec} {rs' : List Rec} (hs : (p :: rs') <:+ rs) (h : isEff p.kd = true ∨ ∃ b, stBlk p.kd = some b) : q.bef.testBit rs'.length = true := by
  have h1 := hg.kd
  rw [hk] at h1
  rcases effOk_ok (drawKd_eff h1).2.2 _ p (nth_of_suf hs) with h2 | ⟨h2, h3, _⟩
  · exact h2
  · rcases h with h | ⟨b, h⟩
    · rw [h2] at h; cases h
    · rw [h3] at h; cases h

/-- A reading, ahead of it in the text. -/
theorem load_before {S : Nat → Bool} {t : TypeId} {x v : AV} {bx ox bef : Nat} (hx : x = .ptr bx ox) : ∀ {rs : List Rec}, RV P E C ops H0 df0 base n g0 rs → Down S rs →
    (∀ b, bef.testBit b = true → S b = true) → loadOk P H0 bef t x v rs rs.length = true → loadVarA P (heapS H0 df0 S rs).1 t x = some v
  | [], hv, hd, hb, h => sameLoad_ok h
  | q :: rs, hv, hd, hb, h => by
    obtain ⟨tm, hvr, hg⟩ := hv.at (List.suffix_refl _)
    have ih := load_before (S := S) (v := v) (t := t) (bef := bef) hx hvr (hd.suf (List.suffix_cons ..)) hb
    simp only [loadOk, List.length_cons] at h
    cases hk : q.kd with
    | eff A df =>
      simp only [hk] at h
      rw [heapS_eff hk]
      split at h
      · rename_i hs
        by_cases hS : S rs.length = true
        · rw [if_pos hS]; exact sameLoad_ok hs
        · rw [if_neg hS]
          split at h
          · rename_i hbb; exact absurd (hb _ hbb) hS
          · exact ih h
      · cases h
    | store b o vs A =>
      simp only [hk] at h
      rw [heapS_store hk]
      have hsm := hv.small q rs (List.suffix_refl _) b (by rw [hk]; rfl)
      subst hx
      split at h
      · rename_i hoff
        have hne := offBlk_ne hoff
        have h1 := ih h
        by_cases hS : S rs.length = true
        · rw [if_pos hS]
          rw [loadVarA_congr (H' := (heapS H0 df0 S rs).1)]
          · exact h1
          · dsimp only
            rw [applySt_get hsm, if_neg hne]
        · rw [if_neg hS]; exact h1
      · rename_i hoff
        obtain rfl := offBlk_eq hoff
        split at h
        · rename_i hbb
          have hS := hb _ hbb
          rw [if_pos hS]
          have h1 := sameLoad_ok h
          rw [← h1]
          apply loadVarA_congr
          have hkd := hg.kd
          rw [hk] at hkd
          have hA := storeCellsA_eq (putOf_ok (drawKd_store hkd).2.2.1).2.1
          have hget := text_get (S := S) (b := bx) hvr fun p rs' hs hp => hd q rs (List.suffix_refl _) hS _ (store_bits hg hk hs hp)
          dsimp only
          rw [hA, applySt_get hsm, applySt_get hsm, if_pos rfl, if_pos rfl, hget]
        · cases h
    | skip => simp only [hk] at h; rw [heapS_other (by rw [hk]; intros; simp) (by rw [hk]; intros; simp)]; exact ih h
    | pure => simp only [hk] at h; rw [heapS_other (by rw [hk]; intros; simp) (by rw [hk]; intros; simp)]; exact ih h
    | load t' x' => simp only [hk] at h; rw [heapS_other (by rw [hk]; intros; simp) (by rw [hk]; intros; simp)]; exact ih h
    | alloc r k => simp only [hk] at h; rw [heapS_other (by rw [hk]; intros; simp) (by rw [hk]; intros; simp)]; exact ih h

/-- A reading, whatever else is done. -/
theorem load_at {S : Nat → Bool} {t : TypeId} {x : AV} {r : Rec} {rs : List Rec} (hk : r.kd = .load t x) : ∀ {l : List Rec}, RV P E C ops H0 df0 base n g0 l → Down S l → (r :: rs) <:+ l →
    S rs.length = false → (∀ b, r.bef.testBit b = true → S b = true) → loadVarA P (heapS H0 df0 S l).1 t x = some r.v
  | [], hv, hd, hs, hi, hb => by simp at hs
  | q :: l, hv, hd, hs, hi, hb => by
    obtain ⟨tmr, hvr, hgr⟩ := hv.at hs
    have hkr := hgr.kd
    rw [hk] at hkr
    obtain ⟨_, ⟨Hx, hHx⟩, X, _, _, hlo⟩ := drawKd_load hkr
    obtain ⟨bx, ox, hx⟩ := loadVarA_ptr hHx
    rcases List.suffix_cons_iff.1 hs with he | hs'
    · injection he with he1 he2
      subst he1; subst he2
      rw [heapS_other (by rw [hk]; intros; simp) (by rw [hk]; intros; simp)]
      exact load_before hx hvr (hd.suf (List.suffix_cons ..)) hb hlo
    · have hvl : RV P E C ops H0 df0 base n g0 l := by cases hv; assumption
      have ih := load_at (S := S) hk hvl (hd.suf (List.suffix_cons ..)) hs' hi hb
      obtain ⟨tm, _, hg⟩ := hv.at (List.suffix_refl (q :: l))
      have hni : q.bef.testBit rs.length = true → S l.length = false := hd.not (List.suffix_refl _) hi
      cases hkq : q.kd with
      | eff A df =>
        rw [heapS_eff hkq]
        by_cases hS : S l.length = true
        · rw [if_pos hS]
          have h1 := hg.kd
          rw [hkq] at h1
          rcases effOk_ok (drawKd_eff h1).2.2 _ r (nth_of_suf hs') with h2 | ⟨_, _, h3⟩
          · rw [hni h2] at hS; cases hS
          · exact sameLoad_ok (h3 t x hk)
        · rw [if_neg hS]; exact ih
      | store b o vs A =>
        rw [heapS_store hkq]
        by_cases hS : S l.length = true
        · rw [if_pos hS]
          have h1 := hg.kd
          rw [hkq] at h1
          have hsm := hv.small q l (List.suffix_refl _) b (by rw [hkq]; rfl)
          rcases storeOk_ok (drawKd_store h1).2.2.2 _ r (nth_of_suf hs') with h2 | ⟨_, _, h3⟩
          · rw [hni h2] at hS; cases hS
          · have h4 := h3 t x hk
            subst hx
            rw [← ih]
            apply loadVarA_congr
            dsimp only
            rw [applySt_get hsm, if_neg (offBlk_ne h4)]
        · rw [if_neg hS]; exact ih
      | _ => rw [heapS_other (by rw [hkq]; intros; simp) (by rw [hkq]; intros; simp)]; exact ih

/-- The heap before an effect. -/
theorem eff_heap {S : Nat → Bool} {r : Rec} {rs : List Rec} {A : AH} {df : DF} (hk : r.kd = .eff A df) {l : List Rec} (hv : RV P E C ops H0 df0 base n g0 l) (hd : Down S l) (hs : (r :: rs) <:+ l)
    (hi : S rs.length = false) (hb : ∀ b, r.bef.testBit b = true → S b = true) :
    HEq2 (lastS H0 df0 rs).1 (heapS H0 df0 S l).1 ∧ (heapS H0 df0 S l).2 = (lastS H0 df0 rs).2 := by
  obtain ⟨tmr, hvr, hgr⟩ := hv.at hs
  have hsl : rs <:+ l := (List.suffix_cons ..).trans hs
  have hlater : ∀ q rs', (q :: rs') <:+ l → rs.length ≤ rs'.length → (isEff q.kd = true ∨ ∃ b, stBlk q.kd = some b) → S rs'.length = false := fun q rs' h1 h2 h3 => by
    by_cases e : rs'.length = rs.length
    · rw [e]; exact hi
    · have hs' : (r :: rs) <:+ rs' := suf_of_len hs ((List.suffix_cons ..).trans h1) (by simp; omega)
      obtain ⟨tm, _, hg⟩ := hv.at h1
      have : q.bef.testBit rs.length = true := by
        rcases h3 with h3 | ⟨b, h3⟩
        · obtain ⟨A', df', hkq⟩ := isEff_of h3
          exact eff_bits hg hkq hs' (.inl (by rw [hk]; rfl))
        · obtain ⟨o', vs', A', hkq⟩ := stBlk_of h3
          exact store_bits hg hkq hs' (.inl (by rw [hk]; rfl))
      exact hd.not h1 hi this
  have hearly : ∀ q rs', (q :: rs') <:+ rs → (isEff q.kd = true ∨ ∃ b, stBlk q.kd = some b) → S rs'.length = true := fun q rs' h1 h2 => hb _ (eff_bits hgr hk h1 h2)
  have hn := heapS_later_next (H0 := H0) (df0 := df0) (S := S) hsl fun q rs' h1 h2 h3 => hlater q rs' h1 h2 (.inl h3)
  have hn2 := heapS_agree_next (H0 := H0) (df0 := df0) (S := S) (S' := T) (l := rs) fun q rs' h1 h2 => hearly q rs' h1 (.inl h2)
  rw [hvr.last] at hn2
  refine ⟨⟨fun m => ?_, hn.1.trans hn2.1⟩, hn.2.trans hn2.2⟩
  rw [heapS_later hv.small hsl fun q rs' h1 h2 h3 => hlater q rs' h1 h2 (h3.imp id fun h => ⟨m, h⟩)]
  exact text_get hvr fun q rs' h1 h2 => hearly q rs' h1 (h2.imp id fun h => ⟨m, h⟩)

/-- The block before a store. -/
theorem store_heap {S : Nat → Bool} {r : Rec} {rs : List Rec} {b o : Nat} {vs : List AV} {A : AH} (hk : r.kd = .store b o vs A) {l : List Rec} (hv : RV P E C ops H0 df0 base n g0 l) (hd : Down S l) (hs : (r :: rs) <:+ l)
    (hi : S rs.length = false) (hb : ∀ b, r.bef.testBit b = true → S b = true) : (heapS H0 df0 S l).1.get b = (lastS H0 df0 rs).1.get b := by
  obtain ⟨tmr, hvr, hgr⟩ := hv.at hs
  have hsl : rs <:+ l := (List.suffix_cons ..).trans hs
  rw [heapS_later hv.small hsl fun q rs' h1 h2 h3 => ?_]
  · exact text_get hvr fun q rs' h1 h2 => hb _ (store_bits hgr hk h1 h2)
  · by_cases e : rs'.length = rs.length
    · rw [e]; exact hi
    · have hs' : (r :: rs) <:+ rs' := suf_of_len hs ((List.suffix_cons ..).trans h1) (by simp; omega)
      obtain ⟨tm, _, hg⟩ := hv.at h1
      refine hd.not h1 hi ?_
      rcases h3 with h3 | h3
      · obtain ⟨A', df', hkq⟩ := isEff_of h3
        exact eff_bits hg hkq hs' (.inr ⟨b, by rw [hk]; rfl⟩)
      · obtain ⟨o', vs', A', hkq⟩ := stBlk_of h3
        exact store_bits hg hkq hs' (.inr (by rw [hk]; rfl))

end

end
end Go.Proofs.YtpcbmenjbcpieaaGreatDoor.AM

/- An abstract machine for the model's code, part R: what makes a new block; new blocks put into the heap before an effect. -/
set_option linter.unusedVariables false
set_option linter.unusedSimpArgs false
namespace Go.Proofs.YtpcbmenjbcpieaaGreatDoor.AM
open Go
noncomputable section

/-! ### What makes a new block -/
def RowOk (P : Program) (ρ : Rho) (ι : Inj) (w : World) (s : Sem Next) (r : Nat) (v : AV) (k : Blk) : Prop :=
  ∃ arr x, s.run P w = .ok (.value x) { w with heap := w.heap.push (.cells arr k.ty) } ∧ VRs ι ρ k.cells arr.toList ∧ k.room = some arr.size ∧
    ∀ ι2 : Inj, ι2 r = some ⟨w.heap.size, 0, arr.size⟩ → VR ι2 ρ v x

theorem rowA_ok {P : Program} {ι : Inj} {ρ : Rho} {w : World} {ev : Operand → Option AV} {e : Operand → Value} (hev : ∀ X v, ev X = some v → VR ι ρ v (e X))
    {r : Nat} {o : Oper} {v : AV} {k : Blk} (h : rowA P ev r o = some (v, k)) : RowOk P ρ ι w (execOp e o) r v k := by
  have hptr : ∀ (x : Value) (t : TypeId), ∀ ι2 : Inj, ι2 r = some ⟨w.heap.size, 0, x.cells.size⟩ → VR ι2 ρ (.ptr r 0) (.pointer (some ⟨w.heap.size, 0, none⟩)) := fun x t ι2 h2 => by
    have := VR.ptr (ρ := ρ) r 0 _ h2
    simpa using this
  obtain ⟨dst, op, type, pos, after, guard⟩ := o
  unfold rowA at h
  dsimp only at h
  split at h
  · rename_i t
    split at h
    · rename_i zs hz
      split at h
      · simp only [Option.some.injEq, Prod.mk.injEq] at h
        obtain ⟨rfl, rfl⟩ := h
        obtain ⟨z, hz1, hz2⟩ := run_tzero hz w
        have hr := (ofVs_ok (ι := ι) (ρ := ρ) hz2).1
        have hl := hr.length
        simp only [Array.length_toList] at hl
        refine ⟨z.cells, .pointer (some ⟨w.heap.size, 0, none⟩), ?_, hr, by rw [hl], hptr z t⟩
        simp [execOp, Instr.alloc, hz1, newVar, newRow]
      · cases h
    · cases h
  · rename_i t X
    split at h
    · rename_i u hu
      split at h
      · simp only [Option.some.injEq, Prod.mk.injEq] at h
        obtain ⟨rfl, rfl⟩ := h
        have hr := (hev X u hu).cells
        have hl := hr.length
        simp only [Array.length_toList] at hl
        refine ⟨(e X).cells, .pointer (some ⟨w.heap.size, 0, none⟩), ?_, hr, by rw [hl], hptr (e X) t⟩
        simp [execOp, Instr.box, newVar, newRow]
      · cases h
    · cases h
  · rename_i t len parts
    split at h
    · rename_i ps el hps hu
      split at h
      · rename_i es zs hes hzs
        split at h
        · rename_i h1 h2 h3
          have h1 := Nat.eq_of_beq_eq_true h1
          have h2 := Nat.le_of_ble_eq_true h2
          have h3 := Nat.le_of_ble_eq_true h3
          split at h
          · rename_i cells hf
            split at h
            · rename_i h4
              have h4 := Nat.eq_of_beq_eq_true h4
              simp only [Option.some.injEq, Prod.mk.injEq] at h
              obtain ⟨rfl, rfl⟩ := h
              obtain ⟨z, hz1, hz2⟩ := run_tzero hzs w
              have hzl := (ofVs_ok (ι := ι) (ρ := ρ) hz2).1
              have hzn := hzl.length
              simp only [Array.length_toList] at hzn
              have hq := evpsA_ok (ι := ι) (ρ := ρ) hev hps
              have key : ∃ zero : Array Value, (len * es = 0 → zero = #[]) ∧ (¬ len * es = 0 → zero = z.cells) ∧
                  VRs ι ρ (repA len zs) ((Array.range (len * es)).map (zero[· % zero.size]!)).toList := by
                by_cases h0 : len * es = 0
                · refine ⟨#[], fun _ => rfl, fun h => absurd h0 h, ?_⟩
                  have : repA len zs = [] := List.eq_nil_of_length_eq_zero (by rw [repA_length, h1]; exact h0)
                  rw [this, h0]
                  simpa using VRs.nil
                · refine ⟨z.cells, fun h => absurd h h0, fun _ => rfl, ?_⟩
                  have := repA_rel hzl len
                  have e0 : z.cells.size = es := by omega
                  rw [e0] at this ⊢
                  exact this
              obtain ⟨zero, hk0, hk1, hk2⟩ := key
              obtain ⟨ys, g1, g2, g3⟩ := fillA_ok (pl := fun i => some (i * es, es)) hq hk2 hf
              have hyl := g2.length
              simp only [Array.length_toList] at hyl
              refine ⟨ys, .slice (some ⟨w.heap.size, 0, none⟩) len len, ?_, g2, by rw [hyl], ?_⟩
              · have hparts : (parts.map fun (p : Nat × Operand) => (p.1, e p.2)).toList = parts.toList.map fun p => (p.1, e p.2) := by simp
                simp only [execOp, Instr.buildSlice, Sem.run_bind, run_under hu, Result.andThen_ok, run_tsize hes]
                rw [if_neg (by omega)]
                by_cases h0 : len * es = 0
                · obtain rfl := hk0 h0
                  rw [if_pos h0]
                  simp only [Sem.run_bind, Sem.run_pure, Result.andThen_ok, hparts, g1]
                  simp [newRow]
                · obtain rfl := hk1 h0
                  rw [if_neg h0]
                  simp only [Sem.run_bind, hz1, Sem.run_pure, Result.andThen_ok, hparts, g1]
                  simp [newRow]
              · intro ι2 h2'
                have := VR.slice (ρ := ρ) r 0 len (some len) es _ len h2' (Nat.le_refl _) h3 (fun k hk => by injection hk with hk; subst hk; exact ⟨rfl, by simp; omega⟩) (fun hk => by cases hk)
                simpa using this
            · cases h
          · cases h
        · cases h
      · cases h
    · cases h
  · cases h

theorem rowA_congr {P : Program} {ev ev' : Operand → Option AV} {r : Nat} {o : Oper} (h : ∀ X ∈ o.op.operands, ev X = ev' X) : rowA P ev r o = rowA P ev' r o := by
  obtain ⟨dst, op, type, pos, after, guard⟩ := o
  unfold rowA
  dsimp only at h ⊢
  cases op <;> (try dsimp only) <;> simp only [Op.operands] at h
  case box t x => rw [h x (by simp)]
  case buildSlice t n ps => rw [evpsA_congr fun p hp => h p.2 (by simp only [List.mem_toArray, List.mem_map]; exact ⟨p, hp, rfl⟩)]

open Classical in
theorem rowA_ok' {P : Program} {ι : Inj} {ρ : Rho} {w : World} {ev : Operand → Option AV} {e : Operand → Value} {o : Oper} (hev : ∀ X ∈ o.op.operands, ∀ v, ev X = some v → VR ι ρ v (e X))
    {r : Nat} {v : AV} {k : Blk} (h : rowA P ev r o = some (v, k)) : RowOk P ρ ι w (execOp e o) r v k := by
  rw [rowA_congr (P := P) (o := o) (ev := ev) (ev' := fun X => if X ∈ o.op.operands then ev X else none) (fun X hX => by simp [hX])] at h
  refine rowA_ok (fun X v hX => ?_) h
  by_cases hm : X ∈ o.op.operands
  · simp only [hm, if_true] at hX; exact hev X hm v hX
  · simp only [hm, if_false] at hX; cases hX

section
variable {P : Program} {E : Env} {C : Caller} {ops : Array Oper} {H0 : AH} {df0 : DF} {base n : Nat} {g0 : Nat → Option AV}

/-- Blocks that wait for their turn, and are wanted now. -/
structure Wait (ι : Inj) (ρ : Rho) (Hb : AH) (hp : Array Obj) (L : List Rec) (bef : Nat) : Prop where
  there : ∀ j q r k, nth L j = some q → q.kd = .alloc r k → bef.testBit j = true → jn T L j = false → ∃ M, ι r = some M ∧ BR ι ρ k M hp ∧ ¬ Own ι Hb M.blk
  dist : ∀ j q r k j' q' r' k' M M', nth L j = some q → q.kd = .alloc r k → bef.testBit j = true → jn T L j = false → nth L j' = some q' → q'.kd = .alloc r' k' → bef.testBit j' = true → jn T L j' = false →
    j ≠ j' → ι r = some M → ι r' = some M' → M.blk ≠ M'.blk

/-- Is a location one of those that have been put in, from a number on? -/
def Put (ι : Inj) (L : List Rec) (bef m c : Nat) : Prop := ∃ j q r k M, m ≤ j ∧ nth L j = some q ∧ q.kd = .alloc r k ∧ bef.testBit j = true ∧ jn T L j = false ∧ ι r = some M ∧ c = M.blk

theorem joinA_ok {ι : Inj} {ρ : Rho} {Hb : AH} {hp : Array Obj} {L : List Rec} {bef : Nat} (hv : RV P E C ops H0 df0 base n g0 L) (hw : Wait ι ρ Hb hp L bef) :
    ∀ (rs : List Rec) (m : Nat) (H : AH), rs <:+ L → (∀ j, j < rs.length → (m.testBit j = true ↔ ∃ q rs', (q :: rs') <:+ L ∧ rs.length ≤ rs'.length ∧ isEff q.kd = true ∧ q.bef.testBit j = true)) →
      HR ι ρ H hp → H.next = Hb.next → (∀ c, Own ι H c → Own ι Hb c ∨ Put ι L bef rs.length c) →
      HR ι ρ (joinA bef rs rs.length m H) hp ∧ (joinA bef rs rs.length m H).next = Hb.next ∧ (∀ c, Own ι (joinA bef rs rs.length m H) c → Own ι Hb c ∨ Put ι L bef 0 c)
  | [], m, H, hs, hm, hH, hn, ho => ⟨hH, hn, ho⟩
  | q :: rs, m, H, hs, hm, hH, hn, ho => by
    have hs' : rs <:+ L := (List.suffix_cons ..).trans hs
    have hup : ∀ c, Put ι L bef (q :: rs).length c → Put ι L bef rs.length c := fun c ⟨j, q', r, k, M, h1, h2⟩ => ⟨j, q', r, k, M, by simp at h1; omega, h2⟩
    have hsame : ∀ j, j < rs.length → isEff q.kd = false → (m.testBit j = true ↔ ∃ q' rs', (q' :: rs') <:+ L ∧ rs.length ≤ rs'.length ∧ isEff q'.kd = true ∧ q'.bef.testBit j = true) := fun j hj hne => by
      rw [hm j (by simp; omega)]
      constructor
      · rintro ⟨q', rs', h1, h2, h3⟩; exact ⟨q', rs', h1, by simp at h2; omega, h3⟩
      · rintro ⟨q', rs', h1, h2, h3, h4⟩
        refine ⟨q', rs', h1, ?_, h3, h4⟩
        rcases Nat.lt_or_ge rs.length rs'.length with h5 | h5
        · simp; omega
        · have he : rs'.length = rs.length := by omega
          have e1 := nth_of_suf h1
          have e2 := nth_of_suf hs
          rw [he] at e1
          rw [e1] at e2
          injection e2 with e2
          subst e2
          rw [hne] at h3; cases h3
    cases hk : q.kd with
    | eff A df =>
      simp only [joinA, List.length_cons, hk]
      refine joinA_ok hv hw rs (m ||| q.bef) H hs' (fun j hj => ?_) hH hn fun c hc => (ho c hc).imp id (hup c)
      rw [Nat.testBit_or, Bool.or_eq_true, hm j (by simp; omega)]
      constructor
      · rintro (⟨q', rs', h1, h2, h3⟩ | h)
        · exact ⟨q', rs', h1, by simp at h2; omega, h3⟩
        · exact ⟨q, rs, hs, Nat.le_refl _, by rw [hk]; rfl, h⟩
      · rintro ⟨q', rs', h1, h2, h3, h4⟩
        rcases Nat.lt_or_ge rs.length rs'.length with h5 | h5
        · exact .inl ⟨q', rs', h1, by simp; omega, h3, h4⟩
        · have he : rs'.length = rs.length := by omega
          have e1 := nth_of_suf h1
          have e2 := nth_of_suf hs
          rw [he] at e1
          rw [e1] at e2
          injection e2 with e2
          subst e2
          exact .inr h4
    | alloc r k =>
      have hq := nth_of_suf hs
      have hjm : jn T L rs.length = true ↔ m.testBit rs.length = true := by
        rw [hm rs.length (by simp), jn_iff]
        constructor
        · rintro ⟨q', rs', h1, h2, _, h3⟩
          refine ⟨q', rs', h1, ?_, h2, h3⟩
          have := hv.lt h1 h3
          simp; omega
        · rintro ⟨q', rs', h1, h2, h3, h4⟩
          exact ⟨q', rs', h1, h3, rfl, h4⟩
      simp only [joinA, List.length_cons, hk]
      split
      · rename_i hb hmb
        have hjf : jn T L rs.length = false := by
          cases hj : jn T L rs.length with
          | false => rfl
          | true => rw [hjm.1 hj] at hmb; cases hmb
        obtain ⟨M, hM, hB, hno⟩ := hw.there rs.length q r k hq hk hb hjf
        have hno' : ¬ Own ι H M.blk := fun hc => by
          rcases ho _ hc with h1 | ⟨j, q', r', k', M', h1, h2, h3, h4, h5, h6, h7⟩
          · exact hno h1
          · exact hw.dist rs.length q r k j q' r' k' M M' hq hk hb hjf h2 h3 h4 h5 (by simp at h1; omega) hM h6 h7
        refine joinA_ok hv hw rs m _ hs' (fun j hj => hsame j hj (by rw [hk]; rfl)) (hH.join hM hB hno') hn fun c hc => ?_
        have hrb : r < 16000001 := Nat.lt_trans (hH.dom r M hM) hH.small
        rcases Own.join hrb hM hc with h1 | h1
        · exact (ho c h1).imp id (hup c)
        · exact .inr ⟨rs.length, q, r, k, M, Nat.le_refl _, hq, hk, hb, hjf, hM, h1⟩
      · exact joinA_ok hv hw rs m H hs' (fun j hj => hsame j hj (by rw [hk]; rfl)) hH hn fun c hc => (ho c hc).imp id (hup c)
    | skip =>
      simp only [joinA, List.length_cons, hk]
      exact joinA_ok hv hw rs m H hs' (fun j hj => hsame j hj (by rw [hk]; rfl)) hH hn fun c hc => (ho c hc).imp id (hup c)
    | pure =>
      simp only [joinA, List.length_cons, hk]
      exact joinA_ok hv hw rs m H hs' (fun j hj => hsame j hj (by rw [hk]; rfl)) hH hn fun c hc => (ho c hc).imp id (hup c)
    | load t x =>
      simp only [joinA, List.length_cons, hk]
      exact joinA_ok hv hw rs m H hs' (fun j hj => hsame j hj (by rw [hk]; rfl)) hH hn fun c hc => (ho c hc).imp id (hup c)
    | store b o vs A =>
      simp only [joinA, List.length_cons, hk]
      exact joinA_ok hv hw rs m H hs' (fun j hj => hsame j hj (by rw [hk]; rfl)) hH hn fun c hc => (ho c hc).imp id (hup c)

theorem joinA_all {ι : Inj} {ρ : Rho} {Hb : AH} {hp : Array Obj} {L : List Rec} {bef : Nat} (hv : RV P E C ops H0 df0 base n g0 L) (hw : Wait ι ρ Hb hp L bef) (hH : HR ι ρ Hb hp) :
    HR ι ρ (joinA bef L L.length 0 Hb) hp ∧ (joinA bef L L.length 0 Hb).next = Hb.next ∧ (∀ c, Own ι (joinA bef L L.length 0 Hb) c → Own ι Hb c ∨ Put ι L bef 0 c) :=
  joinA_ok hv hw L 0 Hb (List.suffix_refl _) (fun j hj => by
    simp only [Nat.zero_testBit, Bool.false_eq_true, false_iff]
    rintro ⟨q, rs', h1, h2, _⟩
    have := suf_len h1
    omega) hH rfl fun c hc => .inl hc

/-- What a heap holds after such a joining was there, or is one of those that joined. -/
theorem joinA_old {bef : Nat} {b : Nat} {k : Blk} : ∀ (rs : List Rec) (m : Nat) (H : AH), (∀ q rs' r k', (q :: rs') <:+ rs → q.kd = .alloc r k' → r < 16000001) →
    (joinA bef rs rs.length m H).get b = some k → H.get b = some k ∨ ∃ q rs' r k', (q :: rs') <:+ rs ∧ q.kd = .alloc r k' ∧ r = b
  | [], m, H, hr, h => .inl h
  | q :: rs, m, H, hr, h => by
    have hr' : ∀ q' rs' r k', (q' :: rs') <:+ rs → q'.kd = .alloc r k' → r < 16000001 := fun q' rs' r k' h1 => hr q' rs' r k' (h1.trans (List.suffix_cons ..))
    have hup : (∃ q' rs' r k', (q' :: rs') <:+ rs ∧ q'.kd = .alloc r k' ∧ r = b) → ∃ q' rs' r k', (q' :: rs') <:+ (q :: rs) ∧ q'.kd = .alloc r k' ∧ r = b := fun ⟨q', rs', r, k', h1, h2⟩ => ⟨q', rs', r, k', h1.trans (List.suffix_cons ..), h2⟩
    cases hk : q.kd with
    | alloc r k' =>
      simp only [joinA, List.length_cons, hk] at h
      split at h
      · rcases joinA_old rs m _ hr' h with h1 | h1
        · rw [AH.put_get (hr q rs r k' (List.suffix_refl _) hk)] at h1
          by_cases e : b = r
          · exact .inr ⟨q, rs, r, k', List.suffix_refl _, hk, e.symm⟩
          · rw [if_neg e] at h1; exact .inl h1
        · exact .inr (hup h1)
      · exact (joinA_old rs m _ hr' h).imp id hup
    | _ =>
      simp only [joinA, List.length_cons, hk] at h
      exact (joinA_old rs _ _ hr' h).imp id hup

end

end
end Go.Proofs.YtpcbmenjbcpieaaGreatDoor.AM

/- An abstract machine for the model's code, part S: a drawn region, step by step, whatever the order. -/
set_option linter.unusedVariables false
set_option linter.unusedSimpArgs false
namespace Go.Proofs.YtpcbmenjbcpieaaGreatDoor.AM
open Go
noncomputable section
variable {m : Nat}

theorem DRs.ext {P : Program} {ι : Inj} {ρ : Rho} {H H' : AH} {w : World} (e : HEq2 H H') : ∀ {l : DF} {ds : List Deferred}, DRs P m ι ρ H w l ds → DRs P m ι ρ H' w l ds
  | _, _, .nil => .nil
  | _, _, .call f args d l ds h t => .call f args d l ds h (DRs.ext e t)
  | _, _, .col D h0 h1 h2 => .col D h0 h1 fun h => h2 ((Own.ext e).1 h)

theorem HEq2.refl (H : AH) : HEq2 H H := ⟨fun _ => rfl, rfl⟩
theorem HEq2.symm {H H' : AH} (h : HEq2 H H') : HEq2 H' H := ⟨fun m => (h.1 m).symm, h.2.symm⟩
theorem HEq2.trans {H H' H2 : AH} (h : HEq2 H H') (k : HEq2 H' H2) : HEq2 H H2 := ⟨fun m => (k.1 m).trans (h.1 m), k.2.trans h.2⟩

/-- A new block of the model that no abstract one stands for yet. -/
theorem HR.push {ι : Inj} {ρ : Rho} {H : AH} {w w' : World} {r : Nat} {M : Loc} {o : Obj} (h : HR ι ρ H w.heap) (hr : ι r = none) (hlt : r < H.next) (hMb : ρ.n0 ≤ M.blk) (hw : w'.heap = w.heap.push o)
    (ho : w'.os = w.os) (ht : w'.tape = w.tape) (hu : w'.output = w.output) : HR (upd ι r M) ρ H w'.heap ∧
    (∀ c, Own (upd ι r M) H c → Own ι H c) ∧ (∀ c, c < w.heap.size → w'.heap[c]? = w.heap[c]?) := by
  have hext := upd_ext (L := M) hr
  have hold : ∀ c, c < w.heap.size → w'.heap[c]? = w.heap[c]? := fun c hc => by rw [hw, Array.getElem?_push, if_neg (by omega)]
  have hne : ∀ b k, H.get b = some k → b ≠ r := fun b k hb e => by
    obtain ⟨L, hL, _⟩ := h.live b k hb
    rw [e, hr] at hL; cases hL
  refine ⟨⟨?_, ?_, h.lt, ?_, h.small, ?_, ⟨by rw [hw, Array.size_push]; exact Nat.le_succ_of_le h.base.sz, fun c hc => (hold c (Nat.lt_of_lt_of_le hc h.base.sz)).trans (h.base.same c hc)⟩⟩, ?_, hold⟩
  · intro b k hb
    obtain ⟨L, hL, hB⟩ := h.live b k hb
    exact ⟨L, hext _ _ hL, hB.mono hext (hold _ hB.lt)⟩
  · intro b b' k k' L L' hb hb' hL hL' hbb
    unfold upd at hL hL'
    rw [if_neg (hne b k hb)] at hL
    rw [if_neg (hne b' k' hb')] at hL'
    exact h.inj b b' k k' L L' hb hb' hL hL' hbb
  · intro b L hL
    unfold upd at hL
    by_cases e : b = r
    · rw [e]; exact hlt
    · rw [if_neg e] at hL; exact h.dom b L hL
  · intro b L hL
    unfold upd at hL
    by_cases e : b = r
    · rw [if_pos e] at hL; injection hL with hL; subst hL; exact hMb
    · rw [if_neg e] at hL; exact h.lo b L hL
  · rintro c ⟨b, k, L, hb, hL, hc⟩
    unfold upd at hL
    rw [if_neg (hne b k hb)] at hL
    exact ⟨b, k, L, hb, hL, hc⟩

section
variable {P : Program} {E : Env} {C : Caller} {ops : Array Oper} {H0 : AH} {df0 : DF} {base n : Nat} {g0 : Nat → Option AV}

/-- How matters stand when a set of the operations is done. -/
structure Inv (P : Program) (m : Nat) (ρ : Rho) (H0 : AH) (df0 : DF) (base n : Nat) (g0 : Nat → Option AV) (ι0 : Inj) (Hs : AH) (w0 : World) (l : List Rec) (S : Nat → Bool) (ι : Inj) (H : AH) (df : DF) (a : Act) (w : World) : Prop where
  down : Down S l
  hq : HEq2 H (heapS H0 df0 S l).1
  hdf : (heapS H0 df0 S l).2 = df
  nx : H0.next ≤ H.next
  hp : HR ι ρ H w.heap
  size : a.tmps.size = n
  tm : TR ι ρ (tmS g0 S l) a.tmps
  df : DRs P m ι ρ H w df a.defers
  pend : ∀ j q r k, nth l j = some q → q.kd = .alloc r k → S j = true → jn S l j = false → ∃ M, ι r = some M ∧ BR ι ρ k M w.heap ∧ ¬ Own ι H M.blk ∧ w0.heap.size ≤ M.blk
  dist : ∀ j q r k j' q' r' k' M M', nth l j = some q → q.kd = .alloc r k → S j = true → jn S l j = false → nth l j' = some q' → q'.kd = .alloc r' k' → S j' = true → jn S l j' = false →
    j ≠ j' → ι r = some M → ι r' = some M' → M.blk ≠ M'.blk
  free : ∀ j q r k, nth l j = some q → q.kd = .alloc r k → S j = false → ι r = none
  st : St ι0 Hs w0 ι H w

/-- One more operation is done. -/
def add (S : Nat → Bool) (i : Nat) : Nat → Bool := fun j => if j = i then true else S j

theorem Down.add {S : Nat → Bool} {l : List Rec} (h : Down S l) {r : Rec} {rs : List Rec} (hs : (r :: rs) <:+ l) (hb : ∀ b, r.bef.testBit b = true → S b = true) : Down (add S rs.length) l := by
  intro q rs' h1 h2 b hbb
  unfold AM.add at h2 ⊢
  split
  · rfl
  · split at h2
    · rename_i e
      have e1 := nth_of_suf h1
      have e2 := nth_of_suf hs
      rw [e, e2] at e1
      injection e1 with e1
      subst e1
      exact hb b hbb
    · exact h q rs' h1 h2 b hbb

variable {ρ : Rho} {ι0 : Inj} {Hs : AH} {w0 : World} {l : List Rec} {S : Nat → Bool} {ι : Inj} {H : AH} {df : DF} {a : Act} {w : World} {r : Rec} {rs : List Rec} {tm : Tr AV}

theorem add_self (S : Nat → Bool) (i : Nat) : add S i i = true := by simp [add]
theorem add_ne (S : Nat → Bool) {i j : Nat} (h : j ≠ i) : add S i j = S j := by simp [add, h]

/-- What an operation reads is as the text says. -/
theorem read_tm (hv : RV P E C ops H0 df0 base n g0 l) (hd : Down S l) (hs : (r :: rs) <:+ l) (hi : S rs.length = false) (hb : ∀ b, r.bef.testBit b = true → S b = true) (hg : Good P E C ops H0 df0 base n g0 r rs tm) {t : Nat} (ht : t ∈ r.rd) :
    tmS g0 S l t = tm.get t := by
  have hsl : rs <:+ l := (List.suffix_cons ..).trans hs
  rw [hg.tmr, tmS_later hsl fun q rs' h1 h2 h3 => ?_]
  · refine tmS_agree fun q rs' h1 h2 => ?_
    cases hbb : r.bef.testBit rs'.length with
    | true => exact hb _ hbb
    | false => exact absurd ht ((hg.order _ q (nth_of_suf h1) hbb).1 t h2).1
  · by_cases e : rs'.length = rs.length
    · rw [e]; exact hi
    · have hs' : (r :: rs) <:+ rs' := suf_of_len hs ((List.suffix_cons ..).trans h1) (by simp; omega)
      obtain ⟨tm', _, hgq⟩ := hv.at h1
      cases hbb : q.bef.testBit rs.length with
      | true => exact hd.not h1 hi hbb
      | false => exact absurd ht ((hgq.order _ r (nth_of_suf hs') hbb).2 t h3)

/-- What it writes. -/
theorem write_tm (hv : RV P E C ops H0 df0 base n g0 l) (hd : Down S l) (hs : (r :: rs) <:+ l) (hi : S rs.length = false) (t : Nat) :
    tmS g0 (add S rs.length) l t = if r.o.dst = some t then some r.v else tmS g0 S l t := by
  by_cases e : r.o.dst = some t
  · rw [if_pos e, tmS_later hs fun q rs' h1 h2 h3 => ?_]
    · simp only [tmS]
      rw [if_pos ⟨add_self .., e⟩]
    · have hs' : (r :: rs) <:+ rs' := suf_of_len hs ((List.suffix_cons ..).trans h1) h2
      obtain ⟨tm', _, hgq⟩ := hv.at h1
      rw [add_ne S (by simp at h2; omega)]
      cases hbb : q.bef.testBit rs.length with
      | true => exact hd.not h1 hi hbb
      | false => exact absurd h3 ((hgq.order _ r (nth_of_suf hs') hbb).1 t e).2
  · rw [if_neg e]
    refine tmS_agree fun q rs' h1 h2 => ?_
    refine add_ne S fun he => e ?_
    have e1 := nth_of_suf h1
    have e2 := nth_of_suf hs
    rw [he, e2] at e1
    injection e1 with e1
    subst e1; exact h2

/-- Joined stays joined as long as no effect is added. -/
theorem jn_add (hs : (r :: rs) <:+ l) (hk : isEff r.kd = false) (j : Nat) : jn (add S rs.length) l j = jn S l j := by
  rw [Bool.eq_iff_iff, jn_iff, jn_iff]
  have key : ∀ q rs', (q :: rs') <:+ l → isEff q.kd = true → add S rs.length rs'.length = S rs'.length := fun q rs' h1 h2 => add_ne S fun he => by
    have e1 := nth_of_suf h1
    have e2 := nth_of_suf hs
    rw [he, e2] at e1
    injection e1 with e1
    subst e1; rw [hk] at h2; cases h2
  constructor
  · rintro ⟨q, rs', h1, h2, h3, h4⟩; exact ⟨q, rs', h1, h2, by rw [key q rs' h1 h2] at h3; exact h3, h4⟩
  · rintro ⟨q, rs', h1, h2, h3, h4⟩; exact ⟨q, rs', h1, h2, by rw [key q rs' h1 h2]; exact h3, h4⟩

theorem same_rec (hs : (r :: rs) <:+ l) {q : Rec} (hq : nth l rs.length = some q) : q = r := by
  have e2 := nth_of_suf hs
  rw [e2] at hq
  injection hq with hq
  exact hq.symm

/-- The heap, where neither an effect nor a store is added. -/
theorem heap_same (hv : RV P E C ops H0 df0 base n g0 l) (hs : (r :: rs) <:+ l) (h1 : isEff r.kd = false) (h2 : stBlk r.kd = none) :
    HEq2 (heapS H0 df0 S l).1 (heapS H0 df0 (add S rs.length) l).1 ∧ (heapS H0 df0 (add S rs.length) l).2 = (heapS H0 df0 S l).2 := by
  have key : ∀ q rs', (q :: rs') <:+ l → (isEff q.kd = true ∨ ∃ b, stBlk q.kd = some b) → add S rs.length rs'.length = S rs'.length := fun q rs' g1 g2 => add_ne S fun he => by
    have := nth_of_suf g1
    rw [he] at this
    have := same_rec hs this
    subst this
    rcases g2 with g2 | ⟨b, g2⟩
    · rw [h1] at g2; cases g2
    · rw [h2] at g2; cases g2
  have hn := heapS_agree_next (H0 := H0) (df0 := df0) (S := add S rs.length) (S' := S) (l := l) fun q rs' g1 g2 => key q rs' g1 (.inl g2)
  exact ⟨⟨fun m => heapS_agree hv.small fun q rs' g1 g2 => key q rs' g1 (g2.imp id fun h => ⟨m, h⟩), hn.1⟩, hn.2⟩

/-- An operation that leaves the heap as it is. -/
theorem Inv.calm (hI : Inv P m ρ H0 df0 base n g0 ι0 Hs w0 l S ι H df a w) (hv : RV P E C ops H0 df0 base n g0 l) (hs : (r :: rs) <:+ l) (hi : S rs.length = false) (hb : ∀ b, r.bef.testBit b = true → S b = true)
    (hg : Good P E C ops H0 df0 base n g0 r rs tm) (h1 : isEff r.kd = false) (h2 : stBlk r.kd = none) (h3 : ∀ q k, r.kd ≠ .alloc q k) {x : Value} (hx : VR ι ρ r.v x) :
    Inv P m ρ H0 df0 base n g0 ι0 Hs w0 l (add S rs.length) ι H df (a.put r.o.dst x) w := by
  obtain ⟨g1, g2⟩ := heap_same (S := S) hv hs h1 h2
  have hj := fun j => jn_add (S := S) hs h1 j
  have hne : ∀ j q r' k, nth l j = some q → q.kd = .alloc r' k → j ≠ rs.length := fun j q r' k hq hk he => by
    rw [he] at hq
    have := same_rec hs hq
    subst this
    exact h3 _ _ hk
  refine ⟨hI.down.add hs hb, hI.hq.trans g1, g2.trans hI.hdf, hI.nx, hI.hp, by rw [put_size]; exact hI.size, ?_, by rw [put_defers]; exact hI.df, ?_, ?_, ?_, hI.st⟩
  · exact TR.put hI.tm hx (fun d hd => by rw [hI.size]; exact hg.dst d hd) (write_tm hv hI.down hs hi)
  · intro j q r' k hq hk hS hjj
    rw [add_ne S (hne j q r' k hq hk)] at hS
    rw [hj] at hjj
    exact hI.pend j q r' k hq hk hS hjj
  · intro j q r1 k1 j' q' r2 k2 M M' a1 a2 a3 a4 b1 b2 b3 b4
    rw [add_ne S (hne j q r1 k1 a1 a2)] at a3
    rw [add_ne S (hne j' q' r2 k2 b1 b2)] at b3
    rw [hj] at a4 b4
    exact hI.dist j q r1 k1 j' q' r2 k2 M M' a1 a2 a3 a4 b1 b2 b3 b4
  · intro j q r' k hq hk hS
    rw [add_ne S (hne j q r' k hq hk)] at hS
    exact hI.free j q r' k hq hk hS

end

end
end Go.Proofs.YtpcbmenjbcpieaaGreatDoor.AM

/- An abstract machine for the model's code, part T: each kind of operation of a drawn region, done next. -/
set_option linter.unusedVariables false
set_option linter.unusedSimpArgs false
namespace Go.Proofs.YtpcbmenjbcpieaaGreatDoor.AM
open Go
noncomputable section
variable {m : Nat}

section
variable {P : Program} {E : Env} {C : Caller} {ops : Array Oper} {H0 : AH} {df0 : DF} {base n : Nat} {g0 : Nat → Option AV}
variable {ρ : Rho} {ι0 : Inj} {Hs : AH} {w0 : World} {l : List Rec} {S : Nat → Bool} {ι : Inj} {H : AH} {df : DF} {a : Act} {w : World} {r : Rec} {rs : List Rec} {tm : Tr AV}

theorem alloc_num (hv : RV P E C ops H0 df0 base n g0 l) {j : Nat} {q : Rec} {x : Nat} {k : Blk} (hq : nth l j = some q) (hk : q.kd = .alloc x k) : x = base + j ∧ j < l.length := by
  obtain ⟨rs', h1, h2⟩ := nth_split hq
  obtain ⟨tm', _, hg⟩ := hv.at h1
  have := hg.kd
  rw [hk] at this
  have h3 := (drawKd_alloc this).2.1
  rw [h2] at h3
  exact ⟨h3, nth_lt hq⟩

theorem jn_mono {i j : Nat} (h : jn (add S i) l j = false) : jn S l j = false := by
  cases hj : jn S l j with
  | false => rfl
  | true =>
    obtain ⟨q, rs', h1, h2, h3, h4⟩ := jn_iff.1 hj
    have : jn (add S i) l j = true := jn_iff.2 ⟨q, rs', h1, h2, by unfold add; split <;> first | rfl | exact h3, h4⟩
    rw [this] at h; cases h

/-- An operation that makes no block of its own. -/
theorem Inv.adv (hI : Inv P m ρ H0 df0 base n g0 ι0 Hs w0 l S ι H df a w) (hv : RV P E C ops H0 df0 base n g0 l) (hlen : H0.next = base + l.length) (hs : (r :: rs) <:+ l) (hi : S rs.length = false) (hb : ∀ b, r.bef.testBit b = true → S b = true)
    (hg : Good P E C ops H0 df0 base n g0 r rs tm) (h3 : ∀ q k, r.kd ≠ .alloc q k) {ι' : Inj} {A B : AH} {df' : DF} {a' : Act} {w' : World} {x : Value}
    (hq' : HEq2 A (heapS H0 df0 (add S rs.length) l).1) (hdf' : (heapS H0 df0 (add S rs.length) l).2 = df')
    (hp' : HR ι' ρ A w'.heap) (ha : a'.tmps = a.tmps) (hx : VR ι' ρ r.v x) (hds : DRs P m ι' ρ A w' df' a'.defers)
    (hst1 : St ι B w ι' A w') (hB : B.next = H.next) (hst0 : St ι0 Hs w0 ι B w)
    (hpb : ∀ j q x k, nth l j = some q → q.kd = .alloc x k → S j = true → jn (add S rs.length) l j = false → ∀ M, ι x = some M → ¬ Own ι B M.blk) :
    Inv P m ρ H0 df0 base n g0 ι0 Hs w0 l (add S rs.length) ι' A df' (a'.put r.o.dst x) w' := by
  have hne : ∀ j q r' k, nth l j = some q → q.kd = .alloc r' k → j ≠ rs.length := fun j q r' k hq hk he => by
    rw [he] at hq
    have := same_rec hs hq
    subst this
    exact h3 _ _ hk
  have hpend : ∀ j q x k, nth l j = some q → q.kd = .alloc x k → add S rs.length j = true → jn (add S rs.length) l j = false →
      ∃ M, ι x = some M ∧ ι' x = some M ∧ BR ι' ρ k M w'.heap ∧ ¬ Own ι' A M.blk ∧ w0.heap.size ≤ M.blk := fun j q x k hq hk hS hj => by
    rw [add_ne S (hne j q x k hq hk)] at hS
    obtain ⟨M, h1, h2, h4, h5⟩ := hI.pend j q x k hq hk hS (jn_mono hj)
    have hnb := hpb j q x k hq hk hS hj M h1
    refine ⟨M, h1, hst1.ext _ _ h1, h2.mono hst1.ext (hst1.keep _ h2.lt hnb), fun ho => ?_, h5⟩
    rcases hst1.own _ ho with h6 | h6
    · exact hnb h6
    · exact absurd h2.lt (Nat.not_lt.2 h6)
  refine ⟨hI.down.add hs hb, hq', hdf', ?_, hp', by rw [put_size, ha]; exact hI.size, ?_, by rw [put_defers]; exact hds, ?_, ?_, ?_, hst0.trans hst1⟩
  · have := hst1.nx; rw [hB] at this; exact Nat.le_trans hI.nx this
  · have htm : TR ι' ρ (tmS g0 S l) a'.tmps := by rw [ha]; exact hI.tm.mono hst1.ext
    exact TR.put htm hx (fun d hd => by rw [ha, hI.size]; exact hg.dst d hd) (write_tm hv hI.down hs hi)
  · intro j q x k hq hk hS hj
    obtain ⟨M, _, h2, h4, h5, h6⟩ := hpend j q x k hq hk hS hj
    exact ⟨M, h2, h4, h5, h6⟩
  · intro j q r1 k1 j' q' r2 k2 M M' a1 a2 a3 a4 b1 b2 b3 b4 hjj hM hM'
    obtain ⟨N, c1, c2, _⟩ := hpend j q r1 k1 a1 a2 a3 a4
    obtain ⟨N', d1, d2, _⟩ := hpend j' q' r2 k2 b1 b2 b3 b4
    rw [c2] at hM; injection hM with hM; subst hM
    rw [d2] at hM'; injection hM' with hM'; subst hM'
    rw [add_ne S (hne j q r1 k1 a1 a2)] at a3
    rw [add_ne S (hne j' q' r2 k2 b1 b2)] at b3
    exact hI.dist j q r1 k1 j' q' r2 k2 N N' a1 a2 a3 (jn_mono a4) b1 b2 b3 (jn_mono b4) hjj c1 d1
  · intro j q x k hq hk hS
    have hSj : S j = false := by
      have := hne j q x k hq hk
      rw [add_ne S this] at hS; exact hS
    have hnone := hI.free j q x k hq hk hSj
    cases hx' : ι' x with
    | none => rfl
    | some L =>
      rcases hst1.fresh x L hx' with h1 | h1
      · rw [hnone] at h1; cases h1
      · obtain ⟨e1, e2⟩ := alloc_num hv hq hk
        have := hI.nx
        omega

/-- An operation that makes a block. -/
theorem Inv.row (hI : Inv P m ρ H0 df0 base n g0 ι0 Hs w0 l S ι H df a w) (hv : RV P E C ops H0 df0 base n g0 l) (hlen : H0.next = base + l.length) (hs : (r :: rs) <:+ l) (hi : S rs.length = false) (hb : ∀ b, r.bef.testBit b = true → S b = true)
    (hg : Good P E C ops H0 df0 base n g0 r rs tm) (hbase : Hs.next = base) {x : Nat} {k : Blk} (hk : r.kd = .alloc x k) {arr : Array Value} {y : Value} (hrel : VRs ι ρ k.cells arr.toList) (hroom : k.room = some arr.size) (hro : k.ro = false)
    (hy : ∀ ι2 : Inj, ι2 x = some ⟨w.heap.size, 0, arr.size⟩ → VR ι2 ρ r.v y) :
    Inv P m ρ H0 df0 base n g0 ι0 Hs w0 l (add S rs.length) (upd ι x ⟨w.heap.size, 0, arr.size⟩) H df (a.put r.o.dst y) { w with heap := w.heap.push (.cells arr k.ty) } := by
  have hnth := nth_of_suf hs
  obtain ⟨e1, e2⟩ := alloc_num hv hnth hk
  have hnone := hI.free _ _ _ _ hnth hk hi
  have hlt : x < H.next := by have := hI.nx; omega
  obtain ⟨g1, g2, g3⟩ := HR.push (M := ⟨w.heap.size, 0, arr.size⟩) (w' := { w with heap := w.heap.push (.cells arr k.ty) }) hI.hp hnone hlt hI.hp.base.sz rfl rfl rfl rfl
  have hext := upd_ext (L := ⟨w.heap.size, 0, arr.size⟩) hnone
  have hself : upd ι x ⟨w.heap.size, 0, arr.size⟩ x = some ⟨w.heap.size, 0, arr.size⟩ := by simp [upd]
  obtain ⟨s1, s2⟩ := heap_same (S := S) hv hs (by rw [hk]; rfl) (by rw [hk]; rfl)
  have hj := fun j => jn_add (S := S) hs (by rw [hk]; rfl) j
  have hrl := hrel.length
  simp only [Array.length_toList] at hrl
  have hother : ∀ j q x' k', nth l j = some q → q.kd = .alloc x' k' → j ≠ rs.length → x' ≠ x := fun j q x' k' hq hk' hjn he => by
    have := (alloc_num hv hq hk').1
    omega
  have hnew : ∀ q x' k', nth l rs.length = some q → q.kd = .alloc x' k' → x' = x ∧ k' = k := fun q x' k' hq hk' => by
    have := same_rec hs hq
    subst this
    rw [hk] at hk'
    injection hk' with h1 h2
    exact ⟨h1.symm, h2.symm⟩
  have hold : ∀ j q x' k', nth l j = some q → q.kd = .alloc x' k' → j ≠ rs.length → S j = true → jn S l j = false →
      ∃ M, upd ι x ⟨w.heap.size, 0, arr.size⟩ x' = some M ∧ ι x' = some M ∧ M.blk < w.heap.size ∧ BR (upd ι x ⟨w.heap.size, 0, arr.size⟩) ρ k' M (w.heap.push (.cells arr k.ty)) ∧ ¬ Own (upd ι x ⟨w.heap.size, 0, arr.size⟩) H M.blk ∧ w0.heap.size ≤ M.blk := fun j q x' k' hq hk' hjn hS hjj => by
    obtain ⟨M, h1, h2, h4, h5⟩ := hI.pend j q x' k' hq hk' hS hjj
    exact ⟨M, hext _ _ h1, h1, h2.lt, h2.mono hext (g3 _ h2.lt), fun ho => h4 (g2 _ ho), h5⟩
  have hfresh : ¬ Own (upd ι x ⟨w.heap.size, 0, arr.size⟩) H w.heap.size := fun ho => by
    obtain ⟨b, q, L, h1, h2, h4⟩ := g2 _ ho
    obtain ⟨L', h5, h6⟩ := hI.hp.live b q h1
    rw [h2] at h5; injection h5 with h5; subst h5
    have := h6.lt; omega
  have hbr : BR (upd ι x ⟨w.heap.size, 0, arr.size⟩) ρ k ⟨w.heap.size, 0, arr.size⟩ (w.heap.push (.cells arr k.ty)) := by
    refine ⟨arr, (0, 0), by simp, fun _ => rfl, by simp, by simpa using Nat.le_of_eq hrl, fun q hq => ?_, fun i v hiv => ?_⟩
    · rw [hroom] at hq; injection hq
    · obtain ⟨z, hz, hr⟩ := hrel.get i v hiv
      exact ⟨z, by simpa using hz, hr.mono hext⟩
  refine ⟨hI.down.add hs hb, hI.hq.trans s1, s2.trans hI.hdf, hI.nx, g1, by rw [put_size]; exact hI.size, ?_, ?_, ?_, ?_, ?_, ?_⟩
  · exact TR.put (hI.tm.mono hext) (hy _ hself) (fun d hd => by rw [hI.size]; exact hg.dst d hd) (write_tm hv hI.down hs hi)
  · rw [put_defers]
    have hmono : ∀ {dl : DF} {ds : List Deferred}, DRs P m ι ρ H w dl ds → DRs P m (upd ι x ⟨w.heap.size, 0, arr.size⟩) ρ H { w with heap := w.heap.push (.cells arr k.ty) } dl ds := fun {dl ds} h => by
      induction h with
      | nil => exact .nil
      | call f args d l ds h _ ih => exact .call f args d l ds (h.mono hext) ih
      | col D h0 h1 h2 => exact .col D h0 ((g3 D (lt_of_get h1)).trans h1) fun ho => h2 (g2 _ ho)
    exact hmono hI.df
  · intro j q x' k' hq hk' hS hjj
    rw [hj] at hjj
    by_cases e : j = rs.length
    · subst e
      obtain ⟨rfl, rfl⟩ := hnew q x' k' hq hk'
      exact ⟨_, hself, hbr, hfresh, hI.st.size⟩
    · rw [add_ne S e] at hS
      obtain ⟨M, h1, _, _, h4, h5, h6⟩ := hold j q x' k' hq hk' e hS hjj
      exact ⟨M, h1, h4, h5, h6⟩
  · intro j q r1 k1 j' q' r2 k2 M M' a1 a2 a3 a4 b1 b2 b3 b4 hjj hM hM'
    rw [hj] at a4 b4
    by_cases e : j = rs.length
    · subst e
      obtain ⟨rfl, rfl⟩ := hnew q r1 k1 a1 a2
      rw [hself] at hM; injection hM with hM; subst hM
      rw [add_ne S (fun h => hjj h.symm)] at b3
      obtain ⟨N, h1, _, h2, _⟩ := hold j' q' r2 k2 b1 b2 (fun h => hjj h.symm) b3 b4
      rw [h1] at hM'; injection hM' with hM'; subst hM'
      simp; omega
    · rw [add_ne S e] at a3
      obtain ⟨N, h1, h1', h2, _⟩ := hold j q r1 k1 a1 a2 e a3 a4
      rw [h1] at hM; injection hM with hM; subst hM
      by_cases e' : j' = rs.length
      · subst e'
        obtain ⟨rfl, rfl⟩ := hnew q' r2 k2 b1 b2
        rw [hself] at hM'; injection hM' with hM'; subst hM'
        simp; omega
      · rw [add_ne S e'] at b3
        obtain ⟨N', d1, d1', _⟩ := hold j' q' r2 k2 b1 b2 e' b3 b4
        rw [d1] at hM'; injection hM' with hM'; subst hM'
        exact hI.dist j q r1 k1 j' q' r2 k2 N N' a1 a2 a3 a4 b1 b2 b3 b4 hjj h1' d1'
  · intro j q x' k' hq hk' hS
    have hjn : j ≠ rs.length := fun h => by rw [h, add_self] at hS; cases hS
    rw [add_ne S hjn] at hS
    have := hI.free j q x' k' hq hk' hS
    simp only [upd]
    rw [if_neg (hother j q x' k' hq hk' hjn)]
    exact this
  · refine ⟨hI.st.ext.trans hext, hI.st.os, hI.st.tape, hI.st.output, Nat.le_trans hI.st.size (by simp), fun c hc hn => ?_, fun c hc => ?_, fun b L hL => ?_, hI.st.nx, hI.st.old⟩
    · exact (g3 c (Nat.lt_of_lt_of_le hc hI.st.size)).trans (hI.st.keep c hc hn)
    · exact hI.st.own c (g2 c hc)
    · simp only [upd] at hL
      by_cases e : b = x
      · exact .inr (by omega)
      · rw [if_neg e] at hL; exact hI.st.fresh b L hL

end

end
end Go.Proofs.YtpcbmenjbcpieaaGreatDoor.AM

/- An abstract machine for the model's code, part U: a drawn region, whatever the order. -/
set_option linter.unusedVariables false
set_option linter.unusedSimpArgs false
namespace Go.Proofs.YtpcbmenjbcpieaaGreatDoor.AM
open Go
noncomputable section
variable {m : Nat}

section
variable {P : Program} {E : Env} {C : Caller} {ops : Array Oper} {H0 : AH} {df0 : DF} {base n : Nat} {g0 : Nat → Option AV}
variable {ρ : Rho} {ι0 : Inj} {Hs : AH} {w0 : World} {l : List Rec} {S : Nat → Bool} {ι : Inj} {H : AH} {df : DF} {a : Act} {w : World} {r : Rec} {rs : List Rec} {tm : Tr AV}

theorem rowA_ro {ev : Operand → Option AV} {x : Nat} {o : Oper} {v : AV} {k : Blk} (h : rowA P ev x o = some (v, k)) : k.ro = false := by
  unfold rowA at h
  split at h
  · split at h
    · split at h
      · simp only [Option.some.injEq, Prod.mk.injEq] at h; obtain ⟨_, rfl⟩ := h; rfl
      · cases h
    · cases h
  · split at h
    · split at h
      · simp only [Option.some.injEq, Prod.mk.injEq] at h; obtain ⟨_, rfl⟩ := h; rfl
      · cases h
    · cases h
  · split at h
    · split at h
      · split at h
        · split at h
          · split at h
            · simp only [Option.some.injEq, Prod.mk.injEq] at h; obtain ⟨_, rfl⟩ := h; rfl
            · cases h
          · cases h
        · cases h
      · cases h
    · cases h
  · cases h

theorem step_any {Q : Exit → Act → World → Prop} (hE : E.ok ρ) (hC : CallOk P ρ C) (hI : Inv P m ρ H0 df0 base n g0 ι0 Hs w0 l S ι H df a w) (hv : RV P E C ops H0 df0 base n g0 l) (hlen : H0.next = base + l.length) (hbase : Hs.next = base)
    (hs : (r :: rs) <:+ l) (hi : S rs.length = false) (hb : ∀ b, r.bef.testBit b = true → S b = true) {K : Act → World → Prop}
    (hK : ∀ ι' H' df' a' w', Inv P m ρ H0 df0 base n g0 ι0 Hs w0 l (add S rs.length) ι' H' df' a' w' → K a' w') : wpOp P ops Q rs.length K a w := by
  obtain ⟨tm, hvr, hg⟩ := hv.at hs
  have hread : ∀ t, t ∈ r.rd → ∀ v, tm.get t = some v → ∃ x, a.tmps[t]? = some x ∧ VR ι ρ v x := fun t ht v hv' => hI.tm t v (by rw [read_tm hv hI.down hs hi hb hg ht]; exact hv')
  have hop : ∀ t, Operand.tmp t ∈ r.o.op.operands → ∀ v, tm.get t = some v → ∃ x, a.tmps[t]? = some x ∧ VR ι ρ v x := fun t ht => hread t (by rw [hg.rd]; exact reads_op ht)
  have hgd : ∀ t, guardTmp ops r.o = some t → ∀ v, tm.get t = some v → ∃ x, a.tmps[t]? = some x ∧ VR ι ρ v x := fun t ht => hread t (by rw [hg.rd]; exact reads_guard ht)
  have hevo : ∀ X ∈ r.o.op.operands, ∀ v, evA tm X = some v → VR ι ρ v (a.eval X) := fun X hX v hv' => evA_ok (fun t ht => hop t (ht ▸ hX)) hv'
  have hkd := hg.kd
  have hno : ∀ (ι' : Inj) (w' : World), St ι H w ι' H w' → True := fun _ _ _ => trivial
  unfold wpOp
  simp only [hg.op]
  cases hk : r.kd with
  | skip =>
    rw [hk] at hkd
    obtain ⟨hw, hvv⟩ := drawKd_skip hkd
    rw [wantA_ok hgd hw]
    simp only [Bool.false_eq_true, if_false]
    obtain ⟨g1, g2⟩ := heap_same (S := S) hv hs (by rw [hk]; rfl) (by rw [hk]; rfl)
    refine hK ι H df _ w (hI.adv (B := H) hv hlen hs hi hb hg (by rw [hk]; intros; simp) (hI.hq.trans g1) (g2.trans hI.hdf) hI.hp rfl (by rw [hvv]; exact VR.tup [] [] .nil) hI.df (St.refl ι H w) rfl hI.st fun j q x k h1 h2 h3 h4 M hM ho => ?_)
    obtain ⟨M', e1, e2, e3, e4⟩ := hI.pend j q x k h1 h2 h3 (jn_mono h4)
    rw [e1] at hM; injection hM with hM; subst hM
    exact e3 ho
  | pure =>
    rw [hk] at hkd
    obtain ⟨hw, hp, H', hopA⟩ := drawKd_pure hkd
    rw [wantA_ok hgd hw, if_pos rfl]
    have h1 := opA_pure hp hopA H
    obtain ⟨ι', w', x, c1, c2, c3, c4⟩ := opA_ok' (w := w) hE hI.hp hevo h1
    refine .inl ?_
    unfold Oper.wp
    rw [c1]
    obtain ⟨g1, g2⟩ := heap_same (S := S) hv hs (by rw [hk]; rfl) (by rw [hk]; rfl)
    refine hK ι' H df _ w' (hI.adv (B := H) hv hlen hs hi hb hg (by rw [hk]; intros; simp) (hI.hq.trans g1) (g2.trans hI.hdf) c3 rfl c2 (hI.df.step c4) c4 rfl hI.st fun j q x k h1 h2 h3 h4 M hM ho => ?_)
    obtain ⟨M', e1, e2, e3, e4⟩ := hI.pend j q x k h1 h2 h3 (jn_mono h4)
    rw [e1] at hM; injection hM with hM; subst hM
    exact e3 ho
  | load t x =>
    rw [hk] at hkd
    obtain ⟨hw, _, X, hopX, hx, hlo⟩ := drawKd_load hkd
    rw [wantA_ok hgd hw, if_pos rfl]
    have h1 := load_at hk hv hI.down hs hi hb
    have hVR : VR ι ρ x (a.eval X) := hevo X (by rw [hopX]; simp [Op.operands]) x hx
    obtain ⟨z, c1, c2⟩ := loadVarA_ok (P := P) (hI.hp.ext hI.hq) hVR h1
    refine .inl ?_
    unfold Oper.wp
    have hrun : (execOp a.eval r.o).run P w = .ok (.value z) w := by
      simp only [execOp, hopX]
      simp [c1]
    rw [hrun]
    obtain ⟨g1, g2⟩ := heap_same (S := S) hv hs (by rw [hk]; rfl) (by rw [hk]; rfl)
    refine hK ι H df _ w (hI.adv (B := H) hv hlen hs hi hb hg (by rw [hk]; intros; simp) (hI.hq.trans g1) (g2.trans hI.hdf) hI.hp rfl c2 hI.df (St.refl ι H w) rfl hI.st fun j q x k h1 h2 h3 h4 M hM ho => ?_)
    obtain ⟨M', e1, e2, e3, e4⟩ := hI.pend j q x k h1 h2 h3 (jn_mono h4)
    rw [e1] at hM; injection hM with hM; subst hM
    exact e3 ho
  | alloc x k =>
    rw [hk] at hkd
    obtain ⟨hw, hnum, hrow⟩ := drawKd_alloc hkd
    rw [wantA_ok hgd hw, if_pos rfl]
    obtain ⟨arr, y, c1, c2, c3, c4⟩ := rowA_ok' (ι := ι) (ρ := ρ) (w := w) hevo hrow
    refine .inl ?_
    unfold Oper.wp
    rw [c1]
    exact hK _ H df _ _ (hI.row hv hlen hs hi hb hg hbase hk c2 c3 (rowA_ro hrow) c4)
  | store b o vs A =>
    rw [hk] at hkd
    obtain ⟨hw, hvv, hput, hso⟩ := drawKd_store hkd
    rw [wantA_ok hgd hw, if_pos rfl]
    obtain ⟨hbl, hst, t, X, Y, u, hopX, hX, hY, rfl, hsz⟩ := putOf_ok hput
    have hget := store_heap hk hv hI.down hs hi hb
    have hst' : storeCellsA H b o u.cells = some (applySt H b o u.cells) := storeCellsA_congr (by rw [← hget]; exact (hI.hq.1 b).symm) hst
    have hsv : storeVarA P H t (.ptr b o) u = some (applySt H b o u.cells) := by
      simp only [storeVarA, hsz, nbeq_true rfl, hst']
    obtain ⟨w', c1, c2, c3⟩ := storeVarA_ok (P := P) hI.hp (hevo X (by rw [hopX]; simp [Op.operands]) _ hX) (hevo Y (by rw [hopX]; simp [Op.operands]) _ hY) hsv
    refine .inl ?_
    unfold Oper.wp
    have hrun : (execOp a.eval r.o).run P w = .ok .skip w' := by
      simp only [execOp, hopX]
      simp [c1]
    rw [hrun]
    have key : ∀ q rs', (q :: rs') <:+ l → (isEff q.kd = true ∨ ∃ c, c ≠ b ∧ stBlk q.kd = some c) → add S rs.length rs'.length = S rs'.length := fun q rs' g1 g2 => add_ne S fun he => by
      have := nth_of_suf g1
      rw [he] at this
      have := same_rec hs this
      subst this
      rcases g2 with g2 | ⟨c, g2, g3⟩
      · rw [hk] at g2; cases g2
      · rw [hk] at g3; injection g3 with g3; exact g2 g3.symm
    have hlater : ∀ q rs', (q :: rs') <:+ l → (r :: rs).length ≤ rs'.length → (isEff q.kd = true ∨ stBlk q.kd = some b) → S rs'.length = false := fun q rs' g1 g2 g3 => by
      have hs' : (r :: rs) <:+ rs' := suf_of_len hs ((List.suffix_cons ..).trans g1) g2
      obtain ⟨tm', _, hgq⟩ := hv.at g1
      refine hI.down.not g1 hi ?_
      rcases g3 with g3 | g3
      · obtain ⟨A', df', hkq⟩ := isEff_of g3
        exact eff_bits hgq hkq hs' (.inr ⟨b, by rw [hk]; rfl⟩)
      · obtain ⟨o', vs', A', hkq⟩ := stBlk_of g3
        exact store_bits hgq hkq hs' (.inr (by rw [hk]; rfl))
    have hlater' : ∀ q rs', (q :: rs') <:+ l → (r :: rs).length ≤ rs'.length → (isEff q.kd = true ∨ stBlk q.kd = some b) → add S rs.length rs'.length = false := fun q rs' g1 g2 g3 => by
      rw [add_ne S (by simp at g2; omega)]
      exact hlater q rs' g1 g2 g3
    have hn := heapS_agree_next (H0 := H0) (df0 := df0) (S := add S rs.length) (S' := S) (l := l) fun q rs' g1 g2 => key q rs' g1 (.inl g2)
    have hq' : HEq2 (applySt H b o u.cells) (heapS H0 df0 (add S rs.length) l).1 := by
      refine ⟨fun m => ?_, ?_⟩
      · rw [applySt_get hbl]
        by_cases e : m = b
        · subst e
          rw [if_pos rfl, heapS_later hv.small hs hlater', heapS_store hk, if_pos (add_self ..)]
          dsimp only
          rw [applySt_get hbl, if_pos rfl, hI.hq.1 m |>.symm, heapS_later hv.small hs hlater, heapS_store hk, if_neg (by rw [hi]; simp)]
          rw [heapS_agree (S := add S rs.length) (S' := S) (hv.small.suf hs).tail fun q rs' g1 g2 => add_ne S (by have := suf_len g1; omega)]
        · rw [if_neg e, ← hI.hq.1 m]
          exact heapS_agree hv.small fun q rs' g1 g2 => key q rs' g1 (g2.imp id fun h => ⟨m, e, h⟩)
      · rw [applySt_next, ← hI.hq.2]; exact hn.1
    refine hK ι _ df _ w' (hI.adv (B := H) hv hlen hs hi hb hg (by rw [hk]; intros; simp) hq' (hn.2.trans hI.hdf) c2 rfl (by rw [hvv]; exact VR.tup [] [] .nil) (hI.df.step c3) c3 rfl hI.st fun j q x k h1 h2 h3 h4 M hM ho => ?_)
    obtain ⟨M', e1, e2, e3, e4⟩ := hI.pend j q x k h1 h2 h3 (jn_mono h4)
    rw [e1] at hM; injection hM with hM; subst hM
    exact e3 ho
  | eff A df' =>
    rw [hk] at hkd
    obtain ⟨hw, hstep, heo⟩ := drawKd_eff hkd
    rw [wantA_ok hgd hw, if_pos rfl]
    obtain ⟨e1, e2⟩ := eff_heap hk hv hI.down hs hi hb
    have hHb : HEq2 H (lastS H0 df0 rs).1 := hI.hq.trans e1.symm
    have hdfb : df = (lastS H0 df0 rs).2 := hI.hdf.symm.trans e2
    have hsl : rs <:+ l := (List.suffix_cons ..).trans hs
    -- which ones have joined
    have hjn : ∀ j, S j = true → (jn T rs j = true ↔ jn S l j = true) := fun j hSj => by
      rw [jn_iff, jn_iff]
      constructor
      · rintro ⟨q, rs', h1, h2, _, h4⟩
        exact ⟨q, rs', h1.trans hsl, h2, hb _ (eff_bits hg hk h1 (.inl h2)), h4⟩
      · rintro ⟨q, rs', h1, h2, h3, h4⟩
        refine ⟨q, rs', ?_, h2, rfl, h4⟩
        rcases Nat.lt_or_ge rs'.length rs.length with h5 | h5
        · exact suf_of_len h1 hsl (by simp; omega)
        · exfalso
          by_cases e : rs'.length = rs.length
          · rw [e, hi] at h3; cases h3
          · have hs' : (r :: rs) <:+ rs' := suf_of_len hs ((List.suffix_cons ..).trans h1) (by simp; omega)
            obtain ⟨tm', _, hgq⟩ := hv.at h1
            obtain ⟨A2, df2, hkq⟩ := isEff_of h2
            rw [hI.down.not h1 hi (eff_bits hgq hkq hs' (.inl (by rw [hk]; rfl)))] at h3; cases h3
    have hwait : Wait ι ρ (lastS H0 df0 rs).1 w.heap rs r.bef := by
      constructor
      · intro j q x k h1 h2 h3 h4
        have hSj := hb j h3
        have hjf : jn S l j = false := by
          cases hj : jn S l j with
          | false => rfl
          | true => rw [(hjn j hSj).2 hj] at h4; cases h4
        obtain ⟨M, g1, g2, g3, g4⟩ := hI.pend j q x k (nth_suf hsl h1) h2 hSj hjf
        exact ⟨M, g1, g2, fun ho => g3 ((Own.ext hHb).1 ho)⟩
      · intro j q x k j' q' x' k' M M' h1 h2 h3 h4 g1 g2 g3 g4 hjj
        have hSj := hb j h3
        have hSj' := hb j' g3
        have hjf : jn S l j = false := by
          cases hj : jn S l j with
          | false => rfl
          | true => rw [(hjn j hSj).2 hj] at h4; cases h4
        have hjf' : jn S l j' = false := by
          cases hj : jn S l j' with
          | false => rfl
          | true => rw [(hjn j' hSj').2 hj] at g4; cases g4
        exact hI.dist j q x k j' q' x' k' M M' (nth_suf hsl h1) h2 hSj hjf (nth_suf hsl g1) g2 hSj' hjf' hjj
    obtain ⟨b1, b2, b3⟩ := joinA_all (bef := r.bef) hvr hwait (hI.hp.ext hHb)
    have hsub : ∀ c, Own ι (joinA r.bef rs rs.length 0 (lastS H0 df0 rs).1) c → Own ι H c ∨ ∃ j q x k M, nth l j = some q ∧ q.kd = .alloc x k ∧ r.bef.testBit j = true ∧ S j = true ∧ jn S l j = false ∧ ι x = some M ∧ c = M.blk := fun c hc => by
      rcases b3 c hc with h | ⟨j, q, x, k, M, _, h1, h2, h3, h4, h5, h6⟩
      · exact .inl ((Own.ext hHb).1 h)
      · refine .inr ⟨j, q, x, k, M, nth_suf hsl h1, h2, h3, hb j h3, ?_, h5, h6⟩
        cases hj : jn S l j with
        | false => rfl
        | true => rw [(hjn j (hb j h3)).2 hj] at h4; cases h4
    have hstB : St ι0 Hs w0 ι (joinA r.bef rs rs.length 0 (lastS H0 df0 rs).1) w := by
      refine ⟨hI.st.ext, hI.st.os, hI.st.tape, hI.st.output, hI.st.size, hI.st.keep, fun c hc => ?_, hI.st.fresh, ?_, fun b k hbk hlt => ?_⟩
      · rcases hsub c hc with h | ⟨j, q, x, k, M, h1, h2, h3, h4, h5, h6, h7⟩
        · exact hI.st.own c h
        · obtain ⟨M', g1, g2, g3, g4⟩ := hI.pend j q x k h1 h2 h4 h5
          rw [g1] at h6; injection h6 with h6; subst h6
          exact .inr (by rw [h7]; exact g4)
      · rw [b2, hHb.2]; exact hI.st.nx
      · have hsmall : ∀ q rs' x k', (q :: rs') <:+ rs → q.kd = .alloc x k' → x < 16000001 := fun q rs' x k' h1 h2 => by
          obtain ⟨e1', e2'⟩ := alloc_num hv (nth_suf hsl (nth_of_suf h1)) h2
          have := hI.hp.small
          have := hI.nx
          omega
        rcases joinA_old rs 0 _ hsmall hbk with h | ⟨q, rs', x, k', h1, h2, h3⟩
        · exact hI.st.old b k (by rw [← hHb.1]; exact h) hlt
        · obtain ⟨e1', _⟩ := alloc_num hv (nth_suf hsl (nth_of_suf h1)) h2
          omega
    have hdfB : DRs P m ι ρ (joinA r.bef rs rs.length 0 (lastS H0 df0 rs).1) w (lastS H0 df0 rs).2 a.defers := by
      rw [← hdfb]
      have hd := hI.df
      have hno2 : ∀ (D : Nat) (o : Obj), w.heap[D]? = some o → o = .deferred (some []) → ¬ Own ι H D → ¬ Own ι (joinA r.bef rs rs.length 0 (lastS H0 df0 rs).1) D := fun D o hD ho hn hown => by
        rcases hsub D hown with h | ⟨j, q, x, k, M, h1, h2, h3, h4, h5, h6, h7⟩
        · exact hn h
        · obtain ⟨M', g1, g2, g3, g4⟩ := hI.pend j q x k h1 h2 h4 h5
          rw [g1] at h6; injection h6 with h6; subst h6
          obtain ⟨cs, fz, g5, _⟩ := g2
          rw [← h7, hD, ho] at g5
          cases g5
      generalize df = dl at hd
      generalize a.defers = ds at hd
      induction hd with
      | nil => exact .nil
      | call f args d l ds h _ ih => exact .call f args d l ds h ih
      | col D h0 h1 h2 => exact .col D h0 h1 (hno2 D _ h1 rfl h2)
    have hB := b2.trans hHb.2
    refine .inl (stepA_ok hE hC b1 hop hdfB hstep fun ι' x w' ds c1 c2 c3 c4 => ?_)
    have hlater : ∀ q rs', (q :: rs') <:+ l → (r :: rs).length ≤ rs'.length → (isEff q.kd = true ∨ ∃ b, stBlk q.kd = some b) → add S rs.length rs'.length = false := fun q rs' g1 g2 g3 => by
      have hs' : (r :: rs) <:+ rs' := suf_of_len hs ((List.suffix_cons ..).trans g1) g2
      obtain ⟨tm', _, hgq⟩ := hv.at g1
      rw [add_ne S (by simp at g2; omega)]
      refine hI.down.not g1 hi ?_
      rcases g3 with g3 | ⟨b, g3⟩
      · obtain ⟨A', df'', hkq⟩ := isEff_of g3
        exact eff_bits hgq hkq hs' (.inl (by rw [hk]; rfl))
      · obtain ⟨o', vs', A', hkq⟩ := stBlk_of g3
        exact store_bits hgq hkq hs' (.inl (by rw [hk]; rfl))
    have hheap : heapS H0 df0 (add S rs.length) (r :: rs) = (A, df') := by rw [heapS_eff hk, if_pos (add_self ..)]
    have hn := heapS_later_next (H0 := H0) (df0 := df0) (S := add S rs.length) hs fun q rs' g1 g2 g3 => hlater q rs' g1 g2 (.inl g3)
    have hq' : HEq2 A (heapS H0 df0 (add S rs.length) l).1 := by
      refine ⟨fun m => ?_, ?_⟩
      · rw [heapS_later hv.small hs fun q rs' g1 g2 g3 => hlater q rs' g1 g2 (g3.imp id fun h => ⟨m, h⟩), hheap]
      · rw [hn.1, hheap]
    refine hK ι' A df' _ w' (hI.adv (B := joinA r.bef rs rs.length 0 (lastS H0 df0 rs).1) (a' := { a with defers := ds }) hv hlen hs hi hb hg (by rw [hk]; intros; simp) hq' (by rw [hn.2, hheap]) c2 rfl c1 c4 c3 hB.symm.symm hstB fun j q x k h1 h2 h3 h4 M hM ho => ?_)
    obtain ⟨M', g1, g2, g3, g4⟩ := hI.pend j q x k h1 h2 h3 (jn_mono h4)
    rw [g1] at hM; injection hM with hM; subst hM
    rcases hsub _ ho with h | ⟨j', q', x', k', M2, f1, f2, f3, f4, f5, f6, f7⟩
    · exact g3 h
    · have hjj : j ≠ j' := fun e => by
        subst e
        have : jn (add S rs.length) l j = true := jn_iff.2 ⟨r, rs, hs, by rw [hk]; rfl, add_self .., f3⟩
        rw [this] at h4; cases h4
      exact hI.dist j q x k j' q' x' k' M' M2 h1 h2 h3 (jn_mono h4) f1 f2 f4 f5 hjj g1 f6 f7

end

end
end Go.Proofs.YtpcbmenjbcpieaaGreatDoor.AM

/- An abstract machine for the model's code, part V: a drawn region as a whole. -/
set_option linter.unusedVariables false
set_option linter.unusedSimpArgs false
namespace Go.Proofs.YtpcbmenjbcpieaaGreatDoor.AM
open Go
noncomputable section
variable {m : Nat}

theorem bump_eq {H H0 : AH} {m : Nat} (h : bump H m = some H0) : H0.next = H.next + m ∧ H0.next < 16000000 ∧ ∀ b, H0.get b = H.get b := by
  unfold bump at h
  split at h
  · rename_i hb
    have hb := Nat.le_of_ble_eq_true hb
    injection h with h; subst h
    exact ⟨rfl, by dsimp only; omega, fun _ => rfl⟩
  · cases h

theorem HR.bump {ι : Inj} {ρ : Rho} {H H0 : AH} {hp : Array Obj} {m : Nat} (h : HR ι ρ H hp) (hb : AM.bump H m = some H0) : HR ι ρ H0 hp := by
  obtain ⟨e1, e2, e3⟩ := bump_eq hb
  refine ⟨fun b k hbk => h.live b k (by rw [← e3]; exact hbk), fun b b' k k' L L' hbk hbk' => h.inj b b' k k' L L' (by rw [← e3]; exact hbk) (by rw [← e3]; exact hbk'), fun b k hbk => ?_, fun b L hL => ?_, by omega, h.lo, h.base⟩
  · have := h.lt b k (by rw [← e3]; exact hbk); omega
  · have := h.dom b L hL; omega

theorem Own.same {ι : Inj} {H H' : AH} (e : ∀ b, H'.get b = H.get b) {c : Nat} : Own ι H' c ↔ Own ι H c := by
  constructor
  · rintro ⟨b, k, L, hb, hL, hc⟩; exact ⟨b, k, L, by rw [← e]; exact hb, hL, hc⟩
  · rintro ⟨b, k, L, hb, hL, hc⟩; exact ⟨b, k, L, by rw [e]; exact hb, hL, hc⟩

theorem heapS_none {H0 : AH} {df0 : DF} : ∀ (l : List Rec), heapS H0 df0 (fun _ => false) l = (H0, df0)
  | [] => rfl
  | r :: rs => by
    have ih := heapS_none (H0 := H0) (df0 := df0) rs
    cases hk : r.kd with
    | eff A df => rw [heapS_eff hk, if_neg (by simp)]; exact ih
    | store b o vs A => rw [heapS_store hk, if_neg (by simp)]; exact ih
    | _ => rw [heapS_other (by rw [hk]; intros; simp) (by rw [hk]; intros; simp)]; exact ih

theorem tmS_none {g0 : Nat → Option AV} (t : Nat) : ∀ (l : List Rec), tmS g0 (fun _ => false) l t = g0 t
  | [] => rfl
  | r :: rs => by simp only [tmS, Bool.false_eq_true, false_and, if_false]; exact tmS_none t rs

section
variable {P : Program} {E : Env} {C : Caller} {ops : Array Oper} {H0 : AH} {df0 : DF} {base n : Nat} {g0 : Nat → Option AV}
variable {ρ : Rho} {ι0 : Inj} {Hs : AH} {w0 : World} {l : List Rec}

def setOf (listed : Array Bool) : Nat → Bool := fun j => listed.getD j false

theorem setOf_add {listed : Array Bool} {i : Nat} (h : i < listed.size) : setOf (listed.setIfInBounds i true) = add (setOf listed) i := by
  funext j
  simp only [setOf, add, Array.getD_eq_getD_getElem?]
  by_cases e : j = i
  · subst e; simp [h]
  · rw [if_neg e, Array.getElem?_setIfInBounds_ne (fun h => e h.symm)]

theorem ready_facts {listed : Array Bool} {i : Nat} (hsz : listed.size = ops.size) (h : i ∈ Region.ready .any ops listed) : i < listed.size ∧ setOf listed i = false ∧
    ∃ o, ops[i]? = some o ∧ ∀ e ∈ o.after, Region.binds .any e = true → setOf listed e.on = true := by
  obtain ⟨h1, o, h2, h3⟩ := mem_ready.1 h
  have hlt : i < ops.size := (Array.getElem?_eq_some_iff.1 h2).1
  refine ⟨by omega, ?_, o, h2, h3⟩
  have : i < listed.size := by omega
  simp only [setOf, Array.getD_eq_getD_getElem?] at h1 ⊢
  rw [Array.getElem?_eq_getElem this] at h1 ⊢
  exact h1

theorem nth_some : ∀ {l : List Rec} {j : Nat}, j < l.length → ∃ q, nth l j = some q
  | [], j, h => by simp at h
  | r :: rs, j, h => by
    simp only [nth]
    by_cases e : j = rs.length
    · exact ⟨r, by rw [if_pos e]⟩
    · rw [if_neg e]; exact nth_some (by simp at h; omega)

/-- What is ready has all before it done. -/
theorem bits_done {S : Nat → Bool} (hv : RV P E C ops H0 df0 base n g0 l) (hd : Down S l) {r : Rec} {rs : List Rec} (hs : (r :: rs) <:+ l) (h : ∀ e ∈ r.o.after, Region.binds .any e = true → S e.on = true) :
    ∀ b, r.bef.testBit b = true → S b = true := by
  intro b hb
  obtain ⟨tm, hvr, hg⟩ := hv.at hs
  obtain ⟨e, he, hbd, hx⟩ := hg.bits b hb
  have hSe := h e (by simpa using he) hbd
  rcases hx with rfl | ⟨q, hq, hqb⟩
  · exact hSe
  · obtain ⟨rs', h1, h2⟩ := nth_split hq
    have h3 : (q :: rs') <:+ l := h1.trans ((List.suffix_cons ..).trans hs)
    exact hd q rs' h3 (by rw [h2]; exact hSe) b hqb

theorem all_done {listed : Array Bool} (hv : RV P E C ops H0 df0 base n g0 l) (hll : l.length = ops.size) (hsz : listed.size = ops.size) (hr : Region.ready .any ops listed = []) :
    ∀ j, j < l.length → setOf listed j = true := by
  intro j
  induction j using Nat.strongRecOn with
  | _ j ih =>
    intro hj
    cases hS : setOf listed j with
    | true => rfl
    | false =>
      exfalso
      obtain ⟨q, hq⟩ := nth_some hj
      obtain ⟨rs', h1, h2⟩ := nth_split hq
      obtain ⟨tm, hvr, hg⟩ := hv.at h1
      have hop : ops[j]? = some q.o := by rw [← h2]; exact hg.op
      have : j ∈ Region.ready .any ops listed := by
        refine mem_ready.2 ⟨?_, q.o, hop, fun e he hbd => ?_⟩
        · have : j < listed.size := by omega
          simp only [setOf, Array.getD_eq_getD_getElem?] at hS ⊢
          rw [Array.getElem?_eq_getElem this] at hS ⊢
          exact hS
        · have hlt := (hg.edge e (by simpa using he) hbd).1
          exact ih e.on (by omega) (by omega)
      rw [hr] at this
      cases this

theorem draw_any {Q : Exit → Act → World → Prop} (hE : E.ok ρ) (hC : CallOk P ρ C) (hv : RV P E C ops H0 df0 base n g0 l) (hlen : H0.next = base + l.length) (hbase : Hs.next = base) (hll : l.length = ops.size)
    (hQ : ∀ S ι H df a w, Inv P m ρ H0 df0 base n g0 ι0 Hs w0 l S ι H df a w → (∀ j, j < l.length → S j = true) → Q .normal a w) :
    ∀ (fuel : Nat) (listed : Array Bool) (ι : Inj) (H : AH) (df : DF) (a : Act) (w : World), listed.size = ops.size → listed.toList.count false ≤ fuel →
      Inv P m ρ H0 df0 base n g0 ι0 Hs w0 l (setOf listed) ι H df a w → wpAny P .any ops Q fuel listed a w
  | 0, listed, ι, H, df, a, w, hsz, hc, hI => by
    have hnil : Region.ready .any ops listed = [] := by
      cases hr : Region.ready .any ops listed with
      | nil => rfl
      | cons i t =>
        exfalso
        obtain ⟨h1, h2, _⟩ := ready_facts (listed := listed) hsz (show i ∈ Region.ready .any ops listed by rw [hr]; exact List.mem_cons_self ..)
        have h3 : false ∈ listed.toList := by
          have hg : listed[i]? = some false := by
            simp only [setOf, Array.getD_eq_getD_getElem?] at h2
            rw [Array.getElem?_eq_getElem h1] at h2 ⊢
            simpa using h2
          exact Array.mem_toList_iff.2 (Array.mem_of_getElem? hg)
        have := List.count_pos_iff.2 h3
        omega
    exact ⟨hnil, hQ _ ι H df a w hI (all_done hv hll hsz hnil)⟩
  | fuel + 1, listed, ι, H, df, a, w, hsz, hc, hI => by
    refine ⟨fun hnil => hQ _ ι H df a w hI (all_done hv hll hsz hnil), fun i hir => ?_⟩
    obtain ⟨h1, h2, o, h3, h4⟩ := ready_facts hsz hir
    obtain ⟨q, hq⟩ := nth_some (l := l) (j := i) (by omega)
    obtain ⟨rs, hs, hrs⟩ := nth_split hq
    subst hrs
    obtain ⟨tm, hvr, hg⟩ := hv.at hs
    have hoq : q.o = o := by have := hg.op; rw [h3] at this; injection this with this; exact this.symm
    have hb := bits_done hv hI.down hs (by rw [hoq]; exact h4)
    refine step_any hE hC hI hv hlen hbase hs h2 hb fun ι' H' df' a' w' hI' => ?_
    refine draw_any hE hC hv hlen hbase hll hQ fuel _ ι' H' df' a' w' (by simpa using hsz) ?_ (by rw [setOf_add h1]; exact hI')
    rw [Array.toList_setIfInBounds, List.count_set (by simpa using h1)]
    have hg : listed.toList[rs.length]'(by simpa using h1) = false := by
      simp only [setOf, Array.getD_eq_getD_getElem?] at h2
      rw [Array.getElem?_eq_getElem h1] at h2
      simpa using h2
    rw [hg, if_pos (by decide), if_neg (by decide)]
    omega

end

theorem drawR_ok {P : Program} {E : Env} {C : Caller} {ρ : Rho} {n : Nat} {ops : Array Oper} {Q : Exit → Act → World → Prop} (hm : P.follows .mixedOrders = true) (hE : E.ok ρ) (hC : CallOk P ρ C) (hn : n ≤ 16000000)
    {F F' : Fr} {ι : Inj} {a : Act} {w : World} {id : Nat} (h : drawR P E C n ops F = some F') (hF : FR P m ι ρ n F a w)
    (hQ : ∀ ι' a' w', FR P m ι' ρ n F' a' w' → St ι F.H w ι' F'.H w' → Q .normal a' w') : (Code.region id ops true).wp P Q a w := by
  unfold drawR at h
  split at h
  · cases h
  · rename_i H0 hbump
    split at h
    · cases h
    · rename_i l tm' hdraw
      injection h with h; subst h
      obtain ⟨e1, e2, e3⟩ := bump_eq hbump
      obtain ⟨hv, htm, hlen⟩ := drawA_RV (g0 := F.tm.get) hn ops.toList [] 0 F.tm l tm' hdraw .nil rfl (fun _ => rfl) (by simp)
      simp only [Nat.zero_add, Array.length_toList] at hlen
      have hbase : H0.next = F.H.next + l.length := by omega
      have hOwn : ∀ (ι : Inj) c, Own ι H0 c ↔ Own ι F.H c := fun ι c => Own.same e3
      refine wp_region_any hm ?_
      have hset : setOf (Array.replicate ops.size false) = fun _ => false := by
        funext j
        simp only [setOf, Array.getD_eq_getD_getElem?, Array.getElem?_replicate]
        split <;> rfl
      refine draw_any (m := m) (H0 := H0) (df0 := F.df) (base := F.H.next) (n := n) (g0 := F.tm.get) (ι0 := ι) (Hs := F.H) (w0 := w) hE hC hv hbase rfl hlen ?_ ops.size _ ι H0 F.df a { w with drawn := w.drawn + 1 } (by simp) ?_ ?_
      · -- the end
        intro S ι' H df a' w' hI hall
        have hagree : ∀ q rs', (q :: rs') <:+ l → S rs'.length = T rs'.length := fun q rs' h1 => hall _ (suf_len h1)
        have hHq : HEq2 H (lastS H0 F.df l).1 ∧ (lastS H0 F.df l).2 = df := by
          have h1 := heapS_agree_next (H0 := H0) (df0 := F.df) (S := S) (S' := T) (l := l) fun q rs' h1 _ => hagree q rs' h1
          have h2 := fun m => heapS_agree (H0 := H0) (df0 := F.df) (b := m) (S := S) (S' := T) hv.small fun q rs' h1 _ => hagree q rs' h1
          rw [hv.last] at h1 h2
          refine ⟨⟨fun m => ?_, ?_⟩, ?_⟩
          · rw [← h2 m]; exact hI.hq.1 m
          · rw [← h1.1]; exact hI.hq.2
          · rw [← h1.2]; exact hI.hdf
        have hj : ∀ j, jn T l j = jn S l j := fun j => by
          rw [Bool.eq_iff_iff, jn_iff, jn_iff]
          constructor
          · rintro ⟨q, rs', h1, h2, _, h4⟩; exact ⟨q, rs', h1, h2, hall _ (suf_len h1), h4⟩
          · rintro ⟨q, rs', h1, h2, _, h4⟩; exact ⟨q, rs', h1, h2, rfl, h4⟩
        have hw : Wait ι' ρ (lastS H0 F.df l).1 w'.heap l (2 ^ l.length - 1) := by
          constructor
          · intro j q x k h1 h2 h3 h4
            rw [hj] at h4
            obtain ⟨M, g1, g2, g3, g4⟩ := hI.pend j q x k h1 h2 (hall _ (nth_lt h1)) h4
            exact ⟨M, g1, g2, fun ho => g3 ((Own.ext hHq.1).1 ho)⟩
          · intro j q x k j' q' x' k' M M' h1 h2 h3 h4 g1 g2 g3 g4
            rw [hj] at h4 g4
            exact hI.dist j q x k j' q' x' k' M M' h1 h2 (hall _ (nth_lt h1)) h4 g1 g2 (hall _ (nth_lt g1)) g4
        obtain ⟨b1, b2, b3⟩ := joinA_all hv hw (hI.hp.ext hHq.1)
        have hsub : ∀ c, Own ι' (joinA (2 ^ l.length - 1) l l.length 0 (lastS H0 F.df l).1) c → Own ι' H c ∨ ∃ k M, BR ι' ρ k M w'.heap ∧ c = M.blk ∧ w.heap.size ≤ M.blk := fun c hc => by
          rcases b3 c hc with h | ⟨j, q, x, k, M, _, h1, h2, h3, h4, h5, h6⟩
          · exact .inl ((Own.ext hHq.1).1 h)
          · rw [hj] at h4
            obtain ⟨M', g1, g2, g3, g4⟩ := hI.pend j q x k h1 h2 (hall _ (nth_lt h1)) h4
            rw [g1] at h5; injection h5 with h5; subst h5
            exact .inr ⟨k, M', g2, h6, g4⟩
        refine hQ ι' a' w' ⟨hI.size, fun t v hv' => hI.tm t v ?_, ?_, b1⟩ ?_
        · rw [← hv', htm]
          exact tmS_agree fun q rs' h1 _ => hagree q rs' h1
        · rw [hHq.2]
          have hd := hI.df
          have hno2 : ∀ (D : Nat), w'.heap[D]? = some (.deferred (some [])) → ¬ Own ι' H D → ¬ Own ι' (joinA (2 ^ l.length - 1) l l.length 0 (lastS H0 F.df l).1) D := fun D hD hn hown => by
            rcases hsub D hown with h | ⟨k, M, g2, h7, _⟩
            · exact hn h
            · obtain ⟨cs, fz, g5, _⟩ := g2
              rw [← h7, hD] at g5
              cases g5
          generalize df = dl at hd
          generalize a'.defers = ds at hd
          induction hd with
          | nil => exact .nil
          | call f args d l ds h _ ih => exact .call f args d l ds h ih
          | col D h0 h1 h2 => exact .col D h0 h1 (hno2 D h1 h2)
        · refine ⟨hI.st.ext, hI.st.os, hI.st.tape, hI.st.output, hI.st.size, hI.st.keep, fun c hc => ?_, hI.st.fresh, ?_, fun b k hbk hlt => ?_⟩
          · rcases hsub c hc with h | ⟨k, M, _, h7, h8⟩
            · exact hI.st.own c h
            · exact .inr (by rw [h7]; exact h8)
          · rw [b2, hHq.1.2]; exact hI.st.nx
          · have hsmall : ∀ q rs' x k', (q :: rs') <:+ l → q.kd = .alloc x k' → x < 16000001 := fun q rs' x k' h1 h2 => by
              obtain ⟨e1', e2'⟩ := alloc_num hv (nth_of_suf h1) h2
              omega
            rcases joinA_old l 0 _ hsmall hbk with h | ⟨q, rs', x, k', h1, h2, h3⟩
            · exact hI.st.old b k (by rw [← hHq.1.1]; exact h) hlt
            · obtain ⟨e1', _⟩ := alloc_num hv (nth_of_suf h1) h2
              omega
      · rw [Array.toList_replicate]
        exact Nat.le_trans List.count_le_length (by simp)
      · -- the beginning
        rw [hset]
        refine ⟨fun q rs' _ h2 => (by cases h2), ⟨fun m => (by rw [heapS_none]), by rw [heapS_none]⟩, by rw [heapS_none], Nat.le_refl _, hF.hp.bump hbump, hF.size, fun t v hv' => hF.tm t v (by rw [← hv', tmS_none]), ?_, ?_, ?_, ?_, ?_⟩
        · have hd := hF.df
          generalize F.df = dl at hd
          generalize a.defers = ds at hd
          induction hd with
          | nil => exact .nil
          | call f args d l ds h _ ih => exact .call f args d l ds h ih
          | col D h0 h1 h2 => exact .col D h0 h1 fun ho => h2 ((hOwn ι D).1 ho)
        · intro j q x k _ _ h3; cases h3
        · intro j q x k j' q' x' k' M M' _ _ h3; cases h3
        · intro j q x k h1 h2 _
          obtain ⟨g1, g2⟩ := alloc_num hv h1 h2
          cases hx : ι x with
          | none => rfl
          | some L => have := hF.hp.dom x L hx; omega
        · exact ⟨Ext.refl ι, rfl, rfl, rfl, Nat.le_refl _, fun _ _ _ => rfl, fun c hc => .inl ((hOwn ι c).1 hc), fun _ _ hb => .inl hb, by omega, fun b k hb _ => ⟨k, by rw [← e3]; exact hb⟩⟩

end
end Go.Proofs.YtpcbmenjbcpieaaGreatDoor.AM

/- An abstract machine for the model's code, part W: code, and calls. -/
set_option linter.unusedVariables false
set_option linter.unusedSimpArgs false
namespace Go.Proofs.YtpcbmenjbcpieaaGreatDoor.AM
open Go
noncomputable section
variable {m : Nat}

/-! ### What a call ends in -/
def RetOk (ρ : Rho) (ι : Inj) (H : AH) (w : World) (v : AV) (H' : AH) : Ending → World → Prop
  | .returned x, w' => ∃ ι', VR ι' ρ v x ∧ HR ι' ρ H' w'.heap ∧ St ι H w ι' H' w'
  | _, _ => False

/-- What a caller says is what the program does, be the call deferred or not. -/
def CallOk2 (P : Program) (ρ : Rho) (C : Caller) : Prop :=
  ∀ f args H v H', C f args H = some (v, H') → ∀ (ι : Inj) (w : World) (xs : List Value), HR ι ρ H w.heap → VRs ι ρ args xs →
    Calls P f xs.toArray w (RetOk ρ ι H w v H') ∧ CallsD P f xs.toArray .returning w fun e u' w' => u' = .returning ∧ RetOk ρ ι H w v H' e w'

theorem CallOk2.plain {P : Program} {ρ : Rho} {C : Caller} (h : CallOk2 P ρ C) : CallOk P ρ C := fun f args H v H' hc ι w xs hH hx =>
  Calls.mono (h f args H v H' hc ι w xs hH hx).1 fun e w' he => by
    cases e with
    | returned x => exact he
    | panicked c => exact he
    | outgrown => exact he

/-! ### Loops -/
def LoopWp (P : Program) (c : Code) (Q : Exit → Act → World → Prop) (a : Act) (w : World) : Prop :=
  ∀ (b : Frame) (k : List Item) (cs : List Frame), ∃ e a' w', Q e a' w' ∧ Arrives P (lone (b.at a (.code c :: .inLoop c :: k)) cs w) b k cs e a' w'

theorem wp_loop_of {P : Program} {c : Code} {Q : Exit → Act → World → Prop} {a : Act} {w : World} (h : LoopWp P c Q a w) : (Code.loop c).wp P Q a w := by
  intro b k cs
  obtain ⟨e, a', w', hq, harr⟩ := h b k cs
  exact ⟨e, a', w', hq, .of_steps (.one step_loop) harr⟩

theorem loopWp_round {P : Program} {c : Code} {Q : Exit → Act → World → Prop} {a : Act} {w : World} (h : c.wp P (Exit.then (LoopWp P c Q) Q) a w) : LoopWp P c Q a w := by
  intro b k cs
  obtain ⟨e, a₁, w₁, hq, harr⟩ := h b (.inLoop c :: k) cs
  cases e with
  | normal =>
    obtain ⟨e₂, a₂, w₂, hq₂, harr₂⟩ := hq b k cs
    exact ⟨e₂, a₂, w₂, hq₂, .of_steps (Steps.trans harr (.one step_inLoop)) harr₂⟩
  | exit id => exact ⟨_, a₁, w₁, hq, .pass (x := .inLoop c) rfl (fun _ _ => .inl (by simp)) harr⟩
  | goto l => exact ⟨_, a₁, w₁, hq, .pass (x := .inLoop c) rfl (fun _ _ => .inl (by simp)) harr⟩
  | ret => exact ⟨_, a₁, w₁, hq, .pass (x := .inLoop c) rfl (fun _ _ => .inl (by simp)) harr⟩
  | panic ch => exact ⟨_, a₁, w₁, hq, .pass (x := .inLoop c) rfl (fun _ _ => .inl (by simp)) harr⟩
  | outgrown => exact ⟨_, a₁, w₁, hq, .pass (x := .inLoop c) rfl (fun _ _ => .inl (by simp)) harr⟩

/-! ### A loop over a function that never yields -/
/-- The world with the loop's record. -/
def loopW (w : World) (fn : FuncId) (tmps : Array Value) (ps : Array Tmp) (assign body : Code) : World :=
  (w.alloc (.deferred (some []))).alloc (.loop { state := .ready, pending := none, fn, tmps, params := ps, assign, body, defers := w.heap.size })

theorem step_rangeFunc_at {P : Program} {b : Frame} {a : Act} {k : List Item} {cs : List Frame} {w : World} {g : Operand} {ps : Array Tmp} {assign body : Code} {f : FuncId} {cap : Array Value}
    (hg : a.eval g = .func (.func f) #[] cap) (hok : fnOk P f = true) :
    step P (lone (b.at a (.code (.rangeFunc g ps assign body) :: k)) cs w) =
      .next (lone (Frame.enter P f (#[.func (.yield (w.heap.size + 1)) #[] #[]] ++ cap) .normal)
        (b.at { a with defers := { target := .collected w.heap.size, args := #[] } :: a.defers } (.inRangeFunc (w.heap.size + 1) :: k) :: cs) (loopW w b.fn a.tmps ps assign body)) :=
  step_lone_go (by
    have he := run_enterLoop_outer (P := P) (w := w) b.fn a.tmps ps assign body
    have hev := Frame.eval_at' b { a with defers := { target := .collected w.heap.size, args := #[] } :: a.defers } (.inRangeFunc (w.heap.size + 1) :: k)
    simp only [Frame.at] at hev
    have hg' : ({ tmps := a.tmps, defers := { target := .collected w.heap.size, args := #[] } :: a.defers } : Act).eval g = .func (.func f) #[] cap := by
      rw [← hg]; cases g <;> rfl
    have hc : ∀ (e : Operand → Value), e (Operand.const (.func (.yield (w.heap.size + 1)) #[] #[])) = .func (.yield (w.heap.size + 1)) #[] #[] → e g = .func (.func f) #[] cap → ∀ w', Sem.run P (do let d ← resolve e { callee := .value g, args := #[.const (.func (.yield (w.heap.size + 1)) #[] #[])], argTypes := #[] } 0; invoke d.target d.args) w' =
        .ok (.enter f (#[.func (.yield (w.heap.size + 1)) #[] #[]] ++ cap)) w' := fun e h1 h2 w' => by
      have h3 : (#[Operand.const (.func (.yield (w.heap.size + 1)) #[] #[])] : Array Operand).map e = #[.func (.yield (w.heap.size + 1)) #[] #[]] := by
        apply Array.ext'
        simp [h1]
      simp only [resolve, h2, h3, Deferred.ofValue, Sem.run_bind, Sem.run_pure, Result.andThen_ok, invoke, Array.empty_append]
      exact fnOk_run hok _ w'
    have hc' := hc ({ tmps := a.tmps, defers := { target := .collected w.heap.size, args := #[] } :: a.defers } : Act).eval rfl hg'
    simp only [stepG, stepG.exec, Frame.at, Sem.runT_eq, he, GStep.bare_after, stepG.apply, List.singleton_append, List.cons_append, List.nil_append]
    rw [hev, hc']
    rfl)

theorem step_endRange_at {P : Program} {b : Frame} {a : Act} {k : List Item} {cs : List Frame} {w w' : World} {l : Nat} (h : (Instr.endLoop l).run P w = .ok none w') :
    step P (lone (b.at a (.endRangeFunc l :: k)) cs w) = .next (lone (b.at a k) cs w') :=
  step_lone_go (by simp [stepG, stepG.exec, Frame.at, Sem.runT_eq, h, GStep.bare_after])

theorem wp_rangeFunc_none {P : Program} {g : Operand} {ps : Array Tmp} {assign body : Code} {Q : Exit → Act → World → Prop} {a : Act} {w : World} {f : FuncId} {cap : Array Value}
    (hg : a.eval g = .func (.func f) #[] cap) (hok : fnOk P f = true)
    (h : ∀ fn, Calls P f (#[.func (.yield (w.heap.size + 1)) #[] #[]] ++ cap) (loopW w fn a.tmps ps assign body) fun
        | .returned _, w2 => ∃ r : Loop, w2.heap[w.heap.size + 1]? = some (.loop r) ∧ r.state ≠ .busy ∧ r.pending = none ∧
            Q .normal { a with defers := { target := .collected w.heap.size, args := #[] } :: a.defers } (w2.putObj (w.heap.size + 1) (.loop { r with state := .exhausted }))
        | _, _ => False) :
    (Code.rangeFunc g ps assign body).wp P Q a w := by
  intro b k cs
  obtain ⟨e, w2, fr, hR, hsteps, hfn, hleave⟩ := h b.fn (b.at { a with defers := { target := .collected w.heap.size, args := #[] } :: a.defers } (.inRangeFunc (w.heap.size + 1) :: k) :: cs)
  have h1 := step_rangeFunc_at (P := P) (b := b) (a := a) (k := k) (cs := cs) (w := w) (ps := ps) (assign := assign) (body := body) hg hok
  cases e with
  | panicked c => exact hR.elim
  | outgrown => exact hR.elim
  | returned v =>
    obtain ⟨r, g1, g2, g3, g4⟩ := hR
    have h2 := step_leave_returned (c := b.at { a with defers := { target := .collected w.heap.size, args := #[] } :: a.defers } (.inRangeFunc (w.heap.size + 1) :: k)) (cs := cs) hleave
    have h3 := run_endLoop (P := P) (w := w2) g1 g2
    have h3' : (Instr.endLoop (w.heap.size + 1)).run P w2 = .ok none (w2.putObj (w.heap.size + 1) (.loop { r with state := .exhausted })) := by
      rw [h3, g3]
    have hfin : (b.at { a with defers := { target := .collected w.heap.size, args := #[] } :: a.defers } (.inRangeFunc (w.heap.size + 1) :: k)).finish v =
        b.at { a with defers := { target := .collected w.heap.size, args := #[] } :: a.defers } (.endRangeFunc (w.heap.size + 1) :: k) := by
      simp [Frame.finish, Frame.at]
    rw [hfin] at h2
    have h4 := step_endRange_at (b := b) (a := { a with defers := { target := .collected w.heap.size, args := #[] } :: a.defers }) (k := k) (cs := cs) h3'
    exact ⟨.normal, _, _, g4, .head h1 (Steps.trans hsteps (.head h2 (.one h4)))⟩

end
end Go.Proofs.YtpcbmenjbcpieaaGreatDoor.AM

/- An abstract machine for the model's code, part X: code, and calls: what the machine says is what the program does. -/
set_option linter.unusedVariables false
set_option linter.unusedSimpArgs false
namespace Go.Proofs.YtpcbmenjbcpieaaGreatDoor.AM
open Go
noncomputable section
variable {m : Nat}

/-- What is owned is all that counts. -/
theorem HR.congr {ι : Inj} {ρ : Rho} {H : AH} {hp hp' : Array Obj} (h : HR ι ρ H hp) (e : ∀ c, Own ι H c → hp'[c]? = hp[c]?) (hs : hp.size ≤ hp'.size) (e0 : ∀ c, c < ρ.n0 → hp'[c]? = hp[c]?) : HR ι ρ H hp' := by
  refine ⟨fun b k hb => ?_, h.inj, h.lt, h.dom, h.small, h.lo, ⟨Nat.le_trans h.base.sz hs, fun c hc => (e0 c hc).trans (h.base.same c hc)⟩⟩
  obtain ⟨L, hL, hB⟩ := h.live b k hb
  exact ⟨L, hL, hB.mono (Ext.refl ι) (e _ ⟨b, k, L, hb, hL, rfl⟩)⟩

theorem HR.own_lt {ι : Inj} {ρ : Rho} {H : AH} {hp : Array Obj} (h : HR ι ρ H hp) {c : Nat} (ho : Own ι H c) : c < hp.size := by
  obtain ⟨b, k, L, hb, hL, rfl⟩ := ho
  obtain ⟨M, hM, hB⟩ := h.live b k hb
  rw [hL] at hM; injection hM with hM; subst hM
  exact hB.lt

def Ex.of : Ex → Exit
  | .normal => .normal
  | .exit id => .exit id
  | .ret => .ret

/-- Code. -/
theorem codeA_ok {P : Program} {E : Env} {C : Caller} {ρ : Rho} {n fuel : Nat} (hm : P.follows .mixedOrders = true) (hE : E.ok ρ) (hC : CallOk P ρ C) (hn : n ≤ 16000000) :
    ∀ (c : Code) (F F' : Fr) (e : Ex) (ι : Inj) (a : Act) (w : World) (Q : Exit → Act → World → Prop), codeA P E C n fuel c F = some (e, F') → FR P m ι ρ n F a w → m ≤ w.heap.size →
      (∀ ι' a' w', FR P m ι' ρ n F' a' w' → St ι F.H w ι' F'.H w' → Q e.of a' w') → c.wp P Q a w := by
  intro c
  induction c with
  | skip =>
    intro F F' e ι a w Q h hF hmw hQ
    simp only [codeA, Option.some.injEq, Prod.mk.injEq] at h
    obtain ⟨rfl, rfl⟩ := h
    exact wp_skip (hQ ι a w hF (St.refl ..))
  | region id ops draw =>
    intro F F' e ι a w Q h hF hmw hQ
    cases draw with
    | false =>
      simp only [codeA, normalR] at h
      split at h
      · rename_i F1 h1
        simp only [Option.some.injEq, Prod.mk.injEq] at h
        obtain ⟨rfl, rfl⟩ := h
        exact regionA_ok hE hC hn h1 hF hQ
      · cases h
    | true =>
      simp only [codeA, normalR] at h
      split at h
      · rename_i F1 h1
        simp only [Option.some.injEq, Prod.mk.injEq] at h
        obtain ⟨rfl, rfl⟩ := h
        exact drawR_ok hm hE hC hn h1 hF hQ
      · cases h
  | seq x y ihx ihy =>
    intro F F' e ι a w Q h hF hmw hQ
    simp only [codeA] at h
    split at h
    · rename_i F1 h1
      refine wp_seq (ihx F F1 .normal ι a w _ h1 hF hmw fun ι1 a1 w1 hF1 hS1 => ?_)
      exact ihy F1 F' e ι1 a1 w1 Q h hF1 (Nat.le_trans hmw hS1.size) fun ι2 a2 w2 hF2 hS2 => hQ ι2 a2 w2 hF2 (hS1.trans hS2)
    · rename_i hne
      refine wp_seq (ihx F F' e ι a w _ h hF hmw fun ι1 a1 w1 hF1 hS1 => ?_)
      have := hQ ι1 a1 w1 hF1 hS1
      cases e with
      | normal => exact absurd h (hne F')
      | exit id => exact this
      | ret => exact this
  | cond c x y ihx ihy =>
    intro F F' e ι a w Q h hF hmw hQ
    simp only [codeA] at h
    split at h
    · rename_i hc
      have hr := evA_ok (a := a) (fun t _ v hv => hF.tm t v hv) hc
      have he : a.eval c = .bool true := by generalize a.eval c = q at hr; cases hr; rfl
      exact wp_cond_true he (ihx F F' e ι a w Q h hF hmw hQ)
    · rename_i hc
      have hr := evA_ok (a := a) (fun t _ v hv => hF.tm t v hv) hc
      have he : a.eval c = .bool false := by generalize a.eval c = q at hr; cases hr; rfl
      exact wp_cond_false he (ihy F F' e ι a w Q h hF hmw hQ)
    · cases h
  | block id x ihx =>
    intro F F' e ι a w Q h hF hmw hQ
    simp only [codeA] at h
    split at h
    · rename_i j F1 h1
      split at h
      · rename_i hj
        have hj := Nat.eq_of_beq_eq_true hj
        simp only [Option.some.injEq, Prod.mk.injEq] at h
        obtain ⟨rfl, rfl⟩ := h
        refine wp_block (ihx F F1 (.exit j) ι a w _ h1 hF hmw fun ι1 a1 w1 hF1 hS1 => ?_)
        have := hQ ι1 a1 w1 hF1 hS1
        show if j = id then Q .normal a1 w1 else Q (.exit j) a1 w1
        rw [if_pos hj]; exact this
      · rename_i hj
        simp only [Option.some.injEq, Prod.mk.injEq] at h
        obtain ⟨rfl, rfl⟩ := h
        refine wp_block (ihx F F1 (.exit j) ι a w _ h1 hF hmw fun ι1 a1 w1 hF1 hS1 => ?_)
        have := hQ ι1 a1 w1 hF1 hS1
        show if j = id then Q .normal a1 w1 else Q (.exit j) a1 w1
        rw [if_neg (fun e => by rw [nbeq_true e] at hj; cases hj)]; exact this
    · rename_i hne
      refine wp_block (ihx F F' e ι a w _ h hF hmw fun ι1 a1 w1 hF1 hS1 => ?_)
      have := hQ ι1 a1 w1 hF1 hS1
      cases e with
      | normal => exact this
      | exit j => exact absurd h (hne j F')
      | ret => exact this
  | loop x ihx =>
    intro F F' e ι a w Q h hF hmw hQ
    simp only [codeA] at h
    refine wp_loop_of ?_
    have key : ∀ (k : Nat) (F : Fr) (ι : Inj) (a : Act) (w : World), iterA (codeA P E C n fuel x) k F = some (e, F') → FR P m ι ρ n F a w → m ≤ w.heap.size →
        (∀ ι' a' w', FR P m ι' ρ n F' a' w' → St ι F.H w ι' F'.H w' → Q e.of a' w') → LoopWp P x Q a w := by
      intro k
      induction k with
      | zero => intro F ι a w h; simp [iterA] at h
      | succ k ih =>
        intro F ι a w h hF hmw hQ
        simp only [iterA] at h
        split at h
        · rename_i F1 h1
          refine loopWp_round (ihx F F1 .normal ι a w _ h1 hF hmw fun ι1 a1 w1 hF1 hS1 => ?_)
          exact ih F1 ι1 a1 w1 h hF1 (Nat.le_trans hmw hS1.size) fun ι2 a2 w2 hF2 hS2 => hQ ι2 a2 w2 hF2 (hS1.trans hS2)
        · rename_i hne
          refine loopWp_round (ihx F F' e ι a w _ h hF hmw fun ι1 a1 w1 hF1 hS1 => ?_)
          have := hQ ι1 a1 w1 hF1 hS1
          cases e with
          | normal => exact absurd h (hne F')
          | exit id => exact this
          | ret => exact this
    exact key fuel F ι a w h hF hmw hQ
  | rangeFunc f ps asg body _ _ =>
    intro F F' e ι a w Q h hF hmw hQ
    simp only [codeA] at h
    split at h
    · rename_i g cs hdf hev
      split at h
      · rename_i hok
        split at h
        · rename_i v H' hc
          simp only [Option.some.injEq, Prod.mk.injEq] at h
          obtain ⟨rfl, rfl⟩ := h
          have hr := evA_ok (a := a) (fun t _ v hv => hF.tm t v hv) hev
          obtain ⟨cap, hcap, hvs⟩ : ∃ cap : List Value, a.eval f = .func (.func g) #[] cap.toArray ∧ VRs ι ρ cs cap := by
            generalize a.eval f = q at hr
            cases hr with | func _ _ vs hvs => exact ⟨vs, rfl, hvs⟩
          refine wp_rangeFunc_none hcap hok fun fn => ?_
          have hlw : ∀ c, c < w.heap.size → (loopW w fn a.tmps ps asg body).heap[c]? = w.heap[c]? := fun c hc => by
            simp only [loopW, World.alloc]
            rw [Array.getElem?_push, if_neg (by simp; omega), Array.getElem?_push, if_neg (by omega)]
          have hlsz : (loopW w fn a.tmps ps asg body).heap.size = w.heap.size + 2 := by
            show ((w.heap.push _).push _).size = _
            rw [Array.size_push, Array.size_push]
          have hH1 : HR ι ρ F.H (loopW w fn a.tmps ps asg body).heap := hF.hp.congr (fun c ho => hlw c (hF.hp.own_lt ho)) (by omega) fun c hc => hlw c (Nat.lt_of_lt_of_le hc hF.hp.base.sz)
          have hargs : (#[Value.func (.yield (w.heap.size + 1)) #[] #[]] ++ cap.toArray : Array Value) = (Value.func (.yield (w.heap.size + 1)) #[] #[] :: cap).toArray := by
            apply Array.ext'; simp
          rw [hargs]
          have hnown : ∀ c, w.heap.size ≤ c → ¬ Own ι F.H c := fun c hc ho => absurd (hF.hp.own_lt ho) (by omega)
          refine Calls.mono (hC g (.yld :: cs) F.H v H' hc ι _ _ hH1 (.cons _ _ _ _ (VR.yld _) hvs)) fun e w2 he => ?_
          cases e with
          | panicked c => exact he
          | outgrown => exact he
          | returned x =>
            obtain ⟨ι', g1, g2, g3⟩ := he
            have hD : (loopW w fn a.tmps ps asg body).heap[w.heap.size]? = some (.deferred (some [])) := by
              simp only [loopW, World.alloc]
              rw [Array.getElem?_push, if_neg (by simp), Array.getElem?_push, if_pos rfl]
            have hl : (loopW w fn a.tmps ps asg body).heap[w.heap.size + 1]? = some (.loop { state := .ready, pending := none, fn, tmps := a.tmps, params := ps, assign := asg, body, defers := w.heap.size }) := by
              simp only [loopW, World.alloc]
              rw [Array.getElem?_push, if_pos (by simp)]
            obtain ⟨k1, k2⟩ := g3.apart hl (hnown _ (by omega))
            obtain ⟨k3, k4⟩ := g3.apart hD (hnown _ (by omega))
            refine ⟨_, k1, by simp, rfl, ?_⟩
            refine hQ ι' _ _ ⟨hF.size, hF.tm.mono g3.ext, ?_, ?_⟩ ?_
            · have hdf' := hF.df
              rw [hdf] at hdf'
              have had : a.defers = [] := by
                generalize a.defers = ds at hdf'
                cases hdf'; rfl
              rw [had]
              refine .col w.heap.size hmw ?_ k4
              rw [World.putObj_heap_other (by omega)]
              exact k3
            · refine g2.congr (fun c ho => World.putObj_heap_other fun e => ?_) (by rw [World.putObj_size]; exact Nat.le_refl _) fun c hc => World.putObj_heap_other (by have := hF.hp.base.sz; omega)
              rw [e] at ho; exact k2 ho
            · refine ⟨g3.ext, g3.os, g3.tape, g3.output, ?_, fun c hc' hn' => ?_, fun c ho => ?_, g3.fresh, g3.nx, g3.old⟩
              · rw [World.putObj_size]; exact Nat.le_trans (by omega) g3.size
              · rw [World.putObj_heap_other (by omega), g3.keep c (by omega) hn', hlw c hc']
              · rcases g3.own c ho with h1 | h1
                · exact .inl h1
                · exact .inr (by omega)
        · cases h
      · cases h
    · cases h
  | exit id =>
    intro F F' e ι a w Q h hF hmw hQ
    simp only [codeA, Option.some.injEq, Prod.mk.injEq] at h
    obtain ⟨rfl, rfl⟩ := h
    exact wp_exit (hQ ι a w hF (St.refl ..))
  | scope x _ => intro F F' e ι a w Q h; simp [codeA] at h
  | label l =>
    intro F F' e ι a w Q h hF hmw hQ
    simp only [codeA, Option.some.injEq, Prod.mk.injEq] at h
    obtain ⟨rfl, rfl⟩ := h
    exact wp_label (hQ ι a w hF (St.refl ..))
  | goto l => intro F F' e ι a w Q h; simp [codeA] at h
  | ret =>
    intro F F' e ι a w Q h hF hmw hQ
    simp only [codeA, Option.some.injEq, Prod.mk.injEq] at h
    obtain ⟨rfl, rfl⟩ := h
    exact wp_ret (hQ ι a w hF (St.refl ..))
  | refuse why => intro F F' e ι a w Q h; simp [codeA] at h

end
end Go.Proofs.YtpcbmenjbcpieaaGreatDoor.AM

/- An abstract machine for the model's code, part Y: what the machine says of a call is what the program does. -/
set_option linter.unusedVariables false
set_option linter.unusedSimpArgs false
namespace Go.Proofs.YtpcbmenjbcpieaaGreatDoor.AM
open Go
noncomputable section
variable {m : Nat}

/-- A frame that is on its way out runs its deferred calls, and comes to its results. -/
def Lv (P : Program) (fn : Func) (tmps : Array Value) (ds : List Deferred) (w : World) (R : Value → World → Prop) : Prop :=
  ∀ (fr : Frame) (cs : List Frame), fr.mode = .returning → fr.defers = ds → ∃ v w', R v w' ∧ Steps P (lone fr cs w) (lone { fr with defers := [] } cs w') ∧ (results fn tmps).run P w' = .ok v w'

theorem runD_ok {P : Program} {C : Caller} {ρ : Rho} {fn : Func} {tmps : Array Value} {R : Value → World → Prop} (hC : CallOk2 P ρ C) {ι0 : Inj} {H0 : AH} {w0 : World} (hw0 : w0.heap.size = m) (hn0 : ρ.n0 ≤ m) :
    ∀ (df : DF) (ds : List Deferred) (H H' : AH) (ι : Inj) (w : World), runD C df H = some H' → HR ι ρ H w.heap → DRs P m ι ρ H w df ds → St ι0 H0 w0 ι H w →
      (∀ ι' w', Ext ι ι' → HR ι' ρ H' w'.heap → St ι0 H0 w0 ι' H' w' → ∃ v, (results fn tmps).run P w' = .ok v w' ∧ R v w') → Lv P fn tmps ds w R
  | [], ds, H, H', ι, w, h, hH, hd, hst, hR => by
    injection h with h; subst h
    cases hd
    intro fr cs hm hds
    obtain ⟨v, h1, h2⟩ := hR ι w (Ext.refl ι) hH hst
    refine ⟨v, w, h2, ?_, h1⟩
    have : ({ fr with defers := [] } : Frame) = fr := by cases fr; simp only [Frame.mk.injEq, true_and] at hds ⊢; simp_all
    rw [this]
    exact Steps.refl P _
  | .call f args :: l, ds, H, H', ι, w, h, hH, hd, hst, hR => by
    simp only [runD] at h
    split at h
    · rename_i v1 H1 hc
      cases hd with | call _ _ d _ ds hdr hrest =>
      obtain ⟨cap, xs, htar, hxs, hinv⟩ := hdr
      intro fr cs hm hds
      have h1 := step_defer (P := P) (fr := fr) (cs := cs) (w := w) (by rw [hm]; simp) hds htar (hinv w)
      obtain ⟨e, u', w1, frX, hR', hsteps, hkX, hgo⟩ := (hC f args H v1 H1 hc ι w xs hH hxs).2 { fr with defers := ds } cs hm
      obtain ⟨rfl, hR''⟩ := hR'
      cases e with
      | panicked c => exact hR''.elim
      | outgrown => exact hR''.elim
      | returned x =>
        obtain ⟨ι', g1, g2, g3⟩ := hR''
        have h2 := step_going_returned (P := P) (c := { { fr with defers := ds } with mode := .returning }) (cs := cs) hkX hgo
        have hfr : ({ { { fr with defers := ds } with mode := .returning } with mode := settle FrameMode.returning } : Frame) = { fr with defers := ds } := by
          cases fr; simp only [settle] at hm ⊢; simp_all
        have hfr2 : ({ { fr with defers := ds } with mode := .returning } : Frame).mode = .returning := rfl
        rw [hfr2, hfr] at h2
        have hlv := runD_ok (fn := fn) (tmps := tmps) (R := R) hC hw0 hn0 l ds H1 H' ι' w1 h g2 (hrest.step g3) (hst.trans g3) fun ι2 w2 he hH2 hS2 => hR ι2 w2 (g3.ext.trans he) hH2 hS2
        obtain ⟨v, w2, k1, k2, k3⟩ := hlv { fr with defers := ds } cs hm rfl
        exact ⟨v, w2, k1, .head h1 (Steps.trans hsteps (.head h2 k2)), k3⟩
    · cases h
  | .col :: l, ds, H, H', ι, w, h, hH, hd, hst, hR => by
    cases hd with | col D h0 hg hn =>
    simp only [runD] at h
    injection h with h; subst h
    intro fr cs hm hds
    have h1 := step_collected (P := P) (fr := fr) (cs := cs) (w := w) (by rw [hm]; simp) hds rfl (run_takeDeferred hg)
    simp only [List.nil_append] at h1
    have hH2 : HR ι ρ H (w.putObj D (.deferred none)).heap := hH.congr (fun c ho => World.putObj_heap_other fun e => hn (e ▸ ho)) (by rw [World.putObj_size]; exact Nat.le_refl _) fun c hc => World.putObj_heap_other (by omega)
    have hS2 : St ι0 H0 w0 ι H (w.putObj D (.deferred none)) := by
      refine ⟨hst.ext, hst.os, hst.tape, hst.output, by rw [World.putObj_size]; exact hst.size, fun c hc hn' => ?_, hst.own, hst.fresh, hst.nx, hst.old⟩
      rw [World.putObj_heap_other (by omega)]
      exact hst.keep c hc hn'
    obtain ⟨v, k1, k2⟩ := hR ι _ (Ext.refl ι) hH2 hS2
    exact ⟨v, _, k2, .one h1, k1⟩

theorem mapM_results {P : Program} {ι : Inj} {ρ : Rho} {H : AH} {w : World} {tm : Tr AV} {ts : Array Value} (hH : HR ι ρ H w.heap) (ht : TR ι ρ tm.get ts) :
    ∀ (l : List ResultVar) (vs : List AV), resA P tm H l = some vs → ∃ xs : List Value, (l.mapM (fun x : ResultVar => (match x with
      | .tmp t => pure (ts.getD t undef)
      | .cell a t => do loadVar t (← asAddr (ts.getD a undef)) : Sem Value))).run P w = .ok xs w ∧ VRs ι ρ vs xs
  | [], vs, h => by
    injection h with h; subst h
    exact ⟨[], rfl, .nil⟩
  | .tmp t :: l, vs, h => by
    simp only [resA] at h
    split at h
    · rename_i v us h1 h2
      injection h with h; subst h
      obtain ⟨xs, k1, k2⟩ := mapM_results hH ht l us h2
      obtain ⟨x, hx, hr⟩ := ht t v h1
      refine ⟨x :: xs, ?_, .cons _ _ _ _ hr k2⟩
      have hget : ts.getD t undef = x := by simp [hx]
      simp only [List.mapM_cons, Sem.run_bind, hget, Sem.run_pure, Result.andThen_ok, k1]
    · cases h
  | .cell a t :: l, vs, h => by
    simp only [resA] at h
    split at h
    · rename_i ax h0
      split at h
      · rename_i v us h1 h2
        injection h with h; subst h
        obtain ⟨xs, k1, k2⟩ := mapM_results hH ht l us h2
        obtain ⟨x, hx, hr⟩ := ht a ax h0
        obtain ⟨b, o, rfl⟩ := loadVarA_ptr h1
        obtain ⟨z, hz1, hz2⟩ := loadVarA_ok (P := P) hH hr h1
        cases hr with | ptr _ _ L hL =>
        refine ⟨z :: xs, ?_, .cons _ _ _ _ hz2 k2⟩
        have hget : ts.getD a undef = .pointer (some ⟨L.blk, L.base + o, none⟩) := by simp [hx]
        have hld : (loadVar t ⟨L.blk, L.base + o, none⟩).run P w = .ok z w := by
          simpa [Instr.loadAt, Instr.sureAddr] using hz1
        have hadr : (asAddr (ts.getD a undef)).run P w = .ok ⟨L.blk, L.base + o, none⟩ w := by rw [hget]; rfl
        simp only [List.mapM_cons, Sem.run_bind, hadr, Sem.run_pure, Result.andThen_ok, hld, k1]
      · cases h
    · cases h

theorem results_ok {P : Program} {ι : Inj} {ρ : Rho} {H : AH} {w : World} {tm : Tr AV} {ts : Array Value} {fn : Func} {vs : List AV} (hH : HR ι ρ H w.heap) (ht : TR ι ρ tm.get ts)
    (h : resA P tm H fn.results.toList = some vs) : ∃ x, (results fn ts).run P w = .ok x w ∧ VR ι ρ (oneA vs) x := by
  obtain ⟨xs, h1, h2⟩ := mapM_results hH ht fn.results.toList vs h
  have hlen := h2.length
  have hrun : (fn.results.mapM (fun x : ResultVar => (match x with
      | .tmp t => pure (ts.getD t undef)
      | .cell a t => do loadVar t (← asAddr (ts.getD a undef)) : Sem Value))).run P w = .ok xs.toArray w := by
    rw [Array.mapM_eq_mapM_toList, Sem.run_map, h1]
    rfl
  match vs, xs, h2 with
  | [v], [x], .cons _ _ _ _ hv _ =>
    refine ⟨x, ?_, hv⟩
    unfold results
    rw [Sem.run_bind]
    refine (congrArg (Result.andThen · _) hrun).trans ?_
    simp
  | [], [], _ =>
    refine ⟨.tuple #[], ?_, VR.tup [] [] .nil⟩
    unfold results
    rw [Sem.run_bind]
    refine (congrArg (Result.andThen · _) hrun).trans ?_
    simp
  | v1 :: v2 :: vs, x1 :: x2 :: xs, hh =>
    refine ⟨.tuple (x1 :: x2 :: xs).toArray, ?_, VR.tup _ _ hh⟩
    unfold results
    rw [Sem.run_bind]
    refine (congrArg (Result.andThen · _) hrun).trans ?_
    simp

end
end Go.Proofs.YtpcbmenjbcpieaaGreatDoor.AM

/- An abstract machine for the model's code, part Z: the theorem: what the machine says of a call is what the program does. -/
set_option linter.unusedVariables false
set_option linter.unusedSimpArgs false
namespace Go.Proofs.YtpcbmenjbcpieaaGreatDoor.AM
open Go
noncomputable section
variable {m : Nat}

theorem argsT_get : ∀ (vs : List AV) (i : Nat) (tm : Tr AV), i + vs.length ≤ 10000 → ∀ t, (argsT vs i tm).get t = if i ≤ t ∧ t < i + vs.length then vs[t - i]? else tm.get t
  | [], i, tm, h, t => by
    simp only [argsT, List.length_nil]
    rw [if_neg (by omega)]
  | v :: vs, i, tm, h, t => by
    simp only [List.length_cons] at h
    simp only [argsT, List.length_cons]
    rw [argsT_get vs (i + 1) _ (by omega), Tr.get_set 24 _ _ _ _ (by omega)]
    by_cases h1 : t = i
    · subst h1
      rw [if_neg (by omega), if_pos rfl, if_pos (by omega)]
      simp
    · by_cases h2 : i + 1 ≤ t ∧ t < i + 1 + vs.length
      · rw [if_pos h2, if_pos (by omega)]
        have : t - i = (t - (i + 1)) + 1 := by omega
        rw [this, List.getElem?_cons_succ]
      · rw [if_neg h2, if_neg h1, if_neg (by omega)]

theorem finishA_ok {P : Program} {C : Caller} {ρ : Rho} (hC : CallOk2 P ρ C) {fn : Func} {F : Fr} {v : AV} {H' : AH} (h : finishA P C fn F = some (v, H')) {ι0 ι : Inj} {H0 : AH} {w0 w : World} {a : Act} {n : Nat}
    (hF : FR P w0.heap.size ι ρ n F a w) (hst : St ι0 H0 w0 ι F.H w) (hn0 : ρ.n0 ≤ w0.heap.size) :
    Lv P fn a.tmps a.defers w fun x w' => ∃ ι', VR ι' ρ v x ∧ HR ι' ρ H' w'.heap ∧ St ι0 H0 w0 ι' H' w' := by
  unfold finishA at h
  split at h
  · rename_i H1 h1
    split at h
    · rename_i vs hvs
      simp only [Option.some.injEq, Prod.mk.injEq] at h
      obtain ⟨rfl, rfl⟩ := h
      refine runD_ok hC rfl hn0 F.df a.defers F.H H1 ι w h1 hF.hp hF.df hst fun ι' w' he hH hS => ?_
      obtain ⟨x, k1, k2⟩ := results_ok hH (hF.tm.mono he) hvs
      exact ⟨x, k1, ι', k2, hH, hS⟩
    · cases h
  · cases h

theorem bodyA_ok {P : Program} {E : Env} {C Cd : Caller} {ρ : Rho} (hm : P.follows .mixedOrders = true) (hE : E.ok ρ) (hC : CallOk P ρ C) (hCd : CallOk2 P ρ Cd) {fuel : Nat} {f : FuncId} {fn : Func} (hf : P.funcs[f]? = some fn)
    {args : List AV} {H H' : AH} {v : AV} (h : bodyA P E C Cd fuel fn args H = some (v, H')) {ι : Inj} {w : World} {xs : List Value} (hH : HR ι ρ H w.heap) (hx : VRs ι ρ args xs) :
    Calls P f xs.toArray w (RetOk ρ ι H w v H') ∧ CallsD P f xs.toArray .returning w fun e u' w' => u' = .returning ∧ RetOk ρ ι H w v H' e w' := by
  unfold bodyA at h
  split at h
  · rename_i c hb
    split at h
    · rename_i h1 h2
      have h1 := Nat.le_of_ble_eq_true h1
      have h2 := Nat.le_of_ble_eq_true h2
      have hlen := hx.length
      have hsz : (xs.toArray ++ Array.replicate (fn.ntmps - xs.toArray.size) undef).size = Nat.max args.length fn.ntmps := by
        simp only [Array.size_append, List.size_toArray, Array.size_replicate]
        have : Nat.max args.length fn.ntmps = max args.length fn.ntmps := rfl
        omega
      have hn : Nat.max args.length fn.ntmps ≤ 16000000 := by
        have : Nat.max args.length fn.ntmps = max args.length fn.ntmps := rfl
        omega
      have hF0 : FR P w.heap.size ι ρ (Nat.max args.length fn.ntmps) ⟨argsT args 0 .nil, [], H⟩ { tmps := xs.toArray ++ Array.replicate (fn.ntmps - xs.toArray.size) undef, defers := [] } w := by
        refine ⟨hsz, fun t u ht => ?_, .nil, hH⟩
        rw [argsT_get args 0 .nil (by omega)] at ht
        split at ht
        · rename_i hlt
          obtain ⟨x, hx1, hx2⟩ := hx.get t u (by simpa using ht)
          refine ⟨x, ?_, hx2⟩
          have : t < xs.length := by omega
          rw [Array.getElem?_append_left (by simpa using this)]
          simpa using hx1
        · rw [Tr.get_nil] at ht; cases ht
      have hcode : c.wp P (fun e a' w' => (e = .normal ∨ e = .ret) ∧ Lv P fn a'.tmps a'.defers w' fun x w'' => ∃ ι', VR ι' ρ v x ∧ HR ι' ρ H' w''.heap ∧ St ι H w ι' H' w'')
          { tmps := xs.toArray ++ Array.replicate (fn.ntmps - xs.toArray.size) undef, defers := [] } w := by
        split at h
        · rename_i F hcA
          exact codeA_ok hm hE hC hn c _ F .normal ι _ w _ hcA hF0 (Nat.le_refl _) fun ι' a' w' hF hS => ⟨.inl rfl, finishA_ok hCd h hF hS hH.base.sz⟩
        · rename_i F hcA
          exact codeA_ok hm hE hC hn c _ F .ret ι _ w _ hcA hF0 (Nat.le_refl _) fun ι' a' w' hF hS => ⟨.inr rfl, finishA_ok hCd h hF hS hH.base.sz⟩
        · cases h
      constructor
      · intro cs
        let b : Frame := { (default : Frame) with fn := f, kind := .normal }
        have henter : Frame.enter P f xs.toArray .normal = b.at { tmps := xs.toArray ++ Array.replicate (fn.ntmps - xs.toArray.size) undef, defers := [] } [.code c] := by
          simp [Frame.enter, Frame.at, hf, hb, b]
        obtain ⟨e, a', w', ⟨hq, hlv⟩, harr⟩ := hcode b [] cs
        rw [← henter] at harr
        have hto : ∃ todo, Steps P (lone (Frame.enter P f xs.toArray .normal) cs w) (lone { b.at a' todo with mode := .returning } cs w') := by
          rcases hq with rfl | rfl
          · exact ⟨[], Steps.trans harr (.one step_end)⟩
          · exact harr
        obtain ⟨todo, hs⟩ := hto
        obtain ⟨x, w'', hR, hs2, hres⟩ := hlv { b.at a' todo with mode := .returning } cs rfl rfl
        exact ⟨.returned x, w'', _, hR, Steps.trans hs hs2, rfl, rfl, rfl, rfl, fn, hf, hres⟩
      · intro c₀ cs hu
        let b : Frame := { (default : Frame) with fn := f, kind := .deferred }
        have henter : Frame.enter P f xs.toArray .deferred = b.at { tmps := xs.toArray ++ Array.replicate (fn.ntmps - xs.toArray.size) undef, defers := [] } [.code c] := by
          simp [Frame.enter, Frame.at, hf, hb, b]
        have hc : ({ c₀ with mode := .returning } : Frame) = c₀ := by cases c₀; simp_all
        obtain ⟨e, a', w', ⟨hq, hlv⟩, harr⟩ := hcode b [] (c₀ :: cs)
        rw [← henter] at harr
        have hto : ∃ todo, Steps P (lone (Frame.enter P f xs.toArray .deferred) (c₀ :: cs) w) (lone { b.at a' todo with mode := .returning } (c₀ :: cs) w') := by
          rcases hq with rfl | rfl
          · exact ⟨[], Steps.trans harr (.one step_end)⟩
          · exact harr
        obtain ⟨todo, hs⟩ := hto
        obtain ⟨x, w'', hR, hs2, hres⟩ := hlv { b.at a' todo with mode := .returning } (c₀ :: cs) rfl rfl
        refine ⟨.returned x, .returning, w'', { { b.at a' todo with mode := .returning } with defers := [] }, ⟨rfl, hR⟩, ?_, rfl, rfl, rfl, fn, hf, hres⟩
        rw [hc]
        exact Steps.trans hs hs2
    · cases h
  · cases h

/-- What the machine says of a call is what the program does. -/
theorem callA_ok {P : Program} {E : Env} {ρ : Rho} (hm : P.follows .mixedOrders = true) (hE : E.ok ρ) : ∀ k, CallOk2 P ρ (callA P E k)
  | 0 => fun f args H v H' h => by cases h
  | k + 1 => fun f args H v H' h ι w xs hH hx => by
    simp only [callA] at h
    split at h
    · rename_i fn hf
      exact bodyA_ok hm hE (callA_ok hm hE k).plain (callA_ok hm hE k) hf h hH hx
    · cases h

end
end Go.Proofs.YtpcbmenjbcpieaaGreatDoor.AM
