/- An abstract machine for the model's code: calls whose ends are known. Fourth part. -/
import Derived.Test.YtpcbmenjbcpieaaGreatDoorMaC
import Derived.Below
/- An abstract machine for the model's code: a table of calls whose ends are known; what one run from nothing says of a call anywhere. -/
set_option linter.unusedVariables false
set_option linter.unusedSimpArgs false
namespace Go.Proofs.YtpcbmenjbcpieaaGreatDoor.AM
open Go Go.RowKit
noncomputable section

/-- A call whose end is known: what it gives, and the blocks that it makes, numbered from nought. -/
structure Ent where
  f : Nat
  args : List AV
  v : AV
  blocks : List Blk

mutual
/-- A value with its blocks' numbers raised. -/
def AV.up (n : Nat) : AV → AV
  | .ptr b o => .ptr (n + b) o
  | .slice b o k c e => .slice (n + b) o k c e
  | .func f cs => .func f (AVs.up n cs)
  | .agg cs => .agg (AVs.up n cs)
  | .tup cs => .tup (AVs.up n cs)
  | .bool b => .bool b
  | .int k e => .int k e
  | .str s => .str s
  | .nilp => .nilp
  | .nils => .nils
  | .nilf => .nilf
  | .nili => .nili
  | .yld => .yld
  | .opq => .opq
  | .text p => .text p
def AVs.up (n : Nat) : List AV → List AV
  | [] => []
  | v :: vs => v.up n :: AVs.up n vs
end

mutual
theorem VR.up {ι ι' : Inj} {ρ : Rho} {n : Nat} (h : ∀ b L, ι b = some L → ι' (n + b) = some L) : ∀ {v : AV} {x : Value}, VR ι ρ v x → VR ι' ρ (v.up n) x
  | _, _, .bool b => .bool b
  | _, _, .int k e => .int k e
  | _, _, .str l s hs => .str l s hs
  | _, _, .nilp => .nilp
  | _, _, .ptr b o L hL => .ptr (n + b) o L (h b L hL)
  | _, _, .nils => .nils
  | _, _, .slice b o k cap es L c hL h1 h2 h3 h4 => .slice (n + b) o k cap es L c (h b L hL) h1 h2 h3 h4
  | _, _, .func f cs vs hv => .func f _ vs (VRs.up h hv)
  | _, _, .nilf => .nilf
  | _, _, .nili => .nili
  | _, _, .agg cs vs hv => .agg _ vs (VRs.up h hv)
  | _, _, .tup cs vs hv => .tup _ vs (VRs.up h hv)
  | _, _, .yld l => .yld l
  | _, _, .opq => .opq
  | _, _, .text ps s hs => .text ps s hs
theorem VRs.up {ι ι' : Inj} {ρ : Rho} {n : Nat} (h : ∀ b L, ι b = some L → ι' (n + b) = some L) : ∀ {vs : List AV} {xs : List Value}, VRs ι ρ vs xs → VRs ι' ρ (AVs.up n vs) xs
  | _, _, .nil => .nil
  | _, _, .cons v x vs xs hv ht => .cons _ x _ xs (VR.up h hv) (VRs.up h ht)
end

theorem AVs.up_eq (n : Nat) : ∀ (l : List AV), AVs.up n l = l.map (AV.up n)
  | [] => rfl
  | v :: vs => by simp only [AVs.up, List.map_cons, AVs.up_eq n vs]

mutual
/-- No block in it. -/
def AV.flat : AV → Bool
  | .ptr _ _ => false
  | .slice _ _ _ _ _ => false
  | .func _ cs => AVs.flat cs
  | .agg cs => AVs.flat cs
  | .tup cs => AVs.flat cs
  | _ => true
def AVs.flat : List AV → Bool
  | [] => true
  | v :: vs => v.flat && AVs.flat vs
end

mutual
theorem VR.flat {ι ι' : Inj} {ρ : Rho} : ∀ {v : AV} {x : Value}, VR ι ρ v x → v.flat = true → VR ι' ρ v x
  | _, _, .bool b, _ => .bool b
  | _, _, .int k e, _ => .int k e
  | _, _, .str l s hs, _ => .str l s hs
  | _, _, .nilp, _ => .nilp
  | _, _, .ptr b o L hL, hf => by simp [AV.flat] at hf
  | _, _, .nils, _ => .nils
  | _, _, .slice b o k cap es L c hL h1 h2 h3 h4, hf => by simp [AV.flat] at hf
  | _, _, .func f cs vs hv, hf => .func f _ vs (VRs.flat hv (by simpa [AV.flat] using hf))
  | _, _, .nilf, _ => .nilf
  | _, _, .nili, _ => .nili
  | _, _, .agg cs vs hv, hf => .agg _ vs (VRs.flat hv (by simpa [AV.flat] using hf))
  | _, _, .tup cs vs hv, hf => .tup _ vs (VRs.flat hv (by simpa [AV.flat] using hf))
  | _, _, .yld l, _ => .yld l
  | _, _, .opq, _ => .opq
  | _, _, .text ps s hs, _ => .text ps s hs
theorem VRs.flat {ι ι' : Inj} {ρ : Rho} : ∀ {vs : List AV} {xs : List Value}, VRs ι ρ vs xs → AVs.flat vs = true → VRs ι' ρ vs xs
  | _, _, .nil, _ => .nil
  | _, _, .cons v x vs xs hv ht, hf => by
    simp only [AVs.flat, Bool.and_eq_true] at hf
    exact .cons _ x _ xs (VR.flat hv hf.1) (VRs.flat ht hf.2)
end

/-! ### New blocks behind the old ones -/
def upB (n : Nat) (k : Blk) : Blk := ⟨AVs.up n k.cells, k.room, k.ty, k.ro⟩

def graftA (n : Nat) : List Blk → AH → Option AH
  | [], H => some H
  | k :: ks, H => match H.new (upB n k) with
    | some H' => graftA n ks H'
    | none => none

theorem graftA_spec {n : Nat} : ∀ {ks : List Blk} {H H' : AH}, graftA n ks H = some H' → H.next ≤ 16000000 → H'.next = H.next + ks.length ∧ H'.next ≤ 16000000 ∧
    ∀ m, H'.get m = if H.next ≤ m ∧ m < H.next + ks.length then (ks[m - H.next]?).map (upB n) else H.get m
  | [], H, H', h, hb => by
    injection h with h; subst h
    refine ⟨rfl, hb, fun m => ?_⟩
    rw [if_neg (by simp)]
  | k :: ks, H, H', h, hb => by
    simp only [graftA] at h
    split at h
    · rename_i H1 hn
      obtain ⟨h1, h2, h3⟩ := AH.new_spec hn
      obtain ⟨g1, g2, g3⟩ := graftA_spec h (by omega)
      refine ⟨by rw [g1, h2, List.length_cons]; omega, g2, fun m => ?_⟩
      rw [g3 m, h2]
      by_cases e : m = H.next
      · subst e
        rw [if_neg (by omega), if_pos (by simp), h3, if_pos rfl]
        simp
      · by_cases e2 : H.next + 1 ≤ m ∧ m < H.next + 1 + ks.length
        · rw [if_pos e2, if_pos (by simp; omega)]
          have : m - H.next = (m - (H.next + 1)) + 1 := by omega
          rw [this, List.getElem?_cons_succ]
        · rw [if_neg e2, if_neg (by simp; omega), h3, if_neg e]
    · cases h

/-- What a known end says of a call. -/
def EntRet (ρ : Rho) (w : World) (e : Ent) : Ending → World → Prop
  | .returned x, w' => ∃ ι1 : Inj, (∀ b L, ι1 b = some L → b < e.blocks.length) ∧ VR ι1 ρ e.v x ∧
      (∀ i k, e.blocks[i]? = some k → ∃ L, ι1 i = some L ∧ BR ι1 ρ k L w'.heap ∧ w.heap.size ≤ L.blk) ∧
      (∀ i j L L', ι1 i = some L → ι1 j = some L' → i ≠ j → L.blk ≠ L'.blk) ∧ Below w.heap.size w w'
  | _, _ => False

def EntOk (P : Program) (ρ : Rho) (e : Ent) : Prop :=
  AVs.flat e.args = true ∧ ∀ (w : World) (xs : List Value), Base ρ w.heap → VRs (fun _ => none) ρ e.args xs → Calls P e.f xs.toArray w (EntRet ρ w e)

theorem graft_ok {ρ : Rho} {w : World} {e : Ent} {x : Value} {w' : World} (h : EntRet ρ w e (.returned x) w') {ι : Inj} {H H' : AH} (hH : HR ι ρ H w.heap) (hg : graftA H.next e.blocks H = some H') :
    ∃ ι', VR ι' ρ (e.v.up H.next) x ∧ HR ι' ρ H' w'.heap ∧ St ι H w ι' H' w' := by
  obtain ⟨ι1, d1, d2, d3, d4, d5⟩ := h
  obtain ⟨g1, g2, g3⟩ := graftA_spec hg (by have := hH.small; omega)
  let ι' : Inj := fun b => if b < H.next then ι b else ι1 (b - H.next)
  have hext : Ext ι ι' := fun b L hb => by
    have := hH.dom b L hb
    show (if b < H.next then ι b else ι1 (b - H.next)) = some L
    rw [if_pos this]; exact hb
  have hnew : ∀ b L, ι1 b = some L → ι' (H.next + b) = some L := fun b L hb => by
    show (if H.next + b < H.next then ι (H.next + b) else ι1 (H.next + b - H.next)) = some L
    rw [if_neg (by omega), show H.next + b - H.next = b by omega]; exact hb
  have hold : ∀ c, c < w.heap.size → w'.heap[c]? = w.heap[c]? := d5.block
  have hget : ∀ b k, H'.get b = some k → (b < H.next ∧ H.get b = some k ∧ ∃ L, ι b = some L ∧ ι' b = some L ∧ L.blk < w.heap.size ∧ BR ι' ρ k L w'.heap) ∨
      (∃ i, b = H.next + i ∧ ∃ L, ι1 i = some L ∧ ι' b = some L ∧ w.heap.size ≤ L.blk ∧ BR ι' ρ k L w'.heap) := fun b k hb => by
    rw [g3] at hb
    split at hb
    · rename_i hlt
      obtain ⟨k0, hk0, rfl⟩ := Option.map_eq_some_iff.1 hb
      obtain ⟨L, hL, hB, hsz⟩ := d3 _ k0 hk0
      refine .inr ⟨b - H.next, by omega, L, hL, ?_, hsz, ?_⟩
      · have := hnew _ L hL
        rwa [show H.next + (b - H.next) = b by omega] at this
      · obtain ⟨cs, fz, q1, q2, q3, q4, q5, q6⟩ := hB
        refine ⟨cs, fz, q1, q2, q3, ?_, q5, fun i v hv => ?_⟩
        · simp only [upB, AVs.up_eq, List.length_map]; exact q4
        · simp only [upB, AVs.up_eq, List.getElem?_map, Option.map_eq_some_iff] at hv
          obtain ⟨v0, hv0, rfl⟩ := hv
          obtain ⟨y, hy, hr⟩ := q6 i v0 hv0
          exact ⟨y, hy, hr.up hnew⟩
    · have hlt := hH.lt b k hb
      obtain ⟨L, hL, hB⟩ := hH.live b k hb
      exact .inl ⟨hlt, hb, L, hL, hext _ _ hL, hB.lt, hB.mono hext (hold _ hB.lt)⟩
  refine ⟨ι', d2.up hnew, ⟨fun b k hb => ?_, fun b b' k k' L L' hb hb' hL hL' hne => ?_, fun b k hb => ?_, fun b L hL => ?_, by omega, fun b L hL => ?_, ⟨Nat.le_trans hH.base.sz d5.size, fun c hc => (hold c (Nat.lt_of_lt_of_le hc hH.base.sz)).trans (hH.base.same c hc)⟩⟩, ?_⟩
  · rcases hget b k hb with ⟨_, _, L, _, h2, _, h4⟩ | ⟨i, _, L, _, h2, _, h4⟩
    · exact ⟨L, h2, h4⟩
    · exact ⟨L, h2, h4⟩
  · rcases hget b k hb with ⟨a1, a2, M, a3, a4, a5, _⟩ | ⟨i, a1, M, a3, a4, a5, _⟩ <;> rcases hget b' k' hb' with ⟨c1, c2, M', c3, c4, c5, _⟩ | ⟨j, c1, M', c3, c4, c5, _⟩ <;>
      (rw [a4] at hL; injection hL with hL; subst hL; rw [c4] at hL'; injection hL' with hL'; subst hL')
    · exact hH.inj b b' k k' M M' a2 c2 a3 c3 hne
    · omega
    · omega
    · exact d4 i j M M' a3 c3 (by omega)
  · rcases hget b k hb with ⟨a1, _⟩ | ⟨i, a1, L, a3, _⟩
    · omega
    · have := d1 i L a3; omega
  · have hL' : (if b < H.next then ι b else ι1 (b - H.next)) = some L := hL
    split at hL'
    · omega
    · have := d1 _ L hL'; omega
  · have hL' : (if b < H.next then ι b else ι1 (b - H.next)) = some L := hL
    split at hL'
    · exact hH.lo b L hL'
    · have hlt := d1 _ L hL'
      obtain ⟨L2, hL2, _, hsz⟩ := d3 _ _ (List.getElem?_eq_getElem hlt)
      rw [hL'] at hL2; injection hL2 with hL2; subst hL2
      exact Nat.le_trans hH.base.sz hsz
  · refine ⟨hext, d5.os, d5.tape, d5.output, d5.size, fun c hc _ => hold c hc, ?_, fun b L hL => ?_, by omega, fun b k hb hlt => ?_⟩
    · rintro c ⟨b, k, L, hb, hL, rfl⟩
      rcases hget b k hb with ⟨a1, a2, M, a3, a4, a5, _⟩ | ⟨i, a1, M, a3, a4, a5, _⟩
      · rw [a4] at hL; injection hL with hL; subst hL
        exact .inl ⟨b, k, M, a2, a3, rfl⟩
      · rw [a4] at hL; injection hL with hL; subst hL
        exact .inr a5
    · have hL' : (if b < H.next then ι b else ι1 (b - H.next)) = some L := hL
      split at hL'
      · exact .inl hL'
      · exact .inr (by omega)
    · rcases hget b k hb with ⟨a1, a2, _⟩ | ⟨i, a1, _⟩
      · exact ⟨k, a2⟩
      · omega

/-! ### Calls with a table -/
def lookE : List Ent → Nat → List AV → Option Ent
  | [], _, _ => none
  | e :: es, f, args => match Nat.beq e.f f with
    | true => match AVs.eqb e.args args with
      | true => some e
      | false => lookE es f args
    | false => lookE es f args

theorem lookE_ok {f : Nat} {args : List AV} {e : Ent} : ∀ {tab : List Ent}, lookE tab f args = some e → e ∈ tab ∧ e.f = f ∧ e.args = args
  | [], h => by cases h
  | d :: ds, h => by
    simp only [lookE] at h
    split at h
    · rename_i hf
      split at h
      · rename_i ha
        injection h with h; subst h
        exact ⟨List.mem_cons_self .., Nat.eq_of_beq_eq_true hf, AVs.eqb_eq ha⟩
      · obtain ⟨h1, h2⟩ := lookE_ok h; exact ⟨List.mem_cons_of_mem _ h1, h2⟩
    · obtain ⟨h1, h2⟩ := lookE_ok h; exact ⟨List.mem_cons_of_mem _ h1, h2⟩

def look (tab : List Ent) (C : Caller) : Caller := fun f args H =>
  match lookE tab f args with
  | some e => match graftA H.next e.blocks H with
    | some H' => some (e.v.up H.next, H')
    | none => none
  | none => C f args H

def callN (tab : List Ent) (P : Program) (E : Env) : Nat → Caller
  | 0 => fun _ _ _ => none
  | k + 1 => fun f args H => match P.funcs[f]? with
    | some fn => bodyA P E (look tab (callN tab P E k)) (callN tab P E k) k fn args H
    | none => none

theorem look_ok {P : Program} {ρ : Rho} {tab : List Ent} {C : Caller} (ht : ∀ e ∈ tab, EntOk P ρ e) (hC : CallOk P ρ C) : CallOk P ρ (look tab C) := by
  intro f args H v H' h ι w xs hH hx
  unfold look at h
  split at h
  · rename_i e he
    obtain ⟨h1, rfl, rfl⟩ := lookE_ok he
    split at h
    · rename_i H1 hg
      simp only [Option.some.injEq, Prod.mk.injEq] at h
      obtain ⟨rfl, rfl⟩ := h
      obtain ⟨f1, f2⟩ := ht e h1
      refine Calls.mono (f2 w xs hH.base (VRs.flat hx f1)) fun en w' hen => ?_
      cases en with
      | returned x => exact graft_ok hen hH hg
      | panicked c => exact hen
      | outgrown => exact hen
    · cases h
  · exact hC f args H v H' h ι w xs hH hx

theorem callN_ok {P : Program} {E : Env} {ρ : Rho} {tab : List Ent} (hm : P.follows .mixedOrders = true) (hE : E.ok ρ) (ht : ∀ e ∈ tab, EntOk P ρ e) : ∀ k, CallOk2 P ρ (callN tab P E k)
  | 0 => fun f args H v H' h => by cases h
  | k + 1 => fun f args H v H' h ι w xs hH hx => by
    simp only [callN] at h
    split at h
    · rename_i fn hf
      exact bodyA_ok hm hE (look_ok ht (callN_ok hm hE ht k).plain) (callN_ok hm hE ht k) hf h hH hx
    · cases h

end
end Go.Proofs.YtpcbmenjbcpieaaGreatDoor.AM

/- An abstract machine for the model's code: from one run out of nothing to a call whose end is known. -/
set_option linter.unusedVariables false
set_option linter.unusedSimpArgs false
namespace Go.Proofs.YtpcbmenjbcpieaaGreatDoor.AM
open Go Go.RowKit
noncomputable section

/-- Is a number told by another, or by one that is known to be the same? -/
def siSub (th : List (SI × SI)) (c a : SI) : Bool :=
  match c.eqb a with
  | true => true
  | false => th.any fun p => p.1.eqb c && p.2.eqb a

def siSubs (th : List (SI × SI)) : List SI → List SI → Bool
  | [], [] => true
  | c :: cs, a :: as => siSub th c a && siSubs th cs as
  | _, _ => false

theorem siSub_ok {th : List (SI × SI)} {ρ : Rho} (ht : ∀ p ∈ th, p.1.ev ρ = p.2.ev ρ) {c a : SI} (h : siSub th c a = true) : c.ev ρ = a.ev ρ := by
  unfold siSub at h
  split at h
  · rename_i h1; rw [SI.eqb_eq h1]
  · obtain ⟨p, hp, hq⟩ := List.any_eq_true.1 h
    simp only [Bool.and_eq_true] at hq
    have h1 := SI.eqb_eq hq.1
    have h2 := SI.eqb_eq hq.2
    rw [← h1, ← h2]
    exact ht p hp

theorem siSubs_ok {th : List (SI × SI)} {ρ : Rho} (ht : ∀ p ∈ th, p.1.ev ρ = p.2.ev ρ) : ∀ {cs as : List SI}, siSubs th cs as = true → cs.map (SI.ev ρ) = as.map (SI.ev ρ)
  | [], [], _ => rfl
  | [], _ :: _, h => by cases h
  | _ :: _, [], h => by cases h
  | c :: cs, a :: as, h => by
    simp only [siSubs, Bool.and_eq_true] at h
    simp only [List.map_cons, siSub_ok ht h.1, siSubs_ok ht h.2]

mutual
/-- Is a value (the first) told by another, whose blocks bear other numbers? -/
def AV.sub (th : List (SI × SI)) (keep : List Nat) : AV → AV → Bool
  | .bool a, .bool b => a == b
  | .int k a, .int l b => decide (k = l) && siSub th a b
  | .str a, .str b => siSubs th a b
  | .nilp, .nilp => true
  | .ptr i o, .ptr b p => oeqb keep[i]? (some b) && Nat.beq o p
  | .nils, .nils => true
  | .slice i o n c e, .slice b o' n' c' e' => oeqb keep[i]? (some b) && (Nat.beq o o' && (Nat.beq n n' && (oeqb c c' && Nat.beq e e')))
  | .func f cs, .func g ds => Nat.beq f g && AVs.sub th keep cs ds
  | .nilf, .nilf => true
  | .nili, .nili => true
  | .agg cs, .agg ds => AVs.sub th keep cs ds
  | .tup cs, .tup ds => AVs.sub th keep cs ds
  | _, _ => false
def AVs.sub (th : List (SI × SI)) (keep : List Nat) : List AV → List AV → Bool
  | [], [] => true
  | c :: cs, a :: as => c.sub th keep a && AVs.sub th keep cs as
  | _, _ => false
end

/-- The numbers of the blocks, the first ones told by the others. -/
def viaI (keep : List Nat) (ι : Inj) : Inj := fun i => match keep[i]? with
  | some b => ι b
  | none => none

theorem viaI_of {keep : List Nat} {ι : Inj} {i b : Nat} {L : Loc} (h : oeqb keep[i]? (some b) = true) (hb : ι b = some L) : viaI keep ι i = some L := by
  have := oeqb_eq h
  simp only [viaI, this, hb]

mutual
theorem AV.sub_ok {th : List (SI × SI)} {keep : List Nat} {ι : Inj} {ρ : Rho} (ht : ∀ p ∈ th, p.1.ev ρ = p.2.ev ρ) : ∀ {a : AV} {x : Value} {c : AV}, VR ι ρ a x → c.sub th keep a = true → VR (viaI keep ι) ρ c x
  | _, _, c, .bool b, h => by cases c <;> simp [AV.sub] at h; subst h; exact .bool _
  | _, _, c, .int k e, h => by cases c <;> simp [AV.sub] at h; obtain ⟨rfl, h2⟩ := h; rw [← siSub_ok ht h2]; exact .int _ _
  | _, _, c, .str l s hs, h => by
    cases c <;> simp [AV.sub] at h
    refine .str _ s ?_
    unfold strRel at hs ⊢
    rw [hs, siSubs_ok ht h]
  | _, _, c, .nilp, h => by cases c <;> simp [AV.sub] at h; exact .nilp
  | _, _, c, .ptr b o L hL, h => by
    cases c <;> simp [AV.sub] at h
    obtain ⟨h1, rfl⟩ := h
    exact .ptr _ _ L (viaI_of h1 hL)
  | _, _, c, .nils, h => by cases c <;> simp [AV.sub] at h; exact .nils
  | _, _, c, .slice b o n cap es L k hL h1 h2 h3 h4, h => by
    cases c <;> simp [AV.sub] at h
    obtain ⟨g1, rfl, rfl, g4, rfl⟩ := h
    have := oeqb_eq g4
    subst this
    exact .slice _ _ _ _ _ L k (viaI_of g1 hL) h1 h2 h3 h4
  | _, _, c, .func f cs vs hv, h => by
    cases c <;> simp [AV.sub] at h
    obtain ⟨rfl, h2⟩ := h
    exact .func _ _ vs (AVs.sub_ok ht hv h2)
  | _, _, c, .nilf, h => by cases c <;> simp [AV.sub] at h; exact .nilf
  | _, _, c, .nili, h => by cases c <;> simp [AV.sub] at h; exact .nili
  | _, _, c, .agg cs vs hv, h => by cases c <;> simp [AV.sub] at h; exact .agg _ vs (AVs.sub_ok ht hv h)
  | _, _, c, .tup cs vs hv, h => by cases c <;> simp [AV.sub] at h; exact .tup _ vs (AVs.sub_ok ht hv h)
  | _, _, c, .yld l, h => by cases c <;> simp [AV.sub] at h
  | _, _, c, .opq, h => by cases c <;> simp [AV.sub] at h
  | _, _, c, .text _ _ _, h => by cases c <;> simp [AV.sub] at h
theorem AVs.sub_ok {th : List (SI × SI)} {keep : List Nat} {ι : Inj} {ρ : Rho} (ht : ∀ p ∈ th, p.1.ev ρ = p.2.ev ρ) : ∀ {as : List AV} {xs : List Value} {cs : List AV}, VRs ι ρ as xs → AVs.sub th keep cs as = true → VRs (viaI keep ι) ρ cs xs
  | _, _, cs, .nil, h => by cases cs <;> simp [AVs.sub] at h; exact .nil
  | _, _, cs, .cons v x vs xs hv hvs, h => by
    cases cs with
    | nil => simp [AVs.sub] at h
    | cons c cs =>
      simp only [AVs.sub, Bool.and_eq_true] at h
      exact .cons c x cs xs (AV.sub_ok ht hv h.1) (AVs.sub_ok ht hvs h.2)
end

/-- Cells told by the first of others. -/
def subCells (th : List (SI × SI)) (keep : List Nat) : List AV → List AV → Bool
  | [], _ => true
  | c :: cs, a :: as => c.sub th keep a && subCells th keep cs as
  | _, _ => false

theorem subCells_ok {th : List (SI × SI)} {keep : List Nat} : ∀ {cs as : List AV}, subCells th keep cs as = true → cs.length ≤ as.length ∧ ∀ (i : Nat) c, cs[i]? = some c → ∃ a, as[i]? = some a ∧ c.sub th keep a = true
  | [], as, _ => ⟨by simp, fun i c h => by simp at h⟩
  | c :: cs, [], h => by cases h
  | c :: cs, a :: as, h => by
    simp only [subCells, Bool.and_eq_true] at h
    obtain ⟨h1, h2⟩ := subCells_ok h.2
    refine ⟨by simp; omega, fun i d hd => ?_⟩
    cases i with
    | zero => simp at hd; subst hd; exact ⟨a, by simp, h.1⟩
    | succ i => simpa using h2 i d (by simpa using hd)

def subBlks (th : List (SI × SI)) (keep : List Nat) (H : AH) : List Blk → List Nat → Bool
  | [], [] => true
  | k :: ks, b :: bs => match H.get b with
    | some q => Nat.beq k.ty q.ty && ((match k.room with | none => true | some r => oeqb q.room (some r)) && ((k.ro || !q.ro) && (subCells th keep k.cells q.cells && subBlks th keep H ks bs)))
    | none => false
  | _, _ => false

theorem subBlks_ok {th : List (SI × SI)} {keep : List Nat} {H : AH} : ∀ {ks : List Blk} {bs : List Nat}, subBlks th keep H ks bs = true → ks.length = bs.length ∧
    ∀ (i : Nat) k, ks[i]? = some k → ∃ b q, bs[i]? = some b ∧ H.get b = some q ∧ k.ty = q.ty ∧ (∀ r, k.room = some r → q.room = some r) ∧ (k.ro = false → q.ro = false) ∧ subCells th keep k.cells q.cells = true
  | [], [], _ => ⟨rfl, fun i k h => by simp at h⟩
  | [], _ :: _, h => by cases h
  | _ :: _, [], h => by cases h
  | k :: ks, b :: bs, h => by
    simp only [subBlks] at h
    split at h
    · rename_i q hq
      simp only [Bool.and_eq_true] at h
      obtain ⟨h1, h2, h3, h4, h5⟩ := h
      obtain ⟨g1, g2⟩ := subBlks_ok h5
      refine ⟨by simp [g1], fun i d hd => ?_⟩
      cases i with
      | zero =>
        simp at hd; subst hd
        refine ⟨b, q, by simp, hq, Nat.eq_of_beq_eq_true h1, fun r hr => ?_, fun hr => ?_, h4⟩
        · rw [hr] at h2
          exact oeqb_eq h2
        · rw [hr] at h3; simpa using h3
      | succ i => simpa using g2 i d (by simpa using hd)
    · cases h

def noDup : List Nat → Bool
  | [] => true
  | b :: bs => !memb b bs && noDup bs

theorem noDup_ok : ∀ {l : List Nat}, noDup l = true → ∀ (i j : Nat) b, l[i]? = some b → l[j]? = some b → i = j
  | [], _, i, j, b, h, _ => by simp at h
  | c :: l, h, i, j, b, hi, hj => by
    simp only [noDup, Bool.and_eq_true, Bool.not_eq_true'] at h
    have hno : c ∉ l := fun hm => by rw [memb_iff.2 hm] at h; exact absurd h.1 (by simp)
    cases i with
    | zero =>
      cases j with
      | zero => rfl
      | succ j =>
        simp at hi hj
        subst hi
        exact absurd (List.mem_of_getElem? hj) hno
    | succ i =>
      cases j with
      | zero =>
        simp at hi hj
        subst hj
        exact absurd (List.mem_of_getElem? hi) hno
      | succ j =>
        have := noDup_ok h.2 i j b (by simpa using hi) (by simpa using hj)
        omega

/-- The empty heap. -/
def H00 : AH := ⟨0, .nil⟩

theorem HR.empty (ρ : Rho) (hp : Array Obj) (h0 : Base ρ hp) : HR (fun _ => none) ρ H00 hp := by
  have hg : ∀ b, H00.get b = none := fun b => rfl
  refine ⟨fun b k hb => ?_, fun b b' k k' L L' hb => ?_, fun b k hb => ?_, fun b L hL => ?_, by decide, fun b L hL => ?_, h0⟩
  · rw [hg] at hb; cases hb
  · rw [hg] at hb; cases hb
  · rw [hg] at hb; cases hb
  · cases hL
  · cases hL

def chkE (tab : List Ent) (P : Program) (E : Env) (fuel : Nat) (e : Ent) (args : List AV) (kf : AV → AH → List Nat) (th : List (SI × SI)) : Bool :=
  match callN tab P E fuel e.f args H00 with
  | some (v, H) => e.v.sub th (kf v H) v && (subBlks th (kf v H) H e.blocks (kf v H) && noDup (kf v H))
  | none => false

theorem EntOk.of_run {P : Program} {E : Env} {ρ : Rho} {tab : List Ent} (hm : P.follows .mixedOrders = true) (hE : E.ok ρ) (ht : ∀ e ∈ tab, EntOk P ρ e) {e : Ent} {args : List AV} {kf : AV → AH → List Nat} {th : List (SI × SI)} {fuel : Nat}
    (hflat : AVs.flat e.args = true) (hargs : ∀ xs, VRs (fun _ => none) ρ e.args xs → VRs (fun _ => none) ρ args xs) (hth : ∀ p ∈ th, p.1.ev ρ = p.2.ev ρ) (hc : chkE tab P E fuel e args kf th = true) : EntOk P ρ e := by
  refine ⟨hflat, fun w xs hbase hx => ?_⟩
  unfold chkE at hc
  split at hc
  · rename_i v H hcall
    generalize kf v H = keep at hc
    simp only [Bool.and_eq_true] at hc
    obtain ⟨c1, c2, c3⟩ := hc
    obtain ⟨b1, b2⟩ := subBlks_ok c2
    have hnd := noDup_ok c3
    refine Calls.mono (callN_ok hm hE ht fuel e.f args H00 v H hcall (fun _ => none) w xs (HR.empty ρ _ hbase) (hargs xs hx)).1 fun en w' hen => ?_
    cases en with
    | panicked c => exact hen
    | outgrown => exact hen
    | returned x =>
      obtain ⟨ι', g1, g2, g3⟩ := hen
      have hown : ∀ c, ¬ Own (fun _ => none) H00 c := fun c ⟨b, k, L, hb, hL, _⟩ => by cases hL
      have hnew : ∀ c, Own ι' H c → w.heap.size ≤ c := fun c hc => (g3.own c hc).elim (fun h => absurd h (hown c)) id
      refine ⟨viaI keep ι', fun i L hL => ?_, AV.sub_ok hth g1 c1, fun i k hk => ?_, fun i j L L' hL hL' hij => ?_, ⟨g3.os, g3.tape, g3.output, g3.size, fun c hc => g3.keep c hc (hown c)⟩⟩
      · rw [b1]
        unfold viaI at hL
        split at hL
        · rename_i b hb; exact (List.getElem?_eq_some_iff.1 hb).1
        · cases hL
      · obtain ⟨b, q, q1, q2, q3, q4, q5, q6⟩ := b2 i k hk
        obtain ⟨L, hL, cs, fz, r1, r2, r3, r4, r5, r6⟩ := g2.live b q q2
        obtain ⟨s1, s2⟩ := subCells_ok q6
        refine ⟨L, by simp only [viaI, q1, hL], ⟨cs, fz, by rw [q3]; exact r1, fun hr => r2 (q5 hr), r3, by omega, fun r hr => r5 r (q4 r hr), fun j c hj => ?_⟩, hnew _ ⟨b, q, L, q2, hL, rfl⟩⟩
        obtain ⟨a, ha, hs⟩ := s2 j c hj
        obtain ⟨y, hy, hr⟩ := r6 j a ha
        exact ⟨y, hy, AV.sub_ok hth hr hs⟩
      · unfold viaI at hL hL'
        split at hL
        · rename_i b hb
          split at hL'
          · rename_i b' hb'
            have hbb : b ≠ b' := fun e => hij (hnd i j b hb (by rw [e]; exact hb'))
            have hi : i < e.blocks.length := by rw [b1]; exact (List.getElem?_eq_some_iff.1 hb).1
            have hj : j < e.blocks.length := by rw [b1]; exact (List.getElem?_eq_some_iff.1 hb').1
            obtain ⟨d, q, q1, q2, _⟩ := b2 i _ (List.getElem?_eq_getElem hi)
            obtain ⟨d', q', q1', q2', _⟩ := b2 j _ (List.getElem?_eq_getElem hj)
            rw [hb] at q1; injection q1 with q1; subst q1
            rw [hb'] at q1'; injection q1' with q1'; subst q1'
            exact g2.inj b b' q q' L L' q2 q2' hL hL' hbb
          · cases hL'
        · cases hL
  · cases hc

end
end Go.Proofs.YtpcbmenjbcpieaaGreatDoor.AM
