/- An abstract machine for the model's code: numbers that may be unknown, values, a heap; the operations. First part. -/
import Derived.Defers
import Derived.Orders
import Derived.Tactics
import Derived.Laws.CopyRow
import Derived.ChangeKeysEq
import Derived.Laws.Strings
import Derived.IntWalk
/- An abstract machine for the model's code, part A: whole numbers that may be unknown, abstract values, an abstract heap, and what it means that a world of the model is as they say. -/
set_option linter.unusedVariables false
set_option linter.unusedSimpArgs false
namespace Go.Proofs.YtpcbmenjbcpieaaGreatDoor.AM
open Go
noncomputable section

/-- A whole number that may hang on unknown ones. -/
inductive SI where
  | lit (n : Int)
  | var (i : Nat)
  | add (a b : SI)
  | sub (a b : SI)
  | mul (a b : SI)
  | mod (a b : SI)

def SI.ev (ρ : Nat → Int) : SI → Int
  | .lit n => n
  | .var i => ρ i
  | .add a b => a.ev ρ + b.ev ρ
  | .sub a b => a.ev ρ - b.ev ρ
  | .mul a b => a.ev ρ * b.ev ρ
  | .mod a b => (a.ev ρ).tmod (b.ev ρ)

def ieqb : Int → Int → Bool
  | .ofNat a, .ofNat b => Nat.beq a b
  | .negSucc a, .negSucc b => Nat.beq a b
  | _, _ => false

theorem ieqb_iff (a b : Int) : ieqb a b = true ↔ a = b := by
  cases a <;> cases b <;> simp [ieqb]
  all_goals omega

/-- a < b, reckoned on naturals. -/
def iltb : Int → Int → Bool
  | .ofNat a, .ofNat b => Nat.blt a b
  | .negSucc a, .negSucc b => Nat.blt b a
  | .negSucc _, .ofNat _ => true
  | .ofNat _, .negSucc _ => false

theorem iltb_iff (a b : Int) : iltb a b = true ↔ a < b := by
  cases a <;> cases b <;> simp [iltb] <;> omega

def ileb (a b : Int) : Bool := !iltb b a
theorem ileb_iff (a b : Int) : ileb a b = true ↔ a ≤ b := by
  unfold ileb
  have := iltb_iff b a
  cases h : iltb b a
  · simp [h] at this; simp; omega
  · simp [h] at this; simp; omega

def SI.eqb : SI → SI → Bool
  | .lit m, .lit n => ieqb m n
  | .var i, .var j => Nat.beq i j
  | .add a b, .add c d => a.eqb c && b.eqb d
  | .sub a b, .sub c d => a.eqb c && b.eqb d
  | .mul a b, .mul c d => a.eqb c && b.eqb d
  | .mod a b, .mod c d => a.eqb c && b.eqb d
  | _, _ => false

theorem SI.eqb_eq : ∀ {a b : SI}, a.eqb b = true → a = b := by
  intro a
  induction a with
  | lit n => intro b h; cases b <;> simp [SI.eqb] at h; rw [(ieqb_iff _ _).1 h]
  | var i => intro b h; cases b <;> simp [SI.eqb] at h; rw [h]
  | add a b iha ihb => intro c h; cases c <;> simp [SI.eqb] at h; rw [iha h.1, ihb h.2]
  | sub a b iha ihb => intro c h; cases c <;> simp [SI.eqb] at h; rw [iha h.1, ihb h.2]
  | mul a b iha ihb => intro c h; cases c <;> simp [SI.eqb] at h; rw [iha h.1, ihb h.2]
  | mod a b iha ihb => intro c h; cases c <;> simp [SI.eqb] at h; rw [iha h.1, ihb h.2]

/-- What is known of the unknown numbers: bounds; which sums are alike, which one is less than which. -/
structure Env where
  bnd : List (Int × Int)
  eqs : List (SI × SI × Bool)
  lts : List (SI × SI × Bool)

structure Env.ok (E : Env) (ρ : Nat → Int) : Prop where
  bnd : ∀ i p, E.bnd[i]? = some p → p.1 ≤ ρ i ∧ ρ i ≤ p.2
  eqs : ∀ x ∈ E.eqs, decide (x.1.ev ρ = x.2.1.ev ρ) = x.2.2
  lts : ∀ x ∈ E.lts, decide (x.1.ev ρ < x.2.1.ev ρ) = x.2.2

/-- Bounds of a number. -/
def rng (E : Env) : SI → Option (Int × Int)
  | .lit n => some (n, n)
  | .var i => E.bnd[i]?
  | .add a b => match rng E a, rng E b with
    | some (l, h), some (l', h') => some (l + l', h + h')
    | _, _ => none
  | .sub a b => match rng E a, rng E b with
    | some (l, h), some (l', h') => some (l - h', h - l')
    | _, _ => none
  | .mul a b => match rng E a, rng E b with
    | some (l, h), some (l', h') => if ileb 0 l && ileb 0 l' then some (l * l', h * h') else none
    | _, _ => none
  | .mod a b => match rng E a, b with
    | some (l, _), .lit m => if ileb 0 l && iltb 0 m then some (0, m - 1) else none
    | _, _ => none

theorem rng_ok {E : Env} {ρ : Nat → Int} (hE : E.ok ρ) : ∀ {a : SI} {l h : Int}, rng E a = some (l, h) → l ≤ a.ev ρ ∧ a.ev ρ ≤ h := by
  intro a
  induction a with
  | lit n => intro l h e; simp [rng] at e; simp [SI.ev]; omega
  | var i => intro l h e; exact hE.bnd i _ e
  | add a b iha ihb =>
    intro l h e
    simp only [rng] at e
    split at e
    · rename_i l1 h1 l2 h2 e1 e2
      have := iha e1; have := ihb e2
      simp at e; simp only [SI.ev]; omega
    · cases e
  | sub a b iha ihb =>
    intro l h e
    simp only [rng] at e
    split at e
    · rename_i l1 h1 l2 h2 e1 e2
      have := iha e1; have := ihb e2
      simp at e; simp only [SI.ev]; omega
    · cases e
  | mul a b iha ihb =>
    intro l h e
    simp only [rng] at e
    split at e
    · rename_i l1 h1 l2 h2 e1 e2
      have ha := iha e1; have hb := ihb e2
      split at e
      · rename_i hc
        simp only [Bool.and_eq_true, ileb_iff] at hc
        simp only [Option.some.injEq, Prod.mk.injEq] at e
        obtain ⟨rfl, rfl⟩ := e
        simp only [SI.ev]
        exact ⟨Int.mul_le_mul ha.1 hb.1 hc.2 (by omega), Int.mul_le_mul ha.2 hb.2 (by omega) (by omega)⟩
      · cases e
    · cases e
  | mod a b iha ihb =>
    intro l h e
    simp only [rng] at e
    split at e
    · rename_i l1 h1 m e1
      have ha := iha e1
      split at e
      · rename_i hc
        simp only [Bool.and_eq_true, ileb_iff, iltb_iff] at hc
        simp only [Option.some.injEq, Prod.mk.injEq] at e
        obtain ⟨rfl, rfl⟩ := e
        simp only [SI.ev]
        have h1 := Int.tmod_nonneg m (show 0 ≤ a.ev ρ by omega)
        have h2 := Int.tmod_lt_of_pos (a.ev ρ) hc.2
        omega
      · cases e
    · cases e

/-- Is a asked of b in a list of what is known? -/
def known (l : List (SI × SI × Bool)) (a b : SI) : Option Bool :=
  match l with
  | [] => none
  | (x, y, r) :: t => if x.eqb a && y.eqb b then some r else known t a b

theorem known_mem : ∀ {l : List (SI × SI × Bool)} {a b : SI} {r : Bool}, known l a b = some r → (a, b, r) ∈ l := by
  intro l
  induction l with
  | nil => intro a b r h; cases h
  | cons p t ih =>
    obtain ⟨x, y, q⟩ := p
    intro a b r h
    simp only [known] at h
    split at h
    · rename_i hc
      simp only [Bool.and_eq_true] at hc
      obtain rfl := SI.eqb_eq hc.1
      obtain rfl := SI.eqb_eq hc.2
      injection h with h; subst h; exact List.mem_cons_self ..
    · exact List.mem_cons_of_mem _ (ih h)

/-- Are two numbers the same? none: not known. -/
def seq (E : Env) (a b : SI) : Option Bool :=
  match a, b with
  | .lit m, .lit n => some (ieqb m n)
  | a, b =>
    if a.eqb b then some true else
    match rng E a, rng E b with
    | some (l, h), some (l', h') => if iltb h l' || iltb h' l then some false else known E.eqs a b
    | _, _ => known E.eqs a b

theorem seq_ok {E : Env} {ρ : Nat → Int} (hE : E.ok ρ) {a b : SI} {r : Bool} (h : seq E a b = some r) : decide (a.ev ρ = b.ev ρ) = r := by
  unfold seq at h
  split at h
  · injection h with h; subst h
    rename_i m n
    have := ieqb_iff m n
    simp only [SI.ev]
    cases hh : ieqb m n <;> simp [hh] at this <;> simp [this]
  · split at h
    · rename_i hc
      obtain rfl := SI.eqb_eq hc
      injection h with h; subst h; simp
    · split at h
      · rename_i l1 h1 l2 h2 e1 e2
        split at h
        · rename_i hc
          simp only [Bool.or_eq_true, iltb_iff] at hc
          injection h with h; subst h
          have := rng_ok hE e1; have := rng_ok hE e2
          simp; omega
        · exact hE.eqs _ (known_mem h)
      · exact hE.eqs _ (known_mem h)

/-- Is a less than b? none: not known. -/
def slt (E : Env) (a b : SI) : Option Bool :=
  match a, b with
  | .lit m, .lit n => some (iltb m n)
  | a, b =>
    if a.eqb b then some false else
    match rng E a, rng E b with
    | some (l, h), some (l', h') => if iltb h l' then some true else if ileb h' l then some false else known E.lts a b
    | _, _ => known E.lts a b

theorem slt_ok {E : Env} {ρ : Nat → Int} (hE : E.ok ρ) {a b : SI} {r : Bool} (h : slt E a b = some r) : decide (a.ev ρ < b.ev ρ) = r := by
  unfold slt at h
  split at h
  · injection h with h; subst h
    rename_i m n
    have := iltb_iff m n
    show decide (m < n) = _
    cases hh : iltb m n
    · rw [hh] at this; exact decide_eq_false (fun h => by simp [h] at this)
    · rw [hh] at this; exact decide_eq_true (this.1 rfl)
  · split at h
    · rename_i hc
      obtain rfl := SI.eqb_eq hc
      injection h with h; subst h; simp
    · split at h
      · rename_i l1 h1 l2 h2 e1 e2
        have q1 := rng_ok hE e1; have q2 := rng_ok hE e2
        split at h
        · rename_i hc
          simp only [iltb_iff] at hc
          injection h with h; subst h
          simp; omega
        · split at h
          · rename_i hc
            simp only [ileb_iff] at hc
            injection h with h; subst h
            simp; omega
          · exact hE.lts _ (known_mem h)
      · exact hE.lts _ (known_mem h)

/-! ### Trees by number -/
inductive Tr (α : Type) where
  | nil
  | node (l : Tr α) (v : Option α) (r : Tr α)

def Tr.get {α : Type} (t : Tr α) : Nat → Option α :=
  @Tr.rec α (fun _ => Nat → Option α) (fun _ => none)
    (fun _ v _ ihl ihr n => @Bool.rec (fun _ => Option α)
      (@Bool.rec (fun _ => Option α) (ihr (Nat.div (Nat.sub n 1) 2)) (ihl (Nat.div (Nat.sub n 1) 2)) (Nat.beq (Nat.mod (Nat.sub n 1) 2) 0)) v (Nat.beq n 0)) t

def Tr.set {α : Type} (f : Nat) : Tr α → Nat → α → Tr α :=
  @Nat.rec (fun _ => Tr α → Nat → α → Tr α) (fun t _ _ => t)
    (fun _ ih t n x => @Tr.rec α (fun _ => Tr α)
      (@Bool.rec (fun _ => Tr α) (@Bool.rec (fun _ => Tr α) (.node .nil none (ih .nil (Nat.div (Nat.sub n 1) 2) x)) (.node (ih .nil (Nat.div (Nat.sub n 1) 2) x) none .nil) (Nat.beq (Nat.mod (Nat.sub n 1) 2) 0)) (.node .nil (some x) .nil) (Nat.beq n 0))
      (fun l v r _ _ => @Bool.rec (fun _ => Tr α) (@Bool.rec (fun _ => Tr α) (.node l v (ih r (Nat.div (Nat.sub n 1) 2) x)) (.node (ih l (Nat.div (Nat.sub n 1) 2) x) v r) (Nat.beq (Nat.mod (Nat.sub n 1) 2) 0)) (.node l (some x) r) (Nat.beq n 0)) t) f

theorem nbeq_true {m n : Nat} (h : m = n) : Nat.beq m n = true := by subst h; exact Nat.beq_refl m
theorem nbeq_false {m n : Nat} (h : m ≠ n) : Nat.beq m n = false := by
  cases e : Nat.beq m n
  · rfl
  · exact absurd (Nat.eq_of_beq_eq_true e) h

theorem Tr.get_nil {α : Type} (n : Nat) : (Tr.nil : Tr α).get n = none := rfl
theorem brec_if {α : Type} (a b : α) (m n : Nat) : (@Bool.rec (fun _ => α) a b (Nat.beq m n)) = if m = n then b else a := by
  by_cases h : m = n
  · rw [if_pos h, nbeq_true h]
  · rw [if_neg h, nbeq_false h]
theorem Tr.get_node {α : Type} (l : Tr α) (v : Option α) (r : Tr α) (n : Nat) :
    (Tr.node l v r).get n = if n = 0 then v else if (n - 1) % 2 = 0 then l.get ((n - 1) / 2) else r.get ((n - 1) / 2) := by
  show @Bool.rec (fun _ => Option α) (@Bool.rec (fun _ => Option α) (r.get ((n - 1) / 2)) (l.get ((n - 1) / 2)) (Nat.beq ((n - 1) % 2) 0)) v (Nat.beq n 0) = _
  rw [brec_if, brec_if]

def Tr.lc {α : Type} : Tr α → Tr α | .nil => .nil | .node l _ _ => l
def Tr.vc {α : Type} : Tr α → Option α | .nil => none | .node _ v _ => v
def Tr.rc {α : Type} : Tr α → Tr α | .nil => .nil | .node _ _ r => r
theorem Tr.set_eq {α : Type} (f : Nat) (t : Tr α) (n : Nat) (x : α) :
    Tr.set (f + 1) t n x = if n = 0 then .node t.lc (some x) t.rc else if (n - 1) % 2 = 0 then .node (Tr.set f t.lc ((n - 1) / 2) x) t.vc t.rc else .node t.lc t.vc (Tr.set f t.rc ((n - 1) / 2) x) := by
  cases t with
  | nil =>
    show @Bool.rec (fun _ => Tr α) (@Bool.rec (fun _ => Tr α) (.node .nil none (Tr.set f .nil ((n - 1) / 2) x)) (.node (Tr.set f .nil ((n - 1) / 2) x) none .nil) (Nat.beq ((n - 1) % 2) 0)) (.node .nil (some x) .nil) (Nat.beq n 0) = _
    rw [brec_if, brec_if]; rfl
  | node l v r =>
    show @Bool.rec (fun _ => Tr α) (@Bool.rec (fun _ => Tr α) (.node l v (Tr.set f r ((n - 1) / 2) x)) (.node (Tr.set f l ((n - 1) / 2) x) v r) (Nat.beq ((n - 1) % 2) 0)) (.node l (some x) r) (Nat.beq n 0) = _
    rw [brec_if, brec_if]; rfl
theorem Tr.get_eq {α : Type} (t : Tr α) (n : Nat) :
    t.get n = if n = 0 then t.vc else if (n - 1) % 2 = 0 then t.lc.get ((n - 1) / 2) else t.rc.get ((n - 1) / 2) := by
  cases t with
  | nil => simp [Tr.get, Tr.vc, Tr.lc, Tr.rc]
  | node l v r => rw [Tr.get_node]; rfl

theorem Tr.get_set {α : Type} : ∀ (f : Nat) (t : Tr α) (n m : Nat) (x : α), n + 1 < 2 ^ f → (Tr.set f t n x).get m = if m = n then some x else t.get m := by
  intro f
  induction f with
  | zero => intro t n m x h; simp at h
  | succ f ih =>
    intro t n m x h
    have hp : 2 ^ (f + 1) = 2 ^ f + 2 ^ f := by rw [Nat.pow_succ]; omega
    rw [Tr.set_eq, Tr.get_eq t m]
    by_cases h0 : n = 0
    · subst h0
      rw [if_pos rfl, Tr.get_node]
      by_cases hm : m = 0
      · simp [hm]
      · simp [hm]
    · rw [if_neg h0]
      by_cases h2 : (n - 1) % 2 = 0
      · rw [if_pos h2, Tr.get_node]
        by_cases hm : m = 0
        · rw [if_pos hm, if_pos hm, if_neg (by omega)]
        · rw [if_neg hm, if_neg hm]
          by_cases hm2 : (m - 1) % 2 = 0
          · rw [if_pos hm2, if_pos hm2, ih _ _ _ _ (by omega)]
            by_cases hmn : m = n
            · rw [if_pos hmn, if_pos (by omega)]
            · rw [if_neg hmn, if_neg (by omega)]
          · rw [if_neg hm2, if_neg hm2, if_neg (by omega)]
      · rw [if_neg h2, Tr.get_node]
        by_cases hm : m = 0
        · rw [if_pos hm, if_pos hm, if_neg (by omega)]
        · rw [if_neg hm, if_neg hm]
          by_cases hm2 : (m - 1) % 2 = 0
          · rw [if_pos hm2, if_pos hm2, if_neg (by omega)]
          · rw [if_neg hm2, if_neg hm2, ih _ _ _ _ (by omega)]
            by_cases hmn : m = n
            · rw [if_pos hmn, if_pos (by omega)]
            · rw [if_neg hmn, if_neg (by omega)]

end
end Go.Proofs.YtpcbmenjbcpieaaGreatDoor.AM

/- An abstract machine for the model's code, part B: abstract values and an abstract heap; what it means that a world of the model is as they say; what a new block and a store do to that. -/
set_option linter.unusedVariables false
set_option linter.unusedSimpArgs false
namespace Go.Proofs.YtpcbmenjbcpieaaGreatDoor.AM
open Go
noncomputable section

/-- What the unknown numbers are; what lies in memory before all else, and stays; and the one slice of which nothing is known. -/
structure Rho where
  fn : Nat → Int
  n0 : Nat
  h0 : Array Obj
  oa : Option Addr
  on : Nat
  oc : Nat

instance : Coe Rho (Nat → Int) := ⟨Rho.fn⟩

structure Base (ρ : Rho) (hp : Array Obj) : Prop where
  sz : ρ.n0 ≤ hp.size
  same : ∀ c, c < ρ.n0 → hp[c]? = ρ.h0[c]?

/-- A piece of a text: a byte, or a number's decimal digits. -/
inductive Pc where
  | byte (e : SI)
  | dec (e : SI)

/-- The decimal digits of a number. -/
def decT (n : Nat) : List Int := if n < 10 then [48 + (n : Int)] else decT (n / 10) ++ [48 + ((n % 10 : Nat) : Int)]
termination_by n
decreasing_by omega

def Pc.bytes (ρ : Rho) : Pc → List Int
  | .byte e => [e.ev ρ]
  | .dec e => decT (e.ev ρ).toNat

inductive AV where
  | bool (b : Bool)
  | int (k : IntKind) (n : SI)
  | str (s : List SI)
  | nilp
  | ptr (b o : Nat)
  | nils
  | slice (b o n : Nat) (cap : Option Nat) (es : Nat)
  | func (f : Nat) (cs : List AV)
  | nilf
  | nili
  | agg (cs : List AV)
  | tup (vs : List AV)
  | yld
  | opq
  | text (ps : List Pc)

/-- Where an abstract block lies: the model's block, from which cell on, how many cells. -/
structure Loc where
  blk : Nat
  base : Nat
  size : Nat

abbrev Inj := Nat → Option Loc

def strRel (ρ : Rho) (l : List SI) (s : ByteArray) : Prop := s.data.toList.map (fun b => (b.toNat : Int)) = l.map (SI.ev ρ)

def textRel (ρ : Rho) (ps : List Pc) (s : ByteArray) : Prop := s.data.toList.map (fun b => (b.toNat : Int)) = ps.flatMap (Pc.bytes ρ) ∧ s.size ≤ 1000 * ps.length

mutual
inductive VR (ι : Inj) (ρ : Rho) : AV → Value → Prop
  | bool (b : Bool) : VR ι ρ (.bool b) (.bool b)
  | int (k : IntKind) (e : SI) : VR ι ρ (.int k e) (.int k (e.ev ρ))
  | str (l : List SI) (s : ByteArray) : strRel ρ l s → VR ι ρ (.str l) (.string s)
  | nilp : VR ι ρ .nilp (.pointer none)
  | ptr (b o : Nat) (L : Loc) : ι b = some L → VR ι ρ (.ptr b o) (.pointer (some ⟨L.blk, L.base + o, none⟩))
  | nils : VR ι ρ .nils (.slice none 0 0)
  | slice (b o n : Nat) (cap : Option Nat) (es : Nat) (L : Loc) (c : Nat) : ι b = some L → n ≤ c → 0 < es →
      (∀ k, cap = some k → c = k ∧ o + k * es ≤ L.size) → (cap = none → o + c * es = L.size) →
      VR ι ρ (.slice b o n cap es) (.slice (some ⟨L.blk, L.base + o, none⟩) n c)
  | func (f : Nat) (cs : List AV) (vs : List Value) : VRs ι ρ cs vs → VR ι ρ (.func f cs) (.func (.func f) #[] vs.toArray)
  | nilf : VR ι ρ .nilf .nilFunc
  | nili : VR ι ρ .nili .nilIface
  | agg (cs : List AV) (vs : List Value) : VRs ι ρ cs vs → VR ι ρ (.agg cs) (.agg vs.toArray)
  | tup (cs : List AV) (vs : List Value) : VRs ι ρ cs vs → VR ι ρ (.tup cs) (.tuple vs.toArray)
  | yld (l : Nat) : VR ι ρ .yld (.func (.yield l) #[] #[])
  | opq : VR ι ρ .opq (.slice ρ.oa ρ.on ρ.oc)
  | text (ps : List Pc) (s : ByteArray) : textRel ρ ps s → VR ι ρ (.text ps) (.string s)
inductive VRs (ι : Inj) (ρ : Rho) : List AV → List Value → Prop
  | nil : VRs ι ρ [] []
  | cons (v : AV) (x : Value) (vs : List AV) (xs : List Value) : VR ι ρ v x → VRs ι ρ vs xs → VRs ι ρ (v :: vs) (x :: xs)
end

def Ext (ι ι' : Inj) : Prop := ∀ b L, ι b = some L → ι' b = some L
theorem Ext.refl (ι : Inj) : Ext ι ι := fun _ _ h => h
theorem Ext.trans {ι ι' ι'' : Inj} (h : Ext ι ι') (k : Ext ι' ι'') : Ext ι ι'' := fun b L e => k b L (h b L e)

mutual
theorem VR.mono {ι ι' : Inj} {ρ : Rho} (he : Ext ι ι') : ∀ {v : AV} {x : Value}, VR ι ρ v x → VR ι' ρ v x
  | _, _, .bool b => .bool b
  | _, _, .int k e => .int k e
  | _, _, .str l s h => .str l s h
  | _, _, .nilp => .nilp
  | _, _, .ptr b o L h => .ptr b o L (he _ _ h)
  | _, _, .nils => .nils
  | _, _, .slice b o n cap es L c h h1 h2 h3 h4 => .slice b o n cap es L c (he _ _ h) h1 h2 h3 h4
  | _, _, .func f cs vs h => .func f cs vs (VRs.mono he h)
  | _, _, .nilf => .nilf
  | _, _, .nili => .nili
  | _, _, .agg cs vs h => .agg cs vs (VRs.mono he h)
  | _, _, .tup cs vs h => .tup cs vs (VRs.mono he h)
  | _, _, .yld l => .yld l
  | _, _, .opq => .opq
  | _, _, .text ps s h => .text ps s h
theorem VRs.mono {ι ι' : Inj} {ρ : Rho} (he : Ext ι ι') : ∀ {vs : List AV} {xs : List Value}, VRs ι ρ vs xs → VRs ι' ρ vs xs
  | _, _, .nil => .nil
  | _, _, .cons v x vs xs h t => .cons v x vs xs (VR.mono he h) (VRs.mono he t)
end

theorem VRs.length {ι : Inj} {ρ : Rho} : ∀ {vs : List AV} {xs : List Value}, VRs ι ρ vs xs → vs.length = xs.length
  | _, _, .nil => rfl
  | _, _, .cons _ _ _ _ _ t => congrArg (· + 1) (VRs.length t)

theorem VRs.get {ι : Inj} {ρ : Rho} : ∀ {vs : List AV} {xs : List Value} (_ : VRs ι ρ vs xs) (i : Nat) (v : AV), vs[i]? = some v → ∃ x, xs[i]? = some x ∧ VR ι ρ v x
  | _, _, .cons v x vs xs h t, 0, u, e => by simp at e; subst e; exact ⟨x, by simp, h⟩
  | _, _, .cons v x vs xs h t, i + 1, u, e => by
    obtain ⟨y, hy, hr⟩ := VRs.get t i u (by simpa using e)
    exact ⟨y, by simpa using hy, hr⟩

theorem VRs.of_get {ι : Inj} {ρ : Rho} : ∀ {vs : List AV} {xs : List Value}, vs.length = xs.length → (∀ (i : Nat) (v : AV), vs[i]? = some v → ∃ x : Value, xs[i]? = some x ∧ VR ι ρ v x) → VRs ι ρ vs xs
  | [], [], _, _ => .nil
  | v :: vs, x :: xs, hl, h => by
    refine .cons v x vs xs ?_ (VRs.of_get (by simpa using hl) fun i u e => ?_)
    · obtain ⟨y, hy, hr⟩ := h 0 v (by simp)
      simp at hy; subst hy; exact hr
    · have := h (i + 1) u (by simpa using e)
      simpa using this

theorem VRs.append {ι : Inj} {ρ : Rho} : ∀ {vs : List AV} {xs : List Value} {us : List AV} {ys : List Value}, VRs ι ρ vs xs → VRs ι ρ us ys → VRs ι ρ (vs ++ us) (xs ++ ys)
  | _, _, _, _, .nil, k => k
  | _, _, _, _, .cons v x vs xs h t, k => .cons v x _ _ h (VRs.append t k)

theorem VRs.take {ι : Inj} {ρ : Rho} : ∀ {vs : List AV} {xs : List Value} (n : Nat), VRs ι ρ vs xs → VRs ι ρ (vs.take n) (xs.take n)
  | _, _, 0, _ => by simpa using VRs.nil
  | _, _, _ + 1, .nil => .nil
  | _, _, n + 1, .cons v x _ _ h t => .cons v x _ _ h (VRs.take n t)

theorem VRs.drop {ι : Inj} {ρ : Rho} : ∀ {vs : List AV} {xs : List Value} (n : Nat), VRs ι ρ vs xs → VRs ι ρ (vs.drop n) (xs.drop n)
  | _, _, 0, h => h
  | _, _, _ + 1, .nil => .nil
  | _, _, n + 1, .cons _ _ _ _ _ t => VRs.drop n t

/-- An abstract block: its cells, as far as they are known; how many there are, if that is known; its element type; may it be read only? -/
structure Blk where
  cells : List AV
  room : Option Nat
  ty : Nat
  ro : Bool

structure AH where
  next : Nat
  t : Tr (Option Blk)

def AH.get (H : AH) (b : Nat) : Option Blk :=
  match H.t.get b with
  | some (some k) => some k
  | _ => none

def AH.put (H : AH) (b : Nat) (k : Option Blk) : AH := { H with t := Tr.set 24 H.t b k }

def AH.new (H : AH) (k : Blk) : Option AH :=
  match Nat.blt H.next 16000000 with
  | true => some { next := H.next + 1, t := Tr.set 24 H.t H.next (some k) }
  | false => none

theorem AH.put_get {H : AH} {b : Nat} {k : Option Blk} (hb : b < 16000001) (m : Nat) : (H.put b k).get m = if m = b then k else H.get m := by
  simp only [AH.put, AH.get]
  rw [Tr.get_set 24 _ _ _ _ (by omega)]
  by_cases h : m = b
  · simp only [if_pos h]; cases k <;> rfl
  · simp only [if_neg h]

theorem AH.new_spec {H H' : AH} {k : Blk} (h : H.new k = some H') : H.next < 16000000 ∧ H'.next = H.next + 1 ∧ ∀ m, H'.get m = if m = H.next then some k else H.get m := by
  unfold AH.new at h
  split at h
  · rename_i hb
    have hlt : H.next < 16000000 := by have := Nat.le_of_ble_eq_true hb; omega
    injection h with h; subst h
    refine ⟨hlt, rfl, fun m => ?_⟩
    have := AH.put_get (H := H) (b := H.next) (k := some k) (by omega) m
    simpa only [AH.put, AH.get] using this
  · cases h

/-- The model's block behind an abstract one. -/
def BR (ι : Inj) (ρ : Rho) (k : Blk) (L : Loc) (hp : Array Obj) : Prop :=
  ∃ (cs : Array Value) (fz : Nat × Nat), hp[L.blk]? = some (.cells cs k.ty fz) ∧ (k.ro = false → fz = (0, 0)) ∧ cs.size = L.base + L.size ∧ k.cells.length ≤ L.size ∧ (∀ r, k.room = some r → L.size = r) ∧
    ∀ (i : Nat) (v : AV), k.cells[i]? = some v → ∃ x : Value, cs[L.base + i]? = some x ∧ VR ι ρ v x

structure HR (ι : Inj) (ρ : Rho) (H : AH) (hp : Array Obj) : Prop where
  live : ∀ b k, H.get b = some k → ∃ L, ι b = some L ∧ BR ι ρ k L hp
  inj : ∀ b b' k k' L L', H.get b = some k → H.get b' = some k' → ι b = some L → ι b' = some L' → b ≠ b' → L.blk ≠ L'.blk
  lt : ∀ b k, H.get b = some k → b < H.next
  dom : ∀ b L, ι b = some L → b < H.next
  small : H.next < 16000001
  lo : ∀ b L, ι b = some L → ρ.n0 ≤ L.blk
  base : Base ρ hp

def Own (ι : Inj) (H : AH) (c : Nat) : Prop := ∃ b k L, H.get b = some k ∧ ι b = some L ∧ L.blk = c

/-- What one step may do: nothing that is not owned is turned. -/
structure St (ι : Inj) (H : AH) (w : World) (ι' : Inj) (H' : AH) (w' : World) : Prop where
  ext : Ext ι ι'
  os : w'.os = w.os
  tape : w'.tape = w.tape
  output : w'.output = w.output
  size : w.heap.size ≤ w'.heap.size
  keep : ∀ c, c < w.heap.size → ¬ Own ι H c → w'.heap[c]? = w.heap[c]?
  own : ∀ c, Own ι' H' c → Own ι H c ∨ w.heap.size ≤ c
  fresh : ∀ b L, ι' b = some L → ι b = some L ∨ H.next ≤ b
  nx : H.next ≤ H'.next
  old : ∀ b k, H'.get b = some k → b < H.next → ∃ k0, H.get b = some k0

theorem St.refl (ι : Inj) (H : AH) (w : World) : St ι H w ι H w :=
  ⟨Ext.refl ι, rfl, rfl, rfl, Nat.le_refl _, fun _ _ _ => rfl, fun _ h => .inl h, fun _ _ h => .inl h, Nat.le_refl _, fun _ k h _ => ⟨k, h⟩⟩

theorem St.trans {ι ι1 ι2 : Inj} {H H1 H2 : AH} {w w1 w2 : World} (h : St ι H w ι1 H1 w1) (k : St ι1 H1 w1 ι2 H2 w2) : St ι H w ι2 H2 w2 where
  ext := h.ext.trans k.ext
  os := k.os.trans h.os
  tape := k.tape.trans h.tape
  output := k.output.trans h.output
  size := Nat.le_trans h.size k.size
  keep c hc hn := (k.keep c (Nat.lt_of_lt_of_le hc h.size) fun ho => (h.own c ho).elim hn fun hl => absurd hc (Nat.not_lt.2 hl)).trans (h.keep c hc hn)
  own c hc := (k.own c hc).elim (h.own c) fun hl => .inr (Nat.le_trans h.size hl)
  fresh b L hb := (k.fresh b L hb).elim (h.fresh b L) fun hl => .inr (Nat.le_trans h.nx hl)
  nx := Nat.le_trans h.nx k.nx
  old b q hb hlt := by
    obtain ⟨k0, hk0⟩ := k.old b q hb (Nat.lt_of_lt_of_le hlt h.nx)
    exact h.old b k0 hk0 hlt

/-- A world that parts in no block. -/
theorem St.same {ι : Inj} {H : AH} {w w' : World} (hh : w'.heap = w.heap) (ho : w'.os = w.os) (ht : w'.tape = w.tape) (hu : w'.output = w.output) : St ι H w ι H w' :=
  ⟨Ext.refl ι, ho, ht, hu, by rw [hh]; exact Nat.le_refl _, fun c _ _ => by rw [hh], fun _ h => .inl h, fun _ _ h => .inl h, Nat.le_refl _, fun _ k h _ => ⟨k, h⟩⟩

theorem BR.mono {ι ι' : Inj} {ρ : Rho} {k : Blk} {L : Loc} {hp hp' : Array Obj} (he : Ext ι ι') (hk : hp'[L.blk]? = hp[L.blk]?) (h : BR ι ρ k L hp) : BR ι' ρ k L hp' := by
  obtain ⟨cs, fz, h1, hz, h2, h3, h4, h5⟩ := h
  exact ⟨cs, fz, hk.trans h1, hz, h2, h3, h4, fun i v e => let ⟨x, hx, hv⟩ := h5 i v e; ⟨x, hx, hv.mono he⟩⟩

theorem BR.lt {ι : Inj} {ρ : Rho} {k : Blk} {L : Loc} {hp : Array Obj} (h : BR ι ρ k L hp) : L.blk < hp.size := by
  obtain ⟨cs, fz, h1, _⟩ := h
  exact (Array.getElem?_eq_some_iff.1 h1).1

def upd (ι : Inj) (b : Nat) (L : Loc) : Inj := fun m => if m = b then some L else ι m

theorem upd_ext {ι : Inj} {b : Nat} {L : Loc} (h : ι b = none) : Ext ι (upd ι b L) := by
  intro m M hm
  unfold upd
  by_cases e : m = b
  · subst e; rw [h] at hm; cases hm
  · rw [if_neg e]; exact hm

theorem HR.none_next {ι : Inj} {ρ : Rho} {H : AH} {hp : Array Obj} (h : HR ι ρ H hp) : ι H.next = none := by
  cases e : ι H.next with
  | none => rfl
  | some L => exact absurd (h.dom _ _ e) (Nat.lt_irrefl _)

/-- A new block. -/
theorem HR.alloc {ι : Inj} {ρ : Rho} {H H' : AH} {w w' : World} {cells : List AV} {room : Option Nat} {ty : Nat} {ro : Bool} {fz : Nat × Nat} {arr : Array Value}
    (h : HR ι ρ H w.heap) (hn : H.new ⟨cells, room, ty, ro⟩ = some H') (hle : cells.length ≤ arr.size) (hroom : ∀ r, room = some r → arr.size = r)
    (hv : ∀ (i : Nat) (v : AV), cells[i]? = some v → ∃ x : Value, arr[i]? = some x ∧ VR ι ρ v x)
    (hw : w'.heap = w.heap.push (.cells arr ty fz)) (hfz : ro = false → fz = (0, 0)) (ho : w'.os = w.os) (ht : w'.tape = w.tape) (hu : w'.output = w.output) :
    HR (upd ι H.next ⟨w.heap.size, 0, arr.size⟩) ρ H' w'.heap ∧ St ι H w (upd ι H.next ⟨w.heap.size, 0, arr.size⟩) H' w' := by
  obtain ⟨hlt, hnx, hget⟩ := AH.new_spec hn
  have hnone := h.none_next
  have hext := upd_ext (L := ⟨w.heap.size, 0, arr.size⟩) hnone
  have hold : ∀ c, c < w.heap.size → w'.heap[c]? = w.heap[c]? := fun c hc => by rw [hw, Array.getElem?_push, if_neg (by omega)]
  have hnew : w'.heap[w.heap.size]? = some (.cells arr ty fz) := by rw [hw]; simp
  have hlive : ∀ b k, H.get b = some k → ∃ L, ι b = some L ∧ L.blk < w.heap.size := fun b k hb => by
    obtain ⟨L, hL, hB⟩ := h.live b k hb
    exact ⟨L, hL, hB.lt⟩
  constructor
  · constructor
    · intro b k hb
      rw [hget] at hb
      by_cases e : b = H.next
      · rw [if_pos e] at hb
        injection hb with hb
        subst hb
        refine ⟨_, by rw [upd, if_pos e], arr, fz, hnew, hfz, by simp, hle, fun r hr => hroom r hr, fun i v hi => ?_⟩
        obtain ⟨x, hx, hr⟩ := hv i v hi
        exact ⟨x, by simpa using hx, hr.mono hext⟩
      · rw [if_neg e] at hb
        obtain ⟨L, hL, hB⟩ := h.live b k hb
        exact ⟨L, hext _ _ hL, hB.mono hext (hold _ hB.lt)⟩
    · intro b b' k k' L L' hb hb' hL hL' hne
      rw [hget] at hb hb'
      unfold upd at hL hL'
      by_cases e : b = H.next
      · by_cases e' : b' = H.next
        · exact absurd (e.trans e'.symm) hne
        · rw [if_pos e] at hL; rw [if_neg e'] at hL' hb'
          obtain ⟨M, hM, hlt'⟩ := hlive b' k' hb'
          rw [hL'] at hM; injection hM with hM; subst hM
          injection hL with hL; subst hL
          simp; omega
      · rw [if_neg e] at hL hb
        obtain ⟨M, hM, hlt'⟩ := hlive b k hb
        rw [hL] at hM; injection hM with hM; subst hM
        by_cases e' : b' = H.next
        · rw [if_pos e'] at hL'
          injection hL' with hL'; subst hL'
          simp; omega
        · rw [if_neg e'] at hL' hb'
          exact h.inj b b' k k' L L' hb hb' hL hL' hne
    · intro b k hb
      rw [hget] at hb
      by_cases e : b = H.next
      · omega
      · rw [if_neg e] at hb
        have := h.lt b k hb; omega
    · intro b L hL
      unfold upd at hL
      by_cases e : b = H.next
      · omega
      · rw [if_neg e] at hL
        have := h.dom b L hL; omega
    · omega
    · intro b L hL
      unfold upd at hL
      by_cases e : b = H.next
      · rw [if_pos e] at hL; injection hL with hL; subst hL; exact h.base.sz
      · rw [if_neg e] at hL; exact h.lo b L hL
    · exact ⟨by rw [hw, Array.size_push]; exact Nat.le_succ_of_le h.base.sz, fun c hc => (hold c (Nat.lt_of_lt_of_le hc h.base.sz)).trans (h.base.same c hc)⟩
  · refine ⟨hext, ho, ht, hu, by rw [hw]; simp, fun c hc _ => hold c hc, ?_, ?_, by omega, ?_⟩
    · rintro c ⟨b, k, L, hb, hL, rfl⟩
      rw [hget] at hb
      unfold upd at hL
      by_cases e : b = H.next
      · rw [if_pos e] at hL; injection hL with hL; subst hL; exact .inr (Nat.le_refl _)
      · rw [if_neg e] at hL hb; exact .inl ⟨b, k, L, hb, hL, rfl⟩
    · intro b L hL
      unfold upd at hL
      by_cases e : b = H.next
      · exact .inr (by omega)
      · rw [if_neg e] at hL; exact .inl hL
    · intro b k hb hlt'
      rw [hget, if_neg (by omega)] at hb
      exact ⟨k, hb⟩

/-- A block written anew. -/
theorem HR.write {ι : Inj} {ρ : Rho} {H : AH} {w w' : World} {b : Nat} {k : Blk} {L : Loc} {cells : List AV} {cs cs' : Array Value}
    (h : HR ι ρ H w.heap) (hb : H.get b = some k) (hL : ι b = some L) (hc : w.heap[L.blk]? = some (.cells cs k.ty (0, 0)))
    (hsz : cs'.size = cs.size) (hlen : cells.length = k.cells.length)
    (hv : ∀ (i : Nat) (v : AV), cells[i]? = some v → ∃ x : Value, cs'[L.base + i]? = some x ∧ VR ι ρ v x)
    (hin : w'.heap[L.blk]? = some (.cells cs' k.ty (0, 0))) (hout : ∀ c, c ≠ L.blk → w'.heap[c]? = w.heap[c]?) (hhs : w'.heap.size = w.heap.size)
    (ho : w'.os = w.os) (ht : w'.tape = w.tape) (hu : w'.output = w.output) :
    HR ι ρ (H.put b (some { k with cells := cells })) w'.heap ∧ St ι H w ι (H.put b (some { k with cells := cells })) w' := by
  have hbl : b < 16000001 := Nat.lt_trans (h.lt b k hb) h.small
  have hget := fun m => AH.put_get (H := H) (k := some { k with cells := cells }) hbl m
  have hsome : ∀ m q, (H.put b (some { k with cells := cells })).get m = some q → ∃ q0, H.get m = some q0 := fun m q hm => by
    rw [hget] at hm
    by_cases e : m = b
    · exact ⟨k, e ▸ hb⟩
    · rw [if_neg e] at hm; exact ⟨q, hm⟩
  constructor
  · constructor
    · intro m q hm
      rw [hget] at hm
      by_cases e : m = b
      · subst e
        rw [if_pos rfl] at hm
        injection hm with hm
        subst hm
        obtain ⟨M, hM, hB⟩ := h.live m k hb
        rw [hL] at hM; injection hM with hM; subst hM
        obtain ⟨cs0, fz0, g1, gz, g2, g3, g4, g5⟩ := hB
        rw [hc] at g1
        injection g1 with g1; injection g1 with g1; subst g1
        exact ⟨L, hL, cs', (0, 0), hin, fun _ => rfl, hsz.trans g2, by rw [hlen]; exact g3, g4, hv⟩
      · rw [if_neg e] at hm
        obtain ⟨M, hM, hB⟩ := h.live m q hm
        exact ⟨M, hM, hB.mono (Ext.refl ι) (hout _ (h.inj m b q k M L hm hb hM hL e))⟩
    · intro m m' q q' M M' hm hm' hM hM' hne
      obtain ⟨q0, hq0⟩ := hsome m q hm
      obtain ⟨q1, hq1⟩ := hsome m' q' hm'
      exact h.inj m m' q0 q1 M M' hq0 hq1 hM hM' hne
    · intro m q hm
      obtain ⟨q0, hq0⟩ := hsome m q hm
      exact h.lt m q0 hq0
    · exact h.dom
    · exact h.small
    · exact h.lo
    · exact ⟨by rw [hhs]; exact h.base.sz, fun c hc => (hout c (fun e => by have := h.lo b L hL; omega)).trans (h.base.same c hc)⟩
  · refine ⟨Ext.refl ι, ho, ht, hu, by omega, fun c hc' hn => hout c fun e => hn ⟨b, k, L, hb, hL, e.symm⟩, ?_, fun _ _ hq => .inl hq, Nat.le_refl _, fun m q hm _ => hsome m q hm⟩
    rintro c ⟨m, q, M, hm, hM, rfl⟩
    obtain ⟨q0, hq0⟩ := hsome m q hm
    exact .inl ⟨m, q0, M, hq0, hM, rfl⟩

end
end Go.Proofs.YtpcbmenjbcpieaaGreatDoor.AM

/- An abstract machine for the model's code, part C: the operations that give a value. -/
set_option linter.unusedVariables false
set_option linter.unusedSimpArgs false
namespace Go.Proofs.YtpcbmenjbcpieaaGreatDoor.AM
open Go
noncomputable section

/-! ### Constants -/
def ofV : Value → Option AV
  | .bool b => some (.bool b)
  | .int k n => some (.int k (.lit n))
  | .string s => some (.str (s.data.toList.map fun b => .lit (b.toNat : Int)))
  | .pointer none => some .nilp
  | .slice none 0 0 => some .nils
  | .nilFunc => some .nilf
  | .nilIface => some .nili
  | _ => none

def ofVs : List Value → Option (List AV)
  | [] => some []
  | x :: xs => match ofV x, ofVs xs with
    | some v, some vs => some (v :: vs)
    | _, _ => none

def ofC : Value → Option AV
  | .agg cs => match ofVs cs.toList with
    | some vs => some (.agg vs)
    | none => none
  | .tuple cs => match ofVs cs.toList with
    | some vs => some (.tup vs)
    | none => none
  | x => ofV x

theorem ofV_ok {ι : Inj} {ρ : Rho} {x : Value} {v : AV} (h : ofV x = some v) : VR ι ρ v x ∧ x.oneCell' = true := by
  unfold ofV at h
  split at h
  all_goals first
    | cases h; done
    | (injection h with h; subst h; refine ⟨?_, rfl⟩; constructor; done)
    | skip
  · injection h with h; subst h
    refine ⟨.str _ _ ?_, rfl⟩
    unfold strRel
    rw [List.map_map]
    rfl

theorem ofVs_ok {ι : Inj} {ρ : Rho} : ∀ {xs : List Value} {vs : List AV}, ofVs xs = some vs → VRs ι ρ vs xs ∧ ∀ x ∈ xs, x.oneCell' = true
  | [], vs, h => by simp [ofVs] at h; subst h; exact ⟨.nil, by simp⟩
  | x :: xs, vs, h => by
    unfold ofVs at h
    split at h
    · rename_i v us h1 h2
      injection h with h; subst h
      obtain ⟨a, b⟩ := ofV_ok (ι := ι) (ρ := ρ) h1
      obtain ⟨c, d⟩ := ofVs_ok (ι := ι) (ρ := ρ) h2
      exact ⟨.cons _ _ _ _ a c, by simpa using ⟨b, d⟩⟩
    · cases h

theorem ofC_ok {ι : Inj} {ρ : Rho} {x : Value} {v : AV} (h : ofC x = some v) : VR ι ρ v x := by
  unfold ofC at h
  split at h
  · split at h
    · rename_i vs h1
      injection h with h; subst h
      have := VR.agg (ι := ι) (ρ := ρ) _ _ (ofVs_ok h1).1
      simpa using this
    · cases h
  · split at h
    · rename_i vs h1
      injection h with h; subst h
      have := VR.tup (ι := ι) (ρ := ρ) _ _ (ofVs_ok h1).1
      simpa using this
    · cases h
  · exact (ofV_ok h).1

/-! ### Types -/
def tsize (P : Program) (t : TypeId) : Option Nat :=
  match P.info? t with
  | some i => some i.size
  | none => none

def tzero (P : Program) (t : TypeId) : Option (List AV) :=
  match P.info? t with
  | some i => match i.zero with
    | some z => ofVs z.cells.toList
    | none => none
  | none => none

def tagg (P : Program) (t : TypeId) : Option Bool :=
  match P.underlying t with
  | some (.struct _) => some true
  | some (.array _ _) => some true
  | some _ => some false
  | none => none

theorem run_tsize {P : Program} {t : TypeId} {n : Nat} (h : tsize P t = some n) (w : World) : (sizeOf t).run P w = .ok n w := by
  unfold tsize at h
  split at h
  · rename_i i hi
    injection h with h; subst h
    simp [sizeOf, typeInfo, hi]
  · cases h

theorem run_tzero {P : Program} {t : TypeId} {vs : List AV} (h : tzero P t = some vs) (w : World) :
    ∃ z, (zeroValue t).run P w = .ok z w ∧ ofVs z.cells.toList = some vs := by
  unfold tzero at h
  split at h
  · rename_i i hi
    split at h
    · rename_i z hz
      exact ⟨z, by simp [zeroValue, typeInfo, hi, hz], h⟩
    · cases h
  · cases h

theorem run_under {P : Program} {t : TypeId} {d : TypeDesc} (h : P.underlying t = some d) (w : World) : (underlying t).run P w = .ok d w := by
  simp [underlying, h]

theorem run_tagg {P : Program} {t : TypeId} {b : Bool} (h : tagg P t = some b) (w : World) : (isAgg t).run P w = .ok b w := by
  unfold tagg at h
  unfold isAgg
  split at h
  all_goals first
    | cases h; done
    | (rename_i hu; injection h with h; subst h; simp [run_under hu]; done)

/-! ### What a piece of the model gives -/
def Gives (P : Program) (ι : Inj) (ρ : Rho) (H : AH) (w : World) (s : Sem Value) (v : AV) (H' : AH) : Prop :=
  ∃ ι' w' x, s.run P w = .ok x w' ∧ VR ι' ρ v x ∧ HR ι' ρ H' w'.heap ∧ St ι H w ι' H' w'

theorem Gives.pure {P : Program} {ι : Inj} {ρ : Rho} {H : AH} {w : World} {s : Sem Value} {v : AV} {x : Value} (hH : HR ι ρ H w.heap)
    (hs : s.run P w = .ok x w) (hv : VR ι ρ v x) : Gives P ι ρ H w s v H := ⟨ι, w, x, hs, hv, hH, St.refl ι H w⟩

/-- Its cells. -/
def AV.cells : AV → List AV
  | .agg cs => cs
  | v => [v]

/-- May it lie in one cell? -/
def AV.one : AV → Bool
  | .agg _ => false
  | .tup _ => false
  | _ => true

theorem VR.one {ι : Inj} {ρ : Rho} {v : AV} {x : Value} (h : VR ι ρ v x) (h1 : v.one = true) : x.oneCell' = true := by
  cases h <;> first | rfl | (simp [AV.one] at h1)

theorem VRs.all_one {ι : Inj} {ρ : Rho} : ∀ {vs : List AV} {xs : List Value}, VRs ι ρ vs xs → vs.all AV.one = true → ∀ x ∈ xs, x.oneCell' = true
  | _, _, .nil, _ => by simp
  | _, _, .cons v x vs xs h t, ha => by
    simp only [List.all_cons, Bool.and_eq_true] at ha
    intro y hy
    rcases List.mem_cons.1 hy with rfl | hy
    · exact h.one ha.1
    · exact VRs.all_one t ha.2 y hy

theorem VR.cells {ι : Inj} {ρ : Rho} {v : AV} {x : Value} (h : VR ι ρ v x) : VRs ι ρ v.cells x.cells.toList := by
  cases h <;> first
    | (simp only [AV.cells, Value.cells]; first | assumption | exact .cons _ _ _ _ (by constructor <;> assumption) .nil)

/-! ### New variables -/
def newVarA (H : AH) (t : Nat) (cells : List AV) : Option (AV × AH) :=
  match cells.all AV.one, H.new ⟨cells, some cells.length, t, false⟩ with
  | true, some H' => some (.ptr H.next 0, H')
  | _, _ => none

theorem newVarA_ok {P : Program} {ι : Inj} {ρ : Rho} {H H' : AH} {w : World} {t : Nat} {cells : List AV} {v : AV} {x : Value}
    (hH : HR ι ρ H w.heap) (hx : VRs ι ρ cells x.cells.toList) (h : newVarA H t cells = some (v, H')) :
    Gives P ι ρ H w (do pure (.pointer (some (← newVar t x)))) v H' := by
  unfold newVarA at h
  split at h
  · rename_i H1 hone hn
    simp only [Option.some.injEq, Prod.mk.injEq] at h
    obtain ⟨rfl, rfl⟩ := h
    have hlen := hx.length
    have := HR.alloc (w' := { w with heap := w.heap.push (.cells x.cells t) }) hH hn (by simpa using Nat.le_of_eq hlen) (arr := x.cells)
      (fun r hr => by simp at hr; simpa [hr] using hlen.symm) (fun i u hu => by
        obtain ⟨y, hy, hr⟩ := hx.get i u hu
        exact ⟨y, by simpa using hy, hr⟩) rfl (fun _ => rfl) rfl rfl rfl
    refine ⟨_, { w with heap := w.heap.push (.cells x.cells t) }, .pointer (some ⟨w.heap.size, 0, none⟩), ?_, ?_, this.1, this.2⟩
    · simp [newVar, newRow]
    · have hp := VR.ptr (ι := upd ι H.next ⟨w.heap.size, 0, x.cells.size⟩) (ρ := ρ) H.next 0 ⟨w.heap.size, 0, x.cells.size⟩ (by simp [upd])
      simpa using hp
  · cases h

/-! ### Reading -/
def loadA (H : AH) (b o n : Nat) : Option (List AV) :=
  match H.get b with
  | some k => match Nat.ble (o + n) k.cells.length with
    | true => some ((k.cells.drop o).take n)
    | false => none
  | none => none

theorem loadA_ok {P : Program} {ι : Inj} {ρ : Rho} {H : AH} {w : World} {b o n : Nat} {vs : List AV} {L : Loc}
    (hH : HR ι ρ H w.heap) (hL : ι b = some L) (h : loadA H b o n = some vs) :
    ∃ xs : List Value, VRs ι ρ vs xs ∧ vs.length = n ∧ (loadCells ⟨L.blk, L.base + o, none⟩ n).run P w = .ok xs.toArray w ∧
      (n = 1 → ∃ x, xs = [x] ∧ w.cell? ⟨L.blk, L.base + o, none⟩ = some x) := by
  unfold loadA at h
  split at h
  · rename_i k hk
    split at h
    · rename_i hle
      have hle := Nat.le_of_ble_eq_true hle
      injection h with h; subst h
      obtain ⟨L', hL', cs, fz, h1, hz, h2, h3, h4, h5⟩ := hH.live b k hk
      rw [hL] at hL'; injection hL' with hL'; subst hL'
      have hget : ∀ (j : Nat) (hj : j < n), ∃ x, cs[L.base + o + j]? = some x ∧ VR ι ρ (k.cells[o + j]'(by omega)) x := fun j hj => by
        obtain ⟨x, hx, hr⟩ := h5 (o + j) (k.cells[o + j]'(by omega)) (by simp)
        exact ⟨x, by rw [Nat.add_assoc]; exact hx, hr⟩
      have hadd : ∀ j, (⟨L.blk, L.base + o, none⟩ : Addr).add j = ⟨L.blk, L.base + o + j, none⟩ := fun j => by unfold Addr.add; split <;> simp_all
      refine ⟨(cs.toList.drop (L.base + o)).take n, ?_, ?_, ?_, ?_⟩
      · refine VRs.of_get ?_ ?_
        · simp; omega
        · intro i v hv
          have hi : i < n := by
            rcases Nat.lt_or_ge i n with h | h
            · exact h
            · rw [List.getElem?_take, if_neg (by omega)] at hv; cases hv
          rw [List.getElem?_take, if_pos hi, List.getElem?_drop] at hv
          obtain ⟨x, hx, hr⟩ := hget i hi
          rw [List.getElem?_eq_getElem (by omega)] at hv
          injection hv with hv; subst hv
          exact ⟨x, by rw [List.getElem?_take, if_pos hi, List.getElem?_drop]; simpa using hx, hr⟩
      · simp; omega
      · have hl : ((cs.toList.drop (L.base + o)).take n).length = n := by simp; omega
        have := run_loadCells_list (P := P) w ⟨L.blk, L.base + o, none⟩ ((cs.toList.drop (L.base + o)).take n) (fun j v hv => by
          rw [hadd]
          have hj : j < n := by
            rcases Nat.lt_or_ge j n with h | h
            · exact h
            · rw [List.getElem?_take, if_neg (by omega)] at hv; cases hv
          rw [List.getElem?_take, if_pos hj, List.getElem?_drop] at hv
          simp only [World.cell?, h1]
          simpa using hv)
        rw [hl] at this
        exact this
      · intro hn1
        subst hn1
        obtain ⟨x, hx, hr⟩ := hget 0 (by omega)
        refine ⟨x, ?_, ?_⟩
        · have hlt : L.base + o < cs.toList.length := by simp; omega
          rw [List.drop_eq_getElem_cons hlt]
          simp only [Nat.add_zero] at hx
          rw [Array.getElem?_eq_getElem (by simpa using hlt)] at hx
          injection hx with hx
          simp [hx]
        · simp only [World.cell?, h1]
          simpa using hx
    · cases h
  · cases h

end
end Go.Proofs.YtpcbmenjbcpieaaGreatDoor.AM

/- An abstract machine for the model's code, part D: operations that neither read nor write memory. -/
set_option linter.unusedVariables false
set_option linter.unusedSimpArgs false
namespace Go.Proofs.YtpcbmenjbcpieaaGreatDoor.AM
open Go
noncomputable section

theorem wrap_in (k : IntKind) (n : Int) (h : k.min ≤ n ∧ n ≤ k.max) : k.wrap n = n := by
  cases k
  · exact IntWalk.i8_in n h
  · exact IntWalk.i16_in n h
  · exact IntWalk.i32_in n h
  · exact IntWalk.i64_in n h
  · exact IntWalk.u8_in n h
  · exact IntWalk.u16_in n h
  · exact IntWalk.u32_in n h
  · exact IntWalk.u64_in n h

/-- A number as a kind holds it. -/
def fitA (E : Env) (k : IntKind) (e : SI) : Option SI :=
  match e with
  | .lit n => some (.lit (k.wrap n))
  | e => match rng E e with
    | some (l, h) => match ileb k.min l && ileb h k.max with
      | true => some e
      | false => none
    | none => none

theorem fitA_ok {E : Env} {ρ : Rho} (hE : E.ok ρ) {k : IntKind} {e r : SI} (h : fitA E k e = some r) : r.ev ρ = k.wrap (e.ev ρ) := by
  unfold fitA at h
  split at h
  · injection h with h; subst h; rfl
  · split at h
    · rename_i l u hr
      split at h
      · rename_i hc
        injection h with h; subst h
        simp only [Bool.and_eq_true, ileb_iff] at hc
        have := rng_ok hE hr
        rw [wrap_in]
        omega
      · cases h
    · cases h

def addA : SI → SI → SI
  | .lit m, .lit n => .lit (m + n)
  | a, b => .add a b
def subA : SI → SI → SI
  | .lit m, .lit n => .lit (m - n)
  | a, b => .sub a b
def mulA : SI → SI → SI
  | .lit m, .lit n => .lit (m * n)
  | a, b => .mul a b
theorem addA_ev (ρ : Rho) (a b : SI) : (addA a b).ev ρ = a.ev ρ + b.ev ρ := by unfold addA; split <;> rfl
theorem subA_ev (ρ : Rho) (a b : SI) : (subA a b).ev ρ = a.ev ρ - b.ev ρ := by unfold subA; split <;> rfl
theorem mulA_ev (ρ : Rho) (a b : SI) : (mulA a b).ev ρ = a.ev ρ * b.ev ρ := by unfold mulA; split <;> rfl

/-- The rest by a number above 0. -/
def modA (E : Env) (a : SI) (m : Int) : Option SI :=
  match a with
  | .lit n => some (.lit (n.tmod m))
  | a => match rng E a with
    | some (l, h) => match iltb (-m) l && iltb h m with
      | true => some a
      | false => some (.mod a (.lit m))
    | none => some (.mod a (.lit m))

theorem modA_ok {E : Env} {ρ : Rho} (hE : E.ok ρ) {a r : SI} {m : Int} (h : modA E a m = some r) : r.ev ρ = (a.ev ρ).tmod m := by
  unfold modA at h
  split at h
  · injection h with h; subst h; rfl
  · split at h
    · rename_i l u hr
      split at h
      · rename_i hc
        injection h with h; subst h
        simp only [Bool.and_eq_true, iltb_iff] at hc
        have := rng_ok hE hr
        rcases Int.le_total 0 (a.ev ρ) with h0 | h0
        · rw [Int.tmod_eq_emod_of_nonneg h0, Int.emod_eq_of_lt h0 (by omega)]
        · obtain ⟨q, hq⟩ : ∃ q, a.ev ρ = -q := ⟨-a.ev ρ, by omega⟩
          rw [hq, Int.neg_tmod, Int.tmod_eq_emod_of_nonneg (by omega), Int.emod_eq_of_lt (by omega) (by omega)]
      · injection h with h; subst h; rfl
    · injection h with h; subst h; rfl

/-- The quotient and the rest of q * m + d by m. -/
def splitA (E : Env) (a : SI) (m : Int) : Option (SI × SI) :=
  match a with
  | .add (.mul q (.lit k)) d => match ieqb k m, rng E q, rng E d with
    | true, some (l, _), some (l', h') => match ileb 0 l && ileb 0 l' && iltb h' m with
      | true => some (q, d)
      | false => none
    | _, _, _ => none
  | _ => none

theorem splitA_ok {E : Env} {ρ : Rho} (hE : E.ok ρ) {a q d : SI} {m : Int} (h : splitA E a m = some (q, d)) :
    (a.ev ρ).tdiv m = q.ev ρ ∧ (a.ev ρ).tmod m = d.ev ρ ∧ 0 < m := by
  unfold splitA at h
  split at h
  · rename_i q' k d'
    split at h
    · rename_i l h1 l' h' e1 e2 e3
      split at h
      · rename_i hc
        simp only [Option.some.injEq, Prod.mk.injEq] at h
        obtain ⟨rfl, rfl⟩ := h
        have e1 := (ieqb_iff _ _).1 e1
        subst e1
        simp only [Bool.and_eq_true, ileb_iff, iltb_iff] at hc
        have r1 := rng_ok hE e2
        have r2 := rng_ok hE e3
        have hq : 0 ≤ q'.ev ρ := by omega
        have hd : 0 ≤ d'.ev ρ := by omega
        have hk : 0 < k := by omega
        simp only [SI.ev]
        have hpos : 0 ≤ q'.ev ρ * k := Int.mul_nonneg hq (by omega)
        refine ⟨?_, ?_, hk⟩
        · rw [Int.tdiv_eq_ediv_of_nonneg (by omega), Int.add_comm, Int.add_mul_ediv_right _ _ (by omega), Int.ediv_eq_zero_of_lt hd (by omega)]
          omega
        · rw [Int.tmod_eq_emod_of_nonneg (by omega), Int.add_comm, Int.add_mul_emod_self_right, Int.emod_eq_of_lt hd (by omega)]
      · cases h
    · cases h
  · cases h

/-! ### Texts -/
def strEq (E : Env) : List SI → List SI → Option Bool
  | [], [] => some true
  | [], _ :: _ => some false
  | _ :: _, [] => some false
  | a :: as, b :: bs => match seq E a b with
    | some false => some false
    | some true => strEq E as bs
    | none => match strEq E as bs with
      | some false => some false
      | _ => none

theorem strEq_ok {E : Env} {ρ : Rho} (hE : E.ok ρ) : ∀ {a b : List SI} {r : Bool}, strEq E a b = some r →
    (decide (a.map (SI.ev ρ) = b.map (SI.ev ρ)) = r)
  | [], [], r, h => by simp [strEq] at h; subst h; simp
  | [], _ :: _, r, h => by simp [strEq] at h; subst h; simp
  | _ :: _, [], r, h => by simp [strEq] at h; subst h; simp
  | a :: as, b :: bs, r, h => by
    unfold strEq at h
    split at h
    · rename_i hs
      injection h with h; subst h
      have := seq_ok hE hs
      simp only [decide_eq_false_iff_not] at this
      simp [this]
    · rename_i hs
      have := seq_ok hE hs
      simp only [decide_eq_true_eq] at this
      have ih := strEq_ok hE h
      simp only [List.map_cons, List.cons.injEq, this, true_and]
      exact ih
    · split at h
      · rename_i hs hr
        injection h with h; subst h
        have ih := strEq_ok hE hr
        simp only [decide_eq_false_iff_not] at ih
        simp [ih]
      · cases h

theorem strRel.eq_iff {ρ : Rho} {a b : List SI} {s t : ByteArray} (h : strRel ρ a s) (k : strRel ρ b t) :
    (s.toList == t.toList) = decide (a.map (SI.ev ρ) = b.map (SI.ev ρ)) := by
  rw [ByteArray.toList_eq, ByteArray.toList_eq, ← h, ← k, Bool.eq_iff_iff]
  simp only [beq_iff_eq, decide_eq_true_eq]
  constructor
  · intro e; rw [e]
  · intro e
    refine List.map_inj_right ?_ |>.1 e
    intro x y hxy
    have : x.toNat = y.toNat := Int.ofNat.inj hxy
    exact UInt8.toNat_inj.1 this

theorem strRel.size {ρ : Rho} {a : List SI} {s : ByteArray} (h : strRel ρ a s) : s.size = a.length := by
  have := congrArg List.length h
  simpa using this

theorem strRel.append {ρ : Rho} {a b : List SI} {s t : ByteArray} (h : strRel ρ a s) (k : strRel ρ b t) : strRel ρ (a ++ b) (s ++ t) := by
  unfold strRel at *
  simp [ByteArray.data_append, h, k]

theorem strRel.extract {ρ : Rho} {a : List SI} {s : ByteArray} (h : strRel ρ a s) (l u : Nat) : strRel ρ ((a.take u).drop l) (s.extract l u) := by
  unfold strRel at *
  simp only [ByteArray.data_extract, Array.toList_extract, List.extract_eq_take_drop, List.map_take, List.map_drop, h]
  rw [List.drop_take]

/-! ### Two operands -/
def cmpA (E : Env) (op : BinOp) (a b : SI) : Option Bool :=
  match op with
  | .eql => seq E a b
  | .neq => (seq E a b).map (!·)
  | .lss => slt E a b
  | .gtr => slt E b a
  | .leq => (slt E b a).map (!·)
  | .geq => (slt E a b).map (!·)
  | _ => none

/-- Texts of which not every byte is known, one behind the other. -/
def textA (op : BinOp) (a b : List Pc) : Option AV :=
  match op, Nat.blt (a.length + b.length) 1000000 with
  | .add, true => some (.text (a ++ b))
  | _, _ => none

theorem strRel.text {ρ : Rho} {a : List SI} {s : ByteArray} (h : strRel ρ a s) : textRel ρ (a.map .byte) s := by
  refine ⟨?_, ?_⟩
  · rw [show s.data.toList.map (fun b => (b.toNat : Int)) = a.map (SI.ev ρ) from h]
    clear h
    induction a with
    | nil => rfl
    | cons x l ih => simp only [List.map_cons, List.flatMap_cons, Pc.bytes, List.singleton_append, ih]
  · have : s.size = a.length := h.size
    simp; omega

theorem textRel.append {ρ : Rho} {a b : List Pc} {s t : ByteArray} (h : textRel ρ a s) (k : textRel ρ b t) : textRel ρ (a ++ b) (s ++ t) := by
  refine ⟨?_, ?_⟩
  · have e : (s ++ t).data.toList = s.data.toList ++ t.data.toList := by simp
    rw [e, List.map_append, h.1, k.1, List.flatMap_append]
  · have h2 := h.2; have k2 := k.2
    rw [ByteArray.size_append, List.length_append]; omega

def binA (P : Program) (E : Env) (op : BinOp) (t : TypeId) (x y : AV) : Option AV :=
  match x, y with
  | .int k a, .int k' b =>
    match decide (k = k') with
    | false => none
    | true => match op with
      | .add => (fitA E k (addA a b)).map (.int k)
      | .sub => (fitA E k (subA a b)).map (.int k)
      | .mul => (fitA E k (mulA a b)).map (.int k)
      | .rem => match b with
        | .lit m => match iltb 0 m with
          | true => match splitA E a m with
            | some (_, d) => some (.int k d)
            | none => (modA E a m).map (.int k)
          | false => none
        | _ => none
      | .quo => match a, b with
        | .lit n, .lit m => match ieqb m 0 with
          | true => none
          | false => some (.int k (.lit (k.wrap (n.tdiv m))))
        | a, .lit m => match splitA E a m with
          | some (q, _) => (fitA E k q).map (.int k)
          | none => none
        | _, _ => none
      | op => (cmpA E op a b).map .bool
  | .str a, .str b =>
    match op with
    | .add => match Nat.blt (a.length + b.length) 4294967296 with
      | true => some (.str (a ++ b))
      | false => none
    | .eql => (strEq E a b).map .bool
    | .neq => (strEq E a b).map fun r => .bool (!r)
    | _ => none
  | .str a, .text b => textA op (a.map .byte) b
  | .text a, .str b => textA op a (b.map .byte)
  | .text a, .text b => textA op a b
  | x, y => match P.underlying t, x, y with
    | some .bool, .bool a, .bool b => match op with
      | .eql => some (.bool (a == b))
      | .neq => some (.bool (!(a == b)))
      | _ => none
    | some (.pointer _), .nilp, .nilp => match op with | .eql => some (.bool true) | .neq => some (.bool false) | _ => none
    | some (.pointer _), .nilp, .ptr _ _ => match op with | .eql => some (.bool false) | .neq => some (.bool true) | _ => none
    | some (.pointer _), .ptr _ _, .nilp => match op with | .eql => some (.bool false) | .neq => some (.bool true) | _ => none
    | some (.slice _), .nils, .nils => match op with | .eql => some (.bool true) | .neq => some (.bool false) | _ => none
    | some (.slice _), .nils, .slice .. => match op with | .eql => some (.bool false) | .neq => some (.bool true) | _ => none
    | some (.slice _), .slice .., .nils => match op with | .eql => some (.bool false) | .neq => some (.bool true) | _ => none
    | _, _, _ => none

theorem eqGuard_run {P : Program} {w : World} {op : BinOp} {t : TypeId} {X Y : Operand} {x y : Value} (h : x.oneCell' = true) (hn : x ≠ .nilIface) :
    (eqGuard op t X Y x y).run P w = .ok () w := by
  cases x <;> first
    | (simp [Value.oneCell'] at h; done)
    | exact absurd rfl hn
    | (unfold eqGuard; split <;> rfl)

theorem cmpA_ok {E : Env} {ρ : Rho} (hE : E.ok ρ) {P : Program} {w : World} {op : BinOp} {a b : SI} {r : Bool} (h : cmpA E op a b = some r) :
    (Op.intCmp op (a.ev ρ) (b.ev ρ)).run P w = .ok (.bool r) w ∧ op ≠ .add ∧ op ≠ .sub ∧ op ≠ .mul ∧ op ≠ .quo ∧ op ≠ .rem ∧ op ≠ .and ∧ op ≠ .or ∧ op ≠ .xor ∧ op ≠ .andNot ∧ op ≠ .shl ∧ op ≠ .shr := by
  cases op <;> simp only [cmpA] at h
  case eql =>
    have := seq_ok hE h
    refine ⟨?_, by simp⟩
    simp only [Op.intCmp, Sem.run_pure, ← this, BEq.beq]
  case neq =>
    obtain ⟨q, hq, rfl⟩ := Option.map_eq_some_iff.1 h
    have := seq_ok hE hq
    refine ⟨?_, by simp⟩
    simp only [Op.intCmp, Sem.run_pure, ← this, bne, BEq.beq]
  case lss =>
    have := slt_ok hE h
    refine ⟨?_, by simp⟩
    simp only [Op.intCmp, Sem.run_pure, ← this]
  case gtr =>
    have := slt_ok hE h
    refine ⟨?_, by simp⟩
    simp only [Op.intCmp, Sem.run_pure, ← this]
  case leq =>
    obtain ⟨q, hq, rfl⟩ := Option.map_eq_some_iff.1 h
    have := slt_ok hE hq
    refine ⟨?_, by simp⟩
    simp only [Op.intCmp, Sem.run_pure, ← this, ← decide_not, Int.not_lt]
  case geq =>
    obtain ⟨q, hq, rfl⟩ := Option.map_eq_some_iff.1 h
    have := slt_ok hE hq
    refine ⟨?_, by simp⟩
    simp only [Op.intCmp, Sem.run_pure, ← this, ← decide_not, Int.not_lt]
  all_goals cases h

theorem equal_of {P : Program} {t : TypeId} {x y : Value} {w : World} {r : Result Bool} (h : ∀ d, (Op.equalIn (d + 1) t x y).run P w = r) : (Op.equal t x y).run P w = r := h 9999

theorem run_rem {P : Program} {w : World} {t : TypeId} {k : IntKind} {a m : Int} (hm : ¬ m = 0) : (binOp .rem t (.int k a) (.int k m)).run P w = .ok (.int k (a.tmod m)) w := by
  simp [binOp, Op.intDiv, hm]
theorem run_quo {P : Program} {w : World} {t : TypeId} {k : IntKind} {a m : Int} (hm : ¬ m = 0) : (binOp .quo t (.int k a) (.int k m)).run P w = .ok (.int k (k.wrap (a.tdiv m))) w := by
  simp [binOp, Op.intDiv, hm]

theorem textA_ok {P : Program} {ι : Inj} {ρ : Rho} {op : BinOp} {t : TypeId} {X Y : Operand} {a b : List Pc} {s u : ByteArray} {v : AV} {w : World}
    (hs : textRel ρ a s) (hu : textRel ρ b u) (h : textA op a b = some v) :
    ∃ z, (do eqGuard op t X Y (.string s) (.string u); binOp op t (.string s) (.string u) : Sem Value).run P w = .ok z w ∧ VR ι ρ v z := by
  unfold textA at h
  split at h
  · rename_i hb
    injection h with h; subst h
    have hb := Nat.le_of_ble_eq_true hb
    rw [Sem.run_bind, eqGuard_run rfl (by simp)]
    simp only [Result.andThen_ok]
    refine ⟨_, ?_, VR.text _ _ (hs.append hu)⟩
    have h1 := hs.2
    have h2 := hu.2
    have e : ¬ (((s.size + u.size : Nat) : Int) > IntKind.i64.max) := by
      simp only [IntKind.max, IntKind.signed, IntKind.bits]
      simp
      omega
    simp only [binOp, Op.stringOp, if_neg e, Sem.run_pure]
  · cases h

theorem binA_ok {P : Program} {E : Env} {ι : Inj} {ρ : Rho} (hE : E.ok ρ) {op : BinOp} {t : TypeId} {X Y : Operand} {a b v : AV} {x y : Value} {w : World}
    (hx : VR ι ρ a x) (hy : VR ι ρ b y) (h : binA P E op t a b = some v) :
    ∃ z, (do eqGuard op t X Y x y; binOp op t x y : Sem Value).run P w = .ok z w ∧ VR ι ρ v z := by
  unfold binA at h
  split at h
  · -- two whole numbers
    rename_i k a k' b
    cases hx; cases hy
    rw [Sem.run_bind, eqGuard_run rfl (by simp)]
    simp only [Result.andThen_ok]
    split at h
    · cases h
    rename_i hk
    have hk := of_decide_eq_true hk
    subst hk
    split at h
    · obtain ⟨q, hq, rfl⟩ := Option.map_eq_some_iff.1 h
      refine ⟨_, ?_, VR.int k q⟩
      simp only [binOp, ne_eq, not_true_eq_false, if_false, Op.intArith, Sem.run_pure, fitA_ok hE hq, addA_ev]
    · obtain ⟨q, hq, rfl⟩ := Option.map_eq_some_iff.1 h
      refine ⟨_, ?_, VR.int k q⟩
      simp only [binOp, ne_eq, not_true_eq_false, if_false, Op.intArith, Sem.run_pure, fitA_ok hE hq, subA_ev]
    · obtain ⟨q, hq, rfl⟩ := Option.map_eq_some_iff.1 h
      refine ⟨_, ?_, VR.int k q⟩
      simp only [binOp, ne_eq, not_true_eq_false, if_false, Op.intArith, Sem.run_pure, fitA_ok hE hq, mulA_ev]
    · split at h
      · split at h
        · rename_i m _ hm
          have hm := (iltb_iff _ _).1 hm
          split at h
          · rename_i q d hs
            injection h with h; subst h
            refine ⟨_, ?_, VR.int k d⟩
            rw [← (splitA_ok hE hs).2.1]
            exact run_rem (show ¬ m = 0 by omega)
          · obtain ⟨q, hq, rfl⟩ := Option.map_eq_some_iff.1 h
            refine ⟨_, ?_, VR.int k q⟩
            rw [modA_ok hE hq]
            exact run_rem (show ¬ m = 0 by omega)
        · cases h
      · cases h
    · split at h
      · split at h
        · cases h
        · rename_i n m _ hm
          injection h with h; subst h
          have hm : ¬ m = 0 := fun e => by rw [(ieqb_iff m 0).2 e] at hm; cases hm
          refine ⟨_, ?_, VR.int k _⟩
          exact run_quo hm
      · rename_i m _
        split at h
        · rename_i q d hs
          obtain ⟨u, hu, rfl⟩ := Option.map_eq_some_iff.1 h
          refine ⟨_, ?_, VR.int k u⟩
          obtain ⟨s1, s2, s3⟩ := splitA_ok hE hs
          rw [fitA_ok hE hu, ← s1]
          exact run_quo (show ¬ m = 0 by omega)
        · cases h
      · cases h
    · obtain ⟨q, hq, rfl⟩ := Option.map_eq_some_iff.1 h
      obtain ⟨h1, h2⟩ := cmpA_ok hE (P := P) (w := w) hq
      refine ⟨_, ?_, VR.bool q⟩
      rw [← h1]
      cases op <;> simp_all [binOp]
  · -- two texts
    rename_i a b
    cases hx with | str _ s hs =>
    cases hy with | str _ u hu =>
    rw [Sem.run_bind, eqGuard_run rfl (by simp)]
    simp only [Result.andThen_ok]
    split at h
    · split at h
      · rename_i hb
        injection h with h; subst h
        have hb := Nat.le_of_ble_eq_true hb
        refine ⟨_, ?_, VR.str _ _ (hs.append hu)⟩
        have e : ¬ (((s.size + u.size : Nat) : Int) > IntKind.i64.max) := by
          rw [hs.size, hu.size]
          simp only [IntKind.max, IntKind.signed, IntKind.bits]
          simp
          omega
        simp only [binOp, Op.stringOp, if_neg e, Sem.run_pure]
      · cases h
    · obtain ⟨q, hq, rfl⟩ := Option.map_eq_some_iff.1 h
      refine ⟨_, ?_, VR.bool q⟩
      simp only [binOp, Op.stringOp, Sem.run_pure, hs.eq_iff hu, strEq_ok hE hq]
    · obtain ⟨q, hq, rfl⟩ := Option.map_eq_some_iff.1 h
      refine ⟨_, ?_, VR.bool _⟩
      simp only [binOp, Op.stringOp, Sem.run_pure, hs.eq_iff hu, strEq_ok hE hq]
    · cases h
  · rename_i a b
    cases hx with | str _ s hs =>
    cases hy with | text _ u hu =>
    exact textA_ok hs.text hu h
  · rename_i a b
    cases hx with | text _ s hs =>
    cases hy with | str _ u hu =>
    exact textA_ok hs hu.text h
  · rename_i a b
    cases hx with | text _ s hs =>
    cases hy with | text _ u hu =>
    exact textA_ok hs hu h
  · split at h
    case h_8 => cases h
    all_goals
      rename P.underlying t = some _ => hu
      cases hx <;> cases hy
      rw [Sem.run_bind, eqGuard_run rfl (by simp)]
      simp only [Result.andThen_ok]
      split at h
      all_goals first
        | cases h; done
        | (injection h with h; subst h
           refine ⟨_, ?_, VR.bool _⟩
           simp only [binOp, Sem.run_bind]
           rw [equal_of fun d => by
             unfold Op.equalIn
             simp only [Sem.run_bind, run_under hu, Result.andThen_ok]
             rfl]
           rfl)

end
end Go.Proofs.YtpcbmenjbcpieaaGreatDoor.AM

/- An abstract machine for the model's code, part E: more operations that neither read nor write memory. -/
set_option linter.unusedVariables false
set_option linter.unusedSimpArgs false
namespace Go.Proofs.YtpcbmenjbcpieaaGreatDoor.AM
open Go
noncomputable section

theorem VRs.get? {ι : Inj} {ρ : Rho} {vs : List AV} {xs : List Value} (h : VRs ι ρ vs xs) {i : Nat} {v : AV} (e : vs[i]? = some v) : ∃ x, xs.toArray[i]? = some x ∧ VR ι ρ v x := by
  obtain ⟨x, hx, hr⟩ := h.get i v e
  exact ⟨x, by simpa using hx, hr⟩

/-! ### One operand -/
def unA (E : Env) (op : UnOp) (x : AV) : Option AV :=
  match op, x with
  | .not, .bool b => some (.bool (!b))
  | .neg, .int k e => (fitA E k (subA (.lit 0) e)).map (.int k)
  | _, _ => none

theorem unA_ok {P : Program} {E : Env} {ι : Inj} {ρ : Rho} (hE : E.ok ρ) {op : UnOp} {a v : AV} {x : Value} {w : World}
    (hx : VR ι ρ a x) (h : unA E op a = some v) : ∃ z, (Op.unary op x).run P w = .ok z w ∧ VR ι ρ v z := by
  unfold unA at h
  split at h
  · injection h with h; subst h; cases hx; exact ⟨_, rfl, VR.bool _⟩
  · obtain ⟨q, hq, rfl⟩ := Option.map_eq_some_iff.1 h
    cases hx
    refine ⟨_, ?_, VR.int _ q⟩
    simp only [Op.unary, Op.intArith, Sem.run_pure, fitA_ok hE hq, subA_ev, SI.ev]
  · cases h

/-! ### Conversions -/
def convA (P : Program) (E : Env) (src dst : TypeId) (x : AV) : Option AV :=
  match x with
  | .int _ e => match P.underlying src, P.underlying dst with
    | some _, some (.int k) => (fitA E k e).map (.int k)
    | _, _ => none
  | .str s => match P.underlying src, P.underlying dst with
    | some .string, some .string => some (.str s)
    | _, _ => none
  | _ => none

theorem convA_ok {P : Program} {E : Env} {ι : Inj} {ρ : Rho} (hE : E.ok ρ) {src dst : TypeId} {a v : AV} {x : Value} {w : World}
    (hx : VR ι ρ a x) (h : convA P E src dst a = some v) : ∃ z, (convert src dst x).run P w = .ok z w ∧ VR ι ρ v z := by
  unfold convA at h
  split at h
  · split at h
    · rename_i k' e d k hs hd
      obtain ⟨q, hq, rfl⟩ := Option.map_eq_some_iff.1 h
      cases hx
      refine ⟨_, ?_, VR.int _ q⟩
      simp only [convert, Sem.run_bind, run_under hs, run_under hd, Result.andThen_ok, Conv.intToInt, Sem.run_pure, fitA_ok hE hq]
    · cases h
  · split at h
    · rename_i s hs hd
      injection h with h; subst h
      cases hx with | str _ b hb =>
      refine ⟨_, ?_, VR.str _ _ hb⟩
      simp only [convert, Sem.run_bind, run_under hs, run_under hd, Result.andThen_ok, Sem.run_pure]
    · cases h
  · cases h

/-! ### Parts of what lies in no memory -/
def fieldsOf (P : Program) (s : TypeId) (f : Nat) : Option Field :=
  match P.underlying s with
  | some (.struct fs) => fs[f]?
  | _ => none

theorem fieldsOf_some {P : Program} {s : TypeId} {f : Nat} {q : Field} (h : fieldsOf P s f = some q) : ∃ fs, P.underlying s = some (.struct fs) ∧ fs[f]? = some q := by
  unfold fieldsOf at h
  split at h
  · rename_i fs hu; exact ⟨fs, hu, h⟩
  · cases h

def partA (P : Program) (t : TypeId) (cs : List AV) (o : Nat) : Option AV :=
  match tagg P t with
  | some true => match tsize P t with
    | some n => match Nat.ble (o + n) cs.length with
      | true => some (.agg ((cs.drop o).take n))
      | false => none
    | none => none
  | some false => cs[o]?
  | none => none

theorem partA_ok {P : Program} {ι : Inj} {ρ : Rho} {t : TypeId} {cs : List AV} {xs : List Value} {o : Nat} {v : AV} {w : World}
    (hx : VRs ι ρ cs xs) (h : partA P t cs o = some v) : ∃ z, (part t xs.toArray o).run P w = .ok z w ∧ VR ι ρ v z := by
  unfold partA at h
  split at h
  · rename_i ht
    split at h
    · rename_i n hn
      split at h
      · injection h with h; subst h
        refine ⟨.agg ((xs.drop o).take n).toArray, ?_, VR.agg _ _ ((hx.drop o).take n)⟩
        simp only [part, Sem.run_bind, run_tagg ht, run_tsize hn, Result.andThen_ok, if_true, Sem.run_pure]
        congr 2
        apply Array.ext'
        simp [List.take_drop]
      · cases h
    · cases h
  · rename_i ht
    obtain ⟨z, hz, hr⟩ := hx.get? h
    refine ⟨z, ?_, hr⟩
    simp only [part, Sem.run_bind, run_tagg ht, Result.andThen_ok, Bool.false_eq_true, if_false, hz]
    rfl
  · cases h

def fieldA (P : Program) (s : TypeId) (x : AV) (f : Nat) : Option AV :=
  match x, fieldsOf P s f with
  | .agg cs, some q => partA P q.type cs q.offset
  | _, _ => none

theorem fieldA_ok {P : Program} {ι : Inj} {ρ : Rho} {s : TypeId} {f : Nat} {a v : AV} {x : Value} {w : World}
    (hx : VR ι ρ a x) (h : fieldA P s a f = some v) : ∃ z, (Instr.field s x f).run P w = .ok z w ∧ VR ι ρ v z := by
  unfold fieldA at h
  split at h
  · rename_i cs q hq
    obtain ⟨fs, hu, hf⟩ := fieldsOf_some hq
    cases hx with | agg _ xs hxs =>
    obtain ⟨z, hz, hr⟩ := partA_ok (w := w) hxs h
    refine ⟨z, ?_, hr⟩
    simp only [Instr.field, Sem.run_bind, run_under hu, Result.andThen_ok, hf, asAgg, Sem.run_pure]
    exact hz
  · cases h

def extractA (x : AV) (i : Nat) : Option AV :=
  match x with
  | .tup vs => vs[i]?
  | _ => none

theorem extractA_ok {P : Program} {ι : Inj} {ρ : Rho} {i : Nat} {a v : AV} {x : Value} {w : World}
    (hx : VR ι ρ a x) (h : extractA a i = some v) : ∃ z, (Instr.extract x i).run P w = .ok z w ∧ VR ι ρ v z := by
  unfold extractA at h
  split at h
  · cases hx with | tup _ xs hxs =>
    obtain ⟨z, hz, hr⟩ := hxs.get? h
    exact ⟨z, by simp only [Instr.extract, hz]; rfl, hr⟩
  · cases h

/-! ### Addresses -/
def fieldAddrA (P : Program) (s : TypeId) (x : AV) (f : Nat) : Option AV :=
  match x, fieldsOf P s f with
  | .ptr b o, some q => match tsize P q.type with
    | some (_ + 1) => some (.ptr b (o + q.offset))
    | _ => none
  | _, _ => none

theorem addr_add (c o n : Nat) : (⟨c, o, none⟩ : Addr).add n = ⟨c, o + n, none⟩ := by unfold Addr.add; split <;> simp_all

theorem fieldAddrA_ok {P : Program} {ι : Inj} {ρ : Rho} {s : TypeId} {f : Nat} {a v : AV} {x : Value} {w : World}
    (hx : VR ι ρ a x) (h : fieldAddrA P s a f = some v) : ∃ z, (Instr.fieldAt s x f).run P w = .ok z w ∧ VR ι ρ v z := by
  unfold fieldAddrA at h
  split at h
  · rename_i b o q hq
    split at h
    · rename_i n hn
      injection h with h; subst h
      obtain ⟨fs, hu, hf⟩ := fieldsOf_some hq
      cases hx with | ptr _ _ L hL =>
      refine ⟨_, ?_, VR.ptr b (o + q.offset) L hL⟩
      simp only [Instr.fieldAt, Sem.run_bind, run_under hu, Result.andThen_ok, hf, Instr.sureAddr, Sem.run_pure, fieldPlace, run_tsize hn]
      simp [addr_add, Nat.add_assoc]
    · cases h
  · cases h

/-- The elements' size where a type is a slice type. -/
def elemSize (P : Program) (t : TypeId) : Option Nat :=
  match P.underlying t with
  | some (.slice e) => tsize P e
  | _ => none

theorem elemSize_some {P : Program} {t : TypeId} {n : Nat} (h : elemSize P t = some n) : ∃ e, P.underlying t = some (.slice e) ∧ tsize P e = some n := by
  unfold elemSize at h
  split at h
  · rename_i e hu; exact ⟨e, hu, h⟩
  · cases h

def indexAddrA (P : Program) (t : TypeId) (x i : AV) : Option AV :=
  match x, i with
  | .slice b o n _ es, .int _ (.lit (.ofNat j)) => match Nat.blt j n, elemSize P t with
    | true, some s => match Nat.beq s es with
      | true => some (.ptr b (o + j * es))
      | false => none
    | _, _ => none
  | _, _ => none

theorem indexAddrA_ok {P : Program} {ι : Inj} {ρ : Rho} {t : TypeId} {a i v : AV} {x y : Value} {w : World}
    (hx : VR ι ρ a x) (hy : VR ι ρ i y) (h : indexAddrA P t a i = some v) : ∃ z, (Instr.indexAt t x y).run P w = .ok z w ∧ VR ι ρ v z := by
  unfold indexAddrA at h
  split at h
  · rename_i b o n c es k j
    split at h
    · rename_i s hj hs
      split at h
      · rename_i he
        injection h with h; subst h
        obtain ⟨e, hu, hsz⟩ := elemSize_some hs
        have hj := Nat.le_of_ble_eq_true hj
        have he := Nat.eq_of_beq_eq_true he
        subst he
        cases hx with | slice _ _ _ _ _ L cc hL _ _ _ _ =>
        cases hy
        refine ⟨_, ?_, VR.ptr b (o + j * s) L hL⟩
        have e1 : (0 : Int) ≤ (SI.lit (Int.ofNat j)).ev ρ ∧ (SI.lit (Int.ofNat j)).ev ρ < (n : Int) := by
          simp only [SI.ev]
          exact ⟨by simp, by simp; omega⟩
        have e2 : ((SI.lit (Int.ofNat j)).ev ρ).toNat = j := by simp [SI.ev]
        simp only [Instr.indexAt, Sem.run_bind, asIntOf, Sem.run_pure, Result.andThen_ok, run_under hu, if_pos e1, run_tsize hsz, e2, addr_add, Nat.add_assoc]
      · cases h
    · cases h
  · cases h

def indexA (P : Program) (t : TypeId) (x i : AV) : Option AV :=
  match x, i with
  | .str s, .int _ (.lit (.ofNat j)) => match P.underlying t with
    | some .string => (s[j]?).map (.int .u8)
    | _ => none
  | _, _ => none

theorem strRel.get {ρ : Rho} {l : List SI} {s : ByteArray} (h : strRel ρ l s) {j : Nat} {e : SI} (he : l[j]? = some e) :
    ∃ b, s[j]? = some b ∧ (b.toNat : Int) = e.ev ρ := by
  unfold strRel at h
  have h1 : (l.map (SI.ev ρ))[j]? = some (e.ev ρ) := by simp [he]
  rw [← h] at h1
  simp only [List.getElem?_map, Option.map_eq_some_iff] at h1
  obtain ⟨b, hb, hv⟩ := h1
  have hlt : j < s.data.toList.length := (List.getElem?_eq_some_iff.1 hb).1
  have hsz : j < s.size := by simpa using hlt
  refine ⟨b, ?_, hv⟩
  rw [getElem?_pos s j hsz]
  have := (List.getElem?_eq_some_iff.1 hb).2
  simp only [Array.getElem_toList] at this
  rw [← this]
  rfl

theorem indexA_ok {P : Program} {ι : Inj} {ρ : Rho} {t : TypeId} {a i v : AV} {x y : Value} {w : World}
    (hx : VR ι ρ a x) (hy : VR ι ρ i y) (h : indexA P t a i = some v) : ∃ z, (Instr.index t x y).run P w = .ok z w ∧ VR ι ρ v z := by
  unfold indexA at h
  split at h
  · rename_i s k j
    split at h
    · rename_i hu
      obtain ⟨e, he, rfl⟩ := Option.map_eq_some_iff.1 h
      cases hx with | str _ b hb =>
      cases hy
      obtain ⟨c, hc, hv⟩ := hb.get he
      refine ⟨_, ?_, VR.int .u8 e⟩
      have e1 : (0 : Int) ≤ (SI.lit (Int.ofNat j)).ev ρ := by simp [SI.ev]
      have e2 : ((SI.lit (Int.ofNat j)).ev ρ).toNat = j := by simp [SI.ev]
      simp only [Instr.index, Sem.run_bind, asIntOf, Sem.run_pure, Result.andThen_ok, run_under hu, if_pos e1, e2, hc, hv]
    · cases h
  · cases h

end
end Go.Proofs.YtpcbmenjbcpieaaGreatDoor.AM

/- An abstract machine for the model's code, part F: structs and slices that are built, parts of slices and texts. -/
set_option linter.unusedVariables false
set_option linter.unusedSimpArgs false
namespace Go.Proofs.YtpcbmenjbcpieaaGreatDoor.AM
open Go
noncomputable section

/-! ### Cells put in the place of others -/
def putA {α : Type} (cs : List α) (o : Nat) (vs : List α) : List α := cs.take o ++ vs ++ cs.drop (o + vs.length)

theorem putA_length {α : Type} {cs vs : List α} {o : Nat} (h : o + vs.length ≤ cs.length) : (putA cs o vs).length = cs.length := by
  simp [putA]; omega

theorem VRs.put {ι : Inj} {ρ : Rho} {cs vs : List AV} {xs ys : List Value} {o : Nat} (h : VRs ι ρ cs xs) (k : VRs ι ρ vs ys) :
    VRs ι ρ (putA cs o vs) (putA xs o ys) := by
  unfold putA
  rw [k.length]
  exact ((h.take o).append k).append (h.drop _)

theorem putA_cons {α : Type} (cs : List α) (o : Nat) (v : α) (vs : List α) (h : o < cs.length) : putA cs o (v :: vs) = putA (cs.set o v) (o + 1) vs := by
  unfold putA
  have e1 : (cs.set o v).take (o + 1) = cs.take o ++ [v] := by
    rw [List.take_add_one]
    simp [h, List.take_set_of_le]
  have e2 : (cs.set o v).drop (o + 1 + vs.length) = cs.drop (o + (v :: vs).length) := by
    rw [List.drop_set_of_lt (by omega)]
    congr 1
    simp; omega
  rw [e1, e2]
  simp

theorem foldl_put (off : Nat) : ∀ (xs : List Value) (k : Nat) (cells : Array Value), off + k + xs.length ≤ cells.size →
    ((xs.zipIdx k).foldl (fun (cs : Array Value) (p : Value × Nat) => cs.setIfInBounds (off + p.2) p.1) cells).toList = putA cells.toList (off + k) xs
  | [], k, cells, _ => by simp [putA]
  | x :: xs, k, cells, h => by
    simp only [List.zipIdx_cons, List.foldl_cons]
    simp only [List.length_cons] at h
    rw [foldl_put off xs (k + 1) _ (by simp; omega), putA_cons _ _ _ _ (by simp; omega)]
    simp [Nat.add_assoc]

/-! ### Structs -/
def fillA (pl : Nat → Option (Nat × Nat)) (cs : List AV) : List (Nat × AV) → Option (List AV)
  | [] => some cs
  | (i, v) :: rest => match pl i with
    | some (o, n) => match Nat.beq v.cells.length n, Nat.ble (o + v.cells.length) cs.length with
      | true, true => fillA pl (putA cs o v.cells) rest
      | _, _ => none
    | none => none

inductive VPs (ι : Inj) (ρ : Rho) : List (Nat × AV) → List (Nat × Value) → Prop
  | nil : VPs ι ρ [] []
  | cons (i : Nat) (v : AV) (x : Value) (vs : List (Nat × AV)) (xs : List (Nat × Value)) : VR ι ρ v x → VPs ι ρ vs xs → VPs ι ρ ((i, v) :: vs) ((i, x) :: xs)

theorem fillA_ok {ι : Inj} {ρ : Rho} {pl : Nat → Option (Nat × Nat)} : ∀ {ps : List (Nat × AV)} {qs : List (Nat × Value)} {cs r : List AV} {xs : Array Value},
    VPs ι ρ ps qs → VRs ι ρ cs xs.toList → fillA pl cs ps = some r → ∃ ys, Instr.fill pl xs qs = some ys ∧ VRs ι ρ r ys.toList ∧ ys.size = xs.size
  | _, _, cs, r, xs, .nil, hc, h => by simp [fillA] at h; subst h; exact ⟨xs, rfl, hc, rfl⟩
  | _, _, cs, r, xs, .cons i v x vs ws hv ht, hc, h => by
    unfold fillA at h
    split at h
    · rename_i o n hp
      split at h
      · rename_i h1 h2
        have h1 := Nat.eq_of_beq_eq_true h1
        have h2 := Nat.le_of_ble_eq_true h2
        have hl := hv.cells.length
        have hcl := hc.length
        simp only [Array.length_toList] at hl hcl
        have hput : ((x.cells.zipIdx.foldl (fun (cs : Array Value) (c, j) => cs.setIfInBounds (o + j) c) xs)).toList = putA xs.toList o x.cells.toList := by
          rw [← Array.foldl_toList, Array.toList_zipIdx]
          exact foldl_put o x.cells.toList 0 xs (by simp; omega)
        obtain ⟨ys, h3, h4, h5⟩ := fillA_ok (xs := x.cells.zipIdx.foldl (fun (cs : Array Value) (c, j) => cs.setIfInBounds (o + j) c) xs) ht
          (by rw [hput]; exact hc.put hv.cells) h
        refine ⟨ys, ?_, h4, ?_⟩
        · simp only [Instr.fill, hp]
          rw [if_neg (by simp; omega)]
          exact h3
        · rw [h5, ← Array.length_toList, hput, putA_length (by simp; omega)]
          simp
      · cases h
    · cases h

/-- A struct type's fields: where each begins, and how long it is. -/
def places (P : Program) : List Field → Option (List (Nat × Nat))
  | [] => some []
  | f :: fs => match tsize P f.type, places P fs with
    | some n, some l => some ((f.offset, n) :: l)
    | _, _ => none

theorem places_ok {P : Program} (w : World) : ∀ {fs : List Field} {l : List (Nat × Nat)}, places P fs = some l →
    (fs.mapM (fun f => do pure (f.offset, ← sizeOf f.type) : Field → Sem (Nat × Nat))).run P w = .ok l w
  | [], l, h => by simp [places] at h; subst h; rfl
  | f :: fs, l, h => by
    unfold places at h
    split at h
    · rename_i n l' hn hl
      injection h with h; subst h
      have ih := places_ok w hl
      simp only [List.mapM_cons, Sem.run_bind, run_tsize hn, Result.andThen_ok, Sem.run_pure, ih]
    · cases h

def structA (P : Program) (t : TypeId) : Option (List (Nat × Nat)) :=
  match P.underlying t with
  | some (.struct fs) => places P fs.toList
  | _ => none

def buildA (P : Program) (t : TypeId) (parts : List (Nat × AV)) : Option AV :=
  match tzero P t, structA P t with
  | some zs, some pl => (fillA (pl[·]?) zs parts).map .agg
  | _, _ => none

theorem buildA_ok {P : Program} {ι : Inj} {ρ : Rho} {t : TypeId} {ps : List (Nat × AV)} {qs : Array (Nat × Value)} {v : AV} {w : World}
    (hp : VPs ι ρ ps qs.toList) (h : buildA P t ps = some v) : ∃ z, (Instr.build t qs).run P w = .ok z w ∧ VR ι ρ v z := by
  unfold buildA at h
  split at h
  · rename_i zs pl hz hpl
    obtain ⟨r, hr, rfl⟩ := Option.map_eq_some_iff.1 h
    obtain ⟨z, hz1, hz2⟩ := run_tzero hz w
    unfold structA at hpl
    split at hpl
    · rename_i fs hu
      have hm := places_ok w hpl
      obtain ⟨ys, h1, h2, _⟩ := fillA_ok hp (ofVs_ok hz2).1 hr
      refine ⟨.agg ys, ?_, by simpa using VR.agg _ _ h2⟩
      simp only [Instr.build, Sem.run_bind, hz1, run_under hu, Result.andThen_ok]
      rw [Array.mapM_eq_mapM_toList]
      simp only [Sem.run_map, hm, Result.andThen_ok]
      have : (fun x : Nat => (pl.toArray)[x]?) = (fun x : Nat => pl[x]?) := by funext x; simp
      simp only [this, h1]
      rfl
    · cases hpl
  · cases h

/-! ### Cells all of one make -/
def repA : Nat → List AV → List AV
  | 0, _ => []
  | n + 1, zs => zs ++ repA n zs

theorem repA_length (zs : List AV) : ∀ n, (repA n zs).length = n * zs.length
  | 0 => by simp [repA]
  | n + 1 => by simp only [repA, List.length_append, repA_length zs n, Nat.succ_mul]; omega

theorem repA_get (zs : List AV) : ∀ (n i : Nat) (v : AV), (repA n zs)[i]? = some v → zs[i % zs.length]? = some v
  | 0, i, v, h => by simp [repA] at h
  | n + 1, i, v, h => by
    simp only [repA, List.getElem?_append] at h
    split at h
    · rename_i hi
      rw [Nat.mod_eq_of_lt hi]; exact h
    · rename_i hi
      have := repA_get zs n _ v h
      rwa [← Nat.mod_eq_sub_mod (by omega)] at this

theorem repA_rel {ι : Inj} {ρ : Rho} {zs : List AV} {z : Array Value} (h : VRs ι ρ zs z.toList) (n : Nat) :
    VRs ι ρ (repA n zs) ((Array.range (n * z.size)).map (z[· % z.size]!)).toList := by
  have hl := h.length
  simp only [Array.length_toList] at hl
  refine VRs.of_get (by simp [repA_length, hl]) fun i v hv => ?_
  have h1 := repA_get zs n i v hv
  have hlt : i < n * z.size := by
    have := (List.getElem?_eq_some_iff.1 hv).1
    rwa [repA_length, hl] at this
  obtain ⟨x, hx, hr⟩ := h.get _ v h1
  refine ⟨x, ?_, hr⟩
  rw [hl] at hx
  have hx' : z[i % z.size]? = some x := by simpa using hx
  simp [hlt]
  have hm := (Array.getElem?_eq_some_iff.1 hx').1
  rw [getElem!_pos z _ hm]
  exact (Array.getElem?_eq_some_iff.1 hx').2

/-! ### Slices made -/
def newRowA (H : AH) (e : Nat) (cells : List AV) : Option (AV × AH) :=
  match cells.all AV.one, H.new ⟨cells, some cells.length, e, false⟩ with
  | true, some H' => some (.ptr H.next 0, H')
  | _, _ => none

/-- A slice of a new row of its own. -/
def newSliceA (H : AH) (e n c es : Nat) (cells : List AV) : Option (AV × AH) :=
  match Nat.beq (c * es) cells.length, Nat.blt 0 es, Nat.ble n c with
  | true, true, true => match H.new ⟨cells, some cells.length, e, false⟩ with
    | some H' => some (.slice H.next 0 n (some c) es, H')
    | none => none
  | _, _, _ => none

theorem newSliceA_ok {P : Program} {ι : Inj} {ρ : Rho} {H H' : AH} {w : World} {e n c es : Nat} {cells : List AV} {v : AV} {xs : Array Value}
    (hH : HR ι ρ H w.heap) (hx : VRs ι ρ cells xs.toList) (h : newSliceA H e n c es cells = some (v, H')) :
    Gives P ι ρ H w (do pure (.slice (some (← newRow e xs)) n c)) v H' := by
  unfold newSliceA at h
  split at h
  · rename_i h1 h2 h3
    have h1 := Nat.eq_of_beq_eq_true h1
    have h2 := Nat.le_of_ble_eq_true h2
    have h3 := Nat.le_of_ble_eq_true h3
    split at h
    · rename_i H1 hn
      simp only [Option.some.injEq, Prod.mk.injEq] at h
      obtain ⟨rfl, rfl⟩ := h
      have hlen := hx.length
      simp only [Array.length_toList] at hlen
      have := HR.alloc (w' := { w with heap := w.heap.push (.cells xs e) }) hH hn (Nat.le_of_eq hlen) (arr := xs)
        (fun r hr => by simp at hr; omega) (fun i u hu => by
          obtain ⟨y, hy, hr⟩ := hx.get i u hu
          exact ⟨y, by simpa using hy, hr⟩) rfl (fun _ => rfl) rfl rfl rfl
      refine ⟨_, { w with heap := w.heap.push (.cells xs e) }, .slice (some ⟨w.heap.size, 0, none⟩) n c, ?_, ?_, this.1, this.2⟩
      · simp [newRow]
      · have hp := VR.slice (ι := upd ι H.next ⟨w.heap.size, 0, xs.size⟩) (ρ := ρ) H.next 0 n (some c) es ⟨w.heap.size, 0, xs.size⟩ c (by simp [upd]) h3 h2
          (fun k hk => by injection hk with hk; subst hk; exact ⟨rfl, by simp; omega⟩) (fun hk => by cases hk)
        simpa using hp
    · cases h
  · cases h

def buildSliceA (P : Program) (H : AH) (t : TypeId) (len : Nat) (parts : List (Nat × AV)) : Option (AV × AH) :=
  match P.underlying t with
  | some (.slice e) => match tsize P e, tzero P e with
    | some es, some zs => match Nat.beq zs.length es, Nat.blt (len * es) 1000000 with
      | true, true => match fillA (fun i => some (i * es, es)) (repA len zs) parts with
        | some cells => newSliceA H e len len es cells
        | none => none
      | _, _ => none
    | _, _ => none
  | _ => none

theorem buildSliceA_ok {P : Program} {ι : Inj} {ρ : Rho} {H H' : AH} {w : World} {t : TypeId} {len : Nat} {ps : List (Nat × AV)} {qs : Array (Nat × Value)} {v : AV}
    (hH : HR ι ρ H w.heap) (hp : VPs ι ρ ps qs.toList) (h : buildSliceA P H t len ps = some (v, H')) :
    Gives P ι ρ H w (Instr.buildSlice t len qs) v H' := by
  unfold buildSliceA at h
  split at h
  · rename_i e hu
    split at h
    · rename_i es zs hes hzs
      split at h
      · rename_i h1 h2
        have h1 := Nat.eq_of_beq_eq_true h1
        have h2 := Nat.le_of_ble_eq_true h2
        split at h
        · rename_i cells hf
          obtain ⟨z, hz1, hz2⟩ := run_tzero hzs w
          have hzl := (ofVs_ok (ι := ι) (ρ := ρ) hz2).1
          have hzn := hzl.length
          simp only [Array.length_toList] at hzn
          -- the zero cells as the model makes them
          have key : ∃ zero : Array Value, (len * es = 0 → zero = #[]) ∧ (¬ len * es = 0 → zero = z.cells) ∧
              VRs ι ρ (repA len zs) ((Array.range (len * es)).map (zero[· % zero.size]!)).toList := by
            by_cases h0 : len * es = 0
            · refine ⟨#[], fun _ => rfl, fun h => absurd h0 h, ?_⟩
              have : repA len zs = [] := List.eq_nil_of_length_eq_zero (by rw [repA_length, h1]; exact h0)
              rw [this, h0]
              simpa using VRs.nil
            · refine ⟨z.cells, fun h => absurd h h0, fun _ => rfl, ?_⟩
              have := repA_rel hzl len
              have e0 : z.cells.size = es := by omega
              rw [e0] at this ⊢
              exact this
          obtain ⟨zero, hk0, hk1, hk2⟩ := key
          obtain ⟨ys, g1, g2, g3⟩ := fillA_ok (pl := fun i => some (i * es, es)) hp hk2 hf
          have hG := newSliceA_ok (P := P) hH g2 h
          obtain ⟨ι', w', x, r1, r2⟩ := hG
          refine ⟨ι', w', x, ?_, r2⟩
          rw [← r1]
          simp only [Instr.buildSlice, Sem.run_bind, run_under hu, Result.andThen_ok, run_tsize hes]
          rw [if_neg (by omega)]
          by_cases h0 : len * es = 0
          · obtain rfl := hk0 h0
            rw [if_pos h0]
            simp only [Sem.run_bind, Sem.run_pure, Result.andThen_ok, g1]
          · obtain rfl := hk1 h0
            rw [if_neg h0]
            simp only [Sem.run_bind, hz1, Sem.run_pure, Result.andThen_ok, g1]
        · cases h
      · cases h
    · cases h
  · cases h

end
end Go.Proofs.YtpcbmenjbcpieaaGreatDoor.AM

/- An abstract machine for the model's code, part G: parts of texts and slices; variables, reading and storing. -/
set_option linter.unusedVariables false
set_option linter.unusedSimpArgs false
namespace Go.Proofs.YtpcbmenjbcpieaaGreatDoor.AM
open Go
noncomputable section

/-- A place that is a known number, not below 0. -/
def natA : AV → Option Nat
  | .int _ (.lit (.ofNat j)) => some j
  | _ => none

theorem natA_ok {ι : Inj} {ρ : Rho} {a : AV} {x : Value} {j : Nat} (hx : VR ι ρ a x) (h : natA a = some j) : ∃ k, x = .int k (j : Int) := by
  unfold natA at h
  split at h
  · injection h with h; subst h
    cases hx
    exact ⟨_, rfl⟩
  · cases h

theorem sliceBound_ok {P : Program} {w : World} {k : IntKind} {j y : Nat} {c : BoundsCode} (h : j ≤ y) : (Instr.sliceBound (.int k (j : Int)) y c).run P w = .ok j w := by
  have e : (0 : Int) ≤ (j : Int) ∧ (j : Int) ≤ (y : Int) := by omega
  simp only [Instr.sliceBound, asIntOf, Sem.run_bind, Sem.run_pure, Result.andThen_ok, if_pos e, Int.toNat_natCast]

/-- An operand that may be left out, and what it is. -/
inductive VO (ι : Inj) (ρ : Rho) : Option AV → Option Value → Prop
  | none : VO ι ρ none none
  | some (v : AV) (x : Value) : VR ι ρ v x → VO ι ρ (some v) (some x)

def loA : Option AV → Option Nat
  | none => some 0
  | some v => natA v
def hiA (n : Nat) : Option AV → Option Nat
  | none => some n
  | some v => natA v

/-! ### Parts of a text -/
def sliceStrA (s : List SI) (lo hi : Option AV) : Option AV :=
  match loA lo, hiA s.length hi with
  | some l, some h => match Nat.ble l h, Nat.ble h s.length with
    | true, true => some (.str ((s.take h).drop l))
    | _, _ => none
  | _, _ => none

theorem sliceStr_run {P : Program} {ι : Inj} {ρ : Rho} {t : TypeId} {s : List SI} {b : ByteArray} {lo hi : Option AV} {lo' hi' : Option Value} {v : AV} {w : World}
    (hu : P.underlying t = some .string) (hs : strRel ρ s b) (hl : VO ι ρ lo lo') (hh : VO ι ρ hi hi') (h : sliceStrA s lo hi = some v) :
    ∃ z, (Instr.slice t (.string b) lo' hi' none).run P w = .ok z w ∧ VR ι ρ v z := by
  unfold sliceStrA at h
  split at h
  · rename_i l u h1 h2
    split at h
    · rename_i h3 h4
      have h3 := Nat.le_of_ble_eq_true h3
      have h4 := Nat.le_of_ble_eq_true h4
      injection h with h; subst h
      refine ⟨_, ?_, VR.str _ _ (hs.extract l u)⟩
      have hb : (Instr.sliceBounds false b.size b.size lo' hi' none).run P w = .ok (l, u, b.size) w := by
        have hsz := hs.size
        cases hl with
        | none =>
          simp only [loA, Option.some.injEq] at h1
          subst h1
          cases hh with
          | none => simp only [hiA, Option.some.injEq] at h2; subst h2; simp [Instr.sliceBounds, hsz]
          | some v x hv =>
            obtain ⟨k, rfl⟩ := natA_ok hv h2
            simp only [Instr.sliceBounds, Sem.run_bind, Sem.run_pure, Result.andThen_ok]
            rw [sliceBound_ok (by omega)]
            rfl
        | some v x hv =>
          obtain ⟨k, rfl⟩ := natA_ok hv h1
          cases hh with
          | none =>
            simp only [hiA, Option.some.injEq] at h2
            simp only [Instr.sliceBounds, Sem.run_bind, Sem.run_pure, Result.andThen_ok]
            rw [sliceBound_ok (by omega)]
            simp [hsz, h2]
          | some v x hv =>
            obtain ⟨k', rfl⟩ := natA_ok hv h2
            simp only [Instr.sliceBounds, Sem.run_bind, Sem.run_pure, Result.andThen_ok]
            rw [sliceBound_ok (by omega)]
            simp only [Sem.run_bind, Sem.run_pure, Result.andThen_ok]
            rw [sliceBound_ok (by omega)]
            rfl
      simp only [Instr.slice, Sem.run_bind, run_under hu, Result.andThen_ok, Option.isSome_none, Bool.false_eq_true, if_false, hb, Sem.run_pure]
    · cases h
  · cases h

/-! ### Parts of a slice -/
/-- The most that a slice's upper end may be, as far as it is known. -/
def mostA (n : Nat) : Option Nat → Nat
  | some k => k
  | none => n

def sliceSliceA (x : AV) (lo hi mx : Option AV) : Option AV :=
  match x with
  | .nils => match loA lo, hiA 0 hi, hiA 0 mx with
    | some 0, some 0, some 0 => match mx, hi with
      | some _, none => none
      | _, _ => some .nils
    | _, _, _ => none
  | .slice b o n cap es => match loA lo, hiA n hi with
    | some l, some h => match mx with
      | none => match Nat.ble l h, Nat.ble h (mostA n cap), Nat.beq l 0 || Nat.blt l (mostA n cap) with
        | true, true, true => some (.slice b (o + l * es) (h - l) (cap.map (· - l)) es)
        | _, _, _ => none
      | some mv => match hi, natA mv with
        | some _, some m => match Nat.ble l h, Nat.ble h m, Nat.ble m (mostA n cap) with
          | true, true, true => some (.slice b (if Nat.beq m l then o else o + l * es) (h - l) (some (m - l)) es)
          | _, _, _ => none
        | _, _ => none
    | _, _ => none
  | _ => none

theorem VR.slice_inv {ι : Inj} {ρ : Rho} {b o n es : Nat} {cap : Option Nat} {x : Value} (h : VR ι ρ (.slice b o n cap es) x) :
    ∃ L c, x = .slice (some ⟨L.blk, L.base + o, none⟩) n c ∧ ι b = some L ∧ n ≤ c ∧ 0 < es ∧ mostA n cap ≤ c ∧ o + c * es ≤ L.size ∧
      (∀ k, cap = some k → c = k) ∧ (cap = none → o + c * es = L.size) := by
  cases h with | slice _ _ _ _ _ L c hL h1 h2 h3 h4 =>
  refine ⟨L, c, rfl, hL, h1, h2, ?_, ?_, fun k hk => (h3 k hk).1, h4⟩
  · cases cap with
    | none => exact h1
    | some k => have := (h3 k rfl).1; simp [mostA, this]
  · cases cap with
    | none => exact Nat.le_of_eq (h4 rfl)
    | some k => obtain ⟨e, h⟩ := h3 k rfl; rw [e]; exact h

theorem sliceSlice_run {P : Program} {ι : Inj} {ρ : Rho} {t e : TypeId} {a : AV} {x : Value} {lo hi mx : Option AV} {lo' hi' mx' : Option Value} {v : AV} {w : World} {es : Nat}
    (hu : P.underlying t = some (.slice e)) (hes : tsize P e = some es) (hes' : ∀ b o n c q, a = .slice b o n c q → q = es)
    (hx : VR ι ρ a x) (hl : VO ι ρ lo lo') (hh : VO ι ρ hi hi') (hm : VO ι ρ mx mx') (h : sliceSliceA a lo hi mx = some v) :
    ∃ z, (Instr.slice t x lo' hi' mx').run P w = .ok z w ∧ VR ι ρ v z := by
  unfold sliceSliceA at h
  split at h
  · -- nil
    cases hx
    split at h
    · rename_i h1 h2 h3
      have hb : (Instr.sliceBounds true 0 0 lo' hi' mx').run P w = .ok (0, 0, 0) w := by
        cases hm with
        | none =>
          cases hh with
          | none =>
            cases hl with
            | none => rfl
            | some v x hv =>
              obtain ⟨k, rfl⟩ := natA_ok hv h1
              simp only [Instr.sliceBounds, Sem.run_bind, Sem.run_pure, Result.andThen_ok]
              rw [sliceBound_ok (Nat.le_refl 0)]
              rfl
          | some v x hv =>
            obtain ⟨k, rfl⟩ := natA_ok hv h2
            cases hl with
            | none =>
              simp only [Instr.sliceBounds, Sem.run_bind, Sem.run_pure, Result.andThen_ok]
              rw [sliceBound_ok (Nat.le_refl 0)]
              rfl
            | some v x hv =>
              obtain ⟨k', rfl⟩ := natA_ok hv h1
              simp only [Instr.sliceBounds, Sem.run_bind, Sem.run_pure, Result.andThen_ok]
              rw [sliceBound_ok (Nat.le_refl 0)]
              simp only [Sem.run_bind, Sem.run_pure, Result.andThen_ok]
              rw [sliceBound_ok (Nat.le_refl 0)]
              rfl
        | some m y hv =>
          obtain ⟨q, rfl⟩ := natA_ok hv h3
          cases hh with
          | none => simp at h
          | some v x hv =>
            obtain ⟨k, rfl⟩ := natA_ok hv h2
            cases hl with
            | none =>
              simp only [Instr.sliceBounds, Sem.run_bind, Sem.run_pure, Result.andThen_ok]
              rw [sliceBound_ok (Nat.le_refl 0)]
              simp only [Sem.run_bind, Sem.run_pure, Result.andThen_ok]
              rw [sliceBound_ok (Nat.le_refl 0)]
              rfl
            | some v x hv =>
              obtain ⟨k', rfl⟩ := natA_ok hv h1
              simp only [Instr.sliceBounds, Sem.run_bind, Sem.run_pure, Result.andThen_ok]
              rw [sliceBound_ok (Nat.le_refl 0)]
              simp only [Sem.run_bind, Sem.run_pure, Result.andThen_ok]
              rw [sliceBound_ok (Nat.le_refl 0)]
              simp only [Sem.run_bind, Sem.run_pure, Result.andThen_ok]
              rw [sliceBound_ok (Nat.le_refl 0)]
              rfl
      have hv : v = .nils := by
        split at h
        · cases h
        · injection h with h; exact h.symm
      subst hv
      refine ⟨.slice none 0 0, ?_, VR.nils⟩
      simp only [Instr.slice, Sem.run_bind, run_under hu, Result.andThen_ok, hb, run_tsize hes, Sem.run_pure]
      rfl
    · cases h
  · rename_i b o n cap es'
    obtain rfl := hes' _ _ _ _ _ rfl
    obtain ⟨L, c, rfl, hL, hnc, hpos, hmc, hsz, hcap, hopen⟩ := hx.slice_inv
    split at h
    · rename_i l u h1 h2
      split at h
      · -- no third index
        cases hm
        split at h
        · rename_i h3 h4 h5
          have h3 := Nat.le_of_ble_eq_true h3
          have h4 := Nat.le_of_ble_eq_true h4
          simp only [Bool.or_eq_true] at h5
          injection h with h; subst h
          have hb : (Instr.sliceBounds true n c lo' hi' none).run P w = .ok (l, u, c) w := by
            cases hh with
            | none =>
              simp only [hiA, Option.some.injEq] at h2
              subst h2
              cases hl with
              | none => simp only [loA, Option.some.injEq] at h1; subst h1; rfl
              | some v x hv =>
                obtain ⟨k, rfl⟩ := natA_ok hv h1
                simp only [Instr.sliceBounds, Sem.run_bind, Sem.run_pure, Result.andThen_ok]
                rw [sliceBound_ok h3]
                rfl
            | some v x hv =>
              obtain ⟨k, rfl⟩ := natA_ok hv h2
              cases hl with
              | none =>
                simp only [loA, Option.some.injEq] at h1
                subst h1
                simp only [Instr.sliceBounds, Sem.run_bind, Sem.run_pure, Result.andThen_ok, if_true]
                rw [sliceBound_ok (by omega)]
                rfl
              | some v x hv =>
                obtain ⟨k', rfl⟩ := natA_ok hv h1
                simp only [Instr.sliceBounds, Sem.run_bind, Sem.run_pure, Result.andThen_ok, if_true]
                rw [sliceBound_ok (by omega)]
                simp only [Sem.run_bind, Sem.run_pure, Result.andThen_ok]
                rw [sliceBound_ok h3]
                rfl
          have hl0 : l = 0 ∨ l < c := by
            rcases h5 with h5 | h5
            · exact .inl (Nat.eq_of_beq_eq_true h5)
            · have := Nat.le_of_ble_eq_true h5; right; omega
          have haddr : (if c = l then some (⟨L.blk, L.base + o, none⟩ : Addr) else (some (⟨L.blk, L.base + o, none⟩ : Addr)).map (·.add (l * es'))) = some ⟨L.blk, L.base + (o + l * es'), none⟩ := by
            split
            · rename_i hcl
              rcases hl0 with rfl | hlt
              · simp
              · omega
            · simp [addr_add, Nat.add_assoc]
          have hle : l * es' ≤ c * es' := Nat.mul_le_mul_right _ (by omega)
          refine ⟨_, ?_, VR.slice b (o + l * es') (u - l) (cap.map (· - l)) es' L (c - l) hL (by omega) hpos ?_ ?_⟩
          · simp only [Instr.slice, Sem.run_bind, run_under hu, Result.andThen_ok, hb, run_tsize hes, Sem.run_pure, haddr]
          · intro k hk
            obtain ⟨k0, hk0, rfl⟩ := Option.map_eq_some_iff.1 hk
            obtain rfl := hcap k0 hk0
            refine ⟨rfl, ?_⟩
            rw [Nat.sub_mul]; omega
          · intro hk
            have := hopen (by simpa using hk)
            rw [Nat.sub_mul]; omega
        · cases h
      · rename_i mv
        split at h
        · rename_i hv0 m h6 
          split at h
          · rename_i h3 h4 h5
            have h3 := Nat.le_of_ble_eq_true h3
            have h4 := Nat.le_of_ble_eq_true h4
            have h5 := Nat.le_of_ble_eq_true h5
            injection h with h; subst h
            cases hm with | some _ y hmv =>
            obtain ⟨q, rfl⟩ := natA_ok hmv h6
            cases hh with | some _ y2 hhv =>
            obtain ⟨q2, rfl⟩ := natA_ok hhv h2
            have hb : (Instr.sliceBounds true n c lo' (some (.int q2 (u : Int))) (some (.int q (m : Int)))).run P w = .ok (l, u, m) w := by
              cases hl with
              | none =>
                simp only [loA, Option.some.injEq] at h1
                subst h1
                simp only [Instr.sliceBounds, Sem.run_bind, Sem.run_pure, Result.andThen_ok, if_true]
                rw [sliceBound_ok (by omega)]
                simp only [Sem.run_bind, Sem.run_pure, Result.andThen_ok]
                rw [sliceBound_ok (by omega)]
                rfl
              | some v x hv =>
                obtain ⟨k', rfl⟩ := natA_ok hv h1
                simp only [Instr.sliceBounds, Sem.run_bind, Sem.run_pure, Result.andThen_ok, if_true]
                rw [sliceBound_ok (by omega)]
                simp only [Sem.run_bind, Sem.run_pure, Result.andThen_ok]
                rw [sliceBound_ok (by omega)]
                simp only [Sem.run_bind, Sem.run_pure, Result.andThen_ok]
                rw [sliceBound_ok h3]
                rfl
            have hle : m * es' ≤ c * es' := Nat.mul_le_mul_right _ (by omega)
            have hle2 : l * es' ≤ m * es' := Nat.mul_le_mul_right _ (by omega)
            have haddr : (if m = l then some (⟨L.blk, L.base + o, none⟩ : Addr) else (some (⟨L.blk, L.base + o, none⟩ : Addr)).map (·.add (l * es'))) = some ⟨L.blk, L.base + (if Nat.beq m l then o else o + l * es'), none⟩ := by
              by_cases e0 : m = l
              · rw [if_pos e0, nbeq_true e0]; rfl
              · rw [if_neg e0, nbeq_false e0]; simp [addr_add, Nat.add_assoc]
            refine ⟨_, ?_, VR.slice b (if Nat.beq m l then o else o + l * es') (u - l) (some (m - l)) es' L (m - l) hL (by omega) hpos ?_ (fun hk => by cases hk)⟩
            · simp only [Instr.slice, Sem.run_bind, run_under hu, Result.andThen_ok, hb, run_tsize hes, Sem.run_pure, haddr]
            · intro k hk
              injection hk with hk; subst hk
              refine ⟨rfl, ?_⟩
              by_cases e0 : m = l
              · subst e0; rw [nbeq_true rfl]; simp; omega
              · rw [nbeq_false e0, Nat.sub_mul]; simp; omega
          · cases h
        · cases h
    · cases h
  · cases h

end
end Go.Proofs.YtpcbmenjbcpieaaGreatDoor.AM

/- An abstract machine for the model's code, part H: variables, reading, storing; append, clear, make. -/
set_option linter.unusedVariables false
set_option linter.unusedSimpArgs false
namespace Go.Proofs.YtpcbmenjbcpieaaGreatDoor.AM
open Go
noncomputable section

/-! ### Variables -/
def allocA (P : Program) (H : AH) (t : TypeId) : Option (AV × AH) :=
  match tzero P t with
  | some zs => newVarA H t zs
  | none => none

theorem allocA_ok {P : Program} {ι : Inj} {ρ : Rho} {H H' : AH} {w : World} {t : TypeId} {v : AV}
    (hH : HR ι ρ H w.heap) (h : allocA P H t = some (v, H')) : Gives P ι ρ H w (Instr.alloc t true (.tuple #[])) v H' := by
  unfold allocA at h
  split at h
  · rename_i zs hz
    obtain ⟨z, hz1, hz2⟩ := run_tzero hz w
    obtain ⟨ι', w', x, r1, r2⟩ := newVarA_ok (P := P) hH (ofVs_ok hz2).1 h
    refine ⟨ι', w', x, ?_, r2⟩
    rw [← r1]
    simp only [Instr.alloc, Sem.run_bind, hz1, Result.andThen_ok]
  · cases h

def boxA (H : AH) (t : TypeId) (v : AV) : Option (AV × AH) := newVarA H t v.cells

theorem boxA_ok {P : Program} {ι : Inj} {ρ : Rho} {H H' : AH} {w : World} {t : TypeId} {a v : AV} {x : Value}
    (hH : HR ι ρ H w.heap) (hx : VR ι ρ a x) (h : boxA H t a = some (v, H')) : Gives P ι ρ H w (Instr.box t x) v H' :=
  newVarA_ok (P := P) hH hx.cells h

/-! ### Reading -/
def loadVarA (P : Program) (H : AH) (t : TypeId) (x : AV) : Option AV :=
  match x with
  | .ptr b o => match tagg P t with
    | some true => match tsize P t with
      | some n => match loadA H b o n with
        | some vs => some (.agg vs)
        | none => none
      | none => none
    | some false => match loadA H b o 1 with
      | some [v] => some v
      | _ => none
    | none => none
  | _ => none

theorem loadVarA_ok {P : Program} {ι : Inj} {ρ : Rho} {H : AH} {w : World} {t : TypeId} {a v : AV} {x : Value}
    (hH : HR ι ρ H w.heap) (hx : VR ι ρ a x) (h : loadVarA P H t a = some v) : ∃ z, (Instr.loadAt t x).run P w = .ok z w ∧ VR ι ρ v z := by
  unfold loadVarA at h
  split at h
  · rename_i b o
    cases hx with | ptr _ _ L hL =>
    split at h
    · rename_i ht
      split at h
      · rename_i n hn
        split at h
        · rename_i vs hvs
          injection h with h; subst h
          obtain ⟨xs, h1, h2, h3, h4⟩ := loadA_ok (P := P) hH hL hvs
          refine ⟨_, ?_, VR.agg vs xs h1⟩
          simp only [Instr.loadAt, Instr.sureAddr, loadVar, Sem.run_bind, Sem.run_pure, Result.andThen_ok, run_tagg ht, if_true, run_tsize hn, h3]
        · cases h
      · cases h
    · rename_i ht
      split at h
      · rename_i v' hvs
        injection h with h; subst h
        obtain ⟨xs, h1, h2, h3, h4⟩ := loadA_ok (P := P) hH hL hvs
        obtain ⟨x, rfl, hc⟩ := h4 rfl
        cases h1 with | cons _ _ _ _ hv _ =>
        refine ⟨x, ?_, hv⟩
        simp only [Instr.loadAt, Instr.sureAddr, loadVar, Sem.run_bind, Sem.run_pure, Result.andThen_ok, run_tagg ht, Bool.false_eq_true, if_false, run_load, hc]
      · cases h
    · cases h
  · cases h

/-! ### Storing -/
def storeCellsA (H : AH) (b o : Nat) (vs : List AV) : Option AH :=
  match H.get b with
  | some k => match Nat.ble (o + vs.length) k.cells.length, vs.all AV.one, k.ro with
    | true, true, false => some (H.put b (some { k with cells := putA k.cells o vs }))
    | _, _, _ => none
  | none => none

theorem storeCellsA_ok {P : Program} {ι : Inj} {ρ : Rho} {H H' : AH} {w : World} {b o : Nat} {vs : List AV} {xs : List Value} {L : Loc}
    (hH : HR ι ρ H w.heap) (hL : ι b = some L) (hv : VRs ι ρ vs xs) (h : storeCellsA H b o vs = some H') :
    ∃ w', (storeCells ⟨L.blk, L.base + o, none⟩ xs).run P w = .ok () w' ∧ HR ι ρ H' w'.heap ∧ St ι H w ι H' w' := by
  unfold storeCellsA at h
  split at h
  · rename_i k hk
    split at h
    · rename_i h1 h2 hro
      have h1 := Nat.le_of_ble_eq_true h1
      injection h with h; subst h
      obtain ⟨M, hM, cs, fz, g1, gz, g2, g3, g4, g5⟩ := hH.live b k hk
      obtain rfl := gz hro
      rw [hL] at hM; injection hM with hM; subst hM
      have hlen := hv.length
      have hrun := run_storeCells_at (P := P) L.blk (L.base + o) k.ty xs 0 cs w g1 (by omega) (hv.all_one h2)
      simp only [Nat.add_zero] at hrun
      have hsz : (cs.toList.take (L.base + o) ++ xs ++ cs.toList.drop (L.base + o + xs.length)).toArray.size = cs.size := by simp; omega
      have := hH.write (w' := w.setRow L.blk (cs.toList.take (L.base + o) ++ xs ++ cs.toList.drop (L.base + o + xs.length)).toArray)
        (cells := putA k.cells o vs) hk hL g1 hsz (putA_length h1) ?_ (setRow_heap w L.blk cs _ _ _ g1) (fun c hc => setRow_other w L.blk c _ hc) (setRow_size ..) rfl rfl rfl
      · exact ⟨_, hrun, this.1, this.2⟩
      · intro i v hi
        have hilt : i < k.cells.length := by
          have := (List.getElem?_eq_some_iff.1 hi).1
          rwa [putA_length h1] at this
        simp only [putA, List.append_assoc] at hi
        simp only [List.append_assoc, List.getElem?_toArray]
        by_cases c1 : i < o
        · rw [List.getElem?_append_left (by simp; omega), List.getElem?_take, if_pos c1] at hi
          obtain ⟨x, hx, hr⟩ := g5 i v hi
          refine ⟨x, ?_, hr⟩
          rw [List.getElem?_append_left (by simp; omega), List.getElem?_take, if_pos (by omega)]
          simpa using hx
        · rw [List.getElem?_append_right (by simp; omega)] at hi
          simp only [List.length_take, Nat.min_eq_left (show o ≤ k.cells.length by omega)] at hi
          by_cases c2 : i < o + vs.length
          · rw [List.getElem?_append_left (by omega)] at hi
            obtain ⟨x, hx, hr⟩ := hv.get _ v hi
            refine ⟨x, ?_, hr⟩
            rw [List.getElem?_append_right (by simp; omega)]
            simp only [List.length_take, Array.length_toList, Nat.min_eq_left (show L.base + o ≤ cs.size by omega)]
            rw [List.getElem?_append_left (by omega)]
            rw [show L.base + i - (L.base + o) = i - o by omega]
            exact hx
          · rw [List.getElem?_append_right (by omega), List.getElem?_drop] at hi
            rw [show o + vs.length + (i - o - vs.length) = i by omega] at hi
            obtain ⟨x, hx, hr⟩ := g5 i v hi
            refine ⟨x, ?_, hr⟩
            rw [List.getElem?_append_right (by simp; omega)]
            simp only [List.length_take, Array.length_toList, Nat.min_eq_left (show L.base + o ≤ cs.size by omega)]
            rw [List.getElem?_append_right (by omega), List.getElem?_drop]
            rw [show L.base + o + xs.length + (L.base + i - (L.base + o) - xs.length) = L.base + i by omega]
            simpa using hx
    · cases h
  · cases h

def storeVarA (P : Program) (H : AH) (t : TypeId) (x v : AV) : Option AH :=
  match x with
  | .ptr b o => match tsize P t with
    | some n => match Nat.beq v.cells.length n with
      | true => storeCellsA H b o v.cells
      | false => none
    | none => none
  | _ => none

theorem storeVarA_ok {P : Program} {ι : Inj} {ρ : Rho} {H H' : AH} {w : World} {t : TypeId} {a v : AV} {x y : Value}
    (hH : HR ι ρ H w.heap) (hx : VR ι ρ a x) (hy : VR ι ρ v y) (h : storeVarA P H t a v = some H') :
    ∃ w', (Instr.storeAt t x y).run P w = .ok () w' ∧ HR ι ρ H' w'.heap ∧ St ι H w ι H' w' := by
  unfold storeVarA at h
  split at h
  · rename_i b o
    cases hx with | ptr _ _ L hL =>
    split at h
    · rename_i n hn
      split at h
      · rename_i h1
        have h1 := Nat.eq_of_beq_eq_true h1
        obtain ⟨w', r1, r2⟩ := storeCellsA_ok (P := P) hH hL hy.cells h
        refine ⟨w', ?_, r2⟩
        have hl := hy.cells.length
        simp only [Array.length_toList] at hl
        simp only [Instr.storeAt, Instr.sureAddr, storeVar, Sem.run_bind, Sem.run_pure, Result.andThen_ok, run_tsize hn]
        rw [if_neg (by simp; omega)]
        exact r1
      · cases h
    · cases h
  · cases h

/-! ### How many -/
def lenA (P : Program) (t : TypeId) (x : AV) : Option AV :=
  match P.underlying t, x with
  | some .string, .str s => some (.int .i64 (.lit (s.length : Int)))
  | some (.slice _), .nils => some (.int .i64 (.lit 0))
  | some (.slice _), .slice _ _ n _ _ => some (.int .i64 (.lit (n : Int)))
  | _, _ => none

theorem lenA_ok {P : Program} {ι : Inj} {ρ : Rho} {w : World} {t t' : TypeId} {ts : Array TypeId} {a v : AV} {x : Value}
    (ht : ts[0]? = some t) (hx : VR ι ρ a x) (h : lenA P t a = some v) : ∃ z, (Builtin.len_ ts t' #[x]).run P w = .ok z w ∧ VR ι ρ v z := by
  unfold lenA at h
  split at h
  · rename_i s hu
    injection h with h; subst h
    cases hx with | str _ b hb =>
    refine ⟨_, ?_, VR.int .i64 (.lit (s.length : Int))⟩
    simp [Builtin.len_, ht, run_under hu, goInt, SI.ev, hb.size]
  · rename_i e hu
    injection h with h; subst h
    cases hx
    refine ⟨_, ?_, VR.int .i64 (.lit 0)⟩
    simp [Builtin.len_, ht, run_under hu, goInt, SI.ev]
  · rename_i e b o n c es hu
    injection h with h; subst h
    cases hx
    refine ⟨_, ?_, VR.int .i64 (.lit (n : Int))⟩
    simp [Builtin.len_, ht, run_under hu, goInt, SI.ev]
  · cases h

def capA (P : Program) (t : TypeId) (x : AV) : Option AV :=
  match P.underlying t, x with
  | some (.slice _), .nils => some (.int .i64 (.lit 0))
  | some (.slice _), .slice _ _ _ (some k) _ => some (.int .i64 (.lit (k : Int)))
  | _, _ => none

theorem capA_ok {P : Program} {ι : Inj} {ρ : Rho} {w : World} {t t' : TypeId} {ts : Array TypeId} {a v : AV} {x : Value}
    (ht : ts[0]? = some t) (hx : VR ι ρ a x) (h : capA P t a = some v) : ∃ z, (Builtin.cap_ ts t' #[x]).run P w = .ok z w ∧ VR ι ρ v z := by
  unfold capA at h
  split at h
  · rename_i e hu
    injection h with h; subst h
    cases hx
    refine ⟨_, ?_, VR.int .i64 (.lit 0)⟩
    simp [Builtin.cap_, ht, run_under hu, goInt, SI.ev]
  · rename_i e b o n k es hu
    injection h with h; subst h
    obtain ⟨L, c, rfl, _, _, _, _, _, hk, _⟩ := hx.slice_inv
    obtain rfl := hk k rfl
    refine ⟨_, ?_, VR.int .i64 (.lit (c : Int))⟩
    simp [Builtin.cap_, ht, run_under hu, goInt, SI.ev]
  · cases h

/-- The greater, the lesser of two. -/
def maxA (E : Env) (x y : AV) : Option AV :=
  match x, y with
  | .int k a, .int _ b => match slt E a b with
    | some true => some (.int k b)
    | some false => some (.int k a)
    | none => none
  | _, _ => none
def minA (E : Env) (x y : AV) : Option AV :=
  match x, y with
  | .int k a, .int _ b => match slt E b a with
    | some true => some (.int k b)
    | some false => some (.int k a)
    | none => none
  | _, _ => none

theorem maxA_ok {P : Program} {E : Env} {ι : Inj} {ρ : Rho} (hE : E.ok ρ) {w : World} {t' : TypeId} {ts : Array TypeId} {a b v : AV} {x y : Value}
    (hx : VR ι ρ a x) (hy : VR ι ρ b y) (h : maxA E a b = some v) : ∃ z, (Builtin.max_ ts t' #[x, y]).run P w = .ok z w ∧ VR ι ρ v z := by
  unfold maxA at h
  split at h
  · rename_i k a k' b
    cases hx; cases hy
    split at h
    · rename_i hs
      injection h with h; subst h
      have := of_decide_eq_true (slt_ok hE hs)
      exact ⟨_, by simp [Builtin.max_, Builtin.max2, this], VR.int k b⟩
    · rename_i hs
      injection h with h; subst h
      have := of_decide_eq_false (slt_ok hE hs)
      exact ⟨_, by simp [Builtin.max_, Builtin.max2, this], VR.int k a⟩
    · cases h
  · cases h

theorem minA_ok {P : Program} {E : Env} {ι : Inj} {ρ : Rho} (hE : E.ok ρ) {w : World} {t' : TypeId} {ts : Array TypeId} {a b v : AV} {x y : Value}
    (hx : VR ι ρ a x) (hy : VR ι ρ b y) (h : minA E a b = some v) : ∃ z, (Builtin.min_ ts t' #[x, y]).run P w = .ok z w ∧ VR ι ρ v z := by
  unfold minA at h
  split at h
  · rename_i k a k' b
    cases hx; cases hy
    split at h
    · rename_i hs
      injection h with h; subst h
      have := of_decide_eq_true (slt_ok hE hs)
      exact ⟨_, by simp [Builtin.min_, Builtin.min2, this], VR.int k b⟩
    · rename_i hs
      injection h with h; subst h
      have := of_decide_eq_false (slt_ok hE hs)
      exact ⟨_, by simp [Builtin.min_, Builtin.min2, this], VR.int k a⟩
    · cases h
  · cases h

end
end Go.Proofs.YtpcbmenjbcpieaaGreatDoor.AM
