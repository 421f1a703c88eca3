/- An abstract machine for the model's code: append, one operation, a frame, regions, the machine itself. Second part. -/
import Derived.Test.YtpcbmenjbcpieaaGreatDoorMaA
import Derived.Deep.AppendSrc
import Derived.Laws.IdiomStrings
/- An abstract machine for the model's code, part I: append. -/
set_option linter.unusedVariables false
set_option linter.unusedSimpArgs false
namespace Go.Proofs.YtpcbmenjbcpieaaGreatDoor.AM
open Go
noncomputable section

/-! ### A block given up -/
theorem HR.kill {ι : Inj} {ρ : Rho} {H : AH} {w : World} {b : Nat} (h : HR ι ρ H w.heap) (hb : b < 16000001) :
    HR ι ρ (H.put b none) w.heap ∧ St ι H w ι (H.put b none) w := by
  have hget := fun m => AH.put_get (H := H) (k := none) hb m
  have hsome : ∀ m q, (H.put b none).get m = some q → H.get m = some q := fun m q hm => by
    rw [hget] at hm
    by_cases e : m = b
    · rw [if_pos e] at hm; cases hm
    · rw [if_neg e] at hm; exact hm
  constructor
  · refine ⟨fun m q hm => h.live m q (hsome m q hm), fun m m' q q' M M' hm hm' => h.inj m m' q q' M M' (hsome m q hm) (hsome m' q' hm'), fun m q hm => h.lt m q (hsome m q hm), h.dom, h.small, h.lo, h.base⟩
  · refine ⟨Ext.refl ι, rfl, rfl, rfl, Nat.le_refl _, fun _ _ _ => rfl, ?_, fun _ _ hq => .inl hq, Nat.le_refl _, fun m q hm _ => ⟨q, hsome m q hm⟩⟩
    rintro c ⟨m, q, M, hm, hM, rfl⟩
    exact .inl ⟨m, q, M, hsome m q hm, hM, rfl⟩

/-- A block of the model seen from another cell on, under a new number; its old number is given up. -/
theorem HR.rename {ι : Inj} {ρ : Rho} {H H' : AH} {w w' : World} {b o : Nat} {k : Blk} {L : Loc} {cells : List AV} {cs cs' : Array Value}
    (h : HR ι ρ H w.heap) (hb : H.get b = some k) (hL : ι b = some L) (hc : w.heap[L.blk]? = some (.cells cs k.ty (0, 0)))
    (hn : (H.put b none).new ⟨cells, none, k.ty, false⟩ = some H') (ho : o ≤ L.size) (hle : cells.length ≤ L.size - o)
    (hsz : cs'.size = cs.size)
    (hv : ∀ (i : Nat) (v : AV), cells[i]? = some v → ∃ x : Value, cs'[L.base + o + i]? = some x ∧ VR ι ρ v x)
    (hin : w'.heap[L.blk]? = some (.cells cs' k.ty (0, 0))) (hout : ∀ c, c ≠ L.blk → w'.heap[c]? = w.heap[c]?) (hhs : w'.heap.size = w.heap.size)
    (hos : w'.os = w.os) (ht : w'.tape = w.tape) (hu : w'.output = w.output) :
    HR (upd ι H.next ⟨L.blk, L.base + o, L.size - o⟩) ρ H' w'.heap ∧ St ι H w (upd ι H.next ⟨L.blk, L.base + o, L.size - o⟩) H' w' := by
  have hbl : b < 16000001 := Nat.lt_trans (h.lt b k hb) h.small
  have hput := fun m => AH.put_get (H := H) (k := none) hbl m
  obtain ⟨hlt, hnx, hget⟩ := AH.new_spec hn
  have hnext : (H.put b none).next = H.next := rfl
  rw [hnext] at hlt hnx hget
  have hbn : b < H.next := h.lt b k hb
  have hnone := h.none_next
  have hext := upd_ext (L := ⟨L.blk, L.base + o, L.size - o⟩) hnone
  have hold : ∀ m q, H'.get m = some q → m ≠ H.next → H.get m = some q ∧ m ≠ b := fun m q hm hne => by
    rw [hget, if_neg hne, hput] at hm
    by_cases e : m = b
    · rw [if_pos e] at hm; cases hm
    · rw [if_neg e] at hm; exact ⟨hm, e⟩
  obtain ⟨M0, hM0, cs0, fz0, g1, gz, g2, g3, g4, g5⟩ := h.live b k hb
  rw [hL] at hM0; injection hM0 with hM0; subst hM0
  rw [hc] at g1
  injection g1 with g1; injection g1 with g1; subst g1
  constructor
  · constructor
    · intro m q hm
      by_cases e : m = H.next
      · rw [hget, if_pos e] at hm
        injection hm with hm; subst hm
        refine ⟨⟨L.blk, L.base + o, L.size - o⟩, by rw [upd, if_pos e], cs', (0, 0), hin, fun _ => rfl, ?_, hle, fun r hr => by simp at hr, fun i v hi => ?_⟩
        · rw [hsz, g2]; simp; omega
        · obtain ⟨x, hx, hr⟩ := hv i v hi
          exact ⟨x, hx, hr.mono hext⟩
      · obtain ⟨hm', hne⟩ := hold m q hm e
        obtain ⟨M, hM, hB⟩ := h.live m q hm'
        exact ⟨M, hext _ _ hM, hB.mono hext (hout _ (h.inj m b q k M L hm' hb hM hL hne))⟩
    · intro m m' q q' M M' hm hm' hM hM' hne
      unfold upd at hM hM'
      by_cases e : m = H.next
      · by_cases e' : m' = H.next
        · exact absurd (e.trans e'.symm) hne
        · rw [if_pos e] at hM; rw [if_neg e'] at hM'
          injection hM with hM; subst hM
          obtain ⟨hm2, hne2⟩ := hold m' q' hm' e'
          exact fun hh => h.inj m' b q' k M' L hm2 hb hM' hL hne2 hh.symm
      · rw [if_neg e] at hM
        obtain ⟨hm1, hne1⟩ := hold m q hm e
        by_cases e' : m' = H.next
        · rw [if_pos e'] at hM'
          injection hM' with hM'; subst hM'
          exact h.inj m b q k M L hm1 hb hM hL hne1
        · rw [if_neg e'] at hM'
          obtain ⟨hm2, hne2⟩ := hold m' q' hm' e'
          exact h.inj m m' q q' M M' hm1 hm2 hM hM' hne
    · intro m q hm
      by_cases e : m = H.next
      · omega
      · have := h.lt m q (hold m q hm e).1; omega
    · intro m M hM
      unfold upd at hM
      by_cases e : m = H.next
      · omega
      · rw [if_neg e] at hM
        have := h.dom m M hM; omega
    · omega
    · intro m M hM
      unfold upd at hM
      by_cases e : m = H.next
      · rw [if_pos e] at hM; injection hM with hM; subst hM; exact h.lo b L hL
      · rw [if_neg e] at hM; exact h.lo m M hM
    · exact ⟨by rw [hhs]; exact h.base.sz, fun c hc => (hout c (fun e => by have := h.lo b L hL; omega)).trans (h.base.same c hc)⟩
  · refine ⟨hext, hos, ht, hu, by omega, fun c hc' hn' => hout c fun e => hn' ⟨b, k, L, hb, hL, e.symm⟩, ?_, ?_, by omega, ?_⟩
    · rintro c ⟨m, q, M, hm, hM, rfl⟩
      unfold upd at hM
      by_cases e : m = H.next
      · rw [if_pos e] at hM; injection hM with hM; subst hM
        exact .inl ⟨b, k, L, hb, hL, rfl⟩
      · rw [if_neg e] at hM
        exact .inl ⟨m, q, M, (hold m q hm e).1, hM, rfl⟩
    · intro m M hM
      unfold upd at hM
      by_cases e : m = H.next
      · exact .inr (by omega)
      · rw [if_neg e] at hM; exact .inl hM
    · intro m q hm hlt'
      exact ⟨q, (hold m q hm (by omega)).1⟩

/-! ### What is appended -/
theorem loadA_cells {ι : Inj} {ρ : Rho} {H : AH} {w : World} {b o n : Nat} {vs : List AV} {L : Loc}
    (hH : HR ι ρ H w.heap) (hL : ι b = some L) (h : loadA H b o n = some vs) :
    ∃ xs : List Value, VRs ι ρ vs xs ∧ xs.length = n ∧ ∀ j u, xs[j]? = some u → w.cell? ⟨L.blk, L.base + o + j, none⟩ = some u := by
  unfold loadA at h
  split at h
  · rename_i k hk
    split at h
    · rename_i hle
      have hle := Nat.le_of_ble_eq_true hle
      injection h with h; subst h
      obtain ⟨L', hL', cs, fz, h1, hz, h2, h3, h4, h5⟩ := hH.live b k hk
      rw [hL] at hL'; injection hL' with hL'; subst hL'
      refine ⟨(cs.toList.drop (L.base + o)).take n, VRs.of_get ?_ ?_, by simp; omega, ?_⟩
      · simp; omega
      · intro i v hv
        have hi : i < n := by
          rcases Nat.lt_or_ge i n with h | h
          · exact h
          · rw [List.getElem?_take, if_neg (by omega)] at hv; cases hv
        rw [List.getElem?_take, if_pos hi, List.getElem?_drop] at hv
        obtain ⟨x, hx, hr⟩ := h5 (o + i) v hv
        refine ⟨x, ?_, hr⟩
        rw [List.getElem?_take, if_pos hi, List.getElem?_drop, Nat.add_assoc]
        simpa using hx
      · intro j u hu
        have hi : j < n := by
          rcases Nat.lt_or_ge j n with h | h
          · exact h
          · rw [List.getElem?_take, if_neg (by omega)] at hu; cases hu
        rw [List.getElem?_take, if_pos hi, List.getElem?_drop] at hu
        simp only [World.cell?, h1]
        simpa using hu
    · cases h
  · cases h

def srcA (P : Program) (H : AH) (size : Nat) (tx : TypeId) (x : AV) : Option (Nat × List AV) :=
  match x, P.underlying tx with
  | .slice b o n _ es, some (.slice _) => match Nat.beq es size, loadA H b o (n * es) with
    | true, some vs => match vs.all AV.one with
      | true => some (n, vs)
      | false => none
    | _, _ => none
  | .nils, some (.slice _) => some (0, [])
  | .str s, some .string => match Nat.beq size 1 with
    | true => some (s.length, s.map (.int .u8))
    | false => none
  | _, _ => none

theorem byteCells_rel {ι : Inj} {ρ : Rho} {l : List SI} {s : ByteArray} (h : strRel ρ l s) : VRs ι ρ (l.map (.int .u8)) (byteCells s) := by
  have e : byteCells s = l.map (fun e => Value.int .u8 (e.ev ρ)) := by
    unfold byteCells
    have h' : s.data.toList.map (fun b => Value.int .u8 (b.toNat : Int)) = (s.data.toList.map (fun b => (b.toNat : Int))).map (Value.int .u8) := by
      rw [List.map_map]; rfl
    rw [h', h, List.map_map]
    rfl
  rw [e]
  clear h e
  induction l with
  | nil => exact .nil
  | cons a l ih => exact .cons _ _ _ _ (VR.int .u8 a) ih

theorem srcA_ok {P : Program} {ι : Inj} {ρ : Rho} {H : AH} {w : World} {size : Nat} {tx : TypeId} {a : AV} {x : Value} {n : Nat} {vs : List AV}
    (hH : HR ι ρ H w.heap) (hx : VR ι ρ a x) (h : srcA P H size tx a = some (n, vs)) :
    ∃ news, Src P size tx x n news w ∧ VRs ι ρ vs news ∧ vs.all AV.one = true := by
  unfold srcA at h
  split at h
  · rename_i b o n' c es e hu
    split at h
    · rename_i us h1 h2
      have h1 := Nat.eq_of_beq_eq_true h1
      split at h
      · rename_i h3
        simp only [Option.some.injEq, Prod.mk.injEq] at h
        obtain ⟨rfl, rfl⟩ := h
        subst h1
        obtain ⟨L, c, rfl, hL, hnc, hpos, _⟩ := hx.slice_inv
        obtain ⟨xs, g1, g2, g3⟩ := loadA_cells hH hL h2
        exact ⟨xs, Src.ofSlice w hu _ _ _ xs g2 (fun j u hj => by rw [addr_add]; exact g3 j u hj) (g1.all_one h3), g1, h3⟩
      · cases h
    · cases h
  · rename_i e hu
    simp only [Option.some.injEq, Prod.mk.injEq] at h
    obtain ⟨rfl, rfl⟩ := h
    cases hx
    exact ⟨[], Src.ofNil w hu 0, .nil, rfl⟩
  · rename_i s hu
    split at h
    · rename_i h1
      have h1 := Nat.eq_of_beq_eq_true h1
      simp only [Option.some.injEq, Prod.mk.injEq] at h
      obtain ⟨rfl, rfl⟩ := h
      subst h1
      cases hx with | str _ b hb =>
      refine ⟨byteCells b, ?_, byteCells_rel hb, by simp [AV.one]⟩
      have := Src.ofString w hu b
      rwa [hb.size] at this
    · cases h
  · cases h

/-! ### append -/
def newTailA (H : AH) (e es n : Nat) (cells : List AV) : Option (AV × AH) :=
  match H.new ⟨cells, none, e, false⟩ with
  | some H' => some (.slice H.next 0 n none es, H')
  | none => none

inductive Room where
  | here | new | unsure

def placeA (k : Blk) (o need es : Nat) (cap : Option Nat) : Option Room :=
  match cap with
  | some c => match Nat.ble need c with
    | true => some .here
    | false => some .new
  | none => match Nat.ble (o + need * es) k.cells.length with
    | true => some .here
    | false => match k.room with
      | some r => match Nat.blt r (o + need * es) with
        | true => some .new
        | false => none
      | none => some .unsure

def appA (H : AH) (e es bytes : Nat) (s : AV) (n : Nat) (news : List AV) : Option (AV × AH) :=
  match s with
  | .nils => match n with
    | 0 => some (.nils, H)
    | n + 1 => match Nat.blt 0 es, Nat.ble ((n + 1) * bytes) 1000000000, Nat.blt (n + 1) 1000000000 with
      | true, true, true => newTailA H e es (n + 1) news
      | _, _, _ => none
  | .slice b o sn cap es' => match n with
    | 0 => some (.slice b o sn cap es', H)
    | n + 1 => match H.get b, Nat.beq es' es, Nat.ble ((sn + (n + 1)) * bytes) 1000000000, Nat.blt (sn + (n + 1)) 1000000000 with
      | some k, true, true, true => match Nat.beq k.ty e, loadA H b o (sn * es), k.ro with
        | true, some olds, false => match placeA k o (sn + (n + 1)) es cap with
          | some .here => match storeCellsA H b (o + sn * es) news with
            | some H' => some (.slice b o (sn + (n + 1)) cap es, H')
            | none => none
          | some .new => newTailA H e es (sn + (n + 1)) (olds ++ news)
          | some .unsure => newTailA (H.put b none) e es (sn + (n + 1)) (olds ++ news)
          | none => none
        | _, _, _ => none
      | _, _, _, _ => none
  | _ => none

theorem grow_run {P : Program} {ι : Inj} {ρ : Rho} {H H' : AH} {w : World} {t tx ty e : TypeId} {i : TypeInfo} {z : Value} {base : Option Addr} {sn sc n : Nat} {x : Value} {olds news : List AV} {xs ys : List Value} {v : AV}
    (hH : HR ι ρ H w.heap) (ht : P.underlying t = some (.slice e)) (hi : P.info? e = some i) (hz : i.zero = some z) (hzs : z.cells.size = i.size)
    (hold : (Builtin.firstCells i.size sn (.slice base sn sc)).run P w.drew = .ok xs.toArray w.drew) (hs : Src P i.size tx x n ys w)
    (ho : VRs ι ρ olds xs) (hnw : VRs ι ρ news ys) (hol : xs.length = sn * i.size) (hpos : 0 < i.size) (hg : sc < sn + n) (hb : (sn + n) * i.bytes ≤ 1000000000) (hc : sn + n < 1000000000)
    (h : newTailA H e i.size (sn + n) (olds ++ news) = some (v, H')) :
    Gives P ι ρ H w (Builtin.append_ #[t, tx] ty #[.slice base sn sc, x]) v H' := by
  unfold newTailA at h
  split at h
  · rename_i H1 hn
    simp only [Option.some.injEq, Prod.mk.injEq] at h
    obtain ⟨rfl, rfl⟩ := h
    have hrun := run_append_grow_src (P := P) w t tx ty e i z ht hi hz base sn sc xs hold x n ys hs hg (by omega) (growslice_fits hg (by omega))
    have hge := grownCap_ge w (sn + n) sc e
    have hlen := (ho.append hnw).length
    have hasz : ((xs ++ ys).toArray ++ Builtin.zeroCells z.cells (grownCap w (sn + n) sc e - (sn + n))).size = grownCap w (sn + n) sc e * i.size := by
      have := hs.newsLen
      simp only [Array.size_append, List.size_toArray, List.length_append, hol, this, Builtin.zeroCells, Array.size_map, Array.size_range, hzs]
      rw [← Nat.add_mul, ← Nat.add_mul]
      congr 1
      omega
    have := HR.alloc (w' := w.drew.alloc (.cells ((xs ++ ys).toArray ++ Builtin.zeroCells z.cells (grownCap w (sn + n) sc e - (sn + n))) e)) hH hn
      (arr := (xs ++ ys).toArray ++ Builtin.zeroCells z.cells (grownCap w (sn + n) sc e - (sn + n)))
      (by simp only [Array.size_append, List.size_toArray, hlen]; omega) (fun r hr => by cases hr) (fun j u hj => by
        obtain ⟨y, hy, hr⟩ := (ho.append hnw).get j u hj
        refine ⟨y, ?_, hr⟩
        have hlt := (List.getElem?_eq_some_iff.1 hy).1
        rw [Array.getElem?_append_left (by simpa using hlt)]
        simpa using hy) rfl (fun _ => rfl) rfl rfl rfl
    refine ⟨_, _, _, hrun, ?_, this.1, this.2⟩
    have hp := VR.slice (ι := upd ι H.next ⟨w.heap.size, 0, ((xs ++ ys).toArray ++ Builtin.zeroCells z.cells (grownCap w (sn + n) sc e - (sn + n))).size⟩) (ρ := ρ) H.next 0 (sn + n) none i.size
      ⟨w.heap.size, 0, ((xs ++ ys).toArray ++ Builtin.zeroCells z.cells (grownCap w (sn + n) sc e - (sn + n))).size⟩ (grownCap w (sn + n) sc e) (by simp [upd]) hge hpos (fun k hk => by cases hk)
      (fun _ => by simp only [hasz]; omega)
    simpa using hp
  · cases h

theorem setCells_of {P : Program} {w w' : World} {b o : Nat} {vs : List Value} (hc : ∀ j, j < vs.length → (w.cell? ⟨b, o + j, none⟩).isSome = true) (hf : ∀ j, j < vs.length → w.frozen? ⟨b, o + j, none⟩ = false)
    (h1 : ∀ v ∈ vs, v.oneCell' = true) (h : (storeCells ⟨b, o, none⟩ vs).run P w = .ok () w') : w' = w.setCells b o vs := by
  have := run_storeCells_cells (P := P) b o vs 0 w (by simpa using hc) (by simpa using hf) h1
  rw [h] at this
  injection this

theorem setCells_nil (w : World) (b o : Nat) : w.setCells b o [] = w := rfl

/-- The cells of a live block from a place on may be written. -/
theorem live_cells {ι : Inj} {ρ : Rho} {H : AH} {w : World} {b : Nat} {k : Blk} {L : Loc} (hH : HR ι ρ H w.heap) (hk : H.get b = some k) (hro : k.ro = false) (hL : ι b = some L) {q : Nat} (hq : q < L.size) :
    (w.cell? ⟨L.blk, L.base + q, none⟩).isSome = true ∧ w.frozen? ⟨L.blk, L.base + q, none⟩ = false := by
  obtain ⟨M, hM, cs, fz, g1, gz, g2, _⟩ := hH.live b k hk
  obtain rfl := gz hro
  rw [hL] at hM; injection hM with hM; subst hM
  constructor
  · simp only [World.cell?, g1]
    simp; omega
  · simp [World.frozen?, g1]

theorem storeCellsA_size {H H' : AH} {b o : Nat} {vs : List AV} (h : storeCellsA H b o vs = some H') : ∃ k, H.get b = some k ∧ o + vs.length ≤ k.cells.length ∧ vs.all AV.one = true := by
  unfold storeCellsA at h
  split at h
  · rename_i k hk
    split at h
    · rename_i h1 h2 _
      exact ⟨k, hk, Nat.le_of_ble_eq_true h1, h2⟩
    · cases h
  · cases h

/-- Cells written over a part of a row. -/
theorem setCells_row {P : Program} {w : World} {b o : Nat} {t : TypeId} {vs : List Value} {cur : Array Value} (hg : w.heap[b]? = some (.cells cur t (0, 0))) (hl : o + vs.length ≤ cur.size) (h1 : ∀ v ∈ vs, v.oneCell' = true) :
    w.setCells b o vs = w.setRow b (cur.toList.take o ++ vs ++ cur.toList.drop (o + vs.length)).toArray := by
  have h := run_storeCells_at (P := P) b o t vs 0 cur w hg (by omega) h1
  simp only [Nat.add_zero] at h
  exact (setCells_of (P := P) (fun j hj => by simp only [World.cell?, hg]; simp; omega) (fun j hj => by simp [World.frozen?, hg]) h1 h).symm

theorem appA_ok {P : Program} {ι : Inj} {ρ : Rho} {H H' : AH} {w : World} {t tx ty e : TypeId} {i : TypeInfo} {z : Value} {n : Nat} {a v : AV} {x y : Value} {news : List AV} {ys : List Value}
    (hH : HR ι ρ H w.heap) (ht : P.underlying t = some (.slice e)) (hi : P.info? e = some i) (hz : i.zero = some z) (hzs : z.cells.size = i.size)
    (hs : Src P i.size tx y n ys w) (hnw : VRs ι ρ news ys) (h1 : news.all AV.one = true) (hx : VR ι ρ a x)
    (h : appA H e i.size i.bytes a n news = some (v, H')) : Gives P ι ρ H w (Builtin.append_ #[t, tx] ty #[x, y]) v H' := by
  unfold appA at h
  split at h
  · -- nil
    cases hx
    split at h
    · simp only [Option.some.injEq, Prod.mk.injEq] at h
      obtain ⟨rfl, rfl⟩ := h
      refine .pure hH (x := .slice none 0 0) ?_ .nils
      rcases hs.kind with ⟨e', hk⟩ | hk <;> simp [Builtin.append_, run_underlying ht, run_underlying hk, sizeOf, typeInfo, hi, hs.len, hs.cells]
    · rename_i n
      split at h
      · rename_i g1 g2 g3
        have g1 := Nat.le_of_ble_eq_true g1
        have g2 := Nat.le_of_ble_eq_true g2
        have g3 := Nat.le_of_ble_eq_true g3
        have := grow_run (P := P) (ty := ty) (tx := tx) (olds := []) (xs := []) (base := none) (sn := 0) (sc := 0) (n := n + 1) hH ht hi hz hzs (run_firstCells_none w.drew i.size 0 0 0) hs .nil hnw (by simp) g1 (by omega) (by rw [Nat.zero_add]; exact g2) (by omega)
          (by rw [Nat.zero_add]; exact h)
        exact this
      · cases h
  · -- a slice
    rename_i b o sn cap es'
    obtain ⟨L, c, rfl, hL, hnc, hpos, hmc, hsz, hcap, hopen⟩ := hx.slice_inv
    split at h
    · simp only [Option.some.injEq, Prod.mk.injEq] at h
      obtain ⟨rfl, rfl⟩ := h
      have hnil : ys = [] := List.eq_nil_of_length_eq_zero (by rw [hs.newsLen]; simp)
      subst hnil
      have hr := run_append_room_src (P := P) w t tx ty e i ht hi L.blk (L.base + o) sn c y 0 [] hs (by omega) (fun j hj => by simp at hj) (fun j hj => by simp at hj)
      exact .pure hH (x := .slice (some ⟨L.blk, L.base + o, none⟩) sn c) hr hx
    · rename_i n
      split at h
      · rename_i k g0 g1 g2 g3
        have g1 := Nat.eq_of_beq_eq_true g1
        have g2 := Nat.le_of_ble_eq_true g2
        have g3 := Nat.le_of_ble_eq_true g3
        subst g1
        have hnl : ys.length = (n + 1) * i.size := hs.newsLen
        have hnwl := hnw.length
        obtain ⟨M, hM, cs, fz, q1, qz, q2, q3, q4, q5⟩ := hH.live b k g0
        rw [hL] at hM; injection hM with hM; subst hM
        split at h
        · rename_i olds g4 g5 hro
          obtain rfl := qz hro
          have g4 := Nat.eq_of_beq_eq_true g4
          obtain ⟨xs, hxs, hxl, hxc⟩ := loadA_cells hH hL g5
          have holdD : (Builtin.firstCells i.size sn (.slice (some ⟨L.blk, L.base + o, none⟩) sn c)).run P w.drew = .ok xs.toArray w.drew :=
            run_firstCells_some w.drew i.size sn _ sn c xs hxl (fun j u hj => by rw [addr_add]; exact hxc j u hj)
          have hgrow : ∀ {H0 : AH}, sn + (n + 1) > c → newTailA H e i.size (sn + (n + 1)) (olds ++ news) = some (v, H') → Gives P ι ρ H w (Builtin.append_ #[t, tx] ty #[.slice (some ⟨L.blk, L.base + o, none⟩) sn c, y]) v H' := fun hgt hn =>
            grow_run (P := P) (ty := ty) (tx := tx) hH ht hi hz hzs holdD hs hxs hnw hxl hpos hgt g2 (by omega) hn
          have hmul : ∀ m, (sn + m) * i.size = sn * i.size + m * i.size := fun m => Nat.add_mul ..
          split at h
          · -- here
            rename_i hp
            split at h
            · rename_i H1 hst
              simp only [Option.some.injEq, Prod.mk.injEq] at h
              obtain ⟨rfl, rfl⟩ := h
              obtain ⟨k', hk', hle, _⟩ := storeCellsA_size hst
              rw [g0] at hk'; injection hk' with hk'; subst hk'
              have hroom : sn + (n + 1) ≤ c := by
                unfold placeA at hp
                split at hp
                · rename_i c0
                  obtain rfl := hcap c0 rfl
                  split at hp
                  · rename_i hb; exact Nat.le_of_ble_eq_true hb
                  · cases hp
                · have ho := hopen rfl
                  rw [hnwl, hnl] at hle
                  have h3 : (sn + (n + 1)) * i.size ≤ c * i.size := by rw [hmul]; omega
                  exact Nat.le_of_mul_le_mul_right h3 hpos
              have hin : o + (sn + (n + 1)) * i.size ≤ L.size := by
                have : (sn + (n + 1)) * i.size ≤ c * i.size := Nat.mul_le_mul_right _ hroom
                omega
              have hlive : ∀ j, j < ys.length → (w.cell? ⟨L.blk, L.base + o + sn * i.size + j, none⟩).isSome = true ∧ w.frozen? ⟨L.blk, L.base + o + sn * i.size + j, none⟩ = false := fun j hj => by
                have := live_cells hH g0 hro hL (q := o + sn * i.size + j) (by rw [hmul] at hin; omega)
                simpa only [Nat.add_assoc] using this
              have hr := run_append_room_src (P := P) w t tx ty e i ht hi L.blk (L.base + o) sn c y (n + 1) ys hs hroom (fun j hj => (hlive j hj).1) (fun j hj => (hlive j hj).2)
              obtain ⟨w', r1, r2, r3⟩ := storeCellsA_ok (P := P) hH hL hnw hst
              have r1' : (storeCells ⟨L.blk, L.base + o + sn * i.size, none⟩ ys).run P w = .ok () w' := by rw [Nat.add_assoc]; exact r1
              have hw := setCells_of (P := P) (fun j hj => (hlive j hj).1) (fun j hj => (hlive j hj).2) hs.one r1'
              rw [← hw] at hr
              refine ⟨ι, w', _, hr, ?_, r2, r3⟩
              exact VR.slice b o (sn + (n + 1)) cap i.size L c hL hroom hpos (fun k0 hk0 => ⟨hcap k0 hk0, by rw [← hcap k0 hk0]; exact hsz⟩) hopen
            · cases h
          · -- new
            rename_i hp
            refine hgrow (H0 := H) ?_ h
            unfold placeA at hp
            split at hp
            · rename_i c0
              obtain rfl := hcap c0 rfl
              split at hp
              · cases hp
              · rename_i hb
                have : ¬ sn + (n + 1) ≤ c := fun hle => by rw [Nat.ble_eq_true_of_le hle] at hb; cases hb
                omega
            · have ho := hopen rfl
              split at hp
              · cases hp
              · split at hp
                · rename_i r hr
                  split at hp
                  · rename_i hb
                    have hb := Nat.le_of_ble_eq_true hb
                    have hrr := q4 r hr
                    have h3 : c * i.size < (sn + (n + 1)) * i.size := by omega
                    exact Nat.lt_of_mul_lt_mul_right h3
                  · cases hp
                · cases hp
          · -- not known which
            rename_i hp
            have hbl : b < 16000001 := Nat.lt_trans (hH.lt b k g0) hH.small
            by_cases hroom : sn + (n + 1) ≤ c
            · -- in place, and the block under a new number
              have hin : o + (sn + (n + 1)) * i.size ≤ L.size := by
                have : (sn + (n + 1)) * i.size ≤ c * i.size := Nat.mul_le_mul_right _ hroom
                omega
              have hlive : ∀ j, j < ys.length → (w.cell? ⟨L.blk, L.base + o + sn * i.size + j, none⟩).isSome = true ∧ w.frozen? ⟨L.blk, L.base + o + sn * i.size + j, none⟩ = false := fun j hj => by
                have := live_cells hH g0 hro hL (q := o + sn * i.size + j) (by rw [hmul] at hin; omega)
                simpa only [Nat.add_assoc] using this
              have hr := run_append_room_src (P := P) w t tx ty e i ht hi L.blk (L.base + o) sn c y (n + 1) ys hs hroom (fun j hj => (hlive j hj).1) (fun j hj => (hlive j hj).2)
              have hfit : L.base + o + sn * i.size + ys.length ≤ cs.size := by rw [hmul] at hin; omega
              rw [setCells_row (P := P) q1 hfit hs.one] at hr
              unfold newTailA at h
              split at h
              · rename_i H1 hn
                simp only [Option.some.injEq, Prod.mk.injEq] at h
                obtain ⟨rfl, rfl⟩ := h
                rw [← g4] at hn
                have hlen := (hxs.append hnw).length
                simp only [List.length_append] at hlen
                have hopn : o + c * i.size = L.size := by
                  refine hopen ?_
                  unfold placeA at hp
                  split at hp
                  · split at hp <;> cases hp
                  · rfl
                have := hH.rename (w' := w.setRow L.blk (cs.toList.take (L.base + o + sn * i.size) ++ ys ++ cs.toList.drop (L.base + o + sn * i.size + ys.length)).toArray) (o := o)
                  (cs' := (cs.toList.take (L.base + o + sn * i.size) ++ ys ++ cs.toList.drop (L.base + o + sn * i.size + ys.length)).toArray) g0 hL q1 hn (by omega)
                  (by rw [List.length_append, hlen]; rw [hmul] at hin; omega) (by simp; omega) ?_ (setRow_heap w L.blk cs _ _ _ q1) (fun c hc => setRow_other w L.blk c _ hc) (setRow_size ..) rfl rfl rfl
                · refine ⟨_, _, _, hr, ?_, this.1, this.2⟩
                  have hp := VR.slice (ι := upd ι H.next ⟨L.blk, L.base + o, L.size - o⟩) (ρ := ρ) H.next 0 (sn + (n + 1)) none i.size ⟨L.blk, L.base + o, L.size - o⟩ c (by simp [upd]) hroom hpos (fun k0 hk0 => by cases hk0) (fun _ => by simp; omega)
                  show VR _ ρ (.slice H.next 0 (sn + (n + 1)) none i.size) _
                  simpa using hp
                · intro j u hj
                  by_cases hjl : j < sn * i.size
                  · rw [List.getElem?_append_left (by rw [hxs.length]; omega)] at hj
                    obtain ⟨x', hx', hr'⟩ := hxs.get j u hj
                    have hcc := hxc j x' hx'
                    simp only [World.cell?, q1] at hcc
                    refine ⟨x', ?_, hr'⟩
                    simp only [List.append_assoc, List.getElem?_toArray]
                    rw [List.getElem?_append_left (by simp; omega), List.getElem?_take, if_pos (by omega)]
                    simpa using hcc
                  · rw [List.getElem?_append_right (by rw [hxs.length]; omega)] at hj
                    obtain ⟨x', hx', hr'⟩ := hnw.get _ u hj
                    refine ⟨x', ?_, hr'⟩
                    have hlt := (List.getElem?_eq_some_iff.1 hx').1
                    simp only [List.append_assoc, List.getElem?_toArray]
                    rw [List.getElem?_append_right (by simp; omega)]
                    simp only [List.length_take, Array.length_toList, Nat.min_eq_left (show L.base + o + sn * i.size ≤ cs.size by omega)]
                    rw [hxs.length, hxl] at hlt hx'
                    rw [List.getElem?_append_left (by omega), show L.base + o + j - (L.base + o + sn * i.size) = j - sn * i.size by omega]
                    exact hx'
              · cases h
            · -- a new row; the old block is given up
              obtain ⟨k1, k2⟩ := hH.kill hbl
              have := grow_run (P := P) (ty := ty) (tx := tx) k1 ht hi hz hzs holdD hs hxs hnw hxl hpos (by omega) g2 (by omega) h
              obtain ⟨ι', w', x', r1, r2, r3, r4⟩ := this
              exact ⟨ι', w', x', r1, r2, r3, k2.trans r4⟩
          · cases h
        · cases h
      · cases h
  · cases h

def appendA (P : Program) (H : AH) (t tx : TypeId) (a b : AV) : Option (AV × AH) :=
  match P.underlying t with
  | some (.slice e) => match P.info? e, tzero P e with
    | some i, some zs => match srcA P H i.size tx b with
      | some (n, news) => match Nat.beq zs.length i.size with
        | true => appA H e i.size i.bytes a n news
        | false => none
      | none => none
    | _, _ => none
  | _ => none

theorem appendA_ok {P : Program} {ι : Inj} {ρ : Rho} {H H' : AH} {w : World} {t tx ty : TypeId} {a b v : AV} {x y : Value}
    (hH : HR ι ρ H w.heap) (hx : VR ι ρ a x) (hy : VR ι ρ b y) (h : appendA P H t tx a b = some (v, H')) :
    Gives P ι ρ H w (Builtin.append_ #[t, tx] ty #[x, y]) v H' := by
  unfold appendA at h
  split at h
  · rename_i e hu
    split at h
    · rename_i i zs hi hz
      split at h
      · rename_i n news hs
        split at h
        · rename_i hl
          have hl := Nat.eq_of_beq_eq_true hl
          obtain ⟨ys, s1, s2, s3⟩ := srcA_ok hH hy hs
          unfold tzero at hz
          rw [hi] at hz
          dsimp only at hz
          split at hz
          · rename_i z hz0
            have hzl := (ofVs_ok (ι := ι) (ρ := ρ) hz).1.length
            simp only [Array.length_toList] at hzl
            exact appA_ok hH hu hi hz0 (by omega) s1 s2 s3 hx h
          · cases hz
        · cases h
      · cases h
    · cases h
  · cases h

end
end Go.Proofs.YtpcbmenjbcpieaaGreatDoor.AM

/- An abstract machine for the model's code, part J: append of zeroes; parts of what is sliced. -/
set_option linter.unusedVariables false
set_option linter.unusedSimpArgs false
namespace Go.Proofs.YtpcbmenjbcpieaaGreatDoor.AM
open Go
noncomputable section

/-! ### append(nil, make([]T, n)...) -/
def appendZerosA (P : Program) (H : AH) (t ti : TypeId) (a b : AV) : Option (AV × AH) :=
  match P.underlying t, P.underlying ti, a, natA b with
  | some (.slice e), some (.int _), .nils, some (n + 1) => match P.info? e, tzero P e with
    | some i, some zs => match Nat.beq zs.length i.size, Nat.blt 0 i.size, Nat.ble ((n + 1) * i.bytes) 1000000000, Nat.blt (n + 1) 1000000000 with
      | true, true, true, true => newTailA H e i.size (n + 1) (repA (n + 1) zs)
      | _, _, _, _ => none
    | _, _ => none
  | _, _, _, _ => none

theorem appendZerosA_ok {P : Program} {ι : Inj} {ρ : Rho} {H H' : AH} {w : World} {t ti ty : TypeId} {a b v : AV} {x y : Value}
    (hH : HR ι ρ H w.heap) (hx : VR ι ρ a x) (hy : VR ι ρ b y) (h : appendZerosA P H t ti a b = some (v, H')) :
    Gives P ι ρ H w (Builtin.append_ #[t, ti] ty #[x, y]) v H' := by
  unfold appendZerosA at h
  split at h
  · rename_i e k n hu hui hn
    obtain ⟨q, rfl⟩ := natA_ok hy hn
    cases hx
    split at h
    · rename_i i zs hi hz
      split at h
      · rename_i g1 g2 g3 g4
        have g1 := Nat.eq_of_beq_eq_true g1
        have g2 := Nat.le_of_ble_eq_true g2
        have g3 := Nat.le_of_ble_eq_true g3
        have g4 := Nat.le_of_ble_eq_true g4
        unfold tzero at hz
        rw [hi] at hz
        dsimp only at hz
        split at hz
        · rename_i z hz0
          have hzr := (ofVs_ok (ι := ι) (ρ := ρ) hz).1
          have hzl := hzr.length
          simp only [Array.length_toList] at hzl
          unfold newTailA at h
          split at h
          · rename_i H1 hnew
            simp only [Option.some.injEq, Prod.mk.injEq] at h
            obtain ⟨rfl, rfl⟩ := h
            have hw : IntKind.i64.wrap ((n + 1 : Nat) : Int) = ((n + 1 : Nat) : Int) := wrap_in _ _ (by simp only [IntKind.min, IntKind.max, IntKind.signed, IntKind.bits]; simp; omega)
            have h1 : ¬ (((n + 1 : Nat) : Int) < 0) := by omega
            have h2 : ¬ (((n + 1 : Nat) : Int) * (i.bytes : Int) > 2 ^ 48) := by
              have : ((n + 1 : Nat) : Int) * (i.bytes : Int) = (((n + 1) * i.bytes : Nat) : Int) := by simp
              rw [this]; omega
            have h3 : ¬ ((n + 1) * i.size = 0) := by
              have h30 : 0 < (n + 1) * i.size := Nat.mul_pos (Nat.succ_pos n) g2
              omega
            have h4 : Builtin.nextslicecap (n + 1) 0 = n + 1 := nextslicecap_zero (by omega)
            have h5 : ¬ ((n + 1) * i.bytes > 2 ^ 48) := by omega
            have h6 : ¬ (i.bytes > 2 ^ 48) := by
              have : i.bytes ≤ (n + 1) * i.bytes := Nat.le_mul_of_pos_left _ (by omega)
              omega
            have h7 : ¬ (((n + 1 : Nat) : Int) > IntKind.i64.max) := by simp only [IntKind.max, IntKind.signed, IntKind.bits]; simp; omega
            have hq : (Question.appendCap (n + 1) 0 e).forced = false := rfl
            have hrun : (Builtin.append_ #[t, ti] ty #[.slice none 0 0, .int q ((n + 1 : Nat) : Int)]).run P w =
                .ok (.slice (some ⟨w.heap.size, 0, none⟩) (n + 1) (grownCap w (n + 1) 0 e))
                  (w.drew.alloc (.cells (Builtin.zeroCells z.cells (n + 1) ++ Builtin.zeroCells z.cells (grownCap w (n + 1) 0 e - (n + 1))) e)) := by
              have h2' : ¬ (281474976710656 < ((n : Int) + 1) * (i.bytes : Int)) := by simpa using h2
              have h5' : ¬ (281474976710656 < (n + 1) * i.bytes) := by omega
              have h7' : ¬ (9223372036854775807 < (n : Int) + 1) := by omega
              have h1' : ¬ ((n : Int) + 1 < 0) := by omega
              have hw' : IntKind.i64.wrap ((n : Int) + 1) = (n : Int) + 1 := by simpa using hw
              have h8 : ¬ (i.size = 0) := by omega
              have h9 : ((n : Int) + 1).toNat = n + 1 := by omega
              have hmax : IntKind.i64.max = 9223372036854775807 := rfl
              have h10 : ¬ ((n : Int) + 1 ≤ 0) := by omega
              have h11 : max ((n : Int) + 1) 0 = (n : Int) + 1 := by omega
              simp [Builtin.append_, run_underlying hu, run_underlying hui, sizeOf, typeInfo, zeroValue, hi, hz0, asInt, asIntOf, hw', h1', h2', h9, h4, h5', hmax, h7', h8, h3, h10, h11, Question.forced, Builtin.firstCells, newRow, grownCap, loadCells]
            have hge := grownCap_ge w (n + 1) 0 e
            have hzs : z.cells.size = i.size := by omega
            have hasz : (Builtin.zeroCells z.cells (n + 1) ++ Builtin.zeroCells z.cells (grownCap w (n + 1) 0 e - (n + 1))).size = grownCap w (n + 1) 0 e * i.size := by
              simp only [Array.size_append, Builtin.zeroCells, Array.size_map, Array.size_range, hzs]
              rw [← Nat.add_mul]
              congr 1
              omega
            have hrep := repA_rel hzr (n + 1)
            have hrl := hrep.length
            have := HR.alloc (w' := w.drew.alloc (.cells (Builtin.zeroCells z.cells (n + 1) ++ Builtin.zeroCells z.cells (grownCap w (n + 1) 0 e - (n + 1))) e)) hH hnew
              (arr := Builtin.zeroCells z.cells (n + 1) ++ Builtin.zeroCells z.cells (grownCap w (n + 1) 0 e - (n + 1)))
              (by rw [hasz, repA_length, g1]; exact Nat.mul_le_mul_right _ hge) (fun r hr => by cases hr) (fun j u hj => by
                obtain ⟨y, hy, hr⟩ := hrep.get j u hj
                refine ⟨y, ?_, hr⟩
                have hlt := (List.getElem?_eq_some_iff.1 hy).1
                rw [Array.getElem?_append_left (by simpa [Builtin.zeroCells] using hlt)]
                rw [Array.getElem?_toList] at hy
                exact hy) rfl (fun _ => rfl) rfl rfl rfl
            refine ⟨_, _, _, hrun, ?_, this.1, this.2⟩
            have hp := VR.slice (ι := upd ι H.next ⟨w.heap.size, 0, (Builtin.zeroCells z.cells (n + 1) ++ Builtin.zeroCells z.cells (grownCap w (n + 1) 0 e - (n + 1))).size⟩) (ρ := ρ) H.next 0 (n + 1) none i.size
              ⟨w.heap.size, 0, (Builtin.zeroCells z.cells (n + 1) ++ Builtin.zeroCells z.cells (grownCap w (n + 1) 0 e - (n + 1))).size⟩ (grownCap w (n + 1) 0 e) (by simp [upd]) hge g2 (fun k hk => by cases hk)
              (fun _ => by simp only [hasz]; omega)
            simpa using hp
          · cases h
        · cases hz
      · cases h
    · cases h
  · cases h

/-! ### Parts of what is sliced -/
def sliceA (P : Program) (t : TypeId) (x : AV) (lo hi mx : Option AV) : Option AV :=
  match P.underlying t, x, mx with
  | some .string, .str s, none => sliceStrA s lo hi
  | some (.slice e), .slice b o n c es, mx => match tsize P e with
    | some k => match Nat.beq k es with
      | true => sliceSliceA (.slice b o n c es) lo hi mx
      | false => none
    | none => none
  | some (.slice e), .nils, none => match loA lo, hiA 0 hi, tsize P e with
    | some 0, some 0, some _ => some .nils
    | _, _, _ => none
  | _, _, _ => none

theorem sliceA_ok {P : Program} {ι : Inj} {ρ : Rho} {t : TypeId} {a v : AV} {x : Value} {lo hi mx : Option AV} {lo' hi' mx' : Option Value} {w : World}
    (hx : VR ι ρ a x) (hl : VO ι ρ lo lo') (hh : VO ι ρ hi hi') (hm : VO ι ρ mx mx') (h : sliceA P t a lo hi mx = some v) :
    ∃ z, (Instr.sliceAt t x lo' hi' mx').run P w = .ok z w ∧ VR ι ρ v z := by
  unfold sliceA at h
  split at h
  · rename_i s hu
    cases hx with | str _ b hb =>
    cases hm
    obtain ⟨z, hz, hv⟩ := sliceStr_run (P := P) (w := w) hu hb hl hh h
    refine ⟨z, ?_, hv⟩
    simp only [Instr.sliceAt, Sem.run_bind, run_under hu, Result.andThen_ok]
    exact hz
  · rename_i e b o n c es mx hu
    split at h
    · rename_i k hk
      split at h
      · rename_i he
        have he := Nat.eq_of_beq_eq_true he
        subst he
        obtain ⟨z, hz, hv⟩ := sliceSlice_run (P := P) (w := w) hu hk (fun b o n c q hq => by injection hq; omega) hx hl hh hm h
        refine ⟨z, ?_, hv⟩
        simp only [Instr.sliceAt, Sem.run_bind, run_under hu, Result.andThen_ok]
        exact hz
      · cases h
    · cases h
  · rename_i e hu
    split at h
    · rename_i k h1 h2 h3
      injection h with h; subst h
      cases hx; cases hm
      refine ⟨.slice none 0 0, ?_, .nils⟩
      have hb : (Instr.sliceBounds true 0 0 lo' hi' none).run P w = .ok (0, 0, 0) w := by
        cases hl with
        | none =>
          cases hh with
          | none => simp [Instr.sliceBounds]
          | some v x hv =>
            obtain ⟨q, rfl⟩ := natA_ok hv h2
            simp only [Instr.sliceBounds, Sem.run_bind, Sem.run_pure, Result.andThen_ok, if_true]
            rw [sliceBound_ok (by omega)]
            rfl
        | some u y hu' =>
          obtain ⟨q', rfl⟩ := natA_ok hu' h1
          cases hh with
          | none =>
            simp only [Instr.sliceBounds, Sem.run_bind, Sem.run_pure, Result.andThen_ok]
            rw [sliceBound_ok (by omega)]
            rfl
          | some v x hv =>
            obtain ⟨q, rfl⟩ := natA_ok hv h2
            simp only [Instr.sliceBounds, Sem.run_bind, Sem.run_pure, Result.andThen_ok, if_true]
            rw [sliceBound_ok (by omega)]
            simp only [Sem.run_bind, Sem.run_pure, Result.andThen_ok]
            rw [sliceBound_ok (by omega)]
            rfl
      simp only [Instr.sliceAt, Sem.run_bind, run_under hu, Result.andThen_ok, Instr.slice, hb, run_tsize h3, Sem.run_pure]
      rfl
    · cases h
  · cases h

/-! ### A text's bytes as a slice -/
def bytesA (P : Program) (H : AH) (src dst : TypeId) (x : AV) : Option (AV × AH) :=
  match x, P.underlying src, P.underlying dst with
  | .str s, some .string, some (.slice e) => match P.underlying e, H.new ⟨s.map (.int .u8), none, e, true⟩ with
    | some (.int .u8), some H' => some (.slice H.next 0 s.length none 1, H')
    | _, _ => none
  | _, _, _ => none

theorem bytesA_ok {P : Program} {ι : Inj} {ρ : Rho} {H H' : AH} {w : World} {src dst : TypeId} {a v : AV} {x : Value}
    (hH : HR ι ρ H w.heap) (hx : VR ι ρ a x) (h : bytesA P H src dst a = some (v, H')) : Gives P ι ρ H w (convert src dst x) v H' := by
  unfold bytesA at h
  split at h
  · rename_i s e hs hd
    split at h
    · rename_i H1 he hn
      simp only [Option.some.injEq, Prod.mk.injEq] at h
      obtain ⟨rfl, rfl⟩ := h
      cases hx with | str _ b hb =>
      have hrun := run_bytes_of_string (P := P) w src dst e b hs hd he
      have hge := grownCap_ge w b.size 0 e
      have hrow : bytesRow b (grownCap w b.size 0 e) = (byteCells b).toArray ++ Array.replicate (grownCap w b.size 0 e - b.size) (.int .u8 0) := by
        unfold bytesRow byteCells
        congr 1
        apply Array.ext'
        simp
      have hsz : (bytesRow b (grownCap w b.size 0 e)).size = grownCap w b.size 0 e := by
        rw [hrow]
        simp [byteCells_length]; omega
      have hrel := byteCells_rel (ι := ι) (ρ := ρ) hb
      have hrl := hrel.length
      have := HR.alloc (w' := w.drew.alloc (.cells (bytesRow b (grownCap w b.size 0 e)) e ((bytesRow b (grownCap w b.size 0 e)).size, (bytesRow b (grownCap w b.size 0 e)).size + 1))) hH hn
        (arr := bytesRow b (grownCap w b.size 0 e)) (by rw [hsz, hrl, byteCells_length]; exact hge) (fun r hr => by cases hr) (fun j u hj => by
          obtain ⟨y, hy, hr⟩ := hrel.get j u hj
          refine ⟨y, ?_, hr⟩
          have hlt := (List.getElem?_eq_some_iff.1 hy).1
          rw [hrow, Array.getElem?_append_left (by simpa using hlt)]
          simpa using hy) rfl (fun hr => by cases hr) rfl rfl rfl
      refine ⟨_, _, _, hrun, ?_, this.1, this.2⟩
      have hp := VR.slice (ι := upd ι H.next ⟨w.heap.size, 0, (bytesRow b (grownCap w b.size 0 e)).size⟩) (ρ := ρ) H.next 0 s.length none 1
        ⟨w.heap.size, 0, (bytesRow b (grownCap w b.size 0 e)).size⟩ (grownCap w b.size 0 e) (by simp [upd]) (by rw [← hb.size]; exact hge) (by omega) (fun k hk => by cases hk) (fun _ => by simp only [hsz]; omega)
      rw [hb.size] at hp ⊢
      simpa using hp
    · cases h
  · cases h

theorem lt_of_getB {hp : Array Obj} {D : Nat} {o : Obj} (h : hp[D]? = some o) : D < hp.size := (Array.getElem?_eq_some_iff.1 h).1

/-- A block marked read only. -/
theorem HR.mark {ι : Inj} {ρ : Rho} {H : AH} {w w' : World} {b : Nat} {k : Blk} {L : Loc} {cs : Array Value} {fz fz' : Nat × Nat}
    (h : HR ι ρ H w.heap) (hb : H.get b = some k) (hL : ι b = some L) (hc : w.heap[L.blk]? = some (.cells cs k.ty fz))
    (hin : w'.heap[L.blk]? = some (.cells cs k.ty fz')) (hout : ∀ c, c ≠ L.blk → w'.heap[c]? = w.heap[c]?) (hhs : w'.heap.size = w.heap.size)
    (ho : w'.os = w.os) (ht : w'.tape = w.tape) (hu : w'.output = w.output) :
    HR ι ρ (H.put b (some { k with ro := true })) w'.heap ∧ St ι H w ι (H.put b (some { k with ro := true })) w' := by
  have hbl : b < 16000001 := Nat.lt_trans (h.lt b k hb) h.small
  have hget := fun m => AH.put_get (H := H) (k := some { k with ro := true }) hbl m
  have hsome : ∀ m q, (H.put b (some { k with ro := true })).get m = some q → ∃ q0, H.get m = some q0 := fun m q hm => by
    rw [hget] at hm
    by_cases e : m = b
    · exact ⟨k, e ▸ hb⟩
    · rw [if_neg e] at hm; exact ⟨q, hm⟩
  constructor
  · constructor
    · intro m q hm
      rw [hget] at hm
      by_cases e : m = b
      · subst e
        rw [if_pos rfl] at hm
        injection hm with hm
        subst hm
        obtain ⟨M, hM, hB⟩ := h.live m k hb
        rw [hL] at hM; injection hM with hM; subst hM
        obtain ⟨cs0, fz0, g1, gz, g2, g3, g4, g5⟩ := hB
        rw [hc] at g1
        injection g1 with g1; injection g1 with g1; subst g1
        exact ⟨L, hL, cs, fz', hin, (fun hr => by cases hr), g2, g3, g4, g5⟩
      · rw [if_neg e] at hm
        obtain ⟨M, hM, hB⟩ := h.live m q hm
        exact ⟨M, hM, hB.mono (Ext.refl ι) (hout _ (h.inj m b q k M L hm hb hM hL e))⟩
    · intro m m' q q' M M' hm hm' hM hM' hne
      obtain ⟨q0, hq0⟩ := hsome m q hm
      obtain ⟨q1, hq1⟩ := hsome m' q' hm'
      exact h.inj m m' q0 q1 M M' hq0 hq1 hM hM' hne
    · intro m q hm
      obtain ⟨q0, hq0⟩ := hsome m q hm
      exact h.lt m q0 hq0
    · exact h.dom
    · exact h.small
    · exact h.lo
    · exact ⟨by rw [hhs]; exact h.base.sz, fun c hc => (hout c (fun e => by have := h.lo b L hL; omega)).trans (h.base.same c hc)⟩
  · refine ⟨Ext.refl ι, ho, ht, hu, by omega, fun c hc' hn => hout c fun e => hn ⟨b, k, L, hb, hL, e.symm⟩, ?_, fun _ _ hq => .inl hq, Nat.le_refl _, fun m q hm _ => hsome m q hm⟩
    rintro c ⟨m, q, M, hm, hM, rfl⟩
    obtain ⟨q0, hq0⟩ := hsome m q hm
    exact .inl ⟨m, q0, M, hq0, hM, rfl⟩

/-- Bytes that stay bytes. -/
def markA (P : Program) (H : AH) (src dst : TypeId) (x : AV) : Option (AV × AH) :=
  match x, Nat.beq src dst, P.underlying dst with
  | .slice b o n c es, true, some (.slice e) => match P.underlying e, H.get b with
    | some (.int .u8), some k => some (.slice b o n c es, H.put b (some { k with ro := true }))
    | _, _ => none
  | _, _, _ => none

theorem markA_ok {P : Program} {ι : Inj} {ρ : Rho} {H H' : AH} {w : World} {src dst : TypeId} {a v : AV} {x : Value}
    (hH : HR ι ρ H w.heap) (hx : VR ι ρ a x) (h : markA P H src dst a = some (v, H')) : Gives P ι ρ H w (convert src dst x) v H' := by
  unfold markA at h
  split at h
  · rename_i b o n c es e hsd hd
    have hsd : src = dst := Nat.eq_of_beq_eq_true hsd
    subst hsd
    split at h
    · rename_i k he hk
      simp only [Option.some.injEq, Prod.mk.injEq] at h
      obtain ⟨rfl, rfl⟩ := h
      obtain ⟨L, cc, rfl, hL, _⟩ := hx.slice_inv
      obtain ⟨M, hM, cs, fz, g1, _⟩ := hH.live b k hk
      rw [hL] at hM; injection hM with hM; subst hM
      have hlt := lt_of_getB g1
      have := hH.mark (w' := w.freeze ⟨L.blk, cs.size, none⟩ 1) (fz' := if fz.1 == fz.2 then (cs.size, cs.size + 1) else (min fz.1 cs.size, max fz.2 (cs.size + 1))) hk hL g1 ?_ ?_ ?_ rfl rfl rfl
      · refine ⟨ι, w.freeze ⟨L.blk, cs.size, none⟩ 1, .slice (some ⟨L.blk, L.base + o, none⟩) n cc, ?_, hx, this.1, this.2⟩
        have hsh : w.shape? L.blk = some (k.ty, cs.size) := by simp only [World.shape?, g1]
        simp only [convert, Sem.run_bind, run_under hd, run_under he, Result.andThen_ok]
        simp [markStringish, hsh, run_under he]
      · simp only [World.freeze]
        rw [if_neg (by decide)]
        simp only [Array.getElem?_modify, if_pos rfl, g1, Option.map_some]
        rfl
      · intro c hc
        simp only [World.freeze]
        rw [if_neg (by decide)]
        simp only [Array.getElem?_modify]
        rw [if_neg (fun h => hc h.symm)]
      · simp only [World.freeze]
        rw [if_neg (by decide)]
        simp
    · cases h
  · cases h

end
end Go.Proofs.YtpcbmenjbcpieaaGreatDoor.AM

/- An abstract machine for the model's code, part K: one operation. -/
set_option linter.unusedVariables false
set_option linter.unusedSimpArgs false
namespace Go.Proofs.YtpcbmenjbcpieaaGreatDoor.AM
open Go
noncomputable section

/-! ### One operation -/
inductive OpR where
  | val (v : AV) (H : AH)
  | skip (H : AH)
  | enter (f : Nat) (args : List AV)
  | defer (f : Nat) (args : List AV)

def pureR (H : AH) : Option AV → Option OpR
  | some v => some (.val v H)
  | none => none
def effR : Option (AV × AH) → Option OpR
  | some (v, H) => some (.val v H)
  | none => none
def skipR : Option AH → Option OpR
  | some H => some (.skip H)
  | none => none

def evsA (ev : Operand → Option AV) : List Operand → Option (List AV)
  | [] => some []
  | x :: xs => match ev x, evsA ev xs with
    | some v, some vs => some (v :: vs)
    | _, _ => none

def evpsA (ev : Operand → Option AV) : List (Nat × Operand) → Option (List (Nat × AV))
  | [] => some []
  | (i, x) :: xs => match ev x, evpsA ev xs with
    | some v, some vs => some ((i, v) :: vs)
    | _, _ => none

/-- An operand that may be left out. -/
def evoA (ev : Operand → Option AV) : Option Operand → Option (Option AV)
  | none => some none
  | some x => match ev x with
    | some v => some (some v)
    | none => none

/-- May a function be entered? -/
def fnOk (P : Program) (f : FuncId) : Bool :=
  match P.funcs[f]? with
  | some fn => fn.body.isSome && !(fn.name == "runtime.NumGoroutine")
  | none => false

def builtinA (P : Program) (E : Env) (H : AH) (b : Builtin) (ts : Array TypeId) (vs : List AV) : Option OpR :=
  match b, ts.toList, vs with
  | .len, t :: _, [x] => pureR H (lenA P t x)
  | .cap, t :: _, [x] => pureR H (capA P t x)
  | .append, [t, tx], [x, y] => match y with
    | .int _ _ => effR (appendZerosA P H t tx x y)
    | _ => effR (appendA P H t tx x y)
  | .max, _, [x, y] => pureR H (maxA E x y)
  | .min, _, [x, y] => pureR H (minA E x y)
  | _, _, _ => none

/-- Two nil interface values, the second one written as such. -/
def nilIA (P : Program) (op : BinOp) (t : TypeId) (y : Operand) : Option AV :=
  match P.underlying t, y, op with
  | some (.interface _), .const _, .eql => some (.bool true)
  | some (.interface _), .const _, .neq => some (.bool false)
  | _, _, _ => none

def opA (P : Program) (E : Env) (ev : Operand → Option AV) (H : AH) (o : Oper) : Option OpR :=
  match o.op with
  | .move x => pureR H (ev x)
  | .assign x => pureR H (ev x)
  | .pick c a b => match ev c with
    | some (.bool true) => pureR H (ev a)
    | some (.bool false) => pureR H (ev b)
    | _ => none
  | .alloc t => effR (allocA P H t)
  | .box t x => match ev x with
    | some v => effR (boxA H t v)
    | none => none
  | .build t parts => match evpsA ev parts.toList with
    | some ps => pureR H (buildA P t ps)
    | none => none
  | .buildSlice t len parts => match evpsA ev parts.toList with
    | some ps => effR (buildSliceA P H t len ps)
    | none => none
  | .load t x => match ev x with
    | some v => pureR H (loadVarA P H t v)
    | none => none
  | .store t x y => match ev x, ev y with
    | some v, some u => skipR (storeVarA P H t v u)
    | _, _ => none
  | .nilCheck x => match ev x with
    | some (.ptr b o) => some (.val (.ptr b o) H)
    | some (.func f cs) => some (.val (.func f cs) H)
    | _ => none
  | .binOp op t x y _ => match ev x, ev y with
    | some .nili, some .nili => pureR H (nilIA P op t y)
    | some v, some u => pureR H (binA P E op t v u)
    | _, _ => none
  | .unOp op _ x => match ev x with
    | some v => pureR H (unA E op v)
    | none => none
  | .convert src dst x => match ev x with
    | some v => match convA P E src dst v with
      | some u => some (.val u H)
      | none => match v with
        | .str s => effR (bytesA P H src dst (.str s))
        | v => effR (markA P H src dst v)
    | none => none
  | .makeFunc (.func f) first captured => match first.toList, evsA ev captured.toList with
    | [], some vs => some (.val (.func f vs) H)
    | _, _ => none
  | .slice t x lo hi mx => match ev x, evoA ev lo, evoA ev hi, evoA ev mx with
    | some v, some l, some h, some m => pureR H (sliceA P t v l h m)
    | _, _, _, _ => none
  | .fieldAddr s x f => match ev x with
    | some v => pureR H (fieldAddrA P s v f)
    | none => none
  | .field s x f => match ev x with
    | some v => pureR H (fieldA P s v f)
    | none => none
  | .indexAddr t x i => match ev x, ev i with
    | some v, some u => pureR H (indexAddrA P t v u)
    | _, _ => none
  | .index t x i => match ev x, ev i with
    | some v, some u => pureR H (indexA P t v u)
    | _, _ => none
  | .extract x i => match ev x with
    | some v => pureR H (extractA v i)
    | none => none
  | .call c => match c.callee with
    | .builtin b => match evsA ev c.args.toList with
      | some vs => builtinA P E H b c.argTypes vs
      | none => none
    | .value f => match ev f, evsA ev c.args.toList with
      | some (.func g cs), some vs => match fnOk P g with
        | true => some (.enter g (vs ++ cs))
        | false => none
      | _, _ => none
    | .invoke _ _ => none
  | .defer c => match c.callee with
    | .value f => match ev f, evsA ev c.args.toList with
      | some (.func g cs), some vs => match fnOk P g with
        | true => some (.defer g (vs ++ cs))
        | false => none
      | _, _ => none
    | _ => none
  | _ => none

/-- A deferred call, as the model keeps it. -/
def DR (P : Program) (ι : Inj) (ρ : Rho) (f : Nat) (args : List AV) (d : Deferred) : Prop :=
  ∃ cap xs, d.target = .fn (.func f) cap ∧ VRs ι ρ args xs ∧ ∀ w, (invoke d.target d.args).run P w = .ok (.enter f xs.toArray) w

def OpOk (P : Program) (ι : Inj) (ρ : Rho) (H : AH) (w : World) (s : Sem Next) : OpR → Prop
  | .val v H' => ∃ ι' w' x, s.run P w = .ok (.value x) w' ∧ VR ι' ρ v x ∧ HR ι' ρ H' w'.heap ∧ St ι H w ι' H' w'
  | .skip H' => ∃ w', s.run P w = .ok .skip w' ∧ HR ι ρ H' w'.heap ∧ St ι H w ι H' w'
  | .enter f args => ∃ xs, s.run P w = .ok (.enter f xs.toArray) w ∧ VRs ι ρ args xs
  | .defer f args => ∃ d, s.run P w = .ok (.defer d) w ∧ DR P ι ρ f args d

theorem evsA_ok {ι : Inj} {ρ : Rho} {ev : Operand → Option AV} {e : Operand → Value} (hev : ∀ X v, ev X = some v → VR ι ρ v (e X)) :
    ∀ {l : List Operand} {vs : List AV}, evsA ev l = some vs → VRs ι ρ vs (l.map e)
  | [], vs, h => by simp [evsA] at h; subst h; exact .nil
  | X :: l, vs, h => by
    unfold evsA at h
    split at h
    · rename_i v us h1 h2
      injection h with h; subst h
      exact .cons _ _ _ _ (hev X v h1) (evsA_ok hev h2)
    · cases h

theorem evpsA_ok {ι : Inj} {ρ : Rho} {ev : Operand → Option AV} {e : Operand → Value} (hev : ∀ X v, ev X = some v → VR ι ρ v (e X)) :
    ∀ {l : List (Nat × Operand)} {vs : List (Nat × AV)}, evpsA ev l = some vs → VPs ι ρ vs (l.map fun p => (p.1, e p.2))
  | [], vs, h => by simp [evpsA] at h; subst h; exact .nil
  | (i, X) :: l, vs, h => by
    unfold evpsA at h
    split at h
    · rename_i v us h1 h2
      injection h with h; subst h
      exact .cons _ _ _ _ _ (hev X v h1) (evpsA_ok hev h2)
    · cases h

theorem evoA_ok {ι : Inj} {ρ : Rho} {ev : Operand → Option AV} {e : Operand → Value} (hev : ∀ X v, ev X = some v → VR ι ρ v (e X))
    {x : Option Operand} {v : Option AV} (h : evoA ev x = some v) : VO ι ρ v (x.map e) := by
  unfold evoA at h
  split at h
  · injection h with h; subst h; exact .none
  · split at h
    · rename_i u hu
      injection h with h; subst h
      exact .some _ _ (hev _ _ hu)
    · cases h

theorem builtin_of {P : Program} {ι : Inj} {ρ : Rho} {H H' : AH} {w : World} {s : Sem Value} {v : AV} (h : Gives P ι ρ H w s v H') :
    OpOk P ι ρ H w (do pure (.value (← s))) (.val v H') := by
  obtain ⟨ι', w', x, h1, h2, h3, h4⟩ := h
  exact ⟨ι', w', x, by simp [h1], h2, h3, h4⟩

theorem value_of {P : Program} {ι : Inj} {ρ : Rho} {H : AH} {w : World} {s : Sem Value} {v : AV} (hH : HR ι ρ H w.heap) (h : ∃ z, s.run P w = .ok z w ∧ VR ι ρ v z) :
    OpOk P ι ρ H w (do pure (.value (← s))) (.val v H) := by
  obtain ⟨z, h1, h2⟩ := h
  exact builtin_of (Gives.pure hH h1 h2)

theorem effR_some {x : Option (AV × AH)} {r : OpR} (h : effR x = some r) : ∃ v H', x = some (v, H') ∧ r = .val v H' := by
  cases x with
  | none => cases h
  | some p => obtain ⟨v, H'⟩ := p; injection h with h; exact ⟨v, H', rfl, h.symm⟩
theorem pureR_some {H : AH} {x : Option AV} {r : OpR} (h : pureR H x = some r) : ∃ v, x = some v ∧ r = .val v H := by
  cases x with
  | none => cases h
  | some v => injection h with h; exact ⟨v, rfl, h.symm⟩
theorem skipR_some {x : Option AH} {r : OpR} (h : skipR x = some r) : ∃ H', x = some H' ∧ r = .skip H' := by
  cases x with
  | none => cases h
  | some H' => injection h with h; exact ⟨H', rfl, h.symm⟩

theorem builtinA_ok {P : Program} {E : Env} {ι : Inj} {ρ : Rho} {H : AH} {w : World} (hE : E.ok ρ) (hH : HR ι ρ H w.heap) {b : Builtin} {ts : Array TypeId} {ty : TypeId} {cs : Array Bool} {vs : List AV} {xs : List Value} {r : OpR}
    (hx : VRs ι ρ vs xs) (h : builtinA P E H b ts vs = some r) : OpOk P ι ρ H w (builtin b ts ty cs xs.toArray) r := by
  obtain ⟨tl⟩ := ts
  unfold builtinA at h
  split at h
  · rename_i t tr x ht
    dsimp only at ht
    subst ht
    obtain ⟨v, hv, rfl⟩ := pureR_some h
    cases hx with | cons _ y _ _ hy hn =>
    cases hn
    exact value_of hH (lenA_ok (t := t) (by simp) hy hv)
  · rename_i t tr x ht
    dsimp only at ht
    subst ht
    obtain ⟨v, hv, rfl⟩ := pureR_some h
    cases hx with | cons _ y _ _ hy hn =>
    cases hn
    exact value_of hH (capA_ok (t := t) (by simp) hy hv)
  · rename_i t tx x y ht
    dsimp only at ht
    subst ht
    cases hx with | cons _ x' _ _ hx' hn =>
    cases hn with | cons _ y' _ _ hy' hn =>
    cases hn
    split at h
    · obtain ⟨v, H', hv, rfl⟩ := effR_some h
      exact builtin_of (appendZerosA_ok hH hx' hy' hv)
    · obtain ⟨v, H', hv, rfl⟩ := effR_some h
      exact builtin_of (appendA_ok hH hx' hy' hv)
  · rename_i x y
    cases hx with | cons _ x' _ _ hx' hn =>
    cases hn with | cons _ y' _ _ hy' hn =>
    cases hn
    obtain ⟨v, hv, rfl⟩ := pureR_some h
    exact value_of hH (maxA_ok hE hx' hy' hv)
  · rename_i x y
    cases hx with | cons _ x' _ _ hx' hn =>
    cases hn with | cons _ y' _ _ hy' hn =>
    cases hn
    obtain ⟨v, hv, rfl⟩ := pureR_some h
    exact value_of hH (minA_ok hE hx' hy' hv)
  · cases h

theorem fnOk_run {P : Program} {f : FuncId} (h : fnOk P f = true) (args : Array Value) (w : World) : (callFunc f args).run P w = .ok (.enter f args) w := by
  unfold fnOk at h
  split at h
  · rename_i fn hf
    simp only [Bool.and_eq_true, Bool.not_eq_true'] at h
    have hb : ¬ fn.body = none := fun hb => by rw [hb] at h; simp at h
    have hn : ¬ fn.name = "runtime.NumGoroutine" := by simpa using h.2
    simp [callFunc, hf, hn, hb]
  · cases h

theorem nili_inv {ι : Inj} {ρ : Rho} {x : Value} (h : VR ι ρ .nili x) : x = .nilIface := by cases h; rfl

theorem nilIA_ok {P : Program} {ι : Inj} {ρ : Rho} {op : BinOp} {t : TypeId} {X Y : Operand} {v : AV} {w : World} (h : nilIA P op t Y = some v) :
    ∃ z, (do eqGuard op t X Y .nilIface .nilIface; binOp op t .nilIface .nilIface : Sem Value).run P w = .ok z w ∧ VR ι ρ v z := by
  unfold nilIA at h
  split at h
  · rename_i ms c hu
    injection h with h; subst h
    have hg : (eqGuard .eql t X (.const c) .nilIface .nilIface).run P w = .ok () w := by
      unfold eqGuard
      simp
    refine ⟨.bool true, ?_, VR.bool true⟩
    rw [Sem.run_bind, hg]
    simp only [Result.andThen_ok, binOp, Sem.run_bind]
    rw [equal_of fun d => by
      unfold Op.equalIn
      simp only [Sem.run_bind, run_under hu, Result.andThen_ok]
      rfl]
    rfl
  · rename_i ms c hu
    injection h with h; subst h
    have hg : (eqGuard .neq t X (.const c) .nilIface .nilIface).run P w = .ok () w := by
      unfold eqGuard
      simp
    refine ⟨.bool false, ?_, VR.bool false⟩
    rw [Sem.run_bind, hg]
    simp only [Result.andThen_ok, binOp, Sem.run_bind]
    rw [equal_of fun d => by
      unfold Op.equalIn
      simp only [Sem.run_bind, run_under hu, Result.andThen_ok]
      rfl]
    rfl
  · cases h

theorem opA_ok {P : Program} {E : Env} {ι : Inj} {ρ : Rho} {H : AH} {w : World} {ev : Operand → Option AV} {e : Operand → Value} (hE : E.ok ρ) (hH : HR ι ρ H w.heap)
    (hev : ∀ X v, ev X = some v → VR ι ρ v (e X)) {o : Oper} {r : OpR} (h : opA P E ev H o = some r) : OpOk P ι ρ H w (execOp e o) r := by
  obtain ⟨dst, op, type, pos, after, guard⟩ := o
  unfold opA at h
  dsimp only at h
  cases op
  all_goals try dsimp only at h
  all_goals try simp only [execOp]
  case move x =>
    obtain ⟨v, hv, rfl⟩ := pureR_some h
    exact ⟨ι, w, _, rfl, hev x v hv, hH, St.refl ι H w⟩
  case assign x =>
    obtain ⟨v, hv, rfl⟩ := pureR_some h
    exact ⟨ι, w, _, rfl, hev x v hv, hH, St.refl ι H w⟩
  case pick c a b =>
    split at h
    · rename_i hc
      obtain ⟨v, hv, rfl⟩ := pureR_some h
      have := hev c _ hc
      generalize e c = q at *
      cases this
      exact ⟨ι, w, _, by simp [asBool], hev a v hv, hH, St.refl ι H w⟩
    · rename_i hc
      obtain ⟨v, hv, rfl⟩ := pureR_some h
      have := hev c _ hc
      generalize e c = q at *
      cases this
      exact ⟨ι, w, _, by simp [asBool], hev b v hv, hH, St.refl ι H w⟩
    · cases h
  case alloc t =>
    obtain ⟨v, H', hv, rfl⟩ := effR_some h
    exact builtin_of (allocA_ok hH hv)
  case box t x =>
    split at h
    · rename_i u hu
      obtain ⟨v, H', hv, rfl⟩ := effR_some h
      exact builtin_of (boxA_ok hH (hev x u hu) hv)
    · cases h
  case build t ps =>
    split at h
    · rename_i us hu
      obtain ⟨v, hv, rfl⟩ := pureR_some h
      have := evpsA_ok hev hu
      refine value_of hH (buildA_ok ?_ hv)
      simpa using this
    · cases h
  case buildSlice t len ps =>
    split at h
    · rename_i us hu
      obtain ⟨v, H', hv, rfl⟩ := effR_some h
      have := evpsA_ok hev hu
      refine builtin_of (buildSliceA_ok hH ?_ hv)
      simpa using this
    · cases h
  case load t x =>
    split at h
    · rename_i u hu
      obtain ⟨v, hv, rfl⟩ := pureR_some h
      exact value_of hH (loadVarA_ok hH (hev x u hu) hv)
    · cases h
  case store t x y =>
    split at h
    · rename_i u u' hu hu'
      obtain ⟨H', hv, rfl⟩ := skipR_some h
      obtain ⟨w', h1, h2, h3⟩ := storeVarA_ok (P := P) hH (hev x u hu) (hev y u' hu') hv
      exact ⟨w', by simp [h1], h2, h3⟩
    · cases h
  case nilCheck x =>
    split at h
    · rename_i b o hu
      injection h with h; subst h
      have hr := hev x _ hu
      generalize e x = q at *
      cases hr with | ptr _ _ L hL =>
      exact ⟨ι, w, _, rfl, VR.ptr b o L hL, hH, St.refl ι H w⟩
    · rename_i f cs hu
      injection h with h; subst h
      have hr := hev x _ hu
      generalize e x = q at *
      cases hr with | func _ _ vs hvs =>
      exact ⟨ι, w, _, rfl, VR.func f cs vs hvs, hH, St.refl ι H w⟩
    · cases h
  case binOp op t x y yt =>
    split at h
    · rename_i hu hu'
      obtain ⟨v, hv, rfl⟩ := pureR_some h
      rw [nili_inv (hev x _ hu), nili_inv (hev y _ hu')]
      exact value_of hH (nilIA_ok hv)
    · rename_i u u' _ hu hu'
      obtain ⟨v, hv, rfl⟩ := pureR_some h
      exact value_of hH (binA_ok hE (hev x u hu) (hev y u' hu') hv)
    · cases h
  case unOp op t x =>
    split at h
    · rename_i u hu
      obtain ⟨v, hv, rfl⟩ := pureR_some h
      exact value_of hH (unA_ok hE (hev x u hu) hv)
    · cases h
  case convert src dst x =>
    split at h
    · rename_i u hu
      split at h
      · rename_i v hv
        injection h with h; subst h
        exact value_of hH (convA_ok hE (hev x u hu) hv)
      · split at h
        · obtain ⟨v, H', hv, rfl⟩ := effR_some h
          exact builtin_of (bytesA_ok hH (hev x _ hu) hv)
        · obtain ⟨v, H', hv, rfl⟩ := effR_some h
          exact builtin_of (markA_ok hH (hev x _ hu) hv)
    · cases h
  case makeFunc fn first captured =>
    cases fn with
    | func f =>
      dsimp only at h
      split at h
      · rename_i vs hf hv
        injection h with h; subst h
        have hf0 : first = #[] := by simpa using hf
        subst hf0
        have := evsA_ok hev hv
        refine ⟨ι, w, _, rfl, ?_, hH, St.refl ι H w⟩
        have h1 := VR.func (ι := ι) (ρ := ρ) f vs _ this
        have h2 : (captured.toList.map e).toArray = captured.map e := by apply Array.ext'; simp only [Array.toList_map]
        rw [h2] at h1
        have h3 : (#[] : Array Operand).map e = #[] := by simp
        rw [h3]
        exact h1
      · cases h
    | _ => cases h
  case slice t x lo hi mx =>
    split at h
    · rename_i u l k m h1 h2 h3 h4
      obtain ⟨v, hv, rfl⟩ := pureR_some h
      exact value_of hH (sliceA_ok (hev x u h1) (evoA_ok hev h2) (evoA_ok hev h3) (evoA_ok hev h4) hv)
    · cases h
  case fieldAddr s x f =>
    split at h
    · rename_i u hu
      obtain ⟨v, hv, rfl⟩ := pureR_some h
      exact value_of hH (fieldAddrA_ok (hev x u hu) hv)
    · cases h
  case field s x f =>
    split at h
    · rename_i u hu
      obtain ⟨v, hv, rfl⟩ := pureR_some h
      exact value_of hH (fieldA_ok (hev x u hu) hv)
    · cases h
  case indexAddr t x i =>
    split at h
    · rename_i u u' hu hu'
      obtain ⟨v, hv, rfl⟩ := pureR_some h
      exact value_of hH (indexAddrA_ok (hev x u hu) (hev i u' hu') hv)
    · cases h
  case index t x i =>
    split at h
    · rename_i u u' hu hu'
      obtain ⟨v, hv, rfl⟩ := pureR_some h
      exact value_of hH (indexA_ok (hev x u hu) (hev i u' hu') hv)
    · cases h
  case extract x i =>
    split at h
    · rename_i u hu
      obtain ⟨v, hv, rfl⟩ := pureR_some h
      exact value_of hH (extractA_ok (hev x u hu) hv)
    · cases h
  case call c =>
    obtain ⟨callee, args, argTypes⟩ := c
    dsimp only at h
    cases callee with
    | builtin b =>
      dsimp only at h
      split at h
      · rename_i vs hv
        have h1 := builtinA_ok (ty := type) (cs := args.map fun | .const _ => true | _ => false) (w := w) hE hH (evsA_ok hev hv) h
        have h2 : (args.toList.map e).toArray = args.map e := by apply Array.ext'; simp only [Array.toList_map]
        rw [h2] at h1
        exact h1
      · cases h
    | value f =>
      dsimp only at h
      split at h
      · rename_i g cs vs hg hv
        split at h
        · rename_i hok
          injection h with h; subst h
          have hr := hev f _ hg
          cases hf : e f with
          | func fn first cap =>
            rw [hf] at hr
            cases hr with | func _ _ ws hws =>
            refine ⟨args.toList.map e ++ ws, ?_, (evsA_ok hev hv).append hws⟩
            have h2 : (args.toList.map e ++ ws).toArray = args.map e ++ ws.toArray := by apply Array.ext'; simp
            rw [h2]
            simp only [resolve, hf, Deferred.ofValue, Sem.run_bind, Sem.run_pure, Result.andThen_ok, invoke, Array.empty_append]
            exact fnOk_run hok _ w
          | _ => rw [hf] at hr; cases hr
        · cases h
      · cases h
    | invoke r m => cases h
  case defer c =>
    obtain ⟨callee, args, argTypes⟩ := c
    dsimp only at h
    cases callee with
    | value f =>
      dsimp only at h
      split at h
      · rename_i g cs vs hg hv
        split at h
        · rename_i hok
          injection h with h; subst h
          have hr := hev f _ hg
          cases hf : e f with
          | func fn first cap =>
            rw [hf] at hr
            cases hr with | func _ _ ws hws =>
            refine ⟨{ target := .fn (.func g) ws.toArray, args := args.map e }, ?_, ws.toArray, args.toList.map e ++ ws, rfl, (evsA_ok hev hv).append hws, fun w' => ?_⟩
            · simp [resolve, hf, Deferred.ofValue]
            · have h2 : (args.toList.map e ++ ws).toArray = args.map e ++ ws.toArray := by apply Array.ext'; simp
              rw [h2]
              simp only [invoke]
              exact fnOk_run hok _ w'
          | _ => rw [hf] at hr; cases hr
        · cases h
      · cases h
    | builtin b => cases h
    | invoke r m => cases h
  all_goals cases h

end
end Go.Proofs.YtpcbmenjbcpieaaGreatDoor.AM

/- An abstract machine for the model's code, part L: one operation within a frame; regions in the order of the text. -/
set_option linter.unusedVariables false
set_option linter.unusedSimpArgs false
namespace Go.Proofs.YtpcbmenjbcpieaaGreatDoor.AM
open Go
noncomputable section
variable {m : Nat}

/-- A deferred call, or the mark of a loop over a function. -/
inductive DE where
  | call (f : Nat) (args : List AV)
  | col

abbrev DF := List DE

theorem DR.mono {P : Program} {ι ι' : Inj} {ρ : Rho} {f : Nat} {args : List AV} {d : Deferred} (he : Ext ι ι') (h : DR P ι ρ f args d) : DR P ι' ρ f args d := by
  obtain ⟨cap, xs, h1, h2, h3⟩ := h
  exact ⟨cap, xs, h1, VRs.mono he h2, h3⟩

/-- Deferred calls, as the model keeps them. -/
inductive DRs (P : Program) (m : Nat) (ι : Inj) (ρ : Rho) (H : AH) (w : World) : DF → List Deferred → Prop
  | nil : DRs P m ι ρ H w [] []
  | call (f : Nat) (args : List AV) (d : Deferred) (l : DF) (ds : List Deferred) : DR P ι ρ f args d → DRs P m ι ρ H w l ds → DRs P m ι ρ H w (.call f args :: l) (d :: ds)
  | col (D : Nat) : m ≤ D → w.heap[D]? = some (.deferred (some [])) → ¬ Own ι H D → DRs P m ι ρ H w [.col] [{ target := .collected D, args := #[] }]

theorem lt_of_get {hp : Array Obj} {D : Nat} {o : Obj} (h : hp[D]? = some o) : D < hp.size := (Array.getElem?_eq_some_iff.1 h).1

/-- What is not owned stays, and stays not owned. -/
theorem St.apart {ι ι' : Inj} {H H' : AH} {w w' : World} {D : Nat} {o : Obj} (h : St ι H w ι' H' w') (hg : w.heap[D]? = some o) (hn : ¬ Own ι H D) :
    w'.heap[D]? = some o ∧ ¬ Own ι' H' D :=
  ⟨(h.keep D (lt_of_get hg) hn).trans hg, fun ho => (h.own D ho).elim hn fun hl => absurd (lt_of_get hg) (Nat.not_lt.2 hl)⟩

theorem DRs.step {P : Program} {ι ι' : Inj} {ρ : Rho} {H H' : AH} {w w' : World} (hs : St ι H w ι' H' w') : ∀ {l : DF} {ds : List Deferred}, DRs P m ι ρ H w l ds → DRs P m ι' ρ H' w' l ds
  | _, _, .nil => .nil
  | _, _, .call f args d l ds h t => .call f args d l ds (h.mono hs.ext) (DRs.step hs t)
  | _, _, .col D h0 h1 h2 => let ⟨g1, g2⟩ := hs.apart h1 h2; .col D h0 g1 g2

def evA (tm : Tr AV) : Operand → Option AV
  | .tmp t => tm.get t
  | .const v => ofC v
  | .func f => some (.func f [])
  | .global _ => none

/-- What the temporaries hold. -/
def TR (ι : Inj) (ρ : Rho) (g : Nat → Option AV) (ts : Array Value) : Prop := ∀ t v, g t = some v → ∃ x, ts[t]? = some x ∧ VR ι ρ v x

theorem TR.mono {ι ι' : Inj} {ρ : Rho} {g : Nat → Option AV} {ts : Array Value} (he : Ext ι ι') (h : TR ι ρ g ts) : TR ι' ρ g ts :=
  fun t v e => let ⟨x, hx, hr⟩ := h t v e; ⟨x, hx, hr.mono he⟩

theorem evA_ok {ι : Inj} {ρ : Rho} {tm : Tr AV} {a : Act} {X : Operand} {v : AV}
    (h : ∀ t, X = .tmp t → ∀ v, tm.get t = some v → ∃ x, a.tmps[t]? = some x ∧ VR ι ρ v x) (he : evA tm X = some v) : VR ι ρ v (a.eval X) := by
  cases X with
  | tmp t =>
    obtain ⟨x, hx, hr⟩ := h t rfl v he
    have : a.eval (.tmp t) = x := by simp [Act.eval, hx]
    rw [this]; exact hr
  | const c => exact ofC_ok he
  | func f =>
    injection he with he; subst he
    exact VR.func f [] [] .nil
  | global g => cases he

/-! ### Only the operands count -/
theorem evsA_congr {ev ev' : Operand → Option AV} : ∀ {l : List Operand}, (∀ X ∈ l, ev X = ev' X) → evsA ev l = evsA ev' l
  | [], _ => rfl
  | X :: l, h => by
    unfold evsA
    rw [h X (by simp), evsA_congr fun Y hY => h Y (by simp [hY])]

theorem evpsA_congr {ev ev' : Operand → Option AV} : ∀ {l : List (Nat × Operand)}, (∀ p ∈ l, ev p.2 = ev' p.2) → evpsA ev l = evpsA ev' l
  | [], _ => rfl
  | (i, X) :: l, h => by
    unfold evpsA
    rw [h (i, X) (by simp), evpsA_congr fun Y hY => h Y (by simp [hY])]

theorem evoA_congr {ev ev' : Operand → Option AV} {x : Option Operand} (h : ∀ X, x = some X → ev X = ev' X) : evoA ev x = evoA ev' x := by
  cases x with
  | none => rfl
  | some X => unfold evoA; dsimp only; rw [h X rfl]

theorem opA_congr {P : Program} {E : Env} {ev ev' : Operand → Option AV} {H : AH} {o : Oper} (h : ∀ X ∈ o.op.operands, ev X = ev' X) : opA P E ev H o = opA P E ev' H o := by
  obtain ⟨dst, op, type, pos, after, guard⟩ := o
  unfold opA
  dsimp only at h ⊢
  cases op <;> (try dsimp only) <;> simp only [Op.operands] at h
  case move x => rw [h x (by simp)]
  case assign x => rw [h x (by simp)]
  case pick c a b => rw [h c (by simp), h a (by simp), h b (by simp)]
  case box t x => rw [h x (by simp)]
  case build t ps => rw [evpsA_congr fun p hp => h p.2 (by simp only [List.mem_toArray, List.mem_map]; exact ⟨p, hp, rfl⟩)]
  case buildSlice t n ps => rw [evpsA_congr fun p hp => h p.2 (by simp only [List.mem_toArray, List.mem_map]; exact ⟨p, hp, rfl⟩)]
  case load t x => rw [h x (by simp)]
  case store t x y => rw [h x (by simp), h y (by simp)]
  case nilCheck x => rw [h x (by simp)]
  case binOp op t x y yt => rw [h x (by simp), h y (by simp)]
  case unOp op t x => rw [h x (by simp)]
  case convert s d x => rw [h x (by simp)]
  case makeFunc fn first captured =>
    cases fn <;> (try dsimp only)
    rw [evsA_congr fun X hX => h X (by rw [Array.mem_append]; exact .inr (by simpa using hX))]
  case slice t x lo hi mx =>
    rw [h x (by simp), evoA_congr fun X hX => h X (by subst hX; simp), evoA_congr fun X hX => h X (by subst hX; simp), evoA_congr fun X hX => h X (by subst hX; simp)]
  case fieldAddr s x f => rw [h x (by simp)]
  case field s x f => rw [h x (by simp)]
  case indexAddr t x i => rw [h x (by simp), h i (by simp)]
  case index t x i => rw [h x (by simp), h i (by simp)]
  case extract x i => rw [h x (by simp)]
  case call c =>
    obtain ⟨callee, args, argTypes⟩ := c
    dsimp only [Call.operands] at h ⊢
    cases callee with
    | builtin b => dsimp only at h ⊢; rw [evsA_congr fun X hX => h X (by rw [Array.mem_append]; exact .inr (by simpa using hX))]
    | value f => dsimp only at h ⊢; rw [h f (by simp), evsA_congr fun X hX => h X (by rw [Array.mem_append]; exact .inr (by simpa using hX))]
    | invoke r m => rfl
  case defer c =>
    obtain ⟨callee, args, argTypes⟩ := c
    dsimp only [Call.operands] at h ⊢
    cases callee with
    | value f => dsimp only at h ⊢; rw [h f (by simp), evsA_congr fun X hX => h X (by rw [Array.mem_append]; exact .inr (by simpa using hX))]
    | builtin b => rfl
    | invoke r m => rfl

open Classical in
/-- What is known of an operation's operands alone is enough. -/
theorem opA_ok' {P : Program} {E : Env} {ι : Inj} {ρ : Rho} {H : AH} {w : World} {ev : Operand → Option AV} {e : Operand → Value} (hE : E.ok ρ) (hH : HR ι ρ H w.heap)
    {o : Oper} {r : OpR} (hev : ∀ X ∈ o.op.operands, ∀ v, ev X = some v → VR ι ρ v (e X)) (h : opA P E ev H o = some r) : OpOk P ι ρ H w (execOp e o) r := by
  have hc := opA_congr (P := P) (E := E) (H := H) (o := o) (ev := ev) (ev' := fun X => if X ∈ o.op.operands then ev X else none) (fun X hX => by simp [hX])
  rw [hc] at h
  refine opA_ok hE hH (fun X v hX => ?_) h
  by_cases hm : X ∈ o.op.operands
  · simp only [hm, if_true] at hX; exact hev X hm v hX
  · simp only [hm, if_false] at hX; cases hX

/-! ### One operation within a frame -/
abbrev Caller := Nat → List AV → AH → Option (AV × AH)

/-- What a caller says is what the program does. -/
def CallOk (P : Program) (ρ : Rho) (C : Caller) : Prop :=
  ∀ f args H v H', C f args H = some (v, H') → ∀ (ι : Inj) (w : World) (xs : List Value), HR ι ρ H w.heap → VRs ι ρ args xs →
    Calls P f xs.toArray w fun
      | .returned x, w' => ∃ ι', VR ι' ρ v x ∧ HR ι' ρ H' w'.heap ∧ St ι H w ι' H' w'
      | _, _ => False

def stepA (P : Program) (E : Env) (C : Caller) (tm : Tr AV) (H : AH) (df : DF) (o : Oper) : Option (AV × AH × DF) :=
  match opA P E (evA tm) H o with
  | some (.val v H') => some (v, H', df)
  | some (.skip H') => some (.tup [], H', df)
  | some (.enter f args) => match C f args H with
    | some (v, H') => some (v, H', df)
    | none => none
  | some (.defer f args) => some (.tup [], H, .call f args :: df)
  | none => none

theorem stepA_ok {P : Program} {E : Env} {C : Caller} {ι : Inj} {ρ : Rho} {tm : Tr AV} {H H' : AH} {df df' : DF} {o : Oper} {v : AV} {a : Act} {w : World} {K : Act → World → Prop} {Q : Exit → Act → World → Prop}
    (hE : E.ok ρ) (hC : CallOk P ρ C) (hH : HR ι ρ H w.heap)
    (hev : ∀ t, Operand.tmp t ∈ o.op.operands → ∀ v, tm.get t = some v → ∃ x, a.tmps[t]? = some x ∧ VR ι ρ v x) (hdf : DRs P m ι ρ H w df a.defers)
    (h : stepA P E C tm H df o = some (v, H', df'))
    (hK : ∀ ι' x w' ds, VR ι' ρ v x → HR ι' ρ H' w'.heap → St ι H w ι' H' w' → DRs P m ι' ρ H' w' df' ds → K (({ a with defers := ds } : Act).put o.dst x) w') :
    o.wp P a w K Q := by
  have hev' : ∀ X ∈ o.op.operands, ∀ v, evA tm X = some v → VR ι ρ v (a.eval X) := fun X hX v hv => evA_ok (fun t ht => hev t (ht ▸ hX)) hv
  unfold stepA at h
  split at h
  · rename_i u Hu hop
    simp only [Option.some.injEq, Prod.mk.injEq] at h
    obtain ⟨rfl, rfl, rfl⟩ := h
    obtain ⟨ι', w', x, h1, h2, h3, h4⟩ := opA_ok' (w := w) hE hH hev' hop
    unfold Oper.wp
    rw [h1]
    exact hK ι' x w' a.defers h2 h3 h4 (hdf.step h4)
  · rename_i Hu hop
    simp only [Option.some.injEq, Prod.mk.injEq] at h
    obtain ⟨rfl, rfl, rfl⟩ := h
    obtain ⟨w', h1, h3, h4⟩ := opA_ok' (w := w) hE hH hev' hop
    unfold Oper.wp
    rw [h1]
    exact hK ι undef w' a.defers (VR.tup [] [] .nil) h3 h4 (hdf.step h4)
  · rename_i f args hop
    split at h
    · rename_i u Hu hc
      simp only [Option.some.injEq, Prod.mk.injEq] at h
      obtain ⟨rfl, rfl, rfl⟩ := h
      obtain ⟨xs, h1, h2⟩ := opA_ok' (w := w) hE hH hev' hop
      unfold Oper.wp
      rw [h1]
      refine Calls.mono (hC f args H u Hu hc ι w xs hH h2) fun e w' he => ?_
      cases e with
      | returned x =>
        obtain ⟨ι', g1, g2, g3⟩ := he
        exact hK ι' x w' a.defers g1 g2 g3 (hdf.step g3)
      | panicked ch => exact he.elim
      | outgrown => exact he.elim
    · cases h
  · rename_i f args hop
    simp only [Option.some.injEq, Prod.mk.injEq] at h
    obtain ⟨rfl, rfl, rfl⟩ := h
    obtain ⟨d, h1, h2⟩ := opA_ok' (w := w) hE hH hev' hop
    unfold Oper.wp
    rw [h1]
    exact hK ι undef w (d :: a.defers) (VR.tup [] [] .nil) hH (St.refl ι H w) (.call f args d df a.defers h2 hdf)
  · cases h

/-! ### Guards -/
def guardTmp (ops : Array Oper) (o : Oper) : Option Tmp :=
  match o.guard with
  | none => none
  | some (j, _) => (ops[j]?).bind (·.dst)

def wantA (ops : Array Oper) (tm : Tr AV) (o : Oper) : Option Bool :=
  match o.guard with
  | none => some true
  | some (j, want) => match (ops[j]?).bind (·.dst) with
    | some t => match tm.get t with
      | some (.bool b) => some (b == want)
      | some (.tup []) => some false
      | _ => none
    | none => none

theorem wantA_ok {ι : Inj} {ρ : Rho} {ops : Array Oper} {tm : Tr AV} {o : Oper} {b : Bool} {ts : Array Value}
    (hev : ∀ t, guardTmp ops o = some t → ∀ v, tm.get t = some v → ∃ x, ts[t]? = some x ∧ VR ι ρ v x) (h : wantA ops tm o = some b) :
    Region.wanted o (yielded ops ts) = b := by
  unfold wantA at h
  unfold guardTmp at hev
  unfold Region.wanted
  split at h
  · rename_i hg; injection h with h; subst h; simp only [hg]
  · rename_i j want hg
    simp only [hg] at hev ⊢
    split at h
    · rename_i t ht
      split at h
      · rename_i c hc
        injection h with h; subst h
        obtain ⟨x, hx, hr⟩ := hev t ht _ hc
        cases hr
        simp only [yielded, ht, Option.bind_some, hx]
        rfl
      · rename_i hc
        injection h with h; subst h
        obtain ⟨x, hx, hr⟩ := hev t ht _ hc
        cases hr
        simp only [yielded, ht, Option.bind_some, hx]
        rfl
      · cases h
    · cases h

/-! ### Temporaries -/
/-- A temporary is set, where the frame has it. -/
def putT (n : Nat) (tm : Tr AV) (dst : Option Tmp) (v : AV) : Option (Tr AV) :=
  match dst with
  | none => some tm
  | some d => match Nat.blt d n with
    | true => some (Tr.set 24 tm d v)
    | false => none

theorem putT_get {n : Nat} {tm tm' : Tr AV} {dst : Option Tmp} {v : AV} (hn : n ≤ 16000000) (h : putT n tm dst v = some tm') (t : Nat) :
    tm'.get t = if dst = some t then some v else tm.get t := by
  cases dst with
  | none => injection h with h; subst h; simp
  | some d =>
    simp only [putT] at h
    split at h
    · rename_i hd
      have hd := Nat.le_of_ble_eq_true hd
      injection h with h; subst h
      rw [Tr.get_set 24 _ _ _ _ (by omega)]
      by_cases e : t = d
      · subst e; simp
      · rw [if_neg e, if_neg (by simpa using fun h => e h.symm)]
    · cases h

theorem putT_lt {n : Nat} {tm tm' : Tr AV} {d : Tmp} {v : AV} (h : putT n tm (some d) v = some tm') : d < n := by
  unfold putT at h
  split at h
  · rename_i hd; cases hd
  · rename_i d' hd
    injection hd with hd; subst hd
    split at h
    · rename_i hb; exact Nat.le_of_ble_eq_true hb
    · cases h

theorem TR.put {ι : Inj} {ρ : Rho} {g g' : Nat → Option AV} {a : Act} {dst : Option Tmp} {v : AV} {x : Value} (h : TR ι ρ g a.tmps) (hv : VR ι ρ v x)
    (hd : ∀ d, dst = some d → d < a.tmps.size) (hg : ∀ t, g' t = if dst = some t then some v else g t) : TR ι ρ g' (a.put dst x).tmps := by
  intro t u hu
  rw [hg] at hu
  by_cases e : dst = some t
  · rw [if_pos e] at hu
    injection hu with hu; subst hu
    subst e
    refine ⟨x, ?_, hv⟩
    have := hd t rfl
    simp [Act.put, this]
  · rw [if_neg e] at hu
    obtain ⟨y, hy, hr⟩ := h t u hu
    refine ⟨y, ?_, hr⟩
    cases dst with
    | none => exact hy
    | some d =>
      have hne : d ≠ t := fun h => e (by rw [h])
      simp only [Act.put, Array.getElem?_setIfInBounds_ne hne]
      exact hy

theorem put_size (a : Act) (dst : Option Tmp) (x : Value) : (a.put dst x).tmps.size = a.tmps.size := by
  cases dst <;> simp [Act.put]
theorem put_defers (a : Act) (dst : Option Tmp) (x : Value) : (a.put dst x).defers = a.defers := by
  cases dst <;> rfl

/-! ### A frame -/
structure Fr where
  tm : Tr AV
  df : DF
  H : AH

structure FR (P : Program) (m : Nat) (ι : Inj) (ρ : Rho) (n : Nat) (F : Fr) (a : Act) (w : World) : Prop where
  size : a.tmps.size = n
  tm : TR ι ρ F.tm.get a.tmps
  df : DRs P m ι ρ F.H w F.df a.defers
  hp : HR ι ρ F.H w.heap

/-! ### A region in the order of the text -/
def opsA (P : Program) (E : Env) (C : Caller) (n : Nat) (ops : Array Oper) : List Oper → Fr → Option Fr
  | [], F => some F
  | o :: rest, F => match wantA ops F.tm o with
    | some true => match stepA P E C F.tm F.H F.df o with
      | some (v, H', df') => match putT n F.tm o.dst v with
        | some tm' => opsA P E C n ops rest ⟨tm', df', H'⟩
        | none => none
      | none => none
    | some false => match putT n F.tm o.dst (.tup []) with
      | some tm' => opsA P E C n ops rest ⟨tm', F.df, F.H⟩
      | none => none
    | none => none

theorem putT_dst {n : Nat} {tm tm' : Tr AV} {dst : Option Tmp} {v : AV} (h : putT n tm dst v = some tm') : ∀ d, dst = some d → d < n := fun d hd => by
  subst hd; exact putT_lt h

theorem opsA_ok {P : Program} {E : Env} {C : Caller} {ρ : Rho} {n : Nat} {ops : Array Oper} {Q : Exit → Act → World → Prop} (hE : E.ok ρ) (hC : CallOk P ρ C) (hn : n ≤ 16000000) :
    ∀ (rest : List Oper) (i : Nat) (F F' : Fr) (ι : Inj) (a : Act) (w : World), ops.toList.drop i = rest → opsA P E C n ops rest F = some F' → FR P m ι ρ n F a w →
      (∀ ι' a' w', FR P m ι' ρ n F' a' w' → St ι F.H w ι' F'.H w' → Q .normal a' w') → wpOps P ops Q (List.range' i rest.length) a w
  | [], i, F, F', ι, a, w, hd, h, hF, hQ => by
    injection h with h; subst h
    exact hQ ι a w hF (St.refl ι F.H w)
  | o :: rest, i, F, F', ι, a, w, hd, h, hF, hQ => by
    have hi : ops[i]? = some o := by
      have : ops.toList[i]? = some o := by
        have h0 : (ops.toList.drop i)[0]? = some o := by rw [hd]; rfl
        simpa using h0
      simpa using this
    have hd' : ops.toList.drop (i + 1) = rest := by
      have : (ops.toList.drop i).drop 1 = rest := by rw [hd]; rfl
      rw [List.drop_drop] at this
      exact this
    rw [List.length_cons, List.range'_succ, wpOps_cons]
    unfold wpOp
    simp only [hi]
    unfold opsA at h
    split at h
    · rename_i hw
      have hwd := wantA_ok (ts := a.tmps) (fun t _ v hv => hF.tm t v hv) hw
      rw [hwd, if_pos rfl]
      split at h
      · rename_i v H' df' hst
        split at h
        · rename_i tm' htm
          refine .inl (stepA_ok hE hC hF.hp (fun t _ v hv => hF.tm t v hv) hF.df hst fun ι' x w' ds hv hH hS hds => ?_)
          refine opsA_ok hE hC hn rest (i + 1) _ F' ι' _ w' hd' h ?_ fun ι2 a2 w2 hF2 hS2 => hQ ι2 a2 w2 hF2 (hS.trans hS2)
          refine ⟨by rw [put_size]; exact hF.size, ?_, by rw [put_defers]; exact hds, hH⟩
          exact TR.put (a := { a with defers := ds }) (hF.tm.mono hS.ext) hv (fun d hd => by rw [show ({ a with defers := ds } : Act).tmps.size = n from hF.size]; exact putT_dst htm d hd) (putT_get hn htm)
        · cases h
      · cases h
    · rename_i hw
      have hwd := wantA_ok (ts := a.tmps) (fun t _ v hv => hF.tm t v hv) hw
      rw [hwd]
      simp only [Bool.false_eq_true, if_false]
      split at h
      · rename_i tm' htm
        refine opsA_ok hE hC hn rest (i + 1) _ F' ι _ w hd' h ?_ hQ
        refine ⟨by rw [put_size]; exact hF.size, ?_, by rw [put_defers]; exact hF.df, hF.hp⟩
        exact TR.put hF.tm (VR.tup [] [] .nil) (fun d hd => by rw [hF.size]; exact putT_dst htm d hd) (putT_get hn htm)
      · cases h
    · cases h

theorem regionA_ok {P : Program} {E : Env} {C : Caller} {ρ : Rho} {n : Nat} {ops : Array Oper} {Q : Exit → Act → World → Prop} (hE : E.ok ρ) (hC : CallOk P ρ C) (hn : n ≤ 16000000) {F F' : Fr} {ι : Inj} {a : Act} {w : World} {id : Nat}
    (h : opsA P E C n ops ops.toList F = some F') (hF : FR P m ι ρ n F a w) (hQ : ∀ ι' a' w', FR P m ι' ρ n F' a' w' → St ι F.H w ι' F'.H w' → Q .normal a' w') :
    (Code.region id ops false).wp P Q a w := by
  refine wp_region ?_
  have := opsA_ok (Q := Q) hE hC hn ops.toList 0 F F' ι a w (by simp) h hF hQ
  rw [List.range_eq_range']
  simpa using this

end
end Go.Proofs.YtpcbmenjbcpieaaGreatDoor.AM

/- An abstract machine for the model's code, part M: what the machine does: regions whose order is drawn, code, calls. -/
set_option linter.unusedVariables false
set_option linter.unusedSimpArgs false
namespace Go.Proofs.YtpcbmenjbcpieaaGreatDoor.AM
open Go
noncomputable section

/-! ### Are two values the same? -/
def seqb : List SI → List SI → Bool
  | [], [] => true
  | a :: as, b :: bs => match a.eqb b with
    | true => seqb as bs
    | false => false
  | _, _ => false

theorem seqb_eq : ∀ {a b : List SI}, seqb a b = true → a = b
  | [], [], _ => rfl
  | [], _ :: _, h => by cases h
  | _ :: _, [], h => by cases h
  | a :: as, b :: bs, h => by
    unfold seqb at h
    split at h
    · rename_i h1; rw [SI.eqb_eq h1, seqb_eq h]
    · cases h

def oeqb : Option Nat → Option Nat → Bool
  | none, none => true
  | some a, some b => Nat.beq a b
  | _, _ => false

theorem oeqb_eq {a b : Option Nat} (h : oeqb a b = true) : a = b := by
  cases a <;> cases b <;> simp [oeqb] at h ⊢
  exact h

def pceqb : List Pc → List Pc → Bool
  | [], [] => true
  | .byte a :: as, .byte b :: bs => match a.eqb b with
    | true => pceqb as bs
    | false => false
  | .dec a :: as, .dec b :: bs => match a.eqb b with
    | true => pceqb as bs
    | false => false
  | _, _ => false

theorem pceqb_eq : ∀ {a b : List Pc}, pceqb a b = true → a = b
  | [], [], _ => rfl
  | [], _ :: _, h => by simp [pceqb] at h
  | _ :: _, [], h => by simp [pceqb] at h
  | .byte a :: as, .byte b :: bs, h => by
    unfold pceqb at h
    split at h
    · rename_i h1; rw [SI.eqb_eq h1, pceqb_eq h]
    · cases h
  | .dec a :: as, .dec b :: bs, h => by
    unfold pceqb at h
    split at h
    · rename_i h1; rw [SI.eqb_eq h1, pceqb_eq h]
    · cases h
  | .byte a :: as, .dec b :: bs, h => by simp [pceqb] at h
  | .dec a :: as, .byte b :: bs, h => by simp [pceqb] at h

mutual
def AV.eqb : AV → AV → Bool
  | .bool a, .bool b => a == b
  | .int k a, .int l b => decide (k = l) && a.eqb b
  | .str a, .str b => seqb a b
  | .nilp, .nilp => true
  | .ptr a o, .ptr b p => Nat.beq a b && Nat.beq o p
  | .nils, .nils => true
  | .slice a o n c e, .slice a' o' n' c' e' => Nat.beq a a' && Nat.beq o o' && Nat.beq n n' && oeqb c c' && Nat.beq e e'
  | .func f cs, .func g ds => Nat.beq f g && AVs.eqb cs ds
  | .nilf, .nilf => true
  | .nili, .nili => true
  | .agg cs, .agg ds => AVs.eqb cs ds
  | .tup cs, .tup ds => AVs.eqb cs ds
  | .opq, .opq => true
  | .text a, .text b => pceqb a b
  | _, _ => false
def AVs.eqb : List AV → List AV → Bool
  | [], [] => true
  | a :: as, b :: bs => a.eqb b && AVs.eqb as bs
  | _, _ => false
end

mutual
theorem AV.eqb_eq : ∀ {a b : AV}, a.eqb b = true → a = b
  | .bool a, b, h => by cases b <;> simp [AV.eqb] at h; rw [h]
  | .int k a, b, h => by cases b <;> simp [AV.eqb] at h; rw [h.1, SI.eqb_eq h.2]
  | .str a, b, h => by cases b <;> simp [AV.eqb] at h; rw [seqb_eq h]
  | .nilp, b, h => by cases b <;> simp [AV.eqb] at h; rfl
  | .ptr a o, b, h => by cases b <;> simp [AV.eqb] at h; rw [h.1, h.2]
  | .nils, b, h => by cases b <;> simp [AV.eqb] at h; rfl
  | .slice a o n c e, b, h => by
    cases b <;> simp [AV.eqb] at h
    obtain ⟨⟨⟨⟨h1, h2⟩, h3⟩, h4⟩, h5⟩ := h
    rw [h1, h2, h3, oeqb_eq h4, h5]
  | .func f cs, b, h => by cases b <;> simp [AV.eqb] at h; rw [h.1, AVs.eqb_eq h.2]
  | .nilf, b, h => by cases b <;> simp [AV.eqb] at h; rfl
  | .nili, b, h => by cases b <;> simp [AV.eqb] at h; rfl
  | .agg cs, b, h => by cases b <;> simp [AV.eqb] at h; rw [AVs.eqb_eq h]
  | .tup cs, b, h => by cases b <;> simp [AV.eqb] at h; rw [AVs.eqb_eq h]
  | .yld, b, h => by cases b <;> simp [AV.eqb] at h
  | .opq, b, h => by cases b <;> simp [AV.eqb] at h; rfl
  | .text a, b, h => by cases b <;> simp [AV.eqb] at h; rw [pceqb_eq h]
theorem AVs.eqb_eq : ∀ {a b : List AV}, AVs.eqb a b = true → a = b
  | [], [], _ => rfl
  | [], _ :: _, h => by simp [AVs.eqb] at h
  | _ :: _, [], h => by simp [AVs.eqb] at h
  | a :: as, b :: bs, h => by
    simp [AVs.eqb] at h
    rw [AV.eqb_eq h.1, AVs.eqb_eq h.2]
end

/-! ### A region whose order is drawn -/
inductive Kd where
  | skip
  | pure
  | load (t : TypeId) (x : AV)
  | alloc (r : Nat) (k : Blk)
  | store (b o : Nat) (vs : List AV) (A : AH)
  | eff (A : AH) (df : DF)

/-- What became of an operation: which ones come before it (a number's bits), which temporaries it reads, what it gave. -/
structure Rec where
  o : Oper
  bef : Nat
  rd : List Nat
  v : AV
  kd : Kd

def rds : List Operand → List Nat
  | [] => []
  | .tmp t :: l => t :: rds l
  | _ :: l => rds l

def readsOf (ops : Array Oper) (o : Oper) : List Nat :=
  match guardTmp ops o with
  | some t => t :: rds o.op.operands.toList
  | none => rds o.op.operands.toList

/-- The operations before one that has these edges; the records lie the last one first, n of them. -/
def befA (rs : List Rec) (n : Nat) : List Edge → Option Nat
  | [] => some 0
  | e :: es => match befA rs n es with
    | none => none
    | some m => match Region.binds .any e with
      | false => some m
      | true => match Nat.blt e.on n, rs[n - 1 - e.on]? with
        | true, some r => some (m ||| (2 ^ e.on ||| r.bef))
        | _, _ => none

def memb (t : Nat) : List Nat → Bool
  | [] => false
  | u :: l => match Nat.beq t u with
    | true => true
    | false => memb t l

def dstIn (d : Option Tmp) (l : List Nat) : Bool :=
  match d with
  | some t => memb t l
  | none => false

def dstEq (d e : Option Tmp) : Bool :=
  match d, e with
  | some t, some u => Nat.beq t u
  | _, _ => false

/-- Who writes what another reads or writes is before it, or behind it. -/
def orderOk (bef : Nat) (rd : List Nat) (dst : Option Tmp) : List Rec → Nat → Bool
  | [], _ => true
  | r :: rs, 0 => false
  | r :: rs, i + 1 => match bef.testBit i || !(dstIn r.o.dst rd || dstEq r.o.dst dst || dstIn dst r.rd) with
    | true => orderOk bef rd dst rs i
    | false => false

def isPure (P : Program) : Op → Bool
  | .convert _ dst _ => match P.underlying dst with
    | some (.slice _) => false
    | _ => true
  | .move _ | .assign _ | .pick .. | .build .. | .nilCheck _ | .binOp .. | .unOp .. | .makeFunc .. | .slice .. | .fieldAddr .. | .field .. | .indexAddr .. | .index .. | .extract .. => true
  | .call c => match c.callee with
    | .builtin .len | .builtin .cap | .builtin .max | .builtin .min => true
    | _ => false
  | _ => false

/-- The heap and the deferred calls behind the last effect. -/
def lastS (H0 : AH) (df0 : DF) : List Rec → AH × DF
  | [] => (H0, df0)
  | r :: rs => match r.kd with
    | .eff A df => (A, df)
    | .store _ _ _ A => (A, (lastS H0 df0 rs).2)
    | _ => lastS H0 df0 rs

def sameLoad (P : Program) (H : AH) (t : TypeId) (x v : AV) : Bool :=
  match loadVarA P H t x with
  | some u => u.eqb v
  | none => false

/-- Does a value lie in another block? -/
def offBlk (x : AV) (b : Nat) : Bool :=
  match x with
  | .ptr c _ => !Nat.beq c b
  | _ => false

/-- A reading gives the same in every heap in which it may come. -/
def loadOk (P : Program) (H0 : AH) (bef : Nat) (t : TypeId) (x v : AV) : List Rec → Nat → Bool
  | [], _ => sameLoad P H0 t x v
  | r :: rs, 0 => false
  | r :: rs, i + 1 => match r.kd with
    | .eff A _ => match sameLoad P A t x v with
      | true => match bef.testBit i with
        | true => true
        | false => loadOk P H0 bef t x v rs i
      | false => false
    | .store b _ _ A => match offBlk x b with
      | true => loadOk P H0 bef t x v rs i
      | false => match bef.testBit i with
        | true => sameLoad P A t x v
        | false => false
    | _ => loadOk P H0 bef t x v rs i

/-- An effect comes behind all the others; what was read ahead of it in the text and need not be, reads the same behind it. -/
def effOk (P : Program) (bef : Nat) (A : AH) : List Rec → Nat → Bool
  | [], _ => true
  | r :: rs, 0 => false
  | r :: rs, i + 1 => match bef.testBit i with
    | true => effOk P bef A rs i
    | false => match r.kd with
      | .eff _ _ => false
      | .store _ _ _ _ => false
      | .load t x => match sameLoad P A t x r.v with
        | true => effOk P bef A rs i
        | false => false
      | _ => effOk P bef A rs i

/-- A store comes behind all the effects; what is not before it has nothing to do with its block. -/
def storeOk (bef b : Nat) : List Rec → Nat → Bool
  | [], _ => true
  | r :: rs, 0 => false
  | r :: rs, i + 1 => match bef.testBit i with
    | true => storeOk bef b rs i
    | false => match r.kd with
      | .eff _ _ => false
      | .store c _ _ _ => match Nat.beq c b with
        | true => false
        | false => storeOk bef b rs i
      | .load _ x => match offBlk x b with
        | true => storeOk bef b rs i
        | false => false
      | _ => storeOk bef b rs i

/-- New blocks that come before an operation, and are not there yet, are put into the heap. -/
def joinA (bef : Nat) : List Rec → Nat → Nat → AH → AH
  | [], _, _, H => H
  | r :: rs, 0, _, H => H
  | r :: rs, i + 1, m, H => match r.kd with
    | .eff _ _ => joinA bef rs i (m ||| r.bef) H
    | .alloc id k => match bef.testBit i, m.testBit i with
      | true, false => joinA bef rs i m (H.put id (some k))
      | _, _ => joinA bef rs i m H
    | _ => joinA bef rs i m H

/-- What makes a new block: its value, the block. -/
def rowA (P : Program) (ev : Operand → Option AV) (r : Nat) (o : Oper) : Option (AV × Blk) :=
  match o.op with
  | .alloc t => match tzero P t with
    | some zs => match zs.all AV.one with
      | true => some (.ptr r 0, ⟨zs, some zs.length, t, false⟩)
      | false => none
    | none => none
  | .box t x => match ev x with
    | some v => match v.cells.all AV.one with
      | true => some (.ptr r 0, ⟨v.cells, some v.cells.length, t, false⟩)
      | false => none
    | none => none
  | .buildSlice t len parts => match evpsA ev parts.toList, P.underlying t with
    | some ps, some (.slice e) => match tsize P e, tzero P e with
      | some es, some zs => match Nat.beq zs.length es, Nat.blt (len * es) 1000000, Nat.blt 0 es with
        | true, true, true => match fillA (fun i => some (i * es, es)) (repA len zs) ps with
          | some cells => match Nat.beq (len * es) cells.length with
            | true => some (.slice r 0 len (some len) es, ⟨cells, some cells.length, e, false⟩)
            | false => none
          | none => none
        | _, _, _ => none
      | _, _ => none
    | _, _ => none
  | _ => none

/-- What stores into a block that is there: the block, from which cell on, the cells, the heap behind it. -/
def putOf (P : Program) (ev : Operand → Option AV) (H : AH) (o : Oper) : Option (Nat × Nat × List AV × AH) :=
  match o.op with
  | .store t X Y => match ev X, ev Y, tsize P t with
    | some (.ptr b k), some v, some n => match Nat.beq v.cells.length n, Nat.blt b 16000001, storeCellsA H b k v.cells with
      | true, true, some A => some (b, k, v.cells, A)
      | _, _, _ => none
    | _, _, _ => none
  | _ => none

def effKd (P : Program) (E : Env) (C : Caller) (H0 : AH) (df0 : DF) (o : Oper) (bef : Nat) (rs : List Rec) (i : Nat) (tm : Tr AV) : Option (AV × Kd) :=
  match stepA P E C tm (joinA bef rs i 0 (lastS H0 df0 rs).1) (lastS H0 df0 rs).2 o with
  | some (v, A, df) => match effOk P bef A rs i with
    | true => some (v, .eff A df)
    | false => none
  | none => none

def drawKd (P : Program) (E : Env) (C : Caller) (ops : Array Oper) (H0 : AH) (df0 : DF) (base : Nat) (o : Oper) (bef : Nat) (rs : List Rec) (i : Nat) (tm : Tr AV) : Option (AV × Kd) :=
  match wantA ops tm o with
  | none => none
  | some false => some (.tup [], .skip)
  | some true => match isPure P o.op with
    | true => match opA P E (evA tm) H0 o with
      | some (.val v _) => some (v, .pure)
      | _ => none
    | false => match o.op with
      | .load t X => match evA tm X with
        | some x => match loadVarA P (lastS H0 df0 rs).1 t x with
          | some v => match loadOk P H0 bef t x v rs i with
            | true => some (v, .load t x)
            | false => none
          | none => none
        | none => none
      | _ => match rowA P (evA tm) (base + i) o with
        | some (v, k) => some (v, .alloc (base + i) k)
        | none => match putOf P (evA tm) (lastS H0 df0 rs).1 o with
          | some (b, k, vs, A) => match storeOk bef b rs i with
            | true => some (.tup [], .store b k vs A)
            | false => none
          | none => effKd P E C H0 df0 o bef rs i tm

def drawA (P : Program) (E : Env) (C : Caller) (n : Nat) (ops : Array Oper) (H0 : AH) (df0 : DF) (base : Nat) : List Oper → List Rec → Nat → Tr AV → Option (List Rec × Tr AV)
  | [], rs, _, tm => some (rs, tm)
  | o :: rest, rs, i, tm => match befA rs i o.after.toList with
    | none => none
    | some bef => match orderOk bef (readsOf ops o) o.dst rs i with
      | false => none
      | true => match drawKd P E C ops H0 df0 base o bef rs i tm with
        | none => none
        | some (v, kd) => match putT n tm o.dst v with
          | none => none
          | some tm' => drawA P E C n ops H0 df0 base rest (⟨o, bef, readsOf ops o, v, kd⟩ :: rs) (i + 1) tm'

def bump (H : AH) (n : Nat) : Option AH :=
  match Nat.blt (H.next + n) 16000000 with
  | true => some { H with next := H.next + n }
  | false => none

def drawR (P : Program) (E : Env) (C : Caller) (n : Nat) (ops : Array Oper) (F : Fr) : Option Fr :=
  match bump F.H ops.size with
  | none => none
  | some H0 => match drawA P E C n ops H0 F.df F.H.next ops.toList [] 0 F.tm with
    | none => none
    | some (rs, tm) => some ⟨tm, (lastS H0 F.df rs).2, joinA (2 ^ rs.length - 1) rs rs.length 0 (lastS H0 F.df rs).1⟩

/-! ### Code -/
inductive Ex where
  | normal
  | exit (id : Nat)
  | ret

def iterA (g : Fr → Option (Ex × Fr)) : Nat → Fr → Option (Ex × Fr)
  | 0, _ => none
  | k + 1, F => match g F with
    | some (.normal, F') => iterA g k F'
    | r => r

def normalR : Option Fr → Option (Ex × Fr)
  | some F => some (.normal, F)
  | none => none

def codeA (P : Program) (E : Env) (C : Caller) (n fuel : Nat) : Code → Fr → Option (Ex × Fr)
  | .skip, F => some (.normal, F)
  | .region _ ops false, F => normalR (opsA P E C n ops ops.toList F)
  | .region _ ops true, F => normalR (drawR P E C n ops F)
  | .seq a b, F => match codeA P E C n fuel a F with
    | some (.normal, F') => codeA P E C n fuel b F'
    | r => r
  | .cond c a b, F => match evA F.tm c with
    | some (.bool true) => codeA P E C n fuel a F
    | some (.bool false) => codeA P E C n fuel b F
    | _ => none
  | .block id a, F => match codeA P E C n fuel a F with
    | some (.exit j, F') => match Nat.beq j id with
      | true => some (.normal, F')
      | false => some (.exit j, F')
    | r => r
  | .loop a, F => iterA (codeA P E C n fuel a) fuel F
  | .rangeFunc f _ _ _, F => match F.df, evA F.tm f with
    | [], some (.func g cs) => match fnOk P g with
      | true => match C g (.yld :: cs) F.H with
        | some (_, H') => some (.normal, ⟨F.tm, [.col], H'⟩)
        | none => none
      | false => none
    | _, _ => none
  | .exit id, F => some (.exit id, F)
  | .label _, F => some (.normal, F)
  | .ret, F => some (.ret, F)
  | _, _ => none

/-! ### Calls -/
def runD (C : Caller) : DF → AH → Option AH
  | [], H => some H
  | .call f args :: l, H => match C f args H with
    | some (_, H') => runD C l H'
    | none => none
  | .col :: l, H => runD C l H

def resA (P : Program) (tm : Tr AV) (H : AH) : List ResultVar → Option (List AV)
  | [] => some []
  | .tmp t :: l => match tm.get t, resA P tm H l with
    | some v, some vs => some (v :: vs)
    | _, _ => none
  | .cell a t :: l => match tm.get a with
    | some x => match loadVarA P H t x, resA P tm H l with
      | some v, some vs => some (v :: vs)
      | _, _ => none
    | none => none

def oneA : List AV → AV
  | [v] => v
  | vs => .tup vs

def argsT : List AV → Nat → Tr AV → Tr AV
  | [], _, tm => tm
  | v :: vs, i, tm => argsT vs (i + 1) (Tr.set 24 tm i v)

def finishA (P : Program) (C : Caller) (fn : Func) (F : Fr) : Option (AV × AH) :=
  match runD C F.df F.H with
  | some H => match resA P F.tm H fn.results.toList with
    | some vs => some (oneA vs, H)
    | none => none
  | none => none

def bodyA (P : Program) (E : Env) (C Cd : Caller) (fuel : Nat) (fn : Func) (args : List AV) (H : AH) : Option (AV × AH) :=
  match fn.body with
  | some c => match Nat.ble args.length 10000, Nat.ble fn.ntmps 10000 with
    | true, true => match codeA P E C (Nat.max args.length fn.ntmps) fuel c ⟨argsT args 0 .nil, [], H⟩ with
      | some (.normal, F) => finishA P Cd fn F
      | some (.ret, F) => finishA P Cd fn F
      | _ => none
    | _, _ => none
  | none => none

def callA (P : Program) (E : Env) : Nat → Caller
  | 0 => fun _ _ _ => none
  | k + 1 => fun f args H => match P.funcs[f]? with
    | some fn => bodyA P E (callA P E k) (callA P E k) k fn args H
    | none => none

end
end Go.Proofs.YtpcbmenjbcpieaaGreatDoor.AM

/- An abstract machine for the model's code, part N: what a set of operations of a drawn region has done, and that it depends on little. -/
set_option linter.unusedVariables false
set_option linter.unusedSimpArgs false
namespace Go.Proofs.YtpcbmenjbcpieaaGreatDoor.AM
open Go
noncomputable section

/-! ### Heaps that are alike -/
def HEq2 (H H' : AH) : Prop := (∀ m, H'.get m = H.get m) ∧ H'.next = H.next

theorem HR.ext {ι : Inj} {ρ : Rho} {H H' : AH} {hp : Array Obj} (h : HR ι ρ H hp) (e : HEq2 H H') : HR ι ρ H' hp := by
  obtain ⟨e1, e2⟩ := e
  refine ⟨fun b k hb => h.live b k (by rw [← e1]; exact hb), fun b b' k k' L L' hb hb' => h.inj b b' k k' L L' (by rw [← e1]; exact hb) (by rw [← e1]; exact hb'), fun b k hb => ?_, fun b L hL => ?_, ?_, h.lo, h.base⟩
  · rw [e2]; exact h.lt b k (by rw [← e1]; exact hb)
  · rw [e2]; exact h.dom b L hL
  · rw [e2]; exact h.small

theorem Own.ext {ι : Inj} {H H' : AH} {c : Nat} (e : HEq2 H H') : Own ι H' c ↔ Own ι H c := by
  constructor
  · rintro ⟨b, k, L, hb, hL, hc⟩; exact ⟨b, k, L, by rw [← e.1]; exact hb, hL, hc⟩
  · rintro ⟨b, k, L, hb, hL, hc⟩; exact ⟨b, k, L, by rw [e.1]; exact hb, hL, hc⟩

theorem St.ext2 {ι ι' : Inj} {H H1 H2 : AH} {w w' : World} (h : St ι H w ι' H1 w') (e : HEq2 H1 H2) : St ι H w ι' H2 w' where
  ext := h.ext
  os := h.os
  tape := h.tape
  output := h.output
  size := h.size
  keep := h.keep
  own c hc := h.own c ((Own.ext e).1 hc)
  fresh := h.fresh
  nx := by rw [e.2]; exact h.nx
  old b k hb hlt := h.old b k (by rw [← e.1]; exact hb) hlt

theorem St.ext1 {ι ι' : Inj} {H H1 H2 : AH} {w w' : World} (h : St ι H w ι' H1 w') (e : HEq2 H H2) : St ι H2 w ι' H1 w' where
  ext := h.ext
  os := h.os
  tape := h.tape
  output := h.output
  size := h.size
  keep c hc hn := h.keep c hc fun ho => hn ((Own.ext e).2 ho)
  own c hc := (h.own c hc).imp (Own.ext e).2 id
  fresh b L hb := by rw [e.2]; exact h.fresh b L hb
  nx := by rw [e.2]; exact h.nx
  old b k hb hlt := by
    obtain ⟨k0, hk0⟩ := h.old b k hb (by rw [← e.2]; exact hlt)
    exact ⟨k0, by rw [e.1]; exact hk0⟩

/-! ### Records by number -/
def nth : List Rec → Nat → Option Rec
  | [], _ => none
  | r :: rs, j => if j = rs.length then some r else nth rs j

theorem nth_lt : ∀ {rs : List Rec} {j : Nat} {q : Rec}, nth rs j = some q → j < rs.length
  | [], _, _, h => by cases h
  | r :: rs, j, q, h => by
    simp only [nth] at h
    split at h
    · rename_i e; simp [e]
    · have := nth_lt h; simp; omega

theorem nth_self (r : Rec) (rs : List Rec) : nth (r :: rs) rs.length = some r := by simp [nth]

theorem nth_cons {r q : Rec} {rs : List Rec} {j : Nat} (h : nth rs j = some q) : nth (r :: rs) j = some q := by
  have := nth_lt h
  simp only [nth]
  rw [if_neg (by omega)]
  exact h

theorem nth_suf {rs l : List Rec} (hs : rs <:+ l) : ∀ {j : Nat} {q : Rec}, nth rs j = some q → nth l j = some q := by
  obtain ⟨p, rfl⟩ := hs
  induction p with
  | nil => intro j q h; exact h
  | cons a p ih => intro j q h; exact nth_cons (ih h)

/-- The place of a record: what was there before it. -/
theorem nth_split : ∀ {l : List Rec} {j : Nat} {q : Rec}, nth l j = some q → ∃ rs, (q :: rs) <:+ l ∧ rs.length = j
  | [], _, _, h => by cases h
  | r :: rs, j, q, h => by
    simp only [nth] at h
    split at h
    · rename_i e
      injection h with h; subst h
      exact ⟨rs, List.suffix_refl _, e.symm⟩
    · obtain ⟨rs', h1, h2⟩ := nth_split h
      exact ⟨rs', h1.trans (List.suffix_cons ..), h2⟩

theorem nth_of_suf {q : Rec} {rs l : List Rec} (h : (q :: rs) <:+ l) : nth l rs.length = some q := nth_suf h (nth_self q rs)

theorem suf_len {q : Rec} {rs l : List Rec} (h : (q :: rs) <:+ l) : rs.length < l.length := by
  have := h.length_le
  simp at this; omega

/-- Two places in a list: the one behind is a part of the other. -/
theorem suf_of_len {a b l : List Rec} (ha : a <:+ l) (hb : b <:+ l) (h : a.length ≤ b.length) : a <:+ b := by
  rcases List.suffix_or_suffix_of_suffix ha hb with h' | h'
  · exact h'
  · have : b.length = a.length := Nat.le_antisymm h'.length_le h
    rw [h'.eq_of_length this]
    exact List.suffix_refl _

/-! ### What a set of operations has done -/
def tmS (g0 : Nat → Option AV) (S : Nat → Bool) : List Rec → Nat → Option AV
  | [], t => g0 t
  | r :: rs, t => if S rs.length = true ∧ r.o.dst = some t then some r.v else tmS g0 S rs t

def applySt (H : AH) (b o : Nat) (vs : List AV) : AH :=
  match H.get b with
  | some k => H.put b (some { k with cells := putA k.cells o vs })
  | none => H

theorem applySt_get {H : AH} {b o : Nat} {vs : List AV} (hb : b < 16000001) (m : Nat) :
    (applySt H b o vs).get m = if m = b then (H.get b).map (fun k => { k with cells := putA k.cells o vs }) else H.get m := by
  unfold applySt
  cases h : H.get b with
  | none =>
    dsimp only
    by_cases e : m = b
    · subst e; simp [h]
    · simp [e]
  | some k =>
    dsimp only
    rw [AH.put_get hb]
    by_cases e : m = b
    · simp [e]
    · simp [e]

theorem applySt_next (H : AH) (b o : Nat) (vs : List AV) : (applySt H b o vs).next = H.next := by
  unfold applySt
  split <;> rfl

def heapS (H0 : AH) (df0 : DF) (S : Nat → Bool) : List Rec → AH × DF
  | [] => (H0, df0)
  | r :: rs => match r.kd with
    | .eff A df => if S rs.length = true then (A, df) else heapS H0 df0 S rs
    | .store b o vs _ => if S rs.length = true then (applySt (heapS H0 df0 S rs).1 b o vs, (heapS H0 df0 S rs).2) else heapS H0 df0 S rs
    | _ => heapS H0 df0 S rs

theorem heapS_eff {H0 : AH} {df0 : DF} {S : Nat → Bool} {r : Rec} {rs : List Rec} {A : AH} {df : DF} (h : r.kd = .eff A df) :
    heapS H0 df0 S (r :: rs) = if S rs.length = true then (A, df) else heapS H0 df0 S rs := by simp only [heapS, h]
theorem heapS_store {H0 : AH} {df0 : DF} {S : Nat → Bool} {r : Rec} {rs : List Rec} {b o : Nat} {vs : List AV} {A : AH} (h : r.kd = .store b o vs A) :
    heapS H0 df0 S (r :: rs) = if S rs.length = true then (applySt (heapS H0 df0 S rs).1 b o vs, (heapS H0 df0 S rs).2) else heapS H0 df0 S rs := by simp only [heapS, h]
theorem heapS_other {H0 : AH} {df0 : DF} {S : Nat → Bool} {r : Rec} {rs : List Rec} (h1 : ∀ A df, r.kd ≠ .eff A df) (h2 : ∀ b o vs A, r.kd ≠ .store b o vs A) :
    heapS H0 df0 S (r :: rs) = heapS H0 df0 S rs := by
  cases h : r.kd with
  | eff A df => exact absurd h (h1 A df)
  | store b o vs A => exact absurd h (h2 b o vs A)
  | _ => simp only [heapS, h]

def jn (S : Nat → Bool) : List Rec → Nat → Bool
  | [], _ => false
  | r :: rs, j => match r.kd with
    | .eff _ _ => (S rs.length && r.bef.testBit j) || jn S rs j
    | _ => jn S rs j

def isEff : Kd → Bool
  | .eff _ _ => true
  | _ => false

/-- Which block does it store into? -/
def stBlk : Kd → Option Nat
  | .store b _ _ _ => some b
  | _ => none

theorem tmS_later {g0 : Nat → Option AV} {S : Nat → Bool} {t : Nat} : ∀ {l rs : List Rec}, rs <:+ l →
    (∀ q rs', (q :: rs') <:+ l → rs.length ≤ rs'.length → q.o.dst = some t → S rs'.length = false) → tmS g0 S l t = tmS g0 S rs t
  | [], rs, hs, h => by rw [List.suffix_nil.1 hs]
  | q :: l, rs, hs, h => by
    rcases List.suffix_cons_iff.1 hs with rfl | hs'
    · rfl
    · have hq := h q l (List.suffix_refl _) hs'.length_le
      simp only [tmS]
      rw [if_neg (fun ⟨h1, h2⟩ => by rw [hq h2] at h1; cases h1)]
      exact tmS_later hs' fun q' rs' h1 h2 h3 => h q' rs' (h1.trans (List.suffix_cons ..)) h2 h3

theorem tmS_agree {g0 : Nat → Option AV} {S S' : Nat → Bool} {t : Nat} : ∀ {l : List Rec},
    (∀ q rs', (q :: rs') <:+ l → q.o.dst = some t → S rs'.length = S' rs'.length) → tmS g0 S l t = tmS g0 S' l t
  | [], h => rfl
  | q :: l, h => by
    have ih := tmS_agree (g0 := g0) (l := l) fun q' rs' h1 h3 => h q' rs' (h1.trans (List.suffix_cons ..)) h3
    simp only [tmS, ih]
    by_cases e : q.o.dst = some t
    · rw [h q l (List.suffix_refl _) e]
    · simp [e]

/-- The stores are into blocks with small numbers. -/
def SmallSt (l : List Rec) : Prop := ∀ q rs', (q :: rs') <:+ l → ∀ b, stBlk q.kd = some b → b < 16000001

theorem SmallSt.tail {q : Rec} {l : List Rec} (h : SmallSt (q :: l)) : SmallSt l := fun q' rs' h1 => h q' rs' (h1.trans (List.suffix_cons ..))

theorem SmallSt.suf {l l' : List Rec} (h : SmallSt l) (hs : l' <:+ l) : SmallSt l' := fun q' rs' h1 => h q' rs' (h1.trans hs)

theorem heapS_later {H0 : AH} {df0 : DF} {S : Nat → Bool} {b : Nat} : ∀ {l rs : List Rec}, SmallSt l → rs <:+ l →
    (∀ q rs', (q :: rs') <:+ l → rs.length ≤ rs'.length → (isEff q.kd = true ∨ stBlk q.kd = some b) → S rs'.length = false) →
    (heapS H0 df0 S l).1.get b = (heapS H0 df0 S rs).1.get b
  | [], rs, hl, hs, h => by rw [List.suffix_nil.1 hs]
  | q :: l, rs, hl, hs, h => by
    rcases List.suffix_cons_iff.1 hs with rfl | hs'
    · rfl
    · have hq := h q l (List.suffix_refl _) hs'.length_le
      have ih := heapS_later (H0 := H0) (df0 := df0) (S := S) (b := b) hl.tail hs' fun q' rs' h1 h2 h3 => h q' rs' (h1.trans (List.suffix_cons ..)) h2 h3
      rw [← ih]
      cases hk : q.kd with
      | eff A df =>
        rw [heapS_eff hk, if_neg (by rw [hq (.inl (by rw [hk]; rfl))]; simp)]
      | store c o vs A =>
        rw [heapS_store hk]
        by_cases hS : S l.length = true
        · rw [if_pos hS]
          have hc := hl q l (List.suffix_refl _) c (by rw [hk]; rfl)
          dsimp only
          rw [applySt_get hc, if_neg]
          rintro rfl
          rw [hq (.inr (by rw [hk]; rfl))] at hS
          cases hS
        · rw [if_neg hS]
      | _ => rw [heapS_other (by rw [hk]; intros; simp) (by rw [hk]; intros; simp)]

theorem heapS_later_next {H0 : AH} {df0 : DF} {S : Nat → Bool} : ∀ {l rs : List Rec}, rs <:+ l →
    (∀ q rs', (q :: rs') <:+ l → rs.length ≤ rs'.length → isEff q.kd = true → S rs'.length = false) →
    (heapS H0 df0 S l).1.next = (heapS H0 df0 S rs).1.next ∧ (heapS H0 df0 S l).2 = (heapS H0 df0 S rs).2
  | [], rs, hs, h => by rw [List.suffix_nil.1 hs]; exact ⟨rfl, rfl⟩
  | q :: l, rs, hs, h => by
    rcases List.suffix_cons_iff.1 hs with rfl | hs'
    · exact ⟨rfl, rfl⟩
    · have hq := h q l (List.suffix_refl _) hs'.length_le
      have ih := heapS_later_next (H0 := H0) (df0 := df0) (S := S) hs' fun q' rs' h1 h2 h3 => h q' rs' (h1.trans (List.suffix_cons ..)) h2 h3
      rw [← ih.1, ← ih.2]
      cases hk : q.kd with
      | eff A df =>
        rw [heapS_eff hk, if_neg (by rw [hq (by rw [hk]; rfl)]; simp)]
        exact ⟨rfl, rfl⟩
      | store c o vs A =>
        rw [heapS_store hk]
        by_cases hS : S l.length = true
        · rw [if_pos hS]
          exact ⟨applySt_next .., rfl⟩
        · rw [if_neg hS]; exact ⟨rfl, rfl⟩
      | _ => rw [heapS_other (by rw [hk]; intros; simp) (by rw [hk]; intros; simp)]; exact ⟨rfl, rfl⟩

theorem heapS_agree {H0 : AH} {df0 : DF} {S S' : Nat → Bool} {b : Nat} : ∀ {l : List Rec}, SmallSt l →
    (∀ q rs', (q :: rs') <:+ l → (isEff q.kd = true ∨ stBlk q.kd = some b) → S rs'.length = S' rs'.length) →
    (heapS H0 df0 S l).1.get b = (heapS H0 df0 S' l).1.get b
  | [], hl, h => rfl
  | q :: l, hl, h => by
    have hq := h q l (List.suffix_refl _)
    have ih := heapS_agree (H0 := H0) (df0 := df0) (b := b) hl.tail fun q' rs' h1 h3 => h q' rs' (h1.trans (List.suffix_cons ..)) h3
    cases hk : q.kd with
    | eff A df =>
      rw [heapS_eff hk, heapS_eff hk, hq (.inl (by rw [hk]; rfl))]
      split
      · rfl
      · exact ih
    | store c o vs A =>
      rw [heapS_store hk, heapS_store hk]
      have hc := hl q l (List.suffix_refl _) c (by rw [hk]; rfl)
      by_cases e : b = c
      · subst e
        rw [hq (.inr (by rw [hk]; rfl))]
        split
        · dsimp only
          rw [applySt_get hc, applySt_get hc, if_pos rfl, if_pos rfl, ih]
        · exact ih
      · have h1 : ∀ T : Nat → Bool, (if T l.length = true then (applySt (heapS H0 df0 T l).1 c o vs, (heapS H0 df0 T l).2) else heapS H0 df0 T l).1.get b = (heapS H0 df0 T l).1.get b := fun T => by
          split
          · dsimp only
            rw [applySt_get hc, if_neg e]
          · rfl
        rw [h1, h1, ih]
    | _ => rw [heapS_other (by rw [hk]; intros; simp) (by rw [hk]; intros; simp), heapS_other (by rw [hk]; intros; simp) (by rw [hk]; intros; simp)]; exact ih

theorem heapS_agree_next {H0 : AH} {df0 : DF} {S S' : Nat → Bool} : ∀ {l : List Rec},
    (∀ q rs', (q :: rs') <:+ l → isEff q.kd = true → S rs'.length = S' rs'.length) →
    (heapS H0 df0 S l).1.next = (heapS H0 df0 S' l).1.next ∧ (heapS H0 df0 S l).2 = (heapS H0 df0 S' l).2
  | [], h => ⟨rfl, rfl⟩
  | q :: l, h => by
    have hq := h q l (List.suffix_refl _)
    have ih := heapS_agree_next (H0 := H0) (df0 := df0) (l := l) fun q' rs' h1 h3 => h q' rs' (h1.trans (List.suffix_cons ..)) h3
    cases hk : q.kd with
    | eff A df =>
      rw [heapS_eff hk, heapS_eff hk, hq (by rw [hk]; rfl)]
      split
      · exact ⟨rfl, rfl⟩
      · exact ih
    | store c o vs A =>
      have h1 : ∀ T : Nat → Bool, (if T l.length = true then (applySt (heapS H0 df0 T l).1 c o vs, (heapS H0 df0 T l).2) else heapS H0 df0 T l).1.next = (heapS H0 df0 T l).1.next ∧
          (if T l.length = true then (applySt (heapS H0 df0 T l).1 c o vs, (heapS H0 df0 T l).2) else heapS H0 df0 T l).2 = (heapS H0 df0 T l).2 := fun T => by
        split
        · exact ⟨applySt_next .., rfl⟩
        · exact ⟨rfl, rfl⟩
      rw [heapS_store hk, heapS_store hk, (h1 S).1, (h1 S').1, (h1 S).2, (h1 S').2]
      exact ih
    | _ => rw [heapS_other (by rw [hk]; intros; simp) (by rw [hk]; intros; simp), heapS_other (by rw [hk]; intros; simp) (by rw [hk]; intros; simp)]; exact ih

theorem jn_iff {S : Nat → Bool} {j : Nat} : ∀ {l : List Rec}, jn S l j = true ↔ ∃ q rs', (q :: rs') <:+ l ∧ isEff q.kd = true ∧ S rs'.length = true ∧ q.bef.testBit j = true
  | [] => by
    simp only [jn, Bool.false_eq_true, false_iff]
    rintro ⟨q, rs', h, _⟩
    simp at h
  | q :: l => by
    have ih := jn_iff (S := S) (j := j) (l := l)
    have hup : (∃ q' rs', (q' :: rs') <:+ q :: l ∧ isEff q'.kd = true ∧ S rs'.length = true ∧ q'.bef.testBit j = true) ↔
        (isEff q.kd = true ∧ S l.length = true ∧ q.bef.testBit j = true) ∨ ∃ q' rs', (q' :: rs') <:+ l ∧ isEff q'.kd = true ∧ S rs'.length = true ∧ q'.bef.testBit j = true := by
      constructor
      · rintro ⟨q', rs', h1, h2, h3, h4⟩
        rcases List.suffix_cons_iff.1 h1 with he | h1'
        · injection he with he1 he2
          subst he1; subst he2
          exact .inl ⟨h2, h3, h4⟩
        · exact .inr ⟨q', rs', h1', h2, h3, h4⟩
      · rintro (⟨h2, h3, h4⟩ | ⟨q', rs', h1, h2, h3, h4⟩)
        · exact ⟨q, l, List.suffix_refl _, h2, h3, h4⟩
        · exact ⟨q', rs', h1.trans (List.suffix_cons ..), h2, h3, h4⟩
    rw [hup, ← ih]
    cases hk : q.kd <;> simp only [jn, hk, isEff] <;> simp

end
end Go.Proofs.YtpcbmenjbcpieaaGreatDoor.AM

/- An abstract machine for the model's code, part O: what the run over a drawn region has found of each operation. -/
set_option linter.unusedVariables false
set_option linter.unusedSimpArgs false
namespace Go.Proofs.YtpcbmenjbcpieaaGreatDoor.AM
open Go
noncomputable section

theorem nth_get : ∀ {rs : List Rec} {j : Nat}, j < rs.length → rs[rs.length - 1 - j]? = nth rs j
  | [], j, h => by simp at h
  | r :: rs, j, h => by
    simp only [nth, List.length_cons]
    by_cases e : j = rs.length
    · rw [if_pos e, e]; simp
    · rw [if_neg e]
      have hj : j < rs.length := by simp at h; omega
      have : rs.length + 1 - 1 - j = (rs.length - 1 - j) + 1 := by omega
      rw [this, List.getElem?_cons_succ]
      exact nth_get hj

theorem testBit_two (a b : Nat) : (2 ^ a).testBit b = decide (a = b) := by
  rw [Nat.testBit_two_pow]

theorem befA_ok {rs : List Rec} : ∀ {es : List Edge} {m : Nat}, befA rs rs.length es = some m →
    (∀ e ∈ es, Region.binds .any e = true → e.on < rs.length ∧ m.testBit e.on = true) ∧
    (∀ b, m.testBit b = true → ∃ e ∈ es, Region.binds .any e = true ∧ (b = e.on ∨ ∃ q, nth rs e.on = some q ∧ q.bef.testBit b = true))
  | [], m, h => by
    injection h with h; subst h
    refine ⟨fun e he => by simp at he, fun b hb => by simp at hb⟩
  | e :: es, m, h => by
    unfold befA at h
    split at h
    · cases h
    · rename_i m' hm'
      obtain ⟨h1, h2⟩ := befA_ok hm'
      split at h
      · rename_i hb
        injection h with h; subst h
        refine ⟨fun e' he' hb' => ?_, fun b hb' => ?_⟩
        · rcases List.mem_cons.1 he' with rfl | he'
          · rw [hb] at hb'; cases hb'
          · exact h1 e' he' hb'
        · obtain ⟨e', he', hx⟩ := h2 b hb'
          exact ⟨e', List.mem_cons_of_mem _ he', hx⟩
      · rename_i hb
        split at h
        · rename_i r hlt hr
          have hlt := Nat.le_of_ble_eq_true hlt
          rw [nth_get (by omega)] at hr
          injection h with h; subst h
          refine ⟨fun e' he' hb' => ?_, fun b hb' => ?_⟩
          · rcases List.mem_cons.1 he' with rfl | he'
            · refine ⟨by omega, ?_⟩
              simp [Nat.testBit_or, Nat.testBit_two_pow]
            · obtain ⟨g1, g2⟩ := h1 e' he' hb'
              refine ⟨g1, ?_⟩
              simp [Nat.testBit_or, g2]
          · simp only [Nat.testBit_or, Bool.or_eq_true, Nat.testBit_two_pow, decide_eq_true_eq] at hb'
            rcases hb' with hb' | hb' | hb'
            · obtain ⟨e', he', hx⟩ := h2 b hb'
              exact ⟨e', List.mem_cons_of_mem _ he', hx⟩
            · exact ⟨e, List.mem_cons_self .., hb, .inl hb'.symm⟩
            · exact ⟨e, List.mem_cons_self .., hb, .inr ⟨r, hr, hb'⟩⟩
        · cases h

theorem memb_iff {t : Nat} : ∀ {l : List Nat}, memb t l = true ↔ t ∈ l
  | [] => by simp [memb]
  | u :: l => by
    unfold memb
    split
    · rename_i h
      have := Nat.eq_of_beq_eq_true h
      simp [this]
    · rename_i h
      have hne : t ≠ u := fun e => by rw [nbeq_true e] at h; cases h
      simp [hne, memb_iff]

/-- Nothing between two operations asks for an order. -/
def Free (q : Rec) (rd : List Nat) (dst : Option Tmp) : Prop :=
  (∀ t, q.o.dst = some t → t ∉ rd ∧ dst ≠ some t) ∧ (∀ t, dst = some t → t ∉ q.rd)

theorem orderOk_ok {bef : Nat} {rd : List Nat} {dst : Option Tmp} : ∀ {rs : List Rec}, orderOk bef rd dst rs rs.length = true →
    ∀ j q, nth rs j = some q → bef.testBit j = false → Free q rd dst
  | [], _, j, q, hj, _ => by cases hj
  | r :: rs, h, j, q, hj, hb => by
    simp only [orderOk, List.length_cons] at h
    split at h
    · rename_i hc
      simp only [nth] at hj
      split at hj
      · rename_i e
        injection hj with hj; subst hj
        subst e
        rw [hb, Bool.false_or, Bool.not_eq_true', Bool.or_eq_false_iff, Bool.or_eq_false_iff] at hc
        obtain ⟨⟨c1, c2⟩, c3⟩ := hc
        refine ⟨fun t ht => ⟨fun hm => ?_, fun hd => ?_⟩, fun t ht hm => ?_⟩
        · rw [ht, dstIn, memb_iff.2 hm] at c1; cases c1
        · rw [ht, hd, dstEq, nbeq_true rfl] at c2; cases c2
        · rw [ht, dstIn, memb_iff.2 hm] at c3; cases c3
      · exact orderOk_ok h j q hj hb
    · cases h

structure Good (P : Program) (E : Env) (C : Caller) (ops : Array Oper) (H0 : AH) (df0 : DF) (base n : Nat) (g0 : Nat → Option AV) (r : Rec) (rs : List Rec) (tm : Tr AV) : Prop where
  edge : ∀ e ∈ r.o.after.toList, Region.binds .any e = true → e.on < rs.length ∧ r.bef.testBit e.on = true
  bits : ∀ b, r.bef.testBit b = true → ∃ e ∈ r.o.after.toList, Region.binds .any e = true ∧ (b = e.on ∨ ∃ q, nth rs e.on = some q ∧ q.bef.testBit b = true)
  order : ∀ j q, nth rs j = some q → r.bef.testBit j = false → Free q r.rd r.o.dst
  rd : r.rd = readsOf ops r.o
  tmr : ∀ t, tm.get t = tmS g0 (fun _ => true) rs t
  dst : ∀ d, r.o.dst = some d → d < n
  op : ops[rs.length]? = some r.o
  kd : drawKd P E C ops H0 df0 base r.o r.bef rs rs.length tm = some (r.v, r.kd)

inductive RV (P : Program) (E : Env) (C : Caller) (ops : Array Oper) (H0 : AH) (df0 : DF) (base n : Nat) (g0 : Nat → Option AV) : List Rec → Prop
  | nil : RV P E C ops H0 df0 base n g0 []
  | cons (r : Rec) (rs : List Rec) (tm : Tr AV) : RV P E C ops H0 df0 base n g0 rs → Good P E C ops H0 df0 base n g0 r rs tm → RV P E C ops H0 df0 base n g0 (r :: rs)

section
variable {P : Program} {E : Env} {C : Caller} {ops : Array Oper} {H0 : AH} {df0 : DF} {base n : Nat} {g0 : Nat → Option AV}

theorem RV.at {l : List Rec} (h : RV P E C ops H0 df0 base n g0 l) : ∀ {r : Rec} {rs : List Rec}, (r :: rs) <:+ l → ∃ tm, RV P E C ops H0 df0 base n g0 rs ∧ Good P E C ops H0 df0 base n g0 r rs tm := by
  induction h with
  | nil => intro r rs hs; simp at hs
  | cons q l tm hl hg ih =>
    intro r rs hs
    rcases List.suffix_cons_iff.1 hs with he | hs'
    · injection he with h1 h2
      subst h1; subst h2
      exact ⟨tm, hl, hg⟩
    · exact ih hs'

/-- What is before an operation lies before it in the text. -/
theorem RV.lt {l : List Rec} (h : RV P E C ops H0 df0 base n g0 l) {r : Rec} {rs : List Rec} (hs : (r :: rs) <:+ l) {b : Nat} (hb : r.bef.testBit b = true) : b < rs.length := by
  induction l generalizing r rs b with
  | nil => simp at hs
  | cons q l ih =>
    cases h with | cons _ _ tm hl hg =>
    rcases List.suffix_cons_iff.1 hs with he | hs'
    · injection he with h1 h2
      subst h1; subst h2
      obtain ⟨e, he, hbd, hx⟩ := hg.bits b hb
      have hlt := (hg.edge e he hbd).1
      rcases hx with rfl | ⟨q, hq, hqb⟩
      · exact hlt
      · obtain ⟨rs', h1, h2⟩ := nth_split hq
        have := ih hl h1 hqb
        omega
    · exact ih hl hs' hb

theorem drawA_RV (hn : n ≤ 16000000) : ∀ (rest : List Oper) (rs : List Rec) (i : Nat) (tm : Tr AV) (l : List Rec) (tm' : Tr AV), drawA P E C n ops H0 df0 base rest rs i tm = some (l, tm') →
    RV P E C ops H0 df0 base n g0 rs → rs.length = i → (∀ t, tm.get t = tmS g0 (fun _ => true) rs t) → ops.toList.drop i = rest →
    RV P E C ops H0 df0 base n g0 l ∧ (∀ t, tm'.get t = tmS g0 (fun _ => true) l t) ∧ l.length = i + rest.length
  | [], rs, i, tm, l, tm', h, hrs, hi, htm, hd => by
    simp only [drawA, Option.some.injEq, Prod.mk.injEq] at h
    obtain ⟨rfl, rfl⟩ := h
    exact ⟨hrs, htm, by simpa using hi⟩
  | o :: rest, rs, i, tm, l, tm', h, hrs, hi, htm, hd => by
    subst hi
    have ho : ops[rs.length]? = some o := by
      have h0 : (ops.toList.drop rs.length)[0]? = some o := by rw [hd]; rfl
      simpa using h0
    have hd' : ops.toList.drop (rs.length + 1) = rest := by
      have : (ops.toList.drop rs.length).drop 1 = rest := by rw [hd]; rfl
      rw [List.drop_drop] at this
      exact this
    unfold drawA at h
    split at h
    · cases h
    · rename_i bef hbef
      split at h
      · cases h
      · rename_i hord
        split at h
        · cases h
        · rename_i v kd hkd
          split at h
          · cases h
          · rename_i tm2 htm2
            obtain ⟨b1, b2⟩ := befA_ok hbef
            have hg : Good P E C ops H0 df0 base n g0 ⟨o, bef, readsOf ops o, v, kd⟩ rs tm :=
              ⟨b1, b2, orderOk_ok hord, rfl, htm, putT_dst htm2, ho, hkd⟩
            have := drawA_RV hn rest _ (rs.length + 1) tm2 l tm' h (.cons _ _ tm hrs hg) rfl (fun t => by
              rw [putT_get hn htm2, htm]
              simp only [tmS, true_and]) hd'
            refine ⟨this.1, this.2.1, ?_⟩
            rw [this.2.2, List.length_cons]; omega

/-! ### What the kinds say -/
theorem rds_iff {t : Nat} : ∀ {l : List Operand}, t ∈ rds l ↔ Operand.tmp t ∈ l
  | [] => by simp [rds]
  | .tmp u :: l => by simp [rds, rds_iff]
  | .const v :: l => by simp [rds, rds_iff]
  | .global g :: l => by simp [rds, rds_iff]
  | .func f :: l => by simp [rds, rds_iff]

theorem reads_op {o : Oper} {t : Nat} (h : Operand.tmp t ∈ o.op.operands) : t ∈ readsOf ops o := by
  unfold readsOf
  split
  · exact List.mem_cons_of_mem _ (rds_iff.2 (by simpa using h))
  · exact rds_iff.2 (by simpa using h)

theorem reads_guard {o : Oper} {t : Nat} (h : guardTmp ops o = some t) : t ∈ readsOf ops o := by
  unfold readsOf
  rw [h]
  exact List.mem_cons_self ..

theorem drawKd_skip {o : Oper} {bef : Nat} {rs : List Rec} {i : Nat} {tm : Tr AV} {v : AV} (h : drawKd P E C ops H0 df0 base o bef rs i tm = some (v, .skip)) : wantA ops tm o = some false ∧ v = .tup [] := by
  unfold drawKd at h
  split at h
  · cases h
  · rename_i hw
    injection h with h; injection h with h _
    exact ⟨hw, h.symm⟩
  · split at h
    · split at h <;> simp at h
    · split at h
      · split at h
        · split at h
          · split at h <;> simp at h
          · cases h
        · cases h
      · split at h
        · simp at h
        · split at h
          · split at h <;> simp at h
          · unfold effKd at h
            split at h
            · split at h <;> simp at h
            · cases h

theorem drawKd_pure {o : Oper} {bef : Nat} {rs : List Rec} {i : Nat} {tm : Tr AV} {v : AV} (h : drawKd P E C ops H0 df0 base o bef rs i tm = some (v, .pure)) :
    wantA ops tm o = some true ∧ isPure P o.op = true ∧ ∃ H', opA P E (evA tm) H0 o = some (.val v H') := by
  unfold drawKd at h
  split at h
  · cases h
  · simp at h
  · rename_i hw
    split at h
    · rename_i hp
      split at h
      · rename_i u H' hop
        injection h with h; injection h with h _
        subst h
        exact ⟨hw, hp, H', hop⟩
      · cases h
    · split at h
      · split at h
        · split at h
          · split at h <;> simp at h
          · cases h
        · cases h
      · split at h
        · simp at h
        · split at h
          · split at h <;> simp at h
          · unfold effKd at h
            split at h
            · split at h <;> simp at h
            · cases h

theorem drawKd_load {o : Oper} {bef : Nat} {rs : List Rec} {i : Nat} {tm : Tr AV} {v x : AV} {t : TypeId} (h : drawKd P E C ops H0 df0 base o bef rs i tm = some (v, .load t x)) :
    wantA ops tm o = some true ∧ (∃ H, loadVarA P H t x = some v) ∧ ∃ X, o.op = .load t X ∧ evA tm X = some x ∧ loadOk P H0 bef t x v rs i = true := by
  unfold drawKd at h
  split at h
  · cases h
  · simp at h
  · rename_i hw
    split at h
    · split at h <;> simp at h
    · split at h
      · rename_i t' X hop
        split at h
        · rename_i x' hx
          split at h
          · rename_i u hu
            split at h
            · rename_i hl
              simp only [Option.some.injEq, Prod.mk.injEq, Kd.load.injEq] at h
              obtain ⟨rfl, rfl, rfl⟩ := h
              exact ⟨hw, ⟨_, hu⟩, X, hop, hx, hl⟩
            · cases h
          · cases h
        · cases h
      · split at h
        · simp at h
        · split at h
          · split at h <;> simp at h
          · unfold effKd at h
            split at h
            · split at h <;> simp at h
            · cases h

theorem drawKd_alloc {o : Oper} {bef : Nat} {rs : List Rec} {i : Nat} {tm : Tr AV} {v : AV} {r : Nat} {k : Blk} (h : drawKd P E C ops H0 df0 base o bef rs i tm = some (v, .alloc r k)) :
    wantA ops tm o = some true ∧ r = base + i ∧ rowA P (evA tm) r o = some (v, k) := by
  unfold drawKd at h
  split at h
  · cases h
  · simp at h
  · rename_i hw
    split at h
    · split at h <;> simp at h
    · split at h
      · split at h
        · split at h
          · split at h <;> simp at h
          · cases h
        · cases h
      · split at h
        · rename_i u k' hr
          simp only [Option.some.injEq, Prod.mk.injEq, Kd.alloc.injEq] at h
          obtain ⟨rfl, rfl, rfl⟩ := h
          exact ⟨hw, rfl, hr⟩
        · split at h
          · split at h <;> simp at h
          · unfold effKd at h
            split at h
            · split at h <;> simp at h
            · cases h

theorem drawKd_store {o : Oper} {bef : Nat} {rs : List Rec} {i : Nat} {tm : Tr AV} {v : AV} {b k : Nat} {vs : List AV} {A : AH} (h : drawKd P E C ops H0 df0 base o bef rs i tm = some (v, .store b k vs A)) :
    wantA ops tm o = some true ∧ v = .tup [] ∧ putOf P (evA tm) (lastS H0 df0 rs).1 o = some (b, k, vs, A) ∧ storeOk bef b rs i = true := by
  unfold drawKd at h
  split at h
  · cases h
  · simp at h
  · rename_i hw
    split at h
    · split at h <;> simp at h
    · split at h
      · split at h
        · split at h
          · split at h <;> simp at h
          · cases h
        · cases h
      · split at h
        · simp at h
        · split at h
          · rename_i b' k' vs' A' hp
            split at h
            · rename_i hs
              simp only [Option.some.injEq, Prod.mk.injEq, Kd.store.injEq] at h
              obtain ⟨rfl, rfl, rfl, rfl, rfl⟩ := h
              exact ⟨hw, rfl, hp, hs⟩
            · cases h
          · unfold effKd at h
            split at h
            · split at h <;> simp at h
            · cases h

theorem drawKd_eff {o : Oper} {bef : Nat} {rs : List Rec} {i : Nat} {tm : Tr AV} {v : AV} {A : AH} {df : DF} (h : drawKd P E C ops H0 df0 base o bef rs i tm = some (v, .eff A df)) :
    wantA ops tm o = some true ∧ stepA P E C tm (joinA bef rs i 0 (lastS H0 df0 rs).1) (lastS H0 df0 rs).2 o = some (v, A, df) ∧ effOk P bef A rs i = true := by
  unfold drawKd at h
  split at h
  · cases h
  · simp at h
  · rename_i hw
    split at h
    · split at h <;> simp at h
    · split at h
      · split at h
        · split at h
          · split at h <;> simp at h
          · cases h
        · cases h
      · split at h
        · simp at h
        · split at h
          · split at h <;> simp at h
          · unfold effKd at h
            split at h
            · rename_i u A' df' hs
              split at h
              · rename_i he
                simp only [Option.some.injEq, Prod.mk.injEq, Kd.eff.injEq] at h
                obtain ⟨rfl, rfl, rfl⟩ := h
                exact ⟨hw, hs, he⟩
              · cases h
            · cases h

end

end
end Go.Proofs.YtpcbmenjbcpieaaGreatDoor.AM

/- An abstract machine for the model's code, part P: new blocks put into a heap; what need not look at the heap; what the checks of a drawn region say. -/
set_option linter.unusedVariables false
set_option linter.unusedSimpArgs false
namespace Go.Proofs.YtpcbmenjbcpieaaGreatDoor.AM
open Go
noncomputable section

/-! ### A block of the model that becomes an abstract one -/
theorem HR.join {ι : Inj} {ρ : Rho} {H : AH} {hp : Array Obj} {r : Nat} {k : Blk} {M : Loc} (h : HR ι ρ H hp) (hM : ι r = some M) (hB : BR ι ρ k M hp) (hn : ¬ Own ι H M.blk) :
    HR ι ρ (H.put r (some k)) hp := by
  have hr : r < 16000001 := Nat.lt_trans (h.dom r M hM) h.small
  have hget := fun m => AH.put_get (H := H) (k := some k) hr m
  constructor
  · intro b q hb
    rw [hget] at hb
    by_cases e : b = r
    · subst e; rw [if_pos rfl] at hb; injection hb with hb; subst hb; exact ⟨M, hM, hB⟩
    · rw [if_neg e] at hb; exact h.live b q hb
  · intro b b' q q' L L' hb hb' hL hL' hne
    rw [hget] at hb hb'
    by_cases e : b = r
    · subst e
      rw [hM] at hL; injection hL with hL; subst hL
      rw [if_neg (fun e' => hne e'.symm)] at hb'
      exact fun hh => hn ⟨b', q', L', hb', hL', hh.symm⟩
    · rw [if_neg e] at hb
      by_cases e' : b' = r
      · subst e'
        rw [hM] at hL'; injection hL' with hL'; subst hL'
        exact fun hh => hn ⟨b, q, L, hb, hL, hh⟩
      · rw [if_neg e'] at hb'
        exact h.inj b b' q q' L L' hb hb' hL hL' hne
  · intro b q hb
    rw [hget] at hb
    by_cases e : b = r
    · subst e; exact h.dom b M hM
    · rw [if_neg e] at hb; exact h.lt b q hb
  · exact h.dom
  · exact h.small
  · exact h.lo
  · exact h.base

theorem Own.join {ι : Inj} {H : AH} {r : Nat} {k : Blk} {M : Loc} (hr : r < 16000001) (hM : ι r = some M) {c : Nat} (h : Own ι (H.put r (some k)) c) : Own ι H c ∨ c = M.blk := by
  obtain ⟨b, q, L, hb, hL, rfl⟩ := h
  rw [AH.put_get hr] at hb
  by_cases e : b = r
  · subst e
    rw [hM] at hL; injection hL with hL; subst hL
    exact .inr rfl
  · rw [if_neg e] at hb; exact .inl ⟨b, q, L, hb, hL, rfl⟩

/-! ### What need not look at the heap -/
theorem opA_pure {P : Program} {E : Env} {ev : Operand → Option AV} {H H' : AH} {o : Oper} {v : AV} (hp : isPure P o.op = true) (h : opA P E ev H o = some (.val v H')) (H2 : AH) :
    opA P E ev H2 o = some (.val v H2) := by
  have hpure : ∀ x : Option AV, pureR H x = some (.val v H') → pureR H2 x = some (.val v H2) := fun x hx => by
    cases x with
    | none => cases hx
    | some u => injection hx with hx; injection hx with hx _; subst hx; rfl
  obtain ⟨dst, op, type, pos, after, guard⟩ := o
  unfold opA at h ⊢
  dsimp only at h hp ⊢
  cases op <;> (try dsimp only at h hp ⊢) <;> try (cases hp; done)
  case move x => exact hpure _ h
  case assign x => exact hpure _ h
  case pick c a b => split at h <;> first | exact hpure _ h | cases h
  case build t ps => split at h <;> first | exact hpure _ h | cases h
  case nilCheck x =>
    split at h
    · injection h with h; injection h with h _; subst h; rfl
    · injection h with h; injection h with h _; subst h; rfl
    · cases h
  case binOp op t x y yt => split at h <;> first | exact hpure _ h | cases h
  case unOp op t x => split at h <;> first | exact hpure _ h | cases h
  case convert src dst x =>
    split at h
    · rename_i u hu
      split at h
      · rename_i z hz
        injection h with h; injection h with h _; subst h; rfl
      · split at h
        · rename_i s
          obtain ⟨v', H1, hv, _⟩ := effR_some h
          unfold bytesA at hv
          simp only [isPure] at hp
          split at hp
          · cases hp
          · rename_i hne
            split at hv
            · rename_i e1 hs hd
              exact absurd hd (hne _)
            · cases hv
        · obtain ⟨v', H1, hv, _⟩ := effR_some h
          unfold markA at hv
          simp only [isPure] at hp
          split at hp
          · cases hp
          · rename_i hne
            split at hv
            · rename P.underlying dst = some _ => hd
              exact absurd hd (hne _)
            · cases hv
    · cases h
  case makeFunc fn first captured =>
    cases fn <;> (try dsimp only at h ⊢) <;> try (cases h; done)
    split at h
    · injection h with h; injection h with h _; subst h; rfl
    · cases h
  case slice t x lo hi mx => split at h <;> first | exact hpure _ h | cases h
  case fieldAddr s x f => split at h <;> first | exact hpure _ h | cases h
  case field s x f => split at h <;> first | exact hpure _ h | cases h
  case indexAddr t x i => split at h <;> first | exact hpure _ h | cases h
  case index t x i => split at h <;> first | exact hpure _ h | cases h
  case extract x i => split at h <;> first | exact hpure _ h | cases h
  case call c =>
    obtain ⟨callee, args, argTypes⟩ := c
    dsimp only at h hp ⊢
    cases callee with
    | builtin b =>
      dsimp only at h hp ⊢
      split at h
      · rename_i vs hvs
        cases b <;> (try (cases hp; done)) <;>
          (unfold builtinA at h ⊢
           split at h <;> first | exact hpure _ h | (simp_all; done) | cases h)
      · cases h
    | value f => cases hp
    | invoke r m => cases hp

theorem loadVarA_congr {P : Program} {H H' : AH} {t : TypeId} {b o : Nat} (h : H.get b = H'.get b) : loadVarA P H t (.ptr b o) = loadVarA P H' t (.ptr b o) := by
  unfold loadVarA loadA
  simp only [h]

theorem loadVarA_ptr {P : Program} {H : AH} {t : TypeId} {x v : AV} (h : loadVarA P H t x = some v) : ∃ b o, x = .ptr b o := by
  unfold loadVarA at h
  split at h
  · exact ⟨_, _, rfl⟩
  · cases h

theorem sameLoad_ok {P : Program} {H : AH} {t : TypeId} {x v : AV} (h : sameLoad P H t x v = true) : loadVarA P H t x = some v := by
  unfold sameLoad at h
  split at h
  · rename_i u hu
    rw [hu, AV.eqb_eq h]
  · cases h

theorem offBlk_ne {b o c : Nat} (h : offBlk (.ptr b o) c = true) : b ≠ c := fun e => by
  simp only [offBlk, nbeq_true e] at h
  cases h
theorem offBlk_eq {b o c : Nat} (h : offBlk (.ptr b o) c = false) : b = c := by
  simp only [offBlk, Bool.not_eq_false'] at h
  exact Nat.eq_of_beq_eq_true h

/-! ### What the checks say -/
theorem effOk_ok {P : Program} {bef : Nat} {A : AH} : ∀ {rs : List Rec}, effOk P bef A rs rs.length = true → ∀ j q, nth rs j = some q →
    bef.testBit j = true ∨ (isEff q.kd = false ∧ stBlk q.kd = none ∧ ∀ t x, q.kd = .load t x → sameLoad P A t x q.v = true)
  | [], _, j, q, hj => by cases hj
  | r :: rs, h, j, q, hj => by
    simp only [List.length_cons, effOk] at h
    simp only [nth] at hj
    split at h
    · rename_i hb
      split at hj
      · rename_i e; subst e; exact .inl hb
      · exact effOk_ok h j q hj
    · rename_i hb
      split at h
      · cases h
      · cases h
      · rename_i t x hk
        split at h
        · rename_i hs
          split at hj
          · injection hj with hj; subst hj
            refine .inr ⟨by rw [hk]; rfl, by rw [hk]; rfl, fun t' x' hk' => ?_⟩
            rw [hk] at hk'; injection hk' with h1 h2; subst h1; subst h2; exact hs
          · exact effOk_ok h j q hj
        · cases h
      · rename_i n1 n2 n3
        split at hj
        · injection hj with hj; subst hj
          refine .inr ⟨?_, ?_, fun t' x' hk' => absurd hk' (n3 t' x')⟩
          · cases hk : r.kd with
            | eff A1 df1 => exact absurd hk (n1 A1 df1)
            | _ => rfl
          · cases hk : r.kd with
            | store b1 o1 vs1 A1 => exact absurd hk (n2 b1 o1 vs1 A1)
            | _ => simp [stBlk]
        · exact effOk_ok h j q hj

theorem storeOk_ok {bef b : Nat} : ∀ {rs : List Rec}, storeOk bef b rs rs.length = true → ∀ j q, nth rs j = some q →
    bef.testBit j = true ∨ (isEff q.kd = false ∧ stBlk q.kd ≠ some b ∧ ∀ t x, q.kd = .load t x → offBlk x b = true)
  | [], _, j, q, hj => by cases hj
  | r :: rs, h, j, q, hj => by
    simp only [List.length_cons, storeOk] at h
    simp only [nth] at hj
    split at h
    · rename_i hb
      split at hj
      · rename_i e; subst e; exact .inl hb
      · exact storeOk_ok h j q hj
    · rename_i hb
      split at h
      · cases h
      · rename_i c o vs A hk
        split at h
        · cases h
        · rename_i hc
          split at hj
          · injection hj with hj; subst hj
            refine .inr ⟨by rw [hk]; rfl, ?_, fun t' x' hk' => by rw [hk] at hk'; cases hk'⟩
            rw [hk]
            intro he
            injection he with he
            rw [nbeq_true he] at hc; cases hc
          · exact storeOk_ok h j q hj
      · rename_i t x hk
        split at h
        · rename_i hs
          split at hj
          · injection hj with hj; subst hj
            refine .inr ⟨by rw [hk]; rfl, by rw [hk]; simp [stBlk], fun t' x' hk' => ?_⟩
            rw [hk] at hk'; injection hk' with h1 h2; subst h1; subst h2; exact hs
          · exact storeOk_ok h j q hj
        · cases h
      · rename_i n1 n2 n3
        split at hj
        · injection hj with hj; subst hj
          refine .inr ⟨?_, ?_, fun t' x' hk' => absurd hk' (n3 t' x')⟩
          · cases hk : r.kd with
            | eff A1 df1 => exact absurd hk (n1 A1 df1)
            | _ => rfl
          · cases hk : r.kd with
            | store b1 o1 vs1 A1 => exact absurd hk (n2 b1 o1 vs1 A1)
            | _ => simp [stBlk]
        · exact storeOk_ok h j q hj

theorem isEff_of {k : Kd} (h : isEff k = true) : ∃ A df, k = .eff A df := by
  cases k with
  | eff A df => exact ⟨A, df, rfl⟩
  | _ => cases h
theorem stBlk_of {k : Kd} {b : Nat} (h : stBlk k = some b) : ∃ o vs A, k = .store b o vs A := by
  cases k with
  | store c o vs A => injection h with h; subst h; exact ⟨o, vs, A, rfl⟩
  | _ => cases h

theorem putOf_ok {P : Program} {ev : Operand → Option AV} {H A : AH} {o : Oper} {b k : Nat} {vs : List AV} (h : putOf P ev H o = some (b, k, vs, A)) :
    b < 16000001 ∧ storeCellsA H b k vs = some A ∧ ∃ t X Y v, o.op = .store t X Y ∧ ev X = some (.ptr b k) ∧ ev Y = some v ∧ vs = v.cells ∧ tsize P t = some v.cells.length := by
  unfold putOf at h
  split at h
  · rename_i t X Y hop
    split at h
    · rename_i b' k' v n h1 h2 h3
      split at h
      · rename_i A' g1 g2 g3
        simp only [Option.some.injEq, Prod.mk.injEq] at h
        obtain ⟨rfl, rfl, rfl, rfl⟩ := h
        have g1 := Nat.eq_of_beq_eq_true g1
        exact ⟨Nat.le_of_ble_eq_true g2, g3, t, X, Y, v, hop, h1, h2, rfl, by rw [h3, g1]⟩
      · cases h
    · cases h
  · cases h

theorem storeCellsA_eq {H A : AH} {b o : Nat} {vs : List AV} (h : storeCellsA H b o vs = some A) : A = applySt H b o vs := by
  unfold storeCellsA at h
  unfold applySt
  split at h
  · rename_i k hk
    rw [hk]
    split at h
    · injection h with h; exact h.symm
    · cases h
  · cases h

theorem storeCellsA_congr {H A H' : AH} {b o : Nat} {vs : List AV} (he : H'.get b = H.get b) (h : storeCellsA H b o vs = some A) : storeCellsA H' b o vs = some (applySt H' b o vs) := by
  unfold storeCellsA at h
  unfold storeCellsA applySt
  split at h
  · rename_i k hk
    rw [he, hk]
    dsimp only
    split at h
    · rfl
    · cases h
  · cases h

end
end Go.Proofs.YtpcbmenjbcpieaaGreatDoor.AM
