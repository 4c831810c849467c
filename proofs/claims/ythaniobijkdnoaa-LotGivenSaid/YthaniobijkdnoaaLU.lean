/- How the heads of functions lie in memory while lot makes them. No condition beyond each theorem's premises. -/
import Derived.Test.YthaniobijkdnoaaLT
namespace Go.Proofs.Ythaniobijkdnoaa
open Go.RowKit

structure HVal where
  vo : Value
  vp : Value
  vr : Value
  vl : Value
def nilS : Value := .slice none 0 0
def hCells (x : Fn × HVal) : List Value := [.string x.1.name, .bool x.1.inner, x.2.vo, x.2.vp, x.2.vr, x.2.vl, .slice none 0 0, .slice none 0 0, .slice none 0 0, .slice none 0 0, .slice none 0 0]
theorem hCells_len (hs : List (Fn × HVal)) : (hs.flatMap hCells).length = hs.length * 11 := by
  induction hs with
  | nil => rfl
  | cons x l ih => simp only [List.flatMap_cons, List.length_append, List.length_cons, hCells, List.length_nil] at ih ⊢; omega
theorem IV.chg {S : Nat → Prop} {w w' : World} {v : Value} {xs : List Int} (h : IV w v xs) (hc : Chg S w w') (hn : ∀ k, v.ownBlock = some k → ¬ S k) : IV w' v xs := by
  obtain ⟨a, cap, rfl, h1, h2, hh⟩ := h
  refine ⟨a, cap, rfl, h1, h2, fun i hi => ?_⟩
  obtain ⟨b, off, rfl, hb, hcell⟩ := hh i hi
  have hbn := hc.block b hb (hn b rfl)
  exact ⟨b, off, rfl, Nat.lt_of_lt_of_le hb hc.size, (World.cell?_of_block (a := ⟨b, off + i, none⟩) hbn).trans hcell⟩
/-- a head's rows -/
structure Rws (B : Nat) (w : World) (x : Fn × HVal) : Prop where
  o : IV w x.2.vo x.1.outer
  p : IV w x.2.vp x.1.params
  r : IV w x.2.vr x.1.results
  l : w.ownsRow B 59 1 x.2.vl x.1.locals.length (x.1.locals.map (Value.int .i64))
  bo : ∀ k, x.2.vo.ownBlock = some k → B ≤ k ∧ k < w.heap.size ∧ x.2.vl.ownBlock ≠ some k
  bp : ∀ k, x.2.vp.ownBlock = some k → B ≤ k ∧ k < w.heap.size ∧ x.2.vl.ownBlock ≠ some k
  br : ∀ k, x.2.vr.ownBlock = some k → B ≤ k ∧ k < w.heap.size ∧ x.2.vl.ownBlock ≠ some k
def Blk (x : HVal) (k : Nat) : Prop := x.vo.ownBlock = some k ∨ x.vp.ownBlock = some k ∨ x.vr.ownBlock = some k ∨ x.vl.ownBlock = some k
theorem Rws.blk {B : Nat} {w : World} {x : Fn × HVal} (h : Rws B w x) : ∀ k, Blk x.2 k → B ≤ k ∧ k < w.heap.size := fun k hk => by
  rcases hk with h1 | h1 | h1 | h1
  · exact ⟨(h.bo k h1).1, (h.bo k h1).2.1⟩
  · exact ⟨(h.bp k h1).1, (h.bp k h1).2.1⟩
  · exact ⟨(h.br k h1).1, (h.br k h1).2.1⟩
  · exact h.l.lt k h1
theorem Rws.chg {S : Nat → Prop} {B : Nat} {w w' : World} {x : Fn × HVal} (h : Rws B w x) (hc : Chg S w w') (hn : ∀ k, Blk x.2 k → ¬ S k) : Rws B w' x := by
  have hs := hc.size
  refine ⟨h.o.chg hc (fun k hk => hn k (.inl hk)), h.p.chg hc (fun k hk => hn k (.inr (.inl hk))), h.r.chg hc (fun k hk => hn k (.inr (.inr (.inl hk)))), owns_of_block h.l (fun k hk => hc.block k (h.l.lt k hk).2 (hn k (.inr (.inr (.inr hk))))), fun k hk => ?_, fun k hk => ?_, fun k hk => ?_⟩
  · have := h.bo k hk; exact ⟨this.1, by omega, this.2.2⟩
  · have := h.bp k hk; exact ⟨this.1, by omega, this.2.2⟩
  · have := h.br k hk; exact ⟨this.1, by omega, this.2.2⟩
/-- the heads so far -/
structure HsOk (B : Nat) (w : World) (av : Value) (hs : List (Fn × HVal)) : Prop where
  row : w.ownsRow B 34 11 av hs.length (hs.flatMap hCells)
  rw_ : ∀ x ∈ hs, Rws B w x
  av_ : ∀ x ∈ hs, ∀ k, Blk x.2 k → av.ownBlock ≠ some k
  vl : hs.Pairwise (fun x y => ∀ k, x.2.vl.ownBlock = some k → ¬ Blk y.2 k)
  vr : hs.Pairwise (fun x y => ∀ k, y.2.vl.ownBlock = some k → ¬ Blk x.2 k)
theorem HsOk.chg {S : Nat → Prop} {B : Nat} {w w' : World} {av : Value} {hs : List (Fn × HVal)} (h : HsOk B w av hs) (hc : Chg S w w') (hn : ∀ k, B ≤ k → k < w.heap.size → ¬ S k) : HsOk B w' av hs :=
  ⟨owns_of_block h.row (fun k hk => hc.block k (h.row.lt k hk).2 (hn k (h.row.lt k hk).1 (h.row.lt k hk).2)), fun x hx => (h.rw_ x hx).chg hc (fun k hk => hn k ((h.rw_ x hx).blk k hk).1 ((h.rw_ x hx).blk k hk).2), h.av_, h.vl, h.vr⟩
theorem HsOk.bel {B : Nat} {w w' : World} {av : Value} {hs : List (Fn × HVal)} (h : HsOk B w av hs) (hb : Below w.heap.size w w') : HsOk B w' av hs :=
  h.chg (S := fun _ => False) (Chg.of_below hb) (fun _ _ _ h => h)
/-- one more head -/
theorem HsOk.add {B s0 : Nat} {w w' : World} {av av' : Value} {hs : List (Fn × HVal)} {x : Fn × HVal} (h : HsOk B w av hs) (hx : Rws B w x) (hB : B ≤ s0) (h0 : ∀ y ∈ hs, ∀ k, Blk y.2 k → k < s0) (ha : ∀ k, av.ownBlock = some k → k < s0) (hx0 : ∀ k, Blk x.2 k → s0 ≤ k)
    (hown : w'.ownsRow B 34 11 av' (hs.length + 1) (hs.flatMap hCells ++ hCells x)) (hg : w.grownBy w' av.ownBlock) (hav : ∀ k, av'.ownBlock = some k → av.ownBlock = some k ∨ w.heap.size ≤ k) : HsOk B w' av' (hs ++ [x]) := by
  have hc : Chg (fun k => av.ownBlock = some k) w w' := ⟨hg.os, hg.tape, hg.output, hg.size, fun k hk hne => hg.block k hk (fun e => hne e.symm)⟩
  have hax : ∀ k, Blk x.2 k → av.ownBlock ≠ some k := fun k hk e => by have h1 := ha k e; have h2 := hx0 k hk; omega
  refine ⟨by rw [List.length_append, List.flatMap_append]; simpa using hown, fun y hy => ?_, fun y hy k hk => ?_, ?_, ?_⟩
  · rcases List.mem_append.1 hy with h1 | h1
    · exact (h.rw_ y h1).chg hc (fun k hk => h.av_ y h1 k hk)
    · simp at h1; subst h1
      exact hx.chg hc hax
  · intro e
    rcases List.mem_append.1 hy with h1 | h1
    · rcases hav k e with h2 | h2
      · exact h.av_ y h1 k hk h2
      · have := ((h.rw_ y h1).blk k hk).2; omega
    · simp at h1; subst h1
      rcases hav k e with h2 | h2
      · exact hax k hk h2
      · have := (hx.blk k hk).2; omega
  · rw [List.pairwise_append]
    refine ⟨h.vl, by simp, fun y hy z hz k hk hzk => ?_⟩
    simp at hz; subst hz
    have h1 := h0 y hy k (.inr (.inr (.inr hk)))
    have h2 := hx0 k hzk
    omega
  · rw [List.pairwise_append]
    refine ⟨h.vr, by simp, fun y hy z hz k hk hyk => ?_⟩
    simp at hz; subst hz
    have h1 := h0 y hy k hyk
    have h2 := hx0 k (.inr (.inr (.inr hk)))
    omega
/-- the i-th head's cells -/
theorem HsOk.cell {B : Nat} {w : World} {hs : List (Fn × HVal)} {g cap n : Nat} (h : HsOk B w (.slice (some ⟨g, 0, none⟩) n cap) hs) (i : Nat) (hi : i < hs.length) (j : Nat) (hj : j < 11) : w.cell? ⟨g, i * 11 + j, none⟩ = (hCells hs[i])[j]? := by
  have hr := h.row
  have hn : n = hs.length := by
    rcases hr.2 with ⟨e, _⟩ | ⟨g', cap', cur, e, _⟩
    · cases e
    · injection e
  subst hn
  rw [hr.cellAt (i * 11 + j) (by omega)]
  clear h hr
  induction hs generalizing i with
  | nil => simp at hi
  | cons x l ih =>
    cases i with
    | zero =>
      rw [Nat.zero_mul, Nat.zero_add, List.flatMap_cons, List.getElem?_append_left (by simpa [hCells] using hj)]
      rfl
    | succ i =>
      rw [List.flatMap_cons, List.getElem?_append_right (by simp [hCells]; omega), show (i + 1) * 11 + j - (hCells x).length = i * 11 + j by simp [hCells]; omega]
      exact ih i (by simpa using hi)
end Go.Proofs.Ythaniobijkdnoaa
