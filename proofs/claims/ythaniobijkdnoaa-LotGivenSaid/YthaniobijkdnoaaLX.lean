/- The functions that lot has made so far, in memory. No condition beyond each theorem's premises. -/
import Derived.Test.YthaniobijkdnoaaLW
namespace Go.Proofs.Ythaniobijkdnoaa
open Go.RowKit

/-- where the draws stand before the j-th function -/
def posF (ws : List Int) (all : List Fn) : Nat → Nat → Nat → Nat
  | _, p, 0 => p
  | i, p, j + 1 => posF ws all (i + 1) (bodyOf ws all i p).pos j
theorem posF_succ (ws : List Int) (all : List Fn) (j : Nat) : ∀ i p, posF ws all i p (j + 1) = (bodyOf ws all (i + j) (posF ws all i p j)).pos := by
  induction j with
  | zero => intro i p; rfl
  | succ j ih =>
    intro i p
    rw [posF, ih (i + 1), show i + 1 + j = i + (j + 1) by omega]
    rfl
theorem progK_get (ws : List Int) (all : List Fn) (k : Nat) : ∀ i p j, j < k → (progK ws all k i p)[j]? = some (funcOf ws all (i + j) (posF ws all i p j)) := by
  induction k with
  | zero => intro i p j h; omega
  | succ k ih =>
    intro i p j h
    cases j with
    | zero => rfl
    | succ j =>
      rw [progK, List.getElem?_cons_succ, ih _ _ _ (by omega), show i + 1 + j = i + (j + 1) by omega]
      rfl
theorem progK_len (ws : List Int) (all : List Fn) (k : Nat) : ∀ i p, (progK ws all k i p).length = k := by
  induction k with
  | zero => intro i p; rfl
  | succ k ih => intro i p; rw [progK, List.length_cons, ih]
def GB (g : Gh) (k : Nat) : Prop := g.cv.ownBlock = some k ∨ g.lv.ownBlock = some k ∨ g.ov.ownBlock = some k
def dCells (y : Fn × HVal × Gh) : List Value := [.string y.1.name, .bool y.1.inner, y.2.1.vo, y.2.1.vp, y.2.1.vr, y.2.2.ov, y.2.2.cv, y.2.2.lv, .slice none 0 0, .slice none 0 0, .slice none 0 0]
/-- a function that is made -/
structure Dn (w3 wr : World) (PP : Nat) (pv : Value) (y : Fn × HVal × Gh) : Prop where
  o : wr.ownsRow 0 59 1 y.2.2.ov y.1.locals.length (y.1.locals.map (Value.int .i64))
  c : wr.ownsRow 0 73 2 y.2.2.cv y.1.code.length (cellsOf y.1.code)
  n : wr.ownsRow 0 3 1 y.2.2.lv y.1.lines.length (y.1.lines.map (Value.int .i64))
  b : ∀ k, GB y.2.2 k → (k ≠ PP ∧ pv.ownBlock ≠ some k ∧ w3.heap.size ≤ k) ∨ y.2.1.vl.ownBlock = some k
theorem Dn.lt {w3 wr : World} {PP : Nat} {pv : Value} {y : Fn × HVal × Gh} (h : Dn w3 wr PP pv y) : ∀ k, GB y.2.2 k → k < wr.heap.size := fun k hk => by
  rcases hk with h1 | h1 | h1
  · exact (h.c.lt k h1).2
  · exact (h.n.lt k h1).2
  · exact (h.o.lt k h1).2
theorem Dn.step {S : Nat → Prop} {w3 wr w' : World} {PP : Nat} {pv pv' : Value} {y : Fn × HVal × Gh} (h : Dn w3 wr PP pv y) (hc : Chg S wr w') (hS : ∀ k, GB y.2.2 k → ¬ S k) (hp : ∀ k, pv'.ownBlock = some k → pv.ownBlock = some k ∨ wr.heap.size ≤ k) : Dn w3 w' PP pv' y :=
  ⟨owns_of_block h.o (fun k hk => hc.block k (h.o.lt k hk).2 (hS k (.inr (.inr hk)))), owns_of_block h.c (fun k hk => hc.block k (h.c.lt k hk).2 (hS k (.inl hk))), owns_of_block h.n (fun k hk => hc.block k (h.n.lt k hk).2 (hS k (.inr (.inl hk)))), fun k hk => by
    rcases h.b k hk with ⟨h1, h2, h3⟩ | h1
    · exact .inl ⟨h1, fun e => (hp k e).elim h2 (fun h4 => by have := h.lt k hk; omega), h3⟩
    · exact .inr h1⟩
end Go.Proofs.Ythaniobijkdnoaa
