/- What it means that a slice value holds a list of frames, and plain facts on such lists. No condition. -/
import Derived.Test.YtddchmkdmmobeaaA
namespace Go.Proofs.Ytddchmkdmmobeaa
open Go.RowKit

def Sl (w : World) (B : Nat) (v : Value) (ls : List L4) : Prop := w.ownsRow B 31 4 v ls.length (flat ls)

theorem flat_at (l : List L4) : ∀ (i : Nat) (h : i < l.length) (j : Nat), j < 4 → (flat l)[i * 4 + j]? = (l[i]).cells[j]? := by
  induction l with
  | nil => intro i h; simp at h
  | cons x l ih =>
    intro i h j hj
    cases i with
    | zero =>
      simp only [flat, List.flatMap_cons, Nat.zero_mul, Nat.zero_add, List.getElem_cons_zero]
      rw [List.getElem?_append_left (by simpa [L4.cells] using hj)]
    | succ i =>
      simp only [flat, List.flatMap_cons, List.getElem_cons_succ]
      rw [List.getElem?_append_right (by simp [L4.cells]; omega)]
      rw [← ih i (by simpa using h) j hj]
      congr 1
      simp [L4.cells]; omega

structure At (w : World) (g i : Nat) (x : L4) : Prop where
  a : w.cell? ⟨g, i * 4, none⟩ = some (.int .i64 x.a)
  b : w.cell? ⟨g, i * 4 + 1, none⟩ = some (.int .i64 x.b)
  c : w.cell? ⟨g, i * 4 + 2, none⟩ = some (.int .i64 x.c)
  d : w.cell? ⟨g, i * 4 + 3, none⟩ = some (.int .i64 x.d)

theorem Sl.at {w : World} {B : Nat} {g n cap : Nat} {ls : List L4} (h : Sl w B (.slice (some ⟨g, 0, none⟩) n cap) ls) (i : Nat) (hi : i < ls.length) : At w g i ls[i] := by
  have hc := World.ownsRow.cells h (g := g) rfl
  have key : ∀ j, j < 4 → ∀ u, (ls[i]).cells[j]? = some u → w.cell? ⟨g, i * 4 + j, none⟩ = some u := by
    intro j hj u hu
    have := hc (i * 4 + j) u (by rw [flat_at ls i hi j hj]; exact hu)
    have hadd : (⟨g, 0, none⟩ : Addr).add (i * 4 + j) = ⟨g, i * 4 + j, none⟩ := by unfold Addr.add; split <;> simp_all
    rwa [hadd] at this
  exact ⟨key 0 (by decide) _ rfl, key 1 (by decide) _ rfl, key 2 (by decide) _ rfl, key 3 (by decide) _ rfl⟩

theorem Sl.shape {w : World} {B : Nat} {v : Value} {ls : List L4} (h : Sl w B v ls) : (ls = [] ∧ ∃ a cap, v = .slice a 0 cap) ∨ (∃ g cap, v = .slice (some ⟨g, 0, none⟩) ls.length cap ∧ g < w.heap.size ∧ ls ≠ []) := by
  by_cases hl : ls = []
  · left
    subst hl
    rcases h.2 with ⟨rfl, _⟩ | ⟨g, cap, cur, rfl, _⟩
    · exact ⟨rfl, none, 0, rfl⟩
    · exact ⟨rfl, _, cap, rfl⟩
  · right
    have : 0 < ls.length := List.length_pos_iff.2 hl
    obtain ⟨g, cap, rfl, _, hg⟩ := World.ownsRow.form h this
    exact ⟨g, cap, rfl, hg, hl⟩

theorem Sl.len {w : World} {B : Nat} {v : Value} {ls : List L4} (h : Sl w B v ls) : ∃ a cap, v = .slice a ls.length cap := by
  rcases h.shape with ⟨rfl, a, cap, rfl⟩ | ⟨g, cap, rfl, _⟩ <;> exact ⟨_, _, rfl⟩

theorem Sl.take {w : World} {B : Nat} {g n cap : Nat} {ls : List L4} {x : L4} (h : Sl w B (.slice (some ⟨g, 0, none⟩) n cap) (ls ++ [x])) : Sl w B (.slice (some ⟨g, 0, none⟩) ls.length cap) ls ∧ ls.length < cap := by
  rcases h.2 with ⟨h1, _⟩ | ⟨g', cap', cur, h1, h2, h3, h4, h5, h6, h7⟩
  · cases h1
  · simp only [Value.slice.injEq, Option.some.injEq, Addr.mk.injEq] at h1
    obtain ⟨⟨rfl, _⟩, rfl, rfl⟩ := h1
    simp at h4
    refine ⟨⟨?_, .inr ⟨g, cap, cur, rfl, h2, h3, by omega, h5, h6, ?_⟩⟩, by omega⟩
    · have : ∀ l : List L4, (flat l).length = l.length * 4 := by
        intro l; induction l with
        | nil => rfl
        | cons y l ih => simp only [flat, List.flatMap_cons, List.length_append, List.length_cons]; rw [show (l.flatMap L4.cells).length = (flat l).length from rfl, ih]; simp [L4.cells]; omega
      exact this ls
    · rw [flat_snoc] at h7
      have hlen := h.1
      rw [flat_snoc] at hlen
      simp [L4.cells] at hlen
      have h8 := congrArg (List.take (ls.length * 4)) h7
      rw [List.take_take, Nat.min_eq_left (by simp; omega)] at h8
      rw [h8, List.take_left' (by omega)]

/-- the last one whose number is this -/
def lw (id : Int) (ls : List L4) : Option L4 := ls.foldl (fun acc x => if x.a = id then some x else acc) none

theorem lw_snoc (id : Int) (ls : List L4) (x : L4) : lw id (ls ++ [x]) = if x.a = id then some x else lw id ls := by simp [lw]
theorem take_snoc {α : Type} (l : List α) (k : Nat) (h : k < l.length) : l.take (k + 1) = l.take k ++ [l[k]] := by
  rw [List.take_succ_eq_append_getElem h]
theorem lw_take (id : Int) (ls : List L4) (k : Nat) (h : k < ls.length) : lw id (ls.take (k + 1)) = if ls[k].a = id then some ls[k] else lw id (ls.take k) := by
  rw [take_snoc _ _ h, lw_snoc]
theorem lw_some (id : Int) (ls : List L4) (x : L4) (h : lw id ls = some x) : x ∈ ls ∧ x.a = id := by
  have : ∀ (l : List L4) (k : Nat), k ≤ l.length → ∀ x, lw id (l.take k) = some x → x ∈ l ∧ x.a = id := by
    intro l k
    induction k with
    | zero => intro _ x h; simp [lw] at h
    | succ k ih =>
      intro hk x h
      rw [lw_take _ _ _ (by omega)] at h
      split at h
      · cases h; exact ⟨List.getElem_mem _, by assumption⟩
      · exact ih (by omega) x h
  exact this ls ls.length (Nat.le_refl _) x (by rw [List.take_length]; exact h)
end Go.Proofs.Ytddchmkdmmobeaa
