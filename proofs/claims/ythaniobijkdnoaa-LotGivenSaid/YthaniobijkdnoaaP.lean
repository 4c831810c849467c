/- Which instructions are reached, in the reference, of a function without tables: all, if all can be. Conditions: code that is not too long, without the two instructions of tables. -/
import Derived.Test.YthaniobijkdnoaaO
namespace Go.Proofs.Ythaniobijkdnoaa
open Go.RowKit

/-- a place that can be reached -/
inductive Rch (code : List (Int × Int)) : Nat → Prop
  | zero : Rch code 0
  | step (i j : Nat) : Rch code i → i < code.length → ((j : Int) ∈ nextOf (code[i]!).1 (code[i]!).2 i) → Rch code j

/-- the marks and what waits -/
structure RI (code : List (Int × Int)) (T : List Int) (O : List Bool) : Prop where
  len : O.length = code.length
  zero : O[0]? = some true ∨ (0 : Int) ∈ T
  closed : ∀ i, i < code.length → O[i]? = some true → ∀ j ∈ nextOf (code[i]!).1 (code[i]!).2 i, (∃ k : Nat, j = k ∧ O[k]? = some true) ∨ j ∈ T ∨ j < 0 ∨ (code.length : Int) ≤ j
def unm (O : List Bool) : Nat := O.countP (fun x => !x)
theorem RI.start (code : List (Int × Int)) : RI code [0] (List.replicate code.length false) := by
  refine ⟨by simp, .inr (by simp), fun i hi ho => ?_⟩
  rw [List.getElem?_replicate, if_pos hi] at ho
  cases ho
theorem RI.done {code : List (Int × Int)} {O : List Bool} (h : RI code [] O) (hr : ∀ i, i < code.length → Rch code i) : O = List.replicate code.length true := by
  have key : ∀ i, Rch code i → i < code.length → O[i]? = some true := by
    intro i hi
    induction hi with
    | zero => exact fun _ => h.zero.resolve_right (by simp)
    | step i j hi hlt hj ih =>
      intro hjl
      rcases h.closed i hlt (ih hlt) j hj with ⟨k, hk, ho⟩ | h1 | h1 | h1
      · obtain rfl : j = k := by omega
        exact ho
      · simp at h1
      · omega
      · omega
  apply List.ext_getElem
  · rw [h.len]; simp
  · intro i h1 h2
    have := key i (hr i (by rw [← h.len]; exact h1)) (by rw [← h.len]; exact h1)
    rw [List.getElem?_eq_getElem h1] at this
    simp only [Option.some.injEq] at this
    rw [this]; simp
/-- one that is out, or marked, is dropped -/
theorem RI.skip {code : List (Int × Int)} {T : List Int} {O : List Bool} {x : Int} (h : RI code (x :: T) O) (hx : x < 0 ∨ (code.length : Int) ≤ x ∨ ∃ k : Nat, x = k ∧ O[k]? = some true) (h0 : 0 < code.length) : RI code T O := by
  refine ⟨h.len, ?_, fun i hi ho j hj => ?_⟩
  · rcases h.zero with h1 | h1
    · exact .inl h1
    · rcases List.mem_cons.1 h1 with rfl | h1
      · rcases hx with hx | hx | ⟨k, hk, ho⟩
        · omega
        · omega
        · obtain rfl : k = 0 := by omega
          exact .inl ho
      · exact .inr h1
  · rcases h.closed i hi ho j hj with h1 | h1 | h1
    · exact .inl h1
    · rcases List.mem_cons.1 h1 with rfl | h1
      · rcases hx with hx | hx | hx
        · exact .inr (.inr (.inl hx))
        · exact .inr (.inr (.inr hx))
        · exact .inl hx
      · exact .inr (.inl h1)
    · exact .inr (.inr h1)
/-- one that is new is marked, and what it leads to waits -/
theorem RI.mark {code : List (Int × Int)} {T : List Int} {O : List Bool} {x : Nat} (h : RI code ((x : Int) :: T) O) (hx : x < code.length) : RI code (T ++ nextOf (code[x]!).1 (code[x]!).2 x) (O.set x true) := by
  have hxo : x < O.length := by rw [h.len]; exact hx
  have hset : ∀ k : Nat, O[k]? = some true → (O.set x true)[k]? = some true := fun k hk => by
    rw [List.getElem?_set]
    by_cases e : x = k
    · subst e; simp [hxo]
    · simp [e, hk]
  refine ⟨by simp [h.len], ?_, fun i hi ho j hj => ?_⟩
  · rcases h.zero with h1 | h1
    · exact .inl (hset 0 h1)
    · rcases List.mem_cons.1 h1 with h1 | h1
      · obtain rfl : x = 0 := by omega
        exact .inl (by rw [List.getElem?_set, if_pos rfl, if_pos hxo])
      · exact .inr (by simp [h1])
  · by_cases hix : i = x
    · subst hix
      exact .inr (.inl (List.mem_append_right _ hj))
    · rw [List.getElem?_set, if_neg (fun e => hix e.symm)] at ho
      rcases h.closed i hi ho j hj with ⟨k, hk, ho⟩ | h1 | h1
      · exact .inl ⟨k, hk, hset k ho⟩
      · rcases List.mem_cons.1 h1 with h1 | h1
        · exact .inl ⟨x, h1, by rw [List.getElem?_set, if_pos rfl, if_pos hxo]⟩
        · exact .inr (.inl (by simp [h1]))
      · exact .inr (.inr h1)
theorem next_le (op a pc : Int) : (nextOf op a pc).length ≤ 2 := by
  unfold nextOf
  repeat' split
  all_goals simp
theorem unm_set {O : List Bool} {x : Nat} (h : O[x]? = some false) : unm (O.set x true) + 1 = unm O := by
  unfold unm
  induction O generalizing x with
  | nil => simp at h
  | cons a O ih =>
    cases x with
    | zero => simp at h; subst h; simp
    | succ x => simp at h; have := ih h; simp [List.countP_cons] at this ⊢; omega
end Go.Proofs.Ythaniobijkdnoaa
