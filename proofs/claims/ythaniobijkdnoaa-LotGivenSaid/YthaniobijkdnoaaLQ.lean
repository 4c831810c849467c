/- How much a maker's statements add, and that no instruction is lost. Conditions: what is said of the heads. -/
import Derived.Test.YthaniobijkdnoaaLP
namespace Go.Proofs.Ythaniobijkdnoaa
open Go.RowKit

def KnB (k : Kn) : Prop := ∀ f ∈ k.all, f.params.length ≤ 8 ∧ f.results.length ≤ 8
theorem callee_bd {k : Kn} (h : KnB k) (s : St) : (Lot.callee k s).params.length ≤ 8 ∧ (Lot.callee k s).results.length ≤ 8 := by
  unfold Lot.callee
  rw [List.getD_eq_getElem?_getD]
  cases hi : k.all[(Lot.rV k k.all.length s).toNat]? with
  | none => exact ⟨Nat.zero_le _, Nat.zero_le _⟩
  | some f => exact h f (List.mem_of_getElem? hi)
theorem gr_call {k : Kn} (h : KnB k) (op : Int) (s : St) : Gr 65 s (Lot.call k op s) := by
  have hb := callee_bd h s
  unfold Lot.call
  split
  · exact (gr_rS _ _ _).more (by omega)
  · split
    · exact ((gr_rS _ _ _).trans ((gr_values _ _ _).trans (gr_put _ _ _))).more (by omega)
    · exact ((gr_rS _ _ _).trans ((gr_values _ _ _).trans ((gr_put _ _ _).trans (gr_drops _ _ _)))).more (by rw [List.length_reverse]; omega)
theorem gr_recover (s : St) : Gr 3 s (Lot.recover s) := (gr_put _ _ _).trans ((gr_put _ _ _).trans (gr_put _ _ _))
theorem gr_outer (k : Kn) (s : St) : Gr 8 s (Lot.outer k s) := by
  unfold Lot.outer
  split
  · exact (Gr.refl _).more (by omega)
  · split
    · exact ((gr_rS _ _ _).trans ((gr_rS _ _ _).trans ((gr_put _ _ _).trans (gr_drop _ _ _)))).more (by omega)
    · exact ((gr_rS _ _ _).trans ((gr_rS _ _ _).trans ((gr_value _ 1 _ _).trans (gr_put _ _ _)))).more (by simp [vc])
theorem gr_plain {k : Kn} (h : KnB k) (kind : Int) (s : St) : Gr 65 s (Lot.plain k kind s) := by
  unfold Lot.plain
  split
  · exact ((gr_value _ 2 _ _).trans (gr_put _ _ _)).more (by simp [vc])
  · split
    · split
      · exact (Gr.refl _).more (by omega)
      · exact ((gr_rS _ _ _).trans ((gr_value _ 2 _ _).trans (gr_put _ _ _))).more (by simp [vc])
    · split
      · exact gr_call h _ _
      · split
        · exact gr_call h _ _
        · split
          · exact (gr_put _ _ _).more (by omega)
          · split
            · exact (gr_recover _).more (by omega)
            · exact (gr_outer _ _).more (by omega)
theorem gr_branch (k : Kn) (f : St → St) (r : Nat) (hf : ∀ s, Gr r s (f s)) (s : St) : Gr (r + 10) s (Lot.branch k f s) := by
  unfold Lot.branch
  exact ((gr_value _ 1 _ _).trans ((gr_put _ _ _).trans ((gr_put _ _ _).trans ((hf _).trans ((gr_here _ _).trans (gr_put _ _ _)))))).more (by simp only [vc]; omega)
theorem gr_loopHead (k : Kn) (n : Int) (s : St) : Gr 3 s (Lot.loopHead k n s) := (gr_rS _ _ _).trans ((gr_put _ _ _).trans ((gr_put _ _ _).trans (gr_put _ _ _)))
theorem gr_loopTail (n m : Int) (s : St) : Gr 11 s (Lot.loopTail n m s) := (gr_put _ _ _).trans ((gr_put _ _ _).trans ((gr_put _ _ _).trans ((gr_put _ _ _).trans ((gr_put _ _ _).trans ((gr_put _ _ _).trans ((gr_put _ _ _).trans ((gr_put _ _ _).trans ((gr_put _ _ _).trans ((gr_put _ _ _).trans (gr_put _ _ _))))))))))
theorem gr_loop (k : Kn) (f : St → St) (r : Nat) (hf : ∀ s, Gr r s (f s)) (s : St) : Gr (r + 15) s (Lot.loop k f s) := by
  unfold Lot.loop
  exact ((gr_addLocal _).trans ((gr_loopHead _ _ _).trans ((hf _).trans (gr_loopTail _ _ _)))).more (by omega)
theorem gr_tick (k : Kn) (s : St) : Gr 2 s (Lot.tick k s) := by
  have h := drV_bd k.ws s.pos 3 (by omega) (by omega)
  have h' : 0 ≤ Lot.rV k 3 s ∧ Lot.rV k 3 s < 3 := h
  unfold Gr Lot.tick Lot.rS
  dsimp only
  omega
theorem gr_stmt {k : Kn} (h : KnB k) (n : Nat) : ∀ s, Gr (70 + 20 * n) s (Lot.stmt k n s) := by
  induction n with
  | zero =>
    intro s
    unfold Lot.stmt
    dsimp only
    split
    · exact ((gr_tick _ _).trans (gr_rS _ _ _)).more (by omega)
    · split
      · omega
      · split
        · omega
        · split
          · exact ((gr_tick _ _).trans ((gr_rS _ _ _).trans (gr_branch k _ 8 (fun s => ((gr_value _ 1 _ _).trans (gr_put _ _ _)).more (by simp [vc])) _))).more (by omega)
          · exact ((gr_tick _ _).trans ((gr_rS _ _ _).trans (gr_plain h _ _))).more (by omega)
  | succ n ih =>
    intro s
    unfold Lot.stmt
    dsimp only
    split
    · exact ((gr_tick _ _).trans (gr_rS _ _ _)).more (by omega)
    · split
      · exact ((gr_tick _ _).trans ((gr_rS _ _ _).trans (gr_loop k _ _ ih _))).more (by omega)
      · split
        · exact ((gr_tick _ _).trans ((gr_rS _ _ _).trans (gr_branch k _ _ ih _))).more (by omega)
        · split
          · exact ((gr_tick _ _).trans ((gr_rS _ _ _).trans (gr_branch k _ 8 (fun s => ((gr_value _ 1 _ _).trans (gr_put _ _ _)).more (by simp [vc])) _))).more (by omega)
          · exact ((gr_tick _ _).trans ((gr_rS _ _ _).trans (gr_plain h _ _))).more (by omega)

theorem Mo.refl (s : St) : Mo s s := Nat.le_refl _
theorem mo_rS (k : Kn) (b : Int) (s : St) : Mo s (Lot.rS k b s) := Nat.le_refl _
theorem mo_slotS (k : Kn) (t : Int) (s : St) : Mo s (Lot.slotS k t s) := by
  unfold Lot.slotS
  split
  · exact Mo.refl _
  · exact mo_rS _ _ _
theorem mo_pushS (k : Kn) (s : St) : Mo s (Lot.pushS k s) := (mo_rS _ _ _).trans (mo_put _ _ _)
theorem mo_lit (k : Kn) (t : Int) (s : St) : Mo s (Lot.lit k t s) := by
  unfold Lot.lit
  split
  · exact (mo_pushS _ _).trans ((mo_pushS _ _).trans (mo_put _ _ _))
  · exact mo_pushS _ _
theorem mo_leaf (k : Kn) (t : Int) (s : St) : Mo s (Lot.leaf k t s) := by
  unfold Lot.leaf
  split
  · split
    · exact (mo_slotS _ _ _).trans ((mo_rS _ _ _).trans (mo_put _ _ _))
    · exact (mo_slotS _ _ _).trans ((mo_rS _ _ _).trans (mo_lit _ _ _))
  · exact (mo_slotS _ _ _).trans (mo_lit _ _ _)
theorem mo_put2 (k : Kn) (o n b : Int) (s : St) : Mo s (Lot.put2 k o n b s) := (mo_rS _ _ _).trans (mo_put _ _ _)
theorem mo_putN (k : Kn) (s : St) : Mo s (Lot.putN k s) := (mo_rS _ _ _).trans (mo_put _ _ _)
theorem mo_putB (k : Kn) (s : St) : Mo s (Lot.putB k s) := (mo_rS _ _ _).trans (mo_put _ _ _)
theorem mo_value (k : Kn) (n : Nat) : ∀ (t : Int) (s : St), Mo s (Lot.value k n t s) := by
  induction n with
  | zero =>
    intro t s
    rw [Lot.value]
    split
    · exact (mo_rS _ _ _).trans (mo_leaf _ _ _)
    · exact mo_leaf _ _ _
  | succ n ih =>
    intro t s
    rw [Lot.value]
    split
    · split
      · exact (mo_rS _ _ _).trans (mo_leaf _ _ _)
      · split
        · exact (mo_rS _ _ _).trans (mo_put _ _ _)
        · split
          · exact (mo_rS _ _ _).trans ((ih _ _).trans (mo_put2 _ _ _ _ _))
          · split
            · exact (mo_rS _ _ _).trans ((ih _ _).trans (mo_putN _ _))
            · exact (mo_rS _ _ _).trans ((ih _ _).trans ((ih _ _).trans (mo_putB _ _)))
    · split
      · exact (mo_rS _ _ _).trans (mo_leaf _ _ _)
      · split
        · exact (mo_rS _ _ _).trans ((mo_rS _ _ _).trans ((ih _ _).trans ((ih _ _).trans (mo_put _ _ _))))
        · exact (mo_rS _ _ _).trans ((mo_rS _ _ _).trans ((ih _ _).trans ((ih _ _).trans (mo_put2 _ _ _ _ _))))
theorem mo_values (k : Kn) (l : List Int) : ∀ s, Mo s (Lot.values k l s) := by
  induction l with
  | nil => exact fun s => Mo.refl s
  | cons x l ih => exact fun s => (mo_value k 1 x s).trans (ih _)
theorem mo_drop (k : Kn) (t : Int) (s : St) : Mo s (Lot.drop k t s) := by
  unfold Lot.drop
  split
  · exact (mo_slotS _ _ _).trans (mo_put _ _ _)
  · exact (mo_slotS _ _ _).trans (mo_put _ _ _)
theorem mo_drops (k : Kn) (l : List Int) : ∀ s, Mo s (Lot.drops k l s) := by
  induction l with
  | nil => exact fun s => Mo.refl s
  | cons x l ih => exact fun s => (mo_drop k x s).trans (ih _)
theorem mo_call (k : Kn) (op : Int) (s : St) : Mo s (Lot.call k op s) := by
  unfold Lot.call
  split
  · exact mo_rS _ _ _
  · split
    · exact (mo_rS _ _ _).trans ((mo_values _ _ _).trans (mo_put _ _ _))
    · exact (mo_rS _ _ _).trans ((mo_values _ _ _).trans ((mo_put _ _ _).trans (mo_drops _ _ _)))
theorem mo_recover (s : St) : Mo s (Lot.recover s) := (mo_put _ _ _).trans ((mo_put _ _ _).trans (mo_put _ _ _))
theorem mo_outer (k : Kn) (s : St) : Mo s (Lot.outer k s) := by
  unfold Lot.outer
  split
  · exact Mo.refl _
  · split
    · exact (mo_rS _ _ _).trans ((mo_rS _ _ _).trans ((mo_put _ _ _).trans (mo_drop _ _ _)))
    · exact (mo_rS _ _ _).trans ((mo_rS _ _ _).trans ((mo_value _ 1 _ _).trans (mo_put _ _ _)))
theorem mo_plain (k : Kn) (kind : Int) (s : St) : Mo s (Lot.plain k kind s) := by
  unfold Lot.plain
  split
  · exact (mo_value _ 2 _ _).trans (mo_put _ _ _)
  · split
    · split
      · exact Mo.refl _
      · exact (mo_rS _ _ _).trans ((mo_value _ 2 _ _).trans (mo_put _ _ _))
    · split
      · exact mo_call _ _ _
      · split
        · exact mo_call _ _ _
        · split
          · exact mo_put _ _ _
          · split
            · exact mo_recover _
            · exact mo_outer _ _
theorem mo_branch (k : Kn) (f : St → St) (hf : ∀ s, Mo s (f s)) (s : St) : Mo s (Lot.branch k f s) := by
  unfold Lot.branch
  exact (mo_value _ 1 _ _).trans ((mo_put _ _ _).trans ((mo_put _ _ _).trans ((hf _).trans ((mo_here _ _).trans (mo_put _ _ _)))))
theorem mo_loopTail (n m : Int) (s : St) : Mo s (Lot.loopTail n m s) := (mo_put _ _ _).trans ((mo_put _ _ _).trans ((mo_put _ _ _).trans ((mo_put _ _ _).trans ((mo_put _ _ _).trans ((mo_put _ _ _).trans ((mo_put _ _ _).trans ((mo_put _ _ _).trans ((mo_put _ _ _).trans ((mo_put _ _ _).trans (mo_put _ _ _))))))))))
theorem mo_loop (k : Kn) (f : St → St) (hf : ∀ s, Mo s (f s)) (s : St) : Mo s (Lot.loop k f s) := by
  unfold Lot.loop
  have h0 : Mo s (Lot.addLocal s) := Nat.le_refl _
  exact h0.trans (((mo_rS _ _ _).trans ((mo_put _ _ _).trans ((mo_put _ _ _).trans (mo_put _ _ _)))).trans ((hf _).trans (mo_loopTail _ _ _)))
theorem mo_tick (k : Kn) (s : St) : Mo s (Lot.tick k s) := Nat.le_refl _
theorem mo_stmt (k : Kn) (n : Nat) : ∀ s, Mo s (Lot.stmt k n s) := by
  induction n with
  | zero =>
    intro s
    unfold Lot.stmt
    dsimp only
    split
    · exact (mo_tick _ _).trans (mo_rS _ _ _)
    · split
      · omega
      · split
        · omega
        · split
          · exact (mo_tick _ _).trans ((mo_rS _ _ _).trans (mo_branch k _ (fun s => (mo_value _ 1 _ _).trans (mo_put _ _ _)) _))
          · exact (mo_tick _ _).trans ((mo_rS _ _ _).trans (mo_plain _ _ _))
  | succ n ih =>
    intro s
    unfold Lot.stmt
    dsimp only
    split
    · exact (mo_tick _ _).trans (mo_rS _ _ _)
    · split
      · exact (mo_tick _ _).trans ((mo_rS _ _ _).trans (mo_loop k _ ih _))
      · split
        · exact (mo_tick _ _).trans ((mo_rS _ _ _).trans (mo_branch k _ ih _))
        · split
          · exact (mo_tick _ _).trans ((mo_rS _ _ _).trans (mo_branch k _ (fun s => (mo_value _ 1 _ _).trans (mo_put _ _ _)) _))
          · exact (mo_tick _ _).trans ((mo_rS _ _ _).trans (mo_plain _ _ _))
end Go.Proofs.Ythaniobijkdnoaa
