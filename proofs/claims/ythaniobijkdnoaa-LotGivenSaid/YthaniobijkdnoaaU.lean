/- What the reference's Stacks keeps in memory while it runs. No condition beyond each theorem's premises. -/
import Derived.Test.YthaniobijkdnoaaT
namespace Go.Proofs.Ythaniobijkdnoaa
open Go.RowKit

/-- a row of numbers stands where a block without numbers is written -/
theorem IV.set {w : World} {v : Value} {xs : List Int} {g o : Nat} {u : Value} {c : Array Value} {e : TypeId} (h : IV w v xs) (hg : w.heap[g]? = some (.cells c e (0, 0))) (hc : ∀ x ∈ c, ∀ k : IntKind, ∀ n : Int, x ≠ .int k n) : IV (w.setCell ⟨g, o, none⟩ u) v xs := by
  obtain ⟨a, cap, rfl, h1, h2, hh⟩ := h
  refine ⟨a, cap, rfl, h1, h2, fun i hi => ?_⟩
  obtain ⟨b, off, rfl, hb, hcell⟩ := hh i hi
  have hne : b ≠ g := by
    intro e
    subst e
    rw [cell_of hg] at hcell
    exact hc _ (Array.mem_of_getElem? hcell) _ _ rfl
  refine ⟨b, off, rfl, by simpa using hb, ?_⟩
  rw [World.cell?_of_block (a := ⟨b, off + i, none⟩) (Below.heap_setCell w ⟨g, o, none⟩ u b hne)]
  exact hcell

/-- what Stacks keeps -/
structure SI (w wr : World) (pb c0 c1 c2 c3 c4 c5 c6 c7 c8 c9 c10 : Value) (bo br bd bt n : Nat) (T : Nat → List Int) (ofs : List Value) (R D : List Bool) : Prop where
  pbx : wr.cell? ⟨w.heap.size, 0, none⟩ = some pb
  rb : wr.heap[w.heap.size + 1]? = some (.cells #[.slice none 0 0, .slice none 0 0] 81 (0, 0))
  box : Box11 wr (w.heap.size + 1 + 1) c0 c1 c2 c3 c4 c5 c6 c7 c8 c9 c10
  hbt : wr.heap[bt]? = some (.cells #[.slice (some ⟨bo, 0, none⟩) n n, .slice (some ⟨br, 0, none⟩) n n] 81 (0, 0))
  hof : wr.heap[bo]? = some (.cells ofs.toArray 29 (0, 0))
  hr : wr.heap[br]? = some (.cells (R.map Value.bool).toArray 4 (0, 0))
  hd : wr.heap[bd]? = some (.cells (D.map Value.bool).toArray 4 (0, 0))
  nes : (bo ≠ br ∧ bo ≠ bd ∧ bo ≠ bt) ∧ (br ≠ bd ∧ br ≠ bt) ∧ bd ≠ bt
  ges : w.heap.size + 3 ≤ bo ∧ w.heap.size + 3 ≤ br ∧ w.heap.size + 3 ≤ bd ∧ w.heap.size + 3 ≤ bt
  l1 : ofs.length = n
  l2 : R.length = n
  l3 : D.length = n
  sl : ∀ v ∈ ofs, ∀ k : IntKind, ∀ x : Int, v ≠ .int k x
  iv : ∀ i v, R[i]? = some true → ofs[i]? = some v → IV wr v (T i)
  bl : Below w.heap.size w wr
section
variable {w wr wr' : World} {pb c0 c1 c2 c3 c4 c5 c6 c7 c8 c9 c10 : Value} {bo br bd bt n : Nat} {T : Nat → List Int} {ofs : List Value} {R D : List Bool}
theorem SI.bel (h : SI w wr pb c0 c1 c2 c3 c4 c5 c6 c7 c8 c9 c10 bo br bd bt n T ofs R D) (hb : Below wr.heap.size wr wr') : SI w wr' pb c0 c1 c2 c3 c4 c5 c6 c7 c8 c9 c10 bo br bd bt n T ofs R D := by
  have hw := h.box.lt
  exact ⟨(hb.cell (p := ⟨w.heap.size, 0, none⟩) (by show w.heap.size < _; omega)).trans h.pbx, rd_bel hb (by omega) h.rb, h.box.bel hb, rd_bel hb (heap_lt h.hbt) h.hbt, rd_bel hb (heap_lt h.hof) h.hof, rd_bel hb (heap_lt h.hr) h.hr, rd_bel hb (heap_lt h.hd) h.hd, h.nes, h.ges, h.l1, h.l2, h.l3, h.sl, fun i v h1 h2 => (h.iv i v h1 h2).bel hb, h.bl.trans (hb.mono h.bl.size)⟩
theorem bools_no (R : List Bool) : ∀ x ∈ (R.map Value.bool).toArray, ∀ k : IntKind, ∀ n : Int, x ≠ .int k n := by
  intro x hx k n e
  subst e
  simp at hx
theorem SI.setD (h : SI w wr pb c0 c1 c2 c3 c4 c5 c6 c7 c8 c9 c10 bo br bd bt n T ofs R D) (k : Nat) : SI w (wr.setCell ⟨bd, k, none⟩ (.bool true)) pb c0 c1 c2 c3 c4 c5 c6 c7 c8 c9 c10 bo br bd bt n T ofs R (D.set k true) := by
  have hg := h.ges
  have hn := h.nes
  have hb : Below (w.heap.size + 3) wr (wr.setCell ⟨bd, k, none⟩ (.bool true)) := (Below.refl (w.heap.size + 3) wr).setCell (p := ⟨bd, k, none⟩) hg.2.2.1 _
  refine ⟨(hb.cell (p := ⟨w.heap.size, 0, none⟩) (by show w.heap.size < _; omega)).trans h.pbx, (hb.block _ (by omega)).trans h.rb, h.box.bel' hb (by omega), rd_set (by show bt ≠ bd; omega) h.hbt, rd_set (by show bo ≠ bd; omega) h.hof, rd_set (by show br ≠ bd; omega) h.hr, ?_, h.nes, h.ges, h.l1, h.l2, by simp [h.l3], h.sl, fun i v h1 h2 => (h.iv i v h1 h2).set h.hd (bools_no D), h.bl.trans (hb.mono (by omega))⟩
  rw [heap_set h.hd k (.bool true)]
  simp [List.map_set]
theorem SI.mark (h : SI w wr pb c0 c1 c2 c3 c4 c5 c6 c7 c8 c9 c10 bo br bd bt n T ofs R D) (k : Nat) (u : Value) (hu : IV wr u (T k)) : SI w ((wr.setCell ⟨br, k, none⟩ (.bool true)).setCell ⟨bo, k, none⟩ u) pb c0 c1 c2 c3 c4 c5 c6 c7 c8 c9 c10 bo br bd bt n T (ofs.set k u) (R.set k true) D := by
  have hg := h.ges
  have hn := h.nes
  have hb1 : Below (w.heap.size + 3) wr (wr.setCell ⟨br, k, none⟩ (.bool true)) := (Below.refl (w.heap.size + 3) wr).setCell (p := ⟨br, k, none⟩) hg.2.1 _
  have hb : Below (w.heap.size + 3) wr ((wr.setCell ⟨br, k, none⟩ (.bool true)).setCell ⟨bo, k, none⟩ u) := hb1.setCell (p := ⟨bo, k, none⟩) hg.1 _
  have hof1 : (wr.setCell ⟨br, k, none⟩ (.bool true)).heap[bo]? = some (.cells ofs.toArray 29 (0, 0)) := rd_set (by show bo ≠ br; omega) h.hof
  have hsl : ∀ x ∈ ofs.toArray, ∀ k : IntKind, ∀ n : Int, x ≠ .int k n := fun x hx => h.sl x (by simpa using hx)
  refine ⟨(hb.cell (p := ⟨w.heap.size, 0, none⟩) (by show w.heap.size < _; omega)).trans h.pbx, (hb.block _ (by omega)).trans h.rb, h.box.bel' hb (by omega), rd_set (by show bt ≠ bo; omega) (rd_set (by show bt ≠ br; omega) h.hbt), ?_, rd_set (by show br ≠ bo; omega) ?_, rd_set (by show bd ≠ bo; omega) (rd_set (by show bd ≠ br; omega) h.hd), h.nes, h.ges, by simp [h.l1], by simp [h.l2], h.l3, ?_, ?_, h.bl.trans (hb.mono (by omega))⟩
  · rw [heap_set hof1 k u]
    simp
  · rw [heap_set h.hr k (.bool true)]
    simp [List.map_set]
  · intro v hv
    rcases List.mem_or_eq_of_mem_set hv with h1 | rfl
    · exact h.sl v h1
    · obtain ⟨a, c, rfl, -⟩ := hu
      intro k x e
      cases e
  · intro i v h1 h2
    have hu' := (hu.set (o := k) (u := .bool true) h.hr (bools_no R)).set (o := k) (u := u) hof1 hsl
    by_cases e : k = i
    · subst e
      have hlt : k < ofs.length := by have := (List.getElem?_eq_some_iff.1 h2).1; simpa using this
      rw [List.getElem?_set, if_pos rfl, if_pos hlt] at h2
      obtain rfl := Option.some.inj h2
      exact hu'
    · rw [List.getElem?_set, if_neg e] at h1 h2
      exact ((h.iv i v h1 h2).set h.hr (bools_no R)).set hof1 hsl
theorem SI.ivmark (h : SI w wr pb c0 c1 c2 c3 c4 c5 c6 c7 c8 c9 c10 bo br bd bt n T ofs R D) (k : Nat) (u v : Value) (xs : List Int) (hv : IV wr v xs) : IV ((wr.setCell ⟨br, k, none⟩ (.bool true)).setCell ⟨bo, k, none⟩ u) v xs := by
  have hn := h.nes
  have hof1 : (wr.setCell ⟨br, k, none⟩ (.bool true)).heap[bo]? = some (.cells ofs.toArray 29 (0, 0)) := rd_set (by show bo ≠ br; omega) h.hof
  exact (hv.set h.hr (bools_no R)).set hof1 (fun x hx => h.sl x (by simpa using hx))
end
theorem madeS (n : Nat) : madeCells (Value.slice none 0 0).cells n = (List.replicate n (Value.slice none 0 0)).toArray := by
  apply Array.ext
  · simp [size_madeCells]
  · intro i h1 h2
    simp [madeCells, Value.cells, Nat.mod_one]
theorem mk_rows (n : Nat) (h : n ≤ 100000) (W : World) : (Instr.makeSlice 78 (.int .i64 n) (.int .i64 n)).run Try.prog W = .ok (.slice (some ⟨W.heap.size, 0, none⟩) n n) (W.alloc (.cells (List.replicate n (Value.slice none 0 0)).toArray 29)) := by
  obtain ⟨i0, hi, hz0, hz1, hz2⟩ := info_parts inf29
  have hr := run_makeSlice W 78 29 i0 (.slice none 0 0) Try.underlying78 hi hz0 .i64 .i64 n n (by omega) (Int.le_refl _) (by rw [hz1]; simp; omega) (by rw [hz2]; omega) (by omega)
  rw [hr, hz1, Nat.mul_one, madeS]
  simp
/-- what Stacks keeps before it marks what is done -/
structure S0 (w wr : World) (pb c0 c1 c2 c3 c4 c5 c6 c7 c8 c9 c10 : Value) (bo br bt n : Nat) : Prop where
  pbx : wr.cell? ⟨w.heap.size, 0, none⟩ = some pb
  rb : wr.heap[w.heap.size + 1]? = some (.cells #[.slice none 0 0, .slice none 0 0] 81 (0, 0))
  box : Box11 wr (w.heap.size + 1 + 1) c0 c1 c2 c3 c4 c5 c6 c7 c8 c9 c10
  hbt : wr.heap[bt]? = some (.cells #[.slice (some ⟨bo, 0, none⟩) n n, .slice (some ⟨br, 0, none⟩) n n] 81 (0, 0))
  hof : wr.heap[bo]? = some (.cells (List.replicate n (Value.slice none 0 0)).toArray 29 (0, 0))
  hr : wr.heap[br]? = some (.cells (List.replicate n (Value.bool false)).toArray 4 (0, 0))
  nes : bo ≠ br ∧ bo ≠ bt ∧ br ≠ bt
  ges : w.heap.size + 3 ≤ bo ∧ w.heap.size + 3 ≤ br ∧ w.heap.size + 3 ≤ bt
  bl : Below w.heap.size w wr
section
variable {w w3 : World} {pb c0 c1 c2 c3 c4 c5 c6 c7 c8 c9 c10 : Value} {n : Nat}
theorem S0.go (w : World) (pb c0 c1 c2 c3 c4 c5 c6 c7 c8 c9 c10 : Value) : let w3 := ((w.alloc (.cells #[pb] 26)).alloc (.cells #[.slice none 0 0, .slice none 0 0] 81)).alloc (.cells #[c0, c1, c2, c3, c4, c5, c6, c7, c8, c9, c10] 34)
    w3.cell? ⟨w.heap.size, 0, none⟩ = some pb ∧ w3.heap[w.heap.size + 1]? = some (.cells #[.slice none 0 0, .slice none 0 0] 81 (0, 0)) ∧ Box11 w3 (w.heap.size + 1 + 1) c0 c1 c2 c3 c4 c5 c6 c7 c8 c9 c10 ∧ Below w.heap.size w w3 ∧ w3.heap.size = w.heap.size + 3 := by
  intro w3
  have s1 : (w.alloc (.cells #[pb] 26)).heap.size = w.heap.size + 1 := by simp
  have s2 : ((w.alloc (.cells #[pb] 26)).alloc (.cells #[.slice none 0 0, .slice none 0 0] 81)).heap.size = w.heap.size + 1 + 1 := by simp
  refine ⟨?_, ?_, ?_, (((Below.refl _ _).alloc (Nat.le_refl _) _).alloc (by omega) _).alloc (by omega) _, by simp [w3]⟩
  · have h := heap_new w (.cells #[pb] 26)
    exact cell_of (heap_old _ _ _ (by omega) |>.trans ((heap_old _ _ _ (by omega)).trans h)) 0
  · have h := heap_new (w.alloc (.cells #[pb] 26)) (.cells #[.slice none 0 0, .slice none 0 0] 81)
    rw [s1] at h
    exact (heap_old _ _ _ (by omega)).trans h
  · have h := Box11.new ((w.alloc (.cells #[pb] 26)).alloc (.cells #[.slice none 0 0, .slice none 0 0] 81)) 34 c0 c1 c2 c3 c4 c5 c6 c7 c8 c9 c10
    rw [s2] at h
    exact h
theorem S0.three (w3 : World) (A B C : Obj) (wa wb wc : World) (hwa : w3.alloc A = wa) (hwb : wa.alloc B = wb) (hwc : (wb.alloc C).drew = wc) (h1 : w3.cell? ⟨w.heap.size, 0, none⟩ = some pb) (h2 : w3.heap[w.heap.size + 1]? = some (.cells #[.slice none 0 0, .slice none 0 0] 81 (0, 0))) (h3 : Box11 w3 (w.heap.size + 1 + 1) c0 c1 c2 c3 c4 c5 c6 c7 c8 c9 c10) (h4 : Below w.heap.size w w3) (h5 : w3.heap.size = w.heap.size + 3) :
    wc.heap[w.heap.size + 1 + 1 + 1]? = some A ∧ wc.heap[w.heap.size + 1 + 1 + 1 + 1]? = some B ∧ wc.heap[w.heap.size + 1 + 1 + 1 + 1 + 1]? = some C ∧ wc.cell? ⟨w.heap.size, 0, none⟩ = some pb ∧ wc.heap[w.heap.size + 1]? = some (.cells #[.slice none 0 0, .slice none 0 0] 81 (0, 0)) ∧ Box11 wc (w.heap.size + 1 + 1) c0 c1 c2 c3 c4 c5 c6 c7 c8 c9 c10 ∧ Below w.heap.size w wc := by
  have e1 := heap_new w3 A
  rw [hwa] at e1
  have sa : wa.heap.size = w.heap.size + 4 := by rw [← hwa]; simp; omega
  have ba : Below (w.heap.size + 3) w3 wa := by rw [← hwa]; exact (Below.refl _ _).alloc (by omega) _
  have e2 := heap_new wa B
  rw [hwb] at e2
  have sb : wb.heap.size = w.heap.size + 5 := by rw [← hwb]; simp; omega
  have bb : Below (w.heap.size + 4) wa wb := by rw [← hwb]; exact (Below.refl _ _).alloc (by omega) _
  have e3 : wc.heap[wb.heap.size]? = some C := by rw [← hwc]; exact heap_new wb C
  have bc : Below (w.heap.size + 5) wb wc := by rw [← hwc]; exact (Below.alloc (Below.refl (w.heap.size + 5) wb) (by omega) C).drew
  rw [h5] at e1
  rw [sa] at e2
  rw [sb] at e3
  have b3 : Below (w.heap.size + 3) w3 wc := (ba.trans (bb.mono (by omega))).trans (bc.mono (by omega))
  have hl := h3.lt
  refine ⟨(bc.block _ (by omega)).trans ((bb.block _ (by omega)).trans e1), (bc.block _ (by omega)).trans e2, e3, (b3.cell (p := ⟨w.heap.size, 0, none⟩) (by show w.heap.size < _; omega)).trans h1, (b3.block _ (by omega)).trans h2, h3.bel' b3 (by omega), h4.trans (b3.mono (by omega))⟩
theorem S0.start {wr : World} {bo br bt : Nat} {T : Nat → List Int} (h : S0 w wr pb c0 c1 c2 c3 c4 c5 c6 c7 c8 c9 c10 bo br bt n) (hT : T 0 = []) (hn : 1 ≤ n) : SI w ((wr.setCell ⟨br, 0, none⟩ (.bool true)).alloc (.cells (List.replicate n (Value.bool false)).toArray 4)) pb c0 c1 c2 c3 c4 c5 c6 c7 c8 c9 c10 bo br wr.heap.size bt n T (List.replicate n (Value.slice none 0 0)) ((List.replicate n false).set 0 true) (List.replicate n false) := by
  have hg := h.ges
  have hn' := h.nes
  have l1 := heap_lt h.hbt
  have l2 := heap_lt h.hof
  have l3 := heap_lt h.hr
  have l4 := h.bl.size
  have l5 := heap_lt h.rb
  have hb0 : Below (w.heap.size + 3) wr (wr.setCell ⟨br, 0, none⟩ (.bool true)) := (Below.refl (w.heap.size + 3) wr).setCell (p := ⟨br, 0, none⟩) hg.2.1 _
  have hz : (wr.setCell ⟨br, 0, none⟩ (.bool true)).heap.size = wr.heap.size := by simp
  have hb1 : Below wr.heap.size (wr.setCell ⟨br, 0, none⟩ (.bool true)) ((wr.setCell ⟨br, 0, none⟩ (.bool true)).alloc (.cells (List.replicate n (Value.bool false)).toArray 4)) := (Below.refl _ _).alloc (by omega) _
  have hb : Below (w.heap.size + 3) wr ((wr.setCell ⟨br, 0, none⟩ (.bool true)).alloc (.cells (List.replicate n (Value.bool false)).toArray 4)) := hb0.trans (hb1.mono (by omega))
  have hr1 : (wr.setCell ⟨br, 0, none⟩ (.bool true)).heap[br]? = some (.cells (((List.replicate n false).set 0 true).map Value.bool).toArray 4 (0, 0)) := by
    rw [heap_set h.hr 0 (.bool true), List.setIfInBounds_toArray, List.map_set, List.map_replicate]
  refine ⟨(hb.cell (p := ⟨w.heap.size, 0, none⟩) (by show w.heap.size < _; omega)).trans h.pbx, (hb.block _ (by omega)).trans h.rb, h.box.bel' hb (by omega), (hb1.block bt l1).trans (rd_set (by show bt ≠ br; omega) h.hbt), (hb1.block bo l2).trans (rd_set (by show bo ≠ br; omega) h.hof), (hb1.block br l3).trans hr1, ?_, ⟨⟨hn'.1, by omega, hn'.2.1⟩, ⟨by omega, hn'.2.2⟩, by omega⟩, ⟨hg.1, hg.2.1, by omega, hg.2.2⟩, by simp, by simp, by simp, ?_, ?_, h.bl.trans (hb.mono (by omega))⟩
  · have := heap_new (wr.setCell ⟨br, 0, none⟩ (.bool true)) (.cells (List.replicate n (Value.bool false)).toArray 4)
    rw [hz] at this
    simpa using this
  · intro v hv k x e
    subst e
    simp at hv
  · intro i v h1 h2
    have hi : i = 0 := by
      by_cases e : 0 = i
      · exact e.symm
      · rw [List.getElem?_set, if_neg e, List.getElem?_replicate] at h1
        split at h1 <;> cases h1
    subst hi
    rw [List.getElem?_replicate, if_pos (by omega)] at h2
    obtain rfl := Option.some.inj h2
    rw [hT]
    exact IV.nil _ _ _ (Nat.zero_le _)
end
end Go.Proofs.Ythaniobijkdnoaa
