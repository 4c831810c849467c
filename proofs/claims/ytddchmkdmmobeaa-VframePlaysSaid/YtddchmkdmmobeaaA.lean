/- Open opens one more frame: what it returns and what the row then holds. Condition: at most 100 frames so far. -/
import Derived.Test.YtddchmkdmmobeaaRows
import Derived.Test.YtddchmkdmmobeaaGen
namespace Go.Proofs.Ytddchmkdmmobeaa
open Go.RowKit

theorem Try.info31 : (Try.prog.info? 31).map (fun i => (i.zero, i.size, i.bytes)) = some (some (.agg #[.int .i64 0, .int .i64 0, .int .i64 0, .int .i64 0]), 4, 32) := by kernel_rfl

/-- a logical frame -/
structure L4 where
  a : Int
  b : Int
  c : Int
  d : Int
def L4.cells (x : L4) : List Value := [.int .i64 x.a, .int .i64 x.b, .int .i64 x.c, .int .i64 x.d]
def flat (l : List L4) : List Value := l.flatMap L4.cells

def RowAt (w : World) (B b : Nat) (v : Value) (ls : List L4) (last : Nat) : Prop :=
  w.heap[b]? = some (.cells #[v, .int .i64 last] 26 (0,0)) ∧ w.ownsRow B 31 4 v ls.length (flat ls) ∧ v.ownBlock ≠ some b ∧ B ≤ b

theorem flat_snoc (l : List L4) (x : L4) : flat (l ++ [x]) = flat l ++ x.cells := by simp [flat]

def OpenPost (w w' : World) (B b : Nat) (v : Value) (ls : List L4) (last : Nat) (x y z : Int) : Prop :=
  ∃ g cap, RowAt w' B b (.slice (some ⟨g, 0, none⟩) (ls.length + 1) cap) (ls ++ [⟨last + 1, x, y, z⟩]) (last + 1) ∧ (v.ownBlock = some g ∨ w.heap.size ≤ g) ∧ Chg (fun k => k = b ∨ v.ownBlock = some k) w w'

theorem news4 {w : World} {H : Nat} (c : List Value) (t : TypeId) (h : H = w.heap.size) : ∀ j u, c[j]? = some u → ((w.alloc (.cells c.toArray t)).drew).cell? ((⟨H, 0, none⟩ : Addr).add j) = some u := fun j u hu => by
  subst h
  have hadd : (⟨w.heap.size, 0, none⟩ : Addr).add j = ⟨w.heap.size, j, none⟩ := by unfold Addr.add; split <;> simp_all
  rw [hadd, World.cell?_drew, cell_of (heap_new w _)]
  simpa using hu

theorem open_end {w w1 : World} {B b : Nat} {v : Value} {ls : List L4} {last : Nat} {x y z : Int} {g cap : Nat} {o : Obj} (hb : b < w.heap.size) (hvb : v.ownBlock ≠ some b) (hBb : B ≤ b) (_hown : w.ownsRow B 31 4 v ls.length (flat ls))
    (hb2 : w1.heap[b]? = some (.cells #[v, .int .i64 (last + 1)] 26 (0, 0)))
    (ho : w1.ownsRow B 31 4 (.slice (some ⟨g, 0, none⟩) (ls.length + 1) cap) (ls.length + 1) (flat ls ++ [.int .i64 (last + 1), .int .i64 x, .int .i64 y, .int .i64 z]))
    (hg : (((w.setCell ⟨b, 1, none⟩ (.int .i64 (last + 1))).alloc o).drew).grownBy w1 v.ownBlock)
    (ha : v.ownBlock = some g ∨ g = (((w.setCell ⟨b, 1, none⟩ (.int .i64 (last + 1))).alloc o).drew).heap.size) :
    OpenPost w (w1.setCell ⟨b, 0, none⟩ (.slice (some ⟨g, 0, none⟩) (ls.length + 1) cap)) B b v ls last x y z := by
  have hgb : g ≠ b := by
    rintro rfl
    rcases ha with h | h
    · exact hvb h
    · simp at h; omega
  refine ⟨g, cap, ⟨?_, ?_, ?_, hBb⟩, ?_, ?_⟩
  · rw [heap_set hb2]; simp
  · have := owns_of_block (w' := w1.setCell ⟨b, 0, none⟩ (.slice (some ⟨g, 0, none⟩) (ls.length + 1) cap)) ho (fun k hk => Below.heap_setCell _ _ _ _ (fun e => by simp [Value.ownBlock] at hk; exact hgb (hk.trans e)))
    rw [flat_snoc]
    simpa [L4.cells] using this
  · simpa [Value.ownBlock] using hgb
  · rcases ha with h | h
    · exact .inl h
    · right; simp at h; omega
  · refine Chg.setCell (Chg.grown ((((Chg.refl _ w).setCell ?_ _).alloc _).drew) hg ?_) ?_ _
    · simp
    · exact fun k hk => .inl (.inr hk)
    · simp

set_option maxHeartbeats 1000000 in
theorem open_any (w : World) (B b : Nat) (v : Value) (ls : List L4) (last : Nat) (x y z : Int) (hR : RowAt w B b v ls last) (h1 : last ≤ 100) (h2 : ls.length ≤ 100) :
    Calls Try.prog 5 #[.pointer (some ⟨b, 0, none⟩), .int .i64 x, .int .i64 y, .int .i64 z] w fun e w' => e = .returned (.int .i64 (last + 1)) ∧ OpenPost w w' B b v ls last x y z := by
  obtain ⟨i0, hi, hz0, hz1, hz2⟩ := info_parts Try.info31
  obtain ⟨hb, hown, hvb, hBb⟩ := hR
  have hlt := heap_lt hb
  have c0 : w.cell? ⟨b, 0, none⟩ = some v := cell_of hb 0
  have c1 : w.cell? ⟨b, 1, none⟩ = some (.int .i64 last) := cell_of hb 1
  have f0 : w.frozen? ⟨b, 0, none⟩ = false := frozen_of hb 0
  have f1 : w.frozen? ⟨b, 1, none⟩ = false := frozen_of hb 1
  have own1 : (((w.setCell ⟨b, 1, none⟩ (.int .i64 (last + 1))).alloc (.cells #[.int .i64 (last + 1), .int .i64 x, .int .i64 y, .int .i64 z] 31)).drew).ownsRow B 31 4 v ls.length (flat ls) :=
    owns_of_block hown fun k hk => by
      have h3 := (hown.lt k hk).2
      rw [heap_drew, heap_old _ _ _ (by simpa using h3)]
      exact Below.heap_setCell _ _ _ _ (fun e => hvb (by rw [hk, e]))
  have O1 := Lib.hid own1
  clear own1
  have hlts : b < (w.setCell ⟨b, 1, none⟩ (.int .i64 (last + 1))).heap.size := by simpa using hlt
  have hb1 : (((w.setCell ⟨b, 1, none⟩ (.int .i64 (last + 1))).alloc (.cells #[.int .i64 (last + 1), .int .i64 x, .int .i64 y, .int .i64 z] 31)).drew).heap[b]? = some (.cells #[v, .int .i64 (last + 1)] 26 (0, 0)) := by
    rw [heap_drew, heap_old _ _ _ hlts, heap_set hb]; rfl
  have HB := Lib.hid hb1
  clear hb1 hb
  have hbound : (ls.length + 1) * 32 ≤ 140737488355328 := by omega
  have hmax : ls.length + 1 ≤ maxLen := by unfold maxLen; omega
  have hbase : B ≤ w.heap.size + 1 := by omega
  go_enter Try.func5, Try.ntmps5
  go_wp2
  go_region_law ((refine step_append_lies _ rfl (.tmp 22) (.tmp 31) 24 rfl B 31 i0 (.agg #[.int .i64 0, .int .i64 0, .int .i64 0, .int .i64 0]) 4 32 Try.underlying24 hi hz0 hz1 hz2 rfl (by decide) v ls.length (flat ls) (by simp [Act.eval]) (by exact O1.out) ⟨w.heap.size, 0, none⟩ 1 1 [.int .i64 (last + 1), .int .i64 x, .int .i64 y, .int .i64 z] (by simp [Act.eval]) rfl (by exact news4 _ _ (by simp)) (by simp [Value.oneCell']) (by decide) hmax hbound (by simpa using hbase) _ rfl ?_; intro g cap w1 hown1 hgrow1 hat1 hlt1; have hb2 := hgrow1.block b (by simp; omega) (fun e => hvb e.symm); have c0' := cell_of (hb2.trans HB.out) 0; have c1' := cell_of (hb2.trans HB.out) 1; have f0' := frozen_of (hb2.trans HB.out) 0; simp only [List.getElem?_toArray, List.getElem?_cons_zero, List.getElem?_cons_succ] at c0' c1'; have HB2 := Lib.hid (hb2.trans HB.out); have HO := Lib.hid hown1; have HG := Lib.hid hgrow1; have HA := Lib.hid hat1; clear hb2 hown1 hgrow1 hat1))
  all_goals go_wp2
  all_goals go_ret
  all_goals exact ⟨rfl, open_end hlt hvb hBb hown HB2.out HO.out HG.out HA.out⟩
end Go.Proofs.Ytddchmkdmmobeaa
