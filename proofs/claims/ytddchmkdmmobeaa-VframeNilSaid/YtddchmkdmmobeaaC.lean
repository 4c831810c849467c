/- Count, Top and Close: what they return and leave, of a nil row, an empty one, and one with frames. Condition: at most 1000 frames. -/
import Derived.Test.YtddchmkdmmobeaaB
namespace Go.Proofs.Ytddchmkdmmobeaa
open Go.RowKit

def L4.val (x : L4) : Value := .agg #[.int .i64 x.a, .int .i64 x.b, .int .i64 x.c, .int .i64 x.d]
def zero4 : L4 := ⟨0, 0, 0, 0⟩

theorem count_nil (w : World) : Calls Try.prog 11 #[.pointer none] w fun e w' => e = .returned (.int .i64 0) ∧ w = w' := by
  go_enter Try.func11, Try.ntmps11
  go_wp2
  go_ret
  exact ⟨rfl, rfl⟩

theorem count_some (b : Nat) (a : Option Addr) (n cap : Nat) (w : World) (h : w.cell? ⟨b, 0, none⟩ = some (.slice a n cap)) :
    Calls Try.prog 11 #[.pointer (some ⟨b, 0, none⟩)] w fun e w' => e = .returned (.int .i64 n) ∧ w = w' := by
  go_enter Try.func11, Try.ntmps11
  go_wp2
  go_ret
  exact ⟨rfl, rfl⟩

theorem top_nil (w : World) : Calls Try.prog 9 #[.pointer none] w fun e w' => e = .returned (.tuple #[.agg #[.int .i64 0, .int .i64 0, .int .i64 0, .int .i64 0], .bool false]) ∧ Below w.heap.size w w' := by
  go_enter Try.func9, Try.ntmps9
  go_wp2
  refine bodyPost_ret (v := .tuple #[.agg #[.int .i64 0, .int .i64 0, .int .i64 0, .int .i64 0], .bool false]) (by simp [results, Try.results9, go_sem]) rfl ⟨rfl, ?_⟩
  repeat (first | exact Below.refl _ _ | apply Below.drew | refine Below.setCell ?_ (by simp) _ | refine Below.alloc ?_ (by simp) _)

theorem top_none (b : Nat) (a : Option Addr) (cap : Nat) (w : World) (hb : b < w.heap.size) (h : w.cell? ⟨b, 0, none⟩ = some (.slice a 0 cap)) :
   Calls Try.prog 9 #[.pointer (some ⟨b, 0, none⟩)] w fun e w' => e = .returned (.tuple #[.agg #[.int .i64 0, .int .i64 0, .int .i64 0, .int .i64 0], .bool false]) ∧ Below w.heap.size w w' := by
  go_enter Try.func9, Try.ntmps9
  go_wp2
  refine bodyPost_ret (v := .tuple #[.agg #[.int .i64 0, .int .i64 0, .int .i64 0, .int .i64 0], .bool false]) (by simp [results, Try.results9, go_sem]) rfl ⟨rfl, ?_⟩
  repeat (first | exact Below.refl _ _ | apply Below.drew | refine Below.setCell ?_ (by simp) _ | refine Below.alloc ?_ (by simp) _)

theorem top_some (b g n cap : Nat) (x : L4) (w : World) (hn2 : n ≤ 1000) (hb : b < w.heap.size) (hg : g < w.heap.size) (h : w.cell? ⟨b, 0, none⟩ = some (.slice (some ⟨g, 0, none⟩) (n + 1) cap))
   (hx : At w g n x) : 
   Calls Try.prog 9 #[.pointer (some ⟨b, 0, none⟩)] w fun e w' => e = .returned (.tuple #[x.val, .bool true]) ∧ Below w.heap.size w w' := by
  obtain ⟨h0, h1, h2, h3⟩ := hx
  have hq : (((n : Int) + 1) == 0) = false := by simp; omega
  go_enter Try.func9, Try.ntmps9
  go_wp2
  refine bodyPost_ret (v := .tuple #[x.val, .bool true]) (by simp [results, Try.results9, go_sem, L4.val]) rfl ⟨rfl, ?_⟩
  repeat (first | exact Below.refl _ _ | apply Below.drew | refine Below.setCell ?_ (by simp) _ | refine Below.alloc ?_ (by simp) _)

theorem close_nil (w : World) : Calls Try.prog 6 #[.pointer none] w fun e w' => e = .returned (.tuple #[.agg #[.int .i64 0, .int .i64 0, .int .i64 0, .int .i64 0], .bool false]) ∧ Below w.heap.size w w' := by
  go_enter Try.func6, Try.ntmps6
  go_wp2_with (go_at_call 9; refine (top_nil _).mono ?_; rintro e w1 ⟨rfl, hbel⟩; obtain ⟨hc, hf⟩ := bcell hbel; have hz : w.heap.size < w1.heap.size := (by have := hbel.size; simp at this; omega); have HB := Lib.hid hbel; clear hbel)
  refine bodyPost_ret (v := .tuple #[.agg #[.int .i64 0, .int .i64 0, .int .i64 0, .int .i64 0], .bool false]) (by simp [results, Try.results6, go_sem, hc, hz]) rfl ⟨rfl, ?_⟩
  repeat (first | exact Below.refl _ _ | apply Below.drew | refine Below.setCell ?_ (by simp <;> omega) _ | refine Below.alloc ?_ (by simp <;> omega) _ | refine Below.trans ?_ (HB.out.mono (by simp)))

theorem close_none (b : Nat) (a : Option Addr) (cap : Nat) (w : World) (hb : b < w.heap.size) (h : w.cell? ⟨b, 0, none⟩ = some (.slice a 0 cap)) :
   Calls Try.prog 6 #[.pointer (some ⟨b, 0, none⟩)] w fun e w' => e = .returned (.tuple #[.agg #[.int .i64 0, .int .i64 0, .int .i64 0, .int .i64 0], .bool false]) ∧ Below w.heap.size w w' := by
  go_enter Try.func6, Try.ntmps6
  go_wp2_with (go_at_call 9; refine (top_none b a cap _ (by simp; omega) (by go_simp)).mono ?_; rintro e w1 ⟨rfl, hbel⟩; obtain ⟨hc, hf⟩ := bcell hbel; have hz : w.heap.size < w1.heap.size := (by have := hbel.size; simp at this; omega); have HB := Lib.hid hbel; clear hbel)
  refine bodyPost_ret (v := .tuple #[.agg #[.int .i64 0, .int .i64 0, .int .i64 0, .int .i64 0], .bool false]) (by simp [results, Try.results6, go_sem, hc, hz]) rfl ⟨rfl, ?_⟩
  repeat (first | exact Below.refl _ _ | apply Below.drew | refine Below.setCell ?_ (by simp <;> omega) _ | refine Below.alloc ?_ (by simp <;> omega) _ | refine Below.trans ?_ (HB.out.mono (by simp)))

def ClosePost (w w' : World) (b g n cap : Nat) (last : Int) : Prop :=
  w'.heap[b]? = some (.cells #[.slice (some ⟨g, 0, none⟩) n cap, .int .i64 last] 26 (0, 0)) ∧ Chg (fun k => k = b) w w'

theorem close_some (b g n cap : Nat) (last : Int) (x : L4) (w : World) (hn2 : n ≤ 1000) (hnc : n < cap) (hg : g < w.heap.size) (hR : w.heap[b]? = some (.cells #[.slice (some ⟨g, 0, none⟩) (n + 1) cap, .int .i64 last] 26 (0, 0)))
   (hx : At w g n x) : 
   Calls Try.prog 6 #[.pointer (some ⟨b, 0, none⟩)] w fun e w' => e = .returned (.tuple #[x.val, .bool true]) ∧ ClosePost w w' b g n cap last := by
  have hb := heap_lt hR
  have h : w.cell? ⟨b, 0, none⟩ = some (.slice (some ⟨g, 0, none⟩) (n + 1) cap) := cell_of hR 0
  have hfr : w.frozen? ⟨b, 0, none⟩ = false := frozen_of hR 0
  have HR := Lib.hid hR
  clear hR
  have hx' : At (w.alloc (.cells #[.int .i64 0, .int .i64 0, .int .i64 0, .int .i64 0] 31)) g n x := ⟨(World.cell?_alloc_past _ _ _ hg).trans hx.a, (World.cell?_alloc_past _ _ _ hg).trans hx.b, (World.cell?_alloc_past _ _ _ hg).trans hx.c, (World.cell?_alloc_past _ _ _ hg).trans hx.d⟩
  go_enter Try.func6, Try.ntmps6
  go_wp2_with (go_at_call 9; refine (top_some b g n cap x _ hn2 (by simp; omega) (by simp; omega) (by go_simp) hx').mono ?_; rintro e w1 ⟨rfl, hbel⟩; obtain ⟨hc, hf⟩ := bcell hbel; have hz : w.heap.size < w1.heap.size := (by have := hbel.size; simp at this; omega); have hz1 : b < w1.heap.size := (by omega);  have HB := Lib.hid hbel; clear hbel; simp only [L4.val])
  go_region
  all_goals go_wp2
  all_goals (refine bodyPost_ret (v := .tuple #[x.val, .bool true]) (by simp [results, Try.results6, go_sem, hc, hz, L4.val]) rfl ⟨rfl, ?_, ?_⟩)
  · repeat (first | with_reducible refine rd_drew ?_ | (with_reducible refine rd_alloc ?_ ?_; · (first | omega | (simp; done) | (simp; omega))) | (with_reducible refine rd_set ?_ ?_; · (first | omega | (simp; done) | (simp; omega))) | (with_reducible refine rd_bel HB.out ?_ ?_; · (first | omega | (simp; done) | (simp; omega))))
    exact (heap_set (rd_bel HB.out (by simp; omega) (rd_alloc hb HR.out)) 0 _).trans (by simp)
  · repeat (first | with_reducible exact Chg.refl _ _ | with_reducible refine Chg.drew ?_ | (with_reducible refine Chg.set' ?_ ?_; · (first | omega | (simp; done) | (simp; omega))) | with_reducible refine Chg.alloc' ?_ | with_reducible refine Chg.bel' HB.out ?_)

end Go.Proofs.Ytddchmkdmmobeaa
