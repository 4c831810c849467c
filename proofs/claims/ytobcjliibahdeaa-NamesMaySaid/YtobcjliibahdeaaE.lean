/- The digits of a number below 100, of the program and of the reference. Condition: the number is below 100. -/
import Derived.Test.YtobcjliibahdeaaD
namespace Go.Proofs.Ytobcjliibahdeaa
open Go.RowKit Go.Maps

theorem Try.info5 : (Try.prog.info? 5).map (fun i => (i.zero, i.size, i.bytes)) = some (some (.int .u8 0), 1, 1) := by kernel_rfl

def dgs (n : Nat) : ByteArray := if n < 10 then strOfNums [48 + (n : Int)] else strOfNums [48 + (n : Int) / 10, 48 + (n : Int) % 10]

theorem one_cell (w : World) (x : Int) : ∀ i, i < 1 → (w.alloc (.cells #[.int .u8 x] 5)).cell? ⟨w.heap.size, 0 + i, none⟩ = some (.int .u8 ([x].getD i 0)) := fun i hi => by
  obtain rfl : i = 0 := by omega
  exact cell_of (heap_new _ _) 0
theorem rdigits_one (n : Nat) (w : World) (h : n < 10) : Calls Try.prog 20 #[.int .i64 n] w fun e w' => e = .returned (.string (strOfNums [48 + (n : Int)])) ∧ Below w.heap.size w w' := by
  have hconv := run_convert_bytes_arg (P := Try.prog) (w.alloc (.cells #[.int .u8 (48 + (n : Int))] 5)) 33 5 Try.underlying33 Try.underlying5 w.heap.size 0 1 1 [48 + (n : Int)] rfl (one_cell _ _) 9 Try.underlying9
  go_enter Try.func20, Try.ntmps20
  go_wp2
  go_ret
  exact ⟨rfl, (Below.refl _ _).alloc (Nat.le_refl _) _⟩

def DigPost (n : Nat) (w : World) (e : Ending) (w' : World) : Prop := e = .returned (.string (dgs n)) ∧ Below w.heap.size w w'
theorem str2 (a b : Int) : strOfNums [a] ++ strOfNums [b] = strOfNums [a, b] := by
  apply Go.WideShapes.bytes_inj
  simp [strOfNums]
theorem str1_size (a : Int) : (strOfNums [a]).size = 1 := strOfNums_size _
theorem rdigits_any (n : Nat) (w : World) (h : n < 100) : Calls Try.prog 20 #[.int .i64 n] w (DigPost n w) := by
  by_cases h1 : n < 10
  · exact (rdigits_one n w h1).mono fun e w' ⟨he, hb⟩ => ⟨by rw [he, dgs, if_pos h1], hb⟩
  · have ha := fun W => rdigits_one (n / 10) W (by omega)
    have hb := fun W => rdigits_one (n % 10) W (by omega)
    have s1 := str1_size (48 + ((n / 10 : Nat) : Int))
    have s2 := str1_size (48 + ((n % 10 : Nat) : Int))
    have HA := Lib.hid ha
    have HB := Lib.hid hb
    clear ha hb
    obtain ⟨x, hx⟩ : ∃ x, x = strOfNums [48 + ((n / 10 : Nat) : Int)] := ⟨_, rfl⟩
    obtain ⟨y, hy⟩ : ∃ y, y = strOfNums [48 + ((n % 10 : Nat) : Int)] := ⟨_, rfl⟩
    rw [← hx] at s1
    rw [← hy] at s2
    have HX := Lib.hid hx
    have HY := Lib.hid hy
    clear hx hy
    have HS1 := Lib.hid s1
    have HS2 := Lib.hid s2
    have hadd : ∀ W, (Op.stringOp .add x y).run Try.prog W = .ok (.string (x ++ y)) W := fun W => run_string_add_sum W x y (by rw [HS1.out, HS2.out]; decide)
    clear s1 s2
    go_enter Try.func20, Try.ntmps20
    go_wp2_with fail
    refine (HA.out _).mono ?_
    rintro e w1 ⟨he1, hb1⟩
    rw [← HX.out] at he1
    subst he1
    have HB1 := Lib.hid hb1
    clear hb1
    go_wp2_with fail
    refine (HB.out _).mono ?_
    rintro e w2 ⟨he1, hb1⟩
    rw [← HY.out] at he1
    subst he1
    have HB2 := Lib.hid hb1
    clear hb1
    go_wp2
    go_ret
    refine ⟨?_, HB1.out.trans (HB2.out.mono HB1.out.size)⟩
    rw [dgs, if_neg h1, ← str2, HX.out, HY.out]
    rfl

theorem rev_one (g cap : Nat) (w : World) : Calls Try.prog 21 #[.slice (some ⟨g, 0, none⟩) 1 cap] w fun e w' => e = .returned (.tuple #[]) ∧ w = w' := by
  go_enter Try.func21, Try.ntmps21
  go_wp2
  refine wp_loop_rounds 1 ?_
  rw [rounds_succ]
  go_wp2
  go_end0
  exact ⟨rfl, rfl⟩

theorem digits_one (n : Nat) (w : World) (h : n < 10) : Calls Try.prog 19 #[.int .i64 n] w fun e w' => e = .returned (.string (strOfNums [48 + (n : Int)])) ∧ Below w.heap.size w w' := by
  have hz : (n : Int) / 10 = 0 := by omega
  have hm : (n : Int) % 10 = n := by omega
  have hconv := run_convert_bytes_arg (P := Try.prog) (w.alloc (.cells #[.int .u8 (48 + (n : Int))] 5)) 33 5 Try.underlying33 Try.underlying5 w.heap.size 0 1 1 [48 + (n : Int)] rfl (one_cell _ _) 9 Try.underlying9
  go_enter Try.func19, Try.ntmps19
  go_wp2
  refine wp_loop_rounds 1 ?_
  rw [rounds_succ]
  go_wp2_with (go_at_call 21; refine (rev_one _ _ _).mono ?_; rintro e w1 ⟨rfl, rfl⟩)
  go_ret
  exact ⟨rfl, (Below.refl _ _).alloc (Nat.le_refl _) _⟩

theorem rev_two (g cap : Nat) (a b : Int) (w : World) (h0 : w.cell? ⟨g, 0, none⟩ = some (.int .u8 a)) (h1 : w.cell? ⟨g, 1, none⟩ = some (.int .u8 b)) (f0 : w.frozen? ⟨g, 0, none⟩ = false)
    (f1 : w.frozen? ⟨g, 1, none⟩ = false) : Calls Try.prog 21 #[.slice (some ⟨g, 0, none⟩) 2 cap] w fun e w' => e = .returned (.tuple #[]) ∧ w' = ((w.setCell ⟨g, 0, none⟩ (.int .u8 b)).setCell ⟨g, 1, none⟩ (.int .u8 a)).drew := by
  go_enter Try.func21, Try.ntmps21
  go_wp2
  refine wp_loop_rounds 2 ?_
  rw [rounds_succ]
  go_wp2_with fail
  go_region
  go_wp2
  rw [rounds_succ]
  go_wp2
  go_end0
  exact ⟨rfl, rfl⟩

theorem digits_two (n : Nat) (w : World) (h1 : 10 ≤ n) (h2 : n < 100) : Calls Try.prog 19 #[.int .i64 n] w fun e w' => e = .returned (.string (strOfNums [48 + (n : Int) / 10, 48 + (n : Int) % 10])) ∧ Below w.heap.size w w' := by
  obtain ⟨i0, hi, hz0, hz1, hz2⟩ := info_parts Try.info5
  obtain ⟨q, hq⟩ : ∃ q : Int, q = (n : Int) / 10 := ⟨_, rfl⟩
  obtain ⟨r, hr⟩ : ∃ r : Int, r = (n : Int) % 10 := ⟨_, rfl⟩
  have q1 : 1 ≤ q := by omega
  have q9 : q ≤ 9 := by omega
  have r0 : 0 ≤ r := by omega
  have r9 : r ≤ 9 := by omega
  have hqz : q / 10 = 0 := by omega
  have hqm : q % 10 = q := by omega
  have hown : (w.alloc (.cells #[.int .u8 (48 + r)] 5)).ownsRow w.heap.size 5 1 (.slice (some ⟨w.heap.size, 0, none⟩) 1 1) 1 [.int .u8 (48 + r)] :=
    ⟨rfl, .inr ⟨w.heap.size, 1, _, rfl, Nat.le_refl _, heap_new _ _, Nat.le_refl _, by decide, rfl, rfl⟩⟩
  have HOWN := Lib.hid hown
  have HQ : Hid ((n : Int) / 10 = q) := hq.symm
  clear hown
  rw [← hq, ← hr]
  have hq' := hq.symm
  have hr' := hr.symm
  clear hq hr
  go_enter Try.func19, Try.ntmps19
  go_wp2
  refine wp_loop_rounds 2 ?_
  rw [rounds_succ]
  go_wp2_with (at_builtin; refine wpList_append_own _ rfl _ _ 33 rfl w.heap.size 5 i0 (.int .u8 0) 1 1 Try.underlying33 hi hz0 hz1 hz2 rfl (by decide) _ _ _ rfl (HOWN.out.alloc _) ⟨w.heap.size + 1, 0, none⟩ 1 1 [.int .u8 (48 + q)] rfl rfl (by intro j u hj; match j, hj with | 0, hj => simp at hj; subst hj; simp [Addr.add, go_sem]) (by simp [Value.oneCell']) (by decide) (by decide) (by simp; omega) ?_)
  intro v' w1 hown1 hgrow1 _
  obtain ⟨g, cap, rfl, hg, hgl⟩ := World.ownsRow.form hown1 (by decide)
  have hcl := World.ownsRow.cells hown1 (g := g) rfl
  have c0 : w1.cell? ⟨g, 0, none⟩ = some (.int .u8 (48 + r)) := hcl 0 _ rfl
  have c1 : w1.cell? ⟨g, 1, none⟩ = some (.int .u8 (48 + q)) := hcl 1 _ rfl
  have fr : ∀ o, w1.frozen? ⟨g, o, none⟩ = false := by
    rcases hown1.2 with ⟨h, _⟩ | ⟨g', cap', cur, h, _, hb, _⟩
    · cases h
    · have e : g = g' := by injection h with h; injection h with h; injection h
      subst e
      exact fun o => frozen_of hb o
  have f0 := fr 0
  have f1 := fr 1
  have HBL : Hid (Below w.heap.size w w1) := Below.grown (((Below.refl _ _).alloc (Nat.le_refl _) _).alloc (by simp) _) hgrow1 (by simp; omega) (fun k hk => by simp [Value.ownBlock] at hk; omega)
  have HR := Lib.hid (rev_two g cap (48 + r) (48 + q) w1 c0 c1 f0 f1)
  clear hown1 hgrow1 hcl fr
  go_wp2
  rw [rounds_succ]
  go_wp2_with fail
  refine HR.out.mono ?_
  rintro e wz ⟨rfl, hw⟩
  have d0 : wz.cell? ⟨g, 0, none⟩ = some (.int .u8 (48 + q)) := by
    rw [hw, World.cell?_drew, World.cell?_setCell_other _ _ _ _ (by simp), World.cell?_setCell_same _ _ _ c0]
  have d1 : wz.cell? ⟨g, 1, none⟩ = some (.int .u8 (48 + r)) := by
    rw [hw, World.cell?_drew]
    exact World.cell?_setCell_same _ _ _ ((World.cell?_setCell_other _ _ _ _ (by simp)).trans c1)
  have HBZ : Hid (Below w.heap.size w wz) := by rw [hw]; exact Below.drew (Below.setCell (Below.setCell HBL.out hg _) hg _)
  have hconv := run_convert_bytes_arg (P := Try.prog) wz 33 5 Try.underlying33 Try.underlying5 g 0 2 cap [48 + q, 48 + r] rfl (fun i hi => by
    rcases (show i = 0 ∨ i = 1 by omega) with rfl | rfl
    · exact d0
    · exact d1) 9 Try.underlying9
  clear hw c0 c1 f0 f1
  go_wp2
  go_ret
  exact ⟨rfl, HBZ.out⟩

theorem digits_any (n : Nat) (w : World) (h : n < 100) : Calls Try.prog 19 #[.int .i64 n] w (DigPost n w) := by
  by_cases h1 : n < 10
  · exact (digits_one n w h1).mono fun e w' ⟨he, hb⟩ => ⟨by rw [he, dgs, if_pos h1], hb⟩
  · exact (digits_two n w (by omega) h).mono fun e w' ⟨he, hb⟩ => ⟨by rw [he, dgs, if_neg h1], hb⟩
end Go.Proofs.Ytobcjliibahdeaa
