/- lives, and what LimitsNil does, walked: they answer true. Condition: the limits are numbers of 64 bits. -/
import Derived.Test.YtgdjponooengaaaA
namespace Go.Proofs.Ytgdjponooengaaa
open Go.RowKit

theorem MeterAt.bel {w w' : World} {M C : Nat} {u0 u1 u2 u3 m0 m1 m2 m3 : Int} (h : MeterAt w M C u0 u1 u2 u3 m0 m1 m2 m3) (hb : Below w.heap.size w w') : MeterAt w' M C u0 u1 u2 u3 m0 m1 m2 m3 :=
  ⟨(hb.block M (heap_lt h.p)).trans h.p, (hb.block C (heap_lt h.c)).trans h.c, h.ne⟩

set_option maxRecDepth 1000000 in
set_option maxHeartbeats 1000000 in
theorem lives_any (w : World) : Calls Try.prog 19 #[] w fun e w' => e = .returned (.bool true) ∧ Below w.heap.size w w' := by
  have H5 := Lib.hid (new_any w 1 0 0 0)
  go_enter Try.func19, Try.ntmps19
  go_wp2_with fail
  refine H5.out.mono ?_
  rintro e w1 ⟨M, C, rfl, hA, hM, hC, hb1⟩
  have H6 := Lib.hid (step_any w1 M C _ _ _ _ _ _ _ _ hA (by decide) (by decide))
  have HB1 := Lib.hid hb1
  clear hb1 hA
  go_wp2_with fail
  refine H6.out.mono ?_
  rintro e w2 ⟨rfl, hA2, hc2⟩
  have H7 := Lib.hid (step_any w2 M C _ _ _ _ _ _ _ _ hA2 (by decide) (by decide))
  have HC2 := Lib.hid hc2
  clear hc2 hA2
  go_wp2_with fail
  refine H7.out.mono ?_
  rintro e w3 ⟨rfl, hA3, hc3⟩
  have H8 := Lib.hid (used_any w3 M C _ _ _ _ _ _ _ _ hA3)
  have HC3 := Lib.hid hc3
  clear hc3 hA3
  have e1 : moreE 0 1 3 = 0 := by decide
  have e2 : moreE (moreN 0 1) 1 3 = 3 := by decide
  have e3 : moreN (moreN 0 1) 1 = 1 := by decide
  simp only [e1, e2]
  rw [e3] at H8
  clear e1 e2 e3
  go_wp2_with (go_at_call 18; refine H8.out.mono ?_; rintro e w4 ⟨rfl, hb4⟩; have HB4 := Lib.hid hb4; clear hb4)
  go_ret
  refine ⟨rfl, below_of_chg0 ?_⟩
  exact Chg.bel' HB4.out (Chg.chg' HC3.out (fun i _ h => .inr (by omega)) (Chg.chg' HC2.out (fun i _ h => .inr (by omega)) (Chg.bel' HB1.out (Chg.refl _ _))))

theorem step_nil (w : World) : Calls Try.prog 6 #[.pointer none] w fun e w' => e = .returned (.int .i64 0) ∧ w = w' := by
  go_enter Try.func6, Try.ntmps6
  go_wp2_with (go_at_call 20; refine (is_nil _).mono ?_; rintro e w1 ⟨rfl, rfl⟩)
  go_ret
  exact ⟨rfl, rfl⟩
theorem hold_nil (w : World) : Calls Try.prog 12 #[.pointer none] w fun e w' => e = .returned (.int .i64 0) ∧ w = w' := by
  go_enter Try.func12, Try.ntmps12
  go_wp2_with (go_at_call 20; refine (is_nil _).mono ?_; rintro e w1 ⟨rfl, rfl⟩)
  go_ret
  exact ⟨rfl, rfl⟩
theorem leave_nil (w : World) : Calls Try.prog 10 #[.pointer none] w fun e w' => e = .returned (.tuple #[]) ∧ w = w' := by
  go_enter Try.func10, Try.ntmps10
  go_wp2_with (go_at_call 20; refine (is_nil _).mono ?_; rintro e w1 ⟨rfl, rfl⟩)
  go_end0
  exact ⟨rfl, rfl⟩
theorem free_bare (w : World) (M : Nat) (h : w.cell? ⟨M, 0, none⟩ = some (.pointer none)) : Calls Try.prog 14 #[.pointer (some ⟨M, 0, none⟩)] w fun e w' => e = .returned (.tuple #[]) ∧ w = w' := by
  go_enter Try.func14, Try.ntmps14
  go_wp2_with (go_at_call 20; refine (is_bare _ M h).mono ?_; rintro e w1 ⟨rfl, rfl⟩)
  go_end0
  exact ⟨rfl, rfl⟩
theorem enter_bare (w : World) (M : Nat) (h : w.cell? ⟨M, 0, none⟩ = some (.pointer none)) : Calls Try.prog 8 #[.pointer (some ⟨M, 0, none⟩)] w fun e w' => e = .returned (.int .i64 0) ∧ w = w' := by
  go_enter Try.func8, Try.ntmps8
  go_wp2_with (go_at_call 20; refine (is_bare _ M h).mono ?_; rintro e w1 ⟨rfl, rfl⟩)
  go_ret
  exact ⟨rfl, rfl⟩
theorem tell_bare (w : World) (M : Nat) (h : w.cell? ⟨M, 0, none⟩ = some (.pointer none)) : Calls Try.prog 16 #[.pointer (some ⟨M, 0, none⟩)] w fun e w' => e = .returned (.int .i64 0) ∧ w = w' := by
  go_enter Try.func16, Try.ntmps16
  go_wp2_with (go_at_call 20; refine (is_bare _ M h).mono ?_; rintro e w1 ⟨rfl, rfl⟩)
  go_ret
  exact ⟨rfl, rfl⟩

set_option maxRecDepth 1000000 in
set_option maxHeartbeats 1000000 in
theorem nil_any (w : World) (m0 m1 m2 m3 : Int) : Calls Try.prog 4 #[.agg #[.int .i64 m0, .int .i64 m1, .int .i64 m2, .int .i64 m3]] w fun e w' => e = .returned (.bool true) ∧ Below w.heap.size w w' := by
  have h5 : ∀ o, Calls Try.prog 5 #[.agg #[.int .i64 m0, .int .i64 m1, .int .i64 m2, .int .i64 m3]] (w.alloc o) (NewPost (w.alloc o) m0 m1 m2 m3) := fun o => new_any _ _ _ _ _
  have H5 := Lib.hid h5
  clear h5
  go_enter Try.func4, Try.ntmps4
  go_wp2_with fail
  refine (H5.out _).mono ?_
  rintro e w1 ⟨M, C, rfl, hA, hM, hC, hb1⟩
  have HB1 := Lib.hid hb1
  have HA := Lib.hid hA
  clear hb1 hA hM hC
  have hU : ∀ o w', Below (w1.alloc o).heap.size (w1.alloc o) w' → Calls Try.prog 18 #[.pointer (some ⟨M, 0, none⟩)] w' (usedPost w' 0 0 0 0) := fun o w' hb => used_any w' M C _ _ _ _ _ _ _ _ ((HA.out.bel ((Below.refl _ _).alloc (Nat.le_refl _) o)).bel hb)
  have HU := Lib.hid hU
  clear hU
  go_wp2_with (first
    | (go_at_call 10; refine (leave_nil _).mono ?_; rintro e w2 ⟨rfl, rfl⟩)
    | (go_at_call 14; refine (free_bare _ w1.heap.size (by rw [cell_of (heap_new _ _)]; rfl)).mono ?_; rintro e w2 ⟨rfl, rfl⟩)
    | (go_at_call 6; refine (step_nil _).mono ?_; rintro e w2 ⟨rfl, rfl⟩)
    | (go_at_call 8; refine (enter_bare _ w1.heap.size (by rw [cell_of (heap_new _ _)]; rfl)).mono ?_; rintro e w2 ⟨rfl, rfl⟩)
    | (go_at_call 12; refine (hold_nil _).mono ?_; rintro e w2 ⟨rfl, rfl⟩)
    | (go_at_call 16; refine (tell_bare _ w1.heap.size (by rw [cell_of (heap_new _ _)]; rfl)).mono ?_; rintro e w2 ⟨rfl, rfl⟩)
    | fail)
  refine (used_nil _).mono ?_
  rintro e w3 ⟨rfl, hb3⟩
  have hz3 : w1.heap.size < w3.heap.size := by have := hb3.size; simp at this; omega
  have hc3 : w3.cell? ⟨w1.heap.size, 0, none⟩ = some (.pointer none) := (hb3.cell (p := ⟨w1.heap.size, 0, none⟩) (by simp)).trans (by rw [cell_of (heap_new _ _)]; rfl)
  have H3 := Lib.hid (used_bare w3 _ hc3)
  have HB3 := Lib.hid hb3
  clear hb3 hc3
  go_wp2_with fail
  refine H3.out.mono ?_
  rintro e w4 ⟨rfl, hb4⟩
  have H4 := Lib.hid (HU.out _ _ (HB3.out.trans (hb4.mono HB3.out.size)))
  have HB4 := Lib.hid hb4
  clear hb4
  go_wp2_with fail
  refine H4.out.mono ?_
  rintro e w5 ⟨rfl, hb5⟩
  have HB5 := Lib.hid hb5
  have H6 := Lib.hid (lives_any w5)
  clear hb5
  go_wp2_with fail
  refine H6.out.mono ?_
  rintro e w6 ⟨rfl, hb6⟩
  go_wp2
  go_ret
  exact ⟨rfl, below_of_chg0 (Chg.bel' hb6 (Chg.bel' HB5.out (Chg.bel' HB4.out (Chg.bel' HB3.out (Chg.alloc' (Chg.bel' HB1.out (Chg.alloc' (Chg.refl _ _))))))))⟩
end Go.Proofs.Ytgdjponooengaaa
