/- The meter's methods: what each returns, and what the meter then holds. Conditions: the counts are from 0 to 1000, the limits are numbers of 64 bits. -/
import Derived.Test.YtgdjponooengaaaRows
import Derived.Test.YtgdjponooengaaaGen
namespace Go.Proofs.Ytgdjponooengaaa
open Go.RowKit

def moreN (u m : Int) : Int := if m ≤ u then u else u + 1
def moreE (u m e : Int) : Int := if m ≤ u then e else 0

structure MeterAt (w : World) (M C : Nat) (u0 u1 u2 u3 m0 m1 m2 m3 : Int) : Prop where
  p : w.heap[M]? = some (.cells #[.pointer (some ⟨C, 0, none⟩)] 38 (0, 0))
  c : w.heap[C]? = some (.cells #[.bool true, .int .i64 u0, .int .i64 u1, .int .i64 u2, .int .i64 u3, .int .i64 m0, .int .i64 m1, .int .i64 m2, .int .i64 m3] 41 (0, 0))
  ne : M ≠ C

theorem heap_nex1 (w : World) (a b : Obj) : ((w.alloc a).alloc b).heap[w.heap.size + 1]? = some b := by
  have h := heap_new (w.alloc a) b
  rw [World.size_alloc] at h
  exact h
theorem heap_new1 (w : World) (a b c : Obj) : (((w.alloc a).alloc b).alloc c).heap[w.heap.size + 2]? = some c := by
  have h := heap_new ((w.alloc a).alloc b) c
  simp only [World.size_alloc] at h
  exact h
theorem is_true (w : World) (M C : Nat) (h : w.cell? ⟨M, 0, none⟩ = some (.pointer (some ⟨C, 0, none⟩))) (hc : w.cell? ⟨C, 0, none⟩ = some (.bool true)) :
    Calls Try.prog 20 #[.pointer (some ⟨M, 0, none⟩)] w fun e w' => e = .returned (.bool true) ∧ w = w' := by
  go_enter Try.func20, Try.ntmps20
  go_wp2
  go_ret
  exact ⟨rfl, rfl⟩
theorem is_nil (w : World) : Calls Try.prog 20 #[.pointer none] w fun e w' => e = .returned (.bool false) ∧ w = w' := by
  go_enter Try.func20, Try.ntmps20
  go_wp2
  go_ret
  exact ⟨rfl, rfl⟩
theorem is_bare (w : World) (M : Nat) (h : w.cell? ⟨M, 0, none⟩ = some (.pointer none)) :
    Calls Try.prog 20 #[.pointer (some ⟨M, 0, none⟩)] w fun e w' => e = .returned (.bool false) ∧ w = w' := by
  go_enter Try.func20, Try.ntmps20
  go_wp2
  go_ret
  exact ⟨rfl, rfl⟩

def NewPost (w : World) (m0 m1 m2 m3 : Int) (e : Ending) (w' : World) : Prop :=
  ∃ M C, e = .returned (.pointer (some ⟨M, 0, none⟩)) ∧ MeterAt w' M C 0 0 0 0 m0 m1 m2 m3 ∧ w.heap.size ≤ M ∧ w.heap.size ≤ C ∧ Below w.heap.size w w'
theorem new_any (w : World) (m0 m1 m2 m3 : Int) : Calls Try.prog 5 #[.agg #[.int .i64 m0, .int .i64 m1, .int .i64 m2, .int .i64 m3]] w (NewPost w m0 m1 m2 m3) := by
  go_enter Try.func5, Try.ntmps5
  go_wp2
  go_ret
  refine ⟨_, w.heap.size + 1, rfl, ⟨?_, ?_, ?_⟩, ?_, ?_, ?_⟩
  · exact heap_new1 _ _ _ _
  · exact (heap_old _ _ _ (by simp)).trans (heap_nex1 _ _ _)
  · simp
  · omega
  · simp
  · exact ((((Below.refl _ _).alloc (Nat.le_refl _) _).alloc (by simp) _).alloc (by simp; omega) _)

theorem acc0 (w : World) (C : Nat) (m : Int) (h : w.cell? ⟨C, 5, none⟩ = some (.int .i64 m)) : Calls Try.prog 21 #[.pointer (some ⟨C, 0, none⟩)] w fun e w' => e = .returned (.int .i64 m) ∧ w = w' := by
  go_enter Try.func21, Try.ntmps21
  go_wp2
  go_ret
  exact ⟨rfl, rfl⟩

theorem more0_full (w : World) (C : Nat) (u m k : Int) (hu : w.cell? ⟨C, 1, none⟩ = some (.int .i64 u)) (hm : w.cell? ⟨C, 5, none⟩ = some (.int .i64 m)) (h : m ≤ u) :
    Calls Try.prog 22 #[.pointer (some ⟨C, 1, none⟩), .func (.func 21) #[.pointer (some ⟨C, 0, none⟩)] #[], .int .i64 k] w fun e w' => e = .returned (.int .i64 k) ∧ ∃ n, w' = w.drewN n := by
  go_enter Try.func22, Try.ntmps22
  go_wp2
  go_quiet ((go_at_call 21; exact quiet_left (acc0 _ C m (by go_simp))))
  go_wp2
  go_ret
  exact ⟨rfl, _, rfl⟩

theorem more0_less (w : World) (C : Nat) (u m k : Int) (hu : w.cell? ⟨C, 1, none⟩ = some (.int .i64 u)) (hf : w.frozen? ⟨C, 1, none⟩ = false) (hm : w.cell? ⟨C, 5, none⟩ = some (.int .i64 m)) (h : u < m) (h1 : 0 ≤ u) (h2 : u ≤ 1000) :
    Calls Try.prog 22 #[.pointer (some ⟨C, 1, none⟩), .func (.func 21) #[.pointer (some ⟨C, 0, none⟩)] #[], .int .i64 k] w fun e w' => e = .returned (.int .i64 0) ∧ ∃ n, w' = (w.drewN n).setCell ⟨C, 1, none⟩ (.int .i64 (u + 1)) := by
  go_enter Try.func22, Try.ntmps22
  go_wp2
  go_quiet ((go_at_call 21; exact quiet_left (acc0 _ C m (by go_simp))))
  go_wp2
  go_ret
  exact ⟨rfl, _, rfl⟩

def stepPost (w : World) (M C : Nat) (u0 u1 u2 u3 m0 m1 m2 m3 : Int) (e : Ending) (w' : World) : Prop :=
  e = .returned (.int .i64 (moreE u0 m0 3)) ∧ MeterAt w' M C (moreN u0 m0) u1 u2 u3 m0 m1 m2 m3 ∧ Chg (fun k => k = C) w w'
theorem step_any (w : World) (M C : Nat) (u0 u1 u2 u3 m0 m1 m2 m3 : Int) (hA : MeterAt w M C u0 u1 u2 u3 m0 m1 m2 m3) (h1 : 0 ≤ u0) (h2 : u0 ≤ 1000) :
    Calls Try.prog 6 #[.pointer (some ⟨M, 0, none⟩)] w (stepPost w M C u0 u1 u2 u3 m0 m1 m2 m3) := by
  have c0 : w.cell? ⟨M, 0, none⟩ = some (.pointer (some ⟨C, 0, none⟩)) := cell_of hA.p 0
  have d0 : w.cell? ⟨C, 0, none⟩ = some (.bool true) := cell_of hA.c 0
  have du : w.cell? ⟨C, 1, none⟩ = some (.int .i64 u0) := cell_of hA.c 1
  have dm : w.cell? ⟨C, 5, none⟩ = some (.int .i64 m0) := cell_of hA.c 5
  have df : w.frozen? ⟨C, 1, none⟩ = false := frozen_of hA.c 1
  by_cases h : m0 ≤ u0
  · go_enter Try.func6, Try.ntmps6
    go_wp2_with (first | (go_at_call 20; refine (is_true _ M C c0 d0).mono ?_; rintro e w1 ⟨rfl, rfl⟩) | (go_at_call 22; refine (more0_full _ C _ _ _ du dm h).mono ?_; rintro e w1 ⟨rfl, nq, rfl⟩))
    go_ret
    exact ⟨by simp [moreE, h], by simp only [moreN, if_pos h]; exact ⟨hA.p, hA.c, hA.ne⟩, (Chg.refl _ _).drewN⟩
  · replace h := Int.not_le.1 h
    go_enter Try.func6, Try.ntmps6
    go_wp2_with (first | (go_at_call 20; refine (is_true _ M C c0 d0).mono ?_; rintro e w1 ⟨rfl, rfl⟩) | (go_at_call 22; refine (more0_less _ C _ _ _ du df dm h h1 h2).mono ?_; rintro e w1 ⟨rfl, nq, rfl⟩))
    go_ret
    exact ⟨by rw [moreE, if_neg (by omega)]; rfl, by simp only [moreN, if_neg (Int.not_le.2 h)]; exact ⟨rd_set hA.ne hA.p, (heap_set (w := w.drewN nq) hA.c 1 _).trans (by simp), hA.ne⟩, Chg.set' (.inl rfl) (Chg.refl _ _).drewN⟩

theorem acc1 (w : World) (C : Nat) (m : Int) (h : w.cell? ⟨C, 6, none⟩ = some (.int .i64 m)) : Calls Try.prog 24 #[.pointer (some ⟨C, 0, none⟩)] w fun e w' => e = .returned (.int .i64 m) ∧ w = w' := by
  go_enter Try.func24, Try.ntmps24
  go_wp2
  go_ret
  exact ⟨rfl, rfl⟩

theorem more1_full (w : World) (C : Nat) (u m k : Int) (hu : w.cell? ⟨C, 2, none⟩ = some (.int .i64 u)) (hm : w.cell? ⟨C, 6, none⟩ = some (.int .i64 m)) (h : m ≤ u) :
    Calls Try.prog 22 #[.pointer (some ⟨C, 2, none⟩), .func (.func 24) #[.pointer (some ⟨C, 0, none⟩)] #[], .int .i64 k] w fun e w' => e = .returned (.int .i64 k) ∧ ∃ n, w' = w.drewN n := by
  go_enter Try.func22, Try.ntmps22
  go_wp2
  go_quiet ((go_at_call 24; exact quiet_left (acc1 _ C m (by go_simp))))
  go_wp2
  go_ret
  exact ⟨rfl, _, rfl⟩

theorem more1_less (w : World) (C : Nat) (u m k : Int) (hu : w.cell? ⟨C, 2, none⟩ = some (.int .i64 u)) (hf : w.frozen? ⟨C, 2, none⟩ = false) (hm : w.cell? ⟨C, 6, none⟩ = some (.int .i64 m)) (h : u < m) (h1 : 0 ≤ u) (h2 : u ≤ 1000) :
    Calls Try.prog 22 #[.pointer (some ⟨C, 2, none⟩), .func (.func 24) #[.pointer (some ⟨C, 0, none⟩)] #[], .int .i64 k] w fun e w' => e = .returned (.int .i64 0) ∧ ∃ n, w' = (w.drewN n).setCell ⟨C, 2, none⟩ (.int .i64 (u + 1)) := by
  go_enter Try.func22, Try.ntmps22
  go_wp2
  go_quiet ((go_at_call 24; exact quiet_left (acc1 _ C m (by go_simp))))
  go_wp2
  go_ret
  exact ⟨rfl, _, rfl⟩

def enterPost (w : World) (M C : Nat) (u0 u1 u2 u3 m0 m1 m2 m3 : Int) (e : Ending) (w' : World) : Prop :=
  e = .returned (.int .i64 (moreE u1 m1 4)) ∧ MeterAt w' M C u0 (moreN u1 m1) u2 u3 m0 m1 m2 m3 ∧ Chg (fun k => k = C) w w'
theorem enter_any (w : World) (M C : Nat) (u0 u1 u2 u3 m0 m1 m2 m3 : Int) (hA : MeterAt w M C u0 u1 u2 u3 m0 m1 m2 m3) (h1 : 0 ≤ u1) (h2 : u1 ≤ 1000) :
    Calls Try.prog 8 #[.pointer (some ⟨M, 0, none⟩)] w (enterPost w M C u0 u1 u2 u3 m0 m1 m2 m3) := by
  have c0 : w.cell? ⟨M, 0, none⟩ = some (.pointer (some ⟨C, 0, none⟩)) := cell_of hA.p 0
  have d0 : w.cell? ⟨C, 0, none⟩ = some (.bool true) := cell_of hA.c 0
  have du : w.cell? ⟨C, 2, none⟩ = some (.int .i64 u1) := cell_of hA.c 2
  have dm : w.cell? ⟨C, 6, none⟩ = some (.int .i64 m1) := cell_of hA.c 6
  have df : w.frozen? ⟨C, 2, none⟩ = false := frozen_of hA.c 2
  by_cases h : m1 ≤ u1
  · go_enter Try.func8, Try.ntmps8
    go_wp2_with (first | (go_at_call 20; refine (is_true _ M C c0 d0).mono ?_; rintro e w1 ⟨rfl, rfl⟩) | (go_at_call 22; refine (more1_full _ C _ _ _ du dm h).mono ?_; rintro e w1 ⟨rfl, nq, rfl⟩))
    go_ret
    exact ⟨by simp [moreE, h], by simp only [moreN, if_pos h]; exact ⟨hA.p, hA.c, hA.ne⟩, (Chg.refl _ _).drewN⟩
  · replace h := Int.not_le.1 h
    go_enter Try.func8, Try.ntmps8
    go_wp2_with (first | (go_at_call 20; refine (is_true _ M C c0 d0).mono ?_; rintro e w1 ⟨rfl, rfl⟩) | (go_at_call 22; refine (more1_less _ C _ _ _ du df dm h h1 h2).mono ?_; rintro e w1 ⟨rfl, nq, rfl⟩))
    go_ret
    exact ⟨by rw [moreE, if_neg (by omega)]; rfl, by simp only [moreN, if_neg (Int.not_le.2 h)]; exact ⟨rd_set hA.ne hA.p, (heap_set (w := w.drewN nq) hA.c 2 _).trans (by simp), hA.ne⟩, Chg.set' (.inl rfl) (Chg.refl _ _).drewN⟩

theorem acc2 (w : World) (C : Nat) (m : Int) (h : w.cell? ⟨C, 7, none⟩ = some (.int .i64 m)) : Calls Try.prog 25 #[.pointer (some ⟨C, 0, none⟩)] w fun e w' => e = .returned (.int .i64 m) ∧ w = w' := by
  go_enter Try.func25, Try.ntmps25
  go_wp2
  go_ret
  exact ⟨rfl, rfl⟩

theorem more2_full (w : World) (C : Nat) (u m k : Int) (hu : w.cell? ⟨C, 3, none⟩ = some (.int .i64 u)) (hm : w.cell? ⟨C, 7, none⟩ = some (.int .i64 m)) (h : m ≤ u) :
    Calls Try.prog 22 #[.pointer (some ⟨C, 3, none⟩), .func (.func 25) #[.pointer (some ⟨C, 0, none⟩)] #[], .int .i64 k] w fun e w' => e = .returned (.int .i64 k) ∧ ∃ n, w' = w.drewN n := by
  go_enter Try.func22, Try.ntmps22
  go_wp2
  go_quiet ((go_at_call 25; exact quiet_left (acc2 _ C m (by go_simp))))
  go_wp2
  go_ret
  exact ⟨rfl, _, rfl⟩

theorem more2_less (w : World) (C : Nat) (u m k : Int) (hu : w.cell? ⟨C, 3, none⟩ = some (.int .i64 u)) (hf : w.frozen? ⟨C, 3, none⟩ = false) (hm : w.cell? ⟨C, 7, none⟩ = some (.int .i64 m)) (h : u < m) (h1 : 0 ≤ u) (h2 : u ≤ 1000) :
    Calls Try.prog 22 #[.pointer (some ⟨C, 3, none⟩), .func (.func 25) #[.pointer (some ⟨C, 0, none⟩)] #[], .int .i64 k] w fun e w' => e = .returned (.int .i64 0) ∧ ∃ n, w' = (w.drewN n).setCell ⟨C, 3, none⟩ (.int .i64 (u + 1)) := by
  go_enter Try.func22, Try.ntmps22
  go_wp2
  go_quiet ((go_at_call 25; exact quiet_left (acc2 _ C m (by go_simp))))
  go_wp2
  go_ret
  exact ⟨rfl, _, rfl⟩

def holdPost (w : World) (M C : Nat) (u0 u1 u2 u3 m0 m1 m2 m3 : Int) (e : Ending) (w' : World) : Prop :=
  e = .returned (.int .i64 (moreE u2 m2 5)) ∧ MeterAt w' M C u0 u1 (moreN u2 m2) u3 m0 m1 m2 m3 ∧ Chg (fun k => k = C) w w'
theorem hold_any (w : World) (M C : Nat) (u0 u1 u2 u3 m0 m1 m2 m3 : Int) (hA : MeterAt w M C u0 u1 u2 u3 m0 m1 m2 m3) (h1 : 0 ≤ u2) (h2 : u2 ≤ 1000) :
    Calls Try.prog 12 #[.pointer (some ⟨M, 0, none⟩)] w (holdPost w M C u0 u1 u2 u3 m0 m1 m2 m3) := by
  have c0 : w.cell? ⟨M, 0, none⟩ = some (.pointer (some ⟨C, 0, none⟩)) := cell_of hA.p 0
  have d0 : w.cell? ⟨C, 0, none⟩ = some (.bool true) := cell_of hA.c 0
  have du : w.cell? ⟨C, 3, none⟩ = some (.int .i64 u2) := cell_of hA.c 3
  have dm : w.cell? ⟨C, 7, none⟩ = some (.int .i64 m2) := cell_of hA.c 7
  have df : w.frozen? ⟨C, 3, none⟩ = false := frozen_of hA.c 3
  by_cases h : m2 ≤ u2
  · go_enter Try.func12, Try.ntmps12
    go_wp2_with (first | (go_at_call 20; refine (is_true _ M C c0 d0).mono ?_; rintro e w1 ⟨rfl, rfl⟩) | (go_at_call 22; refine (more2_full _ C _ _ _ du dm h).mono ?_; rintro e w1 ⟨rfl, nq, rfl⟩))
    go_ret
    exact ⟨by simp [moreE, h], by simp only [moreN, if_pos h]; exact ⟨hA.p, hA.c, hA.ne⟩, (Chg.refl _ _).drewN⟩
  · replace h := Int.not_le.1 h
    go_enter Try.func12, Try.ntmps12
    go_wp2_with (first | (go_at_call 20; refine (is_true _ M C c0 d0).mono ?_; rintro e w1 ⟨rfl, rfl⟩) | (go_at_call 22; refine (more2_less _ C _ _ _ du df dm h h1 h2).mono ?_; rintro e w1 ⟨rfl, nq, rfl⟩))
    go_ret
    exact ⟨by rw [moreE, if_neg (by omega)]; rfl, by simp only [moreN, if_neg (Int.not_le.2 h)]; exact ⟨rd_set hA.ne hA.p, (heap_set (w := w.drewN nq) hA.c 3 _).trans (by simp), hA.ne⟩, Chg.set' (.inl rfl) (Chg.refl _ _).drewN⟩

theorem acc3 (w : World) (C : Nat) (m : Int) (h : w.cell? ⟨C, 8, none⟩ = some (.int .i64 m)) : Calls Try.prog 26 #[.pointer (some ⟨C, 0, none⟩)] w fun e w' => e = .returned (.int .i64 m) ∧ w = w' := by
  go_enter Try.func26, Try.ntmps26
  go_wp2
  go_ret
  exact ⟨rfl, rfl⟩

theorem more3_full (w : World) (C : Nat) (u m k : Int) (hu : w.cell? ⟨C, 4, none⟩ = some (.int .i64 u)) (hm : w.cell? ⟨C, 8, none⟩ = some (.int .i64 m)) (h : m ≤ u) :
    Calls Try.prog 22 #[.pointer (some ⟨C, 4, none⟩), .func (.func 26) #[.pointer (some ⟨C, 0, none⟩)] #[], .int .i64 k] w fun e w' => e = .returned (.int .i64 k) ∧ ∃ n, w' = w.drewN n := by
  go_enter Try.func22, Try.ntmps22
  go_wp2
  go_quiet ((go_at_call 26; exact quiet_left (acc3 _ C m (by go_simp))))
  go_wp2
  go_ret
  exact ⟨rfl, _, rfl⟩

theorem more3_less (w : World) (C : Nat) (u m k : Int) (hu : w.cell? ⟨C, 4, none⟩ = some (.int .i64 u)) (hf : w.frozen? ⟨C, 4, none⟩ = false) (hm : w.cell? ⟨C, 8, none⟩ = some (.int .i64 m)) (h : u < m) (h1 : 0 ≤ u) (h2 : u ≤ 1000) :
    Calls Try.prog 22 #[.pointer (some ⟨C, 4, none⟩), .func (.func 26) #[.pointer (some ⟨C, 0, none⟩)] #[], .int .i64 k] w fun e w' => e = .returned (.int .i64 0) ∧ ∃ n, w' = (w.drewN n).setCell ⟨C, 4, none⟩ (.int .i64 (u + 1)) := by
  go_enter Try.func22, Try.ntmps22
  go_wp2
  go_quiet ((go_at_call 26; exact quiet_left (acc3 _ C m (by go_simp))))
  go_wp2
  go_ret
  exact ⟨rfl, _, rfl⟩

def tellPost (w : World) (M C : Nat) (u0 u1 u2 u3 m0 m1 m2 m3 : Int) (e : Ending) (w' : World) : Prop :=
  e = .returned (.int .i64 (moreE u3 m3 6)) ∧ MeterAt w' M C u0 u1 u2 (moreN u3 m3) m0 m1 m2 m3 ∧ Chg (fun k => k = C) w w'
theorem tell_any (w : World) (M C : Nat) (u0 u1 u2 u3 m0 m1 m2 m3 : Int) (hA : MeterAt w M C u0 u1 u2 u3 m0 m1 m2 m3) (h1 : 0 ≤ u3) (h2 : u3 ≤ 1000) :
    Calls Try.prog 16 #[.pointer (some ⟨M, 0, none⟩)] w (tellPost w M C u0 u1 u2 u3 m0 m1 m2 m3) := by
  have c0 : w.cell? ⟨M, 0, none⟩ = some (.pointer (some ⟨C, 0, none⟩)) := cell_of hA.p 0
  have d0 : w.cell? ⟨C, 0, none⟩ = some (.bool true) := cell_of hA.c 0
  have du : w.cell? ⟨C, 4, none⟩ = some (.int .i64 u3) := cell_of hA.c 4
  have dm : w.cell? ⟨C, 8, none⟩ = some (.int .i64 m3) := cell_of hA.c 8
  have df : w.frozen? ⟨C, 4, none⟩ = false := frozen_of hA.c 4
  by_cases h : m3 ≤ u3
  · go_enter Try.func16, Try.ntmps16
    go_wp2_with (first | (go_at_call 20; refine (is_true _ M C c0 d0).mono ?_; rintro e w1 ⟨rfl, rfl⟩) | (go_at_call 22; refine (more3_full _ C _ _ _ du dm h).mono ?_; rintro e w1 ⟨rfl, nq, rfl⟩))
    go_ret
    exact ⟨by simp [moreE, h], by simp only [moreN, if_pos h]; exact ⟨hA.p, hA.c, hA.ne⟩, (Chg.refl _ _).drewN⟩
  · replace h := Int.not_le.1 h
    go_enter Try.func16, Try.ntmps16
    go_wp2_with (first | (go_at_call 20; refine (is_true _ M C c0 d0).mono ?_; rintro e w1 ⟨rfl, rfl⟩) | (go_at_call 22; refine (more3_less _ C _ _ _ du df dm h h1 h2).mono ?_; rintro e w1 ⟨rfl, nq, rfl⟩))
    go_ret
    exact ⟨by rw [moreE, if_neg (by omega)]; rfl, by simp only [moreN, if_neg (Int.not_le.2 h)]; exact ⟨rd_set hA.ne hA.p, (heap_set (w := w.drewN nq) hA.c 4 _).trans (by simp), hA.ne⟩, Chg.set' (.inl rfl) (Chg.refl _ _).drewN⟩

def leavePost (w : World) (M C : Nat) (u0 u1 u2 u3 m0 m1 m2 m3 : Int) (e : Ending) (w' : World) : Prop :=
  e = .returned (.tuple #[]) ∧ MeterAt w' M C u0 (max (u1 - 1) 0) u2 u3 m0 m1 m2 m3 ∧ Chg (fun k => k = C) w w'
theorem leave_any (w : World) (M C : Nat) (u0 u1 u2 u3 m0 m1 m2 m3 : Int) (hA : MeterAt w M C u0 u1 u2 u3 m0 m1 m2 m3) (h1 : 0 ≤ u1) (h2 : u1 ≤ 1000) :
    Calls Try.prog 10 #[.pointer (some ⟨M, 0, none⟩)] w (leavePost w M C u0 u1 u2 u3 m0 m1 m2 m3) := by
  have c0 : w.cell? ⟨M, 0, none⟩ = some (.pointer (some ⟨C, 0, none⟩)) := cell_of hA.p 0
  have d0 : w.cell? ⟨C, 0, none⟩ = some (.bool true) := cell_of hA.c 0
  have du : w.cell? ⟨C, 2, none⟩ = some (.int .i64 u1) := cell_of hA.c 2
  have df : w.frozen? ⟨C, 2, none⟩ = false := frozen_of hA.c 2
  go_enter Try.func10, Try.ntmps10
  go_wp2_with (first | (go_at_call 20; refine (is_true _ M C c0 d0).mono ?_; rintro e w1 ⟨rfl, rfl⟩))
  go_region
  all_goals go_wp2
  all_goals go_end0
  all_goals (refine ⟨rfl, ?_, Chg.drew (Chg.set' (.inl rfl) (Chg.refl _ _))⟩)
  · rw [show max (u1 - 1) 0 = 0 by omega]
    exact ⟨rd_drew (rd_set hA.ne hA.p), rd_drew ((heap_set hA.c 2 _).trans (by simp)), hA.ne⟩
  · rw [show max (u1 - 1) 0 = u1 - 1 by omega]
    exact ⟨rd_drew (rd_set hA.ne hA.p), rd_drew ((heap_set hA.c 2 _).trans (by simp)), hA.ne⟩

def freePost (w : World) (M C : Nat) (u0 u1 u2 u3 m0 m1 m2 m3 : Int) (e : Ending) (w' : World) : Prop :=
  e = .returned (.tuple #[]) ∧ MeterAt w' M C u0 u1 (max (u2 - 1) 0) u3 m0 m1 m2 m3 ∧ Chg (fun k => k = C) w w'
theorem free_any (w : World) (M C : Nat) (u0 u1 u2 u3 m0 m1 m2 m3 : Int) (hA : MeterAt w M C u0 u1 u2 u3 m0 m1 m2 m3) (h1 : 0 ≤ u2) (h2 : u2 ≤ 1000) :
    Calls Try.prog 14 #[.pointer (some ⟨M, 0, none⟩)] w (freePost w M C u0 u1 u2 u3 m0 m1 m2 m3) := by
  have c0 : w.cell? ⟨M, 0, none⟩ = some (.pointer (some ⟨C, 0, none⟩)) := cell_of hA.p 0
  have d0 : w.cell? ⟨C, 0, none⟩ = some (.bool true) := cell_of hA.c 0
  have du : w.cell? ⟨C, 3, none⟩ = some (.int .i64 u2) := cell_of hA.c 3
  have df : w.frozen? ⟨C, 3, none⟩ = false := frozen_of hA.c 3
  go_enter Try.func14, Try.ntmps14
  go_wp2_with (first | (go_at_call 20; refine (is_true _ M C c0 d0).mono ?_; rintro e w1 ⟨rfl, rfl⟩))
  go_region
  all_goals go_wp2
  all_goals go_end0
  all_goals (refine ⟨rfl, ?_, Chg.drew (Chg.set' (.inl rfl) (Chg.refl _ _))⟩)
  · rw [show max (u2 - 1) 0 = 0 by omega]
    exact ⟨rd_drew (rd_set hA.ne hA.p), rd_drew ((heap_set hA.c 3 _).trans (by simp)), hA.ne⟩
  · rw [show max (u2 - 1) 0 = u2 - 1 by omega]
    exact ⟨rd_drew (rd_set hA.ne hA.p), rd_drew ((heap_set hA.c 3 _).trans (by simp)), hA.ne⟩

def usedPost (w : World) (u0 u1 u2 u3 : Int) (e : Ending) (w' : World) : Prop := e = .returned (.agg #[.int .i64 u0, .int .i64 u1, .int .i64 u2, .int .i64 u3]) ∧ Below w.heap.size w w'
theorem used_any (w : World) (M C : Nat) (u0 u1 u2 u3 m0 m1 m2 m3 : Int) (hA : MeterAt w M C u0 u1 u2 u3 m0 m1 m2 m3) :
    Calls Try.prog 18 #[.pointer (some ⟨M, 0, none⟩)] w (usedPost w u0 u1 u2 u3) := by
  have c0 : w.cell? ⟨M, 0, none⟩ = some (.pointer (some ⟨C, 0, none⟩)) := cell_of hA.p 0
  have d0 : w.cell? ⟨C, 0, none⟩ = some (.bool true) := cell_of hA.c 0
  have d1 : w.cell? ⟨C, 1, none⟩ = some (.int .i64 u0) := cell_of hA.c 1
  have d2 : w.cell? ⟨C, 2, none⟩ = some (.int .i64 u1) := cell_of hA.c 2
  have d3 : w.cell? ⟨C, 3, none⟩ = some (.int .i64 u2) := cell_of hA.c 3
  have d4 : w.cell? ⟨C, 4, none⟩ = some (.int .i64 u3) := cell_of hA.c 4
  have hM := heap_lt hA.p
  have hC := heap_lt hA.c
  go_enter Try.func18, Try.ntmps18
  go_wp2
  refine bodyPost_ret (v := .agg #[.int .i64 u0, .int .i64 u1, .int .i64 u2, .int .i64 u3]) (by simp [results, Try.results18, go_sem]) rfl ⟨rfl, below_of_chg0 ?_⟩
  repeat (first | with_reducible exact Chg.refl _ _ | with_reducible refine Chg.drew ?_ | (with_reducible refine Chg.set' ?_ ?_; · (first | omega | (simp; done) | (simp; omega))) | with_reducible refine Chg.alloc' ?_)
theorem used_nil (w : World) : Calls Try.prog 18 #[.pointer none] w (usedPost w 0 0 0 0) := by
  go_enter Try.func18, Try.ntmps18
  go_wp2
  refine bodyPost_ret (v := .agg #[.int .i64 0, .int .i64 0, .int .i64 0, .int .i64 0]) (by simp [results, Try.results18, go_sem]) rfl ⟨rfl, below_of_chg0 ?_⟩
  repeat (first | with_reducible exact Chg.refl _ _ | with_reducible refine Chg.drew ?_ | (with_reducible refine Chg.set' ?_ ?_; · (first | omega | (simp; done) | (simp; omega))) | with_reducible refine Chg.alloc' ?_)
theorem used_bare (w : World) (M : Nat) (h : w.cell? ⟨M, 0, none⟩ = some (.pointer none)) : Calls Try.prog 18 #[.pointer (some ⟨M, 0, none⟩)] w (usedPost w 0 0 0 0) := by
  have hM := World.block_lt_of_cell? w _ h
  simp only at hM
  go_enter Try.func18, Try.ntmps18
  go_wp2
  refine bodyPost_ret (v := .agg #[.int .i64 0, .int .i64 0, .int .i64 0, .int .i64 0]) (by simp [results, Try.results18, go_sem]) rfl ⟨rfl, below_of_chg0 ?_⟩
  repeat (first | with_reducible exact Chg.refl _ _ | with_reducible refine Chg.drew ?_ | (with_reducible refine Chg.set' ?_ ?_; · (first | omega | (simp; done) | (simp; omega))) | with_reducible refine Chg.alloc' ?_)

theorem rmore_any (u m k : Int) (w : World) (h1 : 0 ≤ u) (h2 : u ≤ 1000) : Calls Try.prog 23 #[.int .i64 u, .int .i64 m, .int .i64 k] w fun e w' => e = .returned (.tuple #[.int .i64 (moreN u m), .int .i64 (moreE u m k)]) ∧ w = w' := by
  by_cases h : m ≤ u
  · go_enter Try.func23, Try.ntmps23
    go_wp2
    go_ret2
    exact ⟨by simp [moreN, moreE, h], rfl⟩
  · replace h := Int.not_le.1 h
    go_enter Try.func23, Try.ntmps23
    go_wp2
    go_ret2
    exact ⟨by rw [moreN, moreE, if_neg (by omega), if_neg (by omega)]; rfl, rfl⟩

def rstepPost (w : World) (u0 u1 u2 u3 m0 m1 m2 m3 : Int) (e : Ending) (w' : World) : Prop :=
  e = .returned (.tuple #[.agg #[.int .i64 m0, .int .i64 m1, .int .i64 m2, .int .i64 m3, .int .i64 (moreN u0 m0), .int .i64 u1, .int .i64 u2, .int .i64 u3], .int .i64 (moreE u0 m0 3)]) ∧ Below w.heap.size w w'
theorem rstep_any (w : World) (u0 u1 u2 u3 m0 m1 m2 m3 : Int) (h1 : 0 ≤ u0) (h2 : u0 ≤ 1000) :
    Calls Try.prog 7 #[.agg #[.int .i64 m0, .int .i64 m1, .int .i64 m2, .int .i64 m3, .int .i64 u0, .int .i64 u1, .int .i64 u2, .int .i64 u3]] w (rstepPost w u0 u1 u2 u3 m0 m1 m2 m3) := by
  go_enter Try.func7, Try.ntmps7
  go_wp2_with (go_at_call 23; refine (rmore_any u0 m0 _ _ h1 h2).mono ?_; rintro e w1 ⟨rfl, rfl⟩)
  refine bodyPost_ret (v := .tuple #[.agg #[.int .i64 m0, .int .i64 m1, .int .i64 m2, .int .i64 m3, .int .i64 (moreN u0 m0), .int .i64 u1, .int .i64 u2, .int .i64 u3], .int .i64 (moreE u0 m0 3)]) (by simp [results, Try.results7, go_sem]) rfl ⟨rfl, below_of_chg0 ?_⟩
  repeat (first | with_reducible exact Chg.refl _ _ | with_reducible refine Chg.drew ?_ | (with_reducible refine Chg.set' ?_ ?_; · (first | omega | (simp; done) | (simp; omega))) | with_reducible refine Chg.alloc' ?_)

def renterPost (w : World) (u0 u1 u2 u3 m0 m1 m2 m3 : Int) (e : Ending) (w' : World) : Prop :=
  e = .returned (.tuple #[.agg #[.int .i64 m0, .int .i64 m1, .int .i64 m2, .int .i64 m3, .int .i64 u0, .int .i64 (moreN u1 m1), .int .i64 u2, .int .i64 u3], .int .i64 (moreE u1 m1 4)]) ∧ Below w.heap.size w w'
theorem renter_any (w : World) (u0 u1 u2 u3 m0 m1 m2 m3 : Int) (h1 : 0 ≤ u1) (h2 : u1 ≤ 1000) :
    Calls Try.prog 9 #[.agg #[.int .i64 m0, .int .i64 m1, .int .i64 m2, .int .i64 m3, .int .i64 u0, .int .i64 u1, .int .i64 u2, .int .i64 u3]] w (renterPost w u0 u1 u2 u3 m0 m1 m2 m3) := by
  go_enter Try.func9, Try.ntmps9
  go_wp2_with (go_at_call 23; refine (rmore_any u1 m1 _ _ h1 h2).mono ?_; rintro e w1 ⟨rfl, rfl⟩)
  refine bodyPost_ret (v := .tuple #[.agg #[.int .i64 m0, .int .i64 m1, .int .i64 m2, .int .i64 m3, .int .i64 u0, .int .i64 (moreN u1 m1), .int .i64 u2, .int .i64 u3], .int .i64 (moreE u1 m1 4)]) (by simp [results, Try.results9, go_sem]) rfl ⟨rfl, below_of_chg0 ?_⟩
  repeat (first | with_reducible exact Chg.refl _ _ | with_reducible refine Chg.drew ?_ | (with_reducible refine Chg.set' ?_ ?_; · (first | omega | (simp; done) | (simp; omega))) | with_reducible refine Chg.alloc' ?_)

def rholdPost (w : World) (u0 u1 u2 u3 m0 m1 m2 m3 : Int) (e : Ending) (w' : World) : Prop :=
  e = .returned (.tuple #[.agg #[.int .i64 m0, .int .i64 m1, .int .i64 m2, .int .i64 m3, .int .i64 u0, .int .i64 u1, .int .i64 (moreN u2 m2), .int .i64 u3], .int .i64 (moreE u2 m2 5)]) ∧ Below w.heap.size w w'
theorem rhold_any (w : World) (u0 u1 u2 u3 m0 m1 m2 m3 : Int) (h1 : 0 ≤ u2) (h2 : u2 ≤ 1000) :
    Calls Try.prog 13 #[.agg #[.int .i64 m0, .int .i64 m1, .int .i64 m2, .int .i64 m3, .int .i64 u0, .int .i64 u1, .int .i64 u2, .int .i64 u3]] w (rholdPost w u0 u1 u2 u3 m0 m1 m2 m3) := by
  go_enter Try.func13, Try.ntmps13
  go_wp2_with (go_at_call 23; refine (rmore_any u2 m2 _ _ h1 h2).mono ?_; rintro e w1 ⟨rfl, rfl⟩)
  refine bodyPost_ret (v := .tuple #[.agg #[.int .i64 m0, .int .i64 m1, .int .i64 m2, .int .i64 m3, .int .i64 u0, .int .i64 u1, .int .i64 (moreN u2 m2), .int .i64 u3], .int .i64 (moreE u2 m2 5)]) (by simp [results, Try.results13, go_sem]) rfl ⟨rfl, below_of_chg0 ?_⟩
  repeat (first | with_reducible exact Chg.refl _ _ | with_reducible refine Chg.drew ?_ | (with_reducible refine Chg.set' ?_ ?_; · (first | omega | (simp; done) | (simp; omega))) | with_reducible refine Chg.alloc' ?_)

def rtellPost (w : World) (u0 u1 u2 u3 m0 m1 m2 m3 : Int) (e : Ending) (w' : World) : Prop :=
  e = .returned (.tuple #[.agg #[.int .i64 m0, .int .i64 m1, .int .i64 m2, .int .i64 m3, .int .i64 u0, .int .i64 u1, .int .i64 u2, .int .i64 (moreN u3 m3)], .int .i64 (moreE u3 m3 6)]) ∧ Below w.heap.size w w'
theorem rtell_any (w : World) (u0 u1 u2 u3 m0 m1 m2 m3 : Int) (h1 : 0 ≤ u3) (h2 : u3 ≤ 1000) :
    Calls Try.prog 17 #[.agg #[.int .i64 m0, .int .i64 m1, .int .i64 m2, .int .i64 m3, .int .i64 u0, .int .i64 u1, .int .i64 u2, .int .i64 u3]] w (rtellPost w u0 u1 u2 u3 m0 m1 m2 m3) := by
  go_enter Try.func17, Try.ntmps17
  go_wp2_with (go_at_call 23; refine (rmore_any u3 m3 _ _ h1 h2).mono ?_; rintro e w1 ⟨rfl, rfl⟩)
  refine bodyPost_ret (v := .tuple #[.agg #[.int .i64 m0, .int .i64 m1, .int .i64 m2, .int .i64 m3, .int .i64 u0, .int .i64 u1, .int .i64 u2, .int .i64 (moreN u3 m3)], .int .i64 (moreE u3 m3 6)]) (by simp [results, Try.results17, go_sem]) rfl ⟨rfl, below_of_chg0 ?_⟩
  repeat (first | with_reducible exact Chg.refl _ _ | with_reducible refine Chg.drew ?_ | (with_reducible refine Chg.set' ?_ ?_; · (first | omega | (simp; done) | (simp; omega))) | with_reducible refine Chg.alloc' ?_)

def rleavePost (w : World) (u0 u1 u2 u3 m0 m1 m2 m3 : Int) (e : Ending) (w' : World) : Prop :=
  e = .returned (.agg #[.int .i64 m0, .int .i64 m1, .int .i64 m2, .int .i64 m3, .int .i64 u0, .int .i64 (max (u1 - 1) 0), .int .i64 u2, .int .i64 u3]) ∧ Below w.heap.size w w'
theorem rleave_any (w : World) (u0 u1 u2 u3 m0 m1 m2 m3 : Int) (h1 : 0 ≤ u1) (h2 : u1 ≤ 1000) :
    Calls Try.prog 11 #[.agg #[.int .i64 m0, .int .i64 m1, .int .i64 m2, .int .i64 m3, .int .i64 u0, .int .i64 u1, .int .i64 u2, .int .i64 u3]] w (rleavePost w u0 u1 u2 u3 m0 m1 m2 m3) := by
  by_cases h : u1 = 0
  · subst h
    go_enter Try.func11, Try.ntmps11
    go_wp2
    refine bodyPost_ret (v := .agg #[.int .i64 m0, .int .i64 m1, .int .i64 m2, .int .i64 m3, .int .i64 u0, .int .i64 0, .int .i64 u2, .int .i64 u3]) (by simp [results, Try.results11, go_sem]) rfl ⟨rfl, below_of_chg0 ?_⟩
    repeat (first | with_reducible exact Chg.refl _ _ | with_reducible refine Chg.drew ?_ | (with_reducible refine Chg.set' ?_ ?_; · (first | omega | (simp; done) | (simp; omega))) | with_reducible refine Chg.alloc' ?_)
  · have h3 : 1 ≤ u1 := by omega
    clear h
    go_enter Try.func11, Try.ntmps11
    go_wp2
    refine bodyPost_ret (v := .agg #[.int .i64 m0, .int .i64 m1, .int .i64 m2, .int .i64 m3, .int .i64 u0, .int .i64 (u1 - 1), .int .i64 u2, .int .i64 u3]) (by simp [results, Try.results11, go_sem]) rfl ⟨by rw [show max (u1 - 1) 0 = u1 - 1 by omega], below_of_chg0 ?_⟩
    repeat (first | with_reducible exact Chg.refl _ _ | with_reducible refine Chg.drew ?_ | (with_reducible refine Chg.set' ?_ ?_; · (first | omega | (simp; done) | (simp; omega))) | with_reducible refine Chg.alloc' ?_)

def rfreePost (w : World) (u0 u1 u2 u3 m0 m1 m2 m3 : Int) (e : Ending) (w' : World) : Prop :=
  e = .returned (.agg #[.int .i64 m0, .int .i64 m1, .int .i64 m2, .int .i64 m3, .int .i64 u0, .int .i64 u1, .int .i64 (max (u2 - 1) 0), .int .i64 u3]) ∧ Below w.heap.size w w'
theorem rfree_any (w : World) (u0 u1 u2 u3 m0 m1 m2 m3 : Int) (h1 : 0 ≤ u2) (h2 : u2 ≤ 1000) :
    Calls Try.prog 15 #[.agg #[.int .i64 m0, .int .i64 m1, .int .i64 m2, .int .i64 m3, .int .i64 u0, .int .i64 u1, .int .i64 u2, .int .i64 u3]] w (rfreePost w u0 u1 u2 u3 m0 m1 m2 m3) := by
  by_cases h : u2 = 0
  · subst h
    go_enter Try.func15, Try.ntmps15
    go_wp2
    refine bodyPost_ret (v := .agg #[.int .i64 m0, .int .i64 m1, .int .i64 m2, .int .i64 m3, .int .i64 u0, .int .i64 u1, .int .i64 0, .int .i64 u3]) (by simp [results, Try.results15, go_sem]) rfl ⟨rfl, below_of_chg0 ?_⟩
    repeat (first | with_reducible exact Chg.refl _ _ | with_reducible refine Chg.drew ?_ | (with_reducible refine Chg.set' ?_ ?_; · (first | omega | (simp; done) | (simp; omega))) | with_reducible refine Chg.alloc' ?_)
  · have h3 : 1 ≤ u2 := by omega
    clear h
    go_enter Try.func15, Try.ntmps15
    go_wp2
    refine bodyPost_ret (v := .agg #[.int .i64 m0, .int .i64 m1, .int .i64 m2, .int .i64 m3, .int .i64 u0, .int .i64 u1, .int .i64 (u2 - 1), .int .i64 u3]) (by simp [results, Try.results15, go_sem]) rfl ⟨by rw [show max (u2 - 1) 0 = u2 - 1 by omega], below_of_chg0 ?_⟩
    repeat (first | with_reducible exact Chg.refl _ _ | with_reducible refine Chg.drew ?_ | (with_reducible refine Chg.set' ?_ ?_; · (first | omega | (simp; done) | (simp; omega))) | with_reducible refine Chg.alloc' ?_)

end Go.Proofs.Ytgdjponooengaaa
