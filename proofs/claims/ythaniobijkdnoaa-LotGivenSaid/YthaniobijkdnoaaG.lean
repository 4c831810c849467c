/- Which instructions come next, in the reference, of a function without tables. Conditions: the place is one of the code. -/
import Derived.Test.YthaniobijkdnoaaF
namespace Go.Proofs.Ythaniobijkdnoaa
open Go.RowKit

/-- a call that answers a new row of numbers and turns nothing that was there -/
def RowPost (xs : List Int) (w : World) (e : Ending) (w' : World) : Prop := ∃ v, e = .returned v ∧ w'.ownsRow w.heap.size 3 1 v xs.length (xs.map (Value.int .i64)) ∧ Below w.heap.size w w'
theorem row_new {w : World} {base H : Nat} (c : List Value) (t : TypeId) (h : H = w.heap.size) (hb : base ≤ w.heap.size) (hl : c.length ≤ maxLen) :
    (w.alloc (.cells c.toArray t)).ownsRow base t 1 (.slice (some ⟨H, 0, none⟩) c.length c.length) c.length c := by
  subst h
  refine ⟨by simp, .inr ⟨w.heap.size, c.length, c.toArray, rfl, hb, heap_new w _, Nat.le_refl _, hl, by simp, by simp⟩⟩

theorem bare_agg (w : World) (s : ByteArray) (inn : Bool) (vo vp vr vl vc vn : Value) (an aa al : Option Addr) (cn ca cl : Nat) : Calls Try.prog 9 #[.agg #[.string s, .bool inn, vo, vp, vr, vl, vc, vn, .slice an 0 cn, .slice aa 0 ca, .slice al 0 cl]] w (AnsB (.bool true) w) :=
  bare1_any ⟨s, inn, [], [], [], [], [], []⟩ vo vp vr vl vc vn an aa al cn ca cl w

set_option maxHeartbeats 1000000 in
theorem node_any (w : World) (s : ByteArray) (inn : Bool) (vo vp vr vl vn : Value) (ac an aa al : Option Addr) (nc cc cn ca cl : Nat) (pc : Int) : Calls Try.prog 81 #[.agg #[.string s, .bool inn, vo, vp, vr, vl, .slice ac nc cc, vn, .slice an 0 cn, .slice aa 0 ca, .slice al 0 cl], .int .i64 pc] w (AnsB (.int .i64 0) w) := by
  have H9 : Hid (∀ W, Calls Try.prog 9 #[.agg #[.string s, .bool inn, vo, vp, vr, vl, .slice ac nc cc, vn, .slice an 0 cn, .slice aa 0 ca, .slice al 0 cl]] W (AnsB (.bool true) W)) := fun W => bare_agg W s inn vo vp vr vl (.slice ac nc cc) vn an aa al cn ca cl
  go_enter Try.func81, Try.ntmps81
  go_wp2_with (go_at_call 9; refine (H9.out _).mono ?_; rintro e w1 ⟨rfl, hb⟩; have HB1 := Lib.hid hb; clear hb)
  go_ret
  exact ⟨rfl, ((Below.refl _ _).alloc (Nat.le_refl _) _).trans (HB1.out.mono (by simp))⟩

/-- what comes next -/
def nextOf (op a pc : Int) : List Int := if op = 21 then [a] else if op = 22 ∧ a ≠ pc + 1 then [pc + 1, a] else if op = 25 ∨ op = 26 then [] else [pc + 1]
set_option maxRecDepth 100000 in
set_option maxHeartbeats 1000000 in
theorem next_jump (w : World) (s : ByteArray) (inn : Bool) (vo vp vr vl vn : Value) (an aa al : Option Addr) (nc cc cn ca cl : Nat) (pc : Nat) (b off : Nat) (x y : Int) (hpc : pc < nc) (hpc2 : nc ≤ 2000) (hb : b < w.heap.size) (hx : w.cell? ⟨b, off + pc * 2, none⟩ = some (.int .i64 x)) (hy : w.cell? ⟨b, off + pc * 2 + 1, none⟩ = some (.int .i64 y)) (h : x = 21) :
    Calls Try.prog 60 #[.agg #[.string s, .bool inn, vo, vp, vr, vl, .slice (some ⟨b, off, none⟩) nc cc, vn, .slice an 0 cn, .slice aa 0 ca, .slice al 0 cl], .int .i64 pc] w (RowPost [y] w) := by
  subst h
  go_enter Try.func60, Try.ntmps60
  go_wp2
  go_ret
  exact ⟨_, rfl, row_new [.int .i64 y] 3 (by simp) (by simp <;> omega) (by simp [maxLen]), (by repeat (first | with_reducible exact Below.refl _ _ | with_reducible refine Below.alloc ?_ (by simp <;> omega) _ | with_reducible refine Below.setCell ?_ (by simp <;> omega) _))⟩

set_option maxRecDepth 100000 in
set_option maxHeartbeats 1000000 in
theorem next_if (w : World) (s : ByteArray) (inn : Bool) (vo vp vr vl vn : Value) (an aa al : Option Addr) (nc cc cn ca cl : Nat) (pc : Nat) (b off : Nat) (x y : Int) (hpc : pc < nc) (hpc2 : nc ≤ 2000) (hb : b < w.heap.size) (hx : w.cell? ⟨b, off + pc * 2, none⟩ = some (.int .i64 x)) (hy : w.cell? ⟨b, off + pc * 2 + 1, none⟩ = some (.int .i64 y)) (h : x = 22) (h2 : (y != (pc : Int) + 1) = true) :
    Calls Try.prog 60 #[.agg #[.string s, .bool inn, vo, vp, vr, vl, .slice (some ⟨b, off, none⟩) nc cc, vn, .slice an 0 cn, .slice aa 0 ca, .slice al 0 cl], .int .i64 pc] w (RowPost [(pc : Int) + 1, y] w) := by
  subst h
  go_enter Try.func60, Try.ntmps60
  go_wp2
  go_ret
  exact ⟨_, rfl, row_new [.int .i64 ((pc : Int) + 1), .int .i64 y] 3 (by simp) (by simp <;> omega) (by simp [maxLen]), (by repeat (first | with_reducible exact Below.refl _ _ | with_reducible refine Below.alloc ?_ (by simp <;> omega) _ | with_reducible refine Below.setCell ?_ (by simp <;> omega) _))⟩

set_option maxRecDepth 100000 in
set_option maxHeartbeats 1000000 in
theorem next_ifs (w : World) (s : ByteArray) (inn : Bool) (vo vp vr vl vn : Value) (an aa al : Option Addr) (nc cc cn ca cl : Nat) (pc : Nat) (b off : Nat) (x y : Int) (hpc : pc < nc) (hpc2 : nc ≤ 2000) (hb : b < w.heap.size) (hx : w.cell? ⟨b, off + pc * 2, none⟩ = some (.int .i64 x)) (hy : w.cell? ⟨b, off + pc * 2 + 1, none⟩ = some (.int .i64 y)) (h : x = 22) (h2 : (y != (pc : Int) + 1) = false) :
    Calls Try.prog 60 #[.agg #[.string s, .bool inn, vo, vp, vr, vl, .slice (some ⟨b, off, none⟩) nc cc, vn, .slice an 0 cn, .slice aa 0 ca, .slice al 0 cl], .int .i64 pc] w (RowPost [(pc : Int) + 1] w) := by
  subst h
  go_enter Try.func60, Try.ntmps60
  go_wp2
  go_ret
  exact ⟨_, rfl, row_new [.int .i64 ((pc : Int) + 1)] 3 (by simp) (by simp <;> omega) (by simp [maxLen]), (by repeat (first | with_reducible exact Below.refl _ _ | with_reducible refine Below.alloc ?_ (by simp <;> omega) _ | with_reducible refine Below.setCell ?_ (by simp <;> omega) _))⟩

set_option maxRecDepth 100000 in
set_option maxHeartbeats 1000000 in
theorem next_ret (w : World) (s : ByteArray) (inn : Bool) (vo vp vr vl vn : Value) (an aa al : Option Addr) (nc cc cn ca cl : Nat) (pc : Nat) (b off : Nat) (x y : Int) (hpc : pc < nc) (hpc2 : nc ≤ 2000) (hb : b < w.heap.size) (hx : w.cell? ⟨b, off + pc * 2, none⟩ = some (.int .i64 x)) (hy : w.cell? ⟨b, off + pc * 2 + 1, none⟩ = some (.int .i64 y)) (h : x = 25) :
    Calls Try.prog 60 #[.agg #[.string s, .bool inn, vo, vp, vr, vl, .slice (some ⟨b, off, none⟩) nc cc, vn, .slice an 0 cn, .slice aa 0 ca, .slice al 0 cl], .int .i64 pc] w (RowPost [] w) := by
  subst h
  go_enter Try.func60, Try.ntmps60
  go_wp2
  go_ret
  exact ⟨_, rfl, World.ownsRow_nil _ _ _ _, (by repeat (first | with_reducible exact Below.refl _ _ | with_reducible refine Below.alloc ?_ (by simp <;> omega) _ | with_reducible refine Below.setCell ?_ (by simp <;> omega) _))⟩

set_option maxRecDepth 100000 in
set_option maxHeartbeats 1000000 in
theorem next_panic (w : World) (s : ByteArray) (inn : Bool) (vo vp vr vl vn : Value) (an aa al : Option Addr) (nc cc cn ca cl : Nat) (pc : Nat) (b off : Nat) (x y : Int) (hpc : pc < nc) (hpc2 : nc ≤ 2000) (hb : b < w.heap.size) (hx : w.cell? ⟨b, off + pc * 2, none⟩ = some (.int .i64 x)) (hy : w.cell? ⟨b, off + pc * 2 + 1, none⟩ = some (.int .i64 y)) (h : x = 26) :
    Calls Try.prog 60 #[.agg #[.string s, .bool inn, vo, vp, vr, vl, .slice (some ⟨b, off, none⟩) nc cc, vn, .slice an 0 cn, .slice aa 0 ca, .slice al 0 cl], .int .i64 pc] w (RowPost [] w) := by
  subst h
  go_enter Try.func60, Try.ntmps60
  go_wp2
  go_ret
  exact ⟨_, rfl, World.ownsRow_nil _ _ _ _, (by repeat (first | with_reducible exact Below.refl _ _ | with_reducible refine Below.alloc ?_ (by simp <;> omega) _ | with_reducible refine Below.setCell ?_ (by simp <;> omega) _))⟩

set_option maxRecDepth 100000 in
set_option maxHeartbeats 1000000 in
theorem next_other (w : World) (s : ByteArray) (inn : Bool) (vo vp vr vl vn : Value) (an aa al : Option Addr) (nc cc cn ca cl : Nat) (pc : Nat) (b off : Nat) (x y : Int) (hpc : pc < nc) (hpc2 : nc ≤ 2000) (hb : b < w.heap.size) (hx : w.cell? ⟨b, off + pc * 2, none⟩ = some (.int .i64 x)) (hy : w.cell? ⟨b, off + pc * 2 + 1, none⟩ = some (.int .i64 y)) (h1 : (x == 21) = false) (h2 : (x == 22) = false) (h3 : (x == 25) = false) (h4 : (x == 26) = false) (h5 : (x == 34) = false) :
    Calls Try.prog 60 #[.agg #[.string s, .bool inn, vo, vp, vr, vl, .slice (some ⟨b, off, none⟩) nc cc, vn, .slice an 0 cn, .slice aa 0 ca, .slice al 0 cl], .int .i64 pc] w (RowPost [(pc : Int) + 1] w) := by
  go_enter Try.func60, Try.ntmps60
  go_wp2
  go_ret
  exact ⟨_, rfl, row_new [.int .i64 ((pc : Int) + 1)] 3 (by simp) (by simp <;> omega) (by simp [maxLen]), (by repeat (first | with_reducible exact Below.refl _ _ | with_reducible refine Below.alloc ?_ (by simp <;> omega) _ | with_reducible refine Below.setCell ?_ (by simp <;> omega) _))⟩

theorem next_any (w : World) (s : ByteArray) (inn : Bool) (vo vp vr vl vn : Value) (an aa al : Option Addr) (nc cc cn ca cl : Nat) (pc : Nat) (b off : Nat) (x y : Int) (hpc : pc < nc) (hpc2 : nc ≤ 2000) (hb : b < w.heap.size) (hx : w.cell? ⟨b, off + pc * 2, none⟩ = some (.int .i64 x)) (hy : w.cell? ⟨b, off + pc * 2 + 1, none⟩ = some (.int .i64 y)) (hn : x ≠ 34) :
    Calls Try.prog 60 #[.agg #[.string s, .bool inn, vo, vp, vr, vl, .slice (some ⟨b, off, none⟩) nc cc, vn, .slice an 0 cn, .slice aa 0 ca, .slice al 0 cl], .int .i64 pc] w (RowPost (nextOf x y pc) w) := by
  by_cases h1 : x = 21
  · rw [show nextOf x y pc = [y] by simp [nextOf, h1]]
    exact next_jump w s inn vo vp vr vl vn an aa al nc cc cn ca cl pc b off x y hpc hpc2 hb hx hy h1
  · by_cases h2 : x = 22
    · by_cases h3 : y = pc + 1
      · rw [show nextOf x y pc = [(pc : Int) + 1] by simp [nextOf, h2, h3]]
        exact next_ifs w s inn vo vp vr vl vn an aa al nc cc cn ca cl pc b off x y hpc hpc2 hb hx hy h2 (by simpa using h3)
      · rw [show nextOf x y pc = [(pc : Int) + 1, y] by simp [nextOf, h2, h3]]
        exact next_if w s inn vo vp vr vl vn an aa al nc cc cn ca cl pc b off x y hpc hpc2 hb hx hy h2 (by simpa using h3)
    · by_cases h3 : x = 25
      · rw [show nextOf x y pc = [] by simp [nextOf, h3]]
        exact next_ret w s inn vo vp vr vl vn an aa al nc cc cn ca cl pc b off x y hpc hpc2 hb hx hy h3
      · by_cases h4 : x = 26
        · rw [show nextOf x y pc = [] by simp [nextOf, h4]]
          exact next_panic w s inn vo vp vr vl vn an aa al nc cc cn ca cl pc b off x y hpc hpc2 hb hx hy h4
        · rw [show nextOf x y pc = [(pc : Int) + 1] by simp [nextOf, h1, h2, h3, h4]]
          exact next_other w s inn vo vp vr vl vn an aa al nc cc cn ca cl pc b off x y hpc hpc2 hb hx hy (by simpa using h1) (by simpa using h2) (by simpa using h3) (by simpa using h4) (by simpa using hn)

theorem raises_0 (w : World) : Calls Try.prog 99 #[.int .i64 0] w fun e w' => e = .returned (.bool false) ∧ w = w' := by
  go_enter Try.func99, Try.ntmps99
  go_wp2
  go_ret
  exact ⟨rfl, rfl⟩
theorem raises_1 (w : World) : Calls Try.prog 99 #[.int .i64 1] w fun e w' => e = .returned (.bool false) ∧ w = w' := by
  go_enter Try.func99, Try.ntmps99
  go_wp2
  go_ret
  exact ⟨rfl, rfl⟩
theorem raises_2 (w : World) : Calls Try.prog 99 #[.int .i64 2] w fun e w' => e = .returned (.bool false) ∧ w = w' := by
  go_enter Try.func99, Try.ntmps99
  go_wp2
  go_ret
  exact ⟨rfl, rfl⟩
theorem raises_3 (w : World) : Calls Try.prog 99 #[.int .i64 3] w fun e w' => e = .returned (.bool false) ∧ w = w' := by
  go_enter Try.func99, Try.ntmps99
  go_wp2
  go_ret
  exact ⟨rfl, rfl⟩
theorem raises_4 (w : World) : Calls Try.prog 99 #[.int .i64 4] w fun e w' => e = .returned (.bool false) ∧ w = w' := by
  go_enter Try.func99, Try.ntmps99
  go_wp2
  go_ret
  exact ⟨rfl, rfl⟩
theorem raises_5 (w : World) : Calls Try.prog 99 #[.int .i64 5] w fun e w' => e = .returned (.bool false) ∧ w = w' := by
  go_enter Try.func99, Try.ntmps99
  go_wp2
  go_ret
  exact ⟨rfl, rfl⟩
theorem raises_6 (w : World) : Calls Try.prog 99 #[.int .i64 6] w fun e w' => e = .returned (.bool false) ∧ w = w' := by
  go_enter Try.func99, Try.ntmps99
  go_wp2
  go_ret
  exact ⟨rfl, rfl⟩
theorem raises_7 (w : World) : Calls Try.prog 99 #[.int .i64 7] w fun e w' => e = .returned (.bool false) ∧ w = w' := by
  go_enter Try.func99, Try.ntmps99
  go_wp2
  go_ret
  exact ⟨rfl, rfl⟩
theorem raises_8 (w : World) : Calls Try.prog 99 #[.int .i64 8] w fun e w' => e = .returned (.bool false) ∧ w = w' := by
  go_enter Try.func99, Try.ntmps99
  go_wp2
  go_ret
  exact ⟨rfl, rfl⟩
theorem raises_9 (w : World) : Calls Try.prog 99 #[.int .i64 9] w fun e w' => e = .returned (.bool true) ∧ w = w' := by
  go_enter Try.func99, Try.ntmps99
  go_wp2
  go_ret
  exact ⟨rfl, rfl⟩
theorem raises_10 (w : World) : Calls Try.prog 99 #[.int .i64 10] w fun e w' => e = .returned (.bool true) ∧ w = w' := by
  go_enter Try.func99, Try.ntmps99
  go_wp2
  go_ret
  exact ⟨rfl, rfl⟩
theorem raises_11 (w : World) : Calls Try.prog 99 #[.int .i64 11] w fun e w' => e = .returned (.bool false) ∧ w = w' := by
  go_enter Try.func99, Try.ntmps99
  go_wp2
  go_ret
  exact ⟨rfl, rfl⟩
theorem raises_12 (w : World) : Calls Try.prog 99 #[.int .i64 12] w fun e w' => e = .returned (.bool false) ∧ w = w' := by
  go_enter Try.func99, Try.ntmps99
  go_wp2
  go_ret
  exact ⟨rfl, rfl⟩
theorem raises_13 (w : World) : Calls Try.prog 99 #[.int .i64 13] w fun e w' => e = .returned (.bool false) ∧ w = w' := by
  go_enter Try.func99, Try.ntmps99
  go_wp2
  go_ret
  exact ⟨rfl, rfl⟩
theorem raises_14 (w : World) : Calls Try.prog 99 #[.int .i64 14] w fun e w' => e = .returned (.bool false) ∧ w = w' := by
  go_enter Try.func99, Try.ntmps99
  go_wp2
  go_ret
  exact ⟨rfl, rfl⟩
theorem raises_15 (w : World) : Calls Try.prog 99 #[.int .i64 15] w fun e w' => e = .returned (.bool false) ∧ w = w' := by
  go_enter Try.func99, Try.ntmps99
  go_wp2
  go_ret
  exact ⟨rfl, rfl⟩
theorem raises_16 (w : World) : Calls Try.prog 99 #[.int .i64 16] w fun e w' => e = .returned (.bool false) ∧ w = w' := by
  go_enter Try.func99, Try.ntmps99
  go_wp2
  go_ret
  exact ⟨rfl, rfl⟩
theorem raises_17 (w : World) : Calls Try.prog 99 #[.int .i64 17] w fun e w' => e = .returned (.bool false) ∧ w = w' := by
  go_enter Try.func99, Try.ntmps99
  go_wp2
  go_ret
  exact ⟨rfl, rfl⟩
theorem raises_18 (w : World) : Calls Try.prog 99 #[.int .i64 18] w fun e w' => e = .returned (.bool false) ∧ w = w' := by
  go_enter Try.func99, Try.ntmps99
  go_wp2
  go_ret
  exact ⟨rfl, rfl⟩
theorem raises_19 (w : World) : Calls Try.prog 99 #[.int .i64 19] w fun e w' => e = .returned (.bool false) ∧ w = w' := by
  go_enter Try.func99, Try.ntmps99
  go_wp2
  go_ret
  exact ⟨rfl, rfl⟩
theorem raises_20 (w : World) : Calls Try.prog 99 #[.int .i64 20] w fun e w' => e = .returned (.bool false) ∧ w = w' := by
  go_enter Try.func99, Try.ntmps99
  go_wp2
  go_ret
  exact ⟨rfl, rfl⟩
theorem raises_21 (w : World) : Calls Try.prog 99 #[.int .i64 21] w fun e w' => e = .returned (.bool false) ∧ w = w' := by
  go_enter Try.func99, Try.ntmps99
  go_wp2
  go_ret
  exact ⟨rfl, rfl⟩
theorem raises_22 (w : World) : Calls Try.prog 99 #[.int .i64 22] w fun e w' => e = .returned (.bool false) ∧ w = w' := by
  go_enter Try.func99, Try.ntmps99
  go_wp2
  go_ret
  exact ⟨rfl, rfl⟩
theorem raises_23 (w : World) : Calls Try.prog 99 #[.int .i64 23] w fun e w' => e = .returned (.bool true) ∧ w = w' := by
  go_enter Try.func99, Try.ntmps99
  go_wp2
  go_ret
  exact ⟨rfl, rfl⟩
theorem raises_24 (w : World) : Calls Try.prog 99 #[.int .i64 24] w fun e w' => e = .returned (.bool false) ∧ w = w' := by
  go_enter Try.func99, Try.ntmps99
  go_wp2
  go_ret
  exact ⟨rfl, rfl⟩
theorem raises_25 (w : World) : Calls Try.prog 99 #[.int .i64 25] w fun e w' => e = .returned (.bool true) ∧ w = w' := by
  go_enter Try.func99, Try.ntmps99
  go_wp2
  go_ret
  exact ⟨rfl, rfl⟩
theorem raises_26 (w : World) : Calls Try.prog 99 #[.int .i64 26] w fun e w' => e = .returned (.bool true) ∧ w = w' := by
  go_enter Try.func99, Try.ntmps99
  go_wp2
  go_ret
  exact ⟨rfl, rfl⟩
theorem raises_27 (w : World) : Calls Try.prog 99 #[.int .i64 27] w fun e w' => e = .returned (.bool false) ∧ w = w' := by
  go_enter Try.func99, Try.ntmps99
  go_wp2
  go_ret
  exact ⟨rfl, rfl⟩
theorem raises_28 (w : World) : Calls Try.prog 99 #[.int .i64 28] w fun e w' => e = .returned (.bool false) ∧ w = w' := by
  go_enter Try.func99, Try.ntmps99
  go_wp2
  go_ret
  exact ⟨rfl, rfl⟩
theorem raises_29 (w : World) : Calls Try.prog 99 #[.int .i64 29] w fun e w' => e = .returned (.bool false) ∧ w = w' := by
  go_enter Try.func99, Try.ntmps99
  go_wp2
  go_ret
  exact ⟨rfl, rfl⟩
theorem raises_30 (w : World) : Calls Try.prog 99 #[.int .i64 30] w fun e w' => e = .returned (.bool false) ∧ w = w' := by
  go_enter Try.func99, Try.ntmps99
  go_wp2
  go_ret
  exact ⟨rfl, rfl⟩
theorem raises_31 (w : World) : Calls Try.prog 99 #[.int .i64 31] w fun e w' => e = .returned (.bool false) ∧ w = w' := by
  go_enter Try.func99, Try.ntmps99
  go_wp2
  go_ret
  exact ⟨rfl, rfl⟩
theorem raises_32 (w : World) : Calls Try.prog 99 #[.int .i64 32] w fun e w' => e = .returned (.bool false) ∧ w = w' := by
  go_enter Try.func99, Try.ntmps99
  go_wp2
  go_ret
  exact ⟨rfl, rfl⟩
theorem raises_33 (w : World) : Calls Try.prog 99 #[.int .i64 33] w fun e w' => e = .returned (.bool true) ∧ w = w' := by
  go_enter Try.func99, Try.ntmps99
  go_wp2
  go_ret
  exact ⟨rfl, rfl⟩
theorem raises_34 (w : World) : Calls Try.prog 99 #[.int .i64 34] w fun e w' => e = .returned (.bool true) ∧ w = w' := by
  go_enter Try.func99, Try.ntmps99
  go_wp2
  go_ret
  exact ⟨rfl, rfl⟩
/-- may a panic come of it -/
def raisesB (op : Int) : Bool := decide (op = 9 ∨ op = 10 ∨ op = 23 ∨ op = 25 ∨ op = 26 ∨ op = 33 ∨ op = 34)
theorem raises_any (op : Int) (w : World) (h : 0 ≤ op) (h' : op < 35) : Calls Try.prog 99 #[.int .i64 op] w fun e w' => e = .returned (.bool (raisesB op)) ∧ w = w' := by
  rcases op_cases op h h' with rfl | rfl | rfl | rfl | rfl | rfl | rfl | rfl | rfl | rfl | rfl | rfl | rfl | rfl | rfl | rfl | rfl | rfl | rfl | rfl | rfl | rfl | rfl | rfl | rfl | rfl | rfl | rfl | rfl | rfl | rfl | rfl | rfl | rfl | rfl
  · exact raises_0 w
  · exact raises_1 w
  · exact raises_2 w
  · exact raises_3 w
  · exact raises_4 w
  · exact raises_5 w
  · exact raises_6 w
  · exact raises_7 w
  · exact raises_8 w
  · exact raises_9 w
  · exact raises_10 w
  · exact raises_11 w
  · exact raises_12 w
  · exact raises_13 w
  · exact raises_14 w
  · exact raises_15 w
  · exact raises_16 w
  · exact raises_17 w
  · exact raises_18 w
  · exact raises_19 w
  · exact raises_20 w
  · exact raises_21 w
  · exact raises_22 w
  · exact raises_23 w
  · exact raises_24 w
  · exact raises_25 w
  · exact raises_26 w
  · exact raises_27 w
  · exact raises_28 w
  · exact raises_29 w
  · exact raises_30 w
  · exact raises_31 w
  · exact raises_32 w
  · exact raises_33 w
  · exact raises_34 w

theorem up0_any (w : World) (a : Option Addr) (c : Nat) : Calls Try.prog 100 #[.slice a 0 c, .int .i64 0] w fun e w' => e = .returned (.slice none 0 0) ∧ w = w' := by
  go_enter Try.func100, Try.ntmps100
  go_wp2
  go_loop [1, 5, 6] (fun n o i => n = .int .i64 0 ∧ o = .slice none 0 0 ∧ i = .int .i64 0) (fun _ _ _ => 0)
  case atStart => exact ⟨rfl, rfl, rfl⟩
  case round =>
    obtain ⟨rfl, rfl, rfl⟩ := hrel
    go_wp2
    go_ret
    exact ⟨rfl, rfl⟩

set_option maxHeartbeats 1000000 in
theorem opens_any (w : World) (s : ByteArray) (inn : Bool) (vo vp vr vl vn : Value) (an aa al : Option Addr) (nc cc cn ca cl : Nat) (pc : Nat) (b off : Nat) (x y : Int) (hpc : pc < nc) (hpc2 : nc ≤ 2000) (hb : b < w.heap.size) (hx : w.cell? ⟨b, off + pc * 2, none⟩ = some (.int .i64 x)) (hy : w.cell? ⟨b, off + pc * 2 + 1, none⟩ = some (.int .i64 y)) (h1 : (x == 33) = false) :
    Calls Try.prog 61 #[.agg #[.string s, .bool inn, vo, vp, vr, vl, .slice (some ⟨b, off, none⟩) nc cc, vn, .slice an 0 cn, .slice aa 0 ca, .slice al 0 cl], .int .i64 pc] w (AnsB (.slice none 0 0) w) := by
  go_enter Try.func61, Try.ntmps61
  go_wp2
  go_ret
  exact ⟨rfl, (by repeat (first | with_reducible exact Below.refl _ _ | with_reducible refine Below.alloc ?_ (by simp <;> omega) _ | with_reducible refine Below.setCell ?_ (by simp <;> omega) _))⟩
end Go.Proofs.Ythaniobijkdnoaa
