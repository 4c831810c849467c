/- The reference's tests of types, instructions and lines answer true where these are right. Conditions: what right is (TyR, InR, LnR). -/
import Derived.Test.YthaniobijkdnoaaB
namespace Go.Proofs.Ythaniobijkdnoaa
open Go.RowKit

def kindOf (op : Int) : Int := if op = 1 then 1 else if op = 2 ∨ op = 3 then 2 else if op = 21 ∨ op = 22 then 3 else if op = 23 ∨ op = 24 then 4 else if op = 28 ∨ op = 29 then 5 else if op = 33 ∨ op = 34 then 6 else 0
def mostOf (k : Int) : Int := if k = 2 then 255 else if k = 3 then 1999 else if k = 4 then 39 else if k = 5 then 3 else if k = 6 then 119 else 0
def InR (x : Int × Int) : Prop := 0 ≤ x.1 ∧ x.1 < 35 ∧ (kindOf x.1 = 1 ∨ (0 ≤ x.2 ∧ x.2 ≤ mostOf (kindOf x.1)))
def TyR (xs : List Int) (most : Int) : Prop := (∀ x ∈ xs, x = 1 ∨ x = 2) ∧ (xs.length : Int) ≤ most
def LnR (xs : List Int) : Prop := ∀ x ∈ xs, 0 ≤ x ∧ x ≤ 65535

theorem may_ty (t : Int) (w : World) (h : t = 1 ∨ t = 2) : Calls Try.prog 74 #[.int .i64 t] w (Ans (.bool true) w) := by
  rcases h with rfl | rfl
  all_goals
    go_enter Try.func74, Try.ntmps74
    go_wp2
    go_ret
    exact ans_0 _ _

theorem may_ty0 (t : Int) (w : World) (h : t = 1 ∨ t = 2) : Calls Try.prog 74 #[.int .i64 t] w fun e w' => e = .returned (.bool true) ∧ w = w' := by
  rcases h with rfl | rfl
  all_goals
    go_enter Try.func74, Try.ntmps74
    go_wp2
    go_ret
    exact ⟨rfl, rfl⟩

set_option maxHeartbeats 1000000 in
theorem right_ty (xs : List Int) (v : Value) (most : Int) (w : World) (h1 : IV w v xs) (h : TyR xs most) (hl0 : xs.length ≤ 1000000) : Calls Try.prog 50 #[v, .int .i64 most] w (Ans (.bool true) w) := by
  obtain ⟨a, cap, rfl, hl, hm, hc⟩ := h1
  obtain ⟨hr, hle⟩ := h
  have HC := Lib.hid hc
  have HR := Lib.hid hr
  obtain ⟨n, hn⟩ : ∃ n, n = xs.length := ⟨_, rfl⟩
  rw [← hn] at hl hl0 hle ⊢
  have HN := Lib.hid hn
  clear hc hn hr
  have hle' : decide ((n : Int) ≤ most) = true := by simpa using hle
  go_enter Try.func50, Try.ntmps50
  go_wp2
  go_loop [5] (fun i => ∃ k : Nat, k ≤ n ∧ i = .int .i64 k) (fun i => n - (intOf i).toNat)
  case atStart => exact ⟨0, Nat.zero_le _, rfl⟩
  case round =>
    obtain ⟨k, hk, rfl⟩ := hrel
    by_cases hlt : k < n
    · have hkl : k < xs.length := by have := HN.out; omega
      obtain ⟨b, off, rfl, hb, hcell⟩ := HC.out k hkl
      obtain ⟨x, hx⟩ : ∃ x, x = xs[k] := ⟨_, rfl⟩
      have H74 : Hid (∀ W, Calls Try.prog 74 #[.int .i64 x] W fun e w' => e = .returned (.bool true) ∧ W = w') := fun W => by
        refine may_ty0 x W ?_
        rw [hx]; exact HR.out _ (List.getElem_mem _)
      rw [← hx] at hcell
      clear hx
      go_wp2_with (go_at_call 74; refine (H74.out _).mono ?_; rintro e w1 ⟨rfl, rfl⟩)
      go_round
      case rel => exact ⟨k + 1, by omega, by go_num⟩
      case measure => simp [intOf] <;> omega
    · go_wp2
      go_ret
      exact ans_0 _ _

set_option maxHeartbeats 1000000 in
theorem right_ln (xs : List Int) (v : Value) (w : World) (h1 : IV w v xs) (hr : LnR xs) (hl0 : xs.length ≤ 2000) : Calls Try.prog 52 #[v] w (Ans (.bool true) w) := by
  obtain ⟨a, cap, rfl, hl, hm, hc⟩ := h1
  have HC := Lib.hid hc
  have HR := Lib.hid hr
  obtain ⟨n, hn⟩ : ∃ n, n = xs.length := ⟨_, rfl⟩
  rw [← hn] at hl hl0 ⊢
  have HN := Lib.hid hn
  clear hc hn hr
  have hl0' : decide ((n : Int) ≤ 2000) = true := by simp; omega
  go_enter Try.func52, Try.ntmps52
  go_wp2
  go_loopw [3] (fun i wr => ∃ k m : Nat, k ≤ n ∧ i = .int .i64 k ∧ wr = w.drewN m) (fun i _ => n - (intOf i).toNat)
  case atStart => exact ⟨0, 0, Nat.zero_le _, rfl, rfl⟩
  case round =>
    obtain ⟨k, m, hk, rfl, rfl⟩ := hrel
    by_cases hlt : k < n
    · have hkl : k < xs.length := by have := HN.out; omega
      obtain ⟨b, off, rfl, hb, hcell⟩ := HC.out k hkl
      obtain ⟨x, hx⟩ : ∃ x, x = xs[k] := ⟨_, rfl⟩
      have hx2 : 0 ≤ x ∧ x ≤ 65535 := by rw [hx]; exact HR.out _ (List.getElem_mem _)
      obtain ⟨hx0, hx1⟩ := hx2
      rw [← hx] at hcell
      clear hx
      go_wp2
      go_round
      case rel => exact ⟨k + 1, _, by omega, by go_num, rfl⟩
      case measure => simp [intOf] <;> omega
    · go_wp2
      go_ret
      exact ans_n _ _ _

theorem op_cases (op : Int) (h : 0 ≤ op) (h' : op < 35) : op = 0 ∨ op = 1 ∨ op = 2 ∨ op = 3 ∨ op = 4 ∨ op = 5 ∨ op = 6 ∨ op = 7 ∨ op = 8 ∨ op = 9 ∨ op = 10 ∨ op = 11 ∨ op = 12 ∨ op = 13 ∨ op = 14 ∨ op = 15 ∨ op = 16 ∨ op = 17 ∨ op = 18 ∨ op = 19 ∨ op = 20 ∨ op = 21 ∨ op = 22 ∨ op = 23 ∨ op = 24 ∨ op = 25 ∨ op = 26 ∨ op = 27 ∨ op = 28 ∨ op = 29 ∨ op = 30 ∨ op = 31 ∨ op = 32 ∨ op = 33 ∨ op = 34 := by omega

theorem operand_0 (w : World) : Calls Try.prog 75 #[.int .i64 0] w fun e w' => e = .returned (.int .i64 0) ∧ w = w' := by
  go_enter Try.func75, Try.ntmps75
  go_wp2
  go_ret
  exact ⟨rfl, rfl⟩
theorem operand_1 (w : World) : Calls Try.prog 75 #[.int .i64 1] w fun e w' => e = .returned (.int .i64 1) ∧ w = w' := by
  go_enter Try.func75, Try.ntmps75
  go_wp2
  go_ret
  exact ⟨rfl, rfl⟩
theorem operand_2 (w : World) : Calls Try.prog 75 #[.int .i64 2] w fun e w' => e = .returned (.int .i64 2) ∧ w = w' := by
  go_enter Try.func75, Try.ntmps75
  go_wp2
  go_ret
  exact ⟨rfl, rfl⟩
theorem operand_3 (w : World) : Calls Try.prog 75 #[.int .i64 3] w fun e w' => e = .returned (.int .i64 2) ∧ w = w' := by
  go_enter Try.func75, Try.ntmps75
  go_wp2
  go_ret
  exact ⟨rfl, rfl⟩
theorem operand_4 (w : World) : Calls Try.prog 75 #[.int .i64 4] w fun e w' => e = .returned (.int .i64 0) ∧ w = w' := by
  go_enter Try.func75, Try.ntmps75
  go_wp2
  go_ret
  exact ⟨rfl, rfl⟩
theorem operand_5 (w : World) : Calls Try.prog 75 #[.int .i64 5] w fun e w' => e = .returned (.int .i64 0) ∧ w = w' := by
  go_enter Try.func75, Try.ntmps75
  go_wp2
  go_ret
  exact ⟨rfl, rfl⟩
theorem operand_6 (w : World) : Calls Try.prog 75 #[.int .i64 6] w fun e w' => e = .returned (.int .i64 0) ∧ w = w' := by
  go_enter Try.func75, Try.ntmps75
  go_wp2
  go_ret
  exact ⟨rfl, rfl⟩
theorem operand_7 (w : World) : Calls Try.prog 75 #[.int .i64 7] w fun e w' => e = .returned (.int .i64 0) ∧ w = w' := by
  go_enter Try.func75, Try.ntmps75
  go_wp2
  go_ret
  exact ⟨rfl, rfl⟩
theorem operand_8 (w : World) : Calls Try.prog 75 #[.int .i64 8] w fun e w' => e = .returned (.int .i64 0) ∧ w = w' := by
  go_enter Try.func75, Try.ntmps75
  go_wp2
  go_ret
  exact ⟨rfl, rfl⟩
theorem operand_9 (w : World) : Calls Try.prog 75 #[.int .i64 9] w fun e w' => e = .returned (.int .i64 0) ∧ w = w' := by
  go_enter Try.func75, Try.ntmps75
  go_wp2
  go_ret
  exact ⟨rfl, rfl⟩
theorem operand_10 (w : World) : Calls Try.prog 75 #[.int .i64 10] w fun e w' => e = .returned (.int .i64 0) ∧ w = w' := by
  go_enter Try.func75, Try.ntmps75
  go_wp2
  go_ret
  exact ⟨rfl, rfl⟩
theorem operand_11 (w : World) : Calls Try.prog 75 #[.int .i64 11] w fun e w' => e = .returned (.int .i64 0) ∧ w = w' := by
  go_enter Try.func75, Try.ntmps75
  go_wp2
  go_ret
  exact ⟨rfl, rfl⟩
theorem operand_12 (w : World) : Calls Try.prog 75 #[.int .i64 12] w fun e w' => e = .returned (.int .i64 0) ∧ w = w' := by
  go_enter Try.func75, Try.ntmps75
  go_wp2
  go_ret
  exact ⟨rfl, rfl⟩
theorem operand_13 (w : World) : Calls Try.prog 75 #[.int .i64 13] w fun e w' => e = .returned (.int .i64 0) ∧ w = w' := by
  go_enter Try.func75, Try.ntmps75
  go_wp2
  go_ret
  exact ⟨rfl, rfl⟩
theorem operand_14 (w : World) : Calls Try.prog 75 #[.int .i64 14] w fun e w' => e = .returned (.int .i64 0) ∧ w = w' := by
  go_enter Try.func75, Try.ntmps75
  go_wp2
  go_ret
  exact ⟨rfl, rfl⟩
theorem operand_15 (w : World) : Calls Try.prog 75 #[.int .i64 15] w fun e w' => e = .returned (.int .i64 0) ∧ w = w' := by
  go_enter Try.func75, Try.ntmps75
  go_wp2
  go_ret
  exact ⟨rfl, rfl⟩
theorem operand_16 (w : World) : Calls Try.prog 75 #[.int .i64 16] w fun e w' => e = .returned (.int .i64 0) ∧ w = w' := by
  go_enter Try.func75, Try.ntmps75
  go_wp2
  go_ret
  exact ⟨rfl, rfl⟩
theorem operand_17 (w : World) : Calls Try.prog 75 #[.int .i64 17] w fun e w' => e = .returned (.int .i64 0) ∧ w = w' := by
  go_enter Try.func75, Try.ntmps75
  go_wp2
  go_ret
  exact ⟨rfl, rfl⟩
theorem operand_18 (w : World) : Calls Try.prog 75 #[.int .i64 18] w fun e w' => e = .returned (.int .i64 0) ∧ w = w' := by
  go_enter Try.func75, Try.ntmps75
  go_wp2
  go_ret
  exact ⟨rfl, rfl⟩
theorem operand_19 (w : World) : Calls Try.prog 75 #[.int .i64 19] w fun e w' => e = .returned (.int .i64 0) ∧ w = w' := by
  go_enter Try.func75, Try.ntmps75
  go_wp2
  go_ret
  exact ⟨rfl, rfl⟩
theorem operand_20 (w : World) : Calls Try.prog 75 #[.int .i64 20] w fun e w' => e = .returned (.int .i64 0) ∧ w = w' := by
  go_enter Try.func75, Try.ntmps75
  go_wp2
  go_ret
  exact ⟨rfl, rfl⟩
theorem operand_21 (w : World) : Calls Try.prog 75 #[.int .i64 21] w fun e w' => e = .returned (.int .i64 3) ∧ w = w' := by
  go_enter Try.func75, Try.ntmps75
  go_wp2
  go_ret
  exact ⟨rfl, rfl⟩
theorem operand_22 (w : World) : Calls Try.prog 75 #[.int .i64 22] w fun e w' => e = .returned (.int .i64 3) ∧ w = w' := by
  go_enter Try.func75, Try.ntmps75
  go_wp2
  go_ret
  exact ⟨rfl, rfl⟩
theorem operand_23 (w : World) : Calls Try.prog 75 #[.int .i64 23] w fun e w' => e = .returned (.int .i64 4) ∧ w = w' := by
  go_enter Try.func75, Try.ntmps75
  go_wp2
  go_ret
  exact ⟨rfl, rfl⟩
theorem operand_24 (w : World) : Calls Try.prog 75 #[.int .i64 24] w fun e w' => e = .returned (.int .i64 4) ∧ w = w' := by
  go_enter Try.func75, Try.ntmps75
  go_wp2
  go_ret
  exact ⟨rfl, rfl⟩
theorem operand_25 (w : World) : Calls Try.prog 75 #[.int .i64 25] w fun e w' => e = .returned (.int .i64 0) ∧ w = w' := by
  go_enter Try.func75, Try.ntmps75
  go_wp2
  go_ret
  exact ⟨rfl, rfl⟩
theorem operand_26 (w : World) : Calls Try.prog 75 #[.int .i64 26] w fun e w' => e = .returned (.int .i64 0) ∧ w = w' := by
  go_enter Try.func75, Try.ntmps75
  go_wp2
  go_ret
  exact ⟨rfl, rfl⟩
theorem operand_27 (w : World) : Calls Try.prog 75 #[.int .i64 27] w fun e w' => e = .returned (.int .i64 0) ∧ w = w' := by
  go_enter Try.func75, Try.ntmps75
  go_wp2
  go_ret
  exact ⟨rfl, rfl⟩
theorem operand_28 (w : World) : Calls Try.prog 75 #[.int .i64 28] w fun e w' => e = .returned (.int .i64 5) ∧ w = w' := by
  go_enter Try.func75, Try.ntmps75
  go_wp2
  go_ret
  exact ⟨rfl, rfl⟩
theorem operand_29 (w : World) : Calls Try.prog 75 #[.int .i64 29] w fun e w' => e = .returned (.int .i64 5) ∧ w = w' := by
  go_enter Try.func75, Try.ntmps75
  go_wp2
  go_ret
  exact ⟨rfl, rfl⟩
theorem operand_30 (w : World) : Calls Try.prog 75 #[.int .i64 30] w fun e w' => e = .returned (.int .i64 0) ∧ w = w' := by
  go_enter Try.func75, Try.ntmps75
  go_wp2
  go_ret
  exact ⟨rfl, rfl⟩
theorem operand_31 (w : World) : Calls Try.prog 75 #[.int .i64 31] w fun e w' => e = .returned (.int .i64 0) ∧ w = w' := by
  go_enter Try.func75, Try.ntmps75
  go_wp2
  go_ret
  exact ⟨rfl, rfl⟩
theorem operand_32 (w : World) : Calls Try.prog 75 #[.int .i64 32] w fun e w' => e = .returned (.int .i64 0) ∧ w = w' := by
  go_enter Try.func75, Try.ntmps75
  go_wp2
  go_ret
  exact ⟨rfl, rfl⟩
theorem operand_33 (w : World) : Calls Try.prog 75 #[.int .i64 33] w fun e w' => e = .returned (.int .i64 6) ∧ w = w' := by
  go_enter Try.func75, Try.ntmps75
  go_wp2
  go_ret
  exact ⟨rfl, rfl⟩
theorem operand_34 (w : World) : Calls Try.prog 75 #[.int .i64 34] w fun e w' => e = .returned (.int .i64 6) ∧ w = w' := by
  go_enter Try.func75, Try.ntmps75
  go_wp2
  go_ret
  exact ⟨rfl, rfl⟩
theorem operand_any (op : Int) (w : World) (h : 0 ≤ op) (h' : op < 35) : Calls Try.prog 75 #[.int .i64 op] w fun e w' => e = .returned (.int .i64 (kindOf op)) ∧ w = w' := by
  rcases op_cases op h h' with rfl | rfl | rfl | rfl | rfl | rfl | rfl | rfl | rfl | rfl | rfl | rfl | rfl | rfl | rfl | rfl | rfl | rfl | rfl | rfl | rfl | rfl | rfl | rfl | rfl | rfl | rfl | rfl | rfl | rfl | rfl | rfl | rfl | rfl | rfl
  · exact operand_0 w
  · exact operand_1 w
  · exact operand_2 w
  · exact operand_3 w
  · exact operand_4 w
  · exact operand_5 w
  · exact operand_6 w
  · exact operand_7 w
  · exact operand_8 w
  · exact operand_9 w
  · exact operand_10 w
  · exact operand_11 w
  · exact operand_12 w
  · exact operand_13 w
  · exact operand_14 w
  · exact operand_15 w
  · exact operand_16 w
  · exact operand_17 w
  · exact operand_18 w
  · exact operand_19 w
  · exact operand_20 w
  · exact operand_21 w
  · exact operand_22 w
  · exact operand_23 w
  · exact operand_24 w
  · exact operand_25 w
  · exact operand_26 w
  · exact operand_27 w
  · exact operand_28 w
  · exact operand_29 w
  · exact operand_30 w
  · exact operand_31 w
  · exact operand_32 w
  · exact operand_33 w
  · exact operand_34 w

theorem kind_cases (op : Int) : kindOf op = 0 ∨ kindOf op = 1 ∨ kindOf op = 2 ∨ kindOf op = 3 ∨ kindOf op = 4 ∨ kindOf op = 5 ∨ kindOf op = 6 := by
  unfold kindOf
  repeat' split
  all_goals simp

theorem most_0 (w : World) : Calls Try.prog 76 #[.int .i64 0] w fun e w' => e = .returned (.int .i64 0) ∧ w = w' := by
  have i0 : ∀ w, (Instr.index 133 (.agg #[.int .i64 0, .int .i64 0, .int .i64 255, .int .i64 1999, .int .i64 39, .int .i64 3, .int .i64 119]) (.int .i64 0)).run Try.prog w = .ok (.int .i64 0) w := fun _ => by kernel_rfl
  go_enter Try.func76, Try.ntmps76
  go_wp2
  go_ret
  exact ⟨rfl, rfl⟩
theorem most_1 (w : World) : Calls Try.prog 76 #[.int .i64 1] w fun e w' => e = .returned (.int .i64 0) ∧ w = w' := by
  have i0 : ∀ w, (Instr.index 133 (.agg #[.int .i64 0, .int .i64 0, .int .i64 255, .int .i64 1999, .int .i64 39, .int .i64 3, .int .i64 119]) (.int .i64 1)).run Try.prog w = .ok (.int .i64 0) w := fun _ => by kernel_rfl
  go_enter Try.func76, Try.ntmps76
  go_wp2
  go_ret
  exact ⟨rfl, rfl⟩
theorem most_2 (w : World) : Calls Try.prog 76 #[.int .i64 2] w fun e w' => e = .returned (.int .i64 255) ∧ w = w' := by
  have i0 : ∀ w, (Instr.index 133 (.agg #[.int .i64 0, .int .i64 0, .int .i64 255, .int .i64 1999, .int .i64 39, .int .i64 3, .int .i64 119]) (.int .i64 2)).run Try.prog w = .ok (.int .i64 255) w := fun _ => by kernel_rfl
  go_enter Try.func76, Try.ntmps76
  go_wp2
  go_ret
  exact ⟨rfl, rfl⟩
theorem most_3 (w : World) : Calls Try.prog 76 #[.int .i64 3] w fun e w' => e = .returned (.int .i64 1999) ∧ w = w' := by
  have i0 : ∀ w, (Instr.index 133 (.agg #[.int .i64 0, .int .i64 0, .int .i64 255, .int .i64 1999, .int .i64 39, .int .i64 3, .int .i64 119]) (.int .i64 3)).run Try.prog w = .ok (.int .i64 1999) w := fun _ => by kernel_rfl
  go_enter Try.func76, Try.ntmps76
  go_wp2
  go_ret
  exact ⟨rfl, rfl⟩
theorem most_4 (w : World) : Calls Try.prog 76 #[.int .i64 4] w fun e w' => e = .returned (.int .i64 39) ∧ w = w' := by
  have i0 : ∀ w, (Instr.index 133 (.agg #[.int .i64 0, .int .i64 0, .int .i64 255, .int .i64 1999, .int .i64 39, .int .i64 3, .int .i64 119]) (.int .i64 4)).run Try.prog w = .ok (.int .i64 39) w := fun _ => by kernel_rfl
  go_enter Try.func76, Try.ntmps76
  go_wp2
  go_ret
  exact ⟨rfl, rfl⟩
theorem most_5 (w : World) : Calls Try.prog 76 #[.int .i64 5] w fun e w' => e = .returned (.int .i64 3) ∧ w = w' := by
  have i0 : ∀ w, (Instr.index 133 (.agg #[.int .i64 0, .int .i64 0, .int .i64 255, .int .i64 1999, .int .i64 39, .int .i64 3, .int .i64 119]) (.int .i64 5)).run Try.prog w = .ok (.int .i64 3) w := fun _ => by kernel_rfl
  go_enter Try.func76, Try.ntmps76
  go_wp2
  go_ret
  exact ⟨rfl, rfl⟩
theorem most_6 (w : World) : Calls Try.prog 76 #[.int .i64 6] w fun e w' => e = .returned (.int .i64 119) ∧ w = w' := by
  have i0 : ∀ w, (Instr.index 133 (.agg #[.int .i64 0, .int .i64 0, .int .i64 255, .int .i64 1999, .int .i64 39, .int .i64 3, .int .i64 119]) (.int .i64 6)).run Try.prog w = .ok (.int .i64 119) w := fun _ => by kernel_rfl
  go_enter Try.func76, Try.ntmps76
  go_wp2
  go_ret
  exact ⟨rfl, rfl⟩
theorem most_any (k : Int) (w : World) (h : k = 0 ∨ k = 1 ∨ k = 2 ∨ k = 3 ∨ k = 4 ∨ k = 5 ∨ k = 6) : Calls Try.prog 76 #[.int .i64 k] w fun e w' => e = .returned (.int .i64 (mostOf k)) ∧ w = w' := by
  rcases h with rfl | rfl | rfl | rfl | rfl | rfl | rfl
  · exact most_0 w
  · exact most_1 w
  · exact most_2 w
  · exact most_3 w
  · exact most_4 w
  · exact most_5 w
  · exact most_6 w

set_option maxHeartbeats 1000000 in
theorem right_in (x y : Int) (w : World) (h : InR (x, y)) : Calls Try.prog 51 #[.agg #[.int .i64 x, .int .i64 y]] w (AnsB (.bool true) w) := by
  obtain ⟨h0, h1, h2⟩ := h
  simp only at h0 h1 h2
  have h75 : ∀ W, Calls Try.prog 75 #[.int .i64 x] W fun e w' => e = .returned (.int .i64 (kindOf x)) ∧ W = w' := fun W => operand_any x W h0 h1
  have h76 : ∀ W, Calls Try.prog 76 #[.int .i64 (kindOf x)] W fun e w' => e = .returned (.int .i64 (mostOf (kindOf x))) ∧ W = w' := fun W => most_any _ W (kind_cases x)
  obtain ⟨k, hk⟩ : ∃ k, k = kindOf x := ⟨_, rfl⟩
  rw [← hk] at h2 h75 h76
  obtain ⟨m, hm⟩ : ∃ m, m = mostOf k := ⟨_, rfl⟩
  rw [← hm] at h2 h76
  have H75 := Lib.hid h75
  have H76 := Lib.hid h76
  clear h75 h76 hk hm
  have hx35 : ¬ (35 ≤ x) := by omega
  by_cases hk1 : k = 1
  · subst hk1
    clear h2
    go_enter Try.func51, Try.ntmps51
    go_wp2_with (go_at_call 75; refine (H75.out _).mono ?_; rintro e w1 ⟨rfl, rfl⟩)
    go_quiet (fail)
    go_wp2
    go_ret
    exact ⟨rfl, Below.drewN ((Below.refl _ _).alloc (Nat.le_refl _) _) _⟩
  · have hk2 : (k == 1) = false := by simpa using hk1
    have h3 : 0 ≤ y ∧ y ≤ m := by
      rcases h2 with h2 | h2
      · exact absurd h2 hk1
      · exact h2
    obtain ⟨h3, h4⟩ := h3
    have h3' : decide (0 ≤ y) = true := by simpa using h3
    have h4' : decide (y ≤ m) = true := by simpa using h4
    clear h2
    have HK := Lib.hid hk1
    clear hk1
    go_enter Try.func51, Try.ntmps51
    go_wp2_with (go_at_call 75; refine (H75.out _).mono ?_; rintro e w1 ⟨rfl, rfl⟩)
    go_quiet ((go_at_call 76; exact quiet_left (H76.out _)))
    go_wp2
    go_ret
    exact ⟨rfl, Below.drewN ((Below.refl _ _).alloc (Nat.le_refl _) _) _⟩
end Go.Proofs.Ythaniobijkdnoaa
