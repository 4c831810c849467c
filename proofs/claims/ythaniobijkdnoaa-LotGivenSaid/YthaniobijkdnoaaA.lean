/- How rows of numbers, of instructions and functions lie in memory; the plain comparisons answer true where both rows read as one. Conditions: lengths of 63 bits. -/
import Derived.Test.YthaniobijkdnoaaRows
import Derived.Test.YthaniobijkdnoaaGen
namespace Go.Proofs.Ythaniobijkdnoaa
open Go.RowKit

/-- a slice value that reads as a list of numbers -/
def IV (w : World) (v : Value) (xs : List Int) : Prop := ∃ a cap, v = .slice a xs.length cap ∧ xs.length ≤ cap ∧ cap ≤ maxLen ∧ ∀ i (hi : i < xs.length), ∃ b off, a = some ⟨b, off, none⟩ ∧ b < w.heap.size ∧ w.cell? ⟨b, off + i, none⟩ = some (.int .i64 xs[i])
theorem IV.bel {w w' : World} {v : Value} {xs : List Int} (h : IV w v xs) (hb : Below w.heap.size w w') : IV w' v xs := by
  obtain ⟨a, cap, rfl, h1, h2, hc⟩ := h
  refine ⟨a, cap, rfl, h1, h2, fun i hi => ?_⟩
  obtain ⟨b, off, rfl, hlt, hcc⟩ := hc i hi
  exact ⟨b, off, rfl, Nat.lt_of_lt_of_le hlt hb.size, (hb.cell (p := ⟨b, off + i, none⟩) hlt).trans hcc⟩
theorem IV.nil (w : World) (a : Option Addr) (cap : Nat) (h : cap ≤ maxLen) : IV w (.slice a 0 cap) [] := ⟨a, cap, rfl, Nat.zero_le _, h, fun i hi => absurd hi (by simp)⟩

/-- a slice value that reads as a list of instructions -/
def CV (w : World) (v : Value) (xs : List (Int × Int)) : Prop := ∃ a cap, v = .slice a xs.length cap ∧ xs.length ≤ cap ∧ cap ≤ maxLen ∧ ∀ i (hi : i < xs.length), ∃ b off, a = some ⟨b, off, none⟩ ∧ b < w.heap.size ∧
  w.cell? ⟨b, off + i * 2, none⟩ = some (.int .i64 xs[i].1) ∧ w.cell? ⟨b, off + i * 2 + 1, none⟩ = some (.int .i64 xs[i].2)
theorem CV.bel {w w' : World} {v : Value} {xs : List (Int × Int)} (h : CV w v xs) (hb : Below w.heap.size w w') : CV w' v xs := by
  obtain ⟨a, cap, rfl, h1, h2, hc⟩ := h
  refine ⟨a, cap, rfl, h1, h2, fun i hi => ?_⟩
  obtain ⟨b, off, rfl, hlt, hcc, hcd⟩ := hc i hi
  exact ⟨b, off, rfl, Nat.lt_of_lt_of_le hlt hb.size, (hb.cell (p := ⟨b, off + i * 2, none⟩) hlt).trans hcc, (hb.cell (p := ⟨b, off + i * 2 + 1, none⟩) hlt).trans hcd⟩

/-- a call that answers a value and turns nothing -/
def Ans (u : Value) (w : World) (e : Ending) (w' : World) : Prop := e = .returned u ∧ ∃ n, w' = w.drewN n
theorem drewN_add (w : World) (a b : Nat) : (w.drewN a).drewN b = w.drewN (a + b) := by
  simp [World.drewN, Nat.add_assoc]
theorem ans_0 (u : Value) (w : World) : Ans u w (.returned u) w := ⟨rfl, 0, rfl⟩
theorem ans_n (u : Value) (w : World) (n : Nat) : Ans u w (.returned u) (w.drewN n) := ⟨rfl, n, rfl⟩
theorem quiet_ans {P : Program} {f : FuncId} {args : Array Value} {w : World} {n : Nat} {v : Value}
    (h : Calls P f args (w.drewN n) (Ans v (w.drewN n))) : Calls P f args (w.drewN n) fun e w'' => e = .returned v ∧ ∃ m, w'' = w.drewN m :=
  h.mono fun _ _ ⟨he, m, hm⟩ => ⟨he, n + m, by rw [hm, drewN_add]⟩

set_option maxHeartbeats 1000000 in
theorem ints_any (xs : List Int) (v1 v2 : Value) (w : World) (h1 : IV w v1 xs) (h2 : IV w v2 xs) (hl0 : xs.length ≤ 1000000) : Calls Try.prog 13 #[v1, v2] w (Ans (.bool true) w) := by
  obtain ⟨a, cap, rfl, hl, hm, hc⟩ := h1
  obtain ⟨a2, cap2, rfl, hl2, hm2, hc2⟩ := h2
  have HC := Lib.hid hc
  have HC2 := Lib.hid hc2
  obtain ⟨n, hn⟩ : ∃ n, n = xs.length := ⟨_, rfl⟩
  rw [← hn] at hl hl2 hl0 ⊢
  have HN := Lib.hid hn
  clear hc hc2 hn
  go_enter Try.func13, Try.ntmps13
  go_wp2
  go_loopw [5] (fun i wr => ∃ k m : Nat, k ≤ n ∧ i = .int .i64 k ∧ wr = w.drewN m) (fun i _ => n - (intOf i).toNat)
  case atStart => exact ⟨0, 0, Nat.zero_le _, rfl, rfl⟩
  case round =>
    obtain ⟨k, m, hk, rfl, rfl⟩ := hrel
    by_cases hlt : k < n
    · have hkl : k < xs.length := by have := HN.out; omega
      obtain ⟨b, off, rfl, hb, hcell⟩ := HC.out k hkl
      obtain ⟨b2, off2, rfl, hb2, hcell2⟩ := HC2.out k hkl
      obtain ⟨x, hx⟩ : ∃ x, x = xs[k] := ⟨_, rfl⟩
      rw [← hx] at hcell hcell2
      clear hx
      have hq : (x != x) = false := by simp
      go_wp2
      go_quiet (fail)
      go_wp2
      go_round
      case rel => exact ⟨k + 1, _, by omega, by go_num, rfl⟩
      case measure => simp [intOf] <;> omega
    · go_wp2
      go_ret
      exact ans_n _ _ _

set_option maxHeartbeats 1000000 in
theorem types_any (xs : List Int) (v1 v2 : Value) (w : World) (h1 : IV w v1 xs) (h2 : IV w v2 xs) (hl0 : xs.length ≤ 1000000) : Calls Try.prog 26 #[v1, v2] w (Ans (.bool true) w) := by
  obtain ⟨a, cap, rfl, hl, hm, hc⟩ := h1
  obtain ⟨a2, cap2, rfl, hl2, hm2, hc2⟩ := h2
  have HC := Lib.hid hc
  have HC2 := Lib.hid hc2
  obtain ⟨n, hn⟩ : ∃ n, n = xs.length := ⟨_, rfl⟩
  rw [← hn] at hl hl2 hl0 ⊢
  have HN := Lib.hid hn
  clear hc hc2 hn
  go_enter Try.func26, Try.ntmps26
  go_wp2
  go_loopw [5] (fun i wr => ∃ k m : Nat, k ≤ n ∧ i = .int .i64 k ∧ wr = w.drewN m) (fun i _ => n - (intOf i).toNat)
  case atStart => exact ⟨0, 0, Nat.zero_le _, rfl, rfl⟩
  case round =>
    obtain ⟨k, m, hk, rfl, rfl⟩ := hrel
    by_cases hlt : k < n
    · have hkl : k < xs.length := by have := HN.out; omega
      obtain ⟨b, off, rfl, hb, hcell⟩ := HC.out k hkl
      obtain ⟨b2, off2, rfl, hb2, hcell2⟩ := HC2.out k hkl
      obtain ⟨x, hx⟩ : ∃ x, x = xs[k] := ⟨_, rfl⟩
      rw [← hx] at hcell hcell2
      clear hx
      have hq : (x != x) = false := by simp
      go_wp2
      go_quiet (fail)
      go_wp2
      go_round
      case rel => exact ⟨k + 1, _, by omega, by go_num, rfl⟩
      case measure => simp [intOf] <;> omega
    · go_wp2
      go_ret
      exact ans_n _ _ _

set_option maxHeartbeats 1000000 in
theorem codes_any (xs : List (Int × Int)) (v1 v2 : Value) (w : World) (h1 : CV w v1 xs) (h2 : CV w v2 xs) (hl0 : xs.length ≤ 1000000) : Calls Try.prog 27 #[v1, v2] w (Ans (.bool true) w) := by
  obtain ⟨a, cap, rfl, hl, hm, hc⟩ := h1
  obtain ⟨a2, cap2, rfl, hl2, hm2, hc2⟩ := h2
  have HC := Lib.hid hc
  have HC2 := Lib.hid hc2
  obtain ⟨n, hn⟩ : ∃ n, n = xs.length := ⟨_, rfl⟩
  rw [← hn] at hl hl2 hl0 ⊢
  have HN := Lib.hid hn
  clear hc hc2 hn
  go_enter Try.func27, Try.ntmps27
  go_wp2
  go_loopw [5] (fun i wr => ∃ k m : Nat, k ≤ n ∧ i = .int .i64 k ∧ wr = w.drewN m) (fun i _ => n - (intOf i).toNat)
  case atStart => exact ⟨0, 0, Nat.zero_le _, rfl, rfl⟩
  case round =>
    obtain ⟨k, m, hk, rfl, rfl⟩ := hrel
    by_cases hlt : k < n
    · have hkl : k < xs.length := by have := HN.out; omega
      obtain ⟨b, off, rfl, hb, hcell, hcell'⟩ := HC.out k hkl
      obtain ⟨b2, off2, rfl, hb2, hcell2, hcell2'⟩ := HC2.out k hkl
      obtain ⟨x, hx⟩ : ∃ x, x = xs[k].1 := ⟨_, rfl⟩
      obtain ⟨y, hy⟩ : ∃ y, y = xs[k].2 := ⟨_, rfl⟩
      rw [← hx] at hcell hcell2
      rw [← hy] at hcell' hcell2'
      clear hx hy
      go_wp2
      go_quiet (fail)
      go_wp2
      go_round
      case rel => exact ⟨k + 1, _, by omega, by go_num, rfl⟩
      case measure => simp [intOf] <;> omega
    · go_wp2
      go_ret
      exact ans_n _ _ _

theorem nodes0_any (w : World) (a a2 : Option Addr) (c c2 : Nat) : Calls Try.prog 28 #[.slice a 0 c, .slice a2 0 c2] w (Ans (.bool true) w) := by
  go_enter Try.func28, Try.ntmps28
  go_wp2
  go_loopw [5] (fun i wr => i = .int .i64 0 ∧ wr = w) (fun _ _ => 0)
  case atStart => exact ⟨rfl, rfl⟩
  case round =>
    obtain ⟨rfl, rfl⟩ := hrel
    go_wp2
    go_ret
    exact ans_0 _ _

theorem sets0_any (w : World) (a a2 : Option Addr) (c c2 : Nat) : Calls Try.prog 29 #[.slice a 0 c, .slice a2 0 c2] w (Ans (.bool true) w) := by
  go_enter Try.func29, Try.ntmps29
  go_wp2
  go_loopw [5] (fun i wr => i = .int .i64 0 ∧ wr = w) (fun _ _ => 0)
  case atStart => exact ⟨rfl, rfl⟩
  case round =>
    obtain ⟨rfl, rfl⟩ := hrel
    go_wp2
    go_ret
    exact ans_0 _ _

end Go.Proofs.Ythaniobijkdnoaa
