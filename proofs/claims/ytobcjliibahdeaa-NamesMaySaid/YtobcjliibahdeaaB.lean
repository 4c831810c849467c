/- Find, of the program and of the reference, over a slice that reads as a list of names. No condition but on lengths. -/
import Derived.Test.YtobcjliibahdeaaA
namespace Go.Proofs.Ytobcjliibahdeaa
open Go.RowKit

def fnd (ls : List ByteArray) (s : ByteArray) : Int := match ls.findIdx? (fun x => decide (x = s)) with
  | some i => (i : Int)
  | none => -1
theorem fnd_hit (ls : List ByteArray) (s : ByteArray) (k : Nat) (hk : k < ls.length) (h : ls[k] = s) (hb : ∀ j (hj : j < k), ls[j]'(by omega) ≠ s) : fnd ls s = k := by
  have : ls.findIdx? (fun x => decide (x = s)) = some k := by
    rw [List.findIdx?_eq_some_iff_getElem]
    exact ⟨hk, by simpa using h, fun j hj => by simpa using hb j hj⟩
  rw [fnd, this]
theorem fnd_miss (ls : List ByteArray) (s : ByteArray) (hb : ∀ j (hj : j < ls.length), ls[j] ≠ s) : fnd ls s = -1 := by
  have : ls.findIdx? (fun x => decide (x = s)) = none := by
    rw [List.findIdx?_eq_none_iff]
    intro x hx
    obtain ⟨j, hj, rfl⟩ := List.getElem_of_mem hx
    simpa using hb j hj
  rw [fnd, this]
theorem fnd_cases (ls : List ByteArray) (s : ByteArray) : (fnd ls s = -1 ∧ s ∉ ls) ∨ ∃ k, ∃ hk : k < ls.length, fnd ls s = (k : Int) ∧ ls[k] = s ∧ ∀ j (hj : j < k), ls[j]'(by omega) ≠ s := by
  cases h : ls.findIdx? (fun x => decide (x = s)) with
  | none =>
    left
    refine ⟨by rw [fnd, h], fun hm => ?_⟩
    rw [List.findIdx?_eq_none_iff] at h
    simpa using h s hm
  | some k =>
    right
    rw [List.findIdx?_eq_some_iff_getElem] at h
    obtain ⟨hk, h1, h2⟩ := h
    have h0 : ls.findIdx? (fun x => decide (x = s)) = some k := by
      rw [List.findIdx?_eq_some_iff_getElem]; exact ⟨hk, h1, h2⟩
    exact ⟨k, hk, by rw [fnd, h0], by simpa using h1, fun j hj => by simpa using h2 j hj⟩
theorem fnd_neg (ls : List ByteArray) (s : ByteArray) : fnd ls s < 0 ↔ s ∉ ls := by
  rcases fnd_cases ls s with ⟨h1, h2⟩ | ⟨k, hk, h1, h2, _⟩
  · exact ⟨fun _ => h2, fun _ => by omega⟩
  · exact ⟨fun h => by omega, fun h => absurd (by rw [← h2]; exact List.getElem_mem hk) h⟩

/-- a slice value that reads as a list of strings -/
def SV (w : World) (v : Value) (ls : List ByteArray) : Prop := ∃ a cap, v = .slice a ls.length cap ∧ (∀ x ∈ ls, x.size ≤ maxLen) ∧ ∀ i (hi : i < ls.length), ∃ b off, a = some ⟨b, off, none⟩ ∧ b < w.heap.size ∧ w.cell? ⟨b, off + i, none⟩ = some (.string ls[i])
theorem SV.bel {w w' : World} {v : Value} {ls : List ByteArray} (h : SV w v ls) (hb : Below w.heap.size w w') : SV w' v ls := by
  obtain ⟨a, cap, rfl, hm, hc⟩ := h
  refine ⟨a, cap, rfl, hm, fun i hi => ?_⟩
  obtain ⟨b, off, rfl, hlt, hcc⟩ := hc i hi
  exact ⟨b, off, rfl, Nat.lt_of_lt_of_le hlt hb.size, (hb.cell (p := ⟨b, off + i, none⟩) hlt).trans hcc⟩

def FindPost (ls : List ByteArray) (s : ByteArray) (w : World) (e : Ending) (w' : World) : Prop := e = .returned (.int .i64 (fnd ls s)) ∧ w = w'
theorem fp_hit {ls : List ByteArray} {s : ByteArray} {w : World} {k : Nat} (hk : k < ls.length) (h : ls[k] = s) (hb : ∀ j (hj : j < k), ls[j]'(by omega) ≠ s) : FindPost ls s w (.returned (.int .i64 k)) w := ⟨by rw [fnd_hit ls s k hk h hb], rfl⟩
theorem fp_miss {ls : List ByteArray} {s : ByteArray} {w : World} (hb : ∀ j (hj : j < ls.length), ls[j] ≠ s) : FindPost ls s w (.returned (.int .i64 (-1))) w := ⟨by rw [fnd_miss ls s hb], rfl⟩

set_option maxHeartbeats 1000000 in
theorem index_any (ls : List ByteArray) (v : Value) (s : ByteArray) (w : World) (hv : SV w v ls) (hl : ls.length ≤ 1000000) : Calls Try.prog 17 #[v, .string s] w (FindPost ls s w) := by
  obtain ⟨a, cap, rfl, _, hc⟩ := hv
  have HC := Lib.hid hc
  obtain ⟨n, hn⟩ : ∃ n, n = ls.length := ⟨_, rfl⟩
  rw [← hn] at hl ⊢
  have HN := Lib.hid hn
  clear hc hn
  go_enter Try.func17, Try.ntmps17
  go_wp2
  go_loop [8] (fun i => ∃ k : Nat, k ≤ n ∧ i = .int .i64 k ∧ Hid (∀ j (hj : j < k) (hj' : j < ls.length), ls[j] ≠ s)) (fun i => n - (intOf i).toNat)
  case atStart => exact ⟨0, Nat.zero_le _, rfl, fun j hj => by omega⟩
  case round =>
    obtain ⟨k, hk, rfl, HK⟩ := hrel
    by_cases hlt : k < n
    · have hkl : k < ls.length := by have := HN.out; omega
      obtain ⟨b, off, rfl, hb, hcell⟩ := HC.out k hkl
      obtain ⟨x, hx⟩ : ∃ x, x = ls[k] := ⟨_, rfl⟩
      rw [← hx] at hcell
      have HX := Lib.hid hx
      clear hx
      by_cases heq : s = x
      · have hq := str_same heq
        have HQ := Lib.hid heq
        clear heq
        go_wp2
        go_ret
        exact fp_hit hkl (by rw [← HX.out]; exact HQ.out.symm) (fun j hj => HK.out j hj (by omega))
      · have hq := str_other heq
        have HQ := Lib.hid heq
        clear heq
        go_wp2
        go_round
        case rel => exact ⟨k + 1, by omega, by go_num, fun j hj hj' => by
          rcases Nat.lt_or_ge j k with h | h
          · exact HK.out j h hj'
          · obtain rfl : j = k := by omega
            rw [← HX.out]; exact fun e => HQ.out e.symm⟩
        case measure => simp [intOf] <;> omega
    · go_wp2
      go_ret
      exact fp_miss (fun j hj => HK.out j (by have := HN.out; omega) hj)

set_option maxHeartbeats 1000000 in
theorem rfind_any (ls : List ByteArray) (v : Value) (s : ByteArray) (w : World) (hv : SV w v ls) (hl : ls.length ≤ 1000000) : Calls Try.prog 10 #[v, .string s] w (FindPost ls s w) := by
  obtain ⟨a, cap, rfl, _, hc⟩ := hv
  have HC := Lib.hid hc
  obtain ⟨n, hn⟩ : ∃ n, n = ls.length := ⟨_, rfl⟩
  rw [← hn] at hl ⊢
  have HN := Lib.hid hn
  clear hc hn
  go_enter Try.func10, Try.ntmps10
  go_wp2
  go_loop [5] (fun i => ∃ k : Nat, k ≤ n ∧ i = .int .i64 k ∧ Hid (∀ j (hj : j < k) (hj' : j < ls.length), ls[j] ≠ s)) (fun i => n - (intOf i).toNat)
  case atStart => exact ⟨0, Nat.zero_le _, rfl, fun j hj => by omega⟩
  case round =>
    obtain ⟨k, hk, rfl, HK⟩ := hrel
    by_cases hlt : k < n
    · have hkl : k < ls.length := by have := HN.out; omega
      obtain ⟨b, off, rfl, hb, hcell⟩ := HC.out k hkl
      obtain ⟨x, hx⟩ : ∃ x, x = ls[k] := ⟨_, rfl⟩
      rw [← hx] at hcell
      have HX := Lib.hid hx
      clear hx
      by_cases heq : x = s
      · have hq := str_same heq
        have HQ := Lib.hid heq
        clear heq
        go_wp2
        go_ret
        exact fp_hit hkl (by rw [← HX.out]; exact HQ.out) (fun j hj => HK.out j hj (by omega))
      · have hq := str_other heq
        have HQ := Lib.hid heq
        clear heq
        go_wp2
        go_round
        case rel => exact ⟨k + 1, by omega, by go_num, fun j hj hj' => by
          rcases Nat.lt_or_ge j k with h | h
          · exact HK.out j h hj'
          · obtain rfl : j = k := by omega
            rw [← HX.out]; exact HQ.out⟩
        case measure => simp [intOf] <;> omega
    · go_wp2
      go_ret
      exact fp_miss (fun j hj => HK.out j (by have := HN.out; omega) hj)

theorem find_any (ls : List ByteArray) (v : Value) (s : ByteArray) (w : World) (hv : SV w v ls) (hl : ls.length ≤ 1000000) : Calls Try.prog 9 #[v, .string s] w (FindPost ls s w) := by
  have H := Lib.hid (index_any ls v s w hv hl)
  obtain ⟨a, cap, rfl, _, _⟩ := hv
  go_enter Try.func9, Try.ntmps9
  go_wp2_with (go_at_call 17; refine H.out.mono ?_; rintro e w1 ⟨rfl, rfl⟩)
  go_ret
  exact ⟨rfl, rfl⟩

/-- no name stands twice -/
def unl (ls : List ByteArray) : Bool := decide ls.Nodup
theorem unl_yes {ls : List ByteArray} (h : ∀ j (hj : j < ls.length), fnd ls ls[j] = j) : unl ls = true := by
  rw [unl, decide_eq_true_eq, List.Nodup, List.pairwise_iff_getElem]
  intro i j hi hj hij e
  have h1 := h i hi
  have h2 := h j hj
  rw [e] at h1
  omega
theorem unl_no {ls : List ByteArray} {k : Nat} (hk : k < ls.length) (h : fnd ls ls[k] ≠ k) : unl ls = false := by
  rw [unl, decide_eq_false_iff_not]
  intro hnd
  apply h
  refine fnd_hit ls ls[k] k hk rfl (fun j hj e => ?_)
  rw [List.Nodup, List.pairwise_iff_getElem] at hnd
  exact hnd j k (by omega) hk hj e

def UnlPost (ls : List ByteArray) (w : World) (e : Ending) (w' : World) : Prop := e = .returned (.bool (unl ls)) ∧ w = w'
theorem up_yes {ls : List ByteArray} {w : World} (h : unl ls = true) : UnlPost ls w (.returned (.bool true)) w := ⟨by rw [h], rfl⟩
theorem up_no {ls : List ByteArray} {w : World} (h : unl ls = false) : UnlPost ls w (.returned (.bool false)) w := ⟨by rw [h], rfl⟩
set_option maxHeartbeats 1000000 in
theorem runlike_any (ls : List ByteArray) (v : Value) (w : World) (hv : SV w v ls) (hl : ls.length ≤ 1000000) : Calls Try.prog 12 #[v] w (UnlPost ls w) := by
  have HF : Hid (∀ s, Calls Try.prog 10 #[v, .string s] w (FindPost ls s w)) := fun s => rfind_any ls v s w hv hl
  obtain ⟨a, cap, rfl, _, hc⟩ := hv
  have HC := Lib.hid hc
  obtain ⟨n, hn⟩ : ∃ n, n = ls.length := ⟨_, rfl⟩
  rw [← hn] at hl HF ⊢
  have HN := Lib.hid hn
  clear hc hn
  go_enter Try.func12, Try.ntmps12
  go_wp2
  go_loop [3] (fun i => ∃ k : Nat, k ≤ n ∧ i = .int .i64 k ∧ Hid (∀ j (hj : j < k) (hj' : j < ls.length), fnd ls ls[j] = j)) (fun i => n - (intOf i).toNat)
  case atStart => exact ⟨0, Nat.zero_le _, rfl, fun j hj => by omega⟩
  case round =>
    obtain ⟨k, hk, rfl, HK⟩ := hrel
    by_cases hlt : k < n
    · have hkl : k < ls.length := by have := HN.out; omega
      obtain ⟨b, off, rfl, hb, hcell⟩ := HC.out k hkl
      obtain ⟨x, hx⟩ : ∃ x, x = ls[k] := ⟨_, rfl⟩
      rw [← hx] at hcell
      have HX := Lib.hid hx
      clear hx
      obtain ⟨f, hf⟩ : ∃ f, f = fnd ls x := ⟨_, rfl⟩
      have hF : Calls Try.prog 10 #[.slice (some ⟨b, off, none⟩) n cap, .string x] w fun e w' => e = .returned (.int .i64 f) ∧ w = w' := by rw [hf]; exact HF.out x
      have HFF := Lib.hid hf
      have H10 := Lib.hid hF
      clear hf hF
      by_cases heq : f = k
      · have hq : (f != (k : Int)) = false := by simpa using heq
        have HQ := Lib.hid heq
        clear heq
        go_wp2_with (go_at_call 10; refine H10.out.mono ?_; rintro e w1 ⟨rfl, rfl⟩)
        go_round
        case rel => exact ⟨k + 1, by omega, by go_num, fun j hj hj' => by
          rcases Nat.lt_or_ge j k with h | h
          · exact HK.out j h hj'
          · obtain rfl : j = k := by omega
            rw [← HX.out, ← HFF.out]; exact HQ.out⟩
        case measure => simp [intOf] <;> omega
      · have hq : (f != (k : Int)) = true := by simpa using heq
        have HQ := Lib.hid heq
        clear heq
        go_wp2_with (go_at_call 10; refine H10.out.mono ?_; rintro e w1 ⟨rfl, rfl⟩)
        go_ret
        exact up_no (unl_no hkl (by rw [← HX.out, ← HFF.out]; exact HQ.out))
    · go_wp2
      go_ret
      exact up_yes (unl_yes (fun j hj => HK.out j (by have := HN.out; omega) hj))
end Go.Proofs.Ytobcjliibahdeaa
