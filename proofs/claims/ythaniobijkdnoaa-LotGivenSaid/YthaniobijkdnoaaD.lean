/- The reference's tests of names; the names of a program. No condition but on lengths. -/
import Derived.Test.YthaniobijkdnoaaC
import Derived.Maps.OwnSet
namespace Go.Proofs.Ythaniobijkdnoaa
open Go.RowKit

def firstB (c : Int) : Bool := decide (97 ≤ c ∧ c ≤ 122)
def otherB (c : Int) : Bool := decide (97 ≤ c ∧ c ≤ 122) || (decide (48 ≤ c ∧ c ≤ 57) || decide (c = 95))
def code (s : ByteArray) (i : Nat) : Int := ((s.data.toList[i]?.getD 0).toNat : Int)
theorem code_eq (s : ByteArray) (i : Nat) (h : i < s.size) : code s i = ((s[i]'h).toNat : Int) := by
  have h' : i < s.data.toList.length := by simpa using h
  simp only [code, List.getElem?_eq_getElem h', Option.getD_some]
  rfl
def mayB (s : ByteArray) : Bool := decide (1 ≤ s.size ∧ s.size ≤ 12 ∧ firstB (code s 0) = true ∧ ∀ i, i < s.size → otherB (code s i) = true)

theorem may_no (s : ByteArray) (h : ¬ (1 ≤ s.size ∧ s.size ≤ 12 ∧ firstB (code s 0) = true ∧ ∀ i, i < s.size → otherB (code s i) = true)) : Ending.returned (.bool false) = Ending.returned (.bool (mayB s)) := by
  rw [mayB, decide_eq_false h]
theorem may_yes (s : ByteArray) (h : 1 ≤ s.size ∧ s.size ≤ 12 ∧ firstB (code s 0) = true ∧ ∀ i, i < s.size → otherB (code s i) = true) : Ending.returned (.bool true) = Ending.returned (.bool (mayB s)) := by
  rw [mayB, decide_eq_true h]
theorem empty_iff (s : ByteArray) : s.toList.isEmpty = decide (s.size = 0) := by
  have h : s.toList = s.data.toList := ByteArray.toList_eq s
  rw [h]
  cases hs : s.data.toList with
  | nil => 
    have : s.data.toList.length = 0 := by rw [hs]; rfl
    have h0 : s.size = 0 := by simpa using this
    simp [h0]
  | cons a l =>
    have : s.data.toList.length = l.length + 1 := by rw [hs]; rfl
    have h0 : s.size = l.length + 1 := by simpa using this
    simp [h0]

theorem str_same {a b : ByteArray} (h : a = b) : (a.toList == b.toList) = true := by subst h; simp
theorem str_other {a b : ByteArray} (h : a ≠ b) : (a.toList == b.toList) = false := by
  rw [ByteArray.toList_eq, ByteArray.toList_eq]
  simp only [beq_eq_false_iff_ne]
  exact fun e => h (Go.WideShapes.bytes_inj e)

def MayPost (s : ByteArray) (w : World) (e : Ending) (w' : World) : Prop := e = .returned (.bool (mayB s)) ∧ w = w'

set_option maxHeartbeats 1000000 in
theorem rmay_any (s : ByteArray) (w : World) (hs : s.size ≤ 1000000) : Calls Try.prog 49 #[.string s] w (MayPost s w) := by
  go_enter Try.func49, Try.ntmps49
  go_wp2
  go_loop [3] (fun i => ∃ k : Nat, k ≤ s.size ∧ i = .int .i64 k ∧ Hid (∀ j, j < k → otherB (code s j) = true ∧ (j = 0 → firstB (code s j) = true))) (fun i => s.size - (intOf i).toNat)
  case atStart => exact ⟨0, Nat.zero_le _, rfl, fun j hj => by omega⟩
  case round =>
    obtain ⟨k, hk, rfl, HK⟩ := hrel
    by_cases hlt : k < s.size
    · have HC := Lib.hid (code_eq s k hlt)
      obtain ⟨c, hc⟩ : ∃ c : Int, c = ((s[k]'hlt).toNat : Int) := ⟨_, rfl⟩
      have step : ((97 ≤ c ∧ c ≤ 122) ∨ (k ≠ 0 ∧ ((48 ≤ c ∧ c ≤ 57) ∨ c = 95))) → ∀ j, j < k + 1 → otherB (code s j) = true ∧ (j = 0 → firstB (code s j) = true) := fun hh j hj => by
        rcases Nat.lt_or_ge j k with h | h
        · exact HK.out j h
        · obtain rfl : j = k := by omega
          rw [HC.out, ← hc]
          rcases hh with hh | ⟨hh, h2 | h2⟩
          · simp [otherB, firstB, hh]
          · simp [otherB, h2, hh]
          · simp [otherB, h2, hh]
      have bad : ¬ (97 ≤ c ∧ c ≤ 122) → (k = 0 ∨ (¬ (48 ≤ c ∧ c ≤ 57) ∧ c ≠ 95)) → Ending.returned (.bool false) = Ending.returned (.bool (mayB s)) := fun h1 h2 => may_no s (fun h => by
        rcases h2 with h2 | ⟨h2, h3⟩
        · subst h2
          have := h.2.2.1
          rw [HC.out, ← hc] at this
          simp [firstB] at this
          exact h1 this
        · have := h.2.2.2 k hlt
          rw [HC.out, ← hc] at this
          simp [otherB] at this
          rcases this with h | h | h
          · exact h1 h
          · exact h2 h
          · exact h3 h)
      have STEP := Lib.hid step
      have BAD := Lib.hid bad
      clear step bad
      subst hc
      by_cases p1 : 97 ≤ ((s[k]'hlt).toNat : Int) ∧ ((s[k]'hlt).toNat : Int) ≤ 122
      · obtain ⟨p1, p2⟩ := p1
        go_wp2
        go_round
        case rel => exact ⟨k + 1, by omega, by go_num, STEP.out (.inl ⟨p1, p2⟩)⟩
        case measure => simp [intOf] <;> omega
      · by_cases k0 : k = 0
        · have hk0 : ((k : Int) == 0) = true := by simp; omega
          have K0 := Lib.hid k0
          clear k0
          rcases (show ((s[k]'hlt).toNat : Int) < 97 ∨ 122 < ((s[k]'hlt).toNat : Int) by omega) with p2 | p2
          all_goals clear p1
          all_goals go_wp2
          all_goals go_ret
          all_goals exact ⟨BAD.out (by omega) (.inl K0.out), rfl⟩
        · have hk0 : ((k : Int) == 0) = false := by simp; omega
          have K0 := Lib.hid k0
          clear k0
          by_cases p3 : 48 ≤ ((s[k]'hlt).toNat : Int) ∧ ((s[k]'hlt).toNat : Int) ≤ 57
          · obtain ⟨p3, p4⟩ := p3
            clear p1
            go_wp2
            go_round
            case rel => exact ⟨k + 1, by omega, by go_num, STEP.out (.inr ⟨K0.out, .inl ⟨p3, p4⟩⟩)⟩
            case measure => simp [intOf] <;> omega
          · by_cases p5 : ((s[k]'hlt).toNat : Int) = 95
            · have P5 := Lib.hid p5
              have q5 : (((s[k]'hlt).toNat : Int) != 95) = false := by rw [p5]; decide
              have q6 : 58 ≤ ((s[k]'hlt).toNat : Int) := by omega
              have q7 : ((s[k]'hlt).toNat : Int) < 97 := by omega
              clear p5 p1 p3
              go_wp2
              go_round
              case rel => exact ⟨k + 1, by omega, by go_num, STEP.out (.inr ⟨K0.out, .inr P5.out⟩)⟩
              case measure => simp [intOf] <;> omega
            · have P5 := Lib.hid p5
              have q5 : (((s[k]'hlt).toNat : Int) != 95) = true := by rw [bne_iff_ne]; exact p5
              rcases (show ((s[k]'hlt).toNat : Int) < 48 ∨ (58 ≤ ((s[k]'hlt).toNat : Int) ∧ ((s[k]'hlt).toNat : Int) < 97) ∨ 122 < ((s[k]'hlt).toNat : Int) by omega) with p6 | ⟨p6, p7⟩ | p6
              all_goals clear p1 p3 p5
              all_goals go_wp2
              all_goals go_ret
              all_goals exact ⟨BAD.out (by omega) (.inr ⟨by omega, P5.out⟩), rfl⟩
    · by_cases h1 : 1 ≤ s.size
      · by_cases h12 : s.size ≤ 12
        · have h12' : decide ((s.size : Int) ≤ 12) = true := by simp; omega
          go_wp2
          go_ret
          exact ⟨may_yes s ⟨h1, h12, (HK.out 0 (by omega)).2 rfl, fun i hi => (HK.out i (by omega)).1⟩, rfl⟩
        · have h12' : decide ((s.size : Int) ≤ 12) = false := by simp; omega
          go_wp2
          go_ret
          exact ⟨may_no s (by omega), rfl⟩
      · go_wp2
        go_ret
        exact ⟨may_no s (by omega), rfl⟩
def fnd (ls : List ByteArray) (s : ByteArray) : Int := match ls.findIdx? (fun x => decide (x = s)) with
  | some i => (i : Int)
  | none => -1
theorem fnd_hit (ls : List ByteArray) (s : ByteArray) (k : Nat) (hk : k < ls.length) (h : ls[k] = s) (hb : ∀ j (hj : j < k), ls[j]'(by omega) ≠ s) : fnd ls s = k := by
  have : ls.findIdx? (fun x => decide (x = s)) = some k := by
    rw [List.findIdx?_eq_some_iff_getElem]
    exact ⟨hk, by simpa using h, fun j hj => by simpa using hb j hj⟩
  rw [fnd, this]
theorem fnd_miss (ls : List ByteArray) (s : ByteArray) (hb : ∀ j (hj : j < ls.length), ls[j] ≠ s) : fnd ls s = -1 := by
  have : ls.findIdx? (fun x => decide (x = s)) = none := by
    rw [List.findIdx?_eq_none_iff]
    intro x hx
    obtain ⟨j, hj, rfl⟩ := List.getElem_of_mem hx
    simpa using hb j hj
  rw [fnd, this]
theorem fnd_cases (ls : List ByteArray) (s : ByteArray) : (fnd ls s = -1 ∧ s ∉ ls) ∨ ∃ k, ∃ hk : k < ls.length, fnd ls s = (k : Int) ∧ ls[k] = s ∧ ∀ j (hj : j < k), ls[j]'(by omega) ≠ s := by
  cases h : ls.findIdx? (fun x => decide (x = s)) with
  | none =>
    left
    refine ⟨by rw [fnd, h], fun hm => ?_⟩
    rw [List.findIdx?_eq_none_iff] at h
    simpa using h s hm
  | some k =>
    right
    rw [List.findIdx?_eq_some_iff_getElem] at h
    obtain ⟨hk, h1, h2⟩ := h
    have h0 : ls.findIdx? (fun x => decide (x = s)) = some k := by
      rw [List.findIdx?_eq_some_iff_getElem]; exact ⟨hk, h1, h2⟩
    exact ⟨k, hk, by rw [fnd, h0], by simpa using h1, fun j hj => by simpa using h2 j hj⟩
theorem fnd_neg (ls : List ByteArray) (s : ByteArray) : fnd ls s < 0 ↔ s ∉ ls := by
  rcases fnd_cases ls s with ⟨h1, h2⟩ | ⟨k, hk, h1, h2, _⟩
  · exact ⟨fun _ => h2, fun _ => by omega⟩
  · exact ⟨fun h => by omega, fun h => absurd (by rw [← h2]; exact List.getElem_mem hk) h⟩

/-- a slice value that reads as a list of strings -/
def SV (w : World) (v : Value) (ls : List ByteArray) : Prop := ∃ a cap, v = .slice a ls.length cap ∧ (∀ x ∈ ls, x.size ≤ maxLen) ∧ ∀ i (hi : i < ls.length), ∃ b off, a = some ⟨b, off, none⟩ ∧ b < w.heap.size ∧ w.cell? ⟨b, off + i, none⟩ = some (.string ls[i])
theorem SV.bel {w w' : World} {v : Value} {ls : List ByteArray} (h : SV w v ls) (hb : Below w.heap.size w w') : SV w' v ls := by
  obtain ⟨a, cap, rfl, hm, hc⟩ := h
  refine ⟨a, cap, rfl, hm, fun i hi => ?_⟩
  obtain ⟨b, off, rfl, hlt, hcc⟩ := hc i hi
  exact ⟨b, off, rfl, Nat.lt_of_lt_of_le hlt hb.size, (hb.cell (p := ⟨b, off + i, none⟩) hlt).trans hcc⟩

def FindPost (ls : List ByteArray) (s : ByteArray) (w : World) (e : Ending) (w' : World) : Prop := e = .returned (.int .i64 (fnd ls s)) ∧ w = w'
theorem fp_hit {ls : List ByteArray} {s : ByteArray} {w : World} {k : Nat} (hk : k < ls.length) (h : ls[k] = s) (hb : ∀ j (hj : j < k), ls[j]'(by omega) ≠ s) : FindPost ls s w (.returned (.int .i64 k)) w := ⟨by rw [fnd_hit ls s k hk h hb], rfl⟩
theorem fp_miss {ls : List ByteArray} {s : ByteArray} {w : World} (hb : ∀ j (hj : j < ls.length), ls[j] ≠ s) : FindPost ls s w (.returned (.int .i64 (-1))) w := ⟨by rw [fnd_miss ls s hb], rfl⟩

set_option maxHeartbeats 1000000 in
theorem rfind_any (ls : List ByteArray) (v : Value) (s : ByteArray) (w : World) (hv : SV w v ls) (hl : ls.length ≤ 1000000) : Calls Try.prog 54 #[v, .string s] w (FindPost ls s w) := by
  obtain ⟨a, cap, rfl, _, hc⟩ := hv
  have HC := Lib.hid hc
  obtain ⟨n, hn⟩ : ∃ n, n = ls.length := ⟨_, rfl⟩
  rw [← hn] at hl ⊢
  have HN := Lib.hid hn
  clear hc hn
  go_enter Try.func54, Try.ntmps54
  go_wp2
  go_loop [5] (fun i => ∃ k : Nat, k ≤ n ∧ i = .int .i64 k ∧ Hid (∀ j (hj : j < k) (hj' : j < ls.length), ls[j] ≠ s)) (fun i => n - (intOf i).toNat)
  case atStart => exact ⟨0, Nat.zero_le _, rfl, fun j hj => by omega⟩
  case round =>
    obtain ⟨k, hk, rfl, HK⟩ := hrel
    by_cases hlt : k < n
    · have hkl : k < ls.length := by have := HN.out; omega
      obtain ⟨b, off, rfl, hb, hcell⟩ := HC.out k hkl
      obtain ⟨x, hx⟩ : ∃ x, x = ls[k] := ⟨_, rfl⟩
      rw [← hx] at hcell
      have HX := Lib.hid hx
      clear hx
      by_cases heq : x = s
      · have hq := str_same heq
        have HQ := Lib.hid heq
        clear heq
        go_wp2
        go_ret
        exact fp_hit hkl (by rw [← HX.out]; exact HQ.out) (fun j hj => HK.out j hj (by omega))
      · have hq := str_other heq
        have HQ := Lib.hid heq
        clear heq
        go_wp2
        go_round
        case rel => exact ⟨k + 1, by omega, by go_num, fun j hj hj' => by
          rcases Nat.lt_or_ge j k with h | h
          · exact HK.out j h hj'
          · obtain rfl : j = k := by omega
            rw [← HX.out]; exact HQ.out⟩
        case measure => simp [intOf] <;> omega
    · go_wp2
      go_ret
      exact fp_miss (fun j hj => HK.out j (by have := HN.out; omega) hj)

/-- no name stands twice -/
def unl (ls : List ByteArray) : Bool := decide ls.Nodup
theorem unl_yes {ls : List ByteArray} (h : ∀ j (hj : j < ls.length), fnd ls ls[j] = j) : unl ls = true := by
  rw [unl, decide_eq_true_eq, List.Nodup, List.pairwise_iff_getElem]
  intro i j hi hj hij e
  have h1 := h i hi
  have h2 := h j hj
  rw [e] at h1
  omega
theorem unl_no {ls : List ByteArray} {k : Nat} (hk : k < ls.length) (h : fnd ls ls[k] ≠ k) : unl ls = false := by
  rw [unl, decide_eq_false_iff_not]
  intro hnd
  apply h
  refine fnd_hit ls ls[k] k hk rfl (fun j hj e => ?_)
  rw [List.Nodup, List.pairwise_iff_getElem] at hnd
  exact hnd j k (by omega) hk hj e

def UnlPost (ls : List ByteArray) (w : World) (e : Ending) (w' : World) : Prop := e = .returned (.bool (unl ls)) ∧ w = w'
theorem up_yes {ls : List ByteArray} {w : World} (h : unl ls = true) : UnlPost ls w (.returned (.bool true)) w := ⟨by rw [h], rfl⟩
theorem up_no {ls : List ByteArray} {w : World} (h : unl ls = false) : UnlPost ls w (.returned (.bool false)) w := ⟨by rw [h], rfl⟩
set_option maxHeartbeats 1000000 in
theorem runlike_any (ls : List ByteArray) (v : Value) (w : World) (hv : SV w v ls) (hl : ls.length ≤ 1000000) : Calls Try.prog 37 #[v] w (UnlPost ls w) := by
  have HF : Hid (∀ s, Calls Try.prog 54 #[v, .string s] w (FindPost ls s w)) := fun s => rfind_any ls v s w hv hl
  obtain ⟨a, cap, rfl, _, hc⟩ := hv
  have HC := Lib.hid hc
  obtain ⟨n, hn⟩ : ∃ n, n = ls.length := ⟨_, rfl⟩
  rw [← hn] at hl HF ⊢
  have HN := Lib.hid hn
  clear hc hn
  go_enter Try.func37, Try.ntmps37
  go_wp2
  go_loop [3] (fun i => ∃ k : Nat, k ≤ n ∧ i = .int .i64 k ∧ Hid (∀ j (hj : j < k) (hj' : j < ls.length), fnd ls ls[j] = j)) (fun i => n - (intOf i).toNat)
  case atStart => exact ⟨0, Nat.zero_le _, rfl, fun j hj => by omega⟩
  case round =>
    obtain ⟨k, hk, rfl, HK⟩ := hrel
    by_cases hlt : k < n
    · have hkl : k < ls.length := by have := HN.out; omega
      obtain ⟨b, off, rfl, hb, hcell⟩ := HC.out k hkl
      obtain ⟨x, hx⟩ : ∃ x, x = ls[k] := ⟨_, rfl⟩
      rw [← hx] at hcell
      have HX := Lib.hid hx
      clear hx
      obtain ⟨f, hf⟩ : ∃ f, f = fnd ls x := ⟨_, rfl⟩
      have hF : Calls Try.prog 54 #[.slice (some ⟨b, off, none⟩) n cap, .string x] w fun e w' => e = .returned (.int .i64 f) ∧ w = w' := by rw [hf]; exact HF.out x
      have HFF := Lib.hid hf
      have H10 := Lib.hid hF
      clear hf hF
      by_cases heq : f = k
      · have hq : (f != (k : Int)) = false := by simpa using heq
        have HQ := Lib.hid heq
        clear heq
        go_wp2_with (go_at_call 54; refine H10.out.mono ?_; rintro e w1 ⟨rfl, rfl⟩)
        go_round
        case rel => exact ⟨k + 1, by omega, by go_num, fun j hj hj' => by
          rcases Nat.lt_or_ge j k with h | h
          · exact HK.out j h hj'
          · obtain rfl : j = k := by omega
            rw [← HX.out, ← HFF.out]; exact HQ.out⟩
        case measure => simp [intOf] <;> omega
      · have hq : (f != (k : Int)) = true := by simpa using heq
        have HQ := Lib.hid heq
        clear heq
        go_wp2_with (go_at_call 54; refine H10.out.mono ?_; rintro e w1 ⟨rfl, rfl⟩)
        go_ret
        exact up_no (unl_no hkl (by rw [← HX.out, ← HFF.out]; exact HQ.out))
    · go_wp2
      go_ret
      exact up_yes (unl_yes (fun j hj => HK.out j (by have := HN.out; omega) hj))

theorem inf9 : (Try.prog.info? 9).map (fun i => (i.zero, i.size, i.bytes)) = some (some (.string ⟨#[]⟩), 1, 16) := by kernel_rfl
theorem inf3 : (Try.prog.info? 3).map (fun i => (i.zero, i.size, i.bytes)) = some (some (.int .i64 0), 1, 8) := by kernel_rfl
theorem inf59 : (Try.prog.info? 59).map (fun i => (i.zero, i.size, i.bytes)) = some (some (.int .i64 0), 1, 8) := by kernel_rfl
theorem inf29 : (Try.prog.info? 29).map (fun i => (i.zero, i.size, i.bytes)) = some (some (.slice none 0 0), 1, 24) := by kernel_rfl
theorem inf4 : (Try.prog.info? 4).map (fun i => (i.zero, i.size, i.bytes)) = some (some (.bool false), 1, 1) := by kernel_rfl
theorem inf73 : (Try.prog.info? 73).map (fun i => (i.zero, i.size, i.bytes)) = some (some (.agg #[.int .i64 0, .int .i64 0]), 2, 16) := by kernel_rfl
theorem inf34 : (Try.prog.info? 34).map (fun i => (i.zero, i.size, i.bytes)) = some (some (.agg #[.string ⟨#[]⟩, .bool false, .slice none 0 0, .slice none 0 0, .slice none 0 0, .slice none 0 0, .slice none 0 0, .slice none 0 0, .slice none 0 0, .slice none 0 0, .slice none 0 0]), 11, 240) := by kernel_rfl
theorem news {w : World} {H : Nat} (c : List Value) (t : TypeId) (h : H = w.heap.size) : ∀ j u, c[j]? = some u → (w.alloc (.cells c.toArray t)).cell? ((⟨H, 0, none⟩ : Addr).add j) = some u := fun j u hu => by
  subst h
  have hadd : (⟨w.heap.size, 0, none⟩ : Addr).add j = ⟨w.heap.size, j, none⟩ := by unfold Addr.add; split <;> simp_all
  rw [hadd, cell_of (heap_new w _)]
  simpa using hu
theorem take_snoc {α : Type} (l : List α) (k : Nat) (h : k < l.length) : l.take (k + 1) = l.take k ++ [l[k]] := by
  rw [List.take_succ_eq_append_getElem h]

/-- an owned row of one cell each, as a value that reads -/
theorem owned_at {w : World} {base : Nat} {e : TypeId} {v : Value} {n : Nat} {xs : List Value} (h : w.ownsRow base e 1 v n xs) (hn : n ≤ maxLen) :
    ∃ a cap, v = .slice a n cap ∧ n ≤ cap ∧ cap ≤ maxLen ∧ ∀ i (hi : i < n), ∃ b, a = some ⟨b, 0, none⟩ ∧ base ≤ b ∧ b < w.heap.size ∧ w.cell? ⟨b, 0 + i, none⟩ = xs[i]? := by
  have hlt := h.lt
  obtain ⟨hlen, hv⟩ := h
  rcases hv with ⟨rfl, rfl⟩ | ⟨g, cap, cur, rfl, hb, hg, hnc, hcm, hsz, htk⟩
  · exact ⟨none, 0, rfl, Nat.le_refl _, Nat.zero_le _, fun i hi => by omega⟩
  · refine ⟨_, cap, rfl, hnc, hcm, fun i _ => ⟨g, rfl, hb, (hlt g rfl).2, ?_⟩⟩
    rw [cell_of hg, ← htk, List.getElem?_take, if_pos (by omega)]
    simp
theorem iv_of_owned {w : World} {base : Nat} {e : TypeId} {v : Value} {xs : List Int} (h : w.ownsRow base e 1 v xs.length (xs.map (Value.int .i64))) (hn : xs.length ≤ maxLen) : IV w v xs := by
  obtain ⟨a, cap, rfl, h1, h2, h3⟩ := owned_at h hn
  refine ⟨a, cap, rfl, h1, h2, fun i hi => ?_⟩
  obtain ⟨b, rfl, _, hb, hc⟩ := h3 i hi
  exact ⟨b, 0, rfl, hb, by rw [hc]; simp [hi]⟩
theorem sv_of_owned {w : World} {base : Nat} {e : TypeId} {v : Value} {xs : List ByteArray} (h : w.ownsRow base e 1 v xs.length (xs.map Value.string)) (hn : xs.length ≤ maxLen) (hm : ∀ x ∈ xs, x.size ≤ maxLen) : SV w v xs := by
  obtain ⟨a, cap, rfl, h1, h2, h3⟩ := owned_at h hn
  refine ⟨a, cap, rfl, hm, fun i hi => ?_⟩
  obtain ⟨b, rfl, _, hb, hc⟩ := h3 i hi
  exact ⟨b, 0, rfl, hb, by rw [hc]; simp [hi]⟩

def NamesPost (p : List Fn) (w : World) (e : Ending) (w' : World) : Prop := ∃ v, e = .returned v ∧ SV w' v (p.map (·.name)) ∧ Below w.heap.size w w'
def nmsOf (p : List Fn) (k : Nat) : List Value := ((p.take k).map (·.name)).map Value.string
theorem nms_snoc (p : List Fn) (k : Nat) (h : k < p.length) : nmsOf p k ++ [.string p[k].name] = nmsOf p (k + 1) := by
  rw [nmsOf, nmsOf, take_snoc _ _ h, List.map_append, List.map_append]; rfl
theorem nms_all (p : List Fn) : nmsOf p p.length = (p.map (·.name)).map Value.string := by simp [nmsOf]
set_option maxHeartbeats 1000000 in
theorem names_any (p : List Fn) (v : Value) (w : World) (hv : PV w v p) (hl0 : p.length ≤ 1000000) : Calls Try.prog 38 #[v] w (NamesPost p w) := by
  have hnames : ∀ x ∈ p.map (·.name), x.size ≤ maxLen := by
    intro x hx
    rw [List.mem_map] at hx
    obtain ⟨f, hf, rfl⟩ := hx
    obtain ⟨j, hj, rfl⟩ := List.getElem_of_mem hf
    obtain ⟨a, cap, _, _, _, hc⟩ := hv
    obtain ⟨_, _, _, _, _, _, _, _, _, _, _, _, _, _, _, hp⟩ := hc j hj
    exact hp.2.nm
  have HNM := Lib.hid hnames
  obtain ⟨a, cap, rfl, hl, hm, hc⟩ := hv
  have HC := Lib.hid hc
  obtain ⟨n, hn⟩ : ∃ n, n = p.length := ⟨_, rfl⟩
  rw [← hn] at hl hl0 ⊢
  have HN := Lib.hid hn
  clear hc hn hnames
  obtain ⟨i0, hi, hz0, hz1, hz2⟩ := info_parts inf9
  go_enter Try.func38, Try.ntmps38
  go_wp2
  go_loopw [3, 4] (fun o i wr => ∃ k : Nat, k ≤ n ∧ i = .int .i64 k ∧ Hid (wr.ownsRow (w.heap.size + 1) 9 1 o k (nmsOf p k)) ∧ (∃ nn, wr.cell? ⟨w.heap.size, 0, none⟩ = some (.slice a n cap) ∧ Hid (Below w.heap.size w wr) ∧ nn = wr.heap.size ∧ w.heap.size < nn)) (fun _ i _ => n - (intOf i).toNat)
  case atStart => exact ⟨0, Nat.zero_le _, rfl, World.ownsRow_nil _ _ _ _, _, by go_simp, (Below.refl _ _).alloc (Nat.le_refl _) _, rfl, by simp⟩
  case round =>
    obtain ⟨k, hk, rfl, HO, nn, hbox, HB, hnn, hsz⟩ := hrel
    by_cases hlt : k < n
    · have hkl : k < p.length := by have := HN.out; omega
      obtain ⟨b, off, rfl, hf⟩ := HC.out k hkl
      obtain ⟨vo, vp, vr, vl, vc, vn, an, aa, al, cn, ca, cl, h1, hp⟩ := hf.bel HB.out
      obtain ⟨hlt1, h0, h1, h2, h3, h4, h5, h6, h7, h8, h9, h10⟩ := h1
      obtain ⟨s, hs⟩ : ∃ s, s = p[k].name := ⟨_, rfl⟩
      rw [← hs] at h0
      have HS := Lib.hid hs
      clear hs hf hp h1 h2 h3 h4 h5 h6 h7 h8 h9 h10
      go_wp2_with (at_builtin; refine wpList_append_own _ rfl _ _ 76 rfl (w.heap.size + 1) 9 i0 (.string ⟨#[]⟩) 1 16 Try.underlying76 hi hz0 hz1 hz2 rfl (by decide) _ k (nmsOf p k) rfl (HO.out.alloc _) ⟨wr.heap.size, 0, none⟩ 1 1 [.string s] rfl rfl (news _ _ rfl) (by simp [Value.oneCell']) (by unfold maxLen; omega) (by omega) (by have := HB.out.size; simp; omega) ?_)
      intro v' w1 hown' hgrow _
      have hbel : Below w.heap.size w w1 := (HB.out.alloc HB.out.size _).grown hgrow (by have := HB.out.size; simp; omega) (fun k hk => by have := (HO.out.lt k hk).1; omega)
      have hbox1 : w1.cell? ⟨w.heap.size, 0, none⟩ = some (.slice (some ⟨b, off, none⟩) n cap) := by
        rw [World.cell?_of_block (hgrow.block w.heap.size (by simp; omega) (fun e => by have := (HO.out.lt _ e.symm).1; omega)), World.cell?_alloc_lt _ _ _ (by show w.heap.size < wr.heap.size; omega)]
        exact hbox
      have hs1 : w.heap.size < w1.heap.size := by have := hgrow.size; simp at this; omega
      have HO1 := Lib.hid hown'
      have HB1 := Lib.hid hbel
      clear hbel hown' hgrow
      go_wp2
      go_roundw
      case rel => exact ⟨k + 1, by omega, by go_num, by rw [← nms_snoc p k hkl, ← HS.out]; exact HO1.out, _, hbox1, HB1.out, rfl, hs1⟩
      case measure => simp [intOf] <;> omega
    · have HK := Lib.hid (show k = p.length by have := HN.out; omega)
      go_wp2
      go_ret
      have h := HO.out
      rw [HK.out, nms_all] at h
      exact ⟨_, rfl, sv_of_owned (by rw [List.length_map]; exact h) (by rw [List.length_map]; unfold maxLen; have := HN.out; omega) HNM.out, HB.out⟩
end Go.Proofs.Ythaniobijkdnoaa
