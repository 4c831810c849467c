/- The two texts of May, of the program and of the reference, answer the same. No condition but that a string's length is a number of 63 bits. -/
import Derived.Test.YtobcjliibahdeaaRows
import Derived.Test.YtobcjliibahdeaaGen
import Derived.Maps.OwnSet
namespace Go.Proofs.Ytobcjliibahdeaa
open Go.RowKit

def firstB (c : Int) : Bool := decide (97 ≤ c ∧ c ≤ 122)
def otherB (c : Int) : Bool := decide (97 ≤ c ∧ c ≤ 122) || (decide (48 ≤ c ∧ c ≤ 57) || decide (c = 95))
def code (s : ByteArray) (i : Nat) : Int := ((s.data.toList[i]?.getD 0).toNat : Int)
theorem code_eq (s : ByteArray) (i : Nat) (h : i < s.size) : code s i = ((s[i]'h).toNat : Int) := by
  have h' : i < s.data.toList.length := by simpa using h
  simp only [code, List.getElem?_eq_getElem h', Option.getD_some]
  rfl
def mayB (s : ByteArray) : Bool := decide (1 ≤ s.size ∧ s.size ≤ 12 ∧ firstB (code s 0) = true ∧ ∀ i, i < s.size → otherB (code s i) = true)

theorem first_any (c : Int) (w : World) : Calls Try.prog 15 #[.int .u8 c] w fun e w' => e = .returned (.bool (firstB c)) ∧ w = w' := by
  by_cases h : 97 ≤ c
  · by_cases h2 : c ≤ 122
    · go_enter Try.func15, Try.ntmps15
      go_wp2
      go_ret
      exact ⟨by simp [firstB, h, h2], rfl⟩
    · go_enter Try.func15, Try.ntmps15
      go_wp2
      go_ret
      exact ⟨by simp [firstB, h, h2], rfl⟩
  · go_enter Try.func15, Try.ntmps15
    go_wp2
    go_ret
    exact ⟨by simp [firstB]; omega, rfl⟩

theorem other_any (c : Int) (w : World) : Calls Try.prog 16 #[.int .u8 c] w fun e w' => e = .returned (.bool (otherB c)) ∧ w = w' := by
  obtain ⟨f, hf⟩ : ∃ f, f = firstB c := ⟨_, rfl⟩
  have hF : Calls Try.prog 15 #[.int .u8 c] w fun e w' => e = .returned (.bool f) ∧ w = w' := by rw [hf]; exact first_any c w
  have HF := Lib.hid hf
  have H15 := Lib.hid hF
  clear hf hF
  cases f
  · have hn : ¬ (97 ≤ c ∧ c ≤ 122) := by have h := HF.out.symm; simp only [firstB] at h; exact of_decide_eq_false h
    have HN := Lib.hid hn
    clear hn
    by_cases h1 : 48 ≤ c
    · by_cases h2 : c ≤ 57
      · go_enter Try.func16, Try.ntmps16
        go_wp2_with (go_at_call 15; refine H15.out.mono ?_; rintro e w1 ⟨rfl, rfl⟩)
        go_ret
        exact ⟨by simp [otherB, h1, h2], rfl⟩
      · by_cases h3 : c = 95
        · subst h3
          go_enter Try.func16, Try.ntmps16
          go_wp2_with (go_at_call 15; refine H15.out.mono ?_; rintro e w1 ⟨rfl, rfl⟩)
          go_ret
          exact ⟨by simp [otherB], rfl⟩
        · have h4 : (c == 95) = false := by simpa using h3
          have h5 : decide (c ≤ 57) = false := by simpa using h2
          have H3 := Lib.hid h3
          clear h3
          go_enter Try.func16, Try.ntmps16
          go_wp2_with (go_at_call 15; refine H15.out.mono ?_; rintro e w1 ⟨rfl, rfl⟩)
          go_ret
          have := HN.out
          have := H3.out
          exact ⟨by simp only [otherB, decide_eq_false this, decide_eq_false HN.out, decide_eq_false (show ¬ (48 ≤ c ∧ c ≤ 57) by omega)]; rfl, rfl⟩
    · have h4 : (c == 95) = false := by simp; omega
      go_enter Try.func16, Try.ntmps16
      go_wp2_with (go_at_call 15; refine H15.out.mono ?_; rintro e w1 ⟨rfl, rfl⟩)
      go_ret
      exact ⟨by simp only [otherB, decide_eq_false (show ¬ c = 95 by omega), decide_eq_false HN.out, decide_eq_false (show ¬ (48 ≤ c ∧ c ≤ 57) by omega)]; rfl, rfl⟩
  · go_enter Try.func16, Try.ntmps16
    go_wp2_with (go_at_call 15; refine H15.out.mono ?_; rintro e w1 ⟨rfl, rfl⟩)
    go_ret
    have h : 97 ≤ c ∧ c ≤ 122 := by have h := HF.out.symm; simp only [firstB] at h; exact of_decide_eq_true h
    exact ⟨by simp [otherB, h], rfl⟩

theorem may_no (s : ByteArray) (h : ¬ (1 ≤ s.size ∧ s.size ≤ 12 ∧ firstB (code s 0) = true ∧ ∀ i, i < s.size → otherB (code s i) = true)) : Ending.returned (.bool false) = Ending.returned (.bool (mayB s)) := by
  rw [mayB, decide_eq_false h]
theorem may_yes (s : ByteArray) (h : 1 ≤ s.size ∧ s.size ≤ 12 ∧ firstB (code s 0) = true ∧ ∀ i, i < s.size → otherB (code s i) = true) : Ending.returned (.bool true) = Ending.returned (.bool (mayB s)) := by
  rw [mayB, decide_eq_true h]
theorem empty_iff (s : ByteArray) : s.toList.isEmpty = decide (s.size = 0) := by
  have h : s.toList = s.data.toList := ByteArray.toList_eq s
  rw [h]
  cases hs : s.data.toList with
  | nil => 
    have : s.data.toList.length = 0 := by rw [hs]; rfl
    have h0 : s.size = 0 := by simpa using this
    simp [h0]
  | cons a l =>
    have : s.data.toList.length = l.length + 1 := by rw [hs]; rfl
    have h0 : s.size = l.length + 1 := by simpa using this
    simp [h0]

theorem str_same {a b : ByteArray} (h : a = b) : (a.toList == b.toList) = true := by subst h; simp
theorem str_other {a b : ByteArray} (h : a ≠ b) : (a.toList == b.toList) = false := by
  rw [ByteArray.toList_eq, ByteArray.toList_eq]
  simp only [beq_eq_false_iff_ne]
  exact fun e => h (Go.WideShapes.bytes_inj e)

def MayPost (s : ByteArray) (w : World) (e : Ending) (w' : World) : Prop := e = .returned (.bool (mayB s)) ∧ w = w'

set_option maxHeartbeats 1000000 in
theorem may_any (s : ByteArray) (w : World) (hs : s.size ≤ 1000000) : Calls Try.prog 7 #[.string s] w (MayPost s w) := by
  by_cases h0 : s.size = 0
  · have e0 : s.toList.isEmpty = true := by rw [empty_iff]; simpa using h0
    have H0 := Lib.hid h0
    clear h0
    go_enter Try.func7, Try.ntmps7
    go_wp2
    go_ret
    exact ⟨may_no s (by have := H0.out; omega), rfl⟩
  · have e0 : s.toList.isEmpty = false := by rw [empty_iff]; simpa using h0
    have hp : 0 < s.size := by omega
    have hp' : (0 : Int) < (s.size : Int) := by omega
    clear h0
    by_cases h12 : s.size ≤ 12
    · have c0 := code_eq s 0 hp
      obtain ⟨f, hf⟩ : ∃ f, f = firstB (code s 0) := ⟨_, rfl⟩
      have hF : ∀ W, Calls Try.prog 15 #[.int .u8 ((s[0]'hp).toNat : Int)] W fun e w' => e = .returned (.bool f) ∧ W = w' := fun W => by rw [hf, c0]; exact first_any _ W
      have HF := Lib.hid hf
      have H15 := Lib.hid hF
      clear hf hF c0
      cases f
      · go_enter Try.func7, Try.ntmps7
        go_wp2_with (go_at_call 15; refine (H15.out _).mono ?_; rintro e w1 ⟨rfl, rfl⟩)
        go_ret
        exact ⟨may_no s (by have := HF.out; rw [← this]; simp), rfl⟩
      · go_enter Try.func7, Try.ntmps7
        go_wp2_with (go_at_call 15; refine (H15.out _).mono ?_; rintro e w1 ⟨rfl, rfl⟩)
        go_loop [19] (fun i => ∃ k : Nat, k ≤ s.size ∧ i = .int .i64 k ∧ Hid (∀ j, j < k → otherB (code s j) = true)) (fun i => s.size - (intOf i).toNat)
        case atStart => exact ⟨0, Nat.zero_le _, rfl, fun j hj => by omega⟩
        case round =>
          obtain ⟨k, hk, rfl, HK⟩ := hrel
          by_cases hlt : k < s.size
          · have ck := code_eq s k hlt
            obtain ⟨f, hf⟩ : ∃ f, f = otherB (code s k) := ⟨_, rfl⟩
            have hO : ∀ W, Calls Try.prog 16 #[.int .u8 ((s[k]'hlt).toNat : Int)] W fun e w' => e = .returned (.bool f) ∧ W = w' := fun W => by rw [hf, ck]; exact other_any _ W
            have HO := Lib.hid hf
            have H16 := Lib.hid hO
            clear hf hO ck
            cases f
            · go_wp2_with (go_at_call 16; refine (H16.out _).mono ?_; rintro e w1 ⟨rfl, rfl⟩)
              go_ret
              exact ⟨may_no s (fun h => by have := h.2.2.2 k hlt; rw [← HO.out] at this; cases this), rfl⟩
            · go_wp2_with (go_at_call 16; refine (H16.out _).mono ?_; rintro e w1 ⟨rfl, rfl⟩)
              go_round
              case rel => exact ⟨k + 1, by omega, by go_num, fun j hj => by
                rcases Nat.lt_or_ge j k with h | h
                · exact HK.out j h
                · obtain rfl : j = k := by omega
                  exact HO.out.symm⟩
              case measure => simp [intOf] <;> omega
          · go_wp2
            go_ret
            exact ⟨may_yes s ⟨by omega, h12, HF.out.symm, fun i hi => HK.out i (by omega)⟩, rfl⟩
    · have h12' : (12 : Int) < (s.size : Int) := by omega
      go_enter Try.func7, Try.ntmps7
      go_wp2
      go_ret
      exact ⟨may_no s (by omega), rfl⟩

set_option maxHeartbeats 1000000 in
theorem rmay_any (s : ByteArray) (w : World) (hs : s.size ≤ 1000000) : Calls Try.prog 8 #[.string s] w (MayPost s w) := by
  go_enter Try.func8, Try.ntmps8
  go_wp2
  go_loop [3] (fun i => ∃ k : Nat, k ≤ s.size ∧ i = .int .i64 k ∧ Hid (∀ j, j < k → otherB (code s j) = true ∧ (j = 0 → firstB (code s j) = true))) (fun i => s.size - (intOf i).toNat)
  case atStart => exact ⟨0, Nat.zero_le _, rfl, fun j hj => by omega⟩
  case round =>
    obtain ⟨k, hk, rfl, HK⟩ := hrel
    by_cases hlt : k < s.size
    · have HC := Lib.hid (code_eq s k hlt)
      obtain ⟨c, hc⟩ : ∃ c : Int, c = ((s[k]'hlt).toNat : Int) := ⟨_, rfl⟩
      have step : ((97 ≤ c ∧ c ≤ 122) ∨ (k ≠ 0 ∧ ((48 ≤ c ∧ c ≤ 57) ∨ c = 95))) → ∀ j, j < k + 1 → otherB (code s j) = true ∧ (j = 0 → firstB (code s j) = true) := fun hh j hj => by
        rcases Nat.lt_or_ge j k with h | h
        · exact HK.out j h
        · obtain rfl : j = k := by omega
          rw [HC.out, ← hc]
          rcases hh with hh | ⟨hh, h2 | h2⟩
          · simp [otherB, firstB, hh]
          · simp [otherB, h2, hh]
          · simp [otherB, h2, hh]
      have bad : ¬ (97 ≤ c ∧ c ≤ 122) → (k = 0 ∨ (¬ (48 ≤ c ∧ c ≤ 57) ∧ c ≠ 95)) → Ending.returned (.bool false) = Ending.returned (.bool (mayB s)) := fun h1 h2 => may_no s (fun h => by
        rcases h2 with h2 | ⟨h2, h3⟩
        · subst h2
          have := h.2.2.1
          rw [HC.out, ← hc] at this
          simp [firstB] at this
          exact h1 this
        · have := h.2.2.2 k hlt
          rw [HC.out, ← hc] at this
          simp [otherB] at this
          rcases this with h | h | h
          · exact h1 h
          · exact h2 h
          · exact h3 h)
      have STEP := Lib.hid step
      have BAD := Lib.hid bad
      clear step bad
      subst hc
      by_cases p1 : 97 ≤ ((s[k]'hlt).toNat : Int) ∧ ((s[k]'hlt).toNat : Int) ≤ 122
      · obtain ⟨p1, p2⟩ := p1
        go_wp2
        go_round
        case rel => exact ⟨k + 1, by omega, by go_num, STEP.out (.inl ⟨p1, p2⟩)⟩
        case measure => simp [intOf] <;> omega
      · by_cases k0 : k = 0
        · have hk0 : ((k : Int) == 0) = true := by simp; omega
          have K0 := Lib.hid k0
          clear k0
          rcases (show ((s[k]'hlt).toNat : Int) < 97 ∨ 122 < ((s[k]'hlt).toNat : Int) by omega) with p2 | p2
          all_goals clear p1
          all_goals go_wp2
          all_goals go_ret
          all_goals exact ⟨BAD.out (by omega) (.inl K0.out), rfl⟩
        · have hk0 : ((k : Int) == 0) = false := by simp; omega
          have K0 := Lib.hid k0
          clear k0
          by_cases p3 : 48 ≤ ((s[k]'hlt).toNat : Int) ∧ ((s[k]'hlt).toNat : Int) ≤ 57
          · obtain ⟨p3, p4⟩ := p3
            clear p1
            go_wp2
            go_round
            case rel => exact ⟨k + 1, by omega, by go_num, STEP.out (.inr ⟨K0.out, .inl ⟨p3, p4⟩⟩)⟩
            case measure => simp [intOf] <;> omega
          · by_cases p5 : ((s[k]'hlt).toNat : Int) = 95
            · have P5 := Lib.hid p5
              have q5 : (((s[k]'hlt).toNat : Int) != 95) = false := by rw [p5]; decide
              have q6 : 58 ≤ ((s[k]'hlt).toNat : Int) := by omega
              have q7 : ((s[k]'hlt).toNat : Int) < 97 := by omega
              clear p5 p1 p3
              go_wp2
              go_round
              case rel => exact ⟨k + 1, by omega, by go_num, STEP.out (.inr ⟨K0.out, .inr P5.out⟩)⟩
              case measure => simp [intOf] <;> omega
            · have P5 := Lib.hid p5
              have q5 : (((s[k]'hlt).toNat : Int) != 95) = true := by rw [bne_iff_ne]; exact p5
              rcases (show ((s[k]'hlt).toNat : Int) < 48 ∨ (58 ≤ ((s[k]'hlt).toNat : Int) ∧ ((s[k]'hlt).toNat : Int) < 97) ∨ 122 < ((s[k]'hlt).toNat : Int) by omega) with p6 | ⟨p6, p7⟩ | p6
              all_goals clear p1 p3 p5
              all_goals go_wp2
              all_goals go_ret
              all_goals exact ⟨BAD.out (by omega) (.inr ⟨by omega, P5.out⟩), rfl⟩
    · by_cases h1 : 1 ≤ s.size
      · by_cases h12 : s.size ≤ 12
        · have h12' : decide ((s.size : Int) ≤ 12) = true := by simp; omega
          go_wp2
          go_ret
          exact ⟨may_yes s ⟨h1, h12, (HK.out 0 (by omega)).2 rfl, fun i hi => (HK.out i (by omega)).1⟩, rfl⟩
        · have h12' : decide ((s.size : Int) ≤ 12) = false := by simp; omega
          go_wp2
          go_ret
          exact ⟨may_no s (by omega), rfl⟩
      · go_wp2
        go_ret
        exact ⟨may_no s (by omega), rfl⟩
end Go.Proofs.Ytobcjliibahdeaa
