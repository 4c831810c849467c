/- lives answers true, and the three laws of names, walked. Condition: the slice of names reads as strings. -/
import Derived.Test.YtobcjliibahdeaaF
namespace Go.Proofs.Ytobcjliibahdeaa
open Go.RowKit Go.Maps

theorem sv_one (w : World) (x : ByteArray) (h : x.size ≤ maxLen) : SV (w.alloc (.cells #[.string x] 9)) (.slice (some ⟨w.heap.size, 0, none⟩) 1 1) [x] :=
  ⟨_, 1, rfl, by simpa using h, fun i hi => ⟨w.heap.size, 0, rfl, by simp, by
    obtain rfl : i = 0 := by simpa using hi
    exact cell_of (heap_new _ _) 0⟩⟩
theorem sv_two (w : World) (x y : ByteArray) (h : x.size ≤ maxLen) (h2 : y.size ≤ maxLen) : SV (w.alloc (.cells #[.string x, .string y] 9)) (.slice (some ⟨w.heap.size, 0, none⟩) 2 2) [x, y] :=
  ⟨_, 2, rfl, by simp [h, h2], fun i hi => ⟨w.heap.size, 0, rfl, by simp, by
    simp at hi
    rcases (show i = 0 ∨ i = 1 by omega) with rfl | rfl
    · exact cell_of (heap_new _ _) 0
    · exact cell_of (heap_new _ _) 1⟩⟩

theorem ba_size (a : Array UInt8) : (⟨a⟩ : ByteArray).size = a.size := rfl

set_option maxRecDepth 100000 in
set_option maxHeartbeats 1000000 in
theorem lives_any (w : World) : Calls Try.prog 6 #[] w fun e w' => e = .returned (.bool true) ∧ Below w.heap.size w w' := by
  have m1 : mayB ⟨#[97, 95, 49]⟩ = true := by decide +kernel
  have m2 : mayB ⟨#[49, 97]⟩ = false := by decide +kernel
  have n0 : nm 0 = ⟨#[102, 48]⟩ := by decide +kernel
  have fi : FreshIs [⟨#[97]⟩] ⟨#[97]⟩ ⟨#[102, 48]⟩ := by
    rw [← n0]
    refine .inr ⟨fun h => h.1 (by simp), 0, by simp, rfl, ?_, fun j hj => by omega⟩
    rw [n0]
    intro h
    rw [List.mem_singleton] at h
    exact absurd (congrArg (fun s : ByteArray => s.size) h) (by decide)
  have u1 : unl [⟨#[97]⟩, ⟨#[98]⟩] = true := by decide +kernel
  have u2 : unl [⟨#[97]⟩, ⟨#[97]⟩] = false := by decide +kernel
  have hM1 : ∀ W, Calls Try.prog 7 #[.string ⟨#[97, 95, 49]⟩] W fun e w' => e = .returned (.bool true) ∧ W = w' := fun W => by rw [← m1]; exact may_any _ W (by decide)
  have hM2 : ∀ W, Calls Try.prog 7 #[.string ⟨#[49, 97]⟩] W fun e w' => e = .returned (.bool false) ∧ W = w' := fun W => by rw [← m2]; exact may_any _ W (by decide)
  have hF : ∀ W : World, Calls Try.prog 13 #[.slice (some ⟨W.heap.size, 0, none⟩) 1 1, .string ⟨#[97]⟩] (W.alloc (.cells #[.string ⟨#[97]⟩] 9)) fun e w' => e = .returned (.string ⟨#[102, 48]⟩) ∧ Below W.heap.size W w' := fun W =>
    (fresh_any [⟨#[97]⟩] _ ⟨#[97]⟩ _ (sv_one W ⟨#[97]⟩ (by decide)) (by decide) (by decide)).mono fun e w' ⟨r, he, hr, hb⟩ => ⟨by rw [he, fresh_uniq hr fi], ((Below.refl _ _).alloc (Nat.le_refl _) _).trans (hb.mono (by simp))⟩
  have hU1 : ∀ W : World, Calls Try.prog 11 #[.slice (some ⟨W.heap.size, 0, none⟩) 2 2] (W.alloc (.cells #[.string ⟨#[97]⟩, .string ⟨#[98]⟩] 9)) fun e w' => e = .returned (.bool true) ∧ Below W.heap.size W w' := fun W =>
    (unlike_any [⟨#[97]⟩, ⟨#[98]⟩] _ _ (sv_two W _ _ (by decide) (by decide)) (by decide)).mono fun e w' ⟨he, hb⟩ => ⟨by rw [he, u1], ((Below.refl _ _).alloc (Nat.le_refl _) _).trans (hb.mono (by simp))⟩
  have hU2 : ∀ W : World, Calls Try.prog 11 #[.slice (some ⟨W.heap.size, 0, none⟩) 2 2] (W.alloc (.cells #[.string ⟨#[97]⟩, .string ⟨#[97]⟩] 9)) fun e w' => e = .returned (.bool false) ∧ Below W.heap.size W w' := fun W =>
    (unlike_any [⟨#[97]⟩, ⟨#[97]⟩] _ _ (sv_two W _ _ (by decide) (by decide)) (by decide)).mono fun e w' ⟨he, hb⟩ => ⟨by rw [he, u2], ((Below.refl _ _).alloc (Nat.le_refl _) _).trans (hb.mono (by simp))⟩
  have HM1 := Lib.hid hM1
  have HM2 := Lib.hid hM2
  have HF := Lib.hid hF
  have HU1 := Lib.hid hU1
  have HU2 := Lib.hid hU2
  clear m1 m2 n0 fi u1 u2 hM1 hM2 hF hU1 hU2
  go_enter Try.func6, Try.ntmps6
  go_wp2_with fail
  refine (HM1.out _).mono ?_
  rintro e w1 ⟨rfl, rfl⟩
  go_wp2_with fail
  refine (HM2.out _).mono ?_
  rintro e w1 ⟨rfl, rfl⟩
  go_wp2_with fail
  refine (HF.out _).mono ?_
  rintro e w1 ⟨rfl, hb1⟩
  have HB1 := Lib.hid hb1
  clear hb1
  go_wp2_with fail
  refine (HU1.out _).mono ?_
  rintro e w2 ⟨rfl, hb2⟩
  have HB2 := Lib.hid hb2
  clear hb2
  go_wp2_with fail
  refine (HU2.out _).mono ?_
  rintro e w3 ⟨rfl, hb3⟩
  have HB3 := Lib.hid hb3
  clear hb3
  go_wp2
  go_ret
  have s1 := HB1.out.size
  have s2 := HB2.out.size
  exact ⟨rfl, (HB1.out.trans (HB2.out.mono s1)).trans (HB3.out.mono (by omega))⟩

set_option maxHeartbeats 1000000 in
theorem lawMay (s : ByteArray) (w : World) (hs : s.size ≤ 9223372036854775807) : Calls Try.prog 3 #[.string s] w fun e w' => e = .returned (.bool true) ∧ Below w.heap.size w w' := by
  have HL := Lib.hid lives_any
  by_cases h : s.size ≤ 100
  · obtain ⟨m, hm⟩ : ∃ m, m = mayB s := ⟨_, rfl⟩
    have h7 : ∀ W, Calls Try.prog 7 #[.string s] W fun e w' => e = .returned (.bool m) ∧ W = w' := fun W => by rw [hm]; exact may_any s W (by omega)
    have h8 : ∀ W, Calls Try.prog 8 #[.string s] W fun e w' => e = .returned (.bool m) ∧ W = w' := fun W => by rw [hm]; exact rmay_any s W (by omega)
    have H7 := Lib.hid h7
    have H8 := Lib.hid h8
    clear h7 h8 hm
    go_enter Try.func3, Try.ntmps3
    go_wp2_with (first
      | (go_at_call 7; refine (H7.out _).mono ?_; rintro e w1 ⟨rfl, rfl⟩)
      | (go_at_call 8; refine (H8.out _).mono ?_; rintro e w1 ⟨rfl, rfl⟩)
      | (go_at_call 6; refine (HL.out _).mono ?_; rintro e w1 ⟨rfl, hb1⟩; have HB1 := Lib.hid hb1; clear hb1))
    go_ret
    exact ⟨rfl, HB1.out⟩
  · go_enter Try.func3, Try.ntmps3
    go_wp2_with (go_at_call 6; refine (HL.out _).mono ?_; rintro e w1 ⟨rfl, hb1⟩; have HB1 := Lib.hid hb1; clear hb1)
    go_ret
    exact ⟨rfl, HB1.out⟩

set_option maxHeartbeats 1000000 in
theorem lawFind (ls : List ByteArray) (v : Value) (s : ByteArray) (w : World) (hv : SV w v ls) : Calls Try.prog 4 #[v, .string s] w fun e w' => e = .returned (.bool true) ∧ Below w.heap.size w w' := by
  have HL := Lib.hid lives_any
  have HV := Lib.hid hv
  obtain ⟨a, cap, rfl⟩ := hv.form
  by_cases h : ls.length ≤ 60
  · obtain ⟨f, hf⟩ : ∃ f, f = fnd ls s := ⟨_, rfl⟩
    obtain ⟨u, hu⟩ : ∃ u, u = unl ls := ⟨_, rfl⟩
    have H9 : Hid (Calls Try.prog 9 #[.slice a ls.length cap, .string s] w fun e w' => e = .returned (.int .i64 f) ∧ w = w') := by rw [hf]; exact find_any ls _ s w HV.out (by omega)
    have H10 : Hid (Calls Try.prog 10 #[.slice a ls.length cap, .string s] w fun e w' => e = .returned (.int .i64 f) ∧ w = w') := by rw [hf]; exact rfind_any ls _ s w HV.out (by omega)
    have H11 : Hid (Calls Try.prog 11 #[.slice a ls.length cap] w fun e w' => e = .returned (.bool u) ∧ Below w.heap.size w w') := by rw [hu]; exact unlike_any ls _ w HV.out (by omega)
    have H12 : Hid (∀ W, Below w.heap.size w W → Calls Try.prog 12 #[.slice a ls.length cap] W fun e w' => e = .returned (.bool u) ∧ W = w') := fun W hb => by rw [hu]; exact runlike_any ls _ W (HV.out.bel hb) (by omega)
    clear hv hf hu
    go_enter Try.func4, Try.ntmps4
    go_wp2_with (first
      | (go_at_call 9; refine H9.out.mono ?_; rintro e w1 ⟨rfl, rfl⟩)
      | (go_at_call 10; refine H10.out.mono ?_; rintro e w1 ⟨rfl, rfl⟩)
      | (go_at_call 11; refine H11.out.mono ?_; rintro e w1 ⟨rfl, hb1⟩; have HB1 := Lib.hid hb1; clear hb1)
      | (go_at_call 12; refine (H12.out _ HB1.out).mono ?_; rintro e w2 ⟨rfl, rfl⟩)
      | (go_at_call 6; refine (HL.out _).mono ?_; rintro e w3 ⟨rfl, hb3⟩; have HB3 := Lib.hid hb3; clear hb3))
    go_ret
    exact ⟨rfl, HB1.out.trans (HB3.out.mono HB1.out.size)⟩
  · clear hv
    go_enter Try.func4, Try.ntmps4
    go_wp2_with (go_at_call 6; refine (HL.out _).mono ?_; rintro e w1 ⟨rfl, hb1⟩; have HB1 := Lib.hid hb1; clear hb1)
    go_ret
    exact ⟨rfl, HB1.out⟩

set_option maxHeartbeats 1000000 in
theorem lawFresh (ls : List ByteArray) (v : Value) (s : ByteArray) (w : World) (hv : SV w v ls) (hs : s.size ≤ 9223372036854775807) : Calls Try.prog 5 #[v, .string s] w fun e w' => e = .returned (.bool true) ∧ Below w.heap.size w w' := by
  have HL := Lib.hid lives_any
  have HV := Lib.hid hv
  obtain ⟨a, cap, rfl⟩ := hv.form
  by_cases h : ls.length ≤ 60
  · by_cases h100 : s.size ≤ 100
    · have H13 : Hid (Calls Try.prog 13 #[.slice a ls.length cap, .string s] w (FreshPost ls s w)) := fresh_any ls _ s w HV.out h (by omega)
      have H14 : Hid (∀ W, Below w.heap.size w W → Calls Try.prog 14 #[.slice a ls.length cap, .string s] W (FreshPost ls s W)) := fun W hb => rfresh_any ls _ s W (HV.out.bel hb) h (by omega)
      clear hv
      go_enter Try.func5, Try.ntmps5
      go_wp2_with fail
      refine H13.out.mono ?_
      rintro e w1 ⟨r, rfl, hr, hb1⟩
      have HR := Lib.hid hr
      have HB1 := Lib.hid hb1
      clear hr hb1
      go_wp2_with fail
      refine (H14.out _ HB1.out).mono ?_
      rintro e w2 ⟨r', rfl, hr, hb2⟩
      obtain rfl : r' = r := fresh_uniq hr HR.out
      have hg := fresh_good hr h
      have H7 : Hid (∀ W, Calls Try.prog 7 #[.string r'] W fun e w' => e = .returned (.bool true) ∧ W = w') := fun W => by rw [← hg.2.1]; exact may_any r' W (by omega)
      have H9 : Hid (∀ W, Below w.heap.size w W → Calls Try.prog 9 #[.slice a ls.length cap, .string r'] W fun e w' => e = .returned (.int .i64 (-1)) ∧ W = w') := fun W hb => by
        have e : fnd ls r' = -1 := by
          rcases fnd_cases ls r' with ⟨h1, _⟩ | ⟨j, hj, _, h2, _⟩
          · exact h1
          · exact absurd (by rw [← h2]; exact List.getElem_mem hj) hg.1
        rw [← e]
        exact find_any ls _ r' W (HV.out.bel hb) (by omega)
      have HBB := Lib.hid (HB1.out.trans (hb2.mono HB1.out.size))
      have hq := str_same (rfl : r' = r')
      clear hr hb2 hg
      go_wp2_with (first
        | (go_at_call 7; refine (H7.out _).mono ?_; rintro e w3 ⟨rfl, rfl⟩)
        | (go_at_call 9; refine (H9.out _ HBB.out).mono ?_; rintro e w3 ⟨rfl, rfl⟩)
        | (go_at_call 6; refine (HL.out _).mono ?_; rintro e w3 ⟨rfl, hb3⟩; have HB3 := Lib.hid hb3; clear hb3))
      go_ret
      exact ⟨rfl, HBB.out.trans (HB3.out.mono HBB.out.size)⟩
    · clear hv
      go_enter Try.func5, Try.ntmps5
      go_wp2_with (go_at_call 6; refine (HL.out _).mono ?_; rintro e w1 ⟨rfl, hb1⟩; have HB1 := Lib.hid hb1; clear hb1)
      go_ret
      exact ⟨rfl, HB1.out⟩
  · clear hv
    go_enter Try.func5, Try.ntmps5
    go_wp2_with (go_at_call 6; refine (HL.out _).mono ?_; rintro e w1 ⟨rfl, hb1⟩; have HB1 := Lib.hid hb1; clear hb1)
    go_ret
    exact ⟨rfl, HB1.out⟩
end Go.Proofs.Ytobcjliibahdeaa
