/- Fresh, of the program and of the reference: both answer the name itself, or the first of f0, f1, .. that is not there. Conditions: at most 60 names. -/
import Derived.Test.YtobcjliibahdeaaE
namespace Go.Proofs.Ytobcjliibahdeaa
open Go.RowKit Go.Maps

def nm (n : Nat) : ByteArray := (⟨#[102]⟩ : ByteArray) ++ dgs n
def dec (l : List UInt8) : Nat := match l with
  | [_, a] => a.toNat - 48
  | [_, a, b] => (a.toNat - 48) * 10 + (b.toNat - 48)
  | _ => 0
theorem nm_data (n : Nat) : (nm n).data.toList = 102 :: (dgs n).data.toList := by simp [nm]
theorem dec_nm : ∀ n, n < 100 → dec (102 :: (dgs n).data.toList) = n := by decide +kernel
theorem nm_inj {a b : Nat} (ha : a < 100) (hb : b < 100) (h : nm a = nm b) : a = b := by
  have e := congrArg (fun s : ByteArray => dec s.data.toList) h
  simp only [nm_data, dec_nm a ha, dec_nm b hb] at e
  exact e
theorem dgs_data : ∀ n, n < 100 → (dgs n).data.toList.length ≤ 2 ∧ 1 ≤ (dgs n).data.toList.length ∧ (dgs n).data.toList.all (fun c => decide (48 ≤ c.toNat ∧ c.toNat ≤ 57)) = true := by decide +kernel
theorem nm_size {n : Nat} (h : n < 100) : (nm n).size ≤ 3 ∧ 2 ≤ (nm n).size := by
  have h1 := dgs_data n h
  have h2 : (nm n).size = (nm n).data.toList.length := by simp
  rw [h2, nm_data]
  simp only [List.length_cons]
  omega
theorem other_digit (c : Int) (h : 48 ≤ c ∧ c ≤ 57) : otherB c = true := by simp [otherB, h]
theorem may_nm {n : Nat} (h : n < 100) : mayB (nm n) = true := by
  rw [mayB, decide_eq_true_eq]
  have hs := nm_size h
  have h2 : (nm n).size = (nm n).data.toList.length := by simp
  refine ⟨by omega, by omega, by simp [code, nm_data, firstB], fun i hi => ?_⟩
  cases i with
  | zero => simp [code, nm_data, otherB]
  | succ i =>
    rw [h2, nm_data] at hi
    simp only [List.length_cons] at hi
    have hi' : i < (dgs n).data.toList.length := by omega
    have hall := (dgs_data n h).2.2
    rw [List.all_eq_true] at hall
    have hc := hall _ (List.getElem_mem hi')
    simp only [decide_eq_true_eq] at hc
    have e : code (nm n) (i + 1) = (((dgs n).data.toList[i]'hi').toNat : Int) := by
      simp only [code, nm_data, List.getElem?_cons_succ, List.getElem?_eq_getElem hi', Option.getD_some]
    rw [e]
    have h3 : (48 : Int) ≤ (((dgs n).data.toList[i]'hi').toNat : Int) ∧ (((dgs n).data.toList[i]'hi').toNat : Int) ≤ 57 := by omega
    exact other_digit _ h3

theorem nodup_le : ∀ (xs ys : List ByteArray), xs.Nodup → (∀ x ∈ xs, x ∈ ys) → xs.length ≤ ys.length
  | [], _, _, _ => Nat.zero_le _
  | x :: xs, ys, hn, hs => by
    have hx : x ∈ ys := hs x (by simp)
    rw [List.nodup_cons] at hn
    have ih := nodup_le xs (ys.filter (fun y => decide (y ≠ x))) hn.2 (fun y hy => List.mem_filter.2 ⟨hs y (by simp [hy]), by simp; exact fun e => hn.1 (by rw [← e]; exact hy)⟩)
    have hlt : (ys.filter (fun y => decide (y ≠ x))).length < ys.length := by
      rw [List.length_filter_lt_length_iff_exists]
      exact ⟨x, hx, by simp⟩
    simp only [List.length_cons]
    omega
theorem pigeon {ls : List ByteArray} {k : Nat} (hk : k ≤ 100) (h : ∀ j, j < k → nm j ∈ ls) : k ≤ ls.length := by
  have := nodup_le ((List.range k).map nm) ls (by
    rw [List.Nodup, List.pairwise_map]
    refine List.Pairwise.imp_of_mem (R := fun a b => a ≠ b) ?_ List.nodup_range
    intro a b ha hb hab e
    simp at ha hb
    exact hab (nm_inj (by omega) (by omega) e)) (fun x hx => by
    simp at hx
    obtain ⟨j, hj, rfl⟩ := hx
    exact h j hj)
  simpa using this

def FreshIs (ls : List ByteArray) (s r : ByteArray) : Prop :=
  (s ∉ ls ∧ mayB s = true ∧ r = s) ∨ (¬ (s ∉ ls ∧ mayB s = true) ∧ ∃ k, k ≤ ls.length ∧ r = nm k ∧ nm k ∉ ls ∧ ∀ j, j < k → nm j ∈ ls)
theorem fresh_uniq {ls : List ByteArray} {s r r' : ByteArray} (h : FreshIs ls s r) (h' : FreshIs ls s r') : r = r' := by
  rcases h with ⟨h1, h2, rfl⟩ | ⟨h1, k, _, rfl, h3, h4⟩
  · rcases h' with ⟨_, _, rfl⟩ | ⟨h3, _⟩
    · rfl
    · exact absurd ⟨h1, h2⟩ h3
  · rcases h' with ⟨h5, h6, _⟩ | ⟨_, k', _, rfl, h5, h6⟩
    · exact absurd ⟨h5, h6⟩ h1
    · rcases Nat.lt_trichotomy k k' with h | h | h
      · exact absurd (h6 k h) h3
      · rw [h]
      · exact absurd (h4 k' h) h5
theorem fresh_good {ls : List ByteArray} {s r : ByteArray} (h : FreshIs ls s r) (hl : ls.length ≤ 60) : r ∉ ls ∧ mayB r = true ∧ r.size ≤ 100 := by
  rcases h with ⟨h1, h2, rfl⟩ | ⟨_, k, hk, rfl, h3, _⟩
  · refine ⟨h1, h2, ?_⟩
    rw [mayB, decide_eq_true_eq] at h2
    omega
  · exact ⟨h3, may_nm (by omega), by have := nm_size (n := k) (by omega); omega⟩

def FreshPost (ls : List ByteArray) (s : ByteArray) (w : World) (e : Ending) (w' : World) : Prop := ∃ r, e = .returned (.string r) ∧ FreshIs ls s r ∧ Below w.heap.size w w'

theorem SV.form {w : World} {v : Value} {ls : List ByteArray} (h : SV w v ls) : ∃ a cap, v = .slice a ls.length cap := by
  obtain ⟨a, cap, rfl, _⟩ := h; exact ⟨a, cap, rfl⟩

set_option maxHeartbeats 1000000 in
theorem fresh_any (ls : List ByteArray) (v : Value) (s : ByteArray) (w : World) (hv : SV w v ls) (hl : ls.length ≤ 60) (hs : s.size ≤ 1000) : Calls Try.prog 13 #[v, .string s] w (FreshPost ls s w) := by
  have H18 := Lib.hid (met_any ls v w hv (by omega))
  obtain ⟨a, cap, rfl⟩ := hv.form
  obtain ⟨n, hn⟩ : ∃ n, n = ls.length := ⟨_, rfl⟩
  rw [← hn] at hl H18 ⊢
  have HN := Lib.hid hn
  have hsm : s.size ≤ maxLen := by unfold maxLen; omega
  clear hn hv
  go_enter Try.func13, Try.ntmps13
  go_wp2_with fail
  refine H18.out.mono ?_
  rintro e wm ⟨B, rfl, hB, hom, hbm⟩
  have HOM := Lib.hid hom
  have HBM := Lib.hid hbm
  obtain ⟨D, hown, hcnt⟩ := hom
  obtain ⟨c0, hc0⟩ : ∃ c0, c0 = cn ls s := ⟨_, rfl⟩
  have hat0 : D.atKey (kl s) (.lit (.int .i64 0)) = .lit (.int .i64 (c0 : Int)) := by rw [hc0]; exact hcnt.1 s
  have HAT := Lib.hid hat0
  have hmem : c0 = 0 ↔ s ∉ ls := by rw [hc0]; have := cn_pos (ls := ls) (s := s); constructor <;> intro h
                                    · intro hm; have := this.2 hm; omega
                                    · rcases Nat.eq_zero_or_pos (cn ls s) with h0 | h0
                                      · exact h0
                                      · exact absurd (this.1 h0) h
  have HMEM := Lib.hid hmem
  obtain ⟨m, hm⟩ : ∃ m, m = mayB s := ⟨_, rfl⟩
  have h7 : ∀ W, Calls Try.prog 7 #[.string s] W fun e w' => e = .returned (.bool m) ∧ W = w' := fun W => by rw [hm]; exact may_any s W (by omega)
  have H7 := Lib.hid h7
  have HMB := Lib.hid hm
  clear hbm hat0 hc0 hcnt hmem h7 hm
  by_cases hcase : c0 = 0 ∧ m = true
  · obtain ⟨hz, rfl⟩ := hcase
    have hzz : ((c0 : Int) == 0) = true := by simp; omega
    have HZ := Lib.hid hz
    clear hz
    go_wp2_with (first
      | (at_lookup; refine wpList_lookup_own_int _ rfl _ _ 30 rfl 9 3 .i64 law Try.underlying30 Try.underlying3 (zero3 _) B ls.length _ rfl hown _ _ rfl (hkey hsm) ?_; intro c hat hwc; obtain rfl : c = (c0 : Int) := (by have h := hat.symm.trans HAT.out; injection h with h; injection h); clear hat hwc)
      | (go_at_call 7; refine (H7.out _).mono ?_; rintro e w1 ⟨rfl, rfl⟩))
    go_ret
    exact ⟨s, rfl, .inl ⟨HMEM.out.1 HZ.out, HMB.out.symm, rfl⟩, HBM.out⟩
  · have hnot : ¬ (s ∉ ls ∧ mayB s = true) := fun h => hcase ⟨HMEM.out.2 h.1, HMB.out.trans h.2⟩
    have HNOT := Lib.hid hnot
    have hcases : ((c0 : Int) == 0) = false ∨ (((c0 : Int) == 0) = true ∧ m = false) := by
      by_cases h0 : c0 = 0
      · right
        refine ⟨by simp; omega, ?_⟩
        cases m
        · rfl
        · exact absurd ⟨h0, rfl⟩ hcase
      · left; simp; omega
    clear hnot hcase
    rcases hcases with hzz | ⟨hzz, rfl⟩
    all_goals (
      go_wp2_with (first
        | (at_lookup; refine wpList_lookup_own_int _ rfl _ _ 30 rfl 9 3 .i64 law Try.underlying30 Try.underlying3 (zero3 _) B ls.length _ rfl hown _ _ rfl (hkey hsm) ?_; intro c hat hwc; obtain rfl : c = (c0 : Int) := (by have h := hat.symm.trans HAT.out; injection h with h; injection h); clear hat hwc)
        | (go_at_call 7; refine (H7.out _).mono ?_; rintro e w1 ⟨rfl, rfl⟩))
      clear hown HAT
      go_loopw [6] (fun i wr => ∃ k : Nat, k ≤ n ∧ i = .int .i64 k ∧ Hid (∀ j, j < k → nm j ∈ ls) ∧ Hid (Below wm.heap.size wm wr)) (fun i _ => n + 1 - (intOf i).toNat)
      case atStart => exact ⟨0, Nat.zero_le _, rfl, fun j hj => by omega, Below.refl _ _⟩
      case round =>
        obtain ⟨k, hk, rfl, HK, HB⟩ := hrel
        obtain ⟨d, hd⟩ : ∃ d, d = dgs k := ⟨_, rfl⟩
        have h19 : ∀ W, Calls Try.prog 19 #[.int .i64 k] W fun e w' => e = .returned (.string d) ∧ Below W.heap.size W w' := fun W => by rw [hd]; exact digits_any k W (by omega)
        obtain ⟨y, hy⟩ : ∃ y, y = nm k := ⟨_, rfl⟩
        have hys : y.size ≤ maxLen := by rw [hy]; have := (nm_size (n := k) (by omega)).1; unfold maxLen; omega
        have hadd : ∀ W, (Op.stringOp .add ⟨#[102]⟩ d).run Try.prog W = .ok (.string y) W := fun W => by
          rw [hy, nm, ← hd]
          refine run_string_add_sum W _ _ ?_
          have := (dgs_data k (by omega)).1
          have e2 : d.size = (dgs k).data.toList.length := by rw [hd]; simp
          rw [e2, show (⟨#[102]⟩ : ByteArray).size = 1 from rfl]
          omega
        have H19 := Lib.hid h19
        have HY := Lib.hid hy
        have HD := Lib.hid hd
        clear h19 hy hd
        obtain ⟨D, hown, hcnt⟩ := HOM.out
        obtain ⟨c1, hc1⟩ : ∃ c1, c1 = cn ls y := ⟨_, rfl⟩
        have hat0 : D.atKey (kl y) (.lit (.int .i64 0)) = .lit (.int .i64 (c1 : Int)) := by rw [hc1]; exact hcnt.1 y
        have HAT := Lib.hid hat0
        have HC1 := Lib.hid hc1
        have hownw : ∀ W, Below wm.heap.size wm W → W.ownsMap Try.prog 9 (plainElem Try.prog 3) B ls.length D := fun W hb => by
          obtain ⟨es, clock, hbb, r⟩ := hown
          exact ⟨es, clock, (hb.block B (heap_lt hbb)).trans hbb, r⟩
        have HOWN := Lib.hid hownw
        clear hcnt hc1 hat0 hown hownw
        by_cases hpos : 0 < c1
        · have hpos' : (0 : Int) < (c1 : Int) := by omega
          have hin : nm k ∈ ls := by rw [← HY.out]; exact cn_pos.1 (by rw [← HC1.out]; exact hpos)
          have hk1 : k + 1 ≤ n := by
            rw [HN.out]
            exact pigeon (by omega) (fun j hj => by
              rcases Nat.lt_or_ge j k with h | h
              · exact HK.out j h
              · obtain rfl : j = k := by omega
                exact hin)
          have HIN := Lib.hid hin
          clear hin
          go_wp2_with (first
            | (go_at_call 19; refine (H19.out _).mono ?_; rintro e w1 ⟨rfl, hb1⟩; have HB1 := Lib.hid hb1; clear hb1)
            | (at_lookup; refine wpList_lookup_own_int _ rfl _ _ 30 rfl 9 3 .i64 law Try.underlying30 Try.underlying3 (zero3 _) B ls.length _ rfl (HOWN.out _ (HB.out.trans (HB1.out.mono HB.out.size))) _ _ rfl (hkey hys) ?_; intro c hat hwc; obtain rfl : c = (c1 : Int) := (by have h := hat.symm.trans HAT.out; injection h with h; injection h); clear hat hwc))
          go_roundw
          case rel => exact ⟨k + 1, hk1, by go_num, fun j hj => by
            rcases Nat.lt_or_ge j k with h | h
            · exact HK.out j h
            · obtain rfl : j = k := by omega
              exact HIN.out, HB.out.trans (HB1.out.mono HB.out.size)⟩
          case measure => simp [intOf] <;> omega
        · have hpos' : ¬ (0 : Int) < (c1 : Int) := by omega
          have hin : nm k ∉ ls := by rw [← HY.out]; exact fun h => hpos (by rw [HC1.out]; exact cn_pos.2 h)
          have HIN := Lib.hid hin
          clear hin
          go_wp2_with fail
          refine (H19.out _).mono ?_
          rintro e w1 ⟨rfl, hb1⟩
          have HB1 := Lib.hid hb1
          clear hb1
          go_wp2_with (first
            | (at_lookup; refine wpList_lookup_own_int _ rfl _ _ 30 rfl 9 3 .i64 law Try.underlying30 Try.underlying3 (zero3 _) B ls.length _ rfl (HOWN.out _ (HB.out.trans (HB1.out.mono HB.out.size))) _ _ rfl (hkey hys) ?_; intro c hat hwc; obtain rfl : c = (c1 : Int) := (by have h := hat.symm.trans HAT.out; injection h with h; injection h); clear hat hwc)
            | fail)
          refine (H19.out _).mono ?_
          rintro e w2 ⟨rfl, hb1⟩
          have HB2 := Lib.hid hb1
          clear hb1
          go_wp2
          go_ret
          have s1 := HBM.out.size
          have s2 := HB.out.size
          have s3 := HB1.out.size
          exact ⟨y, rfl, .inr ⟨HNOT.out, k, by have := HN.out; omega, HY.out, HIN.out, HK.out⟩, ((HBM.out.trans (HB.out.mono s1)).trans (HB1.out.mono (by omega))).trans (HB2.out.mono (by omega))⟩)

set_option maxHeartbeats 1000000 in
theorem rfresh_any (ls : List ByteArray) (v : Value) (s : ByteArray) (w : World) (hv : SV w v ls) (hl : ls.length ≤ 60) (hs : s.size ≤ 1000) : Calls Try.prog 14 #[v, .string s] w (FreshPost ls s w) := by
  have HV := Lib.hid hv
  obtain ⟨a, cap, rfl⟩ := hv.form
  obtain ⟨m, hm⟩ : ∃ m, m = mayB s := ⟨_, rfl⟩
  have h8 : ∀ W, Calls Try.prog 8 #[.string s] W fun e w' => e = .returned (.bool m) ∧ W = w' := fun W => by rw [hm]; exact rmay_any s W (by omega)
  obtain ⟨f, hf⟩ : ∃ f, f = fnd ls s := ⟨_, rfl⟩
  have h10 : Calls Try.prog 10 #[.slice a ls.length cap, .string s] w fun e w' => e = .returned (.int .i64 f) ∧ w = w' := by rw [hf]; exact rfind_any ls _ s w HV.out (by omega)
  have H8 := Lib.hid h8
  have H10 := Lib.hid h10
  have HMB := Lib.hid hm
  have HFN := Lib.hid hf
  have HALL : Hid (∀ W x, Below w.heap.size w W → Calls Try.prog 10 #[.slice a ls.length cap, .string x] W (FindPost ls x W)) := fun W x hb => rfind_any ls _ x W (HV.out.bel hb) (by omega)
  obtain ⟨n, hn⟩ : ∃ n, n = ls.length := ⟨_, rfl⟩
  rw [← hn] at hl H10 HALL ⊢
  have HN := Lib.hid hn
  clear hn hv h8 hm hf h10
  by_cases hcase : m = true ∧ f < 0
  · obtain ⟨rfl, hz⟩ := hcase
    go_enter Try.func14, Try.ntmps14
    go_wp2_with (first
      | (go_at_call 8; refine (H8.out _).mono ?_; rintro e w1 ⟨rfl, rfl⟩)
      | (go_at_call 10; refine H10.out.mono ?_; rintro e w1 ⟨rfl, rfl⟩))
    go_ret
    exact ⟨s, rfl, .inl ⟨(fnd_neg ls s).1 (by rw [← HFN.out]; exact hz), HMB.out.symm, rfl⟩, Below.refl _ _⟩
  · have hnot : ¬ (s ∉ ls ∧ mayB s = true) := fun h => hcase ⟨HMB.out.trans h.2, by rw [HFN.out]; exact (fnd_neg ls s).2 h.1⟩
    have HNOT := Lib.hid hnot
    have hcases : m = false ∨ (m = true ∧ ¬ f < 0) := by
      cases m
      · left; rfl
      · right; exact ⟨rfl, fun h => hcase ⟨rfl, h⟩⟩
    clear hnot hcase
    rcases hcases with rfl | ⟨rfl, hz⟩
    all_goals (
      go_enter Try.func14, Try.ntmps14
      go_wp2_with (first
        | (go_at_call 8; refine (H8.out _).mono ?_; rintro e w1 ⟨rfl, rfl⟩)
        | (go_at_call 10; refine H10.out.mono ?_; rintro e w1 ⟨rfl, rfl⟩))
      go_loopw [5] (fun i wr => ∃ k : Nat, k ≤ n ∧ i = .int .i64 k ∧ Hid (∀ j, j < k → nm j ∈ ls) ∧ Hid (Below w.heap.size w wr)) (fun i _ => n + 1 - (intOf i).toNat)
      case atStart => exact ⟨0, Nat.zero_le _, rfl, fun j hj => by omega, Below.refl _ _⟩
      case round =>
        obtain ⟨k, hk, rfl, HK, HB⟩ := hrel
        obtain ⟨d, hd⟩ : ∃ d, d = dgs k := ⟨_, rfl⟩
        have h19 : ∀ W, Calls Try.prog 20 #[.int .i64 k] W fun e w' => e = .returned (.string d) ∧ Below W.heap.size W w' := fun W => by rw [hd]; exact rdigits_any k W (by omega)
        obtain ⟨y, hy⟩ : ∃ y, y = nm k := ⟨_, rfl⟩
        have hadd : ∀ W, (Op.stringOp .add ⟨#[102]⟩ d).run Try.prog W = .ok (.string y) W := fun W => by
          rw [hy, nm, ← hd]
          refine run_string_add_sum W _ _ ?_
          have := (dgs_data k (by omega)).1
          have e2 : d.size = (dgs k).data.toList.length := by rw [hd]; simp
          rw [e2, show (⟨#[102]⟩ : ByteArray).size = 1 from rfl]
          omega
        obtain ⟨f1, hf1⟩ : ∃ f1, f1 = fnd ls y := ⟨_, rfl⟩
        have h10y : ∀ W, Below w.heap.size w W → Calls Try.prog 10 #[.slice a n cap, .string y] W fun e w' => e = .returned (.int .i64 f1) ∧ W = w' := fun W hb => by rw [hf1]; exact HALL.out W y hb
        have H19 := Lib.hid h19
        have H10Y := Lib.hid h10y
        have HY := Lib.hid hy
        have HF1 := Lib.hid hf1
        clear h19 hy hd h10y hf1
        by_cases hneg : f1 < 0
        · have hin : nm k ∉ ls := by rw [← HY.out]; exact (fnd_neg ls y).1 (by rw [← HF1.out]; exact hneg)
          have HIN := Lib.hid hin
          clear hin
          go_wp2_with fail
          refine (H19.out _).mono ?_
          rintro e w1 ⟨rfl, hb1⟩
          have HB1 := Lib.hid hb1
          clear hb1
          go_wp2_with (first
            | (go_at_call 10; refine (H10Y.out _ (HB.out.trans (HB1.out.mono HB.out.size))).mono ?_; rintro e w1' ⟨rfl, rfl⟩)
            | fail)
          refine (H19.out _).mono ?_
          rintro e w2 ⟨rfl, hb1⟩
          have HB2 := Lib.hid hb1
          clear hb1
          go_wp2
          go_ret
          have s2 := HB.out.size
          have s3 := HB1.out.size
          exact ⟨y, rfl, .inr ⟨HNOT.out, k, by have := HN.out; omega, HY.out, HIN.out, HK.out⟩, (HB.out.trans (HB1.out.mono s2)).trans (HB2.out.mono (by omega))⟩
        · have hin : nm k ∈ ls := by
            rw [← HY.out]
            rcases fnd_cases ls y with ⟨h1, _⟩ | ⟨j, hj, _, h2, _⟩
            · exact absurd (by rw [HF1.out, h1]; decide) hneg
            · rw [← h2]; exact List.getElem_mem hj
          have hk1 : k + 1 ≤ n := by
            rw [HN.out]
            exact pigeon (by omega) (fun j hj => by
              rcases Nat.lt_or_ge j k with h | h
              · exact HK.out j h
              · obtain rfl : j = k := by omega
                exact hin)
          have HIN := Lib.hid hin
          clear hin
          go_wp2_with (first
            | (go_at_call 20; refine (H19.out _).mono ?_; rintro e w1 ⟨rfl, hb1⟩; have HB1 := Lib.hid hb1; clear hb1)
            | (go_at_call 10; refine (H10Y.out _ (HB.out.trans (HB1.out.mono HB.out.size))).mono ?_; rintro e w1' ⟨rfl, rfl⟩))
          go_roundw
          case rel => exact ⟨k + 1, hk1, by go_num, fun j hj => by
            rcases Nat.lt_or_ge j k with h | h
            · exact HK.out j h
            · obtain rfl : j = k := by omega
              exact HIN.out, HB.out.trans (HB1.out.mono HB.out.size)⟩
          case measure => simp [intOf] <;> omega)
end Go.Proofs.Ytobcjliibahdeaa
