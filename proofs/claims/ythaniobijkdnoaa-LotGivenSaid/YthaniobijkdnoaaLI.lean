/- Lists of types compared, values of a list of types, a value taken away. Conditions: lists that are not too long. -/
import Derived.Test.YthaniobijkdnoaaLH
namespace Go.Proofs.Ythaniobijkdnoaa
open Go.RowKit

theorem beq_take (xs ys : List Int) (k : Nat) (h : xs.length = ys.length) (hk : k < xs.length) (h1 : xs.take k = ys.take k) (hne : xs.getD k 0 ≠ ys.getD k 0) : (xs == ys) = false := by
  rw [beq_eq_false_iff_ne]
  intro e
  rw [e] at hne
  exact hne rfl
set_option maxRecDepth 100000 in
set_option maxHeartbeats 2000000 in
theorem eq98_any (xs ys : List Int) (v1 v2 : Value) (w : World) (h1 : IV w v1 xs) (h2 : IV w v2 ys) (hx : xs.length ≤ 100000) (hy : ys.length ≤ 100000) : Calls Try.prog 98 #[v1, v2] w (Ans (.bool (xs == ys)) w) := by
  obtain ⟨a, cap, rfl, hl, hm, hc⟩ := h1
  obtain ⟨a2, cap2, rfl, hl2, hm2, hc2⟩ := h2
  have HC := Lib.hid hc
  have HC2 := Lib.hid hc2
  obtain ⟨n, hn⟩ : ∃ n, n = xs.length := ⟨_, rfl⟩
  obtain ⟨n2, hn2⟩ : ∃ n, n = ys.length := ⟨_, rfl⟩
  have HN := Lib.hid hn
  have HN2 := Lib.hid hn2
  rw [← hn] at hl hx ⊢
  rw [← hn2] at hl2 hy ⊢
  clear hc hc2 hn hn2
  by_cases hnn : n = n2
  · subst hnn
    go_enter Try.func98, Try.ntmps98
    go_wp2
    go_loopw [13] (fun i wr => ∃ k m : Nat, k ≤ n ∧ i = .int .i64 k ∧ wr = w.drewN m ∧ Hid (xs.take k = ys.take k)) (fun i _ => n - (intOf i).toNat)
    case atStart => exact ⟨0, 0, Nat.zero_le _, rfl, rfl, rfl⟩
    case round =>
      obtain ⟨k, m, hk, rfl, rfl, HT⟩ := hrel
      by_cases hlt : k < n
      · have hkl : k < xs.length := by have := HN.out; omega
        have hkl2 : k < ys.length := by have := HN2.out; omega
        obtain ⟨b, off, rfl, hb, hcell⟩ := HC.out k hkl
        obtain ⟨b2, off2, rfl, hb2, hcell2⟩ := HC2.out k hkl2
        obtain ⟨x, hxx⟩ : ∃ x, x = xs[k] := ⟨_, rfl⟩
        obtain ⟨y, hyy⟩ : ∃ y, y = ys[k] := ⟨_, rfl⟩
        rw [← hxx] at hcell
        rw [← hyy] at hcell2
        have HX := Lib.hid hxx
        have HY := Lib.hid hyy
        have hi0 : (0 : Int) ≤ (k : Int) := by omega
        have hi1 : (k : Int) < (n : Int) := by omega
        clear hxx hyy
        by_cases hxy : x = y
        · have HXY := Lib.hid hxy
          have hq : (x != y) = false := by simpa using hxy
          clear hxy
          go_wp2_with fail
          go_quiet (fail)
          go_wp2_with fail
          go_round
          case rel => exact ⟨k + 1, _, by omega, by go_num, rfl, Lib.hid (by rw [List.take_succ_eq_append_getElem hkl, List.take_succ_eq_append_getElem hkl2, HT.out, ← HX.out, ← HY.out, HXY.out])⟩
          case measure => simp [intOf] <;> omega
        · have HXY := Lib.hid hxy
          have hq : (x != y) = true := by simpa using hxy
          have HF : Hid ((xs == ys) = false) := Lib.hid (beq_take xs ys k (by rw [← HN.out, ← HN2.out]) hkl HT.out (by
            rw [List.getD_eq_getElem?_getD, List.getD_eq_getElem?_getD, List.getElem?_eq_getElem hkl, List.getElem?_eq_getElem hkl2]
            show xs[k] ≠ ys[k]
            rw [← HX.out, ← HY.out]
            exact hxy))
          clear hxy
          go_wp2_with fail
          go_quiet (fail)
          go_wp2_with fail
          go_ret
          rw [HF.out, drewN_add]
          exact ans_n _ _ _
      · obtain rfl : k = n := by omega
        have HF : Hid ((xs == ys) = true) := by
          have h := HT.out
          rw [List.take_of_length_le (by have := HN.out; omega), List.take_of_length_le (by have := HN2.out; omega)] at h
          show _ = _
          rw [h]
          simp
        go_wp2_with fail
        go_ret
        rw [HF.out]
        exact ans_n _ _ _
  · have hq : ((n : Int) != (n2 : Int)) = true := by simp; omega
    have hq2 : (n != n2) = true := by simpa using hnn
    have HF : Hid ((xs == ys) = false) := by
      show _ = _
      rw [beq_eq_false_iff_ne]
      intro e
      have h1 := HN.out
      have h2 := HN2.out
      rw [e] at h1
      omega
    clear hnn
    go_enter Try.func98, Try.ntmps98
    go_wp2
    go_ret
    rw [HF.out]
    exact ans_n _ _ 0
theorem same71_any (xs ys : List Int) (v1 v2 : Value) (w : World) (h1 : IV w v1 xs) (h2 : IV w v2 ys) (hx : xs.length ≤ 100000) (hy : ys.length ≤ 100000) : Calls Try.prog 71 #[v1, v2] w (Ans (.bool (xs == ys)) w) := by
  have H98 : Hid (Calls Try.prog 98 #[v1, v2] w (Ans (.bool (xs == ys)) w)) := eq98_any xs ys v1 v2 w h1 h2 hx hy
  generalize (xs == ys) = r at *
  clear h1 h2
  go_enter Try.func71, Try.ntmps71
  go_wp2_with fail
  refine H98.out.mono ?_
  rintro e w1 ⟨rfl, m, rfl⟩
  go_wp2_with fail
  go_ret
  exact ans_n _ _ _

theorem values_snoc (c : Kn) (l : List Int) (t : Int) (s : St) : Lot.values c (l ++ [t]) s = Lot.value c 1 t (Lot.values c l s) := by
  induction l generalizing s with
  | nil => rfl
  | cons x l ih => exact ih _
theorem gr_values (c : Kn) (l : List Int) : ∀ s, Gr (7 * l.length) s (Lot.values c l s) := by
  induction l with
  | nil => exact fun s => Gr.refl s
  | cons x l ih => exact fun s => ((gr_value c 1 x s).trans (ih _)).more (by simp only [List.length_cons, vc]; omega)
theorem gr_drop (c : Kn) (t : Int) (s : St) : Gr 1 s (Lot.drop c t s) := by
  unfold Lot.drop
  split
  · exact (gr_slotS _ _ _).trans (gr_put _ _ _)
  · exact (gr_slotS _ _ _).trans (gr_put _ _ _)
theorem drops_snoc (c : Kn) (l : List Int) (t : Int) (s : St) : Lot.drops c (l ++ [t]) s = Lot.drop c t (Lot.drops c l s) := by
  induction l generalizing s with
  | nil => rfl
  | cons x l ih => exact ih _
theorem gr_drops (c : Kn) (l : List Int) : ∀ s, Gr l.length s (Lot.drops c l s) := by
  induction l with
  | nil => exact fun s => Gr.refl s
  | cons x l ih => exact fun s => ((gr_drop c x s).trans (ih _)).more (by simp only [List.length_cons]; omega)
set_option maxRecDepth 100000 in
set_option maxHeartbeats 4000000 in
theorem drop_mk {c : Cx} {s : St} {g : Gh} {w : World} (t : Int) (hc : CxOk c) (h : MK c s g w) (hb : Bd 1 s) :
    Calls Try.prog 73 #[.pointer (some ⟨c.M, 0, none⟩), .int .i64 t] w (MP c (Lot.drop c.kn t s) g w (.tuple #[])) := by
  have H0 := Lib.hid h
  have F0 := Lib.hid (Fr.refl c g w)
  have B0 := Lib.hid hb
  have HC := Lib.hid hc
  have dv0 := h.dv
  clear h hb hc
  obtain ⟨sv, hsv⟩ : ∃ x, x = Lot.slotV c.kn t s := ⟨_, rfl⟩
  have HSV := Lib.hid hsv
  clear hsv
  go_enter Try.func73, Try.ntmps73
  go_wp2_with fail
  refine (slot_mk HC.out H0.out t (by have := B0.out.2.2; omega)).mono ?_
  rw [← HSV.out]
  rintro e w1 ⟨rfl, g1, hm1, hf1⟩
  have H1 := Lib.hid hm1
  have F1 := Lib.hid (F0.out.trans hf1)
  have B1 := Lib.hid (B0.out.step (a := 1) (gr_slotS c.kn t s) (by omega))
  have dv1 := H1.out.dv
  clear hm1 hf1 dv0
  by_cases hsv0 : 0 ≤ sv
  all_goals have HSV0 := Lib.hid hsv0
  · skip
    go_wp2_with fail
    refine (put_v H1.out 3 sv B1.out).mono ?_
    rintro e w2 ⟨rfl, g2, hm2, hf2⟩
    have H2 := Lib.hid hm2
    have F2 := Lib.hid (F1.out.trans hf2)
    have dv2 := H2.out.dv
    clear hm2 hf2 dv1
    go_wp2_with fail
    go_end0
    exact ⟨rfl, g2, by rw [Lot.drop, if_pos (by rw [← HSV.out]; exact HSV0.out), ← HSV.out]; exact H2.out, F2.out⟩
  · skip
    go_wp2_with fail
    refine (put_v H1.out 4 0 B1.out).mono ?_
    rintro e w2 ⟨rfl, g2, hm2, hf2⟩
    have H2 := Lib.hid hm2
    have F2 := Lib.hid (F1.out.trans hf2)
    have dv2 := H2.out.dv
    clear hm2 hf2 dv1
    go_wp2_with fail
    go_end0
    exact ⟨rfl, g2, by rw [Lot.drop, if_neg (by rw [← HSV.out]; have := HSV0.out; omega)]; exact H2.out, F2.out⟩
set_option maxRecDepth 100000 in
set_option maxHeartbeats 4000000 in
theorem values_mk {c : Cx} {s : St} {g : Gh} {w : World} (l : List Int) (A : Option Addr) (cap : Nat) (hv : ∀ W, Chg (Own0 c) c.w0 W → IV W (.slice A l.length cap) l) (hl : l.length ≤ 1000) (ht : ∀ t ∈ l, t = 1 ∨ t = 2) (hc : CxOk c) (h : MK c s g w) (hb : Bd (7 * l.length) s) :
    Calls Try.prog 72 #[.pointer (some ⟨c.M, 0, none⟩), .slice A l.length cap] w (MP c (Lot.values c.kn l s) g w (.tuple #[])) := by
  have H0 := Lib.hid h
  have B0 := Lib.hid hb
  have HC := Lib.hid hc
  have HV := Lib.hid hv
  have HT := Lib.hid ht
  obtain ⟨n, hn⟩ : ∃ n, n = l.length := ⟨_, rfl⟩
  have HN := Lib.hid hn
  have hcap : n ≤ cap := by
    obtain ⟨_, _, e, h1, _⟩ := hv w h.ch
    injection e with e1 e2 e3
    omega
  rw [← hn] at hl ⊢
  clear h hb hc hv ht hn
  go_enter Try.func72, Try.ntmps72
  go_wp2
  go_loopw [8] (fun i wr => ∃ (k : Nat) (g' : Gh), k ≤ n ∧ i = .int .i64 k ∧ Hid (MK c (Lot.values c.kn (l.take k) s) g' wr) ∧ Hid (Fr c g g' w wr)) (fun i _ => n - (intOf i).toNat)
  case atStart => exact ⟨0, g, Nat.zero_le _, rfl, H0, Fr.refl _ _ _⟩
  case round =>
    obtain ⟨k, g', hk, rfl, HM, HF⟩ := hrel
    by_cases hlt : k < n
    · have hkl : k < l.length := by have := HN.out; omega
      have hiv := HV.out wr HM.out.ch
      obtain ⟨_, _, he, _, _, hcc⟩ := hiv
      simp only [Value.slice.injEq] at he
      obtain ⟨rfl, _, rfl⟩ := he
      obtain ⟨b, off, rfl, hb, hcell⟩ := hcc k hkl
      obtain ⟨t, ht⟩ : ∃ t, t = l[k] := ⟨_, rfl⟩
      have htt : t = 1 ∨ t = 2 := by rw [ht]; exact HT.out _ (List.getElem_mem _)
      rw [← ht] at hcell
      have HTK := Lib.hid ht
      have BK : Hid (Bd 7 (Lot.values c.kn (l.take k) s)) := Lib.hid (B0.out.step (gr_values c.kn (l.take k) s) (by rw [List.length_take]; omega))
      clear hcc ht hb
      go_wp2_with fail
      refine (val1_mk HC.out HM.out BK.out t htt).mono ?_
      rintro e w1 ⟨rfl, g1, hm1, hf1⟩
      have H1 := Lib.hid hm1
      have F1 := Lib.hid (HF.out.trans hf1)
      clear hm1 hf1 hcell
      go_wp2_with fail
      go_roundw
      case rel => exact ⟨k + 1, g1, by omega, by go_num, Lib.hid (by rw [List.take_succ_eq_append_getElem hkl, values_snoc, ← HTK.out]; exact H1.out), F1.out⟩
      case measure => simp [intOf] <;> omega
    · obtain rfl : k = n := by omega
      go_wp2_with fail
      go_end0
      exact ⟨rfl, g', by have h := HM.out; rw [List.take_of_length_le (by have := HN.out; omega)] at h; exact h, HF.out⟩
end Go.Proofs.Ythaniobijkdnoaa
