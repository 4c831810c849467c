/- A maker puts a value that has no others within. Conditions: rows that are not too long. -/
import Derived.Test.YthaniobijkdnoaaLF
namespace Go.Proofs.Ythaniobijkdnoaa
open Go.RowKit

/-- at most k more -/
def Gr (k : Nat) (s s' : St) : Prop := s'.code.length ≤ s.code.length + k ∧ s'.lines.length ≤ s.lines.length + k ∧ s'.locals.length ≤ s.locals.length + k ∧ s'.line ≤ s.line + k ∧ s.line ≤ s'.line
/-- there is room for k more -/
def Bd (k : Nat) (s : St) : Prop := s.code.length + k ≤ 100000 ∧ s.lines.length + k ≤ 100000 ∧ s.locals.length + k ≤ 100000 ∧ 0 ≤ s.line ∧ s.line + k ≤ 100000
theorem Bd.step {b k a : Nat} {s s' : St} (h : Bd b s) (g : Gr k s s') (e : k + a ≤ b) : Bd a s' := by unfold Bd Gr at *; omega
theorem Bd.less {b a : Nat} {s : St} (h : Bd b s) (e : a ≤ b) : Bd a s := by unfold Bd at *; omega
theorem Gr.refl (s : St) : Gr 0 s s := by unfold Gr; omega
theorem Gr.trans {j k : Nat} {a b c : St} (h : Gr j a b) (i : Gr k b c) : Gr (j + k) a c := by unfold Gr at *; omega
theorem Gr.more {j k : Nat} {a b : St} (h : Gr j a b) (i : j ≤ k) : Gr k a b := by unfold Gr at *; omega
theorem gr_put (op a : Int) (s : St) : Gr 1 s (Lot.put op a s) := by
  simp [Gr, Lot.put]
  try omega
theorem gr_rS (c : Kn) (b : Int) (s : St) : Gr 0 s (Lot.rS c b s) := ⟨Nat.le_refl _, Nat.le_refl _, Nat.le_refl _, by simp [Lot.rS], by simp [Lot.rS]⟩
theorem gr_slotS (c : Kn) (t : Int) (s : St) : Gr 0 s (Lot.slotS c t s) := by
  unfold Lot.slotS
  split
  · exact Gr.refl _
  · exact gr_rS _ _ _
theorem gr_pushS (c : Kn) (s : St) : Gr 1 s (Lot.pushS c s) := (gr_rS _ _ _).trans (gr_put _ _ _)
theorem gr_lit (c : Kn) (t : Int) (s : St) : Gr 3 s (Lot.lit c t s) := by
  unfold Lot.lit
  split
  · exact (gr_pushS _ _).trans ((gr_pushS _ _).trans (gr_put _ _ _))
  · exact (gr_pushS _ _).more (by omega)
theorem gr_leaf (c : Kn) (t : Int) (s : St) : Gr 3 s (Lot.leaf c t s) := by
  unfold Lot.leaf
  split
  · split
    · exact ((gr_slotS _ _ _).trans ((gr_rS _ _ _).trans (gr_put _ _ _))).more (by omega)
    · exact (gr_slotS _ _ _).trans ((gr_rS _ _ _).trans (gr_lit _ _ _))
  · exact (gr_slotS _ _ _).trans (gr_lit _ _ _)
theorem MK.dv {c : Cx} {s : St} {g : Gh} {w : World} (h : MK c s g w) : w.cell? ⟨c.M, 0, none⟩ = some (.func (.func 20) #[] #[.pointer (some ⟨c.Bd, 0, none⟩), .pointer (some ⟨c.Bl, 0, none⟩)]) := h.cells.1
theorem put_v {c : Cx} {s : St} {g : Gh} {w : World} (h : MK c s g w) (op a : Int) {k : Nat} (hb : Bd k s) :
    Calls Try.prog 23 #[.pointer (some ⟨c.M, 0, none⟩), .int .i64 op, .int .i64 a] w (MP c (Lot.put op a s) g w (.int .i64 s.code.length)) := put_mk h op a (by have := hb.1; omega) (by have := hb.2.1; omega)

set_option maxRecDepth 100000 in
set_option maxHeartbeats 4000000 in
theorem leaf_mk {c : Cx} {s : St} {g : Gh} {w : World} (t : Int) (ht : t = 1 ∨ t = 2) (hc : CxOk c) (h : MK c s g w) (hb : Bd 3 s) :
    Calls Try.prog 44 #[.pointer (some ⟨c.M, 0, none⟩), .int .i64 t] w (MP c (Lot.leaf c.kn t s) g w (.tuple #[])) := by
  have H0 := Lib.hid h
  have F0 := Lib.hid (Fr.refl c g w)
  have B0 := Lib.hid hb
  have HC := Lib.hid hc
  have dv0 := h.dv
  clear h hb hc
  obtain ⟨sv, hsv⟩ : ∃ x, x = Lot.slotV c.kn t s := ⟨_, rfl⟩
  have HSV := Lib.hid hsv
  clear hsv
  go_enter Try.func44, Try.ntmps44
  go_wp2_with fail
  refine (slot_mk HC.out H0.out t (by have := B0.out.2.2; omega)).mono ?_
  rw [← HSV.out]
  rintro e w1 ⟨rfl, g1, hm1, hf1⟩
  have H1 := Lib.hid hm1
  have F1 := Lib.hid (F0.out.trans hf1)
  have B1 := Lib.hid (B0.out.step (a := 3) (gr_slotS c.kn t s) (by omega))
  have dv1 := H1.out.dv
  clear hm1 hf1 dv0
  by_cases hsv0 : 0 ≤ sv
  all_goals have HSV0 := Lib.hid hsv0
  · skip
    go_wp2_with fail
    refine (draw_mk HC.out H1.out 3 (by omega) (by omega)).mono ?_
    rintro e w2 ⟨rfl, g2, hm2, hf2⟩
    have H2 := Lib.hid hm2
    have F2 := Lib.hid (F1.out.trans hf2)
    have B2 := Lib.hid (B1.out.step (a := 3) (gr_rS c.kn 3 _) (by omega))
    obtain ⟨d2, hd2⟩ : ∃ x, x = Lot.rV c.kn 3 (Lot.slotS c.kn t s) := ⟨_, rfl⟩
    have hd2q : 0 ≤ d2 ∧ d2 < 3 := by rw [hd2]; exact drV_bd _ _ _ (by omega) (by omega)
    obtain ⟨hd2a, hd2b⟩ := hd2q
    rw [← hd2]
    have HD2 := Lib.hid hd2
    clear hd2
    have dv2 := H2.out.dv
    clear hm2 hf2 dv1
    by_cases hd20 : 0 < d2
    all_goals have HD20 := Lib.hid hd20
    · skip
      go_wp2_with fail
      refine (put_v H2.out 2 sv B2.out).mono ?_
      rintro e w3 ⟨rfl, g3, hm3, hf3⟩
      have H3 := Lib.hid hm3
      have F3 := Lib.hid (F2.out.trans hf3)
      have B3 := Lib.hid (B2.out.step (a := 2) (gr_put 2 sv _) (by omega))
      have dv3 := H3.out.dv
      clear hm3 hf3 dv2
      go_wp2_with fail
      go_end0
      obtain rfl := HD2.out
      obtain rfl := HSV.out
      exact ⟨rfl, g3, by rw [Lot.leaf, if_pos HSV0.out, if_pos HD20.out]; exact H3.out, F3.out⟩
    · skip
      rcases ht with rfl | rfl
      · skip
        go_wp2_with fail
        refine (draw_mk HC.out H2.out 9 (by omega) (by omega)).mono ?_
        rintro e w3 ⟨rfl, g3, hm3, hf3⟩
        have H3 := Lib.hid hm3
        have F3 := Lib.hid (F2.out.trans hf3)
        have B3 := Lib.hid (B2.out.step (a := 3) (gr_rS c.kn 9 _) (by omega))
        obtain ⟨d3, hd3⟩ : ∃ x, x = Lot.rV c.kn 9 (Lot.rS c.kn 3 (Lot.slotS c.kn 1 s)) := ⟨_, rfl⟩
        have hd3q : 0 ≤ d3 ∧ d3 < 9 := by rw [hd3]; exact drV_bd _ _ _ (by omega) (by omega)
        obtain ⟨hd3a, hd3b⟩ := hd3q
        rw [← hd3]
        have HD3 := Lib.hid hd3
        clear hd3
        have dv3 := H3.out.dv
        clear hm3 hf3 dv2
        go_wp2_with fail
        refine (put_v H3.out 1 (d3 - 3) B3.out).mono ?_
        rintro e w4 ⟨rfl, g4, hm4, hf4⟩
        have H4 := Lib.hid hm4
        have F4 := Lib.hid (F3.out.trans hf4)
        have B4 := Lib.hid (B3.out.step (a := 2) (gr_put 1 (d3 - 3) _) (by omega))
        have dv4 := H4.out.dv
        clear hm4 hf4 dv3
        go_wp2_with fail
        go_end0
        obtain rfl := HD3.out
        exact ⟨rfl, g4, by rw [Lot.leaf, if_pos (by rw [← HSV.out]; exact HSV0.out), if_neg (by rw [← HD2.out]; have := HD20.out; omega), Lot.lit, if_neg (by omega)]; exact H4.out, F4.out⟩
      · skip
        go_wp2_with fail
        refine (draw_mk HC.out H2.out 9 (by omega) (by omega)).mono ?_
        rintro e w3 ⟨rfl, g3, hm3, hf3⟩
        have H3 := Lib.hid hm3
        have F3 := Lib.hid (F2.out.trans hf3)
        have B3 := Lib.hid (B2.out.step (a := 3) (gr_rS c.kn 9 _) (by omega))
        obtain ⟨d3, hd3⟩ : ∃ x, x = Lot.rV c.kn 9 (Lot.rS c.kn 3 (Lot.slotS c.kn 2 s)) := ⟨_, rfl⟩
        have hd3q : 0 ≤ d3 ∧ d3 < 9 := by rw [hd3]; exact drV_bd _ _ _ (by omega) (by omega)
        obtain ⟨hd3a, hd3b⟩ := hd3q
        rw [← hd3]
        have HD3 := Lib.hid hd3
        clear hd3
        have dv3 := H3.out.dv
        clear hm3 hf3 dv2
        go_wp2_with fail
        refine (put_v H3.out 1 (d3 - 3) B3.out).mono ?_
        rintro e w4 ⟨rfl, g4, hm4, hf4⟩
        have H4 := Lib.hid hm4
        have F4 := Lib.hid (F3.out.trans hf4)
        have B4 := Lib.hid (B3.out.step (a := 2) (gr_put 1 (d3 - 3) _) (by omega))
        have dv4 := H4.out.dv
        clear hm4 hf4 dv3
        go_wp2_with fail
        refine (draw_mk HC.out H4.out 9 (by omega) (by omega)).mono ?_
        rintro e w5 ⟨rfl, g5, hm5, hf5⟩
        have H5 := Lib.hid hm5
        have F5 := Lib.hid (F4.out.trans hf5)
        have B5 := Lib.hid (B4.out.step (a := 2) (gr_rS c.kn 9 _) (by omega))
        obtain ⟨d5, hd5⟩ : ∃ x, x = Lot.rV c.kn 9 (Lot.put 1 (d3 - 3) (Lot.rS c.kn 9 (Lot.rS c.kn 3 (Lot.slotS c.kn 2 s)))) := ⟨_, rfl⟩
        have hd5q : 0 ≤ d5 ∧ d5 < 9 := by rw [hd5]; exact drV_bd _ _ _ (by omega) (by omega)
        obtain ⟨hd5a, hd5b⟩ := hd5q
        rw [← hd5]
        have HD5 := Lib.hid hd5
        clear hd5
        have dv5 := H5.out.dv
        clear hm5 hf5 dv4
        go_wp2_with fail
        refine (put_v H5.out 1 (d5 - 3) B5.out).mono ?_
        rintro e w6 ⟨rfl, g6, hm6, hf6⟩
        have H6 := Lib.hid hm6
        have F6 := Lib.hid (F5.out.trans hf6)
        have B6 := Lib.hid (B5.out.step (a := 1) (gr_put 1 (d5 - 3) _) (by omega))
        have dv6 := H6.out.dv
        clear hm6 hf6 dv5
        go_wp2_with fail
        refine (put_v H6.out 15 0 B6.out).mono ?_
        rintro e w7 ⟨rfl, g7, hm7, hf7⟩
        have H7 := Lib.hid hm7
        have F7 := Lib.hid (F6.out.trans hf7)
        have B7 := Lib.hid (B6.out.step (a := 0) (gr_put 15 0 _) (by omega))
        have dv7 := H7.out.dv
        clear hm7 hf7 dv6
        go_wp2_with fail
        go_end0
        obtain rfl := HD3.out
        obtain rfl := HD5.out
        exact ⟨rfl, g7, by rw [Lot.leaf, if_pos (by rw [← HSV.out]; exact HSV0.out), if_neg (by rw [← HD2.out]; have := HD20.out; omega), Lot.lit, if_pos rfl]; exact H7.out, F7.out⟩
  · skip
    rcases ht with rfl | rfl
    · skip
      go_wp2_with fail
      refine (draw_mk HC.out H1.out 9 (by omega) (by omega)).mono ?_
      rintro e w2 ⟨rfl, g2, hm2, hf2⟩
      have H2 := Lib.hid hm2
      have F2 := Lib.hid (F1.out.trans hf2)
      have B2 := Lib.hid (B1.out.step (a := 3) (gr_rS c.kn 9 _) (by omega))
      obtain ⟨d2, hd2⟩ : ∃ x, x = Lot.rV c.kn 9 (Lot.slotS c.kn 1 s) := ⟨_, rfl⟩
      have hd2q : 0 ≤ d2 ∧ d2 < 9 := by rw [hd2]; exact drV_bd _ _ _ (by omega) (by omega)
      obtain ⟨hd2a, hd2b⟩ := hd2q
      rw [← hd2]
      have HD2 := Lib.hid hd2
      clear hd2
      have dv2 := H2.out.dv
      clear hm2 hf2 dv1
      go_wp2_with fail
      refine (put_v H2.out 1 (d2 - 3) B2.out).mono ?_
      rintro e w3 ⟨rfl, g3, hm3, hf3⟩
      have H3 := Lib.hid hm3
      have F3 := Lib.hid (F2.out.trans hf3)
      have B3 := Lib.hid (B2.out.step (a := 2) (gr_put 1 (d2 - 3) _) (by omega))
      have dv3 := H3.out.dv
      clear hm3 hf3 dv2
      go_wp2_with fail
      go_end0
      obtain rfl := HD2.out
      exact ⟨rfl, g3, by rw [Lot.leaf, if_neg (by rw [← HSV.out]; have := HSV0.out; omega), Lot.lit, if_neg (by omega)]; exact H3.out, F3.out⟩
    · skip
      go_wp2_with fail
      refine (draw_mk HC.out H1.out 9 (by omega) (by omega)).mono ?_
      rintro e w2 ⟨rfl, g2, hm2, hf2⟩
      have H2 := Lib.hid hm2
      have F2 := Lib.hid (F1.out.trans hf2)
      have B2 := Lib.hid (B1.out.step (a := 3) (gr_rS c.kn 9 _) (by omega))
      obtain ⟨d2, hd2⟩ : ∃ x, x = Lot.rV c.kn 9 (Lot.slotS c.kn 2 s) := ⟨_, rfl⟩
      have hd2q : 0 ≤ d2 ∧ d2 < 9 := by rw [hd2]; exact drV_bd _ _ _ (by omega) (by omega)
      obtain ⟨hd2a, hd2b⟩ := hd2q
      rw [← hd2]
      have HD2 := Lib.hid hd2
      clear hd2
      have dv2 := H2.out.dv
      clear hm2 hf2 dv1
      go_wp2_with fail
      refine (put_v H2.out 1 (d2 - 3) B2.out).mono ?_
      rintro e w3 ⟨rfl, g3, hm3, hf3⟩
      have H3 := Lib.hid hm3
      have F3 := Lib.hid (F2.out.trans hf3)
      have B3 := Lib.hid (B2.out.step (a := 2) (gr_put 1 (d2 - 3) _) (by omega))
      have dv3 := H3.out.dv
      clear hm3 hf3 dv2
      go_wp2_with fail
      refine (draw_mk HC.out H3.out 9 (by omega) (by omega)).mono ?_
      rintro e w4 ⟨rfl, g4, hm4, hf4⟩
      have H4 := Lib.hid hm4
      have F4 := Lib.hid (F3.out.trans hf4)
      have B4 := Lib.hid (B3.out.step (a := 2) (gr_rS c.kn 9 _) (by omega))
      obtain ⟨d4, hd4⟩ : ∃ x, x = Lot.rV c.kn 9 (Lot.put 1 (d2 - 3) (Lot.rS c.kn 9 (Lot.slotS c.kn 2 s))) := ⟨_, rfl⟩
      have hd4q : 0 ≤ d4 ∧ d4 < 9 := by rw [hd4]; exact drV_bd _ _ _ (by omega) (by omega)
      obtain ⟨hd4a, hd4b⟩ := hd4q
      rw [← hd4]
      have HD4 := Lib.hid hd4
      clear hd4
      have dv4 := H4.out.dv
      clear hm4 hf4 dv3
      go_wp2_with fail
      refine (put_v H4.out 1 (d4 - 3) B4.out).mono ?_
      rintro e w5 ⟨rfl, g5, hm5, hf5⟩
      have H5 := Lib.hid hm5
      have F5 := Lib.hid (F4.out.trans hf5)
      have B5 := Lib.hid (B4.out.step (a := 1) (gr_put 1 (d4 - 3) _) (by omega))
      have dv5 := H5.out.dv
      clear hm5 hf5 dv4
      go_wp2_with fail
      refine (put_v H5.out 15 0 B5.out).mono ?_
      rintro e w6 ⟨rfl, g6, hm6, hf6⟩
      have H6 := Lib.hid hm6
      have F6 := Lib.hid (F5.out.trans hf6)
      have B6 := Lib.hid (B5.out.step (a := 0) (gr_put 15 0 _) (by omega))
      have dv6 := H6.out.dv
      clear hm6 hf6 dv5
      go_wp2_with fail
      go_end0
      obtain rfl := HD2.out
      obtain rfl := HD4.out
      exact ⟨rfl, g6, by rw [Lot.leaf, if_neg (by rw [← HSV.out]; have := HSV0.out; omega), Lot.lit, if_pos rfl]; exact H6.out, F6.out⟩
end Go.Proofs.Ythaniobijkdnoaa
