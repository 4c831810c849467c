/- A maker puts a statement that has no others within. Conditions: rows that are not too long. -/
import Derived.Test.YthaniobijkdnoaaLN
namespace Go.Proofs.Ythaniobijkdnoaa
open Go.RowKit

theorem slots_ty {c : Cx} {s : St} {g : Gh} {w : World} (hc : CxOk c) (h : MK c s g w) : ∀ t ∈ Lot.slots c.kn s, t = 1 ∨ t = 2 := by
  intro t ht
  unfold Lot.slots at ht
  rcases List.mem_append.1 ht with h1 | h1
  · rcases List.mem_append.1 h1 with h2 | h2
    · exact hc.typ t h2
    · exact hc.tyr t h2
  · exact h.ty t h1
set_option maxRecDepth 100000 in
set_option maxHeartbeats 4000000 in
theorem plain_0 {c : Cx} {s : St} {g : Gh} {w : World}  (hc : CxOk c) (h : MK c s g w) (hb : Bd 1000 s) :
    Calls Try.prog 35 #[.pointer (some ⟨c.M, 0, none⟩), .int .i64 0] w (MP c (Lot.plain c.kn 0 s) g w (.tuple #[])) := by
  have H0 := Lib.hid h
  have F0 := Lib.hid (Fr.refl c g w)
  have B0 := Lib.hid hb
  have HC := Lib.hid hc
  have dv0 := h.dv
  clear h hb hc
  go_enter Try.func35, Try.ntmps35
  go_wp2_with fail
  refine (num2_mk HC.out H0.out (B0.out.less (by omega))).mono ?_
  rintro e w1 ⟨rfl, g1, hm1, hf1⟩
  have H1 := Lib.hid hm1
  have F1 := Lib.hid (F0.out.trans hf1)
  have B1 := Lib.hid (B0.out.step (a := 100) (gr_value c.kn 2 1 _) (by simp only [vc]; omega))
  have dv1 := H1.out.dv
  clear hm1 hf1 dv0
  go_wp2_with fail
  refine (put_v H1.out 30 0 B1.out).mono ?_
  rintro e w2 ⟨rfl, g2, hm2, hf2⟩
  have H2 := Lib.hid hm2
  have F2 := Lib.hid (F1.out.trans hf2)
  have dv2 := H2.out.dv
  clear hm2 hf2 dv1
  go_wp2_with fail
  go_end0
  exact ⟨rfl, g2, by rw [Lot.plain, if_pos (by decide)]; exact H2.out, F2.out⟩
set_option maxRecDepth 100000 in
set_option maxHeartbeats 4000000 in
theorem plain_1 {c : Cx} {s : St} {g : Gh} {w : World}  (hc : CxOk c) (h : MK c s g w) (hb : Bd 1000 s) :
    Calls Try.prog 35 #[.pointer (some ⟨c.M, 0, none⟩), .int .i64 1] w (MP c (Lot.plain c.kn 1 s) g w (.tuple #[])) := by
  have H0 := Lib.hid h
  have F0 := Lib.hid (Fr.refl c g w)
  have B0 := Lib.hid hb
  have HC := Lib.hid hc
  have dv0 := h.dv
  clear h hb hc
  go_enter Try.func35, Try.ntmps35
  go_wp2_with fail
  refine (num2_mk HC.out H0.out (B0.out.less (by omega))).mono ?_
  rintro e w1 ⟨rfl, g1, hm1, hf1⟩
  have H1 := Lib.hid hm1
  have F1 := Lib.hid (F0.out.trans hf1)
  have B1 := Lib.hid (B0.out.step (a := 100) (gr_value c.kn 2 1 _) (by simp only [vc]; omega))
  have dv1 := H1.out.dv
  clear hm1 hf1 dv0
  go_wp2_with fail
  refine (put_v H1.out 30 0 B1.out).mono ?_
  rintro e w2 ⟨rfl, g2, hm2, hf2⟩
  have H2 := Lib.hid hm2
  have F2 := Lib.hid (F1.out.trans hf2)
  have dv2 := H2.out.dv
  clear hm2 hf2 dv1
  go_wp2_with fail
  go_end0
  exact ⟨rfl, g2, by rw [Lot.plain, if_pos (by decide)]; exact H2.out, F2.out⟩
set_option maxRecDepth 100000 in
set_option maxHeartbeats 4000000 in
theorem plain_4 {c : Cx} {s : St} {g : Gh} {w : World}  (hc : CxOk c) (h : MK c s g w) (hb : Bd 1000 s) :
    Calls Try.prog 35 #[.pointer (some ⟨c.M, 0, none⟩), .int .i64 4] w (MP c (Lot.plain c.kn 4 s) g w (.tuple #[])) := by
  have H0 := Lib.hid h
  have F0 := Lib.hid (Fr.refl c g w)
  have B0 := Lib.hid hb
  have HC := Lib.hid hc
  have dv0 := h.dv
  clear h hb hc
  go_enter Try.func35, Try.ntmps35
  go_wp2_with fail
  refine (call23_mk HC.out H0.out B0.out).mono ?_
  rintro e w1 ⟨rfl, g1, hm1, hf1⟩
  have H1 := Lib.hid hm1
  have F1 := Lib.hid (F0.out.trans hf1)
  have dv1 := H1.out.dv
  clear hm1 hf1 dv0
  go_wp2_with fail
  go_end0
  exact ⟨rfl, g1, by rw [Lot.plain, if_neg (by decide), if_neg (by decide), if_pos (by decide)]; exact H1.out, F1.out⟩
set_option maxRecDepth 100000 in
set_option maxHeartbeats 4000000 in
theorem plain_5 {c : Cx} {s : St} {g : Gh} {w : World}  (hc : CxOk c) (h : MK c s g w) (hb : Bd 1000 s) :
    Calls Try.prog 35 #[.pointer (some ⟨c.M, 0, none⟩), .int .i64 5] w (MP c (Lot.plain c.kn 5 s) g w (.tuple #[])) := by
  have H0 := Lib.hid h
  have F0 := Lib.hid (Fr.refl c g w)
  have B0 := Lib.hid hb
  have HC := Lib.hid hc
  have dv0 := h.dv
  clear h hb hc
  go_enter Try.func35, Try.ntmps35
  go_wp2_with fail
  refine (call23_mk HC.out H0.out B0.out).mono ?_
  rintro e w1 ⟨rfl, g1, hm1, hf1⟩
  have H1 := Lib.hid hm1
  have F1 := Lib.hid (F0.out.trans hf1)
  have dv1 := H1.out.dv
  clear hm1 hf1 dv0
  go_wp2_with fail
  go_end0
  exact ⟨rfl, g1, by rw [Lot.plain, if_neg (by decide), if_neg (by decide), if_pos (by decide)]; exact H1.out, F1.out⟩
set_option maxRecDepth 100000 in
set_option maxHeartbeats 4000000 in
theorem plain_6 {c : Cx} {s : St} {g : Gh} {w : World}  (hc : CxOk c) (h : MK c s g w) (hb : Bd 1000 s) :
    Calls Try.prog 35 #[.pointer (some ⟨c.M, 0, none⟩), .int .i64 6] w (MP c (Lot.plain c.kn 6 s) g w (.tuple #[])) := by
  have H0 := Lib.hid h
  have F0 := Lib.hid (Fr.refl c g w)
  have B0 := Lib.hid hb
  have HC := Lib.hid hc
  have dv0 := h.dv
  clear h hb hc
  go_enter Try.func35, Try.ntmps35
  go_wp2_with fail
  refine (call24_mk HC.out H0.out B0.out).mono ?_
  rintro e w1 ⟨rfl, g1, hm1, hf1⟩
  have H1 := Lib.hid hm1
  have F1 := Lib.hid (F0.out.trans hf1)
  have dv1 := H1.out.dv
  clear hm1 hf1 dv0
  go_wp2_with fail
  go_end0
  exact ⟨rfl, g1, by rw [Lot.plain, if_neg (by decide), if_neg (by decide), if_neg (by decide), if_pos (by decide)]; exact H1.out, F1.out⟩
set_option maxRecDepth 100000 in
set_option maxHeartbeats 4000000 in
theorem plain_7 {c : Cx} {s : St} {g : Gh} {w : World}  (hc : CxOk c) (h : MK c s g w) (hb : Bd 1000 s) :
    Calls Try.prog 35 #[.pointer (some ⟨c.M, 0, none⟩), .int .i64 7] w (MP c (Lot.plain c.kn 7 s) g w (.tuple #[])) := by
  have H0 := Lib.hid h
  have F0 := Lib.hid (Fr.refl c g w)
  have B0 := Lib.hid hb
  have HC := Lib.hid hc
  have dv0 := h.dv
  clear h hb hc
  go_enter Try.func35, Try.ntmps35
  go_wp2_with fail
  refine (call24_mk HC.out H0.out B0.out).mono ?_
  rintro e w1 ⟨rfl, g1, hm1, hf1⟩
  have H1 := Lib.hid hm1
  have F1 := Lib.hid (F0.out.trans hf1)
  have dv1 := H1.out.dv
  clear hm1 hf1 dv0
  go_wp2_with fail
  go_end0
  exact ⟨rfl, g1, by rw [Lot.plain, if_neg (by decide), if_neg (by decide), if_neg (by decide), if_pos (by decide)]; exact H1.out, F1.out⟩
set_option maxRecDepth 100000 in
set_option maxHeartbeats 4000000 in
theorem plain_8 {c : Cx} {s : St} {g : Gh} {w : World}  (hc : CxOk c) (h : MK c s g w) (hb : Bd 1000 s) :
    Calls Try.prog 35 #[.pointer (some ⟨c.M, 0, none⟩), .int .i64 8] w (MP c (Lot.plain c.kn 8 s) g w (.tuple #[])) := by
  have H0 := Lib.hid h
  have F0 := Lib.hid (Fr.refl c g w)
  have B0 := Lib.hid hb
  have HC := Lib.hid hc
  have dv0 := h.dv
  clear h hb hc
  go_enter Try.func35, Try.ntmps35
  go_wp2_with fail
  refine (put_v H0.out 31 0 B0.out).mono ?_
  rintro e w1 ⟨rfl, g1, hm1, hf1⟩
  have H1 := Lib.hid hm1
  have F1 := Lib.hid (F0.out.trans hf1)
  have dv1 := H1.out.dv
  clear hm1 hf1 dv0
  go_wp2_with fail
  go_end0
  exact ⟨rfl, g1, by rw [Lot.plain, if_neg (by decide), if_neg (by decide), if_neg (by decide), if_neg (by decide), if_pos (by decide)]; exact H1.out, F1.out⟩
set_option maxRecDepth 100000 in
set_option maxHeartbeats 4000000 in
theorem plain_9 {c : Cx} {s : St} {g : Gh} {w : World}  (hc : CxOk c) (h : MK c s g w) (hb : Bd 1000 s) :
    Calls Try.prog 35 #[.pointer (some ⟨c.M, 0, none⟩), .int .i64 9] w (MP c (Lot.plain c.kn 9 s) g w (.tuple #[])) := by
  have H0 := Lib.hid h
  have F0 := Lib.hid (Fr.refl c g w)
  have B0 := Lib.hid hb
  have HC := Lib.hid hc
  have dv0 := h.dv
  clear h hb hc
  go_enter Try.func35, Try.ntmps35
  go_wp2_with fail
  refine (recover_mk HC.out H0.out (B0.out.less (by omega))).mono ?_
  rintro e w1 ⟨rfl, g1, hm1, hf1⟩
  have H1 := Lib.hid hm1
  have F1 := Lib.hid (F0.out.trans hf1)
  have dv1 := H1.out.dv
  clear hm1 hf1 dv0
  go_wp2_with fail
  go_end0
  exact ⟨rfl, g1, by rw [Lot.plain, if_neg (by decide), if_neg (by decide), if_neg (by decide), if_neg (by decide), if_neg (by decide), if_pos (by decide)]; exact H1.out, F1.out⟩
set_option maxRecDepth 100000 in
set_option maxHeartbeats 4000000 in
theorem plain_2 {c : Cx} {s : St} {g : Gh} {w : World}  (hc : CxOk c) (h : MK c s g w) (hb : Bd 1000 s) :
    Calls Try.prog 35 #[.pointer (some ⟨c.M, 0, none⟩), .int .i64 2] w (MP c (Lot.plain c.kn 2 s) g w (.tuple #[])) := by
  have H0 := Lib.hid h
  have F0 := Lib.hid (Fr.refl c g w)
  have B0 := Lib.hid hb
  have HC := Lib.hid hc
  have dv0 := h.dv
  clear h hb hc
  obtain ⟨g3, g4, g5, g6, g7, g8, g9, g10, g11, g12, g13⟩ := H0.out.f11
  have H42 : Hid (Calls Try.prog 42 #[.agg #[.string c.name, .bool c.inner, c.vo, c.vp, c.vr, g.ov, g.cv, g.lv, .slice none 0 0, .slice none 0 0, .slice none 0 0]] w (RowT 59 (Lot.slots c.kn s) w)) := slots_mk HC.out H0.out (by have := B0.out.2.2; omega)
  have HTY := Lib.hid (slots_ty HC.out H0.out)
  obtain ⟨sl, hsl⟩ : ∃ l, l = Lot.slots c.kn s := ⟨_, rfl⟩
  have hsn : sl.length ≤ 200000 := by rw [hsl]; simp only [Lot.slots, List.length_append]; have := HC.out.lp; have := HC.out.lr; have := B0.out.2.2; omega
  rw [← hsl] at H42 HTY
  have HSL := Lib.hid hsl
  generalize hnm : c.name = nm, hinn : c.inner = inn, hvo : c.vo = vo, hvp : c.vp = vp, hvr : c.vr = vr, hov : g.ov = ov, hcv : g.cv = cv, hlv : g.lv = lv at g3 g4 g5 g6 g7 g8 g9 g10 H42
  clear hsl hnm hinn hvo hvp hvr hov hcv hlv
  go_enter Try.func35, Try.ntmps35
  go_wp2_with fail
  refine H42.out.mono ?_
  rintro e w1 ⟨v, rfl, ho, hb⟩
  have H1 := Lib.hid (H0.out.bel hb)
  have F1 := Lib.hid (F0.out.trans (Fr.of_bel (c := c) (g := g) hb))
  have dv1 := H1.out.dv
  have HO := Lib.hid ho
  have hvf := row_formN ho
  obtain ⟨n, hn⟩ : ∃ n, n = sl.length := ⟨_, rfl⟩
  have HN := Lib.hid hn
  rw [← hn] at hsn hvf
  clear ho hb hn g3 g4 g5 g6 g7 g8 g9 g10 g11 g12 g13 dv0
  by_cases hn0 : n = 0
  · obtain ⟨A, cap, rfl⟩ := hvf
    have hnil : Lot.slots c.kn s = [] := by rw [← HSL.out]; exact List.eq_nil_of_length_eq_zero (by rw [← HN.out]; exact hn0)
    have HNIL := Lib.hid hnil
    subst hn0
    clear hnil
    go_wp2_with fail
    go_end0
    exact ⟨rfl, g, by rw [Lot.plain, if_neg (by decide), if_pos (by decide), if_pos HNIL.out]; exact H1.out, F1.out⟩
  · have hq : ((n : Int) == 0) = false := by simp; omega
    have HNIL : Hid (Lot.slots c.kn s ≠ []) := Lib.hid (by intro e; have h := HN.out; rw [HSL.out, e] at h; exact hn0 h)
    have hn1 : 1 ≤ n := by omega
    obtain ⟨gb, cap, rfl, hcap1, hcap2⟩ : ∃ gb cap, v = .slice (some ⟨gb, 0, none⟩) n cap ∧ n ≤ cap ∧ cap ≤ 9223372036854775807 := by
      rcases HO.out.2 with ⟨_, h0⟩ | ⟨gb, cap, cur, e, _, _, h1, h2, _⟩
      · have := HN.out; omega
      · exact ⟨gb, cap, by rw [e, ← HN.out], by have := HN.out; omega, h2⟩
    have hgb := HO.out.lt gb rfl
    have HGB := Lib.hid hgb.2
    have HNO : Hid (¬ Own c g gb) := fun ho => by have := H0.out.lt gb ho; omega
    clear hn0 hgb hvf
    go_wp2_with fail
    refine (draw_mk HC.out H1.out (n : Int) (by omega) (by omega)).mono ?_
    rintro e w2 ⟨rfl, g2, hm2, hf2⟩
    have H2 := Lib.hid hm2
    have HKB : Hid (w2.heap[gb]? = w1.heap[gb]?) := (H1.out.kept hf2 HGB.out HNO.out).1
    have F2 := Lib.hid (F1.out.trans hf2)
    obtain ⟨d, hd⟩ : ∃ x, x = Lot.rV c.kn n s := ⟨_, rfl⟩
    have hdq : 0 ≤ d ∧ d < n := by rw [hd]; exact drV_bd _ _ _ (by omega) (by omega)
    obtain ⟨hda, hdb⟩ := hdq
    rw [← hd]
    have HD := Lib.hid hd
    clear hd
    have dv2 := H2.out.dv
    clear hm2 hf2 dv1
    obtain ⟨q, rfl⟩ : ∃ q : Nat, d = q := ⟨d.toNat, by omega⟩
    have hqn : q < n := by omega
    have hql : q < sl.length := by rw [← HN.out]; exact hqn
    have hq0 : (0 : Int) ≤ (q : Int) := by omega
    have hq1 : (q : Int) < (n : Int) := by omega
    obtain ⟨t, ht⟩ : ∃ t, t = sl.getD q 0 := ⟨_, rfl⟩
    have htt : t = 1 ∨ t = 2 := by rw [ht]; exact HTY.out _ (getD_mem hql)
    have hcell : w2.cell? ⟨gb, q, none⟩ = some (.int .i64 t) := by
      rw [World.cell?_of_block (a := ⟨gb, q, none⟩) HKB.out]
      have h := HO.out
      rw [← HN.out] at h
      have hx := h.cellAt q (by omega)
      rw [hx, List.getElem?_map, List.getElem?_eq_getElem hql, ht, List.getD_eq_getElem?_getD, List.getElem?_eq_getElem hql]
      rfl
    have HT : Hid ((Lot.slots c.kn s).getD (Lot.rV c.kn (Lot.slots c.kn s).length s).toNat 0 = t) := Lib.hid (by rw [← HSL.out, ← HN.out, ← HD.out, Int.toNat_natCast, ht])
    have HQ : Hid (Lot.rV c.kn (Lot.slots c.kn s).length s = q) := Lib.hid (by rw [← HSL.out, ← HN.out, ← HD.out])
    have H2' : Hid (MK c (Lot.rS c.kn (Lot.slots c.kn s).length s) g2 w2) := Lib.hid (by rw [← HSL.out, ← HN.out]; exact H2.out)
    have B2 := Lib.hid (B0.out.step (a := 1000) (gr_rS c.kn (Lot.slots c.kn s).length s) (by omega))
    clear ht H2
    go_wp2_with fail
    refine (val2_mk HC.out H2'.out (B2.out.less (by omega)) t htt).mono ?_
    rintro e w3 ⟨rfl, g3, hm3, hf3⟩
    have H3 := Lib.hid hm3
    have F3 := Lib.hid (F2.out.trans hf3)
    have B3 := Lib.hid (B2.out.step (a := 100) (gr_value c.kn 2 t _) (by simp only [vc]; omega))
    have dv3 := H3.out.dv
    clear hm3 hf3 dv2
    clear hcell
    go_wp2_with fail
    refine (put_v H3.out 3 q B3.out).mono ?_
    rintro e w4 ⟨rfl, g4, hm4, hf4⟩
    have H4 := Lib.hid hm4
    have F4 := Lib.hid (F3.out.trans hf4)
    have dv4 := H4.out.dv
    clear hm4 hf4 dv3
    go_wp2_with fail
    go_end0
    exact ⟨rfl, g4, by rw [Lot.plain, if_neg (by decide), if_pos (by decide), if_neg HNIL.out, HT.out, HQ.out]; exact H4.out, F4.out⟩
set_option maxRecDepth 100000 in
set_option maxHeartbeats 4000000 in
theorem plain_3 {c : Cx} {s : St} {g : Gh} {w : World}  (hc : CxOk c) (h : MK c s g w) (hb : Bd 1000 s) :
    Calls Try.prog 35 #[.pointer (some ⟨c.M, 0, none⟩), .int .i64 3] w (MP c (Lot.plain c.kn 3 s) g w (.tuple #[])) := by
  have H0 := Lib.hid h
  have F0 := Lib.hid (Fr.refl c g w)
  have B0 := Lib.hid hb
  have HC := Lib.hid hc
  have dv0 := h.dv
  clear h hb hc
  obtain ⟨g3, g4, g5, g6, g7, g8, g9, g10, g11, g12, g13⟩ := H0.out.f11
  have H42 : Hid (Calls Try.prog 42 #[.agg #[.string c.name, .bool c.inner, c.vo, c.vp, c.vr, g.ov, g.cv, g.lv, .slice none 0 0, .slice none 0 0, .slice none 0 0]] w (RowT 59 (Lot.slots c.kn s) w)) := slots_mk HC.out H0.out (by have := B0.out.2.2; omega)
  have HTY := Lib.hid (slots_ty HC.out H0.out)
  obtain ⟨sl, hsl⟩ : ∃ l, l = Lot.slots c.kn s := ⟨_, rfl⟩
  have hsn : sl.length ≤ 200000 := by rw [hsl]; simp only [Lot.slots, List.length_append]; have := HC.out.lp; have := HC.out.lr; have := B0.out.2.2; omega
  rw [← hsl] at H42 HTY
  have HSL := Lib.hid hsl
  generalize hnm : c.name = nm, hinn : c.inner = inn, hvo : c.vo = vo, hvp : c.vp = vp, hvr : c.vr = vr, hov : g.ov = ov, hcv : g.cv = cv, hlv : g.lv = lv at g3 g4 g5 g6 g7 g8 g9 g10 H42
  clear hsl hnm hinn hvo hvp hvr hov hcv hlv
  go_enter Try.func35, Try.ntmps35
  go_wp2_with fail
  refine H42.out.mono ?_
  rintro e w1 ⟨v, rfl, ho, hb⟩
  have H1 := Lib.hid (H0.out.bel hb)
  have F1 := Lib.hid (F0.out.trans (Fr.of_bel (c := c) (g := g) hb))
  have dv1 := H1.out.dv
  have HO := Lib.hid ho
  have hvf := row_formN ho
  obtain ⟨n, hn⟩ : ∃ n, n = sl.length := ⟨_, rfl⟩
  have HN := Lib.hid hn
  rw [← hn] at hsn hvf
  clear ho hb hn g3 g4 g5 g6 g7 g8 g9 g10 g11 g12 g13 dv0
  by_cases hn0 : n = 0
  · obtain ⟨A, cap, rfl⟩ := hvf
    have hnil : Lot.slots c.kn s = [] := by rw [← HSL.out]; exact List.eq_nil_of_length_eq_zero (by rw [← HN.out]; exact hn0)
    have HNIL := Lib.hid hnil
    subst hn0
    clear hnil
    go_wp2_with fail
    go_end0
    exact ⟨rfl, g, by rw [Lot.plain, if_neg (by decide), if_pos (by decide), if_pos HNIL.out]; exact H1.out, F1.out⟩
  · have hq : ((n : Int) == 0) = false := by simp; omega
    have HNIL : Hid (Lot.slots c.kn s ≠ []) := Lib.hid (by intro e; have h := HN.out; rw [HSL.out, e] at h; exact hn0 h)
    have hn1 : 1 ≤ n := by omega
    obtain ⟨gb, cap, rfl, hcap1, hcap2⟩ : ∃ gb cap, v = .slice (some ⟨gb, 0, none⟩) n cap ∧ n ≤ cap ∧ cap ≤ 9223372036854775807 := by
      rcases HO.out.2 with ⟨_, h0⟩ | ⟨gb, cap, cur, e, _, _, h1, h2, _⟩
      · have := HN.out; omega
      · exact ⟨gb, cap, by rw [e, ← HN.out], by have := HN.out; omega, h2⟩
    have hgb := HO.out.lt gb rfl
    have HGB := Lib.hid hgb.2
    have HNO : Hid (¬ Own c g gb) := fun ho => by have := H0.out.lt gb ho; omega
    clear hn0 hgb hvf
    go_wp2_with fail
    refine (draw_mk HC.out H1.out (n : Int) (by omega) (by omega)).mono ?_
    rintro e w2 ⟨rfl, g2, hm2, hf2⟩
    have H2 := Lib.hid hm2
    have HKB : Hid (w2.heap[gb]? = w1.heap[gb]?) := (H1.out.kept hf2 HGB.out HNO.out).1
    have F2 := Lib.hid (F1.out.trans hf2)
    obtain ⟨d, hd⟩ : ∃ x, x = Lot.rV c.kn n s := ⟨_, rfl⟩
    have hdq : 0 ≤ d ∧ d < n := by rw [hd]; exact drV_bd _ _ _ (by omega) (by omega)
    obtain ⟨hda, hdb⟩ := hdq
    rw [← hd]
    have HD := Lib.hid hd
    clear hd
    have dv2 := H2.out.dv
    clear hm2 hf2 dv1
    obtain ⟨q, rfl⟩ : ∃ q : Nat, d = q := ⟨d.toNat, by omega⟩
    have hqn : q < n := by omega
    have hql : q < sl.length := by rw [← HN.out]; exact hqn
    have hq0 : (0 : Int) ≤ (q : Int) := by omega
    have hq1 : (q : Int) < (n : Int) := by omega
    obtain ⟨t, ht⟩ : ∃ t, t = sl.getD q 0 := ⟨_, rfl⟩
    have htt : t = 1 ∨ t = 2 := by rw [ht]; exact HTY.out _ (getD_mem hql)
    have hcell : w2.cell? ⟨gb, q, none⟩ = some (.int .i64 t) := by
      rw [World.cell?_of_block (a := ⟨gb, q, none⟩) HKB.out]
      have h := HO.out
      rw [← HN.out] at h
      have hx := h.cellAt q (by omega)
      rw [hx, List.getElem?_map, List.getElem?_eq_getElem hql, ht, List.getD_eq_getElem?_getD, List.getElem?_eq_getElem hql]
      rfl
    have HT : Hid ((Lot.slots c.kn s).getD (Lot.rV c.kn (Lot.slots c.kn s).length s).toNat 0 = t) := Lib.hid (by rw [← HSL.out, ← HN.out, ← HD.out, Int.toNat_natCast, ht])
    have HQ : Hid (Lot.rV c.kn (Lot.slots c.kn s).length s = q) := Lib.hid (by rw [← HSL.out, ← HN.out, ← HD.out])
    have H2' : Hid (MK c (Lot.rS c.kn (Lot.slots c.kn s).length s) g2 w2) := Lib.hid (by rw [← HSL.out, ← HN.out]; exact H2.out)
    have B2 := Lib.hid (B0.out.step (a := 1000) (gr_rS c.kn (Lot.slots c.kn s).length s) (by omega))
    clear ht H2
    go_wp2_with fail
    refine (val2_mk HC.out H2'.out (B2.out.less (by omega)) t htt).mono ?_
    rintro e w3 ⟨rfl, g3, hm3, hf3⟩
    have H3 := Lib.hid hm3
    have F3 := Lib.hid (F2.out.trans hf3)
    have B3 := Lib.hid (B2.out.step (a := 100) (gr_value c.kn 2 t _) (by simp only [vc]; omega))
    have dv3 := H3.out.dv
    clear hm3 hf3 dv2
    clear hcell
    go_wp2_with fail
    refine (put_v H3.out 3 q B3.out).mono ?_
    rintro e w4 ⟨rfl, g4, hm4, hf4⟩
    have H4 := Lib.hid hm4
    have F4 := Lib.hid (F3.out.trans hf4)
    have dv4 := H4.out.dv
    clear hm4 hf4 dv3
    go_wp2_with fail
    go_end0
    exact ⟨rfl, g4, by rw [Lot.plain, if_neg (by decide), if_pos (by decide), if_neg HNIL.out, HT.out, HQ.out]; exact H4.out, F4.out⟩
set_option maxRecDepth 100000 in
set_option maxHeartbeats 4000000 in
theorem plain_rest {c : Cx} {s : St} {g : Gh} {w : World} (k : Int) (hk : 10 ≤ k) (hc : CxOk c) (h : MK c s g w) (hb : Bd 1000 s) :
    Calls Try.prog 35 #[.pointer (some ⟨c.M, 0, none⟩), .int .i64 k] w (MP c (Lot.plain c.kn k s) g w (.tuple #[])) := by
  have H0 := Lib.hid h
  have F0 := Lib.hid (Fr.refl c g w)
  have B0 := Lib.hid hb
  have HC := Lib.hid hc
  have dv0 := h.dv
  clear h hb hc
  have hk0 : (k == 0) = false := by simp; omega
  have hk1 : (k == 1) = false := by simp; omega
  have hk2 : (k == 2) = false := by simp; omega
  have hk3 : (k == 3) = false := by simp; omega
  have hk4 : (k == 4) = false := by simp; omega
  have hk5 : (k == 5) = false := by simp; omega
  have hk6 : (k == 6) = false := by simp; omega
  have hk7 : (k == 7) = false := by simp; omega
  have hk8 : (k == 8) = false := by simp; omega
  have hk9 : (k == 9) = false := by simp; omega
  have HK := Lib.hid hk
  go_enter Try.func35, Try.ntmps35
  go_wp2_with fail
  refine (outer_mk HC.out H0.out (B0.out.less (by omega))).mono ?_
  rintro e w1 ⟨rfl, g1, hm1, hf1⟩
  have H1 := Lib.hid hm1
  have F1 := Lib.hid (F0.out.trans hf1)
  have dv1 := H1.out.dv
  clear hm1 hf1 dv0
  go_wp2_with fail
  go_end0
  exact ⟨rfl, g1, by rw [Lot.plain, if_neg (by have := HK.out; omega), if_neg (by have := HK.out; omega), if_neg (by have := HK.out; omega), if_neg (by have := HK.out; omega), if_neg (by have := HK.out; omega), if_neg (by have := HK.out; omega)]; exact H1.out, F1.out⟩
theorem plain_mk {c : Cx} {s : St} {g : Gh} {w : World} (k : Int) (h0 : 0 ≤ k) (hc : CxOk c) (h : MK c s g w) (hb : Bd 1000 s) : Calls Try.prog 35 #[.pointer (some ⟨c.M, 0, none⟩), .int .i64 k] w (MP c (Lot.plain c.kn k s) g w (.tuple #[])) := by
  rcases (show k = 0 ∨ k = 1 ∨ k = 2 ∨ k = 3 ∨ k = 4 ∨ k = 5 ∨ k = 6 ∨ k = 7 ∨ k = 8 ∨ k = 9 ∨ 10 ≤ k by omega) with rfl | rfl | rfl | rfl | rfl | rfl | rfl | rfl | rfl | rfl | hk
  · exact plain_0 hc h hb
  · exact plain_1 hc h hb
  · exact plain_2 hc h hb
  · exact plain_3 hc h hb
  · exact plain_4 hc h hb
  · exact plain_5 hc h hb
  · exact plain_6 hc h hb
  · exact plain_7 hc h hb
  · exact plain_8 hc h hb
  · exact plain_9 hc h hb
  · exact plain_rest k hk hc h hb
end Go.Proofs.Ythaniobijkdnoaa
