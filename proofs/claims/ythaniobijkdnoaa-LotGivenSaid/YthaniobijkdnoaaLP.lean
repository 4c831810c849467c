/- A maker puts a branch and a loop, round statements that it is given. Conditions: rows that are not too long. -/
import Derived.Test.YthaniobijkdnoaaLO
namespace Go.Proofs.Ythaniobijkdnoaa
open Go.RowKit

/-- no instruction is lost -/
def Mo (s s' : St) : Prop := s.code.length ≤ s'.code.length
theorem Mo.trans {a b c : St} (h : Mo a b) (k : Mo b c) : Mo a c := Nat.le_trans h k
theorem put_len (op a : Int) (s : St) : (Lot.put op a s).code.length = s.code.length + 1 := by simp [Lot.put]
theorem mo_put (op a : Int) (s : St) : Mo s (Lot.put op a s) := by simp [Mo, Lot.put]
theorem mo_here (i : Nat) (s : St) : Mo s (Lot.here i s) := by simp [Mo, Lot.here]
theorem gr_here (i : Nat) (s : St) : Gr 0 s (Lot.here i s) := by simp [Gr, Lot.here]
/-- boxes of a caller's stay -/
structure Box (c : Cx) (P : Nat) (u : Value) (g : Gh) (w : World) : Prop where
  h : ∃ t, w.heap[P]? = some (.cells #[u] t (0, 0))
  n : ¬ Own c g P
theorem Box.step {c : Cx} {P : Nat} {u : Value} {s : St} {g g' : Gh} {w w' : World} (b : Box c P u g w) (h : MK c s g w) (hf : Fr c g g' w w') : Box c P u g' w' := by
  obtain ⟨t, ht⟩ := b.h
  have k := h.kept hf (heap_lt ht) b.n
  exact ⟨⟨t, k.1.trans ht⟩, k.2⟩
theorem Box.cell {c : Cx} {P : Nat} {u : Value} {g : Gh} {w : World} (b : Box c P u g w) : w.cell? ⟨P, 0, none⟩ = some u := by
  obtain ⟨t, ht⟩ := b.h
  exact cell_of ht 0
def Bx (c : Cx) (P1 P2 : Nat) (n : Int) (g : Gh) (w : World) : Prop := Box c P1 (.pointer (some ⟨c.M, 0, none⟩)) g w ∧ Box c P2 (.int .i64 n) g w
theorem Bx.step {c : Cx} {P1 P2 : Nat} {n : Int} {s : St} {g g' : Gh} {w w' : World} (b : Bx c P1 P2 n g w) (h : MK c s g w) (hf : Fr c g g' w w') : Bx c P1 P2 n g' w' := ⟨b.1.step h hf, b.2.step h hf⟩

set_option maxRecDepth 100000 in
set_option maxHeartbeats 4000000 in
theorem branch32 {c : Cx} (P1 P2 : Nat) (n : Int) (f : St → St) (r : Nat) (hr : r ≤ 60000) (hgr : ∀ s, Gr r s (f s)) (hmo : ∀ s, Mo s (f s)) (hf : ∀ s g w, MK c s g w → Bx c P1 P2 n g w → Bd r s → Calls Try.prog 32 #[.pointer (some ⟨P1, 0, none⟩), .pointer (some ⟨P2, 0, none⟩)] w (MP c (f s) g w (.tuple #[])))
    {s : St} {g : Gh} {w : World} (hc : CxOk c) (h : MK c s g w) (hbx : Bx c P1 P2 n g w) (hb : Bd (r + 20) s) :
    Calls Try.prog 31 #[.pointer (some ⟨c.M, 0, none⟩), .func (.func 32) #[] #[.pointer (some ⟨P1, 0, none⟩), .pointer (some ⟨P2, 0, none⟩)]] w (MP c (Lot.branch c.kn f s) g w (.tuple #[])) := by
  have HFN := Lib.hid hf
  have HGR := Lib.hid hgr
  have HMO := Lib.hid hmo
  have X0 := Lib.hid hbx
  clear hf hgr hmo hbx
  have H0 := Lib.hid h
  have F0 := Lib.hid (Fr.refl c g w)
  have B0 := Lib.hid hb
  have HC := Lib.hid hc
  have dv0 := h.dv
  clear h hb hc
  go_enter Try.func31, Try.ntmps31
  go_wp2_with fail
  refine (num1_mk HC.out H0.out (B0.out.less (by omega))).mono ?_
  rintro e w1 ⟨rfl, g1, hm1, hf1⟩
  have H1 := Lib.hid hm1
  have X1 := Lib.hid (X0.out.step H0.out hf1)
  have F1 := Lib.hid (F0.out.trans hf1)
  have B1 := Lib.hid (B0.out.step (a := (r + 10)) (gr_value c.kn 1 1 _) (by simp only [vc]; omega))
  clear hm1 hf1
  go_wp2_with fail
  refine (put_v H1.out 14 0 B1.out).mono ?_
  rintro e w2 ⟨rfl, g2, hm2, hf2⟩
  have H2 := Lib.hid hm2
  have X2 := Lib.hid (X1.out.step H1.out hf2)
  have F2 := Lib.hid (F1.out.trans hf2)
  have B2 := Lib.hid (B1.out.step (a := (r + 9)) (gr_put 14 0 _) (by omega))
  clear hm2 hf2
  go_wp2_with fail
  refine (put_v H2.out 22 0 B2.out).mono ?_
  rintro e w3 ⟨rfl, g3, hm3, hf3⟩
  have H3 := Lib.hid hm3
  have X3 := Lib.hid (X2.out.step H2.out hf3)
  have F3 := Lib.hid (F2.out.trans hf3)
  have B3 := Lib.hid (B2.out.step (a := (r + 8)) (gr_put 22 0 _) (by omega))
  clear hm3 hf3
  obtain ⟨sa, hsa⟩ : ∃ x, x = Lot.put 14 0 (Lot.value c.kn 1 1 s) := ⟨_, rfl⟩
  rw [← hsa] at H3 B3
  have HSA := Lib.hid hsa
  rw [← hsa]
  clear hsa
  go_wp2_with fail
  refine (HFN.out _ _ w3 H3.out X3.out (B3.out.less (by omega))).mono ?_
  rintro e w4 ⟨rfl, g4, hm4, hf4⟩
  have H4 := Lib.hid hm4
  have X4 := Lib.hid (X3.out.step H3.out hf4)
  have F4 := Lib.hid (F3.out.trans hf4)
  have B4 := Lib.hid (B3.out.step (a := 8) (HGR.out _) (by omega))
  clear hm4 hf4
  have hlt : sa.code.length < (f (Lot.put 22 0 sa)).code.length := by have h := HMO.out (Lot.put 22 0 sa); unfold Mo at h; rw [put_len] at h; omega
  go_wp2_with fail
  refine (here_mk H4.out sa.code.length hlt (by have := B4.out.1; omega)).mono ?_
  rintro e w5 ⟨rfl, g5, hm5, hf5⟩
  have H5 := Lib.hid hm5
  have X5 := Lib.hid (X4.out.step H4.out hf5)
  have F5 := Lib.hid (F4.out.trans hf5)
  have B5 := Lib.hid (B4.out.step (a := 8) (gr_here sa.code.length _) (by omega))
  clear hm5 hf5
  go_wp2_with fail
  refine (put_v H5.out 0 0 B5.out).mono ?_
  rintro e w6 ⟨rfl, g6, hm6, hf6⟩
  have H6 := Lib.hid hm6
  have X6 := Lib.hid (X5.out.step H5.out hf6)
  have F6 := Lib.hid (F5.out.trans hf6)
  clear hm6 hf6
  go_wp2_with fail
  go_end0
  have e : Lot.branch c.kn f s = Lot.put 0 0 (Lot.here sa.code.length (f (Lot.put 22 0 sa))) := by rw [Lot.branch, HSA.out, put_len]
  exact ⟨rfl, g6, by rw [e]; exact H6.out, F6.out⟩
set_option maxRecDepth 100000 in
set_option maxHeartbeats 4000000 in
theorem branch33 {c : Cx} (P1 P2 : Nat) (n : Int) (f : St → St) (r : Nat) (hr : r ≤ 60000) (hgr : ∀ s, Gr r s (f s)) (hmo : ∀ s, Mo s (f s)) (hf : ∀ s g w, MK c s g w → Bx c P1 P2 n g w → Bd r s → Calls Try.prog 33 #[.pointer (some ⟨P1, 0, none⟩)] w (MP c (f s) g w (.tuple #[])))
    {s : St} {g : Gh} {w : World} (hc : CxOk c) (h : MK c s g w) (hbx : Bx c P1 P2 n g w) (hb : Bd (r + 20) s) :
    Calls Try.prog 31 #[.pointer (some ⟨c.M, 0, none⟩), .func (.func 33) #[] #[.pointer (some ⟨P1, 0, none⟩)]] w (MP c (Lot.branch c.kn f s) g w (.tuple #[])) := by
  have HFN := Lib.hid hf
  have HGR := Lib.hid hgr
  have HMO := Lib.hid hmo
  have X0 := Lib.hid hbx
  clear hf hgr hmo hbx
  have H0 := Lib.hid h
  have F0 := Lib.hid (Fr.refl c g w)
  have B0 := Lib.hid hb
  have HC := Lib.hid hc
  have dv0 := h.dv
  clear h hb hc
  go_enter Try.func31, Try.ntmps31
  go_wp2_with fail
  refine (num1_mk HC.out H0.out (B0.out.less (by omega))).mono ?_
  rintro e w1 ⟨rfl, g1, hm1, hf1⟩
  have H1 := Lib.hid hm1
  have X1 := Lib.hid (X0.out.step H0.out hf1)
  have F1 := Lib.hid (F0.out.trans hf1)
  have B1 := Lib.hid (B0.out.step (a := (r + 10)) (gr_value c.kn 1 1 _) (by simp only [vc]; omega))
  clear hm1 hf1
  go_wp2_with fail
  refine (put_v H1.out 14 0 B1.out).mono ?_
  rintro e w2 ⟨rfl, g2, hm2, hf2⟩
  have H2 := Lib.hid hm2
  have X2 := Lib.hid (X1.out.step H1.out hf2)
  have F2 := Lib.hid (F1.out.trans hf2)
  have B2 := Lib.hid (B1.out.step (a := (r + 9)) (gr_put 14 0 _) (by omega))
  clear hm2 hf2
  go_wp2_with fail
  refine (put_v H2.out 22 0 B2.out).mono ?_
  rintro e w3 ⟨rfl, g3, hm3, hf3⟩
  have H3 := Lib.hid hm3
  have X3 := Lib.hid (X2.out.step H2.out hf3)
  have F3 := Lib.hid (F2.out.trans hf3)
  have B3 := Lib.hid (B2.out.step (a := (r + 8)) (gr_put 22 0 _) (by omega))
  clear hm3 hf3
  obtain ⟨sa, hsa⟩ : ∃ x, x = Lot.put 14 0 (Lot.value c.kn 1 1 s) := ⟨_, rfl⟩
  rw [← hsa] at H3 B3
  have HSA := Lib.hid hsa
  rw [← hsa]
  clear hsa
  go_wp2_with fail
  refine (HFN.out _ _ w3 H3.out X3.out (B3.out.less (by omega))).mono ?_
  rintro e w4 ⟨rfl, g4, hm4, hf4⟩
  have H4 := Lib.hid hm4
  have X4 := Lib.hid (X3.out.step H3.out hf4)
  have F4 := Lib.hid (F3.out.trans hf4)
  have B4 := Lib.hid (B3.out.step (a := 8) (HGR.out _) (by omega))
  clear hm4 hf4
  have hlt : sa.code.length < (f (Lot.put 22 0 sa)).code.length := by have h := HMO.out (Lot.put 22 0 sa); unfold Mo at h; rw [put_len] at h; omega
  go_wp2_with fail
  refine (here_mk H4.out sa.code.length hlt (by have := B4.out.1; omega)).mono ?_
  rintro e w5 ⟨rfl, g5, hm5, hf5⟩
  have H5 := Lib.hid hm5
  have X5 := Lib.hid (X4.out.step H4.out hf5)
  have F5 := Lib.hid (F4.out.trans hf5)
  have B5 := Lib.hid (B4.out.step (a := 8) (gr_here sa.code.length _) (by omega))
  clear hm5 hf5
  go_wp2_with fail
  refine (put_v H5.out 0 0 B5.out).mono ?_
  rintro e w6 ⟨rfl, g6, hm6, hf6⟩
  have H6 := Lib.hid hm6
  have X6 := Lib.hid (X5.out.step H5.out hf6)
  have F6 := Lib.hid (F5.out.trans hf6)
  clear hm6 hf6
  go_wp2_with fail
  go_end0
  have e : Lot.branch c.kn f s = Lot.put 0 0 (Lot.here sa.code.length (f (Lot.put 22 0 sa))) := by rw [Lot.branch, HSA.out, put_len]
  exact ⟨rfl, g6, by rw [e]; exact H6.out, F6.out⟩
theorem gr_addLocal (s : St) : Gr 1 s (Lot.addLocal s) := by
  simp [Gr, Lot.addLocal]
  try omega
set_option maxRecDepth 100000 in
set_option maxHeartbeats 4000000 in
theorem loop_mk {c : Cx} (n : Int) (h1n : 1 ≤ n) (hn9 : n ≤ 9) (f : St → St) (r : Nat) (hr : r ≤ 60000) (hgr : ∀ s, Gr r s (f s)) (hf : ∀ s g w, MK c s g w → Bd r s → Calls Try.prog 22 #[.pointer (some ⟨c.M, 0, none⟩), .int .i64 (n - 1)] w (MP c (f s) g w (.tuple #[])))
    {s : St} {g : Gh} {w : World} (hc : CxOk c) (h : MK c s g w) (hb : Bd (r + 30) s) :
    Calls Try.prog 30 #[.pointer (some ⟨c.M, 0, none⟩), .int .i64 n] w (MP c (Lot.loop c.kn f s) g w (.tuple #[])) := by
  have HFN := Lib.hid hf
  have HGR := Lib.hid hgr
  clear hf hgr
  have H0 := Lib.hid h
  have F0 := Lib.hid (Fr.refl c g w)
  have B0 := Lib.hid hb
  have HC := Lib.hid hc
  have dv0 := h.dv
  clear h hb hc
  obtain ⟨i0, hi, hz0, hz1, hz2⟩ := info_parts inf59
  obtain ⟨g3, g4, g5, g6, g7, g8, g9, g10, g11, g12, g13⟩ := H0.out.f11
  have H42 : Hid (Calls Try.prog 42 #[.agg #[.string c.name, .bool c.inner, c.vo, c.vp, c.vr, g.ov, g.cv, g.lv, .slice none 0 0, .slice none 0 0, .slice none 0 0]] w (RowT 59 (Lot.slots c.kn s) w)) := slots_mk HC.out H0.out (by have := B0.out.2.2; omega)
  obtain ⟨k, hk⟩ : ∃ k, k = (Lot.slots c.kn s).length := ⟨_, rfl⟩
  have hk2 : k ≤ 200000 := by rw [hk]; simp only [Lot.slots, List.length_append]; have := HC.out.lp; have := HC.out.lr; have := B0.out.2.2; omega
  have HK := Lib.hid hk
  generalize hnm : c.name = nm, hinn : c.inner = inn, hvo : c.vo = vo, hvp : c.vp = vp, hvr : c.vr = vr, hov : g.ov = ov, hcv : g.cv = cv, hlv : g.lv = lv at g3 g4 g5 g6 g7 g8 g9 g10 H42
  clear hk hnm hinn hvo hvp hvr hov hcv hlv
  go_enter Try.func30, Try.ntmps30
  go_wp2_with fail
  refine H42.out.mono ?_
  rintro e w1 ⟨v, rfl, ho, hb⟩
  obtain ⟨vA, vc, rfl⟩ := row_formN ho
  rw [← HK.out]
  have H1 := Lib.hid (H0.out.bel hb)
  have F1 := Lib.hid (F0.out.trans (Fr.of_bel (c := c) (g := g) hb))
  obtain ⟨-, o8, -, -, -, fz⟩ := H1.out.cells
  have f8 := fz 8
  have HA := Lib.hid (H1.out.bel (w' := w1.alloc (.cells #[.int .i64 1] 59)) ((Below.refl _ _).alloc (Nat.le_refl _) _))
  have HR := Lib.hid (reads_new1 w1 1 59 w1.heap.size rfl)
  obtain ⟨ov, hov⟩ : ∃ v, v = g.ov := ⟨_, rfl⟩
  have HOV := Lib.hid hov
  obtain ⟨M, hM⟩ : ∃ M, M = c.M := ⟨_, rfl⟩
  have HM := Lib.hid hM
  have hll := B0.out.2.2
  rw [← hM] at o8 f8 ⊢
  rw [← hov] at o8
  clear ho hb fz hov hM g3 g4 g5 g6 g7 g8 g9 g10 g11 g12 g13 dv0
  go_upto_region 2 with ((at_builtin; refine wpList_append_any _ rfl _ _ 29 rfl 0 59 i0 (.int .i64 0) 1 8 Try.underlying29 hi hz0 hz1 hz2 rfl (by decide) ov s.locals.length (s.locals.map (Value.int .i64)) rfl (by rw [HOV.out]; exact HA.out.lo) _ (some ⟨w1.heap.size, 0, none⟩) 1 1 [.int .i64 1] rfl HR.out (by simp [Value.oneCell']) (by unfold maxLen; omega) (by omega) (Nat.zero_le _) ?_; intro v2 w2 hown2 hg2 hv2; obtain ⟨A2, k2, rfl⟩ := row_formN hown2; have q8 : w2.cell? ⟨M, 8, none⟩ = some ov := (far_cell HM.out H1.out.m hg2 (by rw [HOV.out]; exact H1.out.nm.2.2) 8).trans o8; have qf : w2.frozen? ⟨M, 8, none⟩ = false := (far_frozen HM.out H1.out.m hg2 (by rw [HOV.out]; exact H1.out.nm.2.2) 8).trans f8; have HO2 := Lib.hid hown2; have HG2 := Lib.hid hg2; have HV2 := Lib.hid hv2; clear hown2 hg2 hv2))
  have hS := HA.out.setLocals (w1 := w2) (v' := .slice A2 (s.locals.length + 1) k2) (s.locals ++ [1]) (fun t ht => by
    rcases List.mem_append.1 ht with h1 | h1
    · exact H0.out.ty t h1
    · simp at h1; exact .inl h1) (by rw [List.length_append, List.map_append]; exact HO2.out) (by have h := HG2.out; rw [HOV.out] at h; exact h) (fun k hk => by
    rcases HV2.out with e | e
    · exact .inl (by rw [e, HOV.out] at hk; exact hk)
    · rw [e] at hk; exact .inr (by simp at hk ⊢; omega))
  rw [← HM.out] at hS
  generalize w2.setCell ⟨M, 8, none⟩ (.slice A2 (s.locals.length + 1) k2) = w3 at *
  obtain ⟨g3, hg3⟩ : ∃ x, x = ({ g with ov := .slice A2 (s.locals.length + 1) k2 } : Gh) := ⟨_, rfl⟩
  rw [← hg3] at hS
  have H3 : Hid (MK c (Lot.addLocal s) g3 w3) := hS.1
  have F3 : Hid (Fr c g g3 w w3) := F1.out.trans ((Fr.of_bel ((Below.refl _ _).alloc (Nat.le_refl _) _)).trans hS.2)
  have B3 := Lib.hid (B0.out.step (a := r + 29) (gr_addLocal s) (by omega))
  have dv3 := H3.out.dv
  rw [← HM.out] at dv3
  clear hS hg3 q8 qf HO2 HG2 HV2 o8 f8 HA HR
  obtain rfl := HM.out
  go_wp2_with fail
  refine (draw_mk HC.out H3.out 3 (by omega) (by omega)).mono ?_
  rintro e w4 ⟨rfl, g4, hm4, hf4⟩
  have H4 := Lib.hid hm4
  have F4 := Lib.hid (F3.out.trans hf4)
  have B4 := Lib.hid (B3.out.step (a := (r + 29)) (gr_rS c.kn 3 _) (by omega))
  obtain ⟨d, hd⟩ : ∃ x, x = Lot.rV c.kn 3 (Lot.addLocal s) := ⟨_, rfl⟩
  have hdq : 0 ≤ d ∧ d < 3 := by rw [hd]; exact drV_bd _ _ _ (by omega) (by omega)
  obtain ⟨hda, hdb⟩ := hdq
  rw [← hd]
  have HD := Lib.hid hd
  clear hd
  have dv4 := H4.out.dv
  clear hm4 hf4 dv3
  go_wp2_with fail
  refine (put_v H4.out 1 (d + 1) B4.out).mono ?_
  rintro e w5 ⟨rfl, g5, hm5, hf5⟩
  have H5 := Lib.hid hm5
  have F5 := Lib.hid (F4.out.trans hf5)
  have B5 := Lib.hid (B4.out.step (a := (r + 28)) (gr_put 1 (d + 1) _) (by omega))
  have dv5 := H5.out.dv
  clear hm5 hf5 dv4
  go_wp2_with fail
  refine (put_v H5.out 3 k B5.out).mono ?_
  rintro e w6 ⟨rfl, g6, hm6, hf6⟩
  have H6 := Lib.hid hm6
  have F6 := Lib.hid (F5.out.trans hf6)
  have B6 := Lib.hid (B5.out.step (a := (r + 27)) (gr_put 3 (k : Int) _) (by omega))
  have dv6 := H6.out.dv
  clear hm6 hf6 dv5
  go_wp2_with fail
  refine (put_v H6.out 0 0 B6.out).mono ?_
  rintro e w7 ⟨rfl, g7, hm7, hf7⟩
  have H7 := Lib.hid hm7
  have F7 := Lib.hid (F6.out.trans hf7)
  have B7 := Lib.hid (B6.out.step (a := (r + 26)) (gr_put 0 0 _) (by omega))
  have dv7 := H7.out.dv
  clear hm7 hf7 dv6
  obtain ⟨fr, hfr⟩ : ∃ x, x = (Lot.put 3 (k : Int) (Lot.put 1 (d + 1) (Lot.rS c.kn 3 (Lot.addLocal s)))).code.length := ⟨_, rfl⟩
  rw [← hfr]
  have HFR := Lib.hid hfr
  clear hfr
  go_wp2_with fail
  refine (HFN.out _ _ w7 H7.out (B7.out.less (by omega))).mono ?_
  rintro e w8 ⟨rfl, g8, hm8, hf8⟩
  have H8 := Lib.hid hm8
  have F8 := Lib.hid (F7.out.trans hf8)
  have B8 := Lib.hid (B7.out.step (a := 26) (HGR.out _) (by omega))
  have dv8 := H8.out.dv
  clear hm8 hf8 dv7
  go_wp2_with fail
  refine (put_v H8.out 2 k B8.out).mono ?_
  rintro e w9 ⟨rfl, g9, hm9, hf9⟩
  have H9 := Lib.hid hm9
  have F9 := Lib.hid (F8.out.trans hf9)
  have B9 := Lib.hid (B8.out.step (a := 25) (gr_put 2 (k : Int) _) (by omega))
  have dv9 := H9.out.dv
  clear hm9 hf9 dv8
  go_wp2_with fail
  refine (put_v H9.out 1 1 B9.out).mono ?_
  rintro e w10 ⟨rfl, g10, hm10, hf10⟩
  have H10 := Lib.hid hm10
  have F10 := Lib.hid (F9.out.trans hf10)
  have B10 := Lib.hid (B9.out.step (a := 24) (gr_put 1 1 _) (by omega))
  have dv10 := H10.out.dv
  clear hm10 hf10 dv9
  go_wp2_with fail
  refine (put_v H10.out 7 0 B10.out).mono ?_
  rintro e w11 ⟨rfl, g11, hm11, hf11⟩
  have H11 := Lib.hid hm11
  have F11 := Lib.hid (F10.out.trans hf11)
  have B11 := Lib.hid (B10.out.step (a := 23) (gr_put 7 0 _) (by omega))
  have dv11 := H11.out.dv
  clear hm11 hf11 dv10
  go_wp2_with fail
  refine (put_v H11.out 5 0 B11.out).mono ?_
  rintro e w12 ⟨rfl, g12, hm12, hf12⟩
  have H12 := Lib.hid hm12
  have F12 := Lib.hid (F11.out.trans hf12)
  have B12 := Lib.hid (B11.out.step (a := 22) (gr_put 5 0 _) (by omega))
  have dv12 := H12.out.dv
  clear hm12 hf12 dv11
  go_wp2_with fail
  refine (put_v H12.out 3 k B12.out).mono ?_
  rintro e w13 ⟨rfl, g13, hm13, hf13⟩
  have H13 := Lib.hid hm13
  have F13 := Lib.hid (F12.out.trans hf13)
  have B13 := Lib.hid (B12.out.step (a := 21) (gr_put 3 (k : Int) _) (by omega))
  have dv13 := H13.out.dv
  clear hm13 hf13 dv12
  go_wp2_with fail
  refine (put_v H13.out 1 0 B13.out).mono ?_
  rintro e w14 ⟨rfl, g14, hm14, hf14⟩
  have H14 := Lib.hid hm14
  have F14 := Lib.hid (F13.out.trans hf14)
  have B14 := Lib.hid (B13.out.step (a := 20) (gr_put 1 0 _) (by omega))
  have dv14 := H14.out.dv
  clear hm14 hf14 dv13
  go_wp2_with fail
  refine (put_v H14.out 12 0 B14.out).mono ?_
  rintro e w15 ⟨rfl, g15, hm15, hf15⟩
  have H15 := Lib.hid hm15
  have F15 := Lib.hid (F14.out.trans hf15)
  have B15 := Lib.hid (B14.out.step (a := 19) (gr_put 12 0 _) (by omega))
  have dv15 := H15.out.dv
  clear hm15 hf15 dv14
  go_wp2_with fail
  refine (put_v H15.out 14 0 B15.out).mono ?_
  rintro e w16 ⟨rfl, g16, hm16, hf16⟩
  have H16 := Lib.hid hm16
  have F16 := Lib.hid (F15.out.trans hf16)
  have B16 := Lib.hid (B15.out.step (a := 18) (gr_put 14 0 _) (by omega))
  have dv16 := H16.out.dv
  clear hm16 hf16 dv15
  go_wp2_with fail
  refine (put_v H16.out 2 k B16.out).mono ?_
  rintro e w17 ⟨rfl, g17, hm17, hf17⟩
  have H17 := Lib.hid hm17
  have F17 := Lib.hid (F16.out.trans hf17)
  have B17 := Lib.hid (B16.out.step (a := 17) (gr_put 2 (k : Int) _) (by omega))
  have dv17 := H17.out.dv
  clear hm17 hf17 dv16
  go_wp2_with fail
  refine (put_v H17.out 8 0 B17.out).mono ?_
  rintro e w18 ⟨rfl, g18, hm18, hf18⟩
  have H18 := Lib.hid hm18
  have F18 := Lib.hid (F17.out.trans hf18)
  have B18 := Lib.hid (B17.out.step (a := 16) (gr_put 8 0 _) (by omega))
  have dv18 := H18.out.dv
  clear hm18 hf18 dv17
  go_wp2_with fail
  refine (put_v H18.out 22 fr B18.out).mono ?_
  rintro e w19 ⟨rfl, g19, hm19, hf19⟩
  have H19 := Lib.hid hm19
  have F19 := Lib.hid (F18.out.trans hf19)
  have B19 := Lib.hid (B18.out.step (a := 15) (gr_put 22 (fr : Int) _) (by omega))
  have dv19 := H19.out.dv
  clear hm19 hf19 dv18
  go_wp2_with fail
  go_end0
  obtain rfl := HD.out
  obtain rfl := HK.out
  have e : Lot.loop c.kn f s = Lot.loopTail (Lot.slots c.kn s).length fr (f (Lot.loopHead c.kn (Lot.slots c.kn s).length (Lot.addLocal s))) := by
    rw [Lot.loop]
    congr 1
    rw [Lot.loopHead, put_len, HFR.out]
    rfl
  exact ⟨rfl, g19, by rw [e]; exact H19.out, F19.out⟩
end Go.Proofs.Ythaniobijkdnoaa
