/- A maker puts a number, and a value. Conditions: rows that are not too long. -/
import Derived.Test.YthaniobijkdnoaaLG
namespace Go.Proofs.Ythaniobijkdnoaa
open Go.RowKit

/-- a number, values below it by V -/
def numS (c : Kn) (V : Int → St → St) (s : St) : St :=
  if Lot.rV c 8 s = 0 then Lot.leaf c 1 (Lot.rS c 8 s) else if Lot.rV c 8 s = 1 then Lot.put 32 0 (Lot.rS c 8 s) else if Lot.rV c 8 s = 2 then Lot.put2 c 19 0 2 (V 2 (Lot.rS c 8 s)) else if Lot.rV c 8 s = 3 then Lot.putN c (V 1 (Lot.rS c 8 s))
  else Lot.putB c (V 1 (V 1 (Lot.rS c 8 s)))
def valS (c : Kn) (V : Int → St → St) (t : Int) (s : St) : St :=
  if Lot.rV c 2 s = 0 then Lot.leaf c t (Lot.rS c 2 s) else if Lot.rV c 2 (Lot.rS c 2 s) = 0 then Lot.put 15 0 (V 1 (V 1 (Lot.rS c 2 (Lot.rS c 2 s)))) else Lot.put2 c 16 0 3 (V t (V t (Lot.rS c 2 (Lot.rS c 2 s))))
theorem value_num (c : Kn) (n : Nat) (s : St) : Lot.value c (n + 1) 1 s = numS c (Lot.value c n) s := by
  rw [Lot.value, if_pos rfl]; rfl
theorem value_val (c : Kn) (n : Nat) (s : St) : Lot.value c (n + 1) 2 s = valS c (Lot.value c n) 2 s := by
  rw [Lot.value, if_neg (by decide)]; rfl
def vc : Nat → Nat
  | 0 => 3
  | n + 1 => 2 * vc n + 1
theorem gr_put2 (c : Kn) (o n b : Int) (s : St) : Gr 1 s (Lot.put2 c o n b s) := (gr_rS _ _ _).trans (gr_put _ _ _)
theorem gr_putN (c : Kn) (s : St) : Gr 1 s (Lot.putN c s) := (gr_rS _ _ _).trans (gr_put _ _ _)
theorem gr_putB (c : Kn) (s : St) : Gr 1 s (Lot.putB c s) := (gr_rS _ _ _).trans (gr_put _ _ _)
theorem vc_le (n : Nat) : 3 ≤ vc n := by
  induction n with
  | zero => exact Nat.le_refl _
  | succ n ih => rw [vc]; omega
theorem gr_num (c : Kn) (V : Int → St → St) (r : Nat) (h3 : 3 ≤ r) (hV : ∀ t s, Gr r s (V t s)) (s : St) : Gr (2 * r + 1) s (numS c V s) := by
  unfold numS
  split
  · exact ((gr_rS _ _ _).trans (gr_leaf _ _ _)).more (by omega)
  · split
    · exact ((gr_rS _ _ _).trans (gr_put _ _ _)).more (by omega)
    · split
      · exact ((gr_rS _ _ _).trans ((hV _ _).trans (gr_put2 _ _ _ _ _))).more (by omega)
      · split
        · exact ((gr_rS _ _ _).trans ((hV _ _).trans (gr_putN _ _))).more (by omega)
        · exact ((gr_rS _ _ _).trans ((hV _ _).trans ((hV _ _).trans (gr_putB _ _)))).more (by omega)
theorem gr_val (c : Kn) (V : Int → St → St) (r : Nat) (h3 : 3 ≤ r) (hV : ∀ t s, Gr r s (V t s)) (t : Int) (s : St) : Gr (2 * r + 1) s (valS c V t s) := by
  unfold valS
  split
  · exact ((gr_rS _ _ _).trans (gr_leaf _ _ _)).more (by omega)
  · split
    · exact ((gr_rS _ _ _).trans ((gr_rS _ _ _).trans ((hV _ _).trans ((hV _ _).trans (gr_put _ _ _))))).more (by omega)
    · exact ((gr_rS _ _ _).trans ((gr_rS _ _ _).trans ((hV _ _).trans ((hV _ _).trans (gr_put2 _ _ _ _ _))))).more (by omega)
theorem gr_value (c : Kn) (n : Nat) : ∀ (t : Int) (s : St), Gr (vc n) s (Lot.value c n t s) := by
  induction n with
  | zero =>
    intro t s
    rw [Lot.value]
    split
    · exact (gr_rS _ _ _).trans (gr_leaf _ _ _)
    · exact gr_leaf _ _ _
  | succ n ih =>
    intro t s
    rw [Lot.value]
    split
    · exact gr_num c (Lot.value c n) (vc n) (vc_le n) ih s
    · exact gr_val c (Lot.value c n) (vc n) (vc_le n) ih t s

set_option maxRecDepth 100000 in
set_option maxHeartbeats 4000000 in
theorem number_pos {c : Cx} {s : St} {g : Gh} {w : World} (V : Int → St → St) (r : Nat) (hr : 3 ≤ r) (hr2 : r ≤ 10000) (hV : ∀ t s, Gr r s (V t s)) (n : Int) (h1 : 1 ≤ n) (h2 : n ≤ 1000) (HV : Hid (∀ s g w t, (t = 1 ∨ t = 2) → MK c s g w → Bd r s → Calls Try.prog 45 #[.pointer (some ⟨c.M, 0, none⟩), .int .i64 t, .int .i64 (n - 1)] w (MP c (V t s) g w (.tuple #[])))) (hc : CxOk c) (h : MK c s g w) (hb : Bd (2 * r + 1) s) :
    Calls Try.prog 34 #[.pointer (some ⟨c.M, 0, none⟩), .int .i64 n] w (MP c (numS c.kn V s) g w (.tuple #[])) := by
  have H0 := Lib.hid h
  have F0 := Lib.hid (Fr.refl c g w)
  have B0 := Lib.hid hb
  have HC := Lib.hid hc
  have dv0 := h.dv
  clear h hb hc
  have HVG := Lib.hid hV
  clear hV
  go_enter Try.func34, Try.ntmps34
  go_wp2_with fail
  refine (draw_mk HC.out H0.out 8 (by omega) (by omega)).mono ?_
  rintro e w1 ⟨rfl, g1, hm1, hf1⟩
  have H1 := Lib.hid hm1
  have F1 := Lib.hid (F0.out.trans hf1)
  have B1 := Lib.hid (B0.out.step (a := (2 * r + 1)) (gr_rS c.kn 8 _) (by omega))
  obtain ⟨k, hk⟩ : ∃ x, x = Lot.rV c.kn 8 s := ⟨_, rfl⟩
  have hkq : 0 ≤ k ∧ k < 8 := by rw [hk]; exact drV_bd _ _ _ (by omega) (by omega)
  obtain ⟨hka, hkb⟩ := hkq
  rw [← hk]
  have HK := Lib.hid hk
  clear hk
  have dv1 := H1.out.dv
  clear hm1 hf1 dv0
  have hn0 : ¬ n ≤ 0 := by omega
  rcases (show k = 0 ∨ k = 1 ∨ k = 2 ∨ k = 3 ∨ 4 ≤ k by omega) with hk | hk | hk | hk | hk
  · have HK' : Hid (Lot.rV c.kn 8 s = 0) := HK.out.symm.trans hk
    subst hk
    go_wp2_with fail
    refine (leaf_mk 1 (.inl rfl) HC.out H1.out (B1.out.less (by omega))).mono ?_
    rintro e w2 ⟨rfl, g2, hm2, hf2⟩
    have H2 := Lib.hid hm2
    have F2 := Lib.hid (F1.out.trans hf2)
    have dv2 := H2.out.dv
    clear hm2 hf2 dv1
    go_wp2_with fail
    go_end0
    exact ⟨rfl, g2, by rw [numS, if_pos HK'.out]; exact H2.out, F2.out⟩
  · have HK' : Hid (Lot.rV c.kn 8 s = 1) := HK.out.symm.trans hk
    subst hk
    go_wp2_with fail
    refine (put_v H1.out 32 0 B1.out).mono ?_
    rintro e w2 ⟨rfl, g2, hm2, hf2⟩
    have H2 := Lib.hid hm2
    have F2 := Lib.hid (F1.out.trans hf2)
    have dv2 := H2.out.dv
    clear hm2 hf2 dv1
    go_wp2_with fail
    go_end0
    exact ⟨rfl, g2, by rw [numS, if_neg (by rw [HK'.out]; decide), if_pos HK'.out]; exact H2.out, F2.out⟩
  · have HK' : Hid (Lot.rV c.kn 8 s = 2) := HK.out.symm.trans hk
    subst hk
    go_wp2_with fail
    refine (HV.out _ _ w1 2 (.inr rfl) H1.out (B1.out.less (by omega))).mono ?_
    rintro e w2 ⟨rfl, g2, hm2, hf2⟩
    have H2 := Lib.hid hm2
    have F2 := Lib.hid (F1.out.trans hf2)
    have B2 := Lib.hid (B1.out.step (a := (r + 1)) (HVG.out 2 _) (by omega))
    have dv2 := H2.out.dv
    clear hm2 hf2 dv1
    go_wp2_with fail
    refine (draw_mk HC.out H2.out 2 (by omega) (by omega)).mono ?_
    rintro e w3 ⟨rfl, g3, hm3, hf3⟩
    have H3 := Lib.hid hm3
    have F3 := Lib.hid (F2.out.trans hf3)
    have B3 := Lib.hid (B2.out.step (a := (r + 1)) (gr_rS c.kn 2 _) (by omega))
    obtain ⟨d, hd⟩ : ∃ x, x = Lot.rV c.kn 2 (V 2 (Lot.rS c.kn 8 s)) := ⟨_, rfl⟩
    have hdq : 0 ≤ d ∧ d < 2 := by rw [hd]; exact drV_bd _ _ _ (by omega) (by omega)
    obtain ⟨hda, hdb⟩ := hdq
    rw [← hd]
    have HD := Lib.hid hd
    clear hd
    have dv3 := H3.out.dv
    clear hm3 hf3 dv2
    go_wp2_with fail
    refine (put_v H3.out (19 + d) 0 B3.out).mono ?_
    rintro e w4 ⟨rfl, g4, hm4, hf4⟩
    have H4 := Lib.hid hm4
    have F4 := Lib.hid (F3.out.trans hf4)
    have dv4 := H4.out.dv
    clear hm4 hf4 dv3
    go_wp2_with fail
    go_end0
    obtain rfl := HD.out
    exact ⟨rfl, g4, by rw [numS, if_neg (by rw [HK'.out]; decide), if_neg (by rw [HK'.out]; decide), if_pos HK'.out]; exact H4.out, F4.out⟩
  · have HK' : Hid (Lot.rV c.kn 8 s = 3) := HK.out.symm.trans hk
    subst hk
    go_wp2_with fail
    refine (HV.out _ _ w1 1 (.inl rfl) H1.out (B1.out.less (by omega))).mono ?_
    rintro e w2 ⟨rfl, g2, hm2, hf2⟩
    have H2 := Lib.hid hm2
    have F2 := Lib.hid (F1.out.trans hf2)
    have B2 := Lib.hid (B1.out.step (a := (r + 1)) (HVG.out 1 _) (by omega))
    have dv2 := H2.out.dv
    clear hm2 hf2 dv1
    have HA : Hid (MK c (V 1 (Lot.rS c.kn 8 s)) g2 (w2.alloc (.cells #[.int .i64 11, .int .i64 14] 63))) := H2.out.bel ((Below.refl _ _).alloc (Nat.le_refl _) _)
    have FA := Lib.hid (F2.out.trans (Fr.of_bel (c := c) (g := g2) (w := w2) (w' := w2.alloc (.cells #[.int .i64 11, .int .i64 14] 63)) ((Below.refl _ _).alloc (Nat.le_refl _) _)))
    have dvA := HA.out.dv
    go_wp2_with fail
    refine (draw_mk HC.out HA.out 2 (by omega) (by omega)).mono ?_
    rintro e w3 ⟨rfl, g3, hm3, hf3⟩
    have H3 := Lib.hid hm3
    have F3 := Lib.hid (FA.out.trans hf3)
    have B3 := Lib.hid (B2.out.step (a := 1) (gr_rS c.kn 2 _) (by omega))
    obtain ⟨d, hd⟩ : ∃ x, x = Lot.rV c.kn 2 (V 1 (Lot.rS c.kn 8 s)) := ⟨_, rfl⟩
    have hdq : 0 ≤ d ∧ d < 2 := by rw [hd]; exact drV_bd _ _ _ (by omega) (by omega)
    rw [← hd]
    obtain ⟨q, rfl⟩ : ∃ q : Nat, d = q := ⟨d.toNat, by omega⟩
    have hqn : q < 2 := by omega
    have hq0 : (0 : Int) ≤ (q : Int) := by omega
    have hq1 : (q : Int) < 2 := by omega
    have hblk : w3.heap[w2.heap.size]? = some (.cells #[.int .i64 11, .int .i64 14] 63 (0, 0)) := ((HA.out.kept hf3 (k := w2.heap.size) (by simp) (fun ho => by have := H2.out.lt _ ho; omega)).1).trans (heap_new _ _)
    obtain ⟨o, ho⟩ : ∃ o, o = ([11, 14] : List Int).getD q 0 := ⟨_, rfl⟩
    have hcell : w3.cell? ⟨w2.heap.size, q, none⟩ = some (.int .i64 o) := by
      rw [cell_of hblk, ho]
      have hqq : q = 0 ∨ q = 1 := by omega
      rcases hqq with rfl | rfl <;> rfl
    have HD : Hid (([11, 14] : List Int).getD (Lot.rV c.kn 2 (V 1 (Lot.rS c.kn 8 s))).toNat 0 = o) := by show _ = _; rw [← hd, ho]; rfl
    have dv3 := H3.out.dv
    clear hm3 hf3 dv2 dvA hdq hd hblk ho
    go_wp2_with fail
    refine (put_v H3.out o 0 B3.out).mono ?_
    rintro e w4 ⟨rfl, g4, hm4, hf4⟩
    have H4 := Lib.hid hm4
    have F4 := Lib.hid (F3.out.trans hf4)
    have dv4 := H4.out.dv
    clear hm4 hf4 dv3
    go_wp2_with fail
    go_end0
    exact ⟨rfl, g4, by rw [numS, if_neg (by rw [HK'.out]; decide), if_neg (by rw [HK'.out]; decide), if_neg (by rw [HK'.out]; decide), if_pos HK'.out, Lot.putN, HD.out]; exact H4.out, F4.out⟩
  · have HK' := Lib.hid hk
    have hk0 : (k == 0) = false := by simp; omega
    have hk1 : (k == 1) = false := by simp; omega
    have hk2 : (k == 2) = false := by simp; omega
    have hk3 : (k == 3) = false := by simp; omega
    go_wp2_with fail
    refine (HV.out _ _ w1 1 (.inl rfl) H1.out (B1.out.less (by omega))).mono ?_
    rintro e w2 ⟨rfl, g2, hm2, hf2⟩
    have H2 := Lib.hid hm2
    have F2 := Lib.hid (F1.out.trans hf2)
    have B2 := Lib.hid (B1.out.step (a := (r + 1)) (HVG.out 1 _) (by omega))
    have dv2 := H2.out.dv
    clear hm2 hf2 dv1
    go_wp2_with fail
    refine (HV.out _ _ w2 1 (.inl rfl) H2.out (B2.out.less (by omega))).mono ?_
    rintro e w3 ⟨rfl, g3, hm3, hf3⟩
    have H3 := Lib.hid hm3
    have F3 := Lib.hid (F2.out.trans hf3)
    have B3 := Lib.hid (B2.out.step (a := 1) (HVG.out 1 _) (by omega))
    have dv3 := H3.out.dv
    clear hm3 hf3 dv2
    have HA : Hid (MK c (V 1 (V 1 (Lot.rS c.kn 8 s))) g3 (w3.alloc (.cells #[.int .i64 6, .int .i64 7, .int .i64 8, .int .i64 9, .int .i64 10, .int .i64 12, .int .i64 13] 63))) := H3.out.bel ((Below.refl _ _).alloc (Nat.le_refl _) _)
    have FA := Lib.hid (F3.out.trans (Fr.of_bel (c := c) (g := g3) (w := w3) (w' := w3.alloc (.cells #[.int .i64 6, .int .i64 7, .int .i64 8, .int .i64 9, .int .i64 10, .int .i64 12, .int .i64 13] 63)) ((Below.refl _ _).alloc (Nat.le_refl _) _)))
    have dvA := HA.out.dv
    go_wp2_with fail
    refine (draw_mk HC.out HA.out 7 (by omega) (by omega)).mono ?_
    rintro e w4 ⟨rfl, g4, hm4, hf4⟩
    have H4 := Lib.hid hm4
    have F4 := Lib.hid (FA.out.trans hf4)
    have B4 := Lib.hid (B3.out.step (a := 1) (gr_rS c.kn 7 _) (by omega))
    obtain ⟨d, hd⟩ : ∃ x, x = Lot.rV c.kn 7 (V 1 (V 1 (Lot.rS c.kn 8 s))) := ⟨_, rfl⟩
    have hdq : 0 ≤ d ∧ d < 7 := by rw [hd]; exact drV_bd _ _ _ (by omega) (by omega)
    rw [← hd]
    obtain ⟨q, rfl⟩ : ∃ q : Nat, d = q := ⟨d.toNat, by omega⟩
    have hqn : q < 7 := by omega
    have hq0 : (0 : Int) ≤ (q : Int) := by omega
    have hq1 : (q : Int) < 7 := by omega
    have hblk : w4.heap[w3.heap.size]? = some (.cells #[.int .i64 6, .int .i64 7, .int .i64 8, .int .i64 9, .int .i64 10, .int .i64 12, .int .i64 13] 63 (0, 0)) := ((HA.out.kept hf4 (k := w3.heap.size) (by simp) (fun ho => by have := H3.out.lt _ ho; omega)).1).trans (heap_new _ _)
    obtain ⟨o, ho⟩ : ∃ o, o = Lot.ops7.getD q 0 := ⟨_, rfl⟩
    have hcell : w4.cell? ⟨w3.heap.size, q, none⟩ = some (.int .i64 o) := by
      rw [cell_of hblk, ho]
      have hqq : q = 0 ∨ q = 1 ∨ q = 2 ∨ q = 3 ∨ q = 4 ∨ q = 5 ∨ q = 6 := by omega
      rcases hqq with rfl | rfl | rfl | rfl | rfl | rfl | rfl <;> rfl
    have HD : Hid (Lot.ops7.getD (Lot.rV c.kn 7 (V 1 (V 1 (Lot.rS c.kn 8 s)))).toNat 0 = o) := by show _ = _; rw [← hd, ho]; rfl
    have dv4 := H4.out.dv
    clear hm4 hf4 dv3 dvA hdq hd hblk ho
    go_wp2_with fail
    refine (put_v H4.out o 0 B4.out).mono ?_
    rintro e w5 ⟨rfl, g5, hm5, hf5⟩
    have H5 := Lib.hid hm5
    have F5 := Lib.hid (F4.out.trans hf5)
    have dv5 := H5.out.dv
    clear hm5 hf5 dv4
    go_wp2_with fail
    go_end0
    exact ⟨rfl, g5, by rw [numS, if_neg (by rw [← HK.out]; have := HK'.out; omega), if_neg (by rw [← HK.out]; have := HK'.out; omega), if_neg (by rw [← HK.out]; have := HK'.out; omega), if_neg (by rw [← HK.out]; have := HK'.out; omega), Lot.putB, HD.out]; exact H5.out, F5.out⟩
set_option maxRecDepth 100000 in
set_option maxHeartbeats 4000000 in
theorem number_zero {c : Cx} {s : St} {g : Gh} {w : World}  (hc : CxOk c) (h : MK c s g w) (hb : Bd 3 s) :
    Calls Try.prog 34 #[.pointer (some ⟨c.M, 0, none⟩), .int .i64 0] w (MP c (Lot.value c.kn 0 1 s) g w (.tuple #[])) := by
  have H0 := Lib.hid h
  have F0 := Lib.hid (Fr.refl c g w)
  have B0 := Lib.hid hb
  have HC := Lib.hid hc
  have dv0 := h.dv
  clear h hb hc
  go_enter Try.func34, Try.ntmps34
  go_wp2_with fail
  refine (draw_mk HC.out H0.out 8 (by omega) (by omega)).mono ?_
  rintro e w1 ⟨rfl, g1, hm1, hf1⟩
  have H1 := Lib.hid hm1
  have F1 := Lib.hid (F0.out.trans hf1)
  have B1 := Lib.hid (B0.out.step (a := 3) (gr_rS c.kn 8 _) (by omega))
  obtain ⟨k, hk⟩ : ∃ x, x = Lot.rV c.kn 8 s := ⟨_, rfl⟩
  have hkq : 0 ≤ k ∧ k < 8 := by rw [hk]; exact drV_bd _ _ _ (by omega) (by omega)
  obtain ⟨hka, hkb⟩ := hkq
  rw [← hk]
  have HK := Lib.hid hk
  clear hk
  have dv1 := H1.out.dv
  clear hm1 hf1 dv0
  go_wp2_with fail
  refine (leaf_mk 1 (.inl rfl) HC.out H1.out B1.out).mono ?_
  rintro e w2 ⟨rfl, g2, hm2, hf2⟩
  have H2 := Lib.hid hm2
  have F2 := Lib.hid (F1.out.trans hf2)
  have dv2 := H2.out.dv
  clear hm2 hf2 dv1
  go_wp2_with fail
  go_end0
  exact ⟨rfl, g2, by rw [Lot.value, if_pos rfl]; exact H2.out, F2.out⟩
theorem value_one {c : Cx} {s : St} {g : Gh} {w : World} (n : Int) (st : St) (H34 : Hid (Calls Try.prog 34 #[.pointer (some ⟨c.M, 0, none⟩), .int .i64 n] w (MP c st g w (.tuple #[])))) :
    Calls Try.prog 45 #[.pointer (some ⟨c.M, 0, none⟩), .int .i64 1, .int .i64 n] w (MP c st g w (.tuple #[])) := by
  go_enter Try.func45, Try.ntmps45
  go_wp2_with fail
  refine H34.out.mono ?_
  rintro e w1 ⟨rfl, g1, hm1, hf1⟩
  have H1 := Lib.hid hm1
  have F1 := Lib.hid hf1
  clear hm1 hf1
  go_wp2_with fail
  go_end0
  exact ⟨rfl, g1, H1.out, F1.out⟩
set_option maxRecDepth 100000 in
set_option maxHeartbeats 4000000 in
theorem value_zero2 {c : Cx} {s : St} {g : Gh} {w : World}  (hc : CxOk c) (h : MK c s g w) (hb : Bd 3 s) :
    Calls Try.prog 45 #[.pointer (some ⟨c.M, 0, none⟩), .int .i64 2, .int .i64 0] w (MP c (Lot.value c.kn 0 2 s) g w (.tuple #[])) := by
  have H0 := Lib.hid h
  have F0 := Lib.hid (Fr.refl c g w)
  have B0 := Lib.hid hb
  have HC := Lib.hid hc
  have dv0 := h.dv
  clear h hb hc
  go_enter Try.func45, Try.ntmps45
  go_wp2_with fail
  refine (leaf_mk 2 (.inr rfl) HC.out H0.out B0.out).mono ?_
  rintro e w1 ⟨rfl, g1, hm1, hf1⟩
  have H1 := Lib.hid hm1
  have F1 := Lib.hid (F0.out.trans hf1)
  have dv1 := H1.out.dv
  clear hm1 hf1 dv0
  go_wp2_with fail
  go_end0
  exact ⟨rfl, g1, by rw [Lot.value, if_neg (by decide)]; exact H1.out, F1.out⟩
set_option maxRecDepth 100000 in
set_option maxHeartbeats 4000000 in
theorem value_pos2 {c : Cx} {s : St} {g : Gh} {w : World} (V : Int → St → St) (r : Nat) (hr : 3 ≤ r) (hr2 : r ≤ 10000) (hV : ∀ t s, Gr r s (V t s)) (n : Int) (h1 : 1 ≤ n) (h2 : n ≤ 1000) (HV : Hid (∀ s g w t, (t = 1 ∨ t = 2) → MK c s g w → Bd r s → Calls Try.prog 45 #[.pointer (some ⟨c.M, 0, none⟩), .int .i64 t, .int .i64 (n - 1)] w (MP c (V t s) g w (.tuple #[])))) (hc : CxOk c) (h : MK c s g w) (hb : Bd (2 * r + 1) s) :
    Calls Try.prog 45 #[.pointer (some ⟨c.M, 0, none⟩), .int .i64 2, .int .i64 n] w (MP c (valS c.kn V 2 s) g w (.tuple #[])) := by
  have H0 := Lib.hid h
  have F0 := Lib.hid (Fr.refl c g w)
  have B0 := Lib.hid hb
  have HC := Lib.hid hc
  have dv0 := h.dv
  clear h hb hc
  have HVG := Lib.hid hV
  clear hV
  go_enter Try.func45, Try.ntmps45
  have hn0 : ¬ n ≤ 0 := by omega
  go_wp2_with fail
  refine (draw_mk HC.out H0.out 2 (by omega) (by omega)).mono ?_
  rintro e w1 ⟨rfl, g1, hm1, hf1⟩
  have H1 := Lib.hid hm1
  have F1 := Lib.hid (F0.out.trans hf1)
  have B1 := Lib.hid (B0.out.step (a := (2 * r + 1)) (gr_rS c.kn 2 _) (by omega))
  obtain ⟨k, hk⟩ : ∃ x, x = Lot.rV c.kn 2 s := ⟨_, rfl⟩
  have hkq : 0 ≤ k ∧ k < 2 := by rw [hk]; exact drV_bd _ _ _ (by omega) (by omega)
  obtain ⟨hka, hkb⟩ := hkq
  rw [← hk]
  have HK := Lib.hid hk
  clear hk
  have dv1 := H1.out.dv
  clear hm1 hf1 dv0
  rcases (show k = 0 ∨ k = 1 by omega) with hk | hk
  · have HK' : Hid (Lot.rV c.kn 2 s = 0) := HK.out.symm.trans hk
    subst hk
    go_wp2_with fail
    refine (leaf_mk 2 (.inr rfl) HC.out H1.out (B1.out.less (by omega))).mono ?_
    rintro e w2 ⟨rfl, g2, hm2, hf2⟩
    have H2 := Lib.hid hm2
    have F2 := Lib.hid (F1.out.trans hf2)
    have dv2 := H2.out.dv
    clear hm2 hf2 dv1
    go_wp2_with fail
    go_end0
    exact ⟨rfl, g2, by rw [valS, if_pos HK'.out]; exact H2.out, F2.out⟩
  · have HK' : Hid (Lot.rV c.kn 2 s = 1) := HK.out.symm.trans hk
    subst hk
    go_wp2_with fail
    refine (draw_mk HC.out H1.out 2 (by omega) (by omega)).mono ?_
    rintro e w2 ⟨rfl, g2, hm2, hf2⟩
    have H2 := Lib.hid hm2
    have F2 := Lib.hid (F1.out.trans hf2)
    have B2 := Lib.hid (B1.out.step (a := (2 * r + 1)) (gr_rS c.kn 2 _) (by omega))
    obtain ⟨k2, hk2⟩ : ∃ x, x = Lot.rV c.kn 2 (Lot.rS c.kn 2 s) := ⟨_, rfl⟩
    have hk2q : 0 ≤ k2 ∧ k2 < 2 := by rw [hk2]; exact drV_bd _ _ _ (by omega) (by omega)
    obtain ⟨hk2a, hk2b⟩ := hk2q
    rw [← hk2]
    have HK2 := Lib.hid hk2
    clear hk2
    have dv2 := H2.out.dv
    clear hm2 hf2 dv1
    rcases (show k2 = 0 ∨ k2 = 1 by omega) with hk | hk
    · have HK2' : Hid (Lot.rV c.kn 2 (Lot.rS c.kn 2 s) = 0) := HK2.out.symm.trans hk
      subst hk
      go_wp2_with fail
      refine (HV.out _ _ w2 1 (.inl rfl) H2.out (B2.out.less (by omega))).mono ?_
      rintro e w3 ⟨rfl, g3, hm3, hf3⟩
      have H3 := Lib.hid hm3
      have F3 := Lib.hid (F2.out.trans hf3)
      have B3 := Lib.hid (B2.out.step (a := (r + 1)) (HVG.out 1 _) (by omega))
      have dv3 := H3.out.dv
      clear hm3 hf3 dv2
      go_wp2_with fail
      refine (HV.out _ _ w3 1 (.inl rfl) H3.out (B3.out.less (by omega))).mono ?_
      rintro e w4 ⟨rfl, g4, hm4, hf4⟩
      have H4 := Lib.hid hm4
      have F4 := Lib.hid (F3.out.trans hf4)
      have B4 := Lib.hid (B3.out.step (a := 1) (HVG.out 1 _) (by omega))
      have dv4 := H4.out.dv
      clear hm4 hf4 dv3
      go_wp2_with fail
      refine (put_v H4.out 15 0 B4.out).mono ?_
      rintro e w5 ⟨rfl, g5, hm5, hf5⟩
      have H5 := Lib.hid hm5
      have F5 := Lib.hid (F4.out.trans hf5)
      have dv5 := H5.out.dv
      clear hm5 hf5 dv4
      go_wp2_with fail
      go_end0
      exact ⟨rfl, g5, by rw [valS, if_neg (by rw [HK'.out]; decide), if_pos HK2'.out]; exact H5.out, F5.out⟩
    · have HK2' : Hid (Lot.rV c.kn 2 (Lot.rS c.kn 2 s) = 1) := HK2.out.symm.trans hk
      subst hk
      go_wp2_with fail
      refine (HV.out _ _ w2 2 (.inr rfl) H2.out (B2.out.less (by omega))).mono ?_
      rintro e w3 ⟨rfl, g3, hm3, hf3⟩
      have H3 := Lib.hid hm3
      have F3 := Lib.hid (F2.out.trans hf3)
      have B3 := Lib.hid (B2.out.step (a := (r + 1)) (HVG.out 2 _) (by omega))
      have dv3 := H3.out.dv
      clear hm3 hf3 dv2
      go_wp2_with fail
      refine (HV.out _ _ w3 2 (.inr rfl) H3.out (B3.out.less (by omega))).mono ?_
      rintro e w4 ⟨rfl, g4, hm4, hf4⟩
      have H4 := Lib.hid hm4
      have F4 := Lib.hid (F3.out.trans hf4)
      have B4 := Lib.hid (B3.out.step (a := 1) (HVG.out 2 _) (by omega))
      have dv4 := H4.out.dv
      clear hm4 hf4 dv3
      go_wp2_with fail
      refine (draw_mk HC.out H4.out 3 (by omega) (by omega)).mono ?_
      rintro e w5 ⟨rfl, g5, hm5, hf5⟩
      have H5 := Lib.hid hm5
      have F5 := Lib.hid (F4.out.trans hf5)
      have B5 := Lib.hid (B4.out.step (a := 1) (gr_rS c.kn 3 _) (by omega))
      obtain ⟨d, hd⟩ : ∃ x, x = Lot.rV c.kn 3 (V 2 (V 2 (Lot.rS c.kn 2 (Lot.rS c.kn 2 s)))) := ⟨_, rfl⟩
      have hdq : 0 ≤ d ∧ d < 3 := by rw [hd]; exact drV_bd _ _ _ (by omega) (by omega)
      obtain ⟨hda, hdb⟩ := hdq
      rw [← hd]
      have HD := Lib.hid hd
      clear hd
      have dv5 := H5.out.dv
      clear hm5 hf5 dv4
      go_wp2_with fail
      refine (put_v H5.out (16 + d) 0 B5.out).mono ?_
      rintro e w6 ⟨rfl, g6, hm6, hf6⟩
      have H6 := Lib.hid hm6
      have F6 := Lib.hid (F5.out.trans hf6)
      have dv6 := H6.out.dv
      clear hm6 hf6 dv5
      go_wp2_with fail
      go_end0
      obtain rfl := HD.out
      exact ⟨rfl, g6, by rw [valS, if_neg (by rw [HK'.out]; decide), if_neg (by rw [HK2'.out]; decide)]; exact H6.out, F6.out⟩

/-- a number, and a value of a type -/
theorem value_all {c : Cx} (hc : CxOk c) (n : Nat) (hn : n ≤ 9) : ∀ (s : St) (g : Gh) (w : World), MK c s g w → Bd (vc n) s →
    Calls Try.prog 34 #[.pointer (some ⟨c.M, 0, none⟩), .int .i64 n] w (MP c (Lot.value c.kn n 1 s) g w (.tuple #[])) ∧
    ∀ t, t = 1 ∨ t = 2 → Calls Try.prog 45 #[.pointer (some ⟨c.M, 0, none⟩), .int .i64 t, .int .i64 n] w (MP c (Lot.value c.kn n t s) g w (.tuple #[])) := by
  induction n with
  | zero =>
    intro s g w h hb
    have h1 : Calls Try.prog 34 #[.pointer (some ⟨c.M, 0, none⟩), .int .i64 ((0 : Nat) : Int)] w (MP c (Lot.value c.kn 0 1 s) g w (.tuple #[])) := number_zero hc h hb
    refine ⟨h1, fun t ht => ?_⟩
    rcases ht with rfl | rfl
    · exact value_one (s := s) _ _ h1
    · exact value_zero2 hc h hb
  | succ n ih =>
    intro s g w h hb
    have hvc : vc n ≤ 10000 := by
      have : ∀ k, k ≤ 9 → vc k ≤ 10000 := by decide
      exact this n (by omega)
    have HV : Hid (∀ s g w t, (t = 1 ∨ t = 2) → MK c s g w → Bd (vc n) s → Calls Try.prog 45 #[.pointer (some ⟨c.M, 0, none⟩), .int .i64 t, .int .i64 (((n + 1 : Nat) : Int) - 1)] w (MP c (Lot.value c.kn n t s) g w (.tuple #[]))) := by
      rw [show ((n + 1 : Nat) : Int) - 1 = (n : Int) by omega]
      exact fun s g w t ht h hb => (ih (by omega) s g w h hb).2 t ht
    have h1 := number_pos (Lot.value c.kn n) (vc n) (vc_le n) hvc (gr_value c.kn n) ((n + 1 : Nat) : Int) (by omega) (by omega) HV hc h hb
    rw [← value_num] at h1
    refine ⟨h1, fun t ht => ?_⟩
    rcases ht with rfl | rfl
    · exact value_one (s := s) _ _ h1
    · have h2 := value_pos2 (Lot.value c.kn n) (vc n) (vc_le n) hvc (gr_value c.kn n) ((n + 1 : Nat) : Int) (by omega) (by omega) HV hc h hb
      rw [← value_val] at h2
      exact h2
theorem num1_mk {c : Cx} {s : St} {g : Gh} {w : World} (hc : CxOk c) (h : MK c s g w) (hb : Bd 7 s) : Calls Try.prog 34 #[.pointer (some ⟨c.M, 0, none⟩), .int .i64 1] w (MP c (Lot.value c.kn 1 1 s) g w (.tuple #[])) := (value_all hc 1 (by omega) s g w h hb).1
theorem num2_mk {c : Cx} {s : St} {g : Gh} {w : World} (hc : CxOk c) (h : MK c s g w) (hb : Bd 15 s) : Calls Try.prog 34 #[.pointer (some ⟨c.M, 0, none⟩), .int .i64 2] w (MP c (Lot.value c.kn 2 1 s) g w (.tuple #[])) := (value_all hc 2 (by omega) s g w h hb).1
theorem val1_mk {c : Cx} {s : St} {g : Gh} {w : World} (hc : CxOk c) (h : MK c s g w) (hb : Bd 7 s) (t : Int) (ht : t = 1 ∨ t = 2) : Calls Try.prog 45 #[.pointer (some ⟨c.M, 0, none⟩), .int .i64 t, .int .i64 1] w (MP c (Lot.value c.kn 1 t s) g w (.tuple #[])) := (value_all hc 1 (by omega) s g w h hb).2 t ht
theorem val2_mk {c : Cx} {s : St} {g : Gh} {w : World} (hc : CxOk c) (h : MK c s g w) (hb : Bd 15 s) (t : Int) (ht : t = 1 ∨ t = 2) : Calls Try.prog 45 #[.pointer (some ⟨c.M, 0, none⟩), .int .i64 t, .int .i64 2] w (MP c (Lot.value c.kn 2 t s) g w (.tuple #[])) := (value_all hc 2 (by omega) s g w h hb).2 t ht
end Go.Proofs.Ythaniobijkdnoaa
