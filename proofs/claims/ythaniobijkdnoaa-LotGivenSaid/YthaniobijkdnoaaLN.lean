/- A maker's statements that have no others within. Conditions: rows that are not too long. -/
import Derived.Test.YthaniobijkdnoaaLK
namespace Go.Proofs.Ythaniobijkdnoaa
open Go.RowKit

theorem call23_mk {c : Cx} {s : St} {g : Gh} {w : World} (hc : CxOk c) (h : MK c s g w) (hb : Bd 1000 s) : Calls Try.prog 46 #[.pointer (some ⟨c.M, 0, none⟩), .int .i64 23] w (MP c (Lot.call c.kn 23 s) g w (.tuple #[])) := by
  cases hi : (Lot.callee c.kn s).inner with
  | true =>
    have e : Lot.call c.kn 23 s = Lot.rS c.kn c.kn.all.length s := by rw [Lot.call, if_pos (by rw [Lot.bars, hi]; rfl)]
    rw [e]
    exact call_barred23 hc h hb hi
  | false =>
    have e : Lot.call c.kn 23 s = Lot.drops c.kn (Lot.callee c.kn s).results.reverse (Lot.put 23 (Lot.rV c.kn c.kn.all.length s) (Lot.values c.kn (Lot.callee c.kn s).params (Lot.rS c.kn c.kn.all.length s))) := by rw [Lot.call, if_neg (by rw [Lot.bars, hi]; simp), if_neg (by decide)]
    rw [e]
    exact call_go23 hc h hb hi
theorem call24_mk {c : Cx} {s : St} {g : Gh} {w : World} (hc : CxOk c) (h : MK c s g w) (hb : Bd 1000 s) : Calls Try.prog 46 #[.pointer (some ⟨c.M, 0, none⟩), .int .i64 24] w (MP c (Lot.call c.kn 24 s) g w (.tuple #[])) := by
  cases hi : (Lot.callee c.kn s).inner with
  | true =>
    cases he : (Lot.callee c.kn s).outer == c.kn.results with
    | false =>
      have e : Lot.call c.kn 24 s = Lot.rS c.kn c.kn.all.length s := by rw [Lot.call, if_pos (by rw [Lot.bars, hi, he]; rfl)]
      rw [e]
      exact call_barred24 hc h hb ⟨hi, he⟩
    | true =>
      have e : Lot.call c.kn 24 s = Lot.put 24 (Lot.rV c.kn c.kn.all.length s) (Lot.values c.kn (Lot.callee c.kn s).params (Lot.rS c.kn c.kn.all.length s)) := by rw [Lot.call, if_neg (by rw [Lot.bars, hi, he]; decide), if_pos rfl]
      rw [e]
      exact call_go24i hc h hb ⟨hi, he⟩
  | false =>
    have e : Lot.call c.kn 24 s = Lot.put 24 (Lot.rV c.kn c.kn.all.length s) (Lot.values c.kn (Lot.callee c.kn s).params (Lot.rS c.kn c.kn.all.length s)) := by rw [Lot.call, if_neg (by rw [Lot.bars, hi]; simp), if_pos rfl]
    rw [e]
    exact call_go24 hc h hb hi
theorem getD_mem {l : List Int} {i : Nat} (h : i < l.length) : l.getD i 0 ∈ l := by
  rw [List.getD_eq_getElem?_getD, List.getElem?_eq_getElem h]
  exact List.getElem_mem h
theorem MK.oc {c : Cx} {s : St} {g : Gh} {w : World} (h : MK c s g w) : w.cell? ⟨c.M, 5, none⟩ = some c.vo := cell_of h.m 5
set_option maxRecDepth 100000 in
set_option maxHeartbeats 4000000 in
theorem recover_mk {c : Cx} {s : St} {g : Gh} {w : World}  (hc : CxOk c) (h : MK c s g w) (hb : Bd 3 s) :
    Calls Try.prog 47 #[.pointer (some ⟨c.M, 0, none⟩)] w (MP c (Lot.recover s) g w (.tuple #[])) := by
  have H0 := Lib.hid h
  have F0 := Lib.hid (Fr.refl c g w)
  have B0 := Lib.hid hb
  have HC := Lib.hid hc
  have dv0 := h.dv
  clear h hb hc
  go_enter Try.func47, Try.ntmps47
  go_wp2_with fail
  refine (put_v H0.out 27 0 B0.out).mono ?_
  rintro e w1 ⟨rfl, g1, hm1, hf1⟩
  have H1 := Lib.hid hm1
  have F1 := Lib.hid (F0.out.trans hf1)
  have B1 := Lib.hid (B0.out.step (a := 2) (gr_put 27 0 _) (by omega))
  have dv1 := H1.out.dv
  clear hm1 hf1 dv0
  go_wp2_with fail
  refine (put_v H1.out 30 0 B1.out).mono ?_
  rintro e w2 ⟨rfl, g2, hm2, hf2⟩
  have H2 := Lib.hid hm2
  have F2 := Lib.hid (F1.out.trans hf2)
  have B2 := Lib.hid (B1.out.step (a := 1) (gr_put 30 0 _) (by omega))
  have dv2 := H2.out.dv
  clear hm2 hf2 dv1
  go_wp2_with fail
  refine (put_v H2.out 30 0 B2.out).mono ?_
  rintro e w3 ⟨rfl, g3, hm3, hf3⟩
  have H3 := Lib.hid hm3
  have F3 := Lib.hid (F2.out.trans hf3)
  have dv3 := H3.out.dv
  clear hm3 hf3 dv2
  go_wp2_with fail
  go_end0
  exact ⟨rfl, g3, H3.out, F3.out⟩
set_option maxRecDepth 100000 in
set_option maxHeartbeats 4000000 in
theorem outer_mk {c : Cx} {s : St} {g : Gh} {w : World}  (hc : CxOk c) (h : MK c s g w) (hb : Bd 20 s) :
    Calls Try.prog 48 #[.pointer (some ⟨c.M, 0, none⟩)] w (MP c (Lot.outer c.kn s) g w (.tuple #[])) := by
  have H0 := Lib.hid h
  have F0 := Lib.hid (Fr.refl c g w)
  have B0 := Lib.hid hb
  have HC := Lib.hid hc
  have dv0 := h.dv
  clear h hb hc
  have oc0 := H0.out.oc
  have ho := HC.out.vo w H0.out.ch
  obtain ⟨ao, co, hvo, -⟩ := id ho
  have hlo := HC.out.lo
  rw [hvo] at oc0
  have HVO := Lib.hid hvo
  obtain ⟨n, hn⟩ : ∃ n, n = c.kn.outer.length := ⟨_, rfl⟩
  have HN := Lib.hid hn
  rw [← hn] at oc0 hlo
  clear ho hvo hn
  by_cases hn0 : n = 0
  · have hq : ((n : Int) == 0) = true := by simp; omega
    have hnil : c.kn.outer = [] := List.eq_nil_of_length_eq_zero (by rw [← HN.out]; exact hn0)
    have HNIL := Lib.hid hnil
    subst hn0
    clear hnil
    go_enter Try.func48, Try.ntmps48
    go_wp2_with fail
    go_end0
    exact ⟨rfl, g, by rw [Lot.outer, if_pos HNIL.out]; exact H0.out, F0.out⟩
  · have hq : ((n : Int) == 0) = false := by simp; omega
    have HNIL : Hid (c.kn.outer ≠ []) := Lib.hid (by intro e; have h := HN.out; rw [e] at h; exact hn0 h)
    have hn1 : 1 ≤ n := by omega
    clear hn0
    go_enter Try.func48, Try.ntmps48
    go_upto_region 1 with fail
    go_cut [2] from 11 to 21 (fun s2 wx => ∃ (q : Nat) (g1 : Gh), s2 = .int .i64 q ∧ q < n ∧ Hid ((q : Int) = Lot.rV c.kn c.kn.outer.length s) ∧ Hid (MK c (Lot.rS c.kn c.kn.outer.length s) g1 wx) ∧ Hid (Fr c g g1 w wx))
    case first =>
      go_region_held3 (fun W => W.cell? ⟨c.M, 0, none⟩ = some (.func (.func 20) #[] #[.pointer (some ⟨c.Bd, 0, none⟩), .pointer (some ⟨c.Bl, 0, none⟩)]) ∧ W.cell? ⟨c.M, 5, none⟩ = some (.slice ao n co)) (first | exact ⟨dv0, oc0⟩ | exact ⟨H1.out.dv, by have h := H1.out.oc; rw [HVO.out, ← HN.out] at h; exact h⟩ | go_keep)
        ((go_at_call 20; refine (draw_mk HC.out (H0.out.bel (by repeat (first | with_reducible exact Below.refl _ _ | with_reducible refine Below.drew ?_ | with_reducible refine Below.drewN ?_ _))) (n : Int) (by omega) (by omega)).mono ?_; rintro e w1 ⟨rfl, g1, hm1, hf1⟩; have H1 := Lib.hid hm1; have F1 := Lib.hid (F0.out.trans ((Fr.of_bel (c := c) (g := g) (by repeat (first | with_reducible exact Below.refl _ _ | with_reducible refine Below.drew ?_ | with_reducible refine Below.drewN ?_ _))).trans hf1)); clear hm1 hf1))
      all_goals
        go_wp2_with fail
        go_meet
        have hbd := drV_bd c.kn.ws s.pos (n : Int) (by omega) (by omega)
        have hbd' : 0 ≤ Lot.rV c.kn n s ∧ Lot.rV c.kn n s < n := hbd
        refine ⟨(Lot.rV c.kn n s).toNat, g1, congrArg (Value.int .i64) (Int.toNat_of_nonneg hbd'.1).symm, by omega, ?_, ?_, F1.out⟩
        · show _ = _
          rw [← HN.out]
          exact Int.toNat_of_nonneg hbd'.1
        · have h := H1.out
          rw [HN.out] at h
          exact h
    case rest =>
      obtain ⟨q, g1, rfl, hqn, HQ, H1, F1⟩ := hcut
      have B1 := Lib.hid (B0.out.step (a := 20) (gr_rS c.kn c.kn.outer.length s) (by omega))
      have hq0 : (0 : Int) ≤ (q : Int) := by omega
      have hq1 : (q : Int) < (n : Int) := by omega
      have hql : q < c.kn.outer.length := by rw [← HN.out]; exact hqn
      have hiv := HC.out.vo wc H1.out.ch
      rw [HVO.out] at hiv
      obtain ⟨b, off, cap5, he, hcr, _, hb, hcc⟩ := hiv.addr (by omega)
      simp only [Value.slice.injEq] at he
      obtain ⟨hao, -, hco⟩ := he
      have oc1 := H1.out.oc
      rw [HVO.out, ← HN.out, hao] at oc1
      have hcell := hcc q hql
      obtain ⟨t, ht⟩ : ∃ t, t = c.kn.outer.getD q 0 := ⟨_, rfl⟩
      have htq : c.kn.outer[q] = t := by rw [ht, List.getD_eq_getElem?_getD, List.getElem?_eq_getElem hql]; rfl
      rw [htq] at hcell
      have htt : t = 1 ∨ t = 2 := by rw [ht]; exact HC.out.tyo _ (getD_mem hql)
      have HT : Hid (c.kn.outer.getD (Lot.rV c.kn c.kn.outer.length s).toNat 0 = t) := Lib.hid (by rw [← HQ.out, Int.toNat_natCast, ht])
      rw [← hco, ← HN.out] at hcr
      have dv1 := H1.out.dv
      clear hcc ht htq hao hco hb dv0 oc0
      go_wp2_with fail
      refine (draw_mk HC.out H1.out 2 (by omega) (by omega)).mono ?_
      rintro e w2 ⟨rfl, g2, hm2, hf2⟩
      have H2 := Lib.hid hm2
      have F2 := Lib.hid (F1.out.trans hf2)
      have B2 := Lib.hid (B1.out.step (a := 20) (gr_rS c.kn 2 _) (by omega))
      obtain ⟨d, hd⟩ : ∃ x, x = Lot.rV c.kn 2 (Lot.rS c.kn c.kn.outer.length s) := ⟨_, rfl⟩
      have hdq : 0 ≤ d ∧ d < 2 := by rw [hd]; exact drV_bd _ _ _ (by omega) (by omega)
      obtain ⟨hda, hdb⟩ := hdq
      rw [← hd]
      have HD := Lib.hid hd
      clear hd
      have dv2 := H2.out.dv
      clear hm2 hf2 dv1
      clear oc1 hcell
      rcases (show d = 0 ∨ d = 1 by omega) with hd | hd
      · have HD' : Hid (Lot.rV c.kn 2 (Lot.rS c.kn c.kn.outer.length s) = 0) := HD.out.symm.trans hd
        subst hd
        go_wp2_with fail
        refine (put_v H2.out 28 q B2.out).mono ?_
        rintro e w3 ⟨rfl, g3, hm3, hf3⟩
        have H3 := Lib.hid hm3
        have F3 := Lib.hid (F2.out.trans hf3)
        have B3 := Lib.hid (B2.out.step (a := 10) (gr_put 28 q _) (by omega))
        have dv3 := H3.out.dv
        clear hm3 hf3 dv2
        go_wp2_with fail
        refine (drop_mk t HC.out H3.out (B3.out.less (by omega))).mono ?_
        rintro e w4 ⟨rfl, g4, hm4, hf4⟩
        have H4 := Lib.hid hm4
        have F4 := Lib.hid (F3.out.trans hf4)
        have dv4 := H4.out.dv
        clear hm4 hf4 dv3
        go_wp2_with fail
        go_end0
        exact ⟨rfl, g4, by rw [Lot.outer, if_neg HNIL.out, if_pos HD'.out, HT.out, ← HQ.out]; exact H4.out, F4.out⟩
      · have HD' : Hid (Lot.rV c.kn 2 (Lot.rS c.kn c.kn.outer.length s) = 1) := HD.out.symm.trans hd
        subst hd
        go_wp2_with fail
        refine (val1_mk HC.out H2.out (B2.out.less (by omega)) t htt).mono ?_
        rintro e w3 ⟨rfl, g3, hm3, hf3⟩
        have H3 := Lib.hid hm3
        have F3 := Lib.hid (F2.out.trans hf3)
        have B3 := Lib.hid (B2.out.step (a := 10) (gr_value c.kn 1 t _) (by simp only [vc]; omega))
        have dv3 := H3.out.dv
        clear hm3 hf3 dv2
        go_wp2_with fail
        refine (put_v H3.out 29 q B3.out).mono ?_
        rintro e w4 ⟨rfl, g4, hm4, hf4⟩
        have H4 := Lib.hid hm4
        have F4 := Lib.hid (F3.out.trans hf4)
        have dv4 := H4.out.dv
        clear hm4 hf4 dv3
        go_wp2_with fail
        go_end0
        exact ⟨rfl, g4, by rw [Lot.outer, if_neg HNIL.out, if_neg (by rw [HD'.out]; decide), HT.out, ← HQ.out]; exact H4.out, F4.out⟩
end Go.Proofs.Ythaniobijkdnoaa
