/- Calls by cases: the operands, the call itself, what it leaves. Conditions: rows that are not too long. -/
import Derived.Test.YthaniobijkdnoaaLJ

namespace Go.Proofs.Ythaniobijkdnoaa
open Go.RowKit

set_option maxRecDepth 100000 in
set_option maxHeartbeats 8000000 in
theorem call_go24 {c : Cx} {s : St} {g : Gh} {w : World} (hc : CxOk c) (h : MK c s g w) (hb : Bd 1000 s) (hex : (Lot.callee c.kn s).inner = false) :
    Calls Try.prog 46 #[.pointer (some ⟨c.M, 0, none⟩), .int .i64 24] w (MP c (Lot.put 24 (Lot.rV c.kn c.kn.all.length s) (Lot.values c.kn (Lot.callee c.kn s).params (Lot.rS c.kn c.kn.all.length s))) g w (.tuple #[])) := by
  have H0 := Lib.hid h
  have F0 := Lib.hid (Fr.refl c g w)
  have B0 := Lib.hid hb
  have HC := Lib.hid hc
  have dv0 := h.dv
  have av0 := h.av
  clear h hb hc
  obtain ⟨ab, aoff, acap, hav, hac1, hac2, hAt⟩ := HC.out.hd
  have ha1 := HC.out.a1
  have ha2 := HC.out.a2
  rw [hav] at av0
  have HAV := Lib.hid hav
  have HAT := Lib.hid hAt
  obtain ⟨n, hn⟩ : ∃ n, n = c.kn.all.length := ⟨_, rfl⟩
  have HN := Lib.hid hn
  have HEE := Lib.hid hex
  rw [← hn] at av0 hac1 ha1 ha2
  simp only [maxLen] at hac2
  clear hav hAt hn hex
  go_enter Try.func46, Try.ntmps46
  go_upto_region 0 with fail
  go_cut [4] from 7 to 16 (fun s4 wx => ∃ (q : Nat) (g1 : Gh), s4 = .int .i64 q ∧ q < n ∧ Hid ((q : Int) = Lot.rV c.kn c.kn.all.length s) ∧ Hid (MK c (Lot.rS c.kn c.kn.all.length s) g1 wx) ∧ Hid (Fr c g g1 w wx))
  case first =>
    go_region_held3 (fun W => W.cell? ⟨c.M, 0, none⟩ = some (.func (.func 20) #[] #[.pointer (some ⟨c.Bd, 0, none⟩), .pointer (some ⟨c.Bl, 0, none⟩)]) ∧ W.cell? ⟨c.M, 1, none⟩ = some (.slice (some ⟨ab, aoff, none⟩) n acap)) (first | exact ⟨dv0, av0⟩ | exact ⟨H1.out.dv, by have h := H1.out.av; rw [HAV.out, ← HN.out] at h; exact h⟩ | go_keep)
      ((go_at_call 20; refine (draw_mk HC.out (H0.out.bel (by repeat (first | with_reducible exact Below.refl _ _ | with_reducible refine Below.drew ?_ | with_reducible refine Below.drewN ?_ _))) (n : Int) (by omega) (by omega)).mono ?_; rintro e w1 ⟨rfl, g1, hm1, hf1⟩; have H1 := Lib.hid hm1; have F1 := Lib.hid (F0.out.trans ((Fr.of_bel (c := c) (g := g) (by repeat (first | with_reducible exact Below.refl _ _ | with_reducible refine Below.drew ?_ | with_reducible refine Below.drewN ?_ _))).trans hf1)); clear hm1 hf1))
    all_goals
      go_wp2_with fail
      go_meet
      have hbd := drV_bd c.kn.ws s.pos (n : Int) (by omega) (by omega)
      have hbd' : 0 ≤ Lot.rV c.kn n s ∧ Lot.rV c.kn n s < n := hbd
      refine ⟨(Lot.rV c.kn n s).toNat, g1, congrArg (Value.int .i64) (Int.toNat_of_nonneg hbd'.1).symm, by omega, ?_, ?_, F1.out⟩
      · show _ = _
        rw [← HN.out]
        exact Int.toNat_of_nonneg hbd'.1
      · have h := H1.out
        rw [HN.out] at h
        exact h
  case rest =>
    obtain ⟨q, g1, rfl, hqn, HQ, H1, F1⟩ := hcut
    have B1 := Lib.hid (B0.out.step (a := 1000) (gr_rS c.kn c.kn.all.length s) (by omega))
    have hq0 : (0 : Int) ≤ (q : Int) := by omega
    have hq1 : (q : Int) < (n : Int) := by omega
    obtain ⟨ao, co, ap, cp, ar, cr, al, nl, cl, HX⟩ := HAT.out q (by rw [← HN.out]; exact hqn)
    obtain ⟨⟨hlt1, x0, x1, x2, x3, x4, x5, x6, x7, x8, x9, x10⟩, -, -, -⟩ := HX wc H1.out.ch
    have HXX := Lib.hid HX
    have hex : Lot.callee c.kn s = c.kn.all.getD q default := by
      rw [Lot.callee, ← HQ.out, Int.toNat_natCast]
    have HE := Lib.hid hex
    have hok := HC.out.at_ (c.kn.all.getD q default) (by
      rw [List.getD_eq_getElem?_getD, List.getElem?_eq_getElem (by rw [← HN.out]; exact hqn)]
      exact List.getElem_mem _)
    obtain ⟨okp, okr, lp8, lr8, lo8⟩ := hok
    have OKP := Lib.hid okp
    have OKR := Lib.hid okr
    obtain ⟨x, hx⟩ : ∃ x, x = c.kn.all.getD q default := ⟨_, rfl⟩
    rw [← hx] at x0 x1 x2 x3 x4 HXX HE OKP OKR lp8 lr8 lo8
    obtain ⟨nm, hnm⟩ : ∃ y, y = x.name := ⟨_, rfl⟩
    obtain ⟨no, hno⟩ : ∃ y, y = x.outer.length := ⟨_, rfl⟩
    obtain ⟨np, hnp⟩ : ∃ y, y = x.params.length := ⟨_, rfl⟩
    obtain ⟨nr, hnr⟩ : ∃ y, y = x.results.length := ⟨_, rfl⟩
    have HNO := Lib.hid hno
    have HNP := Lib.hid hnp
    have HNR := Lib.hid hnr
    rw [← hnm] at x0
    rw [← hno] at x2 lo8
    rw [← hnp] at x3 lp8
    rw [← hnr] at x4 lr8
    have av1 := H1.out.av
    rw [HAV.out, ← HN.out] at av1
    have dv1 := H1.out.dv
    clear HX hex okp okr hx hnm hno hnp hnr dv0 av0
    have hin : x.inner = false := by rw [← HE.out]; exact HEE.out
    rw [hin] at x1
    go_wp2_with fail
    go_quiet (fail)
    have HZ : Hid (MK c (Lot.rS c.kn c.kn.all.length s) g1 ((wc.alloc (.cells #[.string nm, .bool false, .slice ao no co, .slice ap np cp, .slice ar nr cr, .slice al nl cl, .slice none 0 0, .slice none 0 0, .slice none 0 0, .slice none 0 0, .slice none 0 0] 34)).drewN nq)) := H1.out.bel (Below.drewN ((Below.refl _ _).alloc (Nat.le_refl _) _) _)
    have FZ := Lib.hid (F1.out.trans (Fr.of_bel (c := c) (g := g1) (w := wc) (w' := (wc.alloc (.cells #[.string nm, .bool false, .slice ao no co, .slice ap np cp, .slice ar nr cr, .slice al nl cl, .slice none 0 0, .slice none 0 0, .slice none 0 0, .slice none 0 0, .slice none 0 0] 34)).drewN nq) (Below.drewN ((Below.refl _ _).alloc (Nat.le_refl _) _) _)))
    have XZ : Hid (((wc.alloc (.cells #[.string nm, .bool false, .slice ao no co, .slice ap np cp, .slice ar nr cr, .slice al nl cl, .slice none 0 0, .slice none 0 0, .slice none 0 0, .slice none 0 0, .slice none 0 0] 34)).drewN nq).heap[wc.heap.size]? = some (.cells #[.string nm, .bool false, .slice ao no co, .slice ap np cp, .slice ar nr cr, .slice al nl cl, .slice none 0 0, .slice none 0 0, .slice none 0 0, .slice none 0 0, .slice none 0 0] 34 (0, 0))) := heap_new wc _
    have NZ : Hid (¬ Own c g1 wc.heap.size) := fun ho => by have := H1.out.lt _ ho; omega
    generalize wc.heap.size = XB at *
    generalize (wc.alloc (.cells #[.string nm, .bool false, .slice ao no co, .slice ap np cp, .slice ar nr cr, .slice al nl cl, .slice none 0 0, .slice none 0 0, .slice none 0 0, .slice none 0 0, .slice none 0 0] 34)).drewN nq = wz at *
    have x3z : wz.cell? ⟨XB, 3, none⟩ = some (.slice ap np cp) := cell_of XZ.out 3
    clear x0 x1 x2 x3 x4 x5 x6 x7 x8 x9 x10 av1 dv1
    go_wp2_with fail
    have h72 := values_mk x.params ap cp (fun W hW => (HXX.out W hW).2.2.1) (by have := HNP.out; omega) OKP.out HC.out HZ.out (B1.out.less (by have := HNP.out; omega))
    rw [← HNP.out] at h72
    refine h72.mono ?_
    rintro e w3 ⟨rfl, g3, hm3, hf3⟩
    have H3 := Lib.hid hm3
    have F3 := Lib.hid (FZ.out.trans hf3)
    have B3 := Lib.hid (B1.out.step (a := 100) (gr_values c.kn x.params _) (by have := HNP.out; omega))
    have X3 : Hid (w3.heap[XB]? = some (.cells #[.string nm, .bool false, .slice ao no co, .slice ap np cp, .slice ar nr cr, .slice al nl cl, .slice none 0 0, .slice none 0 0, .slice none 0 0, .slice none 0 0, .slice none 0 0] 34 (0, 0))) := ((HZ.out.kept hf3 (heap_lt XZ.out) NZ.out).1).trans XZ.out
    have N3 : Hid (¬ Own c g3 XB) := (HZ.out.kept hf3 (heap_lt XZ.out) NZ.out).2
    clear hm3 hf3 x3z h72
    go_wp2_with fail
    refine (put_v H3.out 24 q B3.out).mono ?_
    rintro e w4 ⟨rfl, g4, hm4, hf4⟩
    have H4 := Lib.hid hm4
    have F4 := Lib.hid (F3.out.trans hf4)
    have X4 : Hid (w4.heap[XB]? = some (.cells #[.string nm, .bool false, .slice ao no co, .slice ap np cp, .slice ar nr cr, .slice al nl cl, .slice none 0 0, .slice none 0 0, .slice none 0 0, .slice none 0 0, .slice none 0 0] 34 (0, 0))) := ((H3.out.kept hf4 (heap_lt X3.out) N3.out).1).trans X3.out
    have N4 : Hid (¬ Own c g4 XB) := (H3.out.kept hf4 (heap_lt X3.out) N3.out).2
    clear hm4 hf4
    go_wp2_with fail
    go_end0
    exact ⟨rfl, g4, by rw [HE.out, ← HQ.out]; exact H4.out, F4.out⟩
end Go.Proofs.Ythaniobijkdnoaa

namespace Go.Proofs.Ythaniobijkdnoaa
open Go.RowKit

set_option maxRecDepth 100000 in
set_option maxHeartbeats 8000000 in
theorem call_go24i {c : Cx} {s : St} {g : Gh} {w : World} (hc : CxOk c) (h : MK c s g w) (hb : Bd 1000 s) (hex : (Lot.callee c.kn s).inner = true ∧ ((Lot.callee c.kn s).outer == c.kn.results) = true) :
    Calls Try.prog 46 #[.pointer (some ⟨c.M, 0, none⟩), .int .i64 24] w (MP c (Lot.put 24 (Lot.rV c.kn c.kn.all.length s) (Lot.values c.kn (Lot.callee c.kn s).params (Lot.rS c.kn c.kn.all.length s))) g w (.tuple #[])) := by
  have H0 := Lib.hid h
  have F0 := Lib.hid (Fr.refl c g w)
  have B0 := Lib.hid hb
  have HC := Lib.hid hc
  have dv0 := h.dv
  have av0 := h.av
  clear h hb hc
  obtain ⟨ab, aoff, acap, hav, hac1, hac2, hAt⟩ := HC.out.hd
  have ha1 := HC.out.a1
  have ha2 := HC.out.a2
  rw [hav] at av0
  have HAV := Lib.hid hav
  have HAT := Lib.hid hAt
  obtain ⟨n, hn⟩ : ∃ n, n = c.kn.all.length := ⟨_, rfl⟩
  have HN := Lib.hid hn
  have HEE := Lib.hid hex
  rw [← hn] at av0 hac1 ha1 ha2
  simp only [maxLen] at hac2
  clear hav hAt hn hex
  go_enter Try.func46, Try.ntmps46
  go_upto_region 0 with fail
  go_cut [4] from 7 to 16 (fun s4 wx => ∃ (q : Nat) (g1 : Gh), s4 = .int .i64 q ∧ q < n ∧ Hid ((q : Int) = Lot.rV c.kn c.kn.all.length s) ∧ Hid (MK c (Lot.rS c.kn c.kn.all.length s) g1 wx) ∧ Hid (Fr c g g1 w wx))
  case first =>
    go_region_held3 (fun W => W.cell? ⟨c.M, 0, none⟩ = some (.func (.func 20) #[] #[.pointer (some ⟨c.Bd, 0, none⟩), .pointer (some ⟨c.Bl, 0, none⟩)]) ∧ W.cell? ⟨c.M, 1, none⟩ = some (.slice (some ⟨ab, aoff, none⟩) n acap)) (first | exact ⟨dv0, av0⟩ | exact ⟨H1.out.dv, by have h := H1.out.av; rw [HAV.out, ← HN.out] at h; exact h⟩ | go_keep)
      ((go_at_call 20; refine (draw_mk HC.out (H0.out.bel (by repeat (first | with_reducible exact Below.refl _ _ | with_reducible refine Below.drew ?_ | with_reducible refine Below.drewN ?_ _))) (n : Int) (by omega) (by omega)).mono ?_; rintro e w1 ⟨rfl, g1, hm1, hf1⟩; have H1 := Lib.hid hm1; have F1 := Lib.hid (F0.out.trans ((Fr.of_bel (c := c) (g := g) (by repeat (first | with_reducible exact Below.refl _ _ | with_reducible refine Below.drew ?_ | with_reducible refine Below.drewN ?_ _))).trans hf1)); clear hm1 hf1))
    all_goals
      go_wp2_with fail
      go_meet
      have hbd := drV_bd c.kn.ws s.pos (n : Int) (by omega) (by omega)
      have hbd' : 0 ≤ Lot.rV c.kn n s ∧ Lot.rV c.kn n s < n := hbd
      refine ⟨(Lot.rV c.kn n s).toNat, g1, congrArg (Value.int .i64) (Int.toNat_of_nonneg hbd'.1).symm, by omega, ?_, ?_, F1.out⟩
      · show _ = _
        rw [← HN.out]
        exact Int.toNat_of_nonneg hbd'.1
      · have h := H1.out
        rw [HN.out] at h
        exact h
  case rest =>
    obtain ⟨q, g1, rfl, hqn, HQ, H1, F1⟩ := hcut
    have B1 := Lib.hid (B0.out.step (a := 1000) (gr_rS c.kn c.kn.all.length s) (by omega))
    have hq0 : (0 : Int) ≤ (q : Int) := by omega
    have hq1 : (q : Int) < (n : Int) := by omega
    obtain ⟨ao, co, ap, cp, ar, cr, al, nl, cl, HX⟩ := HAT.out q (by rw [← HN.out]; exact hqn)
    obtain ⟨⟨hlt1, x0, x1, x2, x3, x4, x5, x6, x7, x8, x9, x10⟩, -, -, -⟩ := HX wc H1.out.ch
    have HXX := Lib.hid HX
    have hex : Lot.callee c.kn s = c.kn.all.getD q default := by
      rw [Lot.callee, ← HQ.out, Int.toNat_natCast]
    have HE := Lib.hid hex
    have hok := HC.out.at_ (c.kn.all.getD q default) (by
      rw [List.getD_eq_getElem?_getD, List.getElem?_eq_getElem (by rw [← HN.out]; exact hqn)]
      exact List.getElem_mem _)
    obtain ⟨okp, okr, lp8, lr8, lo8⟩ := hok
    have OKP := Lib.hid okp
    have OKR := Lib.hid okr
    obtain ⟨x, hx⟩ : ∃ x, x = c.kn.all.getD q default := ⟨_, rfl⟩
    rw [← hx] at x0 x1 x2 x3 x4 HXX HE OKP OKR lp8 lr8 lo8
    obtain ⟨nm, hnm⟩ : ∃ y, y = x.name := ⟨_, rfl⟩
    obtain ⟨no, hno⟩ : ∃ y, y = x.outer.length := ⟨_, rfl⟩
    obtain ⟨np, hnp⟩ : ∃ y, y = x.params.length := ⟨_, rfl⟩
    obtain ⟨nr, hnr⟩ : ∃ y, y = x.results.length := ⟨_, rfl⟩
    have HNO := Lib.hid hno
    have HNP := Lib.hid hnp
    have HNR := Lib.hid hnr
    rw [← hnm] at x0
    rw [← hno] at x2 lo8
    rw [← hnp] at x3 lp8
    rw [← hnr] at x4 lr8
    have av1 := H1.out.av
    rw [HAV.out, ← HN.out] at av1
    have dv1 := H1.out.dv
    clear HX hex okp okr hx hnm hno hnp hnr dv0 av0
    have hin : x.inner = true := by rw [← HE.out]; exact HEE.out.1
    rw [hin] at x1
    have HQQ : Hid ((x.outer == c.kn.results) = true) := Lib.hid (by rw [← HE.out]; exact HEE.out.2)
    have rs1 := H1.out.rs
    have hMlt : c.M < wc.heap.size := heap_lt H1.out.m
    have H71 : Hid (∀ W, Below wc.heap.size wc W → Calls Try.prog 71 #[.slice ao no co, c.vr] W (Ans (.bool true) W)) := fun W hb => by
      have hch := H1.out.ch.trans (Chg.of_below hb)
      have h1 := (HXX.out W hch).2.1
      rw [← HNO.out] at h1
      have h := same71_any x.outer c.kn.results _ _ W h1 (HC.out.vr W hch) (by have := HNO.out; omega) (by have := HC.out.lr; omega)
      rw [show (x.outer == c.kn.results) = true from HQQ.out] at h
      exact h
    go_wp2_with fail
    go_quiet ((go_at_call 71; exact quiet_ans (H71.out _ (Below.drewN ((Below.refl _ _).alloc (Nat.le_refl _) _) _))))
    have HZ : Hid (MK c (Lot.rS c.kn c.kn.all.length s) g1 ((wc.alloc (.cells #[.string nm, .bool true, .slice ao no co, .slice ap np cp, .slice ar nr cr, .slice al nl cl, .slice none 0 0, .slice none 0 0, .slice none 0 0, .slice none 0 0, .slice none 0 0] 34)).drewN nq)) := H1.out.bel (Below.drewN ((Below.refl _ _).alloc (Nat.le_refl _) _) _)
    have FZ := Lib.hid (F1.out.trans (Fr.of_bel (c := c) (g := g1) (w := wc) (w' := (wc.alloc (.cells #[.string nm, .bool true, .slice ao no co, .slice ap np cp, .slice ar nr cr, .slice al nl cl, .slice none 0 0, .slice none 0 0, .slice none 0 0, .slice none 0 0, .slice none 0 0] 34)).drewN nq) (Below.drewN ((Below.refl _ _).alloc (Nat.le_refl _) _) _)))
    have XZ : Hid (((wc.alloc (.cells #[.string nm, .bool true, .slice ao no co, .slice ap np cp, .slice ar nr cr, .slice al nl cl, .slice none 0 0, .slice none 0 0, .slice none 0 0, .slice none 0 0, .slice none 0 0] 34)).drewN nq).heap[wc.heap.size]? = some (.cells #[.string nm, .bool true, .slice ao no co, .slice ap np cp, .slice ar nr cr, .slice al nl cl, .slice none 0 0, .slice none 0 0, .slice none 0 0, .slice none 0 0, .slice none 0 0] 34 (0, 0))) := heap_new wc _
    have NZ : Hid (¬ Own c g1 wc.heap.size) := fun ho => by have := H1.out.lt _ ho; omega
    generalize wc.heap.size = XB at *
    generalize (wc.alloc (.cells #[.string nm, .bool true, .slice ao no co, .slice ap np cp, .slice ar nr cr, .slice al nl cl, .slice none 0 0, .slice none 0 0, .slice none 0 0, .slice none 0 0, .slice none 0 0] 34)).drewN nq = wz at *
    have x3z : wz.cell? ⟨XB, 3, none⟩ = some (.slice ap np cp) := cell_of XZ.out 3
    clear x0 x1 x2 x3 x4 x5 x6 x7 x8 x9 x10 av1 dv1 rs1 H71 hMlt
    go_wp2_with fail
    have h72 := values_mk x.params ap cp (fun W hW => (HXX.out W hW).2.2.1) (by have := HNP.out; omega) OKP.out HC.out HZ.out (B1.out.less (by have := HNP.out; omega))
    rw [← HNP.out] at h72
    refine h72.mono ?_
    rintro e w3 ⟨rfl, g3, hm3, hf3⟩
    have H3 := Lib.hid hm3
    have F3 := Lib.hid (FZ.out.trans hf3)
    have B3 := Lib.hid (B1.out.step (a := 100) (gr_values c.kn x.params _) (by have := HNP.out; omega))
    have X3 : Hid (w3.heap[XB]? = some (.cells #[.string nm, .bool true, .slice ao no co, .slice ap np cp, .slice ar nr cr, .slice al nl cl, .slice none 0 0, .slice none 0 0, .slice none 0 0, .slice none 0 0, .slice none 0 0] 34 (0, 0))) := ((HZ.out.kept hf3 (heap_lt XZ.out) NZ.out).1).trans XZ.out
    have N3 : Hid (¬ Own c g3 XB) := (HZ.out.kept hf3 (heap_lt XZ.out) NZ.out).2
    clear hm3 hf3 x3z h72
    go_wp2_with fail
    refine (put_v H3.out 24 q B3.out).mono ?_
    rintro e w4 ⟨rfl, g4, hm4, hf4⟩
    have H4 := Lib.hid hm4
    have F4 := Lib.hid (F3.out.trans hf4)
    have X4 : Hid (w4.heap[XB]? = some (.cells #[.string nm, .bool true, .slice ao no co, .slice ap np cp, .slice ar nr cr, .slice al nl cl, .slice none 0 0, .slice none 0 0, .slice none 0 0, .slice none 0 0, .slice none 0 0] 34 (0, 0))) := ((H3.out.kept hf4 (heap_lt X3.out) N3.out).1).trans X3.out
    have N4 : Hid (¬ Own c g4 XB) := (H3.out.kept hf4 (heap_lt X3.out) N3.out).2
    clear hm4 hf4
    go_wp2_with fail
    go_end0
    exact ⟨rfl, g4, by rw [HE.out, ← HQ.out]; exact H4.out, F4.out⟩
end Go.Proofs.Ythaniobijkdnoaa

namespace Go.Proofs.Ythaniobijkdnoaa
open Go.RowKit

set_option maxRecDepth 100000 in
set_option maxHeartbeats 8000000 in
theorem call_go23 {c : Cx} {s : St} {g : Gh} {w : World} (hc : CxOk c) (h : MK c s g w) (hb : Bd 1000 s) (hex : (Lot.callee c.kn s).inner = false) :
    Calls Try.prog 46 #[.pointer (some ⟨c.M, 0, none⟩), .int .i64 23] w (MP c (Lot.drops c.kn (Lot.callee c.kn s).results.reverse (Lot.put 23 (Lot.rV c.kn c.kn.all.length s) (Lot.values c.kn (Lot.callee c.kn s).params (Lot.rS c.kn c.kn.all.length s)))) g w (.tuple #[])) := by
  have H0 := Lib.hid h
  have F0 := Lib.hid (Fr.refl c g w)
  have B0 := Lib.hid hb
  have HC := Lib.hid hc
  have dv0 := h.dv
  have av0 := h.av
  clear h hb hc
  obtain ⟨ab, aoff, acap, hav, hac1, hac2, hAt⟩ := HC.out.hd
  have ha1 := HC.out.a1
  have ha2 := HC.out.a2
  rw [hav] at av0
  have HAV := Lib.hid hav
  have HAT := Lib.hid hAt
  obtain ⟨n, hn⟩ : ∃ n, n = c.kn.all.length := ⟨_, rfl⟩
  have HN := Lib.hid hn
  have HEE := Lib.hid hex
  rw [← hn] at av0 hac1 ha1 ha2
  simp only [maxLen] at hac2
  clear hav hAt hn hex
  go_enter Try.func46, Try.ntmps46
  go_upto_region 0 with fail
  go_cut [4] from 7 to 16 (fun s4 wx => ∃ (q : Nat) (g1 : Gh), s4 = .int .i64 q ∧ q < n ∧ Hid ((q : Int) = Lot.rV c.kn c.kn.all.length s) ∧ Hid (MK c (Lot.rS c.kn c.kn.all.length s) g1 wx) ∧ Hid (Fr c g g1 w wx))
  case first =>
    go_region_held3 (fun W => W.cell? ⟨c.M, 0, none⟩ = some (.func (.func 20) #[] #[.pointer (some ⟨c.Bd, 0, none⟩), .pointer (some ⟨c.Bl, 0, none⟩)]) ∧ W.cell? ⟨c.M, 1, none⟩ = some (.slice (some ⟨ab, aoff, none⟩) n acap)) (first | exact ⟨dv0, av0⟩ | exact ⟨H1.out.dv, by have h := H1.out.av; rw [HAV.out, ← HN.out] at h; exact h⟩ | go_keep)
      ((go_at_call 20; refine (draw_mk HC.out (H0.out.bel (by repeat (first | with_reducible exact Below.refl _ _ | with_reducible refine Below.drew ?_ | with_reducible refine Below.drewN ?_ _))) (n : Int) (by omega) (by omega)).mono ?_; rintro e w1 ⟨rfl, g1, hm1, hf1⟩; have H1 := Lib.hid hm1; have F1 := Lib.hid (F0.out.trans ((Fr.of_bel (c := c) (g := g) (by repeat (first | with_reducible exact Below.refl _ _ | with_reducible refine Below.drew ?_ | with_reducible refine Below.drewN ?_ _))).trans hf1)); clear hm1 hf1))
    all_goals
      go_wp2_with fail
      go_meet
      have hbd := drV_bd c.kn.ws s.pos (n : Int) (by omega) (by omega)
      have hbd' : 0 ≤ Lot.rV c.kn n s ∧ Lot.rV c.kn n s < n := hbd
      refine ⟨(Lot.rV c.kn n s).toNat, g1, congrArg (Value.int .i64) (Int.toNat_of_nonneg hbd'.1).symm, by omega, ?_, ?_, F1.out⟩
      · show _ = _
        rw [← HN.out]
        exact Int.toNat_of_nonneg hbd'.1
      · have h := H1.out
        rw [HN.out] at h
        exact h
  case rest =>
    obtain ⟨q, g1, rfl, hqn, HQ, H1, F1⟩ := hcut
    have B1 := Lib.hid (B0.out.step (a := 1000) (gr_rS c.kn c.kn.all.length s) (by omega))
    have hq0 : (0 : Int) ≤ (q : Int) := by omega
    have hq1 : (q : Int) < (n : Int) := by omega
    obtain ⟨ao, co, ap, cp, ar, cr, al, nl, cl, HX⟩ := HAT.out q (by rw [← HN.out]; exact hqn)
    obtain ⟨⟨hlt1, x0, x1, x2, x3, x4, x5, x6, x7, x8, x9, x10⟩, -, -, -⟩ := HX wc H1.out.ch
    have HXX := Lib.hid HX
    have hex : Lot.callee c.kn s = c.kn.all.getD q default := by
      rw [Lot.callee, ← HQ.out, Int.toNat_natCast]
    have HE := Lib.hid hex
    have hok := HC.out.at_ (c.kn.all.getD q default) (by
      rw [List.getD_eq_getElem?_getD, List.getElem?_eq_getElem (by rw [← HN.out]; exact hqn)]
      exact List.getElem_mem _)
    obtain ⟨okp, okr, lp8, lr8, lo8⟩ := hok
    have OKP := Lib.hid okp
    have OKR := Lib.hid okr
    obtain ⟨x, hx⟩ : ∃ x, x = c.kn.all.getD q default := ⟨_, rfl⟩
    rw [← hx] at x0 x1 x2 x3 x4 HXX HE OKP OKR lp8 lr8 lo8
    obtain ⟨nm, hnm⟩ : ∃ y, y = x.name := ⟨_, rfl⟩
    obtain ⟨no, hno⟩ : ∃ y, y = x.outer.length := ⟨_, rfl⟩
    obtain ⟨np, hnp⟩ : ∃ y, y = x.params.length := ⟨_, rfl⟩
    obtain ⟨nr, hnr⟩ : ∃ y, y = x.results.length := ⟨_, rfl⟩
    have HNO := Lib.hid hno
    have HNP := Lib.hid hnp
    have HNR := Lib.hid hnr
    rw [← hnm] at x0
    rw [← hno] at x2 lo8
    rw [← hnp] at x3 lp8
    rw [← hnr] at x4 lr8
    have av1 := H1.out.av
    rw [HAV.out, ← HN.out] at av1
    have dv1 := H1.out.dv
    clear HX hex okp okr hx hnm hno hnp hnr dv0 av0
    have hin : x.inner = false := by rw [← HE.out]; exact HEE.out
    rw [hin] at x1
    go_wp2_with fail
    go_quiet (fail)
    have HZ : Hid (MK c (Lot.rS c.kn c.kn.all.length s) g1 ((wc.alloc (.cells #[.string nm, .bool false, .slice ao no co, .slice ap np cp, .slice ar nr cr, .slice al nl cl, .slice none 0 0, .slice none 0 0, .slice none 0 0, .slice none 0 0, .slice none 0 0] 34)).drewN nq)) := H1.out.bel (Below.drewN ((Below.refl _ _).alloc (Nat.le_refl _) _) _)
    have FZ := Lib.hid (F1.out.trans (Fr.of_bel (c := c) (g := g1) (w := wc) (w' := (wc.alloc (.cells #[.string nm, .bool false, .slice ao no co, .slice ap np cp, .slice ar nr cr, .slice al nl cl, .slice none 0 0, .slice none 0 0, .slice none 0 0, .slice none 0 0, .slice none 0 0] 34)).drewN nq) (Below.drewN ((Below.refl _ _).alloc (Nat.le_refl _) _) _)))
    have XZ : Hid (((wc.alloc (.cells #[.string nm, .bool false, .slice ao no co, .slice ap np cp, .slice ar nr cr, .slice al nl cl, .slice none 0 0, .slice none 0 0, .slice none 0 0, .slice none 0 0, .slice none 0 0] 34)).drewN nq).heap[wc.heap.size]? = some (.cells #[.string nm, .bool false, .slice ao no co, .slice ap np cp, .slice ar nr cr, .slice al nl cl, .slice none 0 0, .slice none 0 0, .slice none 0 0, .slice none 0 0, .slice none 0 0] 34 (0, 0))) := heap_new wc _
    have NZ : Hid (¬ Own c g1 wc.heap.size) := fun ho => by have := H1.out.lt _ ho; omega
    generalize wc.heap.size = XB at *
    generalize (wc.alloc (.cells #[.string nm, .bool false, .slice ao no co, .slice ap np cp, .slice ar nr cr, .slice al nl cl, .slice none 0 0, .slice none 0 0, .slice none 0 0, .slice none 0 0, .slice none 0 0] 34)).drewN nq = wz at *
    have x3z : wz.cell? ⟨XB, 3, none⟩ = some (.slice ap np cp) := cell_of XZ.out 3
    clear x0 x1 x2 x3 x4 x5 x6 x7 x8 x9 x10 av1 dv1
    go_wp2_with fail
    have h72 := values_mk x.params ap cp (fun W hW => (HXX.out W hW).2.2.1) (by have := HNP.out; omega) OKP.out HC.out HZ.out (B1.out.less (by have := HNP.out; omega))
    rw [← HNP.out] at h72
    refine h72.mono ?_
    rintro e w3 ⟨rfl, g3, hm3, hf3⟩
    have H3 := Lib.hid hm3
    have F3 := Lib.hid (FZ.out.trans hf3)
    have B3 := Lib.hid (B1.out.step (a := 100) (gr_values c.kn x.params _) (by have := HNP.out; omega))
    have X3 : Hid (w3.heap[XB]? = some (.cells #[.string nm, .bool false, .slice ao no co, .slice ap np cp, .slice ar nr cr, .slice al nl cl, .slice none 0 0, .slice none 0 0, .slice none 0 0, .slice none 0 0, .slice none 0 0] 34 (0, 0))) := ((HZ.out.kept hf3 (heap_lt XZ.out) NZ.out).1).trans XZ.out
    have N3 : Hid (¬ Own c g3 XB) := (HZ.out.kept hf3 (heap_lt XZ.out) NZ.out).2
    clear hm3 hf3 x3z h72
    go_wp2_with fail
    refine (put_v H3.out 23 q B3.out).mono ?_
    rintro e w4 ⟨rfl, g4, hm4, hf4⟩
    have H4 := Lib.hid hm4
    have F4 := Lib.hid (F3.out.trans hf4)
    have X4 : Hid (w4.heap[XB]? = some (.cells #[.string nm, .bool false, .slice ao no co, .slice ap np cp, .slice ar nr cr, .slice al nl cl, .slice none 0 0, .slice none 0 0, .slice none 0 0, .slice none 0 0, .slice none 0 0] 34 (0, 0))) := ((H3.out.kept hf4 (heap_lt X3.out) N3.out).1).trans X3.out
    have N4 : Hid (¬ Own c g4 XB) := (H3.out.kept hf4 (heap_lt X3.out) N3.out).2
    clear hm4 hf4
    have B4 := Lib.hid (B3.out.step (a := 50) (gr_put 23 q _) (by omega))
    obtain ⟨sp, hsp⟩ : ∃ sp, sp = Lot.put 23 q (Lot.values c.kn x.params (Lot.rS c.kn c.kn.all.length s)) := ⟨_, rfl⟩
    have HSP := Lib.hid hsp
    rw [← hsp] at H4 B4
    clear hsp
    have x4z : w4.cell? ⟨XB, 4, none⟩ = some (.slice ar nr cr) := cell_of X4.out 4
    go_wp2_with fail
    clear x4z
    go_loopw [6] (fun i wr => ∃ (j : Nat) (g' : Gh), j ≤ nr ∧ i = .int .i64 ((nr : Int) - 1 - j) ∧ Hid (MK c (Lot.drops c.kn (x.results.reverse.take j) sp) g' wr) ∧ Hid (Fr c g g' w wr) ∧ Hid (wr.heap[XB]? = some (.cells #[.string nm, .bool false, .slice ao no co, .slice ap np cp, .slice ar nr cr, .slice al nl cl, .slice none 0 0, .slice none 0 0, .slice none 0 0, .slice none 0 0, .slice none 0 0] 34 (0, 0))) ∧ Hid (¬ Own c g' XB)) (fun i _ => (intOf i + 1).toNat)
    case atStart => exact ⟨0, g4, Nat.zero_le _, by go_num, H4, F4, X4, N4⟩
    case round =>
      obtain ⟨j, g', hj, rfl, HM, HF, HX5, HN5⟩ := hrel
      have x4z : wr.cell? ⟨XB, 4, none⟩ = some (.slice ar nr cr) := cell_of HX5.out 4
      by_cases hlt : j < nr
      · have hjl : j < x.results.length := by have := HNR.out; omega
        obtain ⟨i, hi⟩ : ∃ i, i + 1 + j = nr := ⟨nr - 1 - j, by omega⟩
        have hie : (nr : Int) - 1 - j = (i : Int) := by omega
        rw [hie]
        have hinr : i < nr := by omega
        have hiv := (HXX.out wr HM.out.ch).2.2.2
        rw [← HNR.out] at hiv
        obtain ⟨b, off, cap5, he, hcr, _, hb, hcc⟩ := hiv.addr (by omega)
        simp only [Value.slice.injEq] at he
        obtain ⟨har, hnr2, hcap5⟩ := he
        rw [← hcap5, ← hnr2] at hcr
        have hcell := hcc i (by rw [← hnr2]; exact hinr)
        rw [har] at x4z
        obtain ⟨t, ht⟩ : ∃ t, t = x.results[i]'(by rw [← hnr2]; exact hinr) := ⟨_, rfl⟩
        rw [← ht] at hcell
        have HTT : Hid (x.results.getD (x.results.length - 1 - j) 0 = t) := Lib.hid (by
          rw [show x.results.length - 1 - j = i by omega, List.getD_eq_getElem?_getD, List.getElem?_eq_getElem (by rw [← hnr2]; exact hinr), ht]
          rfl)
        have BJ : Hid (Bd 1 (Lot.drops c.kn (x.results.reverse.take j) sp)) := Lib.hid (B4.out.step (gr_drops c.kn _ _) (by rw [List.length_take]; have := HNR.out; omega))
        have hi0 : (0 : Int) ≤ (i : Int) := by omega
        have hi1 : (i : Int) < (nr : Int) := by omega
        clear hcc ht hb hie hnr2 har hcap5
        go_wp2_with fail
        refine (drop_mk t HC.out HM.out BJ.out).mono ?_
        rintro e w5 ⟨rfl, g5, hm5, hf5⟩
        have H5 := Lib.hid hm5
        have F5 := Lib.hid (HF.out.trans hf5)
        have X5 : Hid (w5.heap[XB]? = some (.cells #[.string nm, .bool false, .slice ao no co, .slice ap np cp, .slice ar nr cr, .slice al nl cl, .slice none 0 0, .slice none 0 0, .slice none 0 0, .slice none 0 0, .slice none 0 0] 34 (0, 0))) := ((HM.out.kept hf5 (heap_lt HX5.out) HN5.out).1).trans HX5.out
        have N5 : Hid (¬ Own c g5 XB) := (HM.out.kept hf5 (heap_lt HX5.out) HN5.out).2
        clear hm5 hf5 hcell x4z
        go_wp2_with fail
        go_roundw
        case rel => exact ⟨j + 1, g5, by omega, congrArg (Value.int .i64) (by omega), Lib.hid (by rw [drops_take c.kn x.results j hjl, HTT.out]; exact H5.out), F5, X5, N5⟩
        case measure => simp only [intOf]; omega
      · obtain rfl : j = nr := by omega
        go_wp2_with fail
        go_end0
        exact ⟨rfl, g', by rw [HE.out, ← HQ.out]; have h := HM.out; rw [HSP.out, List.take_of_length_le (by rw [List.length_reverse]; have := HNR.out; omega)] at h; exact h, HF.out⟩
end Go.Proofs.Ythaniobijkdnoaa
