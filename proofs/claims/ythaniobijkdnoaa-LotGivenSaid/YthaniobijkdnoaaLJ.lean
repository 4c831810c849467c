/- A maker calls a function, or defers one. Conditions: rows that are not too long. -/
import Derived.Test.YthaniobijkdnoaaLI
namespace Go.Proofs.Ythaniobijkdnoaa
open Go.RowKit

theorem MK.av {c : Cx} {s : St} {g : Gh} {w : World} (h : MK c s g w) : w.cell? ⟨c.M, 1, none⟩ = some c.av := cell_of h.m 1
theorem MK.rs {c : Cx} {s : St} {g : Gh} {w : World} (h : MK c s g w) : w.cell? ⟨c.M, 7, none⟩ = some c.vr := cell_of h.m 7
theorem drops_take (c : Kn) (l : List Int) (k : Nat) (hk : k < l.length) (s : St) : Lot.drops c (l.reverse.take (k + 1)) s = Lot.drop c (l.getD (l.length - 1 - k) 0) (Lot.drops c (l.reverse.take k) s) := by
  rw [List.take_succ_eq_append_getElem (by simpa using hk), drops_snoc, List.getElem_reverse, List.getD_eq_getElem?_getD, List.getElem?_eq_getElem (by omega)]
  rfl
set_option maxRecDepth 100000 in
set_option maxHeartbeats 8000000 in
theorem call_barred23 {c : Cx} {s : St} {g : Gh} {w : World} (hc : CxOk c) (h : MK c s g w) (hb : Bd 1000 s) (hex : (Lot.callee c.kn s).inner = true) :
    Calls Try.prog 46 #[.pointer (some ⟨c.M, 0, none⟩), .int .i64 23] w (MP c (Lot.rS c.kn c.kn.all.length s) g w (.tuple #[])) := by
  have H0 := Lib.hid h
  have F0 := Lib.hid (Fr.refl c g w)
  have B0 := Lib.hid hb
  have HC := Lib.hid hc
  have dv0 := h.dv
  have av0 := h.av
  clear h hb hc
  obtain ⟨ab, aoff, acap, hav, hac1, hac2, hAt⟩ := HC.out.hd
  have ha1 := HC.out.a1
  have ha2 := HC.out.a2
  rw [hav] at av0
  have HAV := Lib.hid hav
  have HAT := Lib.hid hAt
  obtain ⟨n, hn⟩ : ∃ n, n = c.kn.all.length := ⟨_, rfl⟩
  have HN := Lib.hid hn
  have HEE := Lib.hid hex
  rw [← hn] at av0 hac1 ha1 ha2
  simp only [maxLen] at hac2
  clear hav hAt hn hex
  go_enter Try.func46, Try.ntmps46
  go_upto_region 0 with fail
  go_cut [4] from 7 to 16 (fun s4 wx => ∃ (q : Nat) (g1 : Gh), s4 = .int .i64 q ∧ q < n ∧ Hid ((q : Int) = Lot.rV c.kn c.kn.all.length s) ∧ Hid (MK c (Lot.rS c.kn c.kn.all.length s) g1 wx) ∧ Hid (Fr c g g1 w wx))
  case first =>
    go_region_held3 (fun W => W.cell? ⟨c.M, 0, none⟩ = some (.func (.func 20) #[] #[.pointer (some ⟨c.Bd, 0, none⟩), .pointer (some ⟨c.Bl, 0, none⟩)]) ∧ W.cell? ⟨c.M, 1, none⟩ = some (.slice (some ⟨ab, aoff, none⟩) n acap)) (first | exact ⟨dv0, av0⟩ | exact ⟨H1.out.dv, by have h := H1.out.av; rw [HAV.out, ← HN.out] at h; exact h⟩ | go_keep)
      ((go_at_call 20; refine (draw_mk HC.out (H0.out.bel (by repeat (first | with_reducible exact Below.refl _ _ | with_reducible refine Below.drew ?_ | with_reducible refine Below.drewN ?_ _))) (n : Int) (by omega) (by omega)).mono ?_; rintro e w1 ⟨rfl, g1, hm1, hf1⟩; have H1 := Lib.hid hm1; have F1 := Lib.hid (F0.out.trans ((Fr.of_bel (c := c) (g := g) (by repeat (first | with_reducible exact Below.refl _ _ | with_reducible refine Below.drew ?_ | with_reducible refine Below.drewN ?_ _))).trans hf1)); clear hm1 hf1))
    all_goals
      go_wp2_with fail
      go_meet
      have hbd := drV_bd c.kn.ws s.pos (n : Int) (by omega) (by omega)
      have hbd' : 0 ≤ Lot.rV c.kn n s ∧ Lot.rV c.kn n s < n := hbd
      refine ⟨(Lot.rV c.kn n s).toNat, g1, congrArg (Value.int .i64) (Int.toNat_of_nonneg hbd'.1).symm, by omega, ?_, ?_, F1.out⟩
      · show _ = _
        rw [← HN.out]
        exact Int.toNat_of_nonneg hbd'.1
      · have h := H1.out
        rw [HN.out] at h
        exact h
  case rest =>
    obtain ⟨q, g1, rfl, hqn, HQ, H1, F1⟩ := hcut
    have B1 := Lib.hid (B0.out.step (a := 1000) (gr_rS c.kn c.kn.all.length s) (by omega))
    have hq0 : (0 : Int) ≤ (q : Int) := by omega
    have hq1 : (q : Int) < (n : Int) := by omega
    obtain ⟨ao, co, ap, cp, ar, cr, al, nl, cl, HX⟩ := HAT.out q (by rw [← HN.out]; exact hqn)
    obtain ⟨⟨hlt1, x0, x1, x2, x3, x4, x5, x6, x7, x8, x9, x10⟩, -, -, -⟩ := HX wc H1.out.ch
    have HXX := Lib.hid HX
    have hex : Lot.callee c.kn s = c.kn.all.getD q default := by
      rw [Lot.callee, ← HQ.out, Int.toNat_natCast]
    have HE := Lib.hid hex
    have hok := HC.out.at_ (c.kn.all.getD q default) (by
      rw [List.getD_eq_getElem?_getD, List.getElem?_eq_getElem (by rw [← HN.out]; exact hqn)]
      exact List.getElem_mem _)
    obtain ⟨okp, okr, lp8, lr8, lo8⟩ := hok
    have OKP := Lib.hid okp
    have OKR := Lib.hid okr
    obtain ⟨x, hx⟩ : ∃ x, x = c.kn.all.getD q default := ⟨_, rfl⟩
    rw [← hx] at x0 x1 x2 x3 x4 HXX HE OKP OKR lp8 lr8 lo8
    obtain ⟨nm, hnm⟩ : ∃ y, y = x.name := ⟨_, rfl⟩
    obtain ⟨no, hno⟩ : ∃ y, y = x.outer.length := ⟨_, rfl⟩
    obtain ⟨np, hnp⟩ : ∃ y, y = x.params.length := ⟨_, rfl⟩
    obtain ⟨nr, hnr⟩ : ∃ y, y = x.results.length := ⟨_, rfl⟩
    have HNO := Lib.hid hno
    have HNP := Lib.hid hnp
    have HNR := Lib.hid hnr
    rw [← hnm] at x0
    rw [← hno] at x2 lo8
    rw [← hnp] at x3 lp8
    rw [← hnr] at x4 lr8
    have av1 := H1.out.av
    rw [HAV.out, ← HN.out] at av1
    have dv1 := H1.out.dv
    clear HX hex okp okr hx hnm hno hnp hnr dv0 av0
    have hin : x.inner = true := by rw [← HE.out]; exact HEE.out
    rw [hin] at x1
    go_wp2_with fail
    go_quiet (fail)
    go_wp2_with fail
    go_end0
    exact ⟨rfl, g1, H1.out.bel (Below.drewN ((Below.refl _ _).alloc (Nat.le_refl _) _) _), F1.out.trans (Fr.of_bel (Below.drewN ((Below.refl _ _).alloc (Nat.le_refl _) _) _))⟩
set_option maxRecDepth 100000 in
set_option maxHeartbeats 8000000 in
theorem call_barred24 {c : Cx} {s : St} {g : Gh} {w : World} (hc : CxOk c) (h : MK c s g w) (hb : Bd 1000 s) (hex : (Lot.callee c.kn s).inner = true ∧ ((Lot.callee c.kn s).outer == c.kn.results) = false) :
    Calls Try.prog 46 #[.pointer (some ⟨c.M, 0, none⟩), .int .i64 24] w (MP c (Lot.rS c.kn c.kn.all.length s) g w (.tuple #[])) := by
  have H0 := Lib.hid h
  have F0 := Lib.hid (Fr.refl c g w)
  have B0 := Lib.hid hb
  have HC := Lib.hid hc
  have dv0 := h.dv
  have av0 := h.av
  clear h hb hc
  obtain ⟨ab, aoff, acap, hav, hac1, hac2, hAt⟩ := HC.out.hd
  have ha1 := HC.out.a1
  have ha2 := HC.out.a2
  rw [hav] at av0
  have HAV := Lib.hid hav
  have HAT := Lib.hid hAt
  obtain ⟨n, hn⟩ : ∃ n, n = c.kn.all.length := ⟨_, rfl⟩
  have HN := Lib.hid hn
  have HEE := Lib.hid hex
  rw [← hn] at av0 hac1 ha1 ha2
  simp only [maxLen] at hac2
  clear hav hAt hn hex
  go_enter Try.func46, Try.ntmps46
  go_upto_region 0 with fail
  go_cut [4] from 7 to 16 (fun s4 wx => ∃ (q : Nat) (g1 : Gh), s4 = .int .i64 q ∧ q < n ∧ Hid ((q : Int) = Lot.rV c.kn c.kn.all.length s) ∧ Hid (MK c (Lot.rS c.kn c.kn.all.length s) g1 wx) ∧ Hid (Fr c g g1 w wx))
  case first =>
    go_region_held3 (fun W => W.cell? ⟨c.M, 0, none⟩ = some (.func (.func 20) #[] #[.pointer (some ⟨c.Bd, 0, none⟩), .pointer (some ⟨c.Bl, 0, none⟩)]) ∧ W.cell? ⟨c.M, 1, none⟩ = some (.slice (some ⟨ab, aoff, none⟩) n acap)) (first | exact ⟨dv0, av0⟩ | exact ⟨H1.out.dv, by have h := H1.out.av; rw [HAV.out, ← HN.out] at h; exact h⟩ | go_keep)
      ((go_at_call 20; refine (draw_mk HC.out (H0.out.bel (by repeat (first | with_reducible exact Below.refl _ _ | with_reducible refine Below.drew ?_ | with_reducible refine Below.drewN ?_ _))) (n : Int) (by omega) (by omega)).mono ?_; rintro e w1 ⟨rfl, g1, hm1, hf1⟩; have H1 := Lib.hid hm1; have F1 := Lib.hid (F0.out.trans ((Fr.of_bel (c := c) (g := g) (by repeat (first | with_reducible exact Below.refl _ _ | with_reducible refine Below.drew ?_ | with_reducible refine Below.drewN ?_ _))).trans hf1)); clear hm1 hf1))
    all_goals
      go_wp2_with fail
      go_meet
      have hbd := drV_bd c.kn.ws s.pos (n : Int) (by omega) (by omega)
      have hbd' : 0 ≤ Lot.rV c.kn n s ∧ Lot.rV c.kn n s < n := hbd
      refine ⟨(Lot.rV c.kn n s).toNat, g1, congrArg (Value.int .i64) (Int.toNat_of_nonneg hbd'.1).symm, by omega, ?_, ?_, F1.out⟩
      · show _ = _
        rw [← HN.out]
        exact Int.toNat_of_nonneg hbd'.1
      · have h := H1.out
        rw [HN.out] at h
        exact h
  case rest =>
    obtain ⟨q, g1, rfl, hqn, HQ, H1, F1⟩ := hcut
    have B1 := Lib.hid (B0.out.step (a := 1000) (gr_rS c.kn c.kn.all.length s) (by omega))
    have hq0 : (0 : Int) ≤ (q : Int) := by omega
    have hq1 : (q : Int) < (n : Int) := by omega
    obtain ⟨ao, co, ap, cp, ar, cr, al, nl, cl, HX⟩ := HAT.out q (by rw [← HN.out]; exact hqn)
    obtain ⟨⟨hlt1, x0, x1, x2, x3, x4, x5, x6, x7, x8, x9, x10⟩, -, -, -⟩ := HX wc H1.out.ch
    have HXX := Lib.hid HX
    have hex : Lot.callee c.kn s = c.kn.all.getD q default := by
      rw [Lot.callee, ← HQ.out, Int.toNat_natCast]
    have HE := Lib.hid hex
    have hok := HC.out.at_ (c.kn.all.getD q default) (by
      rw [List.getD_eq_getElem?_getD, List.getElem?_eq_getElem (by rw [← HN.out]; exact hqn)]
      exact List.getElem_mem _)
    obtain ⟨okp, okr, lp8, lr8, lo8⟩ := hok
    have OKP := Lib.hid okp
    have OKR := Lib.hid okr
    obtain ⟨x, hx⟩ : ∃ x, x = c.kn.all.getD q default := ⟨_, rfl⟩
    rw [← hx] at x0 x1 x2 x3 x4 HXX HE OKP OKR lp8 lr8 lo8
    obtain ⟨nm, hnm⟩ : ∃ y, y = x.name := ⟨_, rfl⟩
    obtain ⟨no, hno⟩ : ∃ y, y = x.outer.length := ⟨_, rfl⟩
    obtain ⟨np, hnp⟩ : ∃ y, y = x.params.length := ⟨_, rfl⟩
    obtain ⟨nr, hnr⟩ : ∃ y, y = x.results.length := ⟨_, rfl⟩
    have HNO := Lib.hid hno
    have HNP := Lib.hid hnp
    have HNR := Lib.hid hnr
    rw [← hnm] at x0
    rw [← hno] at x2 lo8
    rw [← hnp] at x3 lp8
    rw [← hnr] at x4 lr8
    have av1 := H1.out.av
    rw [HAV.out, ← HN.out] at av1
    have dv1 := H1.out.dv
    clear HX hex okp okr hx hnm hno hnp hnr dv0 av0
    have hin : x.inner = true := by rw [← HE.out]; exact HEE.out.1
    rw [hin] at x1
    have HQQ : Hid ((x.outer == c.kn.results) = false) := Lib.hid (by rw [← HE.out]; exact HEE.out.2)
    have rs1 := H1.out.rs
    have hMlt : c.M < wc.heap.size := heap_lt H1.out.m
    have H71 : Hid (∀ W, Below wc.heap.size wc W → Calls Try.prog 71 #[.slice ao no co, c.vr] W (Ans (.bool false) W)) := fun W hb => by
      have hch := H1.out.ch.trans (Chg.of_below hb)
      have h1 := (HXX.out W hch).2.1
      rw [← HNO.out] at h1
      have h := same71_any x.outer c.kn.results _ _ W h1 (HC.out.vr W hch) (by have := HNO.out; omega) (by have := HC.out.lr; omega)
      rw [show (x.outer == c.kn.results) = false from HQQ.out] at h
      exact h
    go_wp2_with fail
    go_quiet ((go_at_call 71; exact quiet_ans (H71.out _ (Below.drewN ((Below.refl _ _).alloc (Nat.le_refl _) _) _))))
    go_wp2_with fail
    go_end0
    exact ⟨rfl, g1, H1.out.bel (Below.drewN ((Below.refl _ _).alloc (Nat.le_refl _) _) _), F1.out.trans (Fr.of_bel (Below.drewN ((Below.refl _ _).alloc (Nat.le_refl _) _) _))⟩
end Go.Proofs.Ythaniobijkdnoaa
