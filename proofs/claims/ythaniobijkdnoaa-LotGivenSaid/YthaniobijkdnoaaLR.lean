/- A maker puts a statement. Conditions: rows that are not too long. -/
import Derived.Test.YthaniobijkdnoaaLQ
import Derived.IntWalk
namespace Go.Proofs.Ythaniobijkdnoaa
open Go.RowKit

theorem CxOk.kb {c : Cx} (h : CxOk c) : KnB c.kn := fun f hf => ⟨(h.at_ f hf).2.2.1, (h.at_ f hf).2.2.2.1⟩
set_option maxRecDepth 100000 in
set_option maxHeartbeats 2000000 in
theorem clos32 {c : Cx} {s : St} {g : Gh} {w : World} {P1 P2 : Nat} {n : Int} (h1n : 1 ≤ n) (hn9 : n ≤ 9) (st : St) (hbx : Bx c P1 P2 n g w) (hf : Calls Try.prog 22 #[.pointer (some ⟨c.M, 0, none⟩), .int .i64 (n - 1)] w (MP c st g w (.tuple #[]))) :
    Calls Try.prog 32 #[.pointer (some ⟨P1, 0, none⟩), .pointer (some ⟨P2, 0, none⟩)] w (MP c st g w (.tuple #[])) := by
  have p1 := hbx.1.cell
  have p2 := hbx.2.cell
  have HFN := Lib.hid hf
  clear hbx hf
  go_enter Try.func32, Try.ntmps32
  go_wp2_with fail
  refine HFN.out.mono ?_
  rintro e w1 ⟨rfl, g1, hm1, hf1⟩
  have H1 := Lib.hid hm1
  have F1 := Lib.hid hf1
  clear hm1 hf1
  go_wp2_with fail
  go_end0
  exact ⟨rfl, g1, H1.out, F1.out⟩
set_option maxRecDepth 100000 in
set_option maxHeartbeats 2000000 in
theorem clos33 {c : Cx} {s : St} {g : Gh} {w : World} {P1 P2 : Nat} {n : Int} (hbx : Bx c P1 P2 n g w) (hc : CxOk c) (h : MK c s g w) (hb : Bd 8 s) :
    Calls Try.prog 33 #[.pointer (some ⟨P1, 0, none⟩)] w (MP c (Lot.put 26 0 (Lot.value c.kn 1 1 s)) g w (.tuple #[])) := by
  have p1 := hbx.1.cell
  have X0 := Lib.hid hbx
  have H0 := Lib.hid h
  have F0 := Lib.hid (Fr.refl c g w)
  have B0 := Lib.hid hb
  have HC := Lib.hid hc
  clear h hb hc hbx
  go_enter Try.func33, Try.ntmps33
  go_wp2_with fail
  refine (num1_mk HC.out H0.out (B0.out.less (by omega))).mono ?_
  rintro e w1 ⟨rfl, g1, hm1, hf1⟩
  have H1 := Lib.hid hm1
  have F1 := Lib.hid (F0.out.trans hf1)
  have B1 := Lib.hid (B0.out.step (a := 1) (gr_value c.kn 1 1 _) (by simp [vc]))
  have p1' := (X0.out.step H0.out hf1).1.cell
  clear hm1 hf1 p1
  go_wp2_with fail
  refine (put_v H1.out 26 0 B1.out).mono ?_
  rintro e w2 ⟨rfl, g2, hm2, hf2⟩
  have H2 := Lib.hid hm2
  have F2 := Lib.hid (F1.out.trans hf2)
  clear hm2 hf2
  go_wp2_with fail
  go_end0
  exact ⟨rfl, g2, H2.out, F2.out⟩

/-- what becomes of a statement, the loop and the branch being given -/
def stmtS (k : Kn) (n : Int) (fl fb : St → St) (s : St) : St :=
  if 320 < (Lot.rS k 15 (Lot.tick k s)).code.length then Lot.rS k 15 (Lot.tick k s)
  else if Lot.rV k 15 (Lot.tick k s) = 14 ∧ 0 < n then fl (Lot.rS k 15 (Lot.tick k s))
  else if Lot.rV k 15 (Lot.tick k s) = 13 ∧ 0 < n then fb (Lot.rS k 15 (Lot.tick k s))
  else if Lot.rV k 15 (Lot.tick k s) = 12 then Lot.branch k (fun s => Lot.put 26 0 (Lot.value k 1 1 s)) (Lot.rS k 15 (Lot.tick k s))
  else Lot.plain k (Lot.rV k 15 (Lot.tick k s)) (Lot.rS k 15 (Lot.tick k s))
set_option maxRecDepth 100000 in
set_option maxHeartbeats 8000000 in
theorem stmt_walk {c : Cx} (n : Int) (hn0 : 0 ≤ n) (hn9 : n ≤ 9) (fl fb : St → St) (r : Nat) (hr : 1000 ≤ r) (hr2 : r ≤ 50000) (hc : CxOk c)
    (hl : 0 < n → ∀ s g w, MK c s g w → Bd r s → Calls Try.prog 30 #[.pointer (some ⟨c.M, 0, none⟩), .int .i64 n] w (MP c (fl s) g w (.tuple #[])))
    (hbr : 0 < n → ∀ s g w P1 P2, MK c s g w → Bx c P1 P2 n g w → Bd r s → Calls Try.prog 31 #[.pointer (some ⟨c.M, 0, none⟩), .func (.func 32) #[] #[.pointer (some ⟨P1, 0, none⟩), .pointer (some ⟨P2, 0, none⟩)]] w (MP c (fb s) g w (.tuple #[])))
    {s : St} {g : Gh} {w : World} (h : MK c s g w) (hb : Bd (r + 2) s) :
    Calls Try.prog 22 #[.pointer (some ⟨c.M, 0, none⟩), .int .i64 n] w (MP c (stmtS c.kn n fl fb s) g w (.tuple #[])) := by
  have HL := Lib.hid hl
  have HBR := Lib.hid hbr
  have hbel : Below w.heap.size w ((w.alloc (.cells #[.pointer (some ⟨c.M, 0, none⟩)] 50)).alloc (.cells #[.int .i64 n] 3)) := ((Below.refl _ _).alloc (Nat.le_refl _) _).alloc (by simp) _
  have hlt := h.lt
  have hbx : Bx c w.heap.size (w.heap.size + 1) n g ((w.alloc (.cells #[.pointer (some ⟨c.M, 0, none⟩)] 50)).alloc (.cells #[.int .i64 n] 3)) := by
    refine ⟨⟨⟨50, ?_⟩, fun ho => by have := hlt _ ho; omega⟩, ⟨⟨3, ?_⟩, fun ho => by have := hlt _ ho; omega⟩⟩
    · rw [heap_old _ _ _ (by simp)]
      exact heap_new _ _
    · have h2 := heap_new (w.alloc (.cells #[.pointer (some ⟨c.M, 0, none⟩)] 50)) (.cells #[.int .i64 n] 3)
      simpa using h2
  have H0 := Lib.hid (h.bel hbel)
  have F0 := Lib.hid (Fr.of_bel (c := c) (g := g) hbel)
  have X0 := Lib.hid hbx
  have B0 := Lib.hid hb
  have HC := Lib.hid hc
  clear hl hbr hbel hlt hbx h hb hc
  go_enter Try.func22, Try.ntmps22
  go_upto_region 1 with fail
  generalize (w.alloc (.cells #[.pointer (some ⟨c.M, 0, none⟩)] 50)).alloc (.cells #[.int .i64 n] 3) = wx at *
  generalize w.heap.size = P1 at *
  have dv0 := H0.out.dv
  have p0 := X0.out.1.cell
  obtain ⟨-, -, -, -, l0, fz⟩ := H0.out.cells
  have f0 := fz 14
  obtain ⟨ln, hln⟩ : ∃ x, x = s.line := ⟨_, rfl⟩
  rw [← hln] at l0
  have hlb : 0 ≤ ln ∧ ln ≤ 100000 := by rw [hln]; have := B0.out.2.2.2; omega
  obtain ⟨hl0, hl1⟩ := hlb
  have HLN := Lib.hid hln
  have hMlt : c.M < wx.heap.size := heap_lt H0.out.m
  have hdr := drV_bd c.kn.ws s.pos 3 (by omega) (by omega)
  have hdr' : 0 ≤ Lot.rV c.kn 3 s ∧ Lot.rV c.kn 3 s < 3 := hdr
  obtain ⟨hdr0, hdr1⟩ := hdr'
  clear fz hln hdr
  go_cut [] from 5 to 16 (fun wy => ∃ g1, Hid (MK c (Lot.tick c.kn s) g1 wy) ∧ Hid (Fr c g g1 w wy) ∧ Hid (Bx c P1 (P1 + 1) n g1 wy))
  case first =>
    go_region_with ((go_at_call 20; refine (draw_mk HC.out (H0.out.bel (by repeat (first | with_reducible exact Below.refl _ _ | with_reducible refine Below.drew ?_ | with_reducible refine Below.drewN ?_ _))) 3 (by omega) (by omega)).mono ?_; rintro e w1 ⟨rfl, g1, hm1, hf1⟩; have H1 := Lib.hid hm1; have hfd := (Fr.of_bel (c := c) (g := g) (w := wx) (by repeat (first | with_reducible exact Below.refl _ _ | with_reducible refine Below.drew ?_ | with_reducible refine Below.drewN ?_ _))).trans hf1; have F1 := Lib.hid (F0.out.trans hfd); have X1 := Lib.hid (X0.out.step H0.out hfd); have p1 := X1.out.1.cell; have l1 : w1.cell? ⟨c.M, 14, none⟩ = some (.int .i64 ln) := (cell_of hm1.m 14).trans (congrArg (fun z => some (Value.int .i64 z)) HLN.out.symm); have f1 : w1.frozen? ⟨c.M, 14, none⟩ = false := frozen_of hm1.m 14; clear hm1 hf1 hfd))
    all_goals
      go_wp2_with fail
      go_meet
      have hw : IntKind.i64.wrap (ln + Lot.rV c.kn 3 s) = ln + Lot.rV c.kn 3 s := IntWalk.i64_in _ ⟨by omega, by omega⟩
      rw [hw]
      obtain rfl := HLN.out
      have hs := H1.out.setLine (s.line + Lot.rV c.kn 3 s)
      exact ⟨g1, hs.1, F1.out.trans hs.2, X1.out.step H1.out hs.2⟩
  case rest =>
    obtain ⟨g1, H1, F1, X1⟩ := hcut
    have B1 := Lib.hid (B0.out.step (a := r) (gr_tick c.kn s) (by omega))
    have dv1 := H1.out.dv
    have p1 := X1.out.1.cell
    clear dv0 p0 l0 f0 hl0 hl1 hMlt HLN hdr0 hdr1 H0 F0 X0
    go_wp2_with fail
    refine (draw_mk HC.out H1.out 15 (by omega) (by omega)).mono ?_
    rintro e w2 ⟨rfl, g2, hm2, hf2⟩
    have H2 := Lib.hid hm2
    have F2 := Lib.hid (F1.out.trans hf2)
    have X2 := Lib.hid (X1.out.step H1.out hf2)
    have B2 := Lib.hid (B1.out.step (a := r) (gr_rS c.kn 15 _) (by omega))
    obtain ⟨k, hk⟩ : ∃ x, x = Lot.rV c.kn 15 (Lot.tick c.kn s) := ⟨_, rfl⟩
    have hkq : 0 ≤ k ∧ k < 15 := by rw [hk]; exact drV_bd _ _ _ (by omega) (by omega)
    obtain ⟨hk0, hk14⟩ := hkq
    rw [← hk]
    have HK := Lib.hid hk
    clear hm2 hf2 dv1 p1 hk
    obtain ⟨s2, hs2⟩ : ∃ x, x = Lot.rS c.kn 15 (Lot.tick c.kn s) := ⟨_, rfl⟩
    have HS2 := Lib.hid hs2
    rw [← hs2] at H2 B2
    clear hs2
    have p2 := X2.out.1.cell
    have q2 := X2.out.2.cell
    obtain ⟨-, -, c9, -, -, -⟩ := H2.out.cells
    obtain ⟨A9, k9, hcv⟩ := row_formN H2.out.cd
    rw [hcv] at c9
    obtain ⟨m9, hm9⟩ : ∃ x, x = s2.code.length := ⟨_, rfl⟩
    have hm9b : m9 ≤ 100000 := by rw [hm9]; have := B2.out.1; omega
    rw [← hm9] at c9
    have HM9 := Lib.hid hm9
    clear hcv hm9
    by_cases hlong : 320 < m9
    · have HLG := Lib.hid hlong
      go_wp2_with fail
      go_end0
      exact ⟨rfl, g2, by rw [stmtS, ← HS2.out, if_pos (by rw [← HM9.out]; exact HLG.out)]; exact H2.out, F2.out⟩
    · have HLG := Lib.hid hlong
      have hsh : m9 ≤ 320 := by omega
      clear hlong
      rcases (show (k = 14 ∧ 0 < n) ∨ (k = 13 ∧ 0 < n) ∨ k = 12 ∨ (k = 14 ∧ n ≤ 0) ∨ (k = 13 ∧ n ≤ 0) ∨ k < 12 by omega) with ⟨hk, hn⟩ | ⟨hk, hn⟩ | hk | ⟨hk, hn⟩ | ⟨hk, hn⟩ | hk
      · have HKK : Hid (Lot.rV c.kn 15 (Lot.tick c.kn s) = 14) := HK.out.symm.trans hk
        have HNN := Lib.hid hn
        subst hk
        go_wp2_with fail
        refine (HL.out HNN.out _ _ w2 H2.out B2.out).mono ?_
        rintro e w3 ⟨rfl, g3, hm3, hf3⟩
        have H3 := Lib.hid hm3
        have F3 := Lib.hid (F2.out.trans hf3)
        clear hm3 hf3
        go_wp2_with fail
        go_end0
        exact ⟨rfl, g3, by rw [stmtS, ← HS2.out, if_neg (by rw [← HM9.out]; exact HLG.out), if_pos ⟨HKK.out, HNN.out⟩]; exact H3.out, F3.out⟩
      · have HKK : Hid (Lot.rV c.kn 15 (Lot.tick c.kn s) = 13) := HK.out.symm.trans hk
        have HNN := Lib.hid hn
        subst hk
        go_wp2_with fail
        refine (HBR.out HNN.out _ _ w2 P1 (P1 + 1) H2.out X2.out B2.out).mono ?_
        rintro e w3 ⟨rfl, g3, hm3, hf3⟩
        have H3 := Lib.hid hm3
        have F3 := Lib.hid (F2.out.trans hf3)
        clear hm3 hf3
        go_wp2_with fail
        go_end0
        exact ⟨rfl, g3, by rw [stmtS, ← HS2.out, if_neg (by rw [← HM9.out]; exact HLG.out), if_neg (by rw [HKK.out]; omega), if_pos ⟨HKK.out, HNN.out⟩]; exact H3.out, F3.out⟩
      · have HKK : Hid (Lot.rV c.kn 15 (Lot.tick c.kn s) = 12) := HK.out.symm.trans hk
        subst hk
        have H31 : Hid (Calls Try.prog 31 #[.pointer (some ⟨c.M, 0, none⟩), .func (.func 33) #[] #[.pointer (some ⟨P1, 0, none⟩)]] w2 (MP c (Lot.branch c.kn (fun s => Lot.put 26 0 (Lot.value c.kn 1 1 s)) s2) g2 w2 (.tuple #[]))) :=
          branch33 P1 (P1 + 1) n _ 8 (by omega) (fun s => ((gr_value _ 1 _ _).trans (gr_put _ _ _)).more (by simp [vc])) (fun s => (mo_value _ 1 _ _).trans (mo_put _ _ _)) (fun s g w h hx hb => clos33 hx HC.out h hb) HC.out H2.out X2.out (B2.out.less (by omega))
        go_wp2_with fail
        refine H31.out.mono ?_
        rintro e w3 ⟨rfl, g3, hm3, hf3⟩
        have H3 := Lib.hid hm3
        have F3 := Lib.hid (F2.out.trans hf3)
        clear hm3 hf3
        go_wp2_with fail
        go_end0
        exact ⟨rfl, g3, by rw [stmtS, ← HS2.out, if_neg (by rw [← HM9.out]; exact HLG.out), if_neg (by rw [HKK.out]; omega), if_neg (by rw [HKK.out]; omega), if_pos HKK.out]; exact H3.out, F3.out⟩
      all_goals
        have HKL := Lib.hid hk
        try (have HNN := Lib.hid hn)
        try subst hk
        have H35 := Lib.hid (plain_mk _ hk0 HC.out H2.out (B2.out.less (by omega)))
        go_wp2_with fail
        refine H35.out.mono ?_
        rintro e w3 ⟨rfl, g3, hm3, hf3⟩
        have H3 := Lib.hid hm3
        have F3 := Lib.hid (F2.out.trans hf3)
        clear hm3 hf3
        go_wp2_with fail
        go_end0
        exact ⟨rfl, g3, by rw [stmtS, ← HS2.out, if_neg (by rw [← HM9.out]; exact HLG.out), ← HK.out, if_neg (by have := HKL.out; first | omega | (have := HNN.out; omega)), if_neg (by have := HKL.out; first | omega | (have := HNN.out; omega)), if_neg (by have := HKL.out; omega)]; exact H3.out, F3.out⟩
end Go.Proofs.Ythaniobijkdnoaa
