/- A maker puts any statement, and makes a body. Conditions: rows that are not too long. -/
import Derived.Test.YthaniobijkdnoaaLR
namespace Go.Proofs.Ythaniobijkdnoaa
open Go.RowKit

theorem stmt_zero (k : Kn) (s : St) (f : St → St) : Lot.stmt k 0 s = stmtS k ((0 : Nat) : Int) f f s := by
  unfold Lot.stmt stmtS
  simp
theorem stmt_succ (k : Kn) (n : Nat) (s : St) : Lot.stmt k (n + 1) s = stmtS k ((n + 1 : Nat) : Int) (Lot.loop k (Lot.stmt k n)) (Lot.branch k (Lot.stmt k n)) s := by
  rw [Lot.stmt, stmtS]
  have e : (0 < n + 1) = (0 < ((n + 1 : Nat) : Int)) := by rw [eq_iff_iff]; omega
  simp only [e]
theorem stmt_mk {c : Cx} (hc : CxOk c) (n : Nat) (hn : n ≤ 3) : ∀ (s : St) (g : Gh) (w : World), MK c s g w → Bd (1100 + 40 * n) s → Calls Try.prog 22 #[.pointer (some ⟨c.M, 0, none⟩), .int .i64 n] w (MP c (Lot.stmt c.kn n s) g w (.tuple #[])) := by
  induction n with
  | zero =>
    intro s g w h hb
    rw [stmt_zero c.kn s id]
    exact stmt_walk ((0 : Nat) : Int) (by omega) (by omega) id id 1000 (by omega) (by omega) hc (fun h0 => absurd h0 (by omega)) (fun h0 => absurd h0 (by omega)) h (hb.less (by omega))
  | succ n ih =>
    intro s g w h hb
    have ih' := ih (by omega)
    have hgr : ∀ s, Gr (1100 + 40 * n) s (Lot.stmt c.kn n s) := fun s => (gr_stmt hc.kb n s).more (by omega)
    have e1 : ((n + 1 : Nat) : Int) - 1 = (n : Int) := by omega
    rw [stmt_succ]
    refine stmt_walk ((n + 1 : Nat) : Int) (by omega) (by omega) _ _ (1100 + 40 * n + 30) (by omega) (by omega) hc (fun _ s g w h hb => ?_) (fun _ s g w P1 P2 h hx hb => ?_) h (hb.less (by omega))
    · exact loop_mk ((n + 1 : Nat) : Int) (by omega) (by omega) (Lot.stmt c.kn n) (1100 + 40 * n) (by omega) hgr (fun s g w h hb => by rw [e1]; exact ih' s g w h hb) hc h (hb.less (by omega))
    · exact branch32 P1 P2 ((n + 1 : Nat) : Int) (Lot.stmt c.kn n) (1100 + 40 * n) (by omega) hgr (mo_stmt c.kn n) (fun s g w h hx hb => clos32 (s := s) (by omega) (by omega) _ hx (by rw [e1]; exact ih' s g w h hb)) hc h hx (hb.less (by omega))

theorem stmts_snoc (k : Kn) (m : Nat) (s : St) : Lot.stmts k (m + 1) s = Lot.stmt k 3 (Lot.stmts k m s) := by
  induction m generalizing s with
  | zero => rfl
  | succ m ih => exact ih _
theorem gr_stmts {k : Kn} (h : KnB k) (m : Nat) : ∀ s, Gr (130 * m) s (Lot.stmts k m s) := by
  induction m with
  | zero => exact fun s => Gr.refl s
  | succ m ih => exact fun s => ((gr_stmt h 3 s).trans (ih _)).more (by omega)
def body0 (c : Kn) (s : St) : St := { s with line := 10 * c.me + 1 }
def bodyE (s : St) : St := { s with line := s.line + 1 }
theorem body_eq (c : Kn) (s : St) : Lot.body c s = Lot.put 25 0 (bodyE (Lot.stmts c (Lot.rV c 7 (body0 c s) + 1).toNat (Lot.rS c 7 (body0 c s)))) := rfl
theorem MK.lnc {c : Cx} {s : St} {g : Gh} {w : World} (h : MK c s g w) : w.cell? ⟨c.M, 14, none⟩ = some (.int .i64 s.line) ∧ w.frozen? ⟨c.M, 14, none⟩ = false := ⟨cell_of h.m 14, frozen_of h.m 14⟩
set_option maxRecDepth 100000 in
set_option maxHeartbeats 4000000 in
theorem body_mk {c : Cx} {s : St} {g : Gh} {w : World} (hm0 : 0 ≤ c.kn.me) (hm1 : c.kn.me ≤ 40) (hc : CxOk c) (h : MK c s g w) (hcd : s.code.length ≤ 10) (hln : s.lines.length ≤ 10) (hlo : s.locals.length ≤ 1000) :
    Calls Try.prog 17 #[.pointer (some ⟨c.M, 0, none⟩)] w (MP c (Lot.body c.kn s) g w (.tuple #[])) := by
  have m0 : w.cell? ⟨c.M, 2, none⟩ = some (.int .i64 c.kn.me) := cell_of h.m 2
  obtain ⟨l0, f0⟩ := h.lnc
  have hs := h.setLine (10 * c.kn.me + 1)
  obtain ⟨me, hme⟩ : ∃ x, x = c.kn.me := ⟨_, rfl⟩
  have HME := Lib.hid hme
  rw [← hme] at m0 hm0 hm1 hs
  have H1 : Hid (MK c (body0 c.kn s) g (w.setCell ⟨c.M, 14, none⟩ (.int .i64 (10 * me + 1)))) := by
    have h1 := hs.1
    rw [hme] at h1 ⊢
    exact h1
  have F1 : Hid (Fr c g g w (w.setCell ⟨c.M, 14, none⟩ (.int .i64 (10 * me + 1)))) := hs.2
  have B1 : Hid (Bd 3000 (body0 c.kn s)) := by
    have : Bd 3000 (body0 c.kn s) := by unfold Bd body0; dsimp only; omega
    exact this
  have HC := Lib.hid hc
  clear h hc hme hs
  go_enter Try.func17, Try.ntmps17
  go_upto_region 1 with fail
  generalize w.setCell ⟨c.M, 14, none⟩ (.int .i64 (10 * me + 1)) = w1 at *
  have dv1 := H1.out.dv
  clear m0 l0 f0
  have dv0 := True.intro
  go_wp2_with fail
  refine (draw_mk HC.out H1.out 7 (by omega) (by omega)).mono ?_
  rintro e w2 ⟨rfl, g2, hm2, hf2⟩
  have H2 := Lib.hid hm2
  have F2 := Lib.hid (F1.out.trans hf2)
  have B2 := Lib.hid (B1.out.step (a := 3000) (gr_rS c.kn 7 _) (by omega))
  obtain ⟨d, hd⟩ : ∃ x, x = Lot.rV c.kn 7 (body0 c.kn s) := ⟨_, rfl⟩
  have hdq : 0 ≤ d ∧ d < 7 := by rw [hd]; exact drV_bd _ _ _ (by omega) (by omega)
  obtain ⟨hda, hdb⟩ := hdq
  rw [← hd]
  have HD := Lib.hid hd
  clear hd
  have dv2 := H2.out.dv
  clear hm2 hf2 dv1
  obtain ⟨n, hn⟩ : ∃ n : Nat, (n : Int) = d + 1 := ⟨(d + 1).toNat, by omega⟩
  have hn7 : n ≤ 7 := by omega
  obtain ⟨s2, hs2⟩ : ∃ x, x = Lot.rS c.kn 7 (body0 c.kn s) := ⟨_, rfl⟩
  have HS2 := Lib.hid hs2
  rw [← hs2] at H2 B2
  have HN := Lib.hid hn
  clear hs2 dv2
  go_wp2_with fail
  go_loopw [17] (fun i wr => ∃ (k : Nat) (g' : Gh), k ≤ n ∧ i = .int .i64 k ∧ Hid (MK c (Lot.stmts c.kn k s2) g' wr) ∧ Hid (Fr c g g' w wr)) (fun i _ => n - (intOf i).toNat)
  case atStart => exact ⟨0, g2, Nat.zero_le _, rfl, H2, F2⟩
  case round =>
    obtain ⟨k, g', hk, rfl, HM, HF⟩ := hrel
    by_cases hlt : k < n
    · have BK : Hid (Bd 1220 (Lot.stmts c.kn k s2)) := Lib.hid (B2.out.step (gr_stmts HC.out.kb k s2) (by omega))
      have hlt' : (k : Int) < d + 1 := by omega
      have H22 : Hid (Calls Try.prog 22 #[.pointer (some ⟨c.M, 0, none⟩), .int .i64 3] wr (MP c (Lot.stmt c.kn 3 (Lot.stmts c.kn k s2)) g' wr (.tuple #[]))) := stmt_mk HC.out 3 (by omega) _ _ _ HM.out (BK.out.less (by omega))
      clear hn
      go_wp2_with fail
      refine H22.out.mono ?_
      rintro e w3 ⟨rfl, g3, hm3, hf3⟩
      have H3 := Lib.hid hm3
      have F3 := Lib.hid (HF.out.trans hf3)
      clear hm3 hf3
      go_wp2_with fail
      go_roundw
      case rel => exact ⟨k + 1, g3, by omega, by go_num, Lib.hid (by rw [stmts_snoc]; exact H3.out), F3.out⟩
      case measure => simp [intOf] <;> omega
    · obtain rfl : k = n := by omega
      have hge : ¬ (k : Int) < d + 1 := by omega
      have BK : Hid (Bd 1000 (Lot.stmts c.kn k s2)) := Lib.hid (B2.out.step (gr_stmts HC.out.kb k s2) (by omega))
      obtain ⟨l0, f0⟩ := HM.out.lnc
      obtain ⟨s3, hs3⟩ : ∃ x, x = Lot.stmts c.kn k s2 := ⟨_, rfl⟩
      have HS3 := Lib.hid hs3
      rw [← hs3] at HM BK l0
      obtain ⟨ln, hln⟩ : ∃ x, x = s3.line := ⟨_, rfl⟩
      have hlb : 0 ≤ ln ∧ ln ≤ 100000 := by rw [hln]; have := BK.out.2.2.2; omega
      obtain ⟨hl0, hl1⟩ := hlb
      have hst := HM.out.setLine (s3.line + 1)
      rw [← hln] at l0
      have HL := Lib.hid hln
      have H4 : Hid (MK c (bodyE s3) g' (wr.setCell ⟨c.M, 14, none⟩ (.int .i64 (ln + 1)))) := by rw [hln]; exact hst.1
      have F4 : Hid (Fr c g g' w (wr.setCell ⟨c.M, 14, none⟩ (.int .i64 (ln + 1)))) := by rw [hln]; exact HF.out.trans hst.2
      have B4 : Hid (Bd 1 (bodyE s3)) := by
        have h := BK.out
        have : Bd 1 (bodyE s3) := by unfold Bd bodyE at *; dsimp only; omega
        exact this
      clear hs3 hln hst
      go_wp2_with fail
      refine (put_v H4.out 25 0 B4.out).mono ?_
      rintro e w5 ⟨rfl, g5, hm5, hf5⟩
      have H5 := Lib.hid hm5
      have F5 := Lib.hid (F4.out.trans hf5)
      clear hm5 hf5
      go_wp2_with fail
      go_end0
      exact ⟨rfl, g5, by rw [body_eq, ← HS2.out, ← HD.out, ← HN.out, Int.toNat_natCast, ← HS3.out]; exact H5.out, F5.out⟩
end Go.Proofs.Ythaniobijkdnoaa
