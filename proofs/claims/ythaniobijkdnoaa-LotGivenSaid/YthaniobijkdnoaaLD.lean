/- A maker puts an instruction behind others, and turns a jump. Conditions: code and lines of at most 1,000,000. -/
import Derived.Test.YthaniobijkdnoaaLC
namespace Go.Proofs.Ythaniobijkdnoaa
open Go.RowKit

theorem reads_new2 (w : World) (x y : Int) (t : TypeId) (H : Nat) (h : H = w.heap.size) : Reads (w.alloc (.cells #[.int .i64 x, .int .i64 y] t)) (w.heap.size + 1) 2 (some ⟨H, 0, none⟩) 1 [.int .i64 x, .int .i64 y] := by
  subst h
  refine ⟨rfl, fun _ => ⟨_, rfl, Nat.lt_succ_self _, fun j u hu => ?_⟩⟩
  rw [add_none, Nat.zero_add, cell_of (heap_new w _)]
  simpa using hu
theorem reads_new1 (w : World) (x : Int) (t : TypeId) (H : Nat) (h : H = w.heap.size) : Reads (w.alloc (.cells #[.int .i64 x] t)) (w.heap.size + 1) 1 (some ⟨H, 0, none⟩) 1 [.int .i64 x] := by
  subst h
  refine ⟨rfl, fun _ => ⟨_, rfl, Nat.lt_succ_self _, fun j u hu => ?_⟩⟩
  rw [add_none, Nat.zero_add, cell_of (heap_new w _)]
  simpa using hu
/-- the maker's cells -/
theorem MK.cells {c : Cx} {s : St} {g : Gh} {w : World} (h : MK c s g w) : w.cell? ⟨c.M, 0, none⟩ = some (dvOf c.Bd c.Bl) ∧ w.cell? ⟨c.M, 8, none⟩ = some g.ov ∧ w.cell? ⟨c.M, 9, none⟩ = some g.cv ∧ w.cell? ⟨c.M, 10, none⟩ = some g.lv ∧ w.cell? ⟨c.M, 14, none⟩ = some (.int .i64 s.line) ∧ ∀ o, w.frozen? ⟨c.M, o, none⟩ = false :=
  ⟨cell_of h.m 0, cell_of h.m 8, cell_of h.m 9, cell_of h.m 10, cell_of h.m 14, fun o => frozen_of h.m o⟩

theorem row_formN {w : World} {base size : Nat} {e : TypeId} {v : Value} {n : Nat} {xs : List Value} (h : w.ownsRow base e size v n xs) : ∃ A c, v = .slice A n c := by
  rcases h.2 with ⟨rfl, rfl⟩ | ⟨g, cap, cur, rfl, _⟩
  · exact ⟨none, 0, rfl⟩
  · exact ⟨_, cap, rfl⟩
theorem far_heap {w w1 : World} {o x : Obj} {r : Option Nat} {m M : Nat} (hM : M = m) (hm : w.heap[m]? = some x) (hg : (w.alloc o).grownBy w1 r) (hr : r ≠ some m) : w1.heap[M]? = w.heap[M]? := by
  subst hM
  have hlt := heap_lt hm
  rw [hg.block M (by simp; omega) (fun e => hr e.symm)]
  exact heap_old _ _ _ hlt
theorem far_cell {w w1 : World} {o x : Obj} {r : Option Nat} {m M : Nat} (hM : M = m) (hm : w.heap[m]? = some x) (hg : (w.alloc o).grownBy w1 r) (hr : r ≠ some m) (k : Nat) : w1.cell? ⟨M, k, none⟩ = w.cell? ⟨M, k, none⟩ :=
  World.cell?_of_block (a := ⟨M, k, none⟩) (far_heap hM hm hg hr)
theorem far_frozen {w w1 : World} {o x : Obj} {r : Option Nat} {m M : Nat} (hM : M = m) (hm : w.heap[m]? = some x) (hg : (w.alloc o).grownBy w1 r) (hr : r ≠ some m) (k : Nat) : w1.frozen? ⟨M, k, none⟩ = w.frozen? ⟨M, k, none⟩ :=
  World.frozen?_of_block (a := ⟨M, k, none⟩) (far_heap hM hm hg hr)

theorem grown_undrew {w w1 : World} {r : Option Nat} (h : w.drew.grownBy w1 r) : w.grownBy w1 r := ⟨h.os, h.tape, h.output, h.size, h.block⟩

set_option maxRecDepth 100000 in
set_option maxHeartbeats 2000000 in
theorem put_mk {c : Cx} {s : St} {g : Gh} {w : World} (h : MK c s g w) (op a : Int) (h1 : s.code.length ≤ 1000000) (h2 : s.lines.length ≤ 1000000) :
    Calls Try.prog 23 #[.pointer (some ⟨c.M, 0, none⟩), .int .i64 op, .int .i64 a] w (MP c (Lot.put op a s) g w (.int .i64 s.code.length)) := by
  obtain ⟨i0, hi, hz0, hz1, hz2⟩ := info_parts inf73
  obtain ⟨j0, ji, jz0, jz1, jz2⟩ := info_parts inf3
  obtain ⟨-, -, c9, -, -, fz⟩ := h.cells
  have f9 := fz 9
  have H := Lib.hid h
  have hA := h.bel (w' := w.alloc (.cells #[.int .i64 op, .int .i64 a] 73)) ((Below.refl _ _).alloc (Nat.le_refl _) _)
  have HA := Lib.hid hA
  have HR := Lib.hid (reads_new2 w op a 73 w.heap.size rfl)
  obtain ⟨M, hM⟩ : ∃ M, M = c.M := ⟨_, rfl⟩
  have HM := Lib.hid hM
  obtain ⟨cv, hcv⟩ : ∃ v, v = g.cv := ⟨_, rfl⟩
  have HCV := Lib.hid hcv
  rw [← hM] at c9 f9 ⊢
  rw [← hcv] at c9
  clear h hA fz hM hcv
  go_enter Try.func23, Try.ntmps23
  go_wp2_with ((at_builtin; refine wpList_append_any _ rfl _ _ 30 rfl 0 73 i0 (.agg #[.int .i64 0, .int .i64 0]) 2 16 Try.underlying30 hi hz0 hz1 hz2 rfl (by decide) cv s.code.length (cellsOf s.code) rfl (by rw [HCV.out]; exact HA.out.cd) _ (some ⟨w.heap.size, 0, none⟩) 1 1 [.int .i64 op, .int .i64 a] rfl HR.out (by simp [Value.oneCell']) (by unfold maxLen; omega) (by omega) (Nat.zero_le _) ?_; intro v1 w1 hown1 hg1 hv1; obtain ⟨A1, k1, rfl⟩ := row_formN hown1; have q9 : w1.cell? ⟨M, 9, none⟩ = some cv := (far_cell HM.out H.out.m hg1 (by rw [HCV.out]; exact H.out.nm.1) 9).trans c9; have qf : w1.frozen? ⟨M, 9, none⟩ = false := (far_frozen HM.out H.out.m hg1 (by rw [HCV.out]; exact H.out.nm.1) 9).trans f9; have HO1 := Lib.hid hown1; have HG1 := Lib.hid hg1; have HV1 := Lib.hid hv1; clear hown1 hg1 hv1))
  have hS := HA.out.setCode (w1 := w1) (v' := .slice A1 (s.code.length + 1) k1) (s.code ++ [(op, a)]) (by rw [cellsOf_app, List.length_append]; exact HO1.out) (by have h := HG1.out; rw [HCV.out] at h; exact h) (fun k hk => by
    rcases HV1.out with e | e
    · exact .inl (by rw [e, HCV.out] at hk; exact hk)
    · rw [e] at hk; exact .inr (by simp at hk ⊢; omega))
  rw [← HM.out] at hS
  generalize w1.setCell ⟨M, 9, none⟩ (.slice A1 (s.code.length + 1) k1) = w2 at *
  have H2 := Lib.hid hS.1
  have HF2 := Lib.hid hS.2
  have hl2 : w2.heap.size = w2.heap.size := rfl
  obtain ⟨-, -, d9, d10, d14, fz⟩ := H2.out.cells
  rw [← HM.out] at d9 d10 d14 fz
  have f10 := fz 10
  dsimp only at d9 d10 d14
  clear hS q9 qf HO1 HG1 HV1 hl2 fz
  have h2A := H2.out.bel (w' := w2.alloc (.cells #[.int .i64 s.line] 3)) ((Below.refl _ _).alloc (Nat.le_refl _) _)
  have H2A := Lib.hid h2A
  have HR2 := Lib.hid (reads_new1 w2 s.line 3 w2.heap.size rfl)
  obtain ⟨lv, hlv⟩ : ∃ v, v = g.lv := ⟨_, rfl⟩
  have HLV := Lib.hid hlv
  rw [← hlv] at d10
  clear h2A hlv c9 f9 d9
  have hMlt : M < w2.heap.size := by rw [HM.out]; exact heap_lt H2.out.m
  go_region_law
    ((refine step_append_any _ rfl (.tmp 26) (.tmp 31) 22 rfl 0 3 j0 (.int .i64 0) 1 8 Try.underlying22 ji jz0 jz1 jz2 rfl (by decide) lv s.lines.length _ (by rfl) (by rw [HLV.out]; exact H2A.out.ln) _ (some ⟨w2.heap.size, 0, none⟩) 1 1 [.int .i64 s.line] (by rfl) (by exact HR2.out) (by simp [Value.oneCell']) (by unfold maxLen; omega) (by omega) (Nat.zero_le _) ?_; intro v3 w3 hown3 hg3 hv3; obtain ⟨A3, k3, rfl⟩ := row_formN hown3; have hg3' := grown_undrew hg3; have q10 : w3.cell? ⟨M, 10, none⟩ = some lv := (far_cell HM.out H2.out.m hg3' (by rw [HLV.out]; exact H2.out.nm.2.1) 10).trans d10; have q14 : w3.cell? ⟨M, 14, none⟩ = some (.int .i64 s.line) := (far_cell HM.out H2.out.m hg3' (by rw [HLV.out]; exact H2.out.nm.2.1) 14).trans d14; have qf : w3.frozen? ⟨M, 10, none⟩ = false := (far_frozen HM.out H2.out.m hg3' (by rw [HLV.out]; exact H2.out.nm.2.1) 10).trans f10; have HO3 := Lib.hid hown3; have HG3 := Lib.hid hg3'; have HV3 := Lib.hid hv3; clear hown3 hg3 hg3' hv3))
  all_goals
    have hS := H2A.out.setLines (w1 := w3) (v' := .slice A3 (s.lines.length + 1) k3) (s.lines ++ [s.line]) (by rw [List.length_append, List.map_append]; exact HO3.out) (by have h := HG3.out; rw [HLV.out] at h; exact h) (fun k hk => by
      rcases HV3.out with e | e
      · exact .inl (by rw [e, HLV.out] at hk; exact hk)
      · rw [e] at hk; exact .inr (by simp at hk ⊢; omega))
    rw [← HM.out] at hS
    generalize w3.setCell ⟨M, 10, none⟩ (.slice A3 (s.lines.length + 1) k3) = w4 at *
    have H4 := Lib.hid hS.1
    have HF4 := Lib.hid hS.2
    obtain ⟨-, -, d9, -, -, -⟩ := H4.out.cells
    rw [← HM.out] at d9
    dsimp only at d9
    clear hS q10 q14 qf d10 d14 f10 HO3 HG3 HV3
    go_wp2
    go_ret
    refine ⟨congrArg Ending.returned ?_, _, H4.out, (Fr.of_bel ((Below.refl _ _).alloc (Nat.le_refl _) _)).trans (HF2.out.trans ((Fr.of_bel ((Below.refl _ _).alloc (Nat.le_refl _) _)).trans HF4.out))⟩
    first | rfl | (show Value.int .i64 _ = _; congr 1; omega) | trace_state

set_option maxRecDepth 100000 in
set_option maxHeartbeats 2000000 in
theorem here_mk {c : Cx} {s : St} {g : Gh} {w : World} (h : MK c s g w) (i : Nat) (hi : i < s.code.length) (h1 : s.code.length ≤ 1000000) :
    Calls Try.prog 43 #[.pointer (some ⟨c.M, 0, none⟩), .int .i64 i] w (MP c (Lot.here i s) g w (.tuple #[])) := by
  obtain ⟨b, cap, hcv, -⟩ : ∃ b cap, g.cv = .slice (some ⟨b, 0, none⟩) s.code.length cap ∧ s.code.length ≤ cap := by
    rcases h.cd.2 with ⟨_, h0⟩ | ⟨b, cap, cur, e, _, _, hle, _⟩
    · omega
    · exact ⟨b, cap, e, hle⟩
  have hcap : s.code.length ≤ cap ∧ cap ≤ 9223372036854775807 := by
    have h' := h.cd
    rw [hcv] at h'
    rcases h'.2 with ⟨e, _⟩ | ⟨b', cap', cur, e, _, _, hle, hm, _⟩
    · cases e
    · injection e with e1 e2 e3
      subst e3
      exact ⟨hle, hm⟩
  obtain ⟨hcap1, hcap2⟩ := hcap
  have hrow := h.cd
  rw [hcv] at hrow
  have hlen := cellsOf_len s.code
  obtain ⟨u, hu⟩ : ∃ u, (cellsOf s.code)[i * 2 + 1]? = some u := ⟨_, List.getElem?_eq_getElem (by omega)⟩
  have hcell : w.cell? ⟨b, i * 2 + 1, none⟩ = some u := (hrow.cellAt (i * 2 + 1) (by omega)).trans hu
  have hfz : w.frozen? ⟨b, i * 2 + 1, none⟩ = false := hrow.frozenAt _
  have hP := h.patch hcv i hi (s.code.length : Int)
  have HP := Lib.hid hP
  obtain ⟨-, -, c9, -, -, -⟩ := h.cells
  rw [hcv] at c9
  obtain ⟨n, hn⟩ : ∃ n, n = s.code.length := ⟨_, rfl⟩
  have HN := Lib.hid hn
  rw [← hn] at c9 hi h1 hcap1
  have hi0 : (0 : Int) ≤ (i : Int) := by omega
  have hi1 : (i : Int) < (n : Int) := by omega
  generalize c.M = M at c9 ⊢
  clear h hcv hrow hlen hu hP hn
  go_enter Try.func43, Try.ntmps43
  go_wp2
  go_region
  all_goals
    go_end0
    rw [HN.out]
    exact ⟨rfl, g, HP.out.1.drew, HP.out.2.trans (Fr.of_bel (Below.drew (Below.refl _ _)))⟩
end Go.Proofs.Ythaniobijkdnoaa
