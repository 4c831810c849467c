/- How a program may begin, in the reference. Conditions: the first function takes and gives numbers, and is no inner one. -/
import Derived.Test.YthaniobijkdnoaaM
namespace Go.Proofs.Ythaniobijkdnoaa
open Go.RowKit

set_option maxRecDepth 100000 in
set_option maxHeartbeats 2000000 in
theorem entry_any (p : List Fn) (v : Value) (w : World) (hv : PV w v p) (hl1 : 0 < p.length) (hl0 : p.length ≤ 40) (hp : ∀ t ∈ (p[0]!).params, t = 1) (hr : ∀ t ∈ (p[0]!).results, t = 1) (hp2 : (p[0]!).params.length ≤ 100) (hr2 : (p[0]!).results.length ≤ 100) (hin : (p[0]!).inner = false) :
    Calls Try.prog 55 #[v] w (AnsB (.bool true) w) := by
  obtain ⟨i0, hi, hz0, hz1, hz2⟩ := info_parts inf59
  obtain ⟨a, cap, rfl, hl, HC⟩ := hv.opened
  obtain ⟨b, off, ao, ap, ar, al1, ac, an1, an, aa, al, co, cp, cr, cl1, cc, cn1, cn, ca, cl, rfl, hA, hfp⟩ := HC.out 0 w hl1 (Below.refl _ _)
  rw [Nat.zero_mul, Nat.add_zero] at hA
  obtain ⟨hlt1, h0, h1, h2, h3, h4, h5, h6, h7, h8, h9, h10⟩ := hA
  have HP : Hid (∀ W, Below w.heap.size w W → Reads W W.heap.size 1 ap (p[0]!).params.length ((p[0]!).params.map (Value.int .i64))) := fun W hb => by
    obtain ⟨A', c', he, hr⟩ := reads_of_iv (hfp.p.bel hb)
    simp only [Value.slice.injEq] at he
    obtain ⟨rfl, _, _⟩ := he
    exact hr
  have HR : Hid (∀ W, Below w.heap.size w W → Reads W W.heap.size 1 ar (p[0]!).results.length ((p[0]!).results.map (Value.int .i64))) := fun W hb => by
    obtain ⟨A', c', he, hr⟩ := reads_of_iv (hfp.r.bel hb)
    simp only [Value.slice.injEq] at he
    obtain ⟨rfl, _, _⟩ := he
    exact hr
  have HT : Hid (∀ t ∈ (p[0]!).params ++ (p[0]!).results, t = 1) := fun t ht => by
    rcases List.mem_append.1 ht with h | h
    · exact hp t h
    · exact hr t h
  clear hfp HC hv hp hr
  rw [hin] at h1
  generalize (p[0]!).params = ps, (p[0]!).results = rs at *
  generalize (p[0]!).name = s, (p[0]!).outer.length = no, (p[0]!).locals.length = nl, (p[0]!).code.length = nc, (p[0]!).lines.length = nn at *
  obtain ⟨n, hn⟩ : ∃ n, n = p.length := ⟨_, rfl⟩
  rw [← hn] at hl hl0 hl1 ⊢
  have hn0 : (n == 0) = false := by simp; omega
  clear hn
  go_enter Try.func55, Try.ntmps55
  go_wp2
  have hfar : ∀ (W W1 : World) (r : Option Nat) (j : Nat), W.grownBy W1 r → (∀ k, r = some k → w.heap.size + 2 ≤ k) → w.heap.size + 1 < W.heap.size → W1.cell? ⟨w.heap.size + 1, j, none⟩ = W.cell? ⟨w.heap.size + 1, j, none⟩ := fun W W1 r j hg hr hlt =>
    World.cell?_of_block (hg.block (w.heap.size + 1) hlt (fun e => by have := hr _ e.symm; omega))
  have HFAR := Lib.hid hfar
  clear hfar
  go_region_held3 (fun w' => w'.cell? ⟨w.heap.size + 1, 1, none⟩ = some (.bool false) ∧ w'.cell? ⟨w.heap.size + 1, 3, none⟩ = some (.slice ap ps.length cp) ∧ w'.cell? ⟨w.heap.size + 1, 4, none⟩ = some (.slice ar rs.length cr))
    (first | go_keep | (go_split_ands; refine ⟨?_, ?_, ?_⟩ <;> (first | (rw [HFAR.out _ _ _ _ hgrow2 (fun k hk => by have := (hown1.lt k hk).1; omega) (by have := hgrow1.size; simp at this; simp; omega)]; assumption) | (rw [HFAR.out _ _ _ _ hgrow1 (fun k hk => by simp [Value.ownBlock] at hk; omega) (by simp)]; first | assumption | go_simp))))
    ((first
      | (refine step_append_any _ rfl (.tmp 14) (.tmp 16) 29 rfl (w.heap.size + 2) 59 i0 (.int .i64 0) 1 8 Try.underlying29 hi hz0 hz1 hz2 rfl (by decide) (.slice (some ⟨w.heap.size + 1 + 1, 0, none⟩) 0 0) 0 [] (by rfl) (by exact row_new [] 59 (by simp) (by simp) (by simp)) _ ap ps.length cp _ (by rfl) (HP.out _ (by repeat (first | with_reducible exact Below.refl _ _ | with_reducible refine Below.drew ?_ | with_reducible refine Below.drewN ?_ _ | with_reducible refine Below.alloc ?_ (by simp <;> omega) _ | with_reducible refine Below.setCell ?_ (by simp <;> omega) _))) (ints_one _) (by unfold maxLen; omega) (by omega) (by simp) ?_; intro v1 w1 hown1 hgrow1 _; have hb1 : Below w.heap.size w w1 := Below.grown (by repeat (first | with_reducible exact Below.refl _ _ | with_reducible refine Below.drew ?_ | with_reducible refine Below.drewN ?_ _ | with_reducible refine Below.alloc ?_ (by simp <;> omega) _ | with_reducible refine Below.setCell ?_ (by simp <;> omega) _)) hgrow1 (by simp <;> omega) (fun k hk => by simp [Value.ownBlock] at hk; omega); have hs1 : w.heap.size + 2 ≤ w1.heap.size := by have := hgrow1.size; simp at this; omega)
      | (refine step_append_any _ rfl (.tmp 17) (.tmp 19) 29 rfl (w.heap.size + 2) 59 i0 (.int .i64 0) 1 8 Try.underlying29 hi hz0 hz1 hz2 rfl (by decide) v1 (0 + ps.length) _ (by rfl) (by exact hown1) _ ar rs.length cr _ (by rfl) (HR.out _ (by first | exact hb1 | exact Below.drew hb1 | exact Below.drewN hb1 _)) (ints_one _) (by unfold maxLen; omega) (by omega) (by exact hs1) ?_; intro v2 w2 hown2 hgrow2 _)))
  obtain ⟨q1, -, -⟩ : w2.cell? ⟨w.heap.size + 1, 1, none⟩ = some (.bool false) ∧ w2.cell? ⟨w.heap.size + 1, 3, none⟩ = some (.slice ap ps.length cp) ∧ w2.cell? ⟨w.heap.size + 1, 4, none⟩ = some (.slice ar rs.length cr) := by assumption
  have hiv : IV w2 v2 (ps ++ rs) := iv_of_owned (base := w.heap.size + 2) (e := 59) (by simpa using hown2) (by simp [maxLen]; omega)
  have HB2 : Hid (Below w.heap.size w w2) := hb1.grown hgrow2 (by omega) (fun k hk => by have := (hown1.lt k hk).1; omega)
  obtain ⟨a2, cap2, rfl, hl2, -, hc2⟩ := hiv
  have HC2 := Lib.hid hc2
  have hlen : (ps ++ rs).length ≤ 200 := by simp; omega
  obtain ⟨m, hm⟩ : ∃ m, m = (ps ++ rs).length := ⟨_, rfl⟩
  rw [← hm] at hl2 hlen ⊢
  have HM := Lib.hid hm
  clear hm hc2 hown1 hown2 hgrow1 hgrow2 hb1 h0 h1 h2 h3 h4 h5 h6 h7 h8 h9 h10 HP HR
  go_wp2
  go_loop [5] (fun i => ∃ k : Nat, k ≤ m ∧ i = .int .i64 k) (fun i => m - (intOf i).toNat)
  case atStart => exact ⟨0, Nat.zero_le _, rfl⟩
  case round =>
    obtain ⟨k, hk, rfl⟩ := hrel
    by_cases hlt : k < m
    · have hkl : k < (ps ++ rs).length := by have := HM.out; omega
      obtain ⟨b2, off2, rfl, hb2, hcell⟩ := HC2.out k hkl
      have hone : (ps ++ rs)[k] = 1 := HT.out _ (List.getElem_mem _)
      rw [hone] at hcell
      clear hone
      go_wp2
      go_round
      case rel => exact ⟨k + 1, by omega, by go_num⟩
      case measure => simp [intOf] <;> omega
    · go_wp2
      go_ret
      exact ⟨rfl, HB2.out⟩
end Go.Proofs.Ythaniobijkdnoaa
