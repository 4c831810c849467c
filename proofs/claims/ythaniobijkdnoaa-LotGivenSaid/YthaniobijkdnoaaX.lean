/- The reference finds a good program without tables fine. Conditions: what good is (GoodFn, GoodP). -/
import Derived.Test.YthaniobijkdnoaaW
namespace Go.Proofs.Ythaniobijkdnoaa
open Go.RowKit

/-- each instruction fits a table of types -/
def Typed (p : List Fn) (f : Fn) : Prop := ∃ T out : Nat → List Int, T 0 = [] ∧ (∀ pc, pc < f.code.length → ∃ s a b, T pc = s ++ a ∧ out pc = s ++ b ∧ (s ++ a).length ≤ 60 ∧ (s ++ b).length ≤ 60 ∧ Need p f f.code[pc]! (s ++ a) a b) ∧
  ∀ pc, pc < f.code.length → ∀ j ∈ nextOf (f.code[pc]!).1 (f.code[pc]!).2 pc, ∃ i : Nat, j = i ∧ i < f.code.length ∧ T i = out pc
structure GoodFn (p : List Fn) (k : Nat) : Prop where
  calls : ∀ pc, pc < (p[k]!).code.length → CallOk p k (p[k]!).code[pc]!
  places : ∀ pc, pc < (p[k]!).code.length → PlaceOk p k (p[k]!).code[pc]!
  reach : ∀ i, i < (p[k]!).code.length → Rch (p[k]!).code i
  typed : Typed p p[k]!
structure GoodP (p : List Fn) : Prop where
  pr : PR p
  gp : ∀ t ∈ (p[0]!).params, t = 1
  gr : ∀ t ∈ (p[0]!).results, t = 1
  gi : (p[0]!).inner = false
  fs : ∀ k, k < p.length → GoodFn p k

theorem check_any (p : List Fn) (v : Value) (w : World) (hv : PV w v p) (k : Nat) (hk : k < p.length) (hg : GoodP p) : Calls Try.prog 39 #[v, .int .i64 k] w (Ok2 w) := by
  have hf : FnR (p[k]!) := by rw [getElem!_pos p k hk]; exact hg.pr.f _ (List.getElem_mem _)
  have hf0 : FnR (p[0]!) := by rw [getElem!_pos p 0 (by omega)]; exact hg.pr.f _ (List.getElem_mem _)
  have hG := hg.fs k hk
  have hn2 := hg.pr.n2
  obtain ⟨a, cap, rfl, hl, HC⟩ := hv.opened
  obtain ⟨b, off, ao, ap, ar, al1, ac, an1, an, aa, al, co, cp, cr, cl1, cc, cn1, cn, ca, cl, rfl, hA, hfp⟩ := HC.out k w hk (Below.refl _ _)
  obtain ⟨cb, coff, rfl, -⟩ := code_at hfp.c 0 hf.c1
  have H56 : ∀ (pc : Nat) W, pc < (p[k]!).code.length → Below w.heap.size w W → Calls Try.prog 56 #[.agg #[.slice (some ⟨b, off, none⟩) p.length cap], .int .i64 k, .int .i64 pc] W (AnsB (.int .i64 0) W) := fun pc W hpc hb => calls_any p _ W (hv.bel hb) k hk pc hpc hn2 hf.c2 (by have := hf.r.2; omega) (hG.calls pc hpc)
  have H57 : ∀ (pc : Nat) W, pc < (p[k]!).code.length → Below w.heap.size w W → Calls Try.prog 57 #[.agg #[.slice (some ⟨b, off, none⟩) p.length cap], .int .i64 k, .int .i64 pc] W (AnsB (.int .i64 0) W) := fun pc W hpc hb => places_any p _ W (hv.bel hb) k hk pc hpc hn2 hf.c2 (by have := hf.o.2; omega) (hG.places pc hpc)
  have H58 : ∀ W, Below w.heap.size w W → Calls Try.prog 58 #[.agg #[.string (p[k]!).name, .bool (p[k]!).inner, .slice ao (p[k]!).outer.length co, .slice ap (p[k]!).params.length cp, .slice ar (p[k]!).results.length cr, .slice al1 (p[k]!).locals.length cl1, .slice (some ⟨cb, coff, none⟩) (p[k]!).code.length cc, .slice an1 (p[k]!).lines.length cn1, .slice an 0 cn, .slice aa 0 ca, .slice al 0 cl]] W (ReachPost (p[k]!).code.length W) := fun W hb =>
    reach_any p[k]! W _ ⟨_, _, _, _, _, _, _, _, _, _, _, _, rfl, hfp.bel hb⟩ hf.c1 hf.c2 (fun x hx => by
      obtain ⟨i, hi, rfl⟩ := List.getElem_of_mem hx
      have h1 := hf.c _ hx
      have h2 := hG.places i hi
      rw [getElem!_pos _ i hi] at h2
      exact ⟨h1.1, h1.2.1, h2.1, h2.2.1⟩) hG.reach
  by_cases h0 : k = 0
  · have H55 : ∀ W, Below w.heap.size w W → Calls Try.prog 55 #[.agg #[.slice (some ⟨b, off, none⟩) p.length cap]] W (AnsB (.bool true) W) := fun W hb => entry_any p _ W (hv.bel hb) (by omega) hn2 hg.gp hg.gr (by have := hf0.p.2; omega) (by have := hf0.r.2; omega) hg.gi
    exact check_first w b off p.length cap k _ _ ao ap ar al1 an1 an aa al _ co _ cp _ cr _ cl1 _ cc _ cn1 cn ca cl cb coff hA hk hl hn2 hf.c1 hf.c2 (by simpa using h0) H55 H56 H57 H58
  · exact check_later w b off p.length cap k _ _ ao ap ar al1 an1 an aa al _ co _ cp _ cr _ cl1 _ cc _ cn1 cn ca cl cb coff hA hk hl hn2 hf.c1 hf.c2 (by simpa using h0) H56 H57 H58

theorem stacks_any (p : List Fn) (v : Value) (w : World) (hv : PV w v p) (k : Nat) (hk : k < p.length) (hg : GoodP p) : Calls Try.prog 40 #[v, .int .i64 k] w (StacksPost w) := by
  have hf : FnR (p[k]!) := by rw [getElem!_pos p k hk]; exact hg.pr.f _ (List.getElem_mem _)
  have hG := hg.fs k hk
  have hn2 := hg.pr.n2
  obtain ⟨T, out, hT0, hT, hN⟩ := hG.typed
  have hsl := hf.slots
  have hs1 := hf.p.2
  have hs2 := hf.r.2
  have hs3 := hf.l.2
  have hs4 := hf.o.2
  have hss : (slotsOf p[k]!).length ≤ 300 := by simp only [slotsOf, List.length_append]; omega
  obtain ⟨a, cap, rfl, hl, HC⟩ := hv.opened
  obtain ⟨b, off, ao, ap, ar, al1, ac, an1, an, aa, al, co, cp, cr, cl1, cc, cn1, cn, ca, cl, rfl, hA, hfp⟩ := HC.out k w hk (Below.refl _ _)
  obtain ⟨cb, coff, rfl, -⟩ := code_at hfp.c 0 hf.c1
  have key : ∀ (i : Nat) W, i < (p[k]!).code.length → Below w.heap.size w W → cb < W.heap.size ∧ W.cell? ⟨cb, coff + i * 2, none⟩ = some (.int .i64 ((p[k]!).code[i]!).1) ∧ W.cell? ⟨cb, coff + i * 2 + 1, none⟩ = some (.int .i64 ((p[k]!).code[i]!).2) := fun i W hi hb => by
    obtain ⟨b', off', he, h3, h4, h5⟩ := code_at (hfp.c.bel hb) i hi
    simp only [Option.some.injEq, Addr.mk.injEq] at he
    obtain ⟨rfl, rfl, _⟩ := he
    exact ⟨h3, h4, h5⟩
  refine stacks_walk w b off p.length cap k _ _ ao ap ar al1 an1 an aa al _ co _ cp _ cr _ cl1 _ cc _ cn1 cn ca cl cb coff (p[k]!).code T out hA hk hl hn2 hf.c1 hf.c2 hT0 ?_ ?_ ?_ ?_ ?_
  · intro pc v3 W hpc hb hiv
    obtain ⟨s, a', b', e1, e2, l1, l2, hnd⟩ := hT pc hpc
    rw [e2]
    exact effect_any p _ W (hv.bel hb) k hk pc hpc hn2 hf.c2 ⟨by omega, by omega, by omega⟩ s a' b' v3 (by rw [← e1]; exact hiv) l1 l2 hss (by omega) hnd
  · exact hN
  · intro pc v1 v2 W hpc h1 h2
    obtain ⟨s, a', b', e1, e2, l1, l2, hnd⟩ := hT pc hpc
    exact types_any (T pc) v1 v2 W h1 h2 (by rw [e1]; omega)
  · exact fun pc W hpc hb => next_any W _ _ _ _ _ _ _ _ _ _ _ _ _ _ _ pc cb coff _ _ hpc hf.c2 (key pc W hpc hb).1 (key pc W hpc hb).2.1 (key pc W hpc hb).2.2 (hG.places pc hpc).2.1
  · exact fun pc W hpc hb => opens_any W _ _ _ _ _ _ _ _ _ _ _ _ _ _ _ pc cb coff _ _ hpc hf.c2 (key pc W hpc hb).1 (key pc W hpc hb).2.1 (key pc W hpc hb).2.2 (by simpa using (hG.places pc hpc).1)

set_option maxRecDepth 100000 in
set_option maxHeartbeats 2000000 in
theorem func_any (p : List Fn) (v : Value) (w : World) (hv : PV w v p) (k : Nat) (hk : k < p.length) (hg : GoodP p) : Calls Try.prog 25 #[v, .int .i64 k] w (Ok2 w) := by
  have H39 : Hid (∀ W, Below w.heap.size w W → Calls Try.prog 39 #[v, .int .i64 k] W (Ok2 W)) := fun W hb => check_any p v W (hv.bel hb) k hk hg
  have H40 : Hid (∀ W, Below w.heap.size w W → Calls Try.prog 40 #[v, .int .i64 k] W (StacksPost W)) := fun W hb => stacks_any p v W (hv.bel hb) k hk hg
  have hn2 := hg.pr.n2
  obtain ⟨a, cap, rfl, hl, HC⟩ := hv.opened
  obtain ⟨b, off, ao, ap, ar, al1, ac, an1, an, aa, al, co, cp, cr, cl1, cc, cn1, cn, ca, cl, rfl, hA, -⟩ := HC.out k w hk (Below.refl _ _)
  have HA := Lib.hid hA
  have H9 : Hid (∀ W, Calls Try.prog 9 #[.agg #[.string (p[k]!).name, .bool (p[k]!).inner, .slice ao (p[k]!).outer.length co, .slice ap (p[k]!).params.length cp, .slice ar (p[k]!).results.length cr, .slice al1 (p[k]!).locals.length cl1, .slice ac (p[k]!).code.length cc, .slice an1 (p[k]!).lines.length cn1, .slice an 0 cn, .slice aa 0 ca, .slice al 0 cl]] W (AnsB (.bool true) W)) := fun W => bare_agg W _ _ _ _ _ _ _ _ an aa al cn ca cl
  generalize (p[k]!).name = s, (p[k]!).inner = inn, (p[k]!).outer.length = no, (p[k]!).params.length = np, (p[k]!).results.length = nr, (p[k]!).locals.length = nl, (p[k]!).code.length = nc, (p[k]!).lines.length = nn at HA H9
  obtain ⟨n, hn⟩ : ∃ n, n = p.length := ⟨_, rfl⟩
  rw [← hn] at hl hk hn2 H39 H40 ⊢
  clear hA HC hn hv hg
  go_enter Try.func25, Try.ntmps25
  go_wp2_with fail
  refine (H39.out _ ((Below.refl _ _).alloc (Nat.le_refl _) _)).mono ?_
  rintro e w1 ⟨rfl, hb⟩
  have HB1 : Hid (Below w.heap.size w w1) := Below.trans ((Below.refl _ _).alloc (Nat.le_refl _) _) (hb.mono (by simp))
  have q1 : w1.cell? ⟨w.heap.size, 0, none⟩ = some (.slice (some ⟨b, off, none⟩) n cap) := (hb.cell (p := ⟨w.heap.size, 0, none⟩) (by simp)).trans (by go_simp)
  have hz1 : w.heap.size < w1.heap.size := by have := hb.size; simp at this; omega
  clear hb
  go_wp2_with fail
  refine (H40.out _ HB1.out).mono ?_
  rintro e w2 ⟨rA, rn, rc, rB, rm, rd, rfl, hb⟩
  have HB2 : Hid (Below w.heap.size w w2) := HB1.out.trans (hb.mono HB1.out.size)
  have q2 : w2.cell? ⟨w.heap.size, 0, none⟩ = some (.slice (some ⟨b, off, none⟩) n cap) := (hb.cell (p := ⟨w.heap.size, 0, none⟩) (by show w.heap.size < _; omega)).trans q1
  have hz2 : w.heap.size < w2.heap.size := by have := hb.size; omega
  obtain ⟨hlt1, h0, h1, h2, h3, h4, h5, h6, h7, h8, h9, h10⟩ := HA.out.bel HB2.out
  clear hb q1
  go_wp2_with (go_at_call 9; refine (H9.out _).mono ?_; rintro e w3 ⟨rfl, hb3⟩; have HB3 := Lib.hid hb3; clear hb3)
  go_ret2
  exact ⟨rfl, (HB2.out.alloc (Nat.le_of_lt hz2) _).trans (HB3.out.mono (by simp; omega))⟩

/-- no error, and nowhere -/
def OkP (w : World) (e : Ending) (w' : World) : Prop := e = .returned (.tuple #[.int .i64 0, .agg #[.int .i64 0, .int .i64 0]]) ∧ Below w.heap.size w w'
set_option maxRecDepth 100000 in
set_option maxHeartbeats 2000000 in
theorem checkP_any (p : List Fn) (v : Value) (w : World) (hv : PV w v p) (hg : GoodP p) : Calls Try.prog 18 #[v] w (OkP w) := by
  have H24 : Hid (∀ W, Below w.heap.size w W → Calls Try.prog 24 #[v] W (AnsB (.int .i64 0) W)) := fun W hb => can_any p v W (hv.bel hb) hg.pr
  have H25 : Hid (∀ (k : Nat) W, k < p.length → Below w.heap.size w W → Calls Try.prog 25 #[v, .int .i64 k] W (Ok2 W)) := fun k W hk hb => func_any p v W (hv.bel hb) k hk hg
  have hn2 := hg.pr.n2
  obtain ⟨a, cap, rfl, hl, -⟩ := hv
  obtain ⟨n, hn⟩ : ∃ n, n = p.length := ⟨_, rfl⟩
  rw [← hn] at hl hn2 H24 H25 ⊢
  clear hn hg
  go_enter Try.func18, Try.ntmps18
  go_wp2_with fail
  refine (H24.out _ (((Below.refl _ _).alloc (Nat.le_refl _) _).alloc (by simp) _)).mono ?_
  rintro e w1 ⟨rfl, hb⟩
  have HB1 : Hid (Below w.heap.size w w1) := Below.trans (((Below.refl _ _).alloc (Nat.le_refl _) _).alloc (by simp) _) (hb.mono (by simp; omega))
  have q1 : w1.cell? ⟨w.heap.size, 0, none⟩ = some (.slice a n cap) := (hb.cell (p := ⟨w.heap.size, 0, none⟩) (by simp; omega)).trans (by go_simp)
  have q2 : w1.heap[w.heap.size + 1]? = some (.cells #[.int .i64 0, .int .i64 0] 55 (0, 0)) := (hb.block _ (by simp)).trans (by have h := heap_new (w.alloc (.cells #[.slice a n cap] 26)) (.cells #[.int .i64 0, .int .i64 0] 55); simpa using h)
  have Q2 := Lib.hid q2
  have hz1 : w.heap.size + 1 < w1.heap.size := heap_lt q2
  clear hb q2
  go_wp2_with fail
  go_loopw [5] (fun i wr => ∃ k : Nat, k ≤ n ∧ i = .int .i64 k ∧ wr.cell? ⟨w.heap.size, 0, none⟩ = some (.slice a n cap) ∧ Hid (wr.heap[w.heap.size + 1]? = some (.cells #[.int .i64 0, .int .i64 0] 55 (0, 0))) ∧ Hid (Below w.heap.size w wr)) (fun i _ => n - (intOf i).toNat)
  case atStart => exact ⟨0, Nat.zero_le _, rfl, q1, Q2.out, HB1.out⟩
  case round =>
    obtain ⟨k, hk, rfl, pb, HQ, HB⟩ := hrel
    by_cases hlt : k < n
    · go_wp2_with fail
      refine (H25.out k wr hlt HB.out).mono ?_
      rintro e w2 ⟨rfl, hb2⟩
      have HB2 : Hid (Below w.heap.size w w2) := HB.out.trans (hb2.mono HB.out.size)
      have HQ2 : Hid (w2.heap[w.heap.size + 1]? = some (.cells #[.int .i64 0, .int .i64 0] 55 (0, 0))) := rd_bel hb2 (heap_lt HQ.out) HQ.out
      have pb2 : w2.cell? ⟨w.heap.size, 0, none⟩ = some (.slice a n cap) := (hb2.cell (p := ⟨w.heap.size, 0, none⟩) (by have := heap_lt HQ.out; show w.heap.size < _; omega)).trans pb
      clear hb2 pb
      go_wp2_with fail
      go_roundw
      case rel => exact ⟨k + 1, by omega, by go_num, pb2, HQ2.out, HB2.out⟩
      case measure => simp [intOf] <;> omega
    · have r0 : wr.cell? ⟨w.heap.size + 1, 0, none⟩ = some (.int .i64 0) := by rw [cell_of HQ.out]; rfl
      have r1 : wr.cell? ⟨w.heap.size + 1, 1, none⟩ = some (.int .i64 0) := by rw [cell_of HQ.out]; rfl
      have r2 : wr.frozen? ⟨w.heap.size + 1, 0, none⟩ = false := frozen_of HQ.out _
      have r3 : wr.frozen? ⟨w.heap.size + 1, 1, none⟩ = false := frozen_of HQ.out _
      go_wp2_with fail
      exact bodyPost_ret (v := .tuple #[.int .i64 0, .agg #[.int .i64 0, .int .i64 0]]) (by simp [results, Try.results18, go_sem, r0, r1]) rfl ⟨rfl, (HB.out.setCell (by simp) _).setCell (by simp) _⟩

set_option maxHeartbeats 2000000 in
theorem fine_any (p : List Fn) (v : Value) (w : World) (hv : PV w v p) (hg : GoodP p) : Calls Try.prog 7 #[v] w (AnsB (.bool true) w) := by
  have H18 : Hid (∀ W, Below w.heap.size w W → Calls Try.prog 18 #[v] W (OkP W)) := fun W hb => checkP_any p v W (hv.bel hb) hg
  obtain ⟨a, cap, rfl, hl, -⟩ := hv
  generalize p.length = n at *
  clear hg
  go_enter Try.func7, Try.ntmps7
  go_wp2_with fail
  refine (H18.out _ ((Below.refl _ _).alloc (Nat.le_refl _) _)).mono ?_
  rintro e w1 ⟨rfl, hb⟩
  have HB1 : Hid (Below w.heap.size w w1) := Below.trans ((Below.refl _ _).alloc (Nat.le_refl _) _) (hb.mono (by simp))
  clear hb
  go_wp2_with fail
  go_ret
  exact ⟨rfl, by have h := HB1.out; repeat (first | exact h | refine Below.alloc ?_ (by first | exact h.size | (simp; exact Nat.le_succ_of_le h.size)) _ | refine Below.setCell ?_ (by exact h.size) _)⟩
end Go.Proofs.Ythaniobijkdnoaa
