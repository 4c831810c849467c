/- Calls that may stand where they stand, in the reference, of programs without tables. Conditions: what a call needs. -/
import Derived.Test.YthaniobijkdnoaaK
namespace Go.Proofs.Ythaniobijkdnoaa
open Go.RowKit

/-- the k-th function of a program, opened to its slices -/
def Opened (w : World) (a : Option Addr) (p : List Fn) : Prop := ∀ k W, k < p.length → Below w.heap.size w W → ∃ b off ao ap ar al1 ac an1 an aa al co cp cr cl1 cc cn1 cn ca cl, a = some ⟨b, off, none⟩ ∧
    At11 W b (off + k * 11) (.string (p[k]!).name) (.bool (p[k]!).inner) (.slice ao (p[k]!).outer.length co) (.slice ap (p[k]!).params.length cp) (.slice ar (p[k]!).results.length cr) (.slice al1 (p[k]!).locals.length cl1) (.slice ac (p[k]!).code.length cc) (.slice an1 (p[k]!).lines.length cn1) (.slice an 0 cn) (.slice aa 0 ca) (.slice al 0 cl) ∧
    FnP W p[k]! (.slice ao (p[k]!).outer.length co) (.slice ap (p[k]!).params.length cp) (.slice ar (p[k]!).results.length cr) (.slice al1 (p[k]!).locals.length cl1) (.slice ac (p[k]!).code.length cc) (.slice an1 (p[k]!).lines.length cn1) cn ca cl
theorem PV.opened {w : World} {v : Value} {p : List Fn} (h : PV w v p) : ∃ a cap, v = .agg #[.slice a p.length cap] ∧ p.length ≤ cap ∧ Hid (Opened w a p) := by
  obtain ⟨a, cap, rfl, hl, HC⟩ := h.open_
  refine ⟨a, cap, rfl, hl, fun k W hk hb => ?_⟩
  obtain ⟨b, off, vo, vp, vr, vl, vc, vn, an, aa, al, cn, ca, cl, rfl, h1, hfp⟩ := HC.out k W hk hb
  have hh := hfp
  obtain ⟨-, ⟨ao, co, rfl, -⟩, ⟨ap, cp, rfl, -⟩, ⟨ar, cr, rfl, -⟩, ⟨al1, cl1, rfl, -⟩, ⟨ac, cc, rfl, -⟩, ⟨an1, cn1, rfl, -⟩, -, -, -⟩ := hh
  exact ⟨b, off, ao, ap, ar, al1, ac, an1, an, aa, al, co, cp, cr, cl1, cc, cn1, cn, ca, cl, rfl, h1, hfp⟩
/-- an instruction of a row of instructions -/
theorem code_at {w : World} {a : Option Addr} {n c : Nat} {xs : List (Int × Int)} (h : CV w (.slice a n c) xs) (pc : Nat) (hpc : pc < xs.length) : ∃ b off, a = some ⟨b, off, none⟩ ∧ b < w.heap.size ∧ w.cell? ⟨b, off + pc * 2, none⟩ = some (.int .i64 (xs[pc]!).1) ∧ w.cell? ⟨b, off + pc * 2 + 1, none⟩ = some (.int .i64 (xs[pc]!).2) := by
  obtain ⟨a', c', he, _, _, hc⟩ := h
  simp only [Value.slice.injEq] at he
  obtain ⟨rfl, _, _⟩ := he
  obtain ⟨b, off, rfl, hb, h1, h2⟩ := hc pc hpc
  rw [getElem!_pos xs pc hpc]
  exact ⟨b, off, rfl, hb, h1, h2⟩

set_option maxHeartbeats 1000000 in
theorem calls_no (p : List Fn) (v : Value) (w : World) (hv : PV w v p) (k : Nat) (hk : k < p.length) (pc : Nat) (hpc : pc < (p[k]!).code.length) (hl0 : p.length ≤ 40) (hc0 : (p[k]!).code.length ≤ 2000) (x y : Int) (hx : (p[k]!).code[pc]! = (x, y)) (h1 : (x != 23) = true) (h2 : (x != 24) = true) :
    Calls Try.prog 56 #[v, .int .i64 k, .int .i64 pc] w (AnsB (.int .i64 0) w) := by
  obtain ⟨a, cap, rfl, hl, HC⟩ := hv.opened
  obtain ⟨b, off, ao, ap, ar, al1, ac, an1, an, aa, al, co, cp, cr, cl1, cc, cn1, cn, ca, cl, rfl, hA, hfp⟩ := HC.out k w hk (Below.refl _ _)
  obtain ⟨cb, coff, rfl, hcb, hcx, hcy⟩ := code_at hfp.c pc hpc
  rw [hx] at hcx hcy
  obtain ⟨hlt1, h0, -, -, -, -, -, h6, -, -, -, -⟩ := hA
  clear hfp HC hx hv h0
  obtain ⟨n, hn⟩ : ∃ n, n = p.length := ⟨_, rfl⟩
  obtain ⟨nc, hnc⟩ : ∃ n, n = (p[k]!).code.length := ⟨_, rfl⟩
  rw [← hn] at hl hk hl0 ⊢
  rw [← hnc] at hpc h6 hc0
  clear hn hnc
  go_enter Try.func56, Try.ntmps56
  go_wp2
  go_ret
  exact ⟨rfl, by repeat (first | with_reducible exact Below.refl _ _ | with_reducible refine Below.alloc ?_ (by simp <;> omega) _ | with_reducible refine Below.setCell ?_ (by simp <;> omega) _)⟩

set_option maxHeartbeats 1000000 in
theorem calls_plain (p : List Fn) (v : Value) (w : World) (hv : PV w v p) (k : Nat) (hk : k < p.length) (pc : Nat) (hpc : pc < (p[k]!).code.length) (hl0 : p.length ≤ 40) (hc0 : (p[k]!).code.length ≤ 2000) (x : Int) (g : Nat) (hx : (p[k]!).code[pc]! = (x, (g : Int))) (h1 : x = 23 ∨ x = 24) (hg : g < p.length) (hi : (p[g]!).inner = false) :
    Calls Try.prog 56 #[v, .int .i64 k, .int .i64 pc] w (AnsB (.int .i64 0) w) := by
  obtain ⟨a, cap, rfl, hl, HC⟩ := hv.opened
  obtain ⟨b, off, ao, ap, ar, al1, ac, an1, an, aa, al, co, cp, cr, cl1, cc, cn1, cn, ca, cl, rfl, hA, hfp⟩ := HC.out k w hk (Below.refl _ _)
  obtain ⟨b2, off2, ao2, ap2, ar2, al2, ac2, an2, an3, aa2, al3, co2, cp2, cr2, cl2, cc2, cn2, cn3, ca2, cl3, he, hA2, -⟩ := HC.out g w hg (Below.refl _ _)
  simp only [Option.some.injEq, Addr.mk.injEq] at he
  obtain ⟨rfl, rfl, _⟩ := he
  obtain ⟨cb, coff, rfl, hcb, hcx, hcy⟩ := code_at hfp.c pc hpc
  rw [hx] at hcx hcy
  obtain ⟨hlt1, -, -, -, -, -, -, h6, -, -, -, -⟩ := hA
  obtain ⟨hlt2, g0, g1, g2, g3, g4, g5, g6, g7, g8, g9, g10⟩ := hA2
  rw [hi] at g1
  clear hfp HC hx hv hi
  generalize (p[g]!).name = s2, (p[g]!).outer.length = n2, (p[g]!).params.length = n3, (p[g]!).results.length = n4, (p[g]!).locals.length = n5, (p[g]!).code.length = n6, (p[g]!).lines.length = n7 at g0 g2 g3 g4 g5 g6 g7
  obtain ⟨n, hn⟩ : ∃ n, n = p.length := ⟨_, rfl⟩
  obtain ⟨nc, hnc⟩ : ∃ n, n = (p[k]!).code.length := ⟨_, rfl⟩
  rw [← hn] at hl hk hl0 hg ⊢
  rw [← hnc] at hpc h6 hc0
  clear hn hnc
  rcases h1 with rfl | rfl
  · go_enter Try.func56, Try.ntmps56
    go_wp2
    go_ret
    exact ⟨rfl, by repeat (first | with_reducible exact Below.refl _ _ | with_reducible refine Below.alloc ?_ (by simp <;> omega) _ | with_reducible refine Below.setCell ?_ (by simp <;> omega) _)⟩
  · go_enter Try.func56, Try.ntmps56
    go_wp2
    go_ret
    exact ⟨rfl, by repeat (first | with_reducible exact Below.refl _ _ | with_reducible refine Below.alloc ?_ (by simp <;> omega) _ | with_reducible refine Below.setCell ?_ (by simp <;> omega) _)⟩

set_option maxHeartbeats 1000000 in
theorem calls_inner (p : List Fn) (v : Value) (w : World) (hv : PV w v p) (k : Nat) (hk : k < p.length) (pc : Nat) (hpc : pc < (p[k]!).code.length) (hl0 : p.length ≤ 40) (hc0 : (p[k]!).code.length ≤ 2000) (g : Nat) (hx : (p[k]!).code[pc]! = (24, (g : Int))) (hg : g < p.length) (hi : (p[g]!).inner = true) (hs : (p[g]!).outer = (p[k]!).results) (hr : (p[k]!).results.length ≤ 100) :
    Calls Try.prog 56 #[v, .int .i64 k, .int .i64 pc] w (AnsB (.int .i64 0) w) := by
  have H79 : Hid (∀ W, Below w.heap.size w W → Calls Try.prog 79 #[v, .int .i64 k, .int .i64 pc] W (AnsB (.int .i64 k) W)) := fun W hb => owner_any p v W (hv.bel hb) k hk pc (by omega)
  obtain ⟨a, cap, rfl, hl, HC⟩ := hv.opened
  obtain ⟨b, off, ao, ap, ar, al1, ac, an1, an, aa, al, co, cp, cr, cl1, cc, cn1, cn, ca, cl, rfl, hA, hfp⟩ := HC.out k w hk (Below.refl _ _)
  obtain ⟨b2, off2, ao2, ap2, ar2, al2, ac2, an2, an3, aa2, al3, co2, cp2, cr2, cl2, cc2, cn2, cn3, ca2, cl3, he, hA2, hfp2⟩ := HC.out g w hg (Below.refl _ _)
  simp only [Option.some.injEq, Addr.mk.injEq] at he
  obtain ⟨rfl, rfl, _⟩ := he
  obtain ⟨cb, coff, rfl, hcb, hcx, hcy⟩ := code_at hfp.c pc hpc
  rw [hx] at hcx hcy
  have H26 : Hid (∀ W, Below w.heap.size w W → Calls Try.prog 26 #[.slice ao2 (p[g]!).outer.length co2, .slice ar (p[k]!).results.length cr] W (Ans (.bool true) W)) := fun W hb => types_any (p[k]!).results _ _ W (by have h := hfp2.o.bel hb; rw [hs] at h ⊢; exact h) (hfp.r.bel hb) (by omega)
  have HA := Lib.hid hA
  obtain ⟨hlt1, -, -, -, -, h4, -, h6, -, -, -, -⟩ := hA
  obtain ⟨hlt2, g0, g1, g2, g3, g4, g5, g6, g7, g8, g9, g10⟩ := hA2
  rw [hi] at g1
  clear hfp hfp2 HC hx hv hi hs
  generalize (p[g]!).name = s2, (p[g]!).outer.length = n2, (p[g]!).params.length = n3, (p[g]!).results.length = n4, (p[g]!).locals.length = n5, (p[g]!).code.length = n6, (p[g]!).lines.length = n7 at g0 g2 g3 g4 g5 g6 g7 H26
  obtain ⟨n, hn⟩ : ∃ n, n = p.length := ⟨_, rfl⟩
  obtain ⟨nc, hnc⟩ : ∃ n, n = (p[k]!).code.length := ⟨_, rfl⟩
  obtain ⟨nr, hnr⟩ : ∃ n, n = (p[k]!).results.length := ⟨_, rfl⟩
  rw [← hn] at hl hk hl0 hg H79 ⊢
  rw [← hnc] at hpc h6 hc0
  rw [← hnr] at h4 H26
  clear hn hnc hnr HA hr
  go_enter Try.func56, Try.ntmps56
  go_wp2_with fail
  refine (H79.out _ (by repeat (first | with_reducible exact Below.refl _ _ | with_reducible refine Below.drewN ?_ _ | with_reducible refine Below.alloc ?_ (by simp <;> omega) _ | with_reducible refine Below.setCell ?_ (by simp <;> omega) _))).mono ?_
  rintro e w1 ⟨rfl, hb⟩
  have HB1 := Lib.hid hb
  have HB2 : Hid (Below w.heap.size w w1) := Below.trans (by repeat (first | with_reducible exact Below.refl _ _ | with_reducible refine Below.drewN ?_ _ | with_reducible refine Below.alloc ?_ (by simp <;> omega) _ | with_reducible refine Below.setCell ?_ (by simp <;> omega) _)) (hb.mono (by simp <;> omega))
  have q0 : w1.cell? ⟨w.heap.size, 0, none⟩ = some (.slice (some ⟨b, off, none⟩) n cap) := (hb.cell (p := ⟨w.heap.size, 0, none⟩) (by simp <;> omega)).trans (by go_simp)
  have q1 : w1.cell? ⟨w.heap.size + 1, 0, none⟩ = some (.int .i64 24) := (hb.cell (p := ⟨w.heap.size + 1, 0, none⟩) (by simp <;> omega)).trans (by go_simp)
  have q2 : w1.cell? ⟨w.heap.size + 1 + 1, 2, none⟩ = some (.slice ao2 n2 co2) := (hb.cell (p := ⟨w.heap.size + 1 + 1, 2, none⟩) (by simp <;> omega)).trans (by go_simp)
  have q3 : w1.cell? ⟨b, off + k * 11 + 4, none⟩ = some (.slice ar nr cr) := (HB2.out.cell (p := ⟨b, off + k * 11 + 4, none⟩) hlt1).trans h4
  have hd : decide (n ≤ k) = false := by simp; omega
  clear hb g0 g1 g2 g3 g4 g5 g6 g7 g8 g9 g10 h4 h6 hcx hcy
  go_wp2_with fail
  go_quiet ((go_at_call 26; exact quiet_ans (H26.out _ (Below.drewN HB2.out _))))
  go_wp2
  go_ret
  exact ⟨rfl, Below.drewN HB2.out _⟩
end Go.Proofs.Ythaniobijkdnoaa
