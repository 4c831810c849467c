/- What an instruction takes and gives, in the reference, of programs without tables, where it may. Conditions: what each instruction needs. -/
import Derived.Test.YthaniobijkdnoaaR
namespace Go.Proofs.Ythaniobijkdnoaa
open Go.RowKit

def NeedPost (a b : List Int) (w : World) (e : Ending) (w' : World) : Prop := ∃ v1 v2, e = .returned (.tuple #[v1, v2, .int .i64 0]) ∧ IV w' v1 a ∧ IV w' v2 b ∧ Below w.heap.size w w'
theorem IV.one {w : World} {b off cap n k : Nat} {xs : List Int} (h : IV w (.slice (some ⟨b, off, none⟩) n cap) xs) (hk : k < xs.length) : IV w (.slice (some ⟨b, off + k, none⟩) 1 (cap - k)) [xs[k]!] := by
  obtain ⟨a, c, he, hl, hm, hc⟩ := h
  simp only [Value.slice.injEq] at he
  obtain ⟨rfl, rfl, rfl⟩ := he
  refine ⟨_, _, rfl, by simp; omega, by omega, fun i hi => ?_⟩
  obtain ⟨b', off', he, hb, hcell⟩ := hc k hk
  simp only [Option.some.injEq, Addr.mk.injEq] at he
  obtain ⟨rfl, rfl, _⟩ := he
  have hi0 : i = 0 := by simpa using hi
  subst hi0
  refine ⟨b, off + k, rfl, hb, ?_⟩
  rw [Nat.add_zero, hcell, getElem!_pos xs k hk]
  rfl
theorem IV.addr {w : World} {v : Value} {xs : List Int} (h : IV w v xs) (h0 : 0 < xs.length) : ∃ b off cap, v = .slice (some ⟨b, off, none⟩) xs.length cap ∧ xs.length ≤ cap ∧ cap ≤ maxLen ∧ b < w.heap.size ∧ ∀ i (hi : i < xs.length), w.cell? ⟨b, off + i, none⟩ = some (.int .i64 xs[i]) := by
  obtain ⟨a, c, rfl, hl, hm, hc⟩ := h
  obtain ⟨b, off, rfl, hb, _⟩ := hc 0 h0
  refine ⟨b, off, c, rfl, hl, hm, hb, fun i hi => ?_⟩
  obtain ⟨b', off', he, _, hcell⟩ := hc i hi
  simp only [Option.some.injEq, Addr.mk.injEq] at he
  obtain ⟨rfl, rfl, _⟩ := he
  exact hcell
theorem iv_new (w : World) (x : Int) (H : Nat) (t : TypeId) (h : H = w.heap.size) : IV (w.alloc (.cells #[.int .i64 x] t)) (.slice (some ⟨H, 0, none⟩) 1 1) [x] := by
  subst h
  refine ⟨_, _, rfl, Nat.le_refl _, by simp [maxLen], fun i hi => ⟨w.heap.size, 0, rfl, by simp, ?_⟩⟩
  have hi0 : i = 0 := by simpa using hi
  subst hi0
  rw [cell_of (heap_new w _)]
  rfl
def slotsOf (f : Fn) : List Int := f.params ++ f.results ++ f.locals

set_option maxRecDepth 100000 in
set_option maxHeartbeats 2000000 in
theorem needs_other (p : List Fn) (v : Value) (w : World) (hv : PV w v p) (k : Nat) (hk : k < p.length) (pc : Nat) (hpc : pc < (p[k]!).code.length) (hl0 : p.length ≤ 40) (hc0 : (p[k]!).code.length ≤ 2000) (hs0 : (p[k]!).params.length ≤ 1000 ∧ (p[k]!).results.length ≤ 1000 ∧ (p[k]!).locals.length ≤ 1000) (st : List Int) (v3 : Value) (h3v : IV w v3 st) (hst : st.length ≤ 60) (x y : Int) (hx : (p[k]!).code[pc]! = (x, y)) (hss : (slotsOf p[k]!).length ≤ 300) (hx0 : 0 ≤ x) (hx1 : x < 35) (e2 : (x == 2) = false) (e3 : (x == 3) = false) (e4 : (x == 4) = false) (e5 : (x == 5) = false) (e23 : (x == 23) = false) (e24 : (x == 24) = false) (e25 : (x == 25) = false) (e28 : (x == 28) = false) (e29 : (x == 29) = false) (e33 : (x == 33) = false) (e34 : (x == 34) = false) :
    Calls Try.prog 83 #[v, .int .i64 k, .int .i64 pc, v3] w (NeedPost (takeOf x) (giveOf x) w) := by
  have H80 : Hid (∀ W, Below w.heap.size w W → (p[k]!).inner = true → Calls Try.prog 80 #[v, .int .i64 k, .int .i64 pc] W (OutPost (p[k]!).outer W)) := fun W hb hin => outer_any p v W (hv.bel hb) k hk pc (by omega) hin
  obtain ⟨a, cap, rfl, hl, HC⟩ := hv.opened
  obtain ⟨b, off, ao, ap, ar, al1, ac, an1, an, aa, al, co, cp, cr, cl1, cc, cn1, cn, ca, cl, rfl, hA, hfp⟩ := HC.out k w hk (Below.refl _ _)
  obtain ⟨cb, coff, rfl, hcb, hcx, hcy⟩ := code_at hfp.c pc hpc
  have H84 : Hid (∀ W, Below w.heap.size w W → Calls Try.prog 84 #[.agg #[.string (p[k]!).name, .bool (p[k]!).inner, .slice ao (p[k]!).outer.length co, .slice ap (p[k]!).params.length cp, .slice ar (p[k]!).results.length cr, .slice al1 (p[k]!).locals.length cl1, .slice (some ⟨cb, coff, none⟩) (p[k]!).code.length cc, .slice an1 (p[k]!).lines.length cn1, .slice an 0 cn, .slice aa 0 ca, .slice al 0 cl]] W (RowT 59 (slotsOf p[k]!) W)) := fun W hb =>
    slots_any p[k]! _ W ⟨_, _, _, _, _, _, _, _, _, _, _, _, rfl, hfp.bel hb⟩ (by omega) (by omega) (by omega)
  have HE : Hid (∀ W, Calls Try.prog 101 #[.int .i64 x] W (EffPost (takeOf x) (giveOf x) W)) := fun W => eff_any x W hx0 hx1

  rw [hx] at hcx hcy
  obtain ⟨hlt1, h0, h1, h2, h3, h4, h5, h6, h7, h8, h9, h10⟩ := hA
  clear hfp hx
  generalize hnc : (p[k]!).code.length = nc at *
  generalize hsl : slotsOf p[k]! = sl at *
  generalize (p[k]!).name = s, (p[k]!).outer = lo, (p[k]!).params.length = np, (p[k]!).results.length = nr, (p[k]!).locals.length = nl, (p[k]!).lines.length = nn at h0 h2 h3 h4 h5 h7 H84 H80 
  generalize hinn : (p[k]!).inner = inn at h1 H84 H80
  obtain ⟨n, hn⟩ : ∃ n, n = p.length := ⟨_, rfl⟩
  rw [← hn] at hl hk hl0 H80  ⊢
  have H3V := Lib.hid h3v
  clear hn hnc hsl hinn hs0 h3v

  go_enter Try.func83, Try.ntmps83
  go_wp2_with fail
  refine (H84.out _ (by repeat (first | with_reducible exact Below.refl _ _ | with_reducible refine Below.drew ?_ | with_reducible refine Below.drewN ?_ _ | with_reducible refine Below.alloc ?_ (by simp <;> omega) _ | with_reducible refine Below.setCell ?_ (by simp <;> omega) _))).mono ?_
  rintro e w1 ⟨v84, rfl, ho84, hb⟩
  have HB1 : Hid (Below w.heap.size w w1) := Below.trans (by repeat (first | with_reducible exact Below.refl _ _ | with_reducible refine Below.drew ?_ | with_reducible refine Below.drewN ?_ _ | with_reducible refine Below.alloc ?_ (by simp <;> omega) _ | with_reducible refine Below.setCell ?_ (by simp <;> omega) _)) (hb.mono (by simp <;> omega))
  have q0 : w1.cell? ⟨w.heap.size, 0, none⟩ = some (.slice (some ⟨b, off, none⟩) n cap) := (hb.cell (p := ⟨w.heap.size, 0, none⟩) (by simp <;> omega)).trans (by go_simp)
  have q1 : w1.cell? ⟨w.heap.size + 1 + 1, 0, none⟩ = some (.int .i64 x) := (hb.cell (p := ⟨w.heap.size + 1 + 1, 0, none⟩) (by simp <;> omega)).trans (by go_simp)
  have q2 : w1.cell? ⟨w.heap.size + 1 + 1, 1, none⟩ = some (.int .i64 y) := (hb.cell (p := ⟨w.heap.size + 1 + 1, 1, none⟩) (by simp <;> omega)).trans (by go_simp)
  have hz1 : w.heap.size + 3 ≤ w1.heap.size := by have := hb.size; simp at this; omega
  have HS : Hid (IV w1 v84 sl) := iv_rowt ho84 (Below.refl _ _) (by have := ho84.1; have := hss; simp only [maxLen]; omega)
  clear hb ho84

  go_wp2_with fail
  refine (HE.out _).mono ?_
  rintro e w2 ⟨va, vb, rfl, hia, hib, hb⟩
  have HB2 : Hid (Below w.heap.size w w2) := HB1.out.trans (hb.mono (by omega))
  have HIA := Lib.hid hia
  have HIB := Lib.hid hib
  have HS2 : Hid (IV w2 v84 sl) := HS.out.bel hb
  have r0 : w2.cell? ⟨w.heap.size, 0, none⟩ = some (.slice (some ⟨b, off, none⟩) n cap) := (hb.cell (p := ⟨w.heap.size, 0, none⟩) (by simp <;> omega)).trans q0
  have r1 : w2.cell? ⟨w.heap.size + 1 + 1, 0, none⟩ = some (.int .i64 x) := (hb.cell (p := ⟨w.heap.size + 1 + 1, 0, none⟩) (by simp <;> omega)).trans q1
  have r2 : w2.cell? ⟨w.heap.size + 1 + 1, 1, none⟩ = some (.int .i64 y) := (hb.cell (p := ⟨w.heap.size + 1 + 1, 1, none⟩) (by simp <;> omega)).trans q2
  have hz2 : w.heap.size + 3 ≤ w2.heap.size := by have := hb.size; omega
  have HZ2 : Hid (w.heap.size ≤ w2.heap.size) := Lib.hid (by omega)

  clear hb hia hib q0 q1 q2 h0 h1 h2 h3 h4 h5 h6 h7 h8 h9 h10 hcx hcy
  go_wp2
  go_ret3
  exact ⟨_, _, rfl, HIA.out, HIB.out, HB2.out⟩
set_option maxRecDepth 100000 in
set_option maxHeartbeats 2000000 in
theorem needs_load (p : List Fn) (v : Value) (w : World) (hv : PV w v p) (k : Nat) (hk : k < p.length) (pc : Nat) (hpc : pc < (p[k]!).code.length) (hl0 : p.length ≤ 40) (hc0 : (p[k]!).code.length ≤ 2000) (hs0 : (p[k]!).params.length ≤ 1000 ∧ (p[k]!).results.length ≤ 1000 ∧ (p[k]!).locals.length ≤ 1000) (st : List Int) (v3 : Value) (h3v : IV w v3 st) (hst : st.length ≤ 60) (i : Nat) (hx : (p[k]!).code[pc]! = (2, (i : Int))) (hss : (slotsOf p[k]!).length ≤ 300) (hi : i < (slotsOf p[k]!).length) :
    Calls Try.prog 83 #[v, .int .i64 k, .int .i64 pc, v3] w (NeedPost [] [(slotsOf p[k]!)[i]!] w) := by
  have H80 : Hid (∀ W, Below w.heap.size w W → (p[k]!).inner = true → Calls Try.prog 80 #[v, .int .i64 k, .int .i64 pc] W (OutPost (p[k]!).outer W)) := fun W hb hin => outer_any p v W (hv.bel hb) k hk pc (by omega) hin
  obtain ⟨a, cap, rfl, hl, HC⟩ := hv.opened
  obtain ⟨b, off, ao, ap, ar, al1, ac, an1, an, aa, al, co, cp, cr, cl1, cc, cn1, cn, ca, cl, rfl, hA, hfp⟩ := HC.out k w hk (Below.refl _ _)
  obtain ⟨cb, coff, rfl, hcb, hcx, hcy⟩ := code_at hfp.c pc hpc
  have H84 : Hid (∀ W, Below w.heap.size w W → Calls Try.prog 84 #[.agg #[.string (p[k]!).name, .bool (p[k]!).inner, .slice ao (p[k]!).outer.length co, .slice ap (p[k]!).params.length cp, .slice ar (p[k]!).results.length cr, .slice al1 (p[k]!).locals.length cl1, .slice (some ⟨cb, coff, none⟩) (p[k]!).code.length cc, .slice an1 (p[k]!).lines.length cn1, .slice an 0 cn, .slice aa 0 ca, .slice al 0 cl]] W (RowT 59 (slotsOf p[k]!) W)) := fun W hb =>
    slots_any p[k]! _ W ⟨_, _, _, _, _, _, _, _, _, _, _, _, rfl, hfp.bel hb⟩ (by omega) (by omega) (by omega)
  have HE : Hid (∀ W, Calls Try.prog 101 #[.int .i64 2] W (EffPost (takeOf 2) (giveOf 2) W)) := fun W => eff_any 2 W (by decide) (by decide)

  rw [hx] at hcx hcy
  obtain ⟨hlt1, h0, h1, h2, h3, h4, h5, h6, h7, h8, h9, h10⟩ := hA
  clear hfp hx
  generalize hnc : (p[k]!).code.length = nc at *
  generalize hsl : slotsOf p[k]! = sl at *
  generalize (p[k]!).name = s, (p[k]!).outer = lo, (p[k]!).params.length = np, (p[k]!).results.length = nr, (p[k]!).locals.length = nl, (p[k]!).lines.length = nn at h0 h2 h3 h4 h5 h7 H84 H80 
  generalize hinn : (p[k]!).inner = inn at h1 H84 H80
  obtain ⟨n, hn⟩ : ∃ n, n = p.length := ⟨_, rfl⟩
  rw [← hn] at hl hk hl0 H80  ⊢
  have H3V := Lib.hid h3v
  clear hn hnc hsl hinn hs0 h3v

  go_enter Try.func83, Try.ntmps83
  go_wp2_with fail
  refine (H84.out _ (by repeat (first | with_reducible exact Below.refl _ _ | with_reducible refine Below.drew ?_ | with_reducible refine Below.drewN ?_ _ | with_reducible refine Below.alloc ?_ (by simp <;> omega) _ | with_reducible refine Below.setCell ?_ (by simp <;> omega) _))).mono ?_
  rintro e w1 ⟨v84, rfl, ho84, hb⟩
  have HB1 : Hid (Below w.heap.size w w1) := Below.trans (by repeat (first | with_reducible exact Below.refl _ _ | with_reducible refine Below.drew ?_ | with_reducible refine Below.drewN ?_ _ | with_reducible refine Below.alloc ?_ (by simp <;> omega) _ | with_reducible refine Below.setCell ?_ (by simp <;> omega) _)) (hb.mono (by simp <;> omega))
  have q0 : w1.cell? ⟨w.heap.size, 0, none⟩ = some (.slice (some ⟨b, off, none⟩) n cap) := (hb.cell (p := ⟨w.heap.size, 0, none⟩) (by simp <;> omega)).trans (by go_simp)
  have q1 : w1.cell? ⟨w.heap.size + 1 + 1, 0, none⟩ = some (.int .i64 2) := (hb.cell (p := ⟨w.heap.size + 1 + 1, 0, none⟩) (by simp <;> omega)).trans (by go_simp)
  have q2 : w1.cell? ⟨w.heap.size + 1 + 1, 1, none⟩ = some (.int .i64 i) := (hb.cell (p := ⟨w.heap.size + 1 + 1, 1, none⟩) (by simp <;> omega)).trans (by go_simp)
  have hz1 : w.heap.size + 3 ≤ w1.heap.size := by have := hb.size; simp at this; omega
  have HS : Hid (IV w1 v84 sl) := iv_rowt ho84 (Below.refl _ _) (by have := ho84.1; have := hss; simp only [maxLen]; omega)
  clear hb ho84
  obtain ⟨sb, soff, scap, rfl, hsl1, hsl2, hsb, hsc⟩ := HS.out.addr (by omega)
  have hd1 : decide (sl.length ≤ i) = false := by simp; omega
  have hnn : (0 : Int) ≤ (i : Int) := by omega
  have hni : (i : Int) + 1 ≤ (sl.length : Int) := by omega
  have HSC := Lib.hid hsc
  have HSB := Lib.hid hsb
  clear hsc hsb
  simp only [maxLen] at hsl2
  go_wp2_with fail
  refine (HE.out _).mono ?_
  rintro e w2 ⟨va, vb, rfl, hia, hib, hb⟩
  have HB2 : Hid (Below w.heap.size w w2) := HB1.out.trans (hb.mono (by omega))
  have HIA := Lib.hid hia
  have HIB := Lib.hid hib
  have HS2 : Hid (IV w2 (.slice (some ⟨sb, soff, none⟩) sl.length scap) sl) := HS.out.bel hb
  have r0 : w2.cell? ⟨w.heap.size, 0, none⟩ = some (.slice (some ⟨b, off, none⟩) n cap) := (hb.cell (p := ⟨w.heap.size, 0, none⟩) (by simp <;> omega)).trans q0
  have r1 : w2.cell? ⟨w.heap.size + 1 + 1, 0, none⟩ = some (.int .i64 2) := (hb.cell (p := ⟨w.heap.size + 1 + 1, 0, none⟩) (by simp <;> omega)).trans q1
  have r2 : w2.cell? ⟨w.heap.size + 1 + 1, 1, none⟩ = some (.int .i64 i) := (hb.cell (p := ⟨w.heap.size + 1 + 1, 1, none⟩) (by simp <;> omega)).trans q2
  have hz2 : w.heap.size + 3 ≤ w2.heap.size := by have := hb.size; omega
  have HZ2 : Hid (w.heap.size ≤ w2.heap.size) := Lib.hid (by omega)

  clear hb hia hib q0 q1 q2 h0 h1 h2 h3 h4 h5 h6 h7 h8 h9 h10 hcx hcy
  go_wp2_with fail
  go_quiet (fail)
  go_wp2_with fail
  go_ret3
  exact ⟨_, _, rfl, IV.nil _ _ _ (Nat.zero_le _), (HS2.out.one hi).bel (Below.drewN (Below.refl _ _) _), Below.drewN HB2.out _⟩
set_option maxRecDepth 100000 in
set_option maxHeartbeats 2000000 in
theorem needs_store (p : List Fn) (v : Value) (w : World) (hv : PV w v p) (k : Nat) (hk : k < p.length) (pc : Nat) (hpc : pc < (p[k]!).code.length) (hl0 : p.length ≤ 40) (hc0 : (p[k]!).code.length ≤ 2000) (hs0 : (p[k]!).params.length ≤ 1000 ∧ (p[k]!).results.length ≤ 1000 ∧ (p[k]!).locals.length ≤ 1000) (st : List Int) (v3 : Value) (h3v : IV w v3 st) (hst : st.length ≤ 60) (i : Nat) (hx : (p[k]!).code[pc]! = (3, (i : Int))) (hss : (slotsOf p[k]!).length ≤ 300) (hi : i < (slotsOf p[k]!).length) :
    Calls Try.prog 83 #[v, .int .i64 k, .int .i64 pc, v3] w (NeedPost [(slotsOf p[k]!)[i]!] [] w) := by
  have H80 : Hid (∀ W, Below w.heap.size w W → (p[k]!).inner = true → Calls Try.prog 80 #[v, .int .i64 k, .int .i64 pc] W (OutPost (p[k]!).outer W)) := fun W hb hin => outer_any p v W (hv.bel hb) k hk pc (by omega) hin
  obtain ⟨a, cap, rfl, hl, HC⟩ := hv.opened
  obtain ⟨b, off, ao, ap, ar, al1, ac, an1, an, aa, al, co, cp, cr, cl1, cc, cn1, cn, ca, cl, rfl, hA, hfp⟩ := HC.out k w hk (Below.refl _ _)
  obtain ⟨cb, coff, rfl, hcb, hcx, hcy⟩ := code_at hfp.c pc hpc
  have H84 : Hid (∀ W, Below w.heap.size w W → Calls Try.prog 84 #[.agg #[.string (p[k]!).name, .bool (p[k]!).inner, .slice ao (p[k]!).outer.length co, .slice ap (p[k]!).params.length cp, .slice ar (p[k]!).results.length cr, .slice al1 (p[k]!).locals.length cl1, .slice (some ⟨cb, coff, none⟩) (p[k]!).code.length cc, .slice an1 (p[k]!).lines.length cn1, .slice an 0 cn, .slice aa 0 ca, .slice al 0 cl]] W (RowT 59 (slotsOf p[k]!) W)) := fun W hb =>
    slots_any p[k]! _ W ⟨_, _, _, _, _, _, _, _, _, _, _, _, rfl, hfp.bel hb⟩ (by omega) (by omega) (by omega)
  have HE : Hid (∀ W, Calls Try.prog 101 #[.int .i64 3] W (EffPost (takeOf 3) (giveOf 3) W)) := fun W => eff_any 3 W (by decide) (by decide)

  rw [hx] at hcx hcy
  obtain ⟨hlt1, h0, h1, h2, h3, h4, h5, h6, h7, h8, h9, h10⟩ := hA
  clear hfp hx
  generalize hnc : (p[k]!).code.length = nc at *
  generalize hsl : slotsOf p[k]! = sl at *
  generalize (p[k]!).name = s, (p[k]!).outer = lo, (p[k]!).params.length = np, (p[k]!).results.length = nr, (p[k]!).locals.length = nl, (p[k]!).lines.length = nn at h0 h2 h3 h4 h5 h7 H84 H80 
  generalize hinn : (p[k]!).inner = inn at h1 H84 H80
  obtain ⟨n, hn⟩ : ∃ n, n = p.length := ⟨_, rfl⟩
  rw [← hn] at hl hk hl0 H80  ⊢
  have H3V := Lib.hid h3v
  clear hn hnc hsl hinn hs0 h3v

  go_enter Try.func83, Try.ntmps83
  go_wp2_with fail
  refine (H84.out _ (by repeat (first | with_reducible exact Below.refl _ _ | with_reducible refine Below.drew ?_ | with_reducible refine Below.drewN ?_ _ | with_reducible refine Below.alloc ?_ (by simp <;> omega) _ | with_reducible refine Below.setCell ?_ (by simp <;> omega) _))).mono ?_
  rintro e w1 ⟨v84, rfl, ho84, hb⟩
  have HB1 : Hid (Below w.heap.size w w1) := Below.trans (by repeat (first | with_reducible exact Below.refl _ _ | with_reducible refine Below.drew ?_ | with_reducible refine Below.drewN ?_ _ | with_reducible refine Below.alloc ?_ (by simp <;> omega) _ | with_reducible refine Below.setCell ?_ (by simp <;> omega) _)) (hb.mono (by simp <;> omega))
  have q0 : w1.cell? ⟨w.heap.size, 0, none⟩ = some (.slice (some ⟨b, off, none⟩) n cap) := (hb.cell (p := ⟨w.heap.size, 0, none⟩) (by simp <;> omega)).trans (by go_simp)
  have q1 : w1.cell? ⟨w.heap.size + 1 + 1, 0, none⟩ = some (.int .i64 3) := (hb.cell (p := ⟨w.heap.size + 1 + 1, 0, none⟩) (by simp <;> omega)).trans (by go_simp)
  have q2 : w1.cell? ⟨w.heap.size + 1 + 1, 1, none⟩ = some (.int .i64 i) := (hb.cell (p := ⟨w.heap.size + 1 + 1, 1, none⟩) (by simp <;> omega)).trans (by go_simp)
  have hz1 : w.heap.size + 3 ≤ w1.heap.size := by have := hb.size; simp at this; omega
  have HS : Hid (IV w1 v84 sl) := iv_rowt ho84 (Below.refl _ _) (by have := ho84.1; have := hss; simp only [maxLen]; omega)
  clear hb ho84
  obtain ⟨sb, soff, scap, rfl, hsl1, hsl2, hsb, hsc⟩ := HS.out.addr (by omega)
  have hd1 : decide (sl.length ≤ i) = false := by simp; omega
  have hnn : (0 : Int) ≤ (i : Int) := by omega
  have hni : (i : Int) + 1 ≤ (sl.length : Int) := by omega
  have HSC := Lib.hid hsc
  have HSB := Lib.hid hsb
  clear hsc hsb
  simp only [maxLen] at hsl2
  go_wp2_with fail
  refine (HE.out _).mono ?_
  rintro e w2 ⟨va, vb, rfl, hia, hib, hb⟩
  have HB2 : Hid (Below w.heap.size w w2) := HB1.out.trans (hb.mono (by omega))
  have HIA := Lib.hid hia
  have HIB := Lib.hid hib
  have HS2 : Hid (IV w2 (.slice (some ⟨sb, soff, none⟩) sl.length scap) sl) := HS.out.bel hb
  have r0 : w2.cell? ⟨w.heap.size, 0, none⟩ = some (.slice (some ⟨b, off, none⟩) n cap) := (hb.cell (p := ⟨w.heap.size, 0, none⟩) (by simp <;> omega)).trans q0
  have r1 : w2.cell? ⟨w.heap.size + 1 + 1, 0, none⟩ = some (.int .i64 3) := (hb.cell (p := ⟨w.heap.size + 1 + 1, 0, none⟩) (by simp <;> omega)).trans q1
  have r2 : w2.cell? ⟨w.heap.size + 1 + 1, 1, none⟩ = some (.int .i64 i) := (hb.cell (p := ⟨w.heap.size + 1 + 1, 1, none⟩) (by simp <;> omega)).trans q2
  have hz2 : w.heap.size + 3 ≤ w2.heap.size := by have := hb.size; omega
  have HZ2 : Hid (w.heap.size ≤ w2.heap.size) := Lib.hid (by omega)

  clear hb hia hib q0 q1 q2 h0 h1 h2 h3 h4 h5 h6 h7 h8 h9 h10 hcx hcy
  go_wp2_with fail
  go_ret3
  exact ⟨_, _, rfl, HS2.out.one hi, IV.nil _ _ _ (Nat.zero_le _), HB2.out⟩
set_option maxRecDepth 100000 in
set_option maxHeartbeats 2000000 in
theorem needs_pop (p : List Fn) (v : Value) (w : World) (hv : PV w v p) (k : Nat) (hk : k < p.length) (pc : Nat) (hpc : pc < (p[k]!).code.length) (hl0 : p.length ≤ 40) (hc0 : (p[k]!).code.length ≤ 2000) (hs0 : (p[k]!).params.length ≤ 1000 ∧ (p[k]!).results.length ≤ 1000 ∧ (p[k]!).locals.length ≤ 1000) (st : List Int) (v3 : Value) (h3v : IV w v3 st) (hst : st.length ≤ 60) (y : Int) (hx : (p[k]!).code[pc]! = (4, y)) (hss : (slotsOf p[k]!).length ≤ 300) (t : Int) (h0s : 0 < st.length) (ht : st[st.length - 1]! = t) :
    Calls Try.prog 83 #[v, .int .i64 k, .int .i64 pc, v3] w (NeedPost [t] [] w) := by
  have H80 : Hid (∀ W, Below w.heap.size w W → (p[k]!).inner = true → Calls Try.prog 80 #[v, .int .i64 k, .int .i64 pc] W (OutPost (p[k]!).outer W)) := fun W hb hin => outer_any p v W (hv.bel hb) k hk pc (by omega) hin
  obtain ⟨a, cap, rfl, hl, HC⟩ := hv.opened
  obtain ⟨b, off, ao, ap, ar, al1, ac, an1, an, aa, al, co, cp, cr, cl1, cc, cn1, cn, ca, cl, rfl, hA, hfp⟩ := HC.out k w hk (Below.refl _ _)
  obtain ⟨cb, coff, rfl, hcb, hcx, hcy⟩ := code_at hfp.c pc hpc
  have H84 : Hid (∀ W, Below w.heap.size w W → Calls Try.prog 84 #[.agg #[.string (p[k]!).name, .bool (p[k]!).inner, .slice ao (p[k]!).outer.length co, .slice ap (p[k]!).params.length cp, .slice ar (p[k]!).results.length cr, .slice al1 (p[k]!).locals.length cl1, .slice (some ⟨cb, coff, none⟩) (p[k]!).code.length cc, .slice an1 (p[k]!).lines.length cn1, .slice an 0 cn, .slice aa 0 ca, .slice al 0 cl]] W (RowT 59 (slotsOf p[k]!) W)) := fun W hb =>
    slots_any p[k]! _ W ⟨_, _, _, _, _, _, _, _, _, _, _, _, rfl, hfp.bel hb⟩ (by omega) (by omega) (by omega)
  have HE : Hid (∀ W, Calls Try.prog 101 #[.int .i64 4] W (EffPost (takeOf 4) (giveOf 4) W)) := fun W => eff_any 4 W (by decide) (by decide)
  obtain ⟨tb, toff, tcap, rfl, htl1, htl2, htb, htc⟩ := h3v.addr h0s
  have htc0 := htc (st.length - 1) (by omega)
  rw [← getElem!_pos st _ (by omega), ht] at htc0
  obtain ⟨m, hm⟩ : ∃ m, m + 1 = st.length := ⟨st.length - 1, by omega⟩
  rw [show st.length - 1 = m by omega] at htc0
  rw [← hm] at htl1 hst h3v ⊢
  have HM := Lib.hid hm
  clear htc hm h0s ht
  simp only [maxLen] at htl2

  rw [hx] at hcx hcy
  obtain ⟨hlt1, h0, h1, h2, h3, h4, h5, h6, h7, h8, h9, h10⟩ := hA
  clear hfp hx
  generalize hnc : (p[k]!).code.length = nc at *
  generalize hsl : slotsOf p[k]! = sl at *
  generalize (p[k]!).name = s, (p[k]!).outer = lo, (p[k]!).params.length = np, (p[k]!).results.length = nr, (p[k]!).locals.length = nl, (p[k]!).lines.length = nn at h0 h2 h3 h4 h5 h7 H84 H80 
  generalize hinn : (p[k]!).inner = inn at h1 H84 H80
  obtain ⟨n, hn⟩ : ∃ n, n = p.length := ⟨_, rfl⟩
  rw [← hn] at hl hk hl0 H80  ⊢
  have H3V := Lib.hid h3v
  clear hn hnc hsl hinn hs0 h3v

  go_enter Try.func83, Try.ntmps83
  go_wp2_with fail
  refine (H84.out _ (by repeat (first | with_reducible exact Below.refl _ _ | with_reducible refine Below.drew ?_ | with_reducible refine Below.drewN ?_ _ | with_reducible refine Below.alloc ?_ (by simp <;> omega) _ | with_reducible refine Below.setCell ?_ (by simp <;> omega) _))).mono ?_
  rintro e w1 ⟨v84, rfl, ho84, hb⟩
  have HB1 : Hid (Below w.heap.size w w1) := Below.trans (by repeat (first | with_reducible exact Below.refl _ _ | with_reducible refine Below.drew ?_ | with_reducible refine Below.drewN ?_ _ | with_reducible refine Below.alloc ?_ (by simp <;> omega) _ | with_reducible refine Below.setCell ?_ (by simp <;> omega) _)) (hb.mono (by simp <;> omega))
  have q0 : w1.cell? ⟨w.heap.size, 0, none⟩ = some (.slice (some ⟨b, off, none⟩) n cap) := (hb.cell (p := ⟨w.heap.size, 0, none⟩) (by simp <;> omega)).trans (by go_simp)
  have q1 : w1.cell? ⟨w.heap.size + 1 + 1, 0, none⟩ = some (.int .i64 4) := (hb.cell (p := ⟨w.heap.size + 1 + 1, 0, none⟩) (by simp <;> omega)).trans (by go_simp)
  have q2 : w1.cell? ⟨w.heap.size + 1 + 1, 1, none⟩ = some (.int .i64 y) := (hb.cell (p := ⟨w.heap.size + 1 + 1, 1, none⟩) (by simp <;> omega)).trans (by go_simp)
  have hz1 : w.heap.size + 3 ≤ w1.heap.size := by have := hb.size; simp at this; omega
  have HS : Hid (IV w1 v84 sl) := iv_rowt ho84 (Below.refl _ _) (by have := ho84.1; have := hss; simp only [maxLen]; omega)
  clear hb ho84
  have t0 : w1.cell? ⟨tb, toff + m, none⟩ = some (.int .i64 t) := (HB1.out.cell (p := ⟨tb, toff + m, none⟩) htb).trans htc0
  clear htc0
  go_wp2_with fail
  refine (HE.out _).mono ?_
  rintro e w2 ⟨va, vb, rfl, hia, hib, hb⟩
  have HB2 : Hid (Below w.heap.size w w2) := HB1.out.trans (hb.mono (by omega))
  have HIA := Lib.hid hia
  have HIB := Lib.hid hib
  have HS2 : Hid (IV w2 v84 sl) := HS.out.bel hb
  have r0 : w2.cell? ⟨w.heap.size, 0, none⟩ = some (.slice (some ⟨b, off, none⟩) n cap) := (hb.cell (p := ⟨w.heap.size, 0, none⟩) (by simp <;> omega)).trans q0
  have r1 : w2.cell? ⟨w.heap.size + 1 + 1, 0, none⟩ = some (.int .i64 4) := (hb.cell (p := ⟨w.heap.size + 1 + 1, 0, none⟩) (by simp <;> omega)).trans q1
  have r2 : w2.cell? ⟨w.heap.size + 1 + 1, 1, none⟩ = some (.int .i64 y) := (hb.cell (p := ⟨w.heap.size + 1 + 1, 1, none⟩) (by simp <;> omega)).trans q2
  have hz2 : w.heap.size + 3 ≤ w2.heap.size := by have := hb.size; omega
  have HZ2 : Hid (w.heap.size ≤ w2.heap.size) := Lib.hid (by omega)
  have t1 : w2.cell? ⟨tb, toff + m, none⟩ = some (.int .i64 t) := (hb.cell (p := ⟨tb, toff + m, none⟩) (by have := HB1.out.size; show tb < _; omega)).trans t0
  clear t0
  clear hb hia hib q0 q1 q2 h0 h1 h2 h3 h4 h5 h6 h7 h8 h9 h10 hcx hcy
  go_wp2_with fail
  go_ret3
  exact ⟨_, _, rfl, iv_new _ _ _ _ rfl, IV.nil _ _ _ (Nat.zero_le _), HB2.out.alloc HZ2.out _⟩
set_option maxRecDepth 100000 in
set_option maxHeartbeats 2000000 in
theorem needs_dup (p : List Fn) (v : Value) (w : World) (hv : PV w v p) (k : Nat) (hk : k < p.length) (pc : Nat) (hpc : pc < (p[k]!).code.length) (hl0 : p.length ≤ 40) (hc0 : (p[k]!).code.length ≤ 2000) (hs0 : (p[k]!).params.length ≤ 1000 ∧ (p[k]!).results.length ≤ 1000 ∧ (p[k]!).locals.length ≤ 1000) (st : List Int) (v3 : Value) (h3v : IV w v3 st) (hst : st.length ≤ 60) (y : Int) (hx : (p[k]!).code[pc]! = (5, y)) (hss : (slotsOf p[k]!).length ≤ 300) (t : Int) (h0s : 0 < st.length) (ht : st[st.length - 1]! = t) :
    Calls Try.prog 83 #[v, .int .i64 k, .int .i64 pc, v3] w (NeedPost [] [t] w) := by
  have H80 : Hid (∀ W, Below w.heap.size w W → (p[k]!).inner = true → Calls Try.prog 80 #[v, .int .i64 k, .int .i64 pc] W (OutPost (p[k]!).outer W)) := fun W hb hin => outer_any p v W (hv.bel hb) k hk pc (by omega) hin
  obtain ⟨a, cap, rfl, hl, HC⟩ := hv.opened
  obtain ⟨b, off, ao, ap, ar, al1, ac, an1, an, aa, al, co, cp, cr, cl1, cc, cn1, cn, ca, cl, rfl, hA, hfp⟩ := HC.out k w hk (Below.refl _ _)
  obtain ⟨cb, coff, rfl, hcb, hcx, hcy⟩ := code_at hfp.c pc hpc
  have H84 : Hid (∀ W, Below w.heap.size w W → Calls Try.prog 84 #[.agg #[.string (p[k]!).name, .bool (p[k]!).inner, .slice ao (p[k]!).outer.length co, .slice ap (p[k]!).params.length cp, .slice ar (p[k]!).results.length cr, .slice al1 (p[k]!).locals.length cl1, .slice (some ⟨cb, coff, none⟩) (p[k]!).code.length cc, .slice an1 (p[k]!).lines.length cn1, .slice an 0 cn, .slice aa 0 ca, .slice al 0 cl]] W (RowT 59 (slotsOf p[k]!) W)) := fun W hb =>
    slots_any p[k]! _ W ⟨_, _, _, _, _, _, _, _, _, _, _, _, rfl, hfp.bel hb⟩ (by omega) (by omega) (by omega)
  have HE : Hid (∀ W, Calls Try.prog 101 #[.int .i64 5] W (EffPost (takeOf 5) (giveOf 5) W)) := fun W => eff_any 5 W (by decide) (by decide)
  obtain ⟨tb, toff, tcap, rfl, htl1, htl2, htb, htc⟩ := h3v.addr h0s
  have htc0 := htc (st.length - 1) (by omega)
  rw [← getElem!_pos st _ (by omega), ht] at htc0
  obtain ⟨m, hm⟩ : ∃ m, m + 1 = st.length := ⟨st.length - 1, by omega⟩
  rw [show st.length - 1 = m by omega] at htc0
  rw [← hm] at htl1 hst h3v ⊢
  have HM := Lib.hid hm
  clear htc hm h0s ht
  simp only [maxLen] at htl2

  rw [hx] at hcx hcy
  obtain ⟨hlt1, h0, h1, h2, h3, h4, h5, h6, h7, h8, h9, h10⟩ := hA
  clear hfp hx
  generalize hnc : (p[k]!).code.length = nc at *
  generalize hsl : slotsOf p[k]! = sl at *
  generalize (p[k]!).name = s, (p[k]!).outer = lo, (p[k]!).params.length = np, (p[k]!).results.length = nr, (p[k]!).locals.length = nl, (p[k]!).lines.length = nn at h0 h2 h3 h4 h5 h7 H84 H80 
  generalize hinn : (p[k]!).inner = inn at h1 H84 H80
  obtain ⟨n, hn⟩ : ∃ n, n = p.length := ⟨_, rfl⟩
  rw [← hn] at hl hk hl0 H80  ⊢
  have H3V := Lib.hid h3v
  clear hn hnc hsl hinn hs0 h3v

  go_enter Try.func83, Try.ntmps83
  go_wp2_with fail
  refine (H84.out _ (by repeat (first | with_reducible exact Below.refl _ _ | with_reducible refine Below.drew ?_ | with_reducible refine Below.drewN ?_ _ | with_reducible refine Below.alloc ?_ (by simp <;> omega) _ | with_reducible refine Below.setCell ?_ (by simp <;> omega) _))).mono ?_
  rintro e w1 ⟨v84, rfl, ho84, hb⟩
  have HB1 : Hid (Below w.heap.size w w1) := Below.trans (by repeat (first | with_reducible exact Below.refl _ _ | with_reducible refine Below.drew ?_ | with_reducible refine Below.drewN ?_ _ | with_reducible refine Below.alloc ?_ (by simp <;> omega) _ | with_reducible refine Below.setCell ?_ (by simp <;> omega) _)) (hb.mono (by simp <;> omega))
  have q0 : w1.cell? ⟨w.heap.size, 0, none⟩ = some (.slice (some ⟨b, off, none⟩) n cap) := (hb.cell (p := ⟨w.heap.size, 0, none⟩) (by simp <;> omega)).trans (by go_simp)
  have q1 : w1.cell? ⟨w.heap.size + 1 + 1, 0, none⟩ = some (.int .i64 5) := (hb.cell (p := ⟨w.heap.size + 1 + 1, 0, none⟩) (by simp <;> omega)).trans (by go_simp)
  have q2 : w1.cell? ⟨w.heap.size + 1 + 1, 1, none⟩ = some (.int .i64 y) := (hb.cell (p := ⟨w.heap.size + 1 + 1, 1, none⟩) (by simp <;> omega)).trans (by go_simp)
  have hz1 : w.heap.size + 3 ≤ w1.heap.size := by have := hb.size; simp at this; omega
  have HS : Hid (IV w1 v84 sl) := iv_rowt ho84 (Below.refl _ _) (by have := ho84.1; have := hss; simp only [maxLen]; omega)
  clear hb ho84
  have t0 : w1.cell? ⟨tb, toff + m, none⟩ = some (.int .i64 t) := (HB1.out.cell (p := ⟨tb, toff + m, none⟩) htb).trans htc0
  clear htc0
  go_wp2_with fail
  refine (HE.out _).mono ?_
  rintro e w2 ⟨va, vb, rfl, hia, hib, hb⟩
  have HB2 : Hid (Below w.heap.size w w2) := HB1.out.trans (hb.mono (by omega))
  have HIA := Lib.hid hia
  have HIB := Lib.hid hib
  have HS2 : Hid (IV w2 v84 sl) := HS.out.bel hb
  have r0 : w2.cell? ⟨w.heap.size, 0, none⟩ = some (.slice (some ⟨b, off, none⟩) n cap) := (hb.cell (p := ⟨w.heap.size, 0, none⟩) (by simp <;> omega)).trans q0
  have r1 : w2.cell? ⟨w.heap.size + 1 + 1, 0, none⟩ = some (.int .i64 5) := (hb.cell (p := ⟨w.heap.size + 1 + 1, 0, none⟩) (by simp <;> omega)).trans q1
  have r2 : w2.cell? ⟨w.heap.size + 1 + 1, 1, none⟩ = some (.int .i64 y) := (hb.cell (p := ⟨w.heap.size + 1 + 1, 1, none⟩) (by simp <;> omega)).trans q2
  have hz2 : w.heap.size + 3 ≤ w2.heap.size := by have := hb.size; omega
  have HZ2 : Hid (w.heap.size ≤ w2.heap.size) := Lib.hid (by omega)
  have t1 : w2.cell? ⟨tb, toff + m, none⟩ = some (.int .i64 t) := (hb.cell (p := ⟨tb, toff + m, none⟩) (by have := HB1.out.size; show tb < _; omega)).trans t0
  clear t0
  clear hb hia hib q0 q1 q2 h0 h1 h2 h3 h4 h5 h6 h7 h8 h9 h10 hcx hcy
  go_wp2_with fail
  go_ret3
  exact ⟨_, _, rfl, IV.nil _ _ _ (Nat.zero_le _), iv_new _ _ _ _ rfl, HB2.out.alloc HZ2.out _⟩
set_option maxRecDepth 100000 in
set_option maxHeartbeats 2000000 in
theorem needs_ret (p : List Fn) (v : Value) (w : World) (hv : PV w v p) (k : Nat) (hk : k < p.length) (pc : Nat) (hpc : pc < (p[k]!).code.length) (hl0 : p.length ≤ 40) (hc0 : (p[k]!).code.length ≤ 2000) (hs0 : (p[k]!).params.length ≤ 1000 ∧ (p[k]!).results.length ≤ 1000 ∧ (p[k]!).locals.length ≤ 1000) (st : List Int) (v3 : Value) (h3v : IV w v3 st) (hst : st.length ≤ 60) (y : Int) (hx : (p[k]!).code[pc]! = (25, y)) (hss : (slotsOf p[k]!).length ≤ 300) (h0s : st = []) :
    Calls Try.prog 83 #[v, .int .i64 k, .int .i64 pc, v3] w (NeedPost [] [] w) := by
  have H80 : Hid (∀ W, Below w.heap.size w W → (p[k]!).inner = true → Calls Try.prog 80 #[v, .int .i64 k, .int .i64 pc] W (OutPost (p[k]!).outer W)) := fun W hb hin => outer_any p v W (hv.bel hb) k hk pc (by omega) hin
  obtain ⟨a, cap, rfl, hl, HC⟩ := hv.opened
  obtain ⟨b, off, ao, ap, ar, al1, ac, an1, an, aa, al, co, cp, cr, cl1, cc, cn1, cn, ca, cl, rfl, hA, hfp⟩ := HC.out k w hk (Below.refl _ _)
  obtain ⟨cb, coff, rfl, hcb, hcx, hcy⟩ := code_at hfp.c pc hpc
  have H84 : Hid (∀ W, Below w.heap.size w W → Calls Try.prog 84 #[.agg #[.string (p[k]!).name, .bool (p[k]!).inner, .slice ao (p[k]!).outer.length co, .slice ap (p[k]!).params.length cp, .slice ar (p[k]!).results.length cr, .slice al1 (p[k]!).locals.length cl1, .slice (some ⟨cb, coff, none⟩) (p[k]!).code.length cc, .slice an1 (p[k]!).lines.length cn1, .slice an 0 cn, .slice aa 0 ca, .slice al 0 cl]] W (RowT 59 (slotsOf p[k]!) W)) := fun W hb =>
    slots_any p[k]! _ W ⟨_, _, _, _, _, _, _, _, _, _, _, _, rfl, hfp.bel hb⟩ (by omega) (by omega) (by omega)
  have HE : Hid (∀ W, Calls Try.prog 101 #[.int .i64 25] W (EffPost (takeOf 25) (giveOf 25) W)) := fun W => eff_any 25 W (by decide) (by decide)
  have hv30 : ∃ ta tcap, v3 = .slice ta 0 tcap := by
    obtain ⟨ta, tcap, rfl, -⟩ := h3v
    rw [h0s]
    exact ⟨ta, tcap, rfl⟩
  obtain ⟨ta, tcap, rfl⟩ := hv30
  clear h0s

  rw [hx] at hcx hcy
  obtain ⟨hlt1, h0, h1, h2, h3, h4, h5, h6, h7, h8, h9, h10⟩ := hA
  clear hfp hx
  generalize hnc : (p[k]!).code.length = nc at *
  generalize hsl : slotsOf p[k]! = sl at *
  generalize (p[k]!).name = s, (p[k]!).outer = lo, (p[k]!).params.length = np, (p[k]!).results.length = nr, (p[k]!).locals.length = nl, (p[k]!).lines.length = nn at h0 h2 h3 h4 h5 h7 H84 H80 
  generalize hinn : (p[k]!).inner = inn at h1 H84 H80
  obtain ⟨n, hn⟩ : ∃ n, n = p.length := ⟨_, rfl⟩
  rw [← hn] at hl hk hl0 H80  ⊢
  have H3V := Lib.hid h3v
  clear hn hnc hsl hinn hs0 h3v

  go_enter Try.func83, Try.ntmps83
  go_wp2_with fail
  refine (H84.out _ (by repeat (first | with_reducible exact Below.refl _ _ | with_reducible refine Below.drew ?_ | with_reducible refine Below.drewN ?_ _ | with_reducible refine Below.alloc ?_ (by simp <;> omega) _ | with_reducible refine Below.setCell ?_ (by simp <;> omega) _))).mono ?_
  rintro e w1 ⟨v84, rfl, ho84, hb⟩
  have HB1 : Hid (Below w.heap.size w w1) := Below.trans (by repeat (first | with_reducible exact Below.refl _ _ | with_reducible refine Below.drew ?_ | with_reducible refine Below.drewN ?_ _ | with_reducible refine Below.alloc ?_ (by simp <;> omega) _ | with_reducible refine Below.setCell ?_ (by simp <;> omega) _)) (hb.mono (by simp <;> omega))
  have q0 : w1.cell? ⟨w.heap.size, 0, none⟩ = some (.slice (some ⟨b, off, none⟩) n cap) := (hb.cell (p := ⟨w.heap.size, 0, none⟩) (by simp <;> omega)).trans (by go_simp)
  have q1 : w1.cell? ⟨w.heap.size + 1 + 1, 0, none⟩ = some (.int .i64 25) := (hb.cell (p := ⟨w.heap.size + 1 + 1, 0, none⟩) (by simp <;> omega)).trans (by go_simp)
  have q2 : w1.cell? ⟨w.heap.size + 1 + 1, 1, none⟩ = some (.int .i64 y) := (hb.cell (p := ⟨w.heap.size + 1 + 1, 1, none⟩) (by simp <;> omega)).trans (by go_simp)
  have hz1 : w.heap.size + 3 ≤ w1.heap.size := by have := hb.size; simp at this; omega
  have HS : Hid (IV w1 v84 sl) := iv_rowt ho84 (Below.refl _ _) (by have := ho84.1; have := hss; simp only [maxLen]; omega)
  clear hb ho84

  go_wp2_with fail
  refine (HE.out _).mono ?_
  rintro e w2 ⟨va, vb, rfl, hia, hib, hb⟩
  have HB2 : Hid (Below w.heap.size w w2) := HB1.out.trans (hb.mono (by omega))
  have HIA := Lib.hid hia
  have HIB := Lib.hid hib
  have HS2 : Hid (IV w2 v84 sl) := HS.out.bel hb
  have r0 : w2.cell? ⟨w.heap.size, 0, none⟩ = some (.slice (some ⟨b, off, none⟩) n cap) := (hb.cell (p := ⟨w.heap.size, 0, none⟩) (by simp <;> omega)).trans q0
  have r1 : w2.cell? ⟨w.heap.size + 1 + 1, 0, none⟩ = some (.int .i64 25) := (hb.cell (p := ⟨w.heap.size + 1 + 1, 0, none⟩) (by simp <;> omega)).trans q1
  have r2 : w2.cell? ⟨w.heap.size + 1 + 1, 1, none⟩ = some (.int .i64 y) := (hb.cell (p := ⟨w.heap.size + 1 + 1, 1, none⟩) (by simp <;> omega)).trans q2
  have hz2 : w.heap.size + 3 ≤ w2.heap.size := by have := hb.size; omega
  have HZ2 : Hid (w.heap.size ≤ w2.heap.size) := Lib.hid (by omega)

  clear hb hia hib q0 q1 q2 h0 h1 h2 h3 h4 h5 h6 h7 h8 h9 h10 hcx hcy
  go_wp2_with fail
  go_ret3
  exact ⟨_, _, rfl, HIA.out, HIB.out, HB2.out⟩
set_option maxRecDepth 100000 in
set_option maxHeartbeats 2000000 in
theorem needs_defer (p : List Fn) (v : Value) (w : World) (hv : PV w v p) (k : Nat) (hk : k < p.length) (pc : Nat) (hpc : pc < (p[k]!).code.length) (hl0 : p.length ≤ 40) (hc0 : (p[k]!).code.length ≤ 2000) (hs0 : (p[k]!).params.length ≤ 1000 ∧ (p[k]!).results.length ≤ 1000 ∧ (p[k]!).locals.length ≤ 1000) (st : List Int) (v3 : Value) (h3v : IV w v3 st) (hst : st.length ≤ 60) (g : Nat) (hx : (p[k]!).code[pc]! = (24, (g : Int))) (hss : (slotsOf p[k]!).length ≤ 300) (hg : g < p.length) :
    Calls Try.prog 83 #[v, .int .i64 k, .int .i64 pc, v3] w (NeedPost (p[g]!).params [] w) := by
  have H80 : Hid (∀ W, Below w.heap.size w W → (p[k]!).inner = true → Calls Try.prog 80 #[v, .int .i64 k, .int .i64 pc] W (OutPost (p[k]!).outer W)) := fun W hb hin => outer_any p v W (hv.bel hb) k hk pc (by omega) hin
  obtain ⟨a, cap, rfl, hl, HC⟩ := hv.opened
  obtain ⟨b, off, ao, ap, ar, al1, ac, an1, an, aa, al, co, cp, cr, cl1, cc, cn1, cn, ca, cl, rfl, hA, hfp⟩ := HC.out k w hk (Below.refl _ _)
  obtain ⟨cb, coff, rfl, hcb, hcx, hcy⟩ := code_at hfp.c pc hpc
  have H84 : Hid (∀ W, Below w.heap.size w W → Calls Try.prog 84 #[.agg #[.string (p[k]!).name, .bool (p[k]!).inner, .slice ao (p[k]!).outer.length co, .slice ap (p[k]!).params.length cp, .slice ar (p[k]!).results.length cr, .slice al1 (p[k]!).locals.length cl1, .slice (some ⟨cb, coff, none⟩) (p[k]!).code.length cc, .slice an1 (p[k]!).lines.length cn1, .slice an 0 cn, .slice aa 0 ca, .slice al 0 cl]] W (RowT 59 (slotsOf p[k]!) W)) := fun W hb =>
    slots_any p[k]! _ W ⟨_, _, _, _, _, _, _, _, _, _, _, _, rfl, hfp.bel hb⟩ (by omega) (by omega) (by omega)
  have HE : Hid (∀ W, Calls Try.prog 101 #[.int .i64 24] W (EffPost (takeOf 24) (giveOf 24) W)) := fun W => eff_any 24 W (by decide) (by decide)
  obtain ⟨b2, off2, ao2, ap2, ar2, al2, ac2, an2, an3, aa2, al3, co2, cp2, cr2, cl2, cc2, cn2, cn3, ca2, cl3, he, hA2, hfp2⟩ := HC.out g w hg (Below.refl _ _)
  simp only [Option.some.injEq, Addr.mk.injEq] at he
  obtain ⟨rfl, rfl, _⟩ := he
  obtain ⟨hltg, -, -, -, k3, k4, -, -, -, -, -, -⟩ := hA2
  have HGP := Lib.hid hfp2.p
  have HGR := Lib.hid hfp2.r
  obtain ⟨pg, hpg⟩ : ∃ l, l = (p[g]!).params := ⟨_, rfl⟩
  obtain ⟨rg, hrg⟩ : ∃ l, l = (p[g]!).results := ⟨_, rfl⟩
  rw [← hpg] at HGP k3 ⊢
  rw [← hrg] at HGR k4
  try rw [← hrg]
  clear hfp2 hpg hrg

  rw [hx] at hcx hcy
  obtain ⟨hlt1, h0, h1, h2, h3, h4, h5, h6, h7, h8, h9, h10⟩ := hA
  clear hfp hx
  generalize hnc : (p[k]!).code.length = nc at *
  generalize hsl : slotsOf p[k]! = sl at *
  generalize (p[k]!).name = s, (p[k]!).outer = lo, (p[k]!).params.length = np, (p[k]!).results.length = nr, (p[k]!).locals.length = nl, (p[k]!).lines.length = nn at h0 h2 h3 h4 h5 h7 H84 H80 
  generalize hinn : (p[k]!).inner = inn at h1 H84 H80
  obtain ⟨n, hn⟩ : ∃ n, n = p.length := ⟨_, rfl⟩
  rw [← hn] at hl hk hl0 H80 hg ⊢
  have H3V := Lib.hid h3v
  clear hn hnc hsl hinn hs0 h3v

  go_enter Try.func83, Try.ntmps83
  go_wp2_with fail
  refine (H84.out _ (by repeat (first | with_reducible exact Below.refl _ _ | with_reducible refine Below.drew ?_ | with_reducible refine Below.drewN ?_ _ | with_reducible refine Below.alloc ?_ (by simp <;> omega) _ | with_reducible refine Below.setCell ?_ (by simp <;> omega) _))).mono ?_
  rintro e w1 ⟨v84, rfl, ho84, hb⟩
  have HB1 : Hid (Below w.heap.size w w1) := Below.trans (by repeat (first | with_reducible exact Below.refl _ _ | with_reducible refine Below.drew ?_ | with_reducible refine Below.drewN ?_ _ | with_reducible refine Below.alloc ?_ (by simp <;> omega) _ | with_reducible refine Below.setCell ?_ (by simp <;> omega) _)) (hb.mono (by simp <;> omega))
  have q0 : w1.cell? ⟨w.heap.size, 0, none⟩ = some (.slice (some ⟨b, off, none⟩) n cap) := (hb.cell (p := ⟨w.heap.size, 0, none⟩) (by simp <;> omega)).trans (by go_simp)
  have q1 : w1.cell? ⟨w.heap.size + 1 + 1, 0, none⟩ = some (.int .i64 24) := (hb.cell (p := ⟨w.heap.size + 1 + 1, 0, none⟩) (by simp <;> omega)).trans (by go_simp)
  have q2 : w1.cell? ⟨w.heap.size + 1 + 1, 1, none⟩ = some (.int .i64 g) := (hb.cell (p := ⟨w.heap.size + 1 + 1, 1, none⟩) (by simp <;> omega)).trans (by go_simp)
  have hz1 : w.heap.size + 3 ≤ w1.heap.size := by have := hb.size; simp at this; omega
  have HS : Hid (IV w1 v84 sl) := iv_rowt ho84 (Below.refl _ _) (by have := ho84.1; have := hss; simp only [maxLen]; omega)
  clear hb ho84
  have u3 : w1.cell? ⟨b, off + g * 11 + 3, none⟩ = some (.slice ap2 pg.length cp2) := (HB1.out.cell (p := ⟨b, off + g * 11 + 3, none⟩) hltg).trans k3
  have u4 : w1.cell? ⟨b, off + g * 11 + 4, none⟩ = some (.slice ar2 rg.length cr2) := (HB1.out.cell (p := ⟨b, off + g * 11 + 4, none⟩) hltg).trans k4
  clear k3 k4
  go_wp2_with fail
  refine (HE.out _).mono ?_
  rintro e w2 ⟨va, vb, rfl, hia, hib, hb⟩
  have HB2 : Hid (Below w.heap.size w w2) := HB1.out.trans (hb.mono (by omega))
  have HIA := Lib.hid hia
  have HIB := Lib.hid hib
  have HS2 : Hid (IV w2 v84 sl) := HS.out.bel hb
  have r0 : w2.cell? ⟨w.heap.size, 0, none⟩ = some (.slice (some ⟨b, off, none⟩) n cap) := (hb.cell (p := ⟨w.heap.size, 0, none⟩) (by simp <;> omega)).trans q0
  have r1 : w2.cell? ⟨w.heap.size + 1 + 1, 0, none⟩ = some (.int .i64 24) := (hb.cell (p := ⟨w.heap.size + 1 + 1, 0, none⟩) (by simp <;> omega)).trans q1
  have r2 : w2.cell? ⟨w.heap.size + 1 + 1, 1, none⟩ = some (.int .i64 g) := (hb.cell (p := ⟨w.heap.size + 1 + 1, 1, none⟩) (by simp <;> omega)).trans q2
  have hz2 : w.heap.size + 3 ≤ w2.heap.size := by have := hb.size; omega
  have HZ2 : Hid (w.heap.size ≤ w2.heap.size) := Lib.hid (by omega)
  have u5 : w2.cell? ⟨b, off + g * 11 + 3, none⟩ = some (.slice ap2 pg.length cp2) := (hb.cell (p := ⟨b, off + g * 11 + 3, none⟩) (by have := HB1.out.size; show b < _; omega)).trans u3
  have u6 : w2.cell? ⟨b, off + g * 11 + 4, none⟩ = some (.slice ar2 rg.length cr2) := (hb.cell (p := ⟨b, off + g * 11 + 4, none⟩) (by have := HB1.out.size; show b < _; omega)).trans u4
  have hdg : decide (n ≤ g) = false := by simp; omega
  have hg0 : (0 : Int) ≤ (g : Int) := by omega
  have hgn : (g : Int) < (n : Int) := by omega
  have hgc : (g : Int) < (cap : Int) := by omega
  clear u3 u4
  clear hb hia hib q0 q1 q2 h0 h1 h2 h3 h4 h5 h6 h7 h8 h9 h10 hcx hcy
  go_wp2_with fail
  go_ret3
  exact ⟨_, _, rfl, HGP.out.bel HB2.out, IV.nil _ _ _ (Nat.zero_le _), HB2.out⟩
set_option maxRecDepth 100000 in
set_option maxHeartbeats 2000000 in
theorem needs_call (p : List Fn) (v : Value) (w : World) (hv : PV w v p) (k : Nat) (hk : k < p.length) (pc : Nat) (hpc : pc < (p[k]!).code.length) (hl0 : p.length ≤ 40) (hc0 : (p[k]!).code.length ≤ 2000) (hs0 : (p[k]!).params.length ≤ 1000 ∧ (p[k]!).results.length ≤ 1000 ∧ (p[k]!).locals.length ≤ 1000) (st : List Int) (v3 : Value) (h3v : IV w v3 st) (hst : st.length ≤ 60) (g : Nat) (hx : (p[k]!).code[pc]! = (23, (g : Int))) (hss : (slotsOf p[k]!).length ≤ 300) (hg : g < p.length) :
    Calls Try.prog 83 #[v, .int .i64 k, .int .i64 pc, v3] w (NeedPost (p[g]!).params (p[g]!).results w) := by
  have H80 : Hid (∀ W, Below w.heap.size w W → (p[k]!).inner = true → Calls Try.prog 80 #[v, .int .i64 k, .int .i64 pc] W (OutPost (p[k]!).outer W)) := fun W hb hin => outer_any p v W (hv.bel hb) k hk pc (by omega) hin
  obtain ⟨a, cap, rfl, hl, HC⟩ := hv.opened
  obtain ⟨b, off, ao, ap, ar, al1, ac, an1, an, aa, al, co, cp, cr, cl1, cc, cn1, cn, ca, cl, rfl, hA, hfp⟩ := HC.out k w hk (Below.refl _ _)
  obtain ⟨cb, coff, rfl, hcb, hcx, hcy⟩ := code_at hfp.c pc hpc
  have H84 : Hid (∀ W, Below w.heap.size w W → Calls Try.prog 84 #[.agg #[.string (p[k]!).name, .bool (p[k]!).inner, .slice ao (p[k]!).outer.length co, .slice ap (p[k]!).params.length cp, .slice ar (p[k]!).results.length cr, .slice al1 (p[k]!).locals.length cl1, .slice (some ⟨cb, coff, none⟩) (p[k]!).code.length cc, .slice an1 (p[k]!).lines.length cn1, .slice an 0 cn, .slice aa 0 ca, .slice al 0 cl]] W (RowT 59 (slotsOf p[k]!) W)) := fun W hb =>
    slots_any p[k]! _ W ⟨_, _, _, _, _, _, _, _, _, _, _, _, rfl, hfp.bel hb⟩ (by omega) (by omega) (by omega)
  have HE : Hid (∀ W, Calls Try.prog 101 #[.int .i64 23] W (EffPost (takeOf 23) (giveOf 23) W)) := fun W => eff_any 23 W (by decide) (by decide)
  obtain ⟨b2, off2, ao2, ap2, ar2, al2, ac2, an2, an3, aa2, al3, co2, cp2, cr2, cl2, cc2, cn2, cn3, ca2, cl3, he, hA2, hfp2⟩ := HC.out g w hg (Below.refl _ _)
  simp only [Option.some.injEq, Addr.mk.injEq] at he
  obtain ⟨rfl, rfl, _⟩ := he
  obtain ⟨hltg, -, -, -, k3, k4, -, -, -, -, -, -⟩ := hA2
  have HGP := Lib.hid hfp2.p
  have HGR := Lib.hid hfp2.r
  obtain ⟨pg, hpg⟩ : ∃ l, l = (p[g]!).params := ⟨_, rfl⟩
  obtain ⟨rg, hrg⟩ : ∃ l, l = (p[g]!).results := ⟨_, rfl⟩
  rw [← hpg] at HGP k3 ⊢
  rw [← hrg] at HGR k4
  try rw [← hrg]
  clear hfp2 hpg hrg

  rw [hx] at hcx hcy
  obtain ⟨hlt1, h0, h1, h2, h3, h4, h5, h6, h7, h8, h9, h10⟩ := hA
  clear hfp hx
  generalize hnc : (p[k]!).code.length = nc at *
  generalize hsl : slotsOf p[k]! = sl at *
  generalize (p[k]!).name = s, (p[k]!).outer = lo, (p[k]!).params.length = np, (p[k]!).results.length = nr, (p[k]!).locals.length = nl, (p[k]!).lines.length = nn at h0 h2 h3 h4 h5 h7 H84 H80 
  generalize hinn : (p[k]!).inner = inn at h1 H84 H80
  obtain ⟨n, hn⟩ : ∃ n, n = p.length := ⟨_, rfl⟩
  rw [← hn] at hl hk hl0 H80 hg ⊢
  have H3V := Lib.hid h3v
  clear hn hnc hsl hinn hs0 h3v

  go_enter Try.func83, Try.ntmps83
  go_wp2_with fail
  refine (H84.out _ (by repeat (first | with_reducible exact Below.refl _ _ | with_reducible refine Below.drew ?_ | with_reducible refine Below.drewN ?_ _ | with_reducible refine Below.alloc ?_ (by simp <;> omega) _ | with_reducible refine Below.setCell ?_ (by simp <;> omega) _))).mono ?_
  rintro e w1 ⟨v84, rfl, ho84, hb⟩
  have HB1 : Hid (Below w.heap.size w w1) := Below.trans (by repeat (first | with_reducible exact Below.refl _ _ | with_reducible refine Below.drew ?_ | with_reducible refine Below.drewN ?_ _ | with_reducible refine Below.alloc ?_ (by simp <;> omega) _ | with_reducible refine Below.setCell ?_ (by simp <;> omega) _)) (hb.mono (by simp <;> omega))
  have q0 : w1.cell? ⟨w.heap.size, 0, none⟩ = some (.slice (some ⟨b, off, none⟩) n cap) := (hb.cell (p := ⟨w.heap.size, 0, none⟩) (by simp <;> omega)).trans (by go_simp)
  have q1 : w1.cell? ⟨w.heap.size + 1 + 1, 0, none⟩ = some (.int .i64 23) := (hb.cell (p := ⟨w.heap.size + 1 + 1, 0, none⟩) (by simp <;> omega)).trans (by go_simp)
  have q2 : w1.cell? ⟨w.heap.size + 1 + 1, 1, none⟩ = some (.int .i64 g) := (hb.cell (p := ⟨w.heap.size + 1 + 1, 1, none⟩) (by simp <;> omega)).trans (by go_simp)
  have hz1 : w.heap.size + 3 ≤ w1.heap.size := by have := hb.size; simp at this; omega
  have HS : Hid (IV w1 v84 sl) := iv_rowt ho84 (Below.refl _ _) (by have := ho84.1; have := hss; simp only [maxLen]; omega)
  clear hb ho84
  have u3 : w1.cell? ⟨b, off + g * 11 + 3, none⟩ = some (.slice ap2 pg.length cp2) := (HB1.out.cell (p := ⟨b, off + g * 11 + 3, none⟩) hltg).trans k3
  have u4 : w1.cell? ⟨b, off + g * 11 + 4, none⟩ = some (.slice ar2 rg.length cr2) := (HB1.out.cell (p := ⟨b, off + g * 11 + 4, none⟩) hltg).trans k4
  clear k3 k4
  go_wp2_with fail
  refine (HE.out _).mono ?_
  rintro e w2 ⟨va, vb, rfl, hia, hib, hb⟩
  have HB2 : Hid (Below w.heap.size w w2) := HB1.out.trans (hb.mono (by omega))
  have HIA := Lib.hid hia
  have HIB := Lib.hid hib
  have HS2 : Hid (IV w2 v84 sl) := HS.out.bel hb
  have r0 : w2.cell? ⟨w.heap.size, 0, none⟩ = some (.slice (some ⟨b, off, none⟩) n cap) := (hb.cell (p := ⟨w.heap.size, 0, none⟩) (by simp <;> omega)).trans q0
  have r1 : w2.cell? ⟨w.heap.size + 1 + 1, 0, none⟩ = some (.int .i64 23) := (hb.cell (p := ⟨w.heap.size + 1 + 1, 0, none⟩) (by simp <;> omega)).trans q1
  have r2 : w2.cell? ⟨w.heap.size + 1 + 1, 1, none⟩ = some (.int .i64 g) := (hb.cell (p := ⟨w.heap.size + 1 + 1, 1, none⟩) (by simp <;> omega)).trans q2
  have hz2 : w.heap.size + 3 ≤ w2.heap.size := by have := hb.size; omega
  have HZ2 : Hid (w.heap.size ≤ w2.heap.size) := Lib.hid (by omega)
  have u5 : w2.cell? ⟨b, off + g * 11 + 3, none⟩ = some (.slice ap2 pg.length cp2) := (hb.cell (p := ⟨b, off + g * 11 + 3, none⟩) (by have := HB1.out.size; show b < _; omega)).trans u3
  have u6 : w2.cell? ⟨b, off + g * 11 + 4, none⟩ = some (.slice ar2 rg.length cr2) := (hb.cell (p := ⟨b, off + g * 11 + 4, none⟩) (by have := HB1.out.size; show b < _; omega)).trans u4
  have hdg : decide (n ≤ g) = false := by simp; omega
  have hg0 : (0 : Int) ≤ (g : Int) := by omega
  have hgn : (g : Int) < (n : Int) := by omega
  have hgc : (g : Int) < (cap : Int) := by omega
  clear u3 u4
  clear hb hia hib q0 q1 q2 h0 h1 h2 h3 h4 h5 h6 h7 h8 h9 h10 hcx hcy
  go_wp2_with fail
  go_quiet (fail)
  go_wp2_with fail
  go_ret3
  exact ⟨_, _, rfl, (HGP.out.bel HB2.out).bel (Below.drewN (Below.refl _ _) _), (HGR.out.bel HB2.out).bel (Below.drewN (Below.refl _ _) _), Below.drewN HB2.out _⟩
set_option maxRecDepth 100000 in
set_option maxHeartbeats 2000000 in
theorem needs_getres (p : List Fn) (v : Value) (w : World) (hv : PV w v p) (k : Nat) (hk : k < p.length) (pc : Nat) (hpc : pc < (p[k]!).code.length) (hl0 : p.length ≤ 40) (hc0 : (p[k]!).code.length ≤ 2000) (hs0 : (p[k]!).params.length ≤ 1000 ∧ (p[k]!).results.length ≤ 1000 ∧ (p[k]!).locals.length ≤ 1000) (st : List Int) (v3 : Value) (h3v : IV w v3 st) (hst : st.length ≤ 60) (i : Nat) (hx : (p[k]!).code[pc]! = (28, (i : Int))) (hss : (slotsOf p[k]!).length ≤ 300) (hi : i < (p[k]!).outer.length) (hin : (p[k]!).inner = true) (hol : (p[k]!).outer.length ≤ 1000) :
    Calls Try.prog 83 #[v, .int .i64 k, .int .i64 pc, v3] w (NeedPost [] [(p[k]!).outer[i]!] w) := by
  have H80 : Hid (∀ W, Below w.heap.size w W → (p[k]!).inner = true → Calls Try.prog 80 #[v, .int .i64 k, .int .i64 pc] W (OutPost (p[k]!).outer W)) := fun W hb hin => outer_any p v W (hv.bel hb) k hk pc (by omega) hin
  obtain ⟨a, cap, rfl, hl, HC⟩ := hv.opened
  obtain ⟨b, off, ao, ap, ar, al1, ac, an1, an, aa, al, co, cp, cr, cl1, cc, cn1, cn, ca, cl, rfl, hA, hfp⟩ := HC.out k w hk (Below.refl _ _)
  obtain ⟨cb, coff, rfl, hcb, hcx, hcy⟩ := code_at hfp.c pc hpc
  have H84 : Hid (∀ W, Below w.heap.size w W → Calls Try.prog 84 #[.agg #[.string (p[k]!).name, .bool (p[k]!).inner, .slice ao (p[k]!).outer.length co, .slice ap (p[k]!).params.length cp, .slice ar (p[k]!).results.length cr, .slice al1 (p[k]!).locals.length cl1, .slice (some ⟨cb, coff, none⟩) (p[k]!).code.length cc, .slice an1 (p[k]!).lines.length cn1, .slice an 0 cn, .slice aa 0 ca, .slice al 0 cl]] W (RowT 59 (slotsOf p[k]!) W)) := fun W hb =>
    slots_any p[k]! _ W ⟨_, _, _, _, _, _, _, _, _, _, _, _, rfl, hfp.bel hb⟩ (by omega) (by omega) (by omega)
  have HE : Hid (∀ W, Calls Try.prog 101 #[.int .i64 28] W (EffPost (takeOf 28) (giveOf 28) W)) := fun W => eff_any 28 W (by decide) (by decide)
  have H80' : Hid (∀ W, Below w.heap.size w W → Calls Try.prog 80 #[.agg #[.slice (some ⟨b, off, none⟩) p.length cap], .int .i64 k, .int .i64 pc] W (OutPost (p[k]!).outer W)) := fun W hb => H80 W hb hin
  clear H80
  have H80 := H80'
  clear H80'
  have hdo : decide ((p[k]!).outer.length ≤ i) = false := by rw [decide_eq_false_iff_not]; omega
  have hnn : (0 : Int) ≤ (i : Int) := by omega
  have hni : (i : Int) + 1 ≤ ((p[k]!).outer.length : Int) := by omega

  rw [hx] at hcx hcy
  obtain ⟨hlt1, h0, h1, h2, h3, h4, h5, h6, h7, h8, h9, h10⟩ := hA
  clear hfp hin hx
  generalize hnc : (p[k]!).code.length = nc at *
  generalize hsl : slotsOf p[k]! = sl at *
  generalize (p[k]!).name = s, (p[k]!).outer = lo, (p[k]!).params.length = np, (p[k]!).results.length = nr, (p[k]!).locals.length = nl, (p[k]!).lines.length = nn at h0 h2 h3 h4 h5 h7 H84 H80 hi hni hdo hol ⊢ 
  generalize hinn : (p[k]!).inner = inn at h1 H84 H80
  obtain ⟨n, hn⟩ : ∃ n, n = p.length := ⟨_, rfl⟩
  rw [← hn] at hl hk hl0 H80  ⊢
  have H3V := Lib.hid h3v
  clear hn hnc hsl hinn hs0 h3v

  go_enter Try.func83, Try.ntmps83
  go_wp2_with fail
  refine (H84.out _ (by repeat (first | with_reducible exact Below.refl _ _ | with_reducible refine Below.drew ?_ | with_reducible refine Below.drewN ?_ _ | with_reducible refine Below.alloc ?_ (by simp <;> omega) _ | with_reducible refine Below.setCell ?_ (by simp <;> omega) _))).mono ?_
  rintro e w1 ⟨v84, rfl, ho84, hb⟩
  have HB1 : Hid (Below w.heap.size w w1) := Below.trans (by repeat (first | with_reducible exact Below.refl _ _ | with_reducible refine Below.drew ?_ | with_reducible refine Below.drewN ?_ _ | with_reducible refine Below.alloc ?_ (by simp <;> omega) _ | with_reducible refine Below.setCell ?_ (by simp <;> omega) _)) (hb.mono (by simp <;> omega))
  have q0 : w1.cell? ⟨w.heap.size, 0, none⟩ = some (.slice (some ⟨b, off, none⟩) n cap) := (hb.cell (p := ⟨w.heap.size, 0, none⟩) (by simp <;> omega)).trans (by go_simp)
  have q1 : w1.cell? ⟨w.heap.size + 1 + 1, 0, none⟩ = some (.int .i64 28) := (hb.cell (p := ⟨w.heap.size + 1 + 1, 0, none⟩) (by simp <;> omega)).trans (by go_simp)
  have q2 : w1.cell? ⟨w.heap.size + 1 + 1, 1, none⟩ = some (.int .i64 i) := (hb.cell (p := ⟨w.heap.size + 1 + 1, 1, none⟩) (by simp <;> omega)).trans (by go_simp)
  have hz1 : w.heap.size + 3 ≤ w1.heap.size := by have := hb.size; simp at this; omega
  have HS : Hid (IV w1 v84 sl) := iv_rowt ho84 (Below.refl _ _) (by have := ho84.1; have := hss; simp only [maxLen]; omega)
  clear hb ho84

  go_wp2_with fail
  refine (HE.out _).mono ?_
  rintro e w2 ⟨va, vb, rfl, hia, hib, hb⟩
  have HB2 : Hid (Below w.heap.size w w2) := HB1.out.trans (hb.mono (by omega))
  have HIA := Lib.hid hia
  have HIB := Lib.hid hib
  have HS2 : Hid (IV w2 v84 sl) := HS.out.bel hb
  have r0 : w2.cell? ⟨w.heap.size, 0, none⟩ = some (.slice (some ⟨b, off, none⟩) n cap) := (hb.cell (p := ⟨w.heap.size, 0, none⟩) (by simp <;> omega)).trans q0
  have r1 : w2.cell? ⟨w.heap.size + 1 + 1, 0, none⟩ = some (.int .i64 28) := (hb.cell (p := ⟨w.heap.size + 1 + 1, 0, none⟩) (by simp <;> omega)).trans q1
  have r2 : w2.cell? ⟨w.heap.size + 1 + 1, 1, none⟩ = some (.int .i64 i) := (hb.cell (p := ⟨w.heap.size + 1 + 1, 1, none⟩) (by simp <;> omega)).trans q2
  have hz2 : w.heap.size + 3 ≤ w2.heap.size := by have := hb.size; omega
  have HZ2 : Hid (w.heap.size ≤ w2.heap.size) := Lib.hid (by omega)

  clear hb hia hib q0 q1 q2 h0 h1 h2 h3 h4 h5 h6 h7 h8 h9 h10 hcx hcy
  go_wp2_with fail
  refine (H80.out w2 HB2.out).mono ?_
  rintro e w3 ⟨v80, rfl, hio, hb⟩
  have HB3 : Hid (Below w.heap.size w w3) := HB2.out.trans (hb.mono (by omega))
  have s1 : w3.cell? ⟨w.heap.size + 1 + 1, 0, none⟩ = some (.int .i64 28) := (hb.cell (p := ⟨w.heap.size + 1 + 1, 0, none⟩) (by simp <;> omega)).trans r1
  have s2 : w3.cell? ⟨w.heap.size + 1 + 1, 1, none⟩ = some (.int .i64 i) := (hb.cell (p := ⟨w.heap.size + 1 + 1, 1, none⟩) (by simp <;> omega)).trans r2
  obtain ⟨ob, ooff, ocap, rfl, hol1, hol2, hob, hoc⟩ := hio.addr (by omega)
  have HIO := Lib.hid hio
  clear hb r0 r1 r2 hoc hob hio
  simp only [maxLen] at hol2
  go_wp2_with fail
  go_quiet (fail)
  go_wp2_with fail
  go_ret3
  exact ⟨_, _, rfl, IV.nil _ _ _ (Nat.zero_le _), (HIO.out.one hi).bel (Below.drewN (Below.refl _ _) _), Below.drewN HB3.out _⟩
set_option maxRecDepth 100000 in
set_option maxHeartbeats 2000000 in
theorem needs_setres (p : List Fn) (v : Value) (w : World) (hv : PV w v p) (k : Nat) (hk : k < p.length) (pc : Nat) (hpc : pc < (p[k]!).code.length) (hl0 : p.length ≤ 40) (hc0 : (p[k]!).code.length ≤ 2000) (hs0 : (p[k]!).params.length ≤ 1000 ∧ (p[k]!).results.length ≤ 1000 ∧ (p[k]!).locals.length ≤ 1000) (st : List Int) (v3 : Value) (h3v : IV w v3 st) (hst : st.length ≤ 60) (i : Nat) (hx : (p[k]!).code[pc]! = (29, (i : Int))) (hss : (slotsOf p[k]!).length ≤ 300) (hi : i < (p[k]!).outer.length) (hin : (p[k]!).inner = true) (hol : (p[k]!).outer.length ≤ 1000) :
    Calls Try.prog 83 #[v, .int .i64 k, .int .i64 pc, v3] w (NeedPost [(p[k]!).outer[i]!] [] w) := by
  have H80 : Hid (∀ W, Below w.heap.size w W → (p[k]!).inner = true → Calls Try.prog 80 #[v, .int .i64 k, .int .i64 pc] W (OutPost (p[k]!).outer W)) := fun W hb hin => outer_any p v W (hv.bel hb) k hk pc (by omega) hin
  obtain ⟨a, cap, rfl, hl, HC⟩ := hv.opened
  obtain ⟨b, off, ao, ap, ar, al1, ac, an1, an, aa, al, co, cp, cr, cl1, cc, cn1, cn, ca, cl, rfl, hA, hfp⟩ := HC.out k w hk (Below.refl _ _)
  obtain ⟨cb, coff, rfl, hcb, hcx, hcy⟩ := code_at hfp.c pc hpc
  have H84 : Hid (∀ W, Below w.heap.size w W → Calls Try.prog 84 #[.agg #[.string (p[k]!).name, .bool (p[k]!).inner, .slice ao (p[k]!).outer.length co, .slice ap (p[k]!).params.length cp, .slice ar (p[k]!).results.length cr, .slice al1 (p[k]!).locals.length cl1, .slice (some ⟨cb, coff, none⟩) (p[k]!).code.length cc, .slice an1 (p[k]!).lines.length cn1, .slice an 0 cn, .slice aa 0 ca, .slice al 0 cl]] W (RowT 59 (slotsOf p[k]!) W)) := fun W hb =>
    slots_any p[k]! _ W ⟨_, _, _, _, _, _, _, _, _, _, _, _, rfl, hfp.bel hb⟩ (by omega) (by omega) (by omega)
  have HE : Hid (∀ W, Calls Try.prog 101 #[.int .i64 29] W (EffPost (takeOf 29) (giveOf 29) W)) := fun W => eff_any 29 W (by decide) (by decide)
  have H80' : Hid (∀ W, Below w.heap.size w W → Calls Try.prog 80 #[.agg #[.slice (some ⟨b, off, none⟩) p.length cap], .int .i64 k, .int .i64 pc] W (OutPost (p[k]!).outer W)) := fun W hb => H80 W hb hin
  clear H80
  have H80 := H80'
  clear H80'
  have hdo : decide ((p[k]!).outer.length ≤ i) = false := by rw [decide_eq_false_iff_not]; omega
  have hnn : (0 : Int) ≤ (i : Int) := by omega
  have hni : (i : Int) + 1 ≤ ((p[k]!).outer.length : Int) := by omega

  rw [hx] at hcx hcy
  obtain ⟨hlt1, h0, h1, h2, h3, h4, h5, h6, h7, h8, h9, h10⟩ := hA
  clear hfp hin hx
  generalize hnc : (p[k]!).code.length = nc at *
  generalize hsl : slotsOf p[k]! = sl at *
  generalize (p[k]!).name = s, (p[k]!).outer = lo, (p[k]!).params.length = np, (p[k]!).results.length = nr, (p[k]!).locals.length = nl, (p[k]!).lines.length = nn at h0 h2 h3 h4 h5 h7 H84 H80 hi hni hdo hol ⊢ 
  generalize hinn : (p[k]!).inner = inn at h1 H84 H80
  obtain ⟨n, hn⟩ : ∃ n, n = p.length := ⟨_, rfl⟩
  rw [← hn] at hl hk hl0 H80  ⊢
  have H3V := Lib.hid h3v
  clear hn hnc hsl hinn hs0 h3v

  go_enter Try.func83, Try.ntmps83
  go_wp2_with fail
  refine (H84.out _ (by repeat (first | with_reducible exact Below.refl _ _ | with_reducible refine Below.drew ?_ | with_reducible refine Below.drewN ?_ _ | with_reducible refine Below.alloc ?_ (by simp <;> omega) _ | with_reducible refine Below.setCell ?_ (by simp <;> omega) _))).mono ?_
  rintro e w1 ⟨v84, rfl, ho84, hb⟩
  have HB1 : Hid (Below w.heap.size w w1) := Below.trans (by repeat (first | with_reducible exact Below.refl _ _ | with_reducible refine Below.drew ?_ | with_reducible refine Below.drewN ?_ _ | with_reducible refine Below.alloc ?_ (by simp <;> omega) _ | with_reducible refine Below.setCell ?_ (by simp <;> omega) _)) (hb.mono (by simp <;> omega))
  have q0 : w1.cell? ⟨w.heap.size, 0, none⟩ = some (.slice (some ⟨b, off, none⟩) n cap) := (hb.cell (p := ⟨w.heap.size, 0, none⟩) (by simp <;> omega)).trans (by go_simp)
  have q1 : w1.cell? ⟨w.heap.size + 1 + 1, 0, none⟩ = some (.int .i64 29) := (hb.cell (p := ⟨w.heap.size + 1 + 1, 0, none⟩) (by simp <;> omega)).trans (by go_simp)
  have q2 : w1.cell? ⟨w.heap.size + 1 + 1, 1, none⟩ = some (.int .i64 i) := (hb.cell (p := ⟨w.heap.size + 1 + 1, 1, none⟩) (by simp <;> omega)).trans (by go_simp)
  have hz1 : w.heap.size + 3 ≤ w1.heap.size := by have := hb.size; simp at this; omega
  have HS : Hid (IV w1 v84 sl) := iv_rowt ho84 (Below.refl _ _) (by have := ho84.1; have := hss; simp only [maxLen]; omega)
  clear hb ho84

  go_wp2_with fail
  refine (HE.out _).mono ?_
  rintro e w2 ⟨va, vb, rfl, hia, hib, hb⟩
  have HB2 : Hid (Below w.heap.size w w2) := HB1.out.trans (hb.mono (by omega))
  have HIA := Lib.hid hia
  have HIB := Lib.hid hib
  have HS2 : Hid (IV w2 v84 sl) := HS.out.bel hb
  have r0 : w2.cell? ⟨w.heap.size, 0, none⟩ = some (.slice (some ⟨b, off, none⟩) n cap) := (hb.cell (p := ⟨w.heap.size, 0, none⟩) (by simp <;> omega)).trans q0
  have r1 : w2.cell? ⟨w.heap.size + 1 + 1, 0, none⟩ = some (.int .i64 29) := (hb.cell (p := ⟨w.heap.size + 1 + 1, 0, none⟩) (by simp <;> omega)).trans q1
  have r2 : w2.cell? ⟨w.heap.size + 1 + 1, 1, none⟩ = some (.int .i64 i) := (hb.cell (p := ⟨w.heap.size + 1 + 1, 1, none⟩) (by simp <;> omega)).trans q2
  have hz2 : w.heap.size + 3 ≤ w2.heap.size := by have := hb.size; omega
  have HZ2 : Hid (w.heap.size ≤ w2.heap.size) := Lib.hid (by omega)

  clear hb hia hib q0 q1 q2 h0 h1 h2 h3 h4 h5 h6 h7 h8 h9 h10 hcx hcy
  go_wp2_with fail
  refine (H80.out w2 HB2.out).mono ?_
  rintro e w3 ⟨v80, rfl, hio, hb⟩
  have HB3 : Hid (Below w.heap.size w w3) := HB2.out.trans (hb.mono (by omega))
  have s1 : w3.cell? ⟨w.heap.size + 1 + 1, 0, none⟩ = some (.int .i64 29) := (hb.cell (p := ⟨w.heap.size + 1 + 1, 0, none⟩) (by simp <;> omega)).trans r1
  have s2 : w3.cell? ⟨w.heap.size + 1 + 1, 1, none⟩ = some (.int .i64 i) := (hb.cell (p := ⟨w.heap.size + 1 + 1, 1, none⟩) (by simp <;> omega)).trans r2
  obtain ⟨ob, ooff, ocap, rfl, hol1, hol2, hob, hoc⟩ := hio.addr (by omega)
  have HIO := Lib.hid hio
  clear hb r0 r1 r2 hoc hob hio
  simp only [maxLen] at hol2
  go_wp2_with fail
  go_ret3
  exact ⟨_, _, rfl, HIO.out.one hi, IV.nil _ _ _ (Nat.zero_le _), HB3.out⟩
end Go.Proofs.Ythaniobijkdnoaa
