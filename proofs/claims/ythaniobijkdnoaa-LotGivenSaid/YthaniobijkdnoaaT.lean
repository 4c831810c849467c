/- The stack behind an instruction, in the reference, of programs without tables, where the instruction may stand. Conditions: what each instruction needs. -/
import Derived.Test.YthaniobijkdnoaaS
namespace Go.Proofs.Ythaniobijkdnoaa
open Go.RowKit

/-- what an instruction takes and gives, of a stack -/
inductive Need (p : List Fn) (f : Fn) : Int × Int → List Int → List Int → List Int → Prop
  | other (x y : Int) (st : List Int) : 0 ≤ x → x < 35 → (x ≠ 2 ∧ x ≠ 3 ∧ x ≠ 4 ∧ x ≠ 5 ∧ x ≠ 23 ∧ x ≠ 24 ∧ x ≠ 25 ∧ x ≠ 28 ∧ x ≠ 29 ∧ x ≠ 33 ∧ x ≠ 34) → Need p f (x, y) st (takeOf x) (giveOf x)
  | load (i : Nat) (st : List Int) : i < (slotsOf f).length → Need p f (2, (i : Int)) st [] [(slotsOf f)[i]!]
  | store (i : Nat) (st : List Int) : i < (slotsOf f).length → Need p f (3, (i : Int)) st [(slotsOf f)[i]!] []
  | pop (y t : Int) (st : List Int) : 0 < st.length → st[st.length - 1]! = t → Need p f (4, y) st [t] []
  | dup (y t : Int) (st : List Int) : 0 < st.length → st[st.length - 1]! = t → Need p f (5, y) st [] [t]
  | call (g : Nat) (st : List Int) : g < p.length → Need p f (23, (g : Int)) st (p[g]!).params (p[g]!).results
  | defer (g : Nat) (st : List Int) : g < p.length → Need p f (24, (g : Int)) st (p[g]!).params []
  | ret (y : Int) : Need p f (25, y) [] [] []
  | getres (i : Nat) (st : List Int) : i < f.outer.length → f.inner = true → Need p f (28, (i : Int)) st [] [f.outer[i]!]
  | setres (i : Nat) (st : List Int) : i < f.outer.length → f.inner = true → Need p f (29, (i : Int)) st [f.outer[i]!] []
theorem needs_any (p : List Fn) (v : Value) (w : World) (hv : PV w v p) (k : Nat) (hk : k < p.length) (pc : Nat) (hpc : pc < (p[k]!).code.length) (hl0 : p.length ≤ 40) (hc0 : (p[k]!).code.length ≤ 2000) (hs0 : (p[k]!).params.length ≤ 1000 ∧ (p[k]!).results.length ≤ 1000 ∧ (p[k]!).locals.length ≤ 1000) (st : List Int) (v3 : Value) (h3v : IV w v3 st) (hst : st.length ≤ 60) (hss : (slotsOf p[k]!).length ≤ 300) (hol : (p[k]!).outer.length ≤ 1000)
    (a b : List Int) (hn : Need p p[k]! (p[k]!).code[pc]! st a b) : Calls Try.prog 83 #[v, .int .i64 k, .int .i64 pc, v3] w (NeedPost a b w) := by
  generalize hx : (p[k]!).code[pc]! = x at hn
  cases hn with
  | other x y st h0 h1 h => exact needs_other p v w hv k hk pc hpc hl0 hc0 hs0 st v3 h3v hst x y hx hss h0 h1 (by simpa using h.1) (by simpa using h.2.1) (by simpa using h.2.2.1) (by simpa using h.2.2.2.1) (by simpa using h.2.2.2.2.1) (by simpa using h.2.2.2.2.2.1) (by simpa using h.2.2.2.2.2.2.1) (by simpa using h.2.2.2.2.2.2.2.1) (by simpa using h.2.2.2.2.2.2.2.2.1) (by simpa using h.2.2.2.2.2.2.2.2.2.1) (by simpa using h.2.2.2.2.2.2.2.2.2.2)
  | load i st hi => exact needs_load p v w hv k hk pc hpc hl0 hc0 hs0 st v3 h3v hst i hx hss hi
  | store i st hi => exact needs_store p v w hv k hk pc hpc hl0 hc0 hs0 st v3 h3v hst i hx hss hi
  | pop y t st h0 ht => exact needs_pop p v w hv k hk pc hpc hl0 hc0 hs0 st v3 h3v hst y hx hss t h0 ht
  | dup y t st h0 ht => exact needs_dup p v w hv k hk pc hpc hl0 hc0 hs0 st v3 h3v hst y hx hss t h0 ht
  | call g st hg => exact needs_call p v w hv k hk pc hpc hl0 hc0 hs0 st v3 h3v hst g hx hss hg
  | defer g st hg => exact needs_defer p v w hv k hk pc hpc hl0 hc0 hs0 st v3 h3v hst g hx hss hg
  | ret y => exact needs_ret p v w hv k hk pc hpc hl0 hc0 hs0 [] v3 h3v hst y hx hss rfl
  | getres i st hi hin => exact needs_getres p v w hv k hk pc hpc hl0 hc0 hs0 st v3 h3v hst i hx hss hi hin hol
  | setres i st hi hin => exact needs_setres p v w hv k hk pc hpc hl0 hc0 hs0 st v3 h3v hst i hx hss hi hin hol

def StkPost (st : List Int) (w : World) (e : Ending) (w' : World) : Prop := ∃ v, e = .returned (.tuple #[v, .int .i64 0]) ∧ IV w' v st ∧ Below w.heap.size w w'
theorem IV.tail {w : World} {b off cap n : Nat} {s a : List Int} (h : IV w (.slice (some ⟨b, off, none⟩) n cap) (s ++ a)) : IV w (.slice (some ⟨b, off + s.length, none⟩) a.length (cap - s.length)) a := by
  obtain ⟨A, c, he, hl, hm, hc⟩ := h
  simp only [Value.slice.injEq] at he
  obtain ⟨rfl, rfl, rfl⟩ := he
  rw [List.length_append] at hl
  refine ⟨_, _, rfl, by omega, by omega, fun i hi => ?_⟩
  obtain ⟨b', off', he, hb, hcell⟩ := hc (s.length + i) (by rw [List.length_append]; omega)
  simp only [Option.some.injEq, Addr.mk.injEq] at he
  obtain ⟨rfl, rfl, _⟩ := he
  refine ⟨b, off + s.length, rfl, hb, ?_⟩
  rw [Nat.add_assoc, hcell, List.getElem_append_right (by omega)]
  simp
theorem IV.head {w : World} {A : Option Addr} {cap n : Nat} {s a : List Int} (h : IV w (.slice A n cap) (s ++ a)) (c : Nat) (hc : s.length ≤ c) (hm : c ≤ maxLen) : IV w (.slice A s.length c) s := by
  obtain ⟨A, c', he, hl, hm', hcell⟩ := h
  simp only [Value.slice.injEq] at he
  obtain ⟨rfl, rfl, rfl⟩ := he
  refine ⟨_, _, rfl, hc, hm, fun i hi => ?_⟩
  obtain ⟨b', off', rfl, hb, hcell⟩ := hcell i (by rw [List.length_append]; omega)
  exact ⟨b', off', rfl, hb, by rw [hcell, List.getElem_append_left hi]⟩
theorem reads_slice {w : World} {A : Option Addr} {n c : Nat} {xs : List Int} (h : IV w (.slice A n c) xs) : n = xs.length ∧ Reads w w.heap.size 1 A xs.length (xs.map (Value.int .i64)) := by
  obtain ⟨A', c', he, hr⟩ := reads_of_iv h
  simp only [Value.slice.injEq] at he
  obtain ⟨rfl, rfl, _⟩ := he
  exact ⟨rfl, hr⟩
set_option maxRecDepth 100000 in
set_option maxHeartbeats 2000000 in
theorem eff_walk_in (w : World) (a0 : Option Addr) (n cap k pc : Nat) (s a b : List Int) (tb to c3 : Nat) (hcap : cap ≤ 9223372036854775807) (hsl : s.length + a.length ≤ 60) (hbl : s.length + b.length ≤ 60) (hc3 : s.length + a.length ≤ c3) (hc4 : c3 ≤ 9223372036854775807) (hne : c3 ≠ s.length)
    (H83 : Hid (∀ W, Below w.heap.size w W → Calls Try.prog 83 #[.agg #[.slice a0 n cap], .int .i64 k, .int .i64 pc, .slice (some ⟨tb, to, none⟩) (s.length + a.length) c3] W (NeedPost a b W)))
    (HS : Hid (∀ W, Below w.heap.size w W → IV W (.slice (some ⟨tb, to + s.length, none⟩) a.length (c3 - s.length)) a)) (HH : Hid (∀ W, Below w.heap.size w W → Reads W W.heap.size 1 (some ⟨tb, to, none⟩) s.length (s.map (Value.int .i64)))) :
    Calls Try.prog 59 #[.agg #[.slice a0 n cap], .int .i64 k, .int .i64 pc, .slice (some ⟨tb, to, none⟩) (s.length + a.length) c3] w (StkPost (s ++ b) w) := by
  obtain ⟨i0, hi, hz0, hz1, hz2⟩ := info_parts inf59
  go_enter Try.func59, Try.ntmps59
  go_wp2_with fail
  refine (H83.out _ (by repeat (first | with_reducible exact Below.refl _ _ | with_reducible refine Below.drew ?_ | with_reducible refine Below.drewN ?_ _ | with_reducible refine Below.alloc ?_ (by simp <;> omega) _ | with_reducible refine Below.setCell ?_ (by simp <;> omega) _))).mono ?_
  rintro e w1 ⟨va, vb, rfl, hia, hib, hb⟩
  have HB1 : Hid (Below w.heap.size w w1) := Below.trans (by repeat (first | with_reducible exact Below.refl _ _ | with_reducible refine Below.drew ?_ | with_reducible refine Below.drewN ?_ _ | with_reducible refine Below.alloc ?_ (by simp <;> omega) _ | with_reducible refine Below.setCell ?_ (by simp <;> omega) _)) (hb.mono (by simp <;> omega))
  obtain ⟨Aa, ca, rfl, ha1, ha2, -⟩ := id hia
  obtain ⟨Ab, cb, rfl, hb1, hb2, -⟩ := id hib
  have HIA := Lib.hid hia
  have HIB := Lib.hid hib
  have H26 : Hid (∀ W, Below w1.heap.size w1 W → Calls Try.prog 26 #[.slice (some ⟨tb, to + s.length, none⟩) a.length (c3 - s.length), .slice Aa a.length ca] W (Ans (.bool true) W)) := fun W hb' => types_any a _ _ W (HS.out W (HB1.out.trans (hb'.mono HB1.out.size))) (HIA.out.bel hb') (by omega)
  have hz : w.heap.size ≤ w1.heap.size := HB1.out.size
  simp only [maxLen] at ha2 hb2
  clear hia hib hb

  go_wp2_with fail
  refine (H26.out _ (by repeat (first | with_reducible exact Below.refl _ _ | with_reducible refine Below.drew ?_ | with_reducible refine Below.drewN ?_ _ | with_reducible refine Below.alloc ?_ (by simp <;> omega) _ | with_reducible refine Below.setCell ?_ (by simp <;> omega) _))).mono ?_
  rintro e w2 ⟨rfl, m2, rfl⟩
  have HB2 : Hid (Below w.heap.size w (w1.drewN m2)) := Below.drewN HB1.out _
  clear H26
  go_wp2_with (first | (at_builtin; refine wpList_append_any _ rfl _ _ 29 rfl w.heap.size 59 i0 (.int .i64 0) 1 8 Try.underlying29 hi hz0 hz1 hz2 rfl (by decide) _ 0 [] rfl (World.ownsRow_nil _ _ _ _) _ (some ⟨tb, to, none⟩) s.length _ _ rfl (HH.out _ HB2.out) (ints_one _) (by unfold maxLen; omega) (by omega) hz ?_; intro v1 w3 hown1 hg1 _; have HO1 := Lib.hid hown1; have HB3 : Hid (Below w.heap.size w w3) := HB2.out.grown hg1 hz (fun k hk => by cases hk); have hz3 : w.heap.size ≤ w3.heap.size := HB3.out.size; have HRB := Lib.hid (reads_slice (HIB.out.bel (Below.trans (Below.drewN (Below.refl _ _) m2) (Below.grown (Below.refl _ _) hg1 (Nat.le_refl _) (fun k hk => by cases hk))))).2; clear hown1 hg1) | (at_builtin; refine wpList_append_any _ rfl _ _ 29 rfl w.heap.size 59 i0 (.int .i64 0) 1 8 Try.underlying29 hi hz0 hz1 hz2 rfl (by decide) _ _ _ rfl HO1.out _ Ab b.length cb _ rfl HRB.out (ints_one _) (by unfold maxLen; omega) (by omega) hz3 ?_; intro v4 w4 hown4 hg4 _; have HO4 := Lib.hid hown4; have HB4 : Hid (Below w.heap.size w w4) := HB3.out.grown hg4 hz3 (fun k hk => (HO1.out.lt k hk).1); clear hown4 hg4))
  go_ret2
  have hfin := iv_of_owned (xs := s ++ b) (w := w4) (base := w.heap.size) (e := 59) (v := v4) (by simpa using HO4.out) (by simp only [List.length_append, maxLen]; omega)
  exact ⟨_, rfl, hfin, HB4.out⟩
set_option maxRecDepth 100000 in
set_option maxHeartbeats 2000000 in
theorem eff_walk_all (w : World) (a0 : Option Addr) (n cap k pc : Nat) (s b : List Int) (tb to : Nat) (hcap : cap ≤ 9223372036854775807) (hsl : s.length ≤ 60) (hbl : s.length + b.length ≤ 60) (hc4 : s.length ≤ 9223372036854775807)
    (H83 : Hid (∀ W, Below w.heap.size w W → Calls Try.prog 83 #[.agg #[.slice a0 n cap], .int .i64 k, .int .i64 pc, .slice (some ⟨tb, to, none⟩) s.length s.length] W (NeedPost [] b W)))
    (HS : Hid (∀ W, Below w.heap.size w W → IV W (.slice (some ⟨tb, to, none⟩) 0 0) []))  (HH : Hid (∀ W, Below w.heap.size w W → Reads W W.heap.size 1 (some ⟨tb, to, none⟩) s.length (s.map (Value.int .i64)))) :
    Calls Try.prog 59 #[.agg #[.slice a0 n cap], .int .i64 k, .int .i64 pc, .slice (some ⟨tb, to, none⟩) s.length s.length] w (StkPost (s ++ b) w) := by
  obtain ⟨i0, hi, hz0, hz1, hz2⟩ := info_parts inf59
  go_enter Try.func59, Try.ntmps59
  go_wp2_with fail
  refine (H83.out _ (by repeat (first | with_reducible exact Below.refl _ _ | with_reducible refine Below.drew ?_ | with_reducible refine Below.drewN ?_ _ | with_reducible refine Below.alloc ?_ (by simp <;> omega) _ | with_reducible refine Below.setCell ?_ (by simp <;> omega) _))).mono ?_
  rintro e w1 ⟨va, vb, rfl, hia, hib, hb⟩
  have HB1 : Hid (Below w.heap.size w w1) := Below.trans (by repeat (first | with_reducible exact Below.refl _ _ | with_reducible refine Below.drew ?_ | with_reducible refine Below.drewN ?_ _ | with_reducible refine Below.alloc ?_ (by simp <;> omega) _ | with_reducible refine Below.setCell ?_ (by simp <;> omega) _)) (hb.mono (by simp <;> omega))
  obtain ⟨Aa, ca, rfl, ha1, ha2, -⟩ := id hia
  obtain ⟨Ab, cb, rfl, hb1, hb2, -⟩ := id hib
  have HIA := Lib.hid hia
  have HIB := Lib.hid hib
  have H26 : Hid (∀ W, Below w1.heap.size w1 W → Calls Try.prog 26 #[.slice (some ⟨tb, to, none⟩) 0 0, .slice Aa 0 ca] W (Ans (.bool true) W)) := fun W hb' => types_any [] _ _ W (HS.out W (HB1.out.trans (hb'.mono HB1.out.size))) (HIA.out.bel hb') (by simp)
  have hz : w.heap.size ≤ w1.heap.size := HB1.out.size
  simp only [maxLen] at ha2 hb2
  clear hia hib hb

  go_wp2_with fail
  refine (H26.out _ (by repeat (first | with_reducible exact Below.refl _ _ | with_reducible refine Below.drew ?_ | with_reducible refine Below.drewN ?_ _ | with_reducible refine Below.alloc ?_ (by simp <;> omega) _ | with_reducible refine Below.setCell ?_ (by simp <;> omega) _))).mono ?_
  rintro e w2 ⟨rfl, m2, rfl⟩
  have HB2 : Hid (Below w.heap.size w (w1.drewN m2)) := Below.drewN HB1.out _
  clear H26
  go_wp2_with (first | (at_builtin; refine wpList_append_any _ rfl _ _ 29 rfl w.heap.size 59 i0 (.int .i64 0) 1 8 Try.underlying29 hi hz0 hz1 hz2 rfl (by decide) _ 0 [] rfl (World.ownsRow_nil _ _ _ _) _ (some ⟨tb, to, none⟩) s.length _ _ rfl (HH.out _ HB2.out) (ints_one _) (by unfold maxLen; omega) (by omega) hz ?_; intro v1 w3 hown1 hg1 _; have HO1 := Lib.hid hown1; have HB3 : Hid (Below w.heap.size w w3) := HB2.out.grown hg1 hz (fun k hk => by cases hk); have hz3 : w.heap.size ≤ w3.heap.size := HB3.out.size; have HRB := Lib.hid (reads_slice (HIB.out.bel (Below.trans (Below.drewN (Below.refl _ _) m2) (Below.grown (Below.refl _ _) hg1 (Nat.le_refl _) (fun k hk => by cases hk))))).2; clear hown1 hg1) | (at_builtin; refine wpList_append_any _ rfl _ _ 29 rfl w.heap.size 59 i0 (.int .i64 0) 1 8 Try.underlying29 hi hz0 hz1 hz2 rfl (by decide) _ _ _ rfl HO1.out _ Ab b.length cb _ rfl HRB.out (ints_one _) (by unfold maxLen; omega) (by omega) hz3 ?_; intro v4 w4 hown4 hg4 _; have HO4 := Lib.hid hown4; have HB4 : Hid (Below w.heap.size w w4) := HB3.out.grown hg4 hz3 (fun k hk => (HO1.out.lt k hk).1); clear hown4 hg4))
  go_ret2
  have hfin := iv_of_owned (xs := s ++ b) (w := w4) (base := w.heap.size) (e := 59) (v := v4) (by simpa using HO4.out) (by simp only [List.length_append, maxLen]; omega)
  exact ⟨_, rfl, hfin, HB4.out⟩
set_option maxRecDepth 100000 in
set_option maxHeartbeats 2000000 in
theorem eff_walk_none (w : World) (a0 : Option Addr) (n cap k pc : Nat) (b : List Int) (c3 : Nat) (hcap : cap ≤ 9223372036854775807) (hbl : b.length ≤ 60) (hc4 : c3 ≤ 9223372036854775807)
    (H83 : Hid (∀ W, Below w.heap.size w W → Calls Try.prog 83 #[.agg #[.slice a0 n cap], .int .i64 k, .int .i64 pc, .slice none 0 c3] W (NeedPost [] b W)))
    (HS : Hid (∀ W, Below w.heap.size w W → IV W (.slice none 0 c3) []))  (HH : Hid (∀ W, Below w.heap.size w W → Reads W W.heap.size 1 none 0 [])) :
    Calls Try.prog 59 #[.agg #[.slice a0 n cap], .int .i64 k, .int .i64 pc, .slice none 0 c3] w (StkPost b w) := by
  obtain ⟨i0, hi, hz0, hz1, hz2⟩ := info_parts inf59
  go_enter Try.func59, Try.ntmps59
  go_wp2_with fail
  refine (H83.out _ (by repeat (first | with_reducible exact Below.refl _ _ | with_reducible refine Below.drew ?_ | with_reducible refine Below.drewN ?_ _ | with_reducible refine Below.alloc ?_ (by simp <;> omega) _ | with_reducible refine Below.setCell ?_ (by simp <;> omega) _))).mono ?_
  rintro e w1 ⟨va, vb, rfl, hia, hib, hb⟩
  have HB1 : Hid (Below w.heap.size w w1) := Below.trans (by repeat (first | with_reducible exact Below.refl _ _ | with_reducible refine Below.drew ?_ | with_reducible refine Below.drewN ?_ _ | with_reducible refine Below.alloc ?_ (by simp <;> omega) _ | with_reducible refine Below.setCell ?_ (by simp <;> omega) _)) (hb.mono (by simp <;> omega))
  obtain ⟨Aa, ca, rfl, ha1, ha2, -⟩ := id hia
  obtain ⟨Ab, cb, rfl, hb1, hb2, -⟩ := id hib
  have HIA := Lib.hid hia
  have HIB := Lib.hid hib
  have H26 : Hid (∀ W, Below w1.heap.size w1 W → Calls Try.prog 26 #[.slice none 0 c3, .slice Aa 0 ca] W (Ans (.bool true) W)) := fun W hb' => types_any [] _ _ W (HS.out W (HB1.out.trans (hb'.mono HB1.out.size))) (HIA.out.bel hb') (by simp)
  have hz : w.heap.size ≤ w1.heap.size := HB1.out.size
  simp only [maxLen] at ha2 hb2
  clear hia hib hb

  go_wp2_with fail
  refine (H26.out _ (by repeat (first | with_reducible exact Below.refl _ _ | with_reducible refine Below.drew ?_ | with_reducible refine Below.drewN ?_ _ | with_reducible refine Below.alloc ?_ (by simp <;> omega) _ | with_reducible refine Below.setCell ?_ (by simp <;> omega) _))).mono ?_
  rintro e w2 ⟨rfl, m2, rfl⟩
  have HB2 : Hid (Below w.heap.size w (w1.drewN m2)) := Below.drewN HB1.out _
  clear H26
  go_wp2_with (first | (at_builtin; refine wpList_append_any _ rfl _ _ 29 rfl w.heap.size 59 i0 (.int .i64 0) 1 8 Try.underlying29 hi hz0 hz1 hz2 rfl (by decide) _ 0 [] rfl (World.ownsRow_nil _ _ _ _) _ none 0 c3 [] rfl (HH.out _ HB2.out) (by simp) (by unfold maxLen; omega) (by omega) hz ?_; intro v1 w3 hown1 hg1 _; have HO1 := Lib.hid hown1; have HB3 : Hid (Below w.heap.size w w3) := HB2.out.grown hg1 hz (fun k hk => by cases hk); have hz3 : w.heap.size ≤ w3.heap.size := HB3.out.size; have HRB := Lib.hid (reads_slice (HIB.out.bel (Below.trans (Below.drewN (Below.refl _ _) m2) (Below.grown (Below.refl _ _) hg1 (Nat.le_refl _) (fun k hk => by cases hk))))).2; clear hown1 hg1) | (at_builtin; refine wpList_append_any _ rfl _ _ 29 rfl w.heap.size 59 i0 (.int .i64 0) 1 8 Try.underlying29 hi hz0 hz1 hz2 rfl (by decide) _ _ _ rfl HO1.out _ Ab b.length cb _ rfl HRB.out (ints_one _) (by unfold maxLen; omega) (by omega) hz3 ?_; intro v4 w4 hown4 hg4 _; have HO4 := Lib.hid hown4; have HB4 : Hid (Below w.heap.size w w4) := HB3.out.grown hg4 hz3 (fun k hk => (HO1.out.lt k hk).1); clear hown4 hg4))
  go_ret2
  have hfin := iv_of_owned (xs := b) (w := w4) (base := w.heap.size) (e := 59) (v := v4) (by simpa using HO4.out) (by simp only [maxLen]; omega)
  exact ⟨_, rfl, hfin, HB4.out⟩
set_option maxRecDepth 100000 in
set_option maxHeartbeats 2000000 in
theorem eff_walk_emp (w : World) (a0 : Option Addr) (n cap k pc : Nat) (b : List Int) (ad : Addr) (c3 : Nat) (hcap : cap ≤ 9223372036854775807) (hbl : b.length ≤ 60) (hc4 : c3 ≤ 9223372036854775807)
    (H83 : Hid (∀ W, Below w.heap.size w W → Calls Try.prog 83 #[.agg #[.slice a0 n cap], .int .i64 k, .int .i64 pc, .slice (some ad) 0 c3] W (NeedPost [] b W)))
    (HS : Hid (∀ W, Below w.heap.size w W → IV W (.slice (some ad) 0 c3) []))  (HH : Hid (∀ W, Below w.heap.size w W → Reads W W.heap.size 1 (some ad) 0 [])) :
    Calls Try.prog 59 #[.agg #[.slice a0 n cap], .int .i64 k, .int .i64 pc, .slice (some ad) 0 c3] w (StkPost b w) := by
  obtain ⟨i0, hi, hz0, hz1, hz2⟩ := info_parts inf59
  go_enter Try.func59, Try.ntmps59
  go_wp2_with fail
  refine (H83.out _ (by repeat (first | with_reducible exact Below.refl _ _ | with_reducible refine Below.drew ?_ | with_reducible refine Below.drewN ?_ _ | with_reducible refine Below.alloc ?_ (by simp <;> omega) _ | with_reducible refine Below.setCell ?_ (by simp <;> omega) _))).mono ?_
  rintro e w1 ⟨va, vb, rfl, hia, hib, hb⟩
  have HB1 : Hid (Below w.heap.size w w1) := Below.trans (by repeat (first | with_reducible exact Below.refl _ _ | with_reducible refine Below.drew ?_ | with_reducible refine Below.drewN ?_ _ | with_reducible refine Below.alloc ?_ (by simp <;> omega) _ | with_reducible refine Below.setCell ?_ (by simp <;> omega) _)) (hb.mono (by simp <;> omega))
  obtain ⟨Aa, ca, rfl, ha1, ha2, -⟩ := id hia
  obtain ⟨Ab, cb, rfl, hb1, hb2, -⟩ := id hib
  have HIA := Lib.hid hia
  have HIB := Lib.hid hib
  have H26 : Hid (∀ W, Below w1.heap.size w1 W → Calls Try.prog 26 #[.slice (some ad) 0 c3, .slice Aa 0 ca] W (Ans (.bool true) W)) := fun W hb' => types_any [] _ _ W (HS.out W (HB1.out.trans (hb'.mono HB1.out.size))) (HIA.out.bel hb') (by simp)
  have hz : w.heap.size ≤ w1.heap.size := HB1.out.size
  simp only [maxLen] at ha2 hb2
  clear hia hib hb

  go_wp2_with fail
  refine (H26.out _ (by repeat (first | with_reducible exact Below.refl _ _ | with_reducible refine Below.drew ?_ | with_reducible refine Below.drewN ?_ _ | with_reducible refine Below.alloc ?_ (by simp <;> omega) _ | with_reducible refine Below.setCell ?_ (by simp <;> omega) _))).mono ?_
  rintro e w2 ⟨rfl, m2, rfl⟩
  have HB2 : Hid (Below w.heap.size w (w1.drewN m2)) := Below.drewN HB1.out _
  clear H26
  go_wp2_with (first | (at_builtin; refine wpList_append_any _ rfl _ _ 29 rfl w.heap.size 59 i0 (.int .i64 0) 1 8 Try.underlying29 hi hz0 hz1 hz2 rfl (by decide) _ 0 [] rfl (World.ownsRow_nil _ _ _ _) _ (some ad) 0 c3 [] rfl (HH.out _ HB2.out) (by simp) (by unfold maxLen; omega) (by omega) hz ?_; intro v1 w3 hown1 hg1 _; have HO1 := Lib.hid hown1; have HB3 : Hid (Below w.heap.size w w3) := HB2.out.grown hg1 hz (fun k hk => by cases hk); have hz3 : w.heap.size ≤ w3.heap.size := HB3.out.size; have HRB := Lib.hid (reads_slice (HIB.out.bel (Below.trans (Below.drewN (Below.refl _ _) m2) (Below.grown (Below.refl _ _) hg1 (Nat.le_refl _) (fun k hk => by cases hk))))).2; clear hown1 hg1) | (at_builtin; refine wpList_append_any _ rfl _ _ 29 rfl w.heap.size 59 i0 (.int .i64 0) 1 8 Try.underlying29 hi hz0 hz1 hz2 rfl (by decide) _ _ _ rfl HO1.out _ Ab b.length cb _ rfl HRB.out (ints_one _) (by unfold maxLen; omega) (by omega) hz3 ?_; intro v4 w4 hown4 hg4 _; have HO4 := Lib.hid hown4; have HB4 : Hid (Below w.heap.size w w4) := HB3.out.grown hg4 hz3 (fun k hk => (HO1.out.lt k hk).1); clear hown4 hg4))
  go_ret2
  have hfin := iv_of_owned (xs := b) (w := w4) (base := w.heap.size) (e := 59) (v := v4) (by simpa using HO4.out) (by simp only [maxLen]; omega)
  exact ⟨_, rfl, hfin, HB4.out⟩

theorem effect_any (p : List Fn) (v : Value) (w : World) (hv : PV w v p) (k : Nat) (hk : k < p.length) (pc : Nat) (hpc : pc < (p[k]!).code.length) (hl0 : p.length ≤ 40) (hc0 : (p[k]!).code.length ≤ 2000) (hs0 : (p[k]!).params.length ≤ 1000 ∧ (p[k]!).results.length ≤ 1000 ∧ (p[k]!).locals.length ≤ 1000) (s a b : List Int) (v3 : Value) (h3v : IV w v3 (s ++ a)) (hst : (s ++ a).length ≤ 60) (hst2 : (s ++ b).length ≤ 60) (hss : (slotsOf p[k]!).length ≤ 300) (hol : (p[k]!).outer.length ≤ 1000)
    (hn : Need p p[k]! (p[k]!).code[pc]! (s ++ a) a b) : Calls Try.prog 59 #[v, .int .i64 k, .int .i64 pc, v3] w (StkPost (s ++ b) w) := by
  have H83 : ∀ W, Below w.heap.size w W → Calls Try.prog 83 #[v, .int .i64 k, .int .i64 pc, v3] W (NeedPost a b W) := fun W hb => needs_any p v W (hv.bel hb) k hk pc hpc hl0 hc0 hs0 (s ++ a) v3 (h3v.bel hb) hst hss hol a b hn
  obtain ⟨a0, cap, rfl, h1, h2, -⟩ := id hv
  obtain ⟨A, c3, rfl, h3, h4, -⟩ := id h3v
  rw [List.length_append] at hst hst2
  simp only [maxLen] at h2 h4
  have HH : ∀ W, Below w.heap.size w W → Reads W W.heap.size 1 A s.length (s.map (Value.int .i64)) := fun W hb => (reads_slice ((h3v.bel hb).head s.length (Nat.le_refl _) (by simp only [maxLen]; omega))).2
  rcases A with _ | ⟨tb, to, q⟩
  · rcases Nat.eq_zero_or_pos (s ++ a).length with h0 | h0
    · have hs : s = [] := List.eq_nil_of_length_eq_zero (by rw [List.length_append] at h0; omega)
      have ha : a = [] := List.eq_nil_of_length_eq_zero (by rw [List.length_append] at h0; omega)
      subst hs ha
      exact eff_walk_none w a0 p.length cap k pc b c3 (by omega) (by simpa using hst2) (by omega) H83 (fun W hb => h3v.bel hb) HH
    · obtain ⟨b', off', cap', he, _⟩ := h3v.addr h0
      simp at he
  · rcases Nat.eq_zero_or_pos (s ++ a).length with h0 | h0
    · have hs : s = [] := List.eq_nil_of_length_eq_zero (by rw [List.length_append] at h0; omega)
      have ha : a = [] := List.eq_nil_of_length_eq_zero (by rw [List.length_append] at h0; omega)
      subst hs ha
      exact eff_walk_emp w a0 p.length cap k pc b ⟨tb, to, q⟩ c3 (by omega) (by simpa using hst2) (by omega) H83 (fun W hb => h3v.bel hb) HH
    obtain ⟨b', off', cap', he, _⟩ := h3v.addr h0
    simp only [Value.slice.injEq, Option.some.injEq, Addr.mk.injEq] at he
    obtain ⟨⟨_, _, hq⟩, _⟩ := he
    subst hq
    by_cases hc : c3 = s.length
    · have ha : a = [] := List.eq_nil_of_length_eq_zero (by rw [List.length_append] at h3; omega)
      subst ha
      rw [List.append_nil] at *
      rw [hc] at *
      exact eff_walk_all w a0 p.length cap k pc s b tb to (by omega) (by omega) (by omega) (by omega) H83 (fun W hb => IV.nil _ _ _ (Nat.zero_le _)) HH
    · rw [List.length_append] at h3 H83 ⊢
      exact eff_walk_in w a0 p.length cap k pc s a b tb to c3 (by omega) (by omega) (by omega) (by omega) (by omega) hc H83 (fun W hb => by have := (h3v.bel hb); exact this.tail) HH
end Go.Proofs.Ythaniobijkdnoaa
