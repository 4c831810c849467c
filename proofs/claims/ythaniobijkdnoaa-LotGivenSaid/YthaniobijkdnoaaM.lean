/- Instructions that may stand where they stand, in the reference, of programs without tables. Conditions: what each needs. -/
import Derived.Test.YthaniobijkdnoaaL
namespace Go.Proofs.Ythaniobijkdnoaa
open Go.RowKit

set_option maxHeartbeats 1000000 in
theorem places_no (p : List Fn) (v : Value) (w : World) (hv : PV w v p) (k : Nat) (hk : k < p.length) (pc : Nat) (hpc : pc < (p[k]!).code.length) (hl0 : p.length ≤ 40) (hc0 : (p[k]!).code.length ≤ 2000) (x y : Int) (hx : (p[k]!).code[pc]! = (x, y)) (e1 : (x == 28) = false) (e2 : (x == 29) = false) (e3 : (x == 33) = false) (e4 : (x == 34) = false) (e5 : (x == 25) = false) :
    Calls Try.prog 57 #[v, .int .i64 k, .int .i64 pc] w (AnsB (.int .i64 0) w) := by
  obtain ⟨a, cap, rfl, hl, HC⟩ := hv.opened
  obtain ⟨b, off, ao, ap, ar, al1, ac, an1, an, aa, al, co, cp, cr, cl1, cc, cn1, cn, ca, cl, rfl, hA, hfp⟩ := HC.out k w hk (Below.refl _ _)
  obtain ⟨cb, coff, rfl, hcb, hcx, hcy⟩ := code_at hfp.c pc hpc
  rw [hx] at hcx hcy
  obtain ⟨hlt1, h0, h1, h2, h3, h4, h5, h6, h7, h8, h9, h10⟩ := hA
  clear hfp HC hx hv
  generalize hnc : (p[k]!).code.length = nc at *
  generalize (p[k]!).name = s, (p[k]!).inner = inn, (p[k]!).outer.length = no, (p[k]!).params.length = np, (p[k]!).results.length = nr, (p[k]!).locals.length = nl, (p[k]!).lines.length = nn at h0 h1 h2 h3 h4 h5 h7
  obtain ⟨n, hn⟩ : ∃ n, n = p.length := ⟨_, rfl⟩
  rw [← hn] at hl hk hl0 ⊢
  clear hn hnc
  go_enter Try.func57, Try.ntmps57
  go_wp2
  go_ret
  exact ⟨rfl, by repeat (first | with_reducible exact Below.refl _ _ | with_reducible refine Below.drewN ?_ _ | with_reducible refine Below.alloc ?_ (by simp <;> omega) _ | with_reducible refine Below.setCell ?_ (by simp <;> omega) _)⟩

set_option maxHeartbeats 1000000 in
theorem places_ret (p : List Fn) (v : Value) (w : World) (hv : PV w v p) (k : Nat) (hk : k < p.length) (pc : Nat) (hpc : pc < (p[k]!).code.length) (hl0 : p.length ≤ 40) (hc0 : (p[k]!).code.length ≤ 2000) (y : Int) (hx : (p[k]!).code[pc]! = (25, y)) :
    Calls Try.prog 57 #[v, .int .i64 k, .int .i64 pc] w (AnsB (.int .i64 0) w) := by
  obtain ⟨a, cap, rfl, hl, HC⟩ := hv.opened
  obtain ⟨b, off, ao, ap, ar, al1, ac, an1, an, aa, al, co, cp, cr, cl1, cc, cn1, cn, ca, cl, rfl, hA, hfp⟩ := HC.out k w hk (Below.refl _ _)
  obtain ⟨cb, coff, rfl, hcb, hcx, hcy⟩ := code_at hfp.c pc hpc
  rw [hx] at hcx hcy
  obtain ⟨hlt1, h0, h1, h2, h3, h4, h5, h6, h7, h8, h9, h10⟩ := hA
  clear hfp HC hx hv
  generalize hnc : (p[k]!).code.length = nc at *
  generalize (p[k]!).name = s, (p[k]!).inner = inn, (p[k]!).outer.length = no, (p[k]!).params.length = np, (p[k]!).results.length = nr, (p[k]!).locals.length = nl, (p[k]!).lines.length = nn at h0 h1 h2 h3 h4 h5 h7
  obtain ⟨n, hn⟩ : ∃ n, n = p.length := ⟨_, rfl⟩
  rw [← hn] at hl hk hl0 ⊢
  clear hn hnc
  have H81 : Hid (∀ W, Calls Try.prog 81 #[.agg #[.string s, .bool inn, .slice ao no co, .slice ap np cp, .slice ar nr cr, .slice al1 nl cl1, .slice (some ⟨cb, coff, none⟩) nc cc, .slice an1 nn cn1, .slice an 0 cn, .slice aa 0 ca, .slice al 0 cl], .int .i64 pc] W (AnsB (.int .i64 0) W)) := fun W => node_any W s inn _ _ _ _ _ _ an aa al nc cc cn ca cl pc
  go_enter Try.func57, Try.ntmps57
  go_wp2_with (go_at_call 81; refine (H81.out _).mono ?_; rintro e w1 ⟨rfl, hb⟩; have HB1 := Lib.hid hb; clear hb)
  go_ret
  exact ⟨rfl, Below.trans (by repeat (first | with_reducible exact Below.refl _ _ | with_reducible refine Below.drewN ?_ _ | with_reducible refine Below.alloc ?_ (by simp <;> omega) _ | with_reducible refine Below.setCell ?_ (by simp <;> omega) _)) (HB1.out.mono (by simp <;> omega))⟩

set_option maxHeartbeats 1000000 in
theorem places_res (p : List Fn) (v : Value) (w : World) (hv : PV w v p) (k : Nat) (hk : k < p.length) (pc : Nat) (hpc : pc < (p[k]!).code.length) (hl0 : p.length ≤ 40) (hc0 : (p[k]!).code.length ≤ 2000) (x : Int) (y : Nat) (hx : (p[k]!).code[pc]! = (x, (y : Int))) (e1 : x = 28 ∨ x = 29) (hin : (p[k]!).inner = true) (hy : y < (p[k]!).outer.length) (hy2 : (p[k]!).outer.length ≤ 1000) :
    Calls Try.prog 57 #[v, .int .i64 k, .int .i64 pc] w (AnsB (.int .i64 0) w) := by
  have H80 : Hid (∀ W, Below w.heap.size w W → Calls Try.prog 80 #[v, .int .i64 k, .int .i64 pc] W fun e w' => ∃ a c, e = .returned (.tuple #[.slice a (p[k]!).outer.length c, .bool true]) ∧ Below W.heap.size W w') := fun W hb =>
    (outer_any p v W (hv.bel hb) k hk pc (by omega) hin).mono fun e w' ⟨v, he, ⟨a, c, hv, _⟩, hb⟩ => ⟨a, c, by rw [he, hv], hb⟩
  obtain ⟨a, cap, rfl, hl, HC⟩ := hv.opened
  obtain ⟨b, off, ao, ap, ar, al1, ac, an1, an, aa, al, co, cp, cr, cl1, cc, cn1, cn, ca, cl, rfl, hA, hfp⟩ := HC.out k w hk (Below.refl _ _)
  obtain ⟨cb, coff, rfl, hcb, hcx, hcy⟩ := code_at hfp.c pc hpc
  rw [hx] at hcx hcy
  obtain ⟨hlt1, h0, h1, h2, h3, h4, h5, h6, h7, h8, h9, h10⟩ := hA
  clear hfp HC hx hv
  generalize hnc : (p[k]!).code.length = nc at *
  generalize (p[k]!).name = s, (p[k]!).inner = inn, (p[k]!).outer.length = no, (p[k]!).params.length = np, (p[k]!).results.length = nr, (p[k]!).locals.length = nl, (p[k]!).lines.length = nn at h0 h1 h2 h3 h4 h5 h7 hy hy2 H80 hin
  obtain ⟨n, hn⟩ : ∃ n, n = p.length := ⟨_, rfl⟩
  rw [← hn] at hl hk hl0 H80 ⊢
  clear hn hnc
  rcases e1 with rfl | rfl
  all_goals
    go_enter Try.func57, Try.ntmps57
    go_wp2_with fail
    refine (H80.out _ (by repeat (first | with_reducible exact Below.refl _ _ | with_reducible refine Below.drewN ?_ _ | with_reducible refine Below.alloc ?_ (by simp <;> omega) _ | with_reducible refine Below.setCell ?_ (by simp <;> omega) _))).mono ?_
    rintro e w1 ⟨a3, c3, rfl, hb⟩
    have HB2 : Hid (Below w.heap.size w w1) := Below.trans (by repeat (first | with_reducible exact Below.refl _ _ | with_reducible refine Below.drewN ?_ _ | with_reducible refine Below.alloc ?_ (by simp <;> omega) _ | with_reducible refine Below.setCell ?_ (by simp <;> omega) _)) (hb.mono (by simp <;> omega))
    have q1 : w1.cell? ⟨w.heap.size + 1 + 1, 1, none⟩ = some (.int .i64 y) := (hb.cell (p := ⟨w.heap.size + 1 + 1, 1, none⟩) (by simp <;> omega)).trans (by go_simp)
    clear hb h0 h1 h2 h3 h4 h5 h6 h7 h8 h9 h10 hcx hcy
    go_wp2
    go_ret
    exact ⟨rfl, HB2.out⟩
end Go.Proofs.Ythaniobijkdnoaa
