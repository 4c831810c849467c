/- The reference can lay a right function without tables, and a right program. Conditions: what right is (FnR, PR). -/
import Derived.Test.YthaniobijkdnoaaD
namespace Go.Proofs.Ythaniobijkdnoaa
open Go.RowKit

/-- a right function without tables -/
structure FnR (f : Fn) : Prop where
  may : mayB f.name = true
  nsz : f.name.size ≤ 1000000
  o : TyR f.outer 4
  p : TyR f.params 8
  r : TyR f.results 4
  l : TyR f.locals 256
  oi : f.outer.length = 0 ∨ f.inner = true
  slots : f.params.length + f.results.length + f.locals.length ≤ 256
  c1 : 1 ≤ f.code.length
  c2 : f.code.length ≤ 2000
  c : ∀ x ∈ f.code, InR x
  n : f.lines.length = f.code.length
  ln : LnR f.lines

/-- a block's first eleven cells -/
structure Box11 (w : World) (b : Nat) (c0 c1 c2 c3 c4 c5 c6 c7 c8 c9 c10 : Value) : Prop where
  lt : b < w.heap.size
  h0 : w.cell? ⟨b, 0, none⟩ = some c0
  h1 : w.cell? ⟨b, 1, none⟩ = some c1
  h2 : w.cell? ⟨b, 2, none⟩ = some c2
  h3 : w.cell? ⟨b, 3, none⟩ = some c3
  h4 : w.cell? ⟨b, 4, none⟩ = some c4
  h5 : w.cell? ⟨b, 5, none⟩ = some c5
  h6 : w.cell? ⟨b, 6, none⟩ = some c6
  h7 : w.cell? ⟨b, 7, none⟩ = some c7
  h8 : w.cell? ⟨b, 8, none⟩ = some c8
  h9 : w.cell? ⟨b, 9, none⟩ = some c9
  h10 : w.cell? ⟨b, 10, none⟩ = some c10
theorem Box11.bel {w w' : World} {b : Nat} {c0 c1 c2 c3 c4 c5 c6 c7 c8 c9 c10 : Value} (h : Box11 w b c0 c1 c2 c3 c4 c5 c6 c7 c8 c9 c10) (hb : Below w.heap.size w w') : Box11 w' b c0 c1 c2 c3 c4 c5 c6 c7 c8 c9 c10 := by
  have hh : ∀ o, w'.cell? ⟨b, o, none⟩ = w.cell? ⟨b, o, none⟩ := fun o => hb.cell (p := ⟨b, o, none⟩) h.lt
  exact ⟨Nat.lt_of_lt_of_le h.lt hb.size, (hh _).trans h.h0, (hh _).trans h.h1, (hh _).trans h.h2, (hh _).trans h.h3, (hh _).trans h.h4, (hh _).trans h.h5, (hh _).trans h.h6, (hh _).trans h.h7, (hh _).trans h.h8, (hh _).trans h.h9, (hh _).trans h.h10⟩
theorem Box11.new (w : World) (t : TypeId) (c0 c1 c2 c3 c4 c5 c6 c7 c8 c9 c10 : Value) : Box11 (w.alloc (.cells #[c0, c1, c2, c3, c4, c5, c6, c7, c8, c9, c10] t)) w.heap.size c0 c1 c2 c3 c4 c5 c6 c7 c8 c9 c10 := by
  have h := heap_new w (.cells #[c0, c1, c2, c3, c4, c5, c6, c7, c8, c9, c10] t)
  exact ⟨by simp, cell_of h 0, cell_of h 1, cell_of h 2, cell_of h 3, cell_of h 4, cell_of h 5, cell_of h 6, cell_of h 7, cell_of h 8, cell_of h 9, cell_of h 10⟩
theorem Box11.drewN {w : World} {b : Nat} {c0 c1 c2 c3 c4 c5 c6 c7 c8 c9 c10 : Value} (h : Box11 w b c0 c1 c2 c3 c4 c5 c6 c7 c8 c9 c10) (n : Nat) : Box11 (w.drewN n) b c0 c1 c2 c3 c4 c5 c6 c7 c8 c9 c10 := ⟨h.lt, h.h0, h.h1, h.h2, h.h3, h.h4, h.h5, h.h6, h.h7, h.h8, h.h9, h.h10⟩

set_option maxHeartbeats 1000000 in
theorem tables_any (f : Fn) (vo vp vr vl vc vn : Value) (an aa al : Option Addr) (cn ca cl : Nat) (n : Int) (w : World) :
    Calls Try.prog 53 #[fnAgg f vo vp vr vl vc vn an aa al cn ca cl, .int .i64 n] w (AnsB (.bool true) w) := by
  obtain ⟨s, hs⟩ : ∃ s, s = f.name := ⟨_, rfl⟩
  obtain ⟨i, hi⟩ : ∃ i, i = f.inner := ⟨_, rfl⟩
  have H9 : Hid (∀ W, Calls Try.prog 9 #[.agg #[.string s, .bool i, vo, vp, vr, vl, vc, vn, .slice an 0 cn, .slice aa 0 ca, .slice al 0 cl]] W (AnsB (.bool true) W)) := fun W => by
    rw [hs, hi]; exact bare1_any f vo vp vr vl vc vn an aa al cn ca cl W
  rw [fnAgg, ← hs, ← hi]
  clear hs hi
  go_enter Try.func53, Try.ntmps53
  go_wp2_with (go_at_call 9; refine (H9.out _).mono ?_; rintro e w1 ⟨rfl, hb⟩; have HB1 := Lib.hid hb; clear hb)
  go_ret
  exact ⟨rfl, ((Below.refl _ _).alloc (Nat.le_refl _) _).trans (HB1.out.mono (by simp))⟩

set_option maxRecDepth 100000 in
set_option maxHeartbeats 4000000 in
theorem can1_walk0 (w : World) (s : ByteArray) (inn : Bool) (ao ap ar al1 ac an1 an aa al : Option Addr) (np nr nl nc co cp cr cl1 cc cn1 cn ca cl : Nat)
    (H49 : Hid (∀ W, Calls Try.prog 49 #[.string s] W fun e w' => e = .returned (.bool true) ∧ W = w'))
    (H50o : Hid (∀ W, Below w.heap.size w W → Calls Try.prog 50 #[.slice ao 0 co, .int .i64 4] W (Ans (.bool true) W)))
    (H50p : Hid (∀ W, Below w.heap.size w W → Calls Try.prog 50 #[.slice ap np cp, .int .i64 8] W (Ans (.bool true) W)))
    (H50r : Hid (∀ W, Below w.heap.size w W → Calls Try.prog 50 #[.slice ar nr cr, .int .i64 4] W (Ans (.bool true) W)))
    (H50l : Hid (∀ W, Below w.heap.size w W → Calls Try.prog 50 #[.slice al1 nl cl1, .int .i64 256] W (Ans (.bool true) W)))
    (H52 : Hid (∀ W, Below w.heap.size w W → Calls Try.prog 52 #[.slice an1 nc cn1] W (Ans (.bool true) W)))
    (H53 : Hid (∀ n W, Calls Try.prog 53 #[.agg #[.string s, .bool inn, .slice ao 0 co, .slice ap np cp, .slice ar nr cr, .slice al1 nl cl1, .slice ac nc cc, .slice an1 nc cn1, .slice an 0 cn, .slice aa 0 ca, .slice al 0 cl], .int .i64 n] W (AnsB (.bool true) W)))
    (HC : Hid (∀ k, k < nc → ∃ b off x y, ac = some ⟨b, off, none⟩ ∧ b < w.heap.size ∧ w.cell? ⟨b, off + k * 2, none⟩ = some (.int .i64 x) ∧ w.cell? ⟨b, off + k * 2 + 1, none⟩ = some (.int .i64 y) ∧ ∀ W, Calls Try.prog 51 #[.agg #[.int .i64 x, .int .i64 y]] W (AnsB (.bool true) W)))
    (hs256 : np + nr + nl ≤ 256) (hc1 : 1 ≤ nc) (hc2 : nc ≤ 2000) :
    Calls Try.prog 36 #[.agg #[.string s, .bool inn, .slice ao 0 co, .slice ap np cp, .slice ar nr cr, .slice al1 nl cl1, .slice ac nc cc, .slice an1 nc cn1, .slice an 0 cn, .slice aa 0 ca, .slice al 0 cl]] w (AnsB (.int .i64 0) w) := by
  go_enter Try.func36, Try.ntmps36
  go_wp2_with (go_at_call 49; refine (H49.out _).mono ?_; rintro e w1 ⟨rfl, rfl⟩)
  refine (H50o.out _ (by repeat (first | with_reducible exact (Below.refl _ _).alloc (Nat.le_refl _) _ | with_reducible exact Below.refl _ _ | with_reducible refine Below.drewN ?_ _))).mono ?_
  rintro e w1 ⟨rfl, m1, rfl⟩
  go_wp2_with fail
  refine (H50p.out _ (by repeat (first | with_reducible exact (Below.refl _ _).alloc (Nat.le_refl _) _ | with_reducible exact Below.refl _ _ | with_reducible refine Below.drewN ?_ _))).mono ?_
  rintro e w1 ⟨rfl, m2, rfl⟩
  go_wp2_with fail
  refine (H50r.out _ (by repeat (first | with_reducible exact (Below.refl _ _).alloc (Nat.le_refl _) _ | with_reducible exact Below.refl _ _ | with_reducible refine Below.drewN ?_ _))).mono ?_
  rintro e w1 ⟨rfl, m3, rfl⟩
  go_wp2_with fail
  refine (H50l.out _ (by repeat (first | with_reducible exact (Below.refl _ _).alloc (Nat.le_refl _) _ | with_reducible exact Below.refl _ _ | with_reducible refine Below.drewN ?_ _))).mono ?_
  rintro e w1 ⟨rfl, m4, rfl⟩
  go_wp2_with fail
  go_loopw [4] (fun i wr => ∃ k : Nat, k ≤ nc ∧ i = .int .i64 k ∧ Hid (Box11 wr w.heap.size (.string s) (.bool inn) (.slice ao 0 co) (.slice ap np cp) (.slice ar nr cr) (.slice al1 nl cl1) (.slice ac nc cc) (.slice an1 nc cn1) (.slice an 0 cn) (.slice aa 0 ca) (.slice al 0 cl)) ∧ Hid (Below w.heap.size w wr)) (fun i _ => nc - (intOf i).toNat)
  case atStart => exact ⟨0, Nat.zero_le _, rfl, (Box11.new w _ _ _ _ _ _ _ _ _ _ _ _).drewN _, Below.drewN ((Below.refl w.heap.size w).alloc (Nat.le_refl _) _) _⟩
  case round =>
    obtain ⟨k, hk, rfl, HX, HB⟩ := hrel
    obtain ⟨g, g0, g1, g2, g3, g4, g5, g6, g7, g8, g9, g10⟩ := HX.out
    have hbs := HB.out.size
    by_cases hlt : k < nc
    · obtain ⟨b, off, x, y, rfl, hb, hx, hy, h51⟩ := HC.out k hlt
      replace hx := (HB.out.cell (p := ⟨b, off + k * 2, none⟩) hb).trans hx
      replace hy := (HB.out.cell (p := ⟨b, off + k * 2 + 1, none⟩) hb).trans hy
      have H51 := Lib.hid h51
      have hbw : b < wr.heap.size := by omega
      clear h51 hb
      go_wp2_with (go_at_call 51; refine (H51.out _).mono ?_; rintro e w1 ⟨rfl, hb⟩; have HB1 := Lib.hid hb; clear hb)
      go_roundw
      case rel => exact ⟨k + 1, by omega, by go_num, HX.out.bel HB1.out, HB.out.trans (HB1.out.mono HB.out.size)⟩
      case measure => simp [intOf] <;> omega
    · go_wp2_with (first
        | (go_at_call 52; refine (H52.out _ HB.out).mono ?_; rintro e w1 ⟨rfl, m5, rfl⟩)
        | (go_at_call 53; refine (H53.out _ _).mono ?_; rintro e w1 ⟨rfl, hb⟩; have HB1 := Lib.hid hb; clear hb))
      go_ret
      exact ⟨rfl, (Below.drewN HB.out m5).trans (HB1.out.mono HB.out.size)⟩
set_option maxRecDepth 100000 in
set_option maxHeartbeats 4000000 in
theorem can1_walk1 (w : World) (s : ByteArray) (ao ap ar al1 ac an1 an aa al : Option Addr) (no np nr nl nc co cp cr cl1 cc cn1 cn ca cl : Nat)
    (H49 : Hid (∀ W, Calls Try.prog 49 #[.string s] W fun e w' => e = .returned (.bool true) ∧ W = w'))
    (H50o : Hid (∀ W, Below w.heap.size w W → Calls Try.prog 50 #[.slice ao no co, .int .i64 4] W (Ans (.bool true) W)))
    (H50p : Hid (∀ W, Below w.heap.size w W → Calls Try.prog 50 #[.slice ap np cp, .int .i64 8] W (Ans (.bool true) W)))
    (H50r : Hid (∀ W, Below w.heap.size w W → Calls Try.prog 50 #[.slice ar nr cr, .int .i64 4] W (Ans (.bool true) W)))
    (H50l : Hid (∀ W, Below w.heap.size w W → Calls Try.prog 50 #[.slice al1 nl cl1, .int .i64 256] W (Ans (.bool true) W)))
    (H52 : Hid (∀ W, Below w.heap.size w W → Calls Try.prog 52 #[.slice an1 nc cn1] W (Ans (.bool true) W)))
    (H53 : Hid (∀ n W, Calls Try.prog 53 #[.agg #[.string s, .bool true, .slice ao no co, .slice ap np cp, .slice ar nr cr, .slice al1 nl cl1, .slice ac nc cc, .slice an1 nc cn1, .slice an 0 cn, .slice aa 0 ca, .slice al 0 cl], .int .i64 n] W (AnsB (.bool true) W)))
    (HC : Hid (∀ k, k < nc → ∃ b off x y, ac = some ⟨b, off, none⟩ ∧ b < w.heap.size ∧ w.cell? ⟨b, off + k * 2, none⟩ = some (.int .i64 x) ∧ w.cell? ⟨b, off + k * 2 + 1, none⟩ = some (.int .i64 y) ∧ ∀ W, Calls Try.prog 51 #[.agg #[.int .i64 x, .int .i64 y]] W (AnsB (.bool true) W)))
    (hs256 : np + nr + nl ≤ 256) (hc1 : 1 ≤ nc) (hc2 : nc ≤ 2000) (hno : 0 < no) :
    Calls Try.prog 36 #[.agg #[.string s, .bool true, .slice ao no co, .slice ap np cp, .slice ar nr cr, .slice al1 nl cl1, .slice ac nc cc, .slice an1 nc cn1, .slice an 0 cn, .slice aa 0 ca, .slice al 0 cl]] w (AnsB (.int .i64 0) w) := by
  go_enter Try.func36, Try.ntmps36
  go_wp2_with (go_at_call 49; refine (H49.out _).mono ?_; rintro e w1 ⟨rfl, rfl⟩)
  refine (H50o.out _ (by repeat (first | with_reducible exact (Below.refl _ _).alloc (Nat.le_refl _) _ | with_reducible exact Below.refl _ _ | with_reducible refine Below.drewN ?_ _))).mono ?_
  rintro e w1 ⟨rfl, m1, rfl⟩
  go_wp2_with fail
  refine (H50p.out _ (by repeat (first | with_reducible exact (Below.refl _ _).alloc (Nat.le_refl _) _ | with_reducible exact Below.refl _ _ | with_reducible refine Below.drewN ?_ _))).mono ?_
  rintro e w1 ⟨rfl, m2, rfl⟩
  go_wp2_with fail
  refine (H50r.out _ (by repeat (first | with_reducible exact (Below.refl _ _).alloc (Nat.le_refl _) _ | with_reducible exact Below.refl _ _ | with_reducible refine Below.drewN ?_ _))).mono ?_
  rintro e w1 ⟨rfl, m3, rfl⟩
  go_wp2_with fail
  refine (H50l.out _ (by repeat (first | with_reducible exact (Below.refl _ _).alloc (Nat.le_refl _) _ | with_reducible exact Below.refl _ _ | with_reducible refine Below.drewN ?_ _))).mono ?_
  rintro e w1 ⟨rfl, m4, rfl⟩
  go_wp2_with fail
  go_loopw [4] (fun i wr => ∃ k : Nat, k ≤ nc ∧ i = .int .i64 k ∧ Hid (Box11 wr w.heap.size (.string s) (.bool true) (.slice ao no co) (.slice ap np cp) (.slice ar nr cr) (.slice al1 nl cl1) (.slice ac nc cc) (.slice an1 nc cn1) (.slice an 0 cn) (.slice aa 0 ca) (.slice al 0 cl)) ∧ Hid (Below w.heap.size w wr)) (fun i _ => nc - (intOf i).toNat)
  case atStart => exact ⟨0, Nat.zero_le _, rfl, (Box11.new w _ _ _ _ _ _ _ _ _ _ _ _).drewN _, Below.drewN ((Below.refl w.heap.size w).alloc (Nat.le_refl _) _) _⟩
  case round =>
    obtain ⟨k, hk, rfl, HX, HB⟩ := hrel
    obtain ⟨g, g0, g1, g2, g3, g4, g5, g6, g7, g8, g9, g10⟩ := HX.out
    have hbs := HB.out.size
    by_cases hlt : k < nc
    · obtain ⟨b, off, x, y, rfl, hb, hx, hy, h51⟩ := HC.out k hlt
      replace hx := (HB.out.cell (p := ⟨b, off + k * 2, none⟩) hb).trans hx
      replace hy := (HB.out.cell (p := ⟨b, off + k * 2 + 1, none⟩) hb).trans hy
      have H51 := Lib.hid h51
      have hbw : b < wr.heap.size := by omega
      clear h51 hb
      go_wp2_with (go_at_call 51; refine (H51.out _).mono ?_; rintro e w1 ⟨rfl, hb⟩; have HB1 := Lib.hid hb; clear hb)
      go_roundw
      case rel => exact ⟨k + 1, by omega, by go_num, HX.out.bel HB1.out, HB.out.trans (HB1.out.mono HB.out.size)⟩
      case measure => simp [intOf] <;> omega
    · go_wp2_with (first
        | (go_at_call 52; refine (H52.out _ HB.out).mono ?_; rintro e w1 ⟨rfl, m5, rfl⟩)
        | (go_at_call 53; refine (H53.out _ _).mono ?_; rintro e w1 ⟨rfl, hb⟩; have HB1 := Lib.hid hb; clear hb))
      go_ret
      exact ⟨rfl, (Below.drewN HB.out m5).trans (HB1.out.mono HB.out.size)⟩
theorem can1_any (f : Fn) (v : Value) (w : World) (hv : FnV w v f) (hr : FnR f) : Calls Try.prog 36 #[v] w (AnsB (.int .i64 0) w) := by
  obtain ⟨vo, vp, vr, vl, vc, vn, an, aa, al, cn, ca, cl, rfl, hp⟩ := hv
  have H53 : Hid (∀ n W, Calls Try.prog 53 #[fnAgg f vo vp vr vl vc vn an aa al cn ca cl, .int .i64 n] W (AnsB (.bool true) W)) := fun n W => tables_any f vo vp vr vl vc vn an aa al cn ca cl n W
  have H49 : Hid (∀ W, Calls Try.prog 49 #[.string f.name] W fun e w' => e = .returned (.bool true) ∧ W = w') := fun W => by
    have h := rmay_any f.name W hr.nsz
    unfold MayPost at h
    rw [hr.may] at h
    exact h
  have H50o : Hid (∀ W, Below w.heap.size w W → Calls Try.prog 50 #[vo, .int .i64 4] W (Ans (.bool true) W)) := fun W hb => right_ty f.outer vo 4 W (hp.o.bel hb) hr.o (by have := hr.o.2; omega)
  have H50p : Hid (∀ W, Below w.heap.size w W → Calls Try.prog 50 #[vp, .int .i64 8] W (Ans (.bool true) W)) := fun W hb => right_ty f.params vp 8 W (hp.p.bel hb) hr.p (by have := hr.p.2; omega)
  have H50r : Hid (∀ W, Below w.heap.size w W → Calls Try.prog 50 #[vr, .int .i64 4] W (Ans (.bool true) W)) := fun W hb => right_ty f.results vr 4 W (hp.r.bel hb) hr.r (by have := hr.r.2; omega)
  have H50l : Hid (∀ W, Below w.heap.size w W → Calls Try.prog 50 #[vl, .int .i64 256] W (Ans (.bool true) W)) := fun W hb => right_ty f.locals vl 256 W (hp.l.bel hb) hr.l (by have := hr.l.2; omega)
  have H52 : Hid (∀ W, Below w.heap.size w W → Calls Try.prog 52 #[vn] W (Ans (.bool true) W)) := fun W hb => right_ln f.lines vn W (hp.n.bel hb) hr.ln (by have := hr.n; have := hr.c2; omega)
  obtain ⟨-, ⟨ao, co, rfl, -, -, -⟩, ⟨ap, cp, rfl, -, -, -⟩, ⟨ar, cr, rfl, -, -, -⟩, ⟨al1, cl1, rfl, -, -, -⟩, ⟨ac, cc, rfl, -, -, hcc⟩, ⟨an1, cn1, rfl, -, -, -⟩, -, -, -⟩ := hp
  have HC : Hid (∀ k, k < f.code.length → ∃ b off x y, ac = some ⟨b, off, none⟩ ∧ b < w.heap.size ∧ w.cell? ⟨b, off + k * 2, none⟩ = some (.int .i64 x) ∧ w.cell? ⟨b, off + k * 2 + 1, none⟩ = some (.int .i64 y) ∧ ∀ W, Calls Try.prog 51 #[.agg #[.int .i64 x, .int .i64 y]] W (AnsB (.bool true) W)) := fun k hk => by
    obtain ⟨b, off, rfl, hb, h1, h2⟩ := hcc k hk
    exact ⟨b, off, _, _, rfl, hb, h1, h2, fun W => right_in _ _ W (hr.c _ (List.getElem_mem _))⟩
  have hs := hr.slots
  have hc1 := hr.c1
  have hc2 := hr.c2
  have hoi := hr.oi
  have hn := hr.n
  clear hcc hr
  unfold fnAgg at H53 ⊢
  rw [hn] at H52 H53 ⊢
  by_cases h0 : f.outer.length = 0
  · rw [h0] at H50o H53 ⊢
    exact can1_walk0 w _ _ _ _ _ _ _ _ _ _ _ _ _ _ _ _ _ _ _ _ _ _ _ _ H49 H50o H50p H50r H50l H52 H53 HC hs hc1 hc2
  · have hin : f.inner = true := hoi.resolve_left h0
    rw [hin] at H53 ⊢
    exact can1_walk1 w _ _ _ _ _ _ _ _ _ _ _ _ _ _ _ _ _ _ _ _ _ _ _ _ H49 H50o H50p H50r H50l H52 H53 HC hs hc1 hc2 (by omega)
end Go.Proofs.Ythaniobijkdnoaa
