/- The walk of the law LotGiven. Conditions: words of 64 bits, lengths of 63 bits. -/
import Derived.Test.YthaniobijkdnoaaQC
namespace Go.Proofs.Ythaniobijkdnoaa
open Go.RowKit

def byW : Nat → Int
  | 0 => 499
  | 1 => 19
  | 2 => 19
  | _ => 59
def limB (ws : List Int) (k i : Nat) : Int := if i < k then limV ws i else byW i
/-- what the law's loop keeps -/
structure GivI (ws : List Int) (B : Nat) (v1 v2 : Value) (k : Nat) (w1 wr : World) : Prop where
  r : wr.heap[B]? = some (.cells #[v1, v2] 39 (0, 0))
  b : wr.heap[B + 1]? = some (.cells #[.int .i64 500, .int .i64 20, .int .i64 20, .int .i64 60] 41 (0, 0))
  n : wr.heap[B + 2]? = some (.cells #[.int .i64 (limB ws k 0), .int .i64 (limB ws k 1), .int .i64 (limB ws k 2), .int .i64 (limB ws k 3)] 41 (0, 0))
  bel : Below B w1 wr
theorem GivI.step {ws : List Int} {B : Nat} {v1 v2 : Value} {w1 wr : World} {k : Nat} (h : GivI ws B v1 v2 k w1 wr) (hk : k < 4) : GivI ws B v1 v2 (k + 1) w1 (wr.setCell ⟨B + 2, k, none⟩ (.int .i64 (limV ws k))) := by
  refine ⟨rd_set (by simp) h.r, rd_set (by simp) h.b, ?_, h.bel.setCell (by simp) _⟩
  rw [heap_set h.n]
  have e : k = 0 ∨ k = 1 ∨ k = 2 ∨ k = 3 := by omega
  rcases e with rfl | rfl | rfl | rfl <;> simp [limB]
theorem GivI.drew {ws : List Int} {B : Nat} {v1 v2 : Value} {w1 wr : World} {k : Nat} (h : GivI ws B v1 v2 k w1 wr) : GivI ws B v1 v2 k w1 wr.drew := ⟨h.r, h.b, h.n, h.bel.drew⟩
theorem GivI.start (ws : List Int) (v1 v2 : Value) (w : World) : GivI ws w.heap.size v1 v2 0 w (((w.alloc (.cells #[v1, v2] 39)).alloc (.cells #[.int .i64 500, .int .i64 20, .int .i64 20, .int .i64 60] 41)).alloc (.cells #[.int .i64 499, .int .i64 19, .int .i64 19, .int .i64 59] 41)) := by
  refine ⟨?_, ?_, ?_, ?_⟩
  · exact (heap_old _ _ _ (by simp only [sz_alloc]; omega)).trans ((heap_old _ _ _ (by simp only [sz_alloc]; omega)).trans (heap_new _ _))
  · refine (heap_old _ _ _ (by simp only [sz_alloc]; omega)).trans ?_
    have h := heap_new (w.alloc (.cells #[v1, v2] 39)) (.cells #[.int .i64 500, .int .i64 20, .int .i64 20, .int .i64 60] 41)
    rw [sz_alloc] at h
    exact h
  · have h := heap_new ((w.alloc (.cells #[v1, v2] 39)).alloc (.cells #[.int .i64 500, .int .i64 20, .int .i64 20, .int .i64 60] 41)) (.cells #[.int .i64 499, .int .i64 19, .int .i64 19, .int .i64 59] 41)
    rw [sz_alloc, sz_alloc] at h
    exact h
  · exact (((Below.refl _ _).alloc (Nat.le_refl _) _).alloc (by simp only [sz_alloc]; omega) _).alloc (by simp only [sz_alloc]; omega) _
theorem limB_end (ws : List Int) (k : Nat) (hk : k = min ws.length 4) (i : Nat) (hi : i < 4) : limB ws k i = limV ws i := by
  unfold limB
  split
  · rfl
  · have hlen : ¬ i < ws.length := by omega
    rw [limV, if_neg hlen]
    have e : i = 0 ∨ i = 1 ∨ i = 2 ∨ i = 3 := by omega
    rcases e with rfl | rfl | rfl | rfl <;> rfl
theorem iv_drop {w : World} {a : Option Addr} {n c : Nat} {xs : List Int} (h : IV w (.slice a n c) xs) (k : Nat) (hk : k ≤ n) : IV w (.slice (a.map (·.add k)) (n - k) (c - k)) (xs.drop k) := by
  obtain ⟨a', cap, e, h1, h2, hc⟩ := h
  simp only [Value.slice.injEq] at e
  obtain ⟨rfl, rfl, rfl⟩ := e
  refine ⟨_, _, by rw [List.length_drop], by rw [List.length_drop]; omega, by omega, fun i hi => ?_⟩
  rw [List.length_drop] at hi
  obtain ⟨b, off, e, hb, hcc⟩ := hc (k + i) (by omega)
  have hadd : (⟨b, off, none⟩ : Addr).add k = ⟨b, off + k, none⟩ := by unfold Addr.add; split <;> simp_all
  refine ⟨b, off + k, by rw [e, Option.map_some, hadd], hb, ?_⟩
  rw [List.getElem_drop, Nat.add_assoc]
  exact hcc
theorem ints_x (v1 v2 : Value) (w : World) (h : ∃ xs, IV w v1 xs ∧ IV w v2 xs ∧ xs.length ≤ 1000000) : Calls Try.prog 13 #[v1, v2] w (AnsB (.bool true) w) := by
  obtain ⟨xs, h1, h2, hl0⟩ := h
  exact (ints_any xs v1 v2 w h1 h2 hl0).mono fun _ _ ⟨he, m, hm⟩ => ⟨he, by rw [hm]; exact Below.drewN (Below.refl _ _) m⟩
set_option maxRecDepth 100000 in
set_option maxHeartbeats 4000000 in
theorem lotGiven_any (ws : List Int) (v : Value) (w : World) (hv : IV w v ws) (hr : ∀ x ∈ ws, -9223372036854775808 ≤ x ∧ x ≤ 9223372036854775807) : Calls Try.prog 4 #[v] w (AnsB (.bool true) w) := by
  have hv' := hv
  obtain ⟨a0, cap0, rfl, hl0, hm0, -⟩ := hv'
  obtain ⟨n0, hn0⟩ : ∃ n, n = ws.length := ⟨_, rfl⟩
  rw [← hn0] at hl0 hv ⊢
  have HV := Lib.hid hv
  have HR := Lib.hid hr
  have HN0 := Lib.hid hn0
  clear hv hr hn0
  unfold maxLen at hm0
  by_cases hbig : 400 < n0
  · go_enter Try.func4, Try.ntmps4
    go_wp2_with (go_at_call 5; refine (lives_any _).mono ?_; rintro e w1 ⟨rfl, hb⟩; have HB1 := Lib.hid hb; clear hb)
    go_ret
    exact ⟨rfl, HB1.out⟩
  have H11 := Lib.hid (input_any ws _ w HV.out (by have := HN0.out; omega))
  have H14 : Hid (∀ W, Below w.heap.size w W → Calls Try.prog 14 #[.slice a0 n0 cap0] W (LimPost ws W)) := fun W hb => limits_any ws _ W (HV.out.bel hb) (by have := HN0.out; omega) HR.out
  obtain ⟨kk, hkk⟩ : ∃ kk : Nat, kk = min n0 4 := ⟨_, rfl⟩
  have HKK := Lib.hid hkk
  have hmin : min (n0 : Int) 4 = (kk : Int) := by omega
  have hk4 : kk ≤ 4 := by omega
  have hkn : kk ≤ n0 := by omega
  clear hkk
  go_enter Try.func4, Try.ntmps4
  go_wp2_with fail
  refine H11.out.mono ?_
  rintro e w1 ⟨v1, v2, rfl, h1, h2, hb1⟩
  have HI1 := Lib.hid h1
  have HI2 := Lib.hid h2
  have HB1 := Lib.hid hb1
  obtain ⟨a1, c1, rfl, -, -, -⟩ := h1
  obtain ⟨a2, c2, rfl, -, -, -⟩ := h2
  obtain ⟨m1, hm1⟩ : ∃ m, m = (ws.take 4).length := ⟨_, rfl⟩
  obtain ⟨m2, hm2⟩ : ∃ m, m = (ws.drop 4).length := ⟨_, rfl⟩
  rw [← hm1] at HI1 ⊢
  rw [← hm2] at HI2 ⊢
  have HM1 := Lib.hid hm1
  have HM2 := Lib.hid hm2
  clear hb1 H11 hm1 hm2
  go_wp2_with fail
  · obtain rfl : kk = 4 := by omega
    have hc4 : (4 : Int) ≤ (cap0 : Int) := by omega
    have hn4 : (4 : Int) ≤ (n0 : Int) := by omega
    have hc4' : ¬ cap0 = 4 := by omega
    go_loopw [7] (fun i wr => ∃ k : Nat, k ≤ 4 ∧ i = .int .i64 k ∧ Hid (GivI ws w1.heap.size (.slice a1 m1 c1) (.slice a2 m2 c2) k w1 wr)) (fun i _ => 4 - (intOf i).toNat)
    case atStart => exact ⟨0, Nat.zero_le _, rfl, Lib.hid (GivI.start ws _ _ w1)⟩
    case round =>
      obtain ⟨k, hk, rfl, HI⟩ := hrel
      by_cases hlt : k < 4
      · have hk4' : k < 4 := by omega
        have n0' : wr.cell? ⟨w1.heap.size + 2, k, none⟩ = some (.int .i64 (limB ws k k)) := by
          rw [cell_of HI.out.n k]
          have e : k = 0 ∨ k = 1 ∨ k = 2 ∨ k = 3 := by omega
          rcases e with rfl | rfl | rfl | rfl <;> rfl
        have b0' : wr.cell? ⟨w1.heap.size + 1, k, none⟩ = some (.int .i64 (byV k)) := by
          rw [cell_of HI.out.b k]
          have e : k = 0 ∨ k = 1 ∨ k = 2 ∨ k = 3 := by omega
          rcases e with rfl | rfl | rfl | rfl <;> rfl
        have nf := frozen_of HI.out.n k
        have hby : 1 ≤ byV k ∧ byV k ≤ 1000000 := by
          have e : k = 0 ∨ k = 1 ∨ k = 2 ∨ k = 3 := by omega
          rcases e with rfl | rfl | rfl | rfl <;> simp [byV]
        have hkl : k < ws.length := by have := HN0.out; omega
        have hbw : Below w.heap.size w wr := HB1.out.trans (HI.out.bel.mono HB1.out.size)
        obtain ⟨_, _, he, _, _, hc⟩ := (HV.out.bel hbw)
        simp only [Value.slice.injEq] at he
        obtain ⟨rfl, -, rfl⟩ := he
        obtain ⟨g, off, rfl, hg, hcell⟩ := hc k hkl
        have hx := HR.out _ (List.getElem_mem hkl)
        obtain ⟨x, hxx⟩ : ∃ x, x = ws[k] := ⟨_, rfl⟩
        rw [← hxx] at hcell hx
        obtain ⟨rr, hrr⟩ : ∃ rr, rr = (x.tmod (byV k) + byV k) % byV k := ⟨_, rfl⟩
        have H12 : Hid (∀ W, Calls Try.prog 12 #[.int .i64 x, .int .i64 (byV k)] W fun e W' => e = .returned (.int .i64 rr) ∧ W = W') := fun W => by rw [hrr]; exact modulo_any x (byV k) W hx hby.1 hby.2
        have HL : Hid (limV ws k = rr) := Lib.hid (by
          rw [hrr, Int.add_emod_right, limV, if_pos hkl, List.getD_eq_getElem?_getD, List.getElem?_eq_getElem hkl, hxx]; rfl)
        generalize byV k = bb at *
        clear hc hxx hkl hby hrr hx hbw
        go_wp2_with fail
        go_region_with (go_at_call 12; refine (H12.out _).mono ?_; rintro e w9 ⟨rfl, rfl⟩)
        all_goals
          go_wp2
          go_round
          case rel => exact ⟨k + 1, by omega, by go_num, Lib.hid (by have h := (GivI.step HI.out hk4').drew; rw [HL.out] at h; exact h)⟩
          case measure => simp [intOf] <;> omega
      · obtain rfl : k = 4 := by omega
        have hR3 := HI.out.r
        have hN3 : wr.heap[w1.heap.size + 2]? = some (.cells #[.int .i64 (limV ws 0), .int .i64 (limV ws 1), .int .i64 (limV ws 2), .int .i64 (limV ws 3)] 41 (0, 0)) := by
          have h := HI.out.n
          rw [limB_end ws _ (by have := HN0.out; omega) 0 (by omega), limB_end ws _ (by have := HN0.out; omega) 1 (by omega), limB_end ws _ (by have := HN0.out; omega) 2 (by omega), limB_end ws _ (by have := HN0.out; omega) 3 (by omega)] at h
          exact h
        have HBW : Hid (Below w1.heap.size w1 wr) := Lib.hid HI.out.bel
        have H14' : Hid (∀ W, Below wr.heap.size wr W → Calls Try.prog 14 #[.slice a0 n0 cap0] W (fun e W' => e = .returned (.agg #[.int .i64 (limV ws 0), .int .i64 (limV ws 1), .int .i64 (limV ws 2), .int .i64 (limV ws 3)]) ∧ Below W.heap.size W W')) := fun W hb => H14.out W (HB1.out.trans ((HBW.out.trans (hb.mono HBW.out.size)).mono HB1.out.size))
        have HV1 : Hid (IV wr (.slice a0 n0 cap0) ws) := (HV.out.bel HB1.out).bel HBW.out
        have H13a : Hid (∀ W, Below wr.heap.size wr W → ∃ xs, IV W (.slice a1 m1 c1) xs ∧ IV W (.slice a0 4 cap0) xs ∧ xs.length ≤ 1000000) := fun W hb => ⟨ws.take 4, (HI1.out.bel HBW.out).bel hb, (iv_take HV1.out 4 (by omega)).bel hb, (by rw [List.length_take]; omega)⟩
        have H13b : Hid (∀ W, Below wr.heap.size wr W → ∃ xs, IV W (.slice a2 m2 c2) xs ∧ IV W (.slice (a0.map (·.add 4)) (n0 - 4) (cap0 - 4)) xs ∧ xs.length ≤ 1000000) := fun W hb => ⟨ws.drop 4, (HI2.out.bel HBW.out).bel hb, ((iv_drop HV1.out 4 (by omega)).bel hb), (by rw [List.length_drop]; have := HN0.out; omega)⟩
        generalize limV ws 0 = l0 at *
        generalize limV ws 1 = l1 at *
        generalize limV ws 2 = l2 at *
        generalize limV ws 3 = l3 at *
        have r03 := cell_of hR3 0
        have r13 := cell_of hR3 1
        have n03 := cell_of hN3 0
        have n13 := cell_of hN3 1
        have n23 := cell_of hN3 2
        have n33 := cell_of hN3 3
        simp only [List.getElem?_toArray, List.getElem?_cons_zero, List.getElem?_cons_succ] at r03 r13 n03 n13 n23 n33
        have HKS : Hid (∀ W, Below wr.heap.size wr W → W.cell? ⟨w1.heap.size, 0, none⟩ = some (.slice a1 m1 c1) ∧ W.cell? ⟨w1.heap.size, 1, none⟩ = some (.slice a2 m2 c2) ∧ W.cell? ⟨w1.heap.size + 2, 0, none⟩ = some (.int .i64 l0) ∧ W.cell? ⟨w1.heap.size + 2, 1, none⟩ = some (.int .i64 l1) ∧ W.cell? ⟨w1.heap.size + 2, 2, none⟩ = some (.int .i64 l2) ∧ W.cell? ⟨w1.heap.size + 2, 3, none⟩ = some (.int .i64 l3)) := Lib.hid (fun W hb => by
          have e0 : ∀ o, W.cell? ⟨w1.heap.size, o, none⟩ = wr.cell? ⟨w1.heap.size, o, none⟩ := fun o => hb.cell (p := ⟨w1.heap.size, o, none⟩) (heap_lt hR3)
          have e2 : ∀ o, W.cell? ⟨w1.heap.size + 2, o, none⟩ = wr.cell? ⟨w1.heap.size + 2, o, none⟩ := fun o => hb.cell (p := ⟨w1.heap.size + 2, o, none⟩) (heap_lt hN3)
          exact ⟨(e0 0).trans r03, (e0 1).trans r13, (e2 0).trans n03, (e2 1).trans n13, (e2 2).trans n23, (e2 3).trans n33⟩)
        clear hR3 hN3 HI H14
        go_wp2_with fail
        go_region_held3 (fun W => W.cell? ⟨w1.heap.size, 0, none⟩ = some (.slice a1 m1 c1) ∧ W.cell? ⟨w1.heap.size, 1, none⟩ = some (.slice a2 m2 c2) ∧ W.cell? ⟨w1.heap.size + 2, 0, none⟩ = some (.int .i64 l0) ∧ W.cell? ⟨w1.heap.size + 2, 1, none⟩ = some (.int .i64 l1) ∧ W.cell? ⟨w1.heap.size + 2, 2, none⟩ = some (.int .i64 l2) ∧ W.cell? ⟨w1.heap.size + 2, 3, none⟩ = some (.int .i64 l3)) (first | exact ⟨r03, r13, n03, n13, n23, n33⟩ | exact HKS.out _ (by repeat (first | with_reducible exact Below.refl _ _ | with_reducible exact HB5.out | with_reducible exact HB6.out | with_reducible exact HB7.out | with_reducible exact HB8.out | with_reducible refine Below.drew ?_ | with_reducible refine Below.drewN ?_ _)) | go_keep) ((first
          | (go_at_call 13; refine (ints_x _ _ _ (by first | exact H13a.out _ (by repeat (first | with_reducible exact Below.refl _ _ | with_reducible exact HB5.out | with_reducible exact HB6.out | with_reducible exact HB7.out | with_reducible exact HB8.out | with_reducible refine Below.drew ?_ | with_reducible refine Below.drewN ?_ _)) | exact H13b.out _ (by repeat (first | with_reducible exact Below.refl _ _ | with_reducible exact HB5.out | with_reducible exact HB6.out | with_reducible exact HB7.out | with_reducible exact HB8.out | with_reducible refine Below.drew ?_ | with_reducible refine Below.drewN ?_ _)))).mono ?_; rintro e w5 ⟨rfl, hb5⟩; have HB5 : Hid (Below wr.heap.size wr w5) := Lib.hid (Below.trans (by repeat (first | with_reducible exact Below.refl _ _ | with_reducible exact HB5.out | with_reducible exact HB6.out | with_reducible exact HB7.out | with_reducible exact HB8.out | with_reducible refine Below.drew ?_ | with_reducible refine Below.drewN ?_ _)) (hb5.mono (by first | exact Nat.le_refl _ | exact HB5.out.size | exact HB6.out.size | exact HB7.out.size))); clear hb5)
          | (go_at_call 14; refine (H14'.out _ (by repeat (first | with_reducible exact Below.refl _ _ | with_reducible exact HB5.out | with_reducible exact HB6.out | with_reducible exact HB7.out | with_reducible exact HB8.out | with_reducible refine Below.drew ?_ | with_reducible refine Below.drewN ?_ _))).mono ?_; rintro e w7 ⟨rfl, hb7⟩; have HB7 : Hid (Below wr.heap.size wr w7) := Lib.hid (Below.trans (by repeat (first | with_reducible exact Below.refl _ _ | with_reducible exact HB5.out | with_reducible exact HB6.out | with_reducible exact HB7.out | with_reducible exact HB8.out | with_reducible refine Below.drew ?_ | with_reducible refine Below.drewN ?_ _)) (hb7.mono (by first | exact Nat.le_refl _ | exact HB5.out.size | exact HB6.out.size | exact HB7.out.size))); clear hb7)
          | (go_at_call 5; refine (lives_any _).mono ?_; rintro e w8 ⟨rfl, hb8⟩; have HB8 : Hid (Below wr.heap.size wr w8) := Lib.hid (Below.trans (by repeat (first | with_reducible exact Below.refl _ _ | with_reducible exact HB5.out | with_reducible exact HB6.out | with_reducible exact HB7.out | with_reducible exact HB8.out | with_reducible refine Below.drew ?_ | with_reducible refine Below.drewN ?_ _)) (hb8.mono (by first | exact Nat.le_refl _ | exact HB5.out.size | exact HB6.out.size | exact HB7.out.size))); clear hb8)))
        all_goals
          go_wp2
          go_ret
          exact ⟨rfl, HB1.out.trans ((HBW.out.trans (HB8.out.mono HBW.out.size)).mono HB1.out.size)⟩
  · obtain rfl : kk = n0 := by omega
    go_loopw [7] (fun i wr => ∃ k : Nat, k ≤ kk ∧ i = .int .i64 k ∧ Hid (GivI ws w1.heap.size (.slice a1 m1 c1) (.slice a2 m2 c2) k w1 wr)) (fun i _ => kk - (intOf i).toNat)
    case atStart => exact ⟨0, Nat.zero_le _, rfl, Lib.hid (GivI.start ws _ _ w1)⟩
    case round =>
      obtain ⟨k, hk, rfl, HI⟩ := hrel
      by_cases hlt : k < kk
      · have hk4' : k < 4 := by omega
        have n0' : wr.cell? ⟨w1.heap.size + 2, k, none⟩ = some (.int .i64 (limB ws k k)) := by
          rw [cell_of HI.out.n k]
          have e : k = 0 ∨ k = 1 ∨ k = 2 ∨ k = 3 := by omega
          rcases e with rfl | rfl | rfl | rfl <;> rfl
        have b0' : wr.cell? ⟨w1.heap.size + 1, k, none⟩ = some (.int .i64 (byV k)) := by
          rw [cell_of HI.out.b k]
          have e : k = 0 ∨ k = 1 ∨ k = 2 ∨ k = 3 := by omega
          rcases e with rfl | rfl | rfl | rfl <;> rfl
        have nf := frozen_of HI.out.n k
        have hby : 1 ≤ byV k ∧ byV k ≤ 1000000 := by
          have e : k = 0 ∨ k = 1 ∨ k = 2 ∨ k = 3 := by omega
          rcases e with rfl | rfl | rfl | rfl <;> simp [byV]
        have hkl : k < ws.length := by have := HN0.out; omega
        have hbw : Below w.heap.size w wr := HB1.out.trans (HI.out.bel.mono HB1.out.size)
        obtain ⟨_, _, he, _, _, hc⟩ := (HV.out.bel hbw)
        simp only [Value.slice.injEq] at he
        obtain ⟨rfl, -, rfl⟩ := he
        obtain ⟨g, off, rfl, hg, hcell⟩ := hc k hkl
        have hx := HR.out _ (List.getElem_mem hkl)
        obtain ⟨x, hxx⟩ : ∃ x, x = ws[k] := ⟨_, rfl⟩
        rw [← hxx] at hcell hx
        obtain ⟨rr, hrr⟩ : ∃ rr, rr = (x.tmod (byV k) + byV k) % byV k := ⟨_, rfl⟩
        have H12 : Hid (∀ W, Calls Try.prog 12 #[.int .i64 x, .int .i64 (byV k)] W fun e W' => e = .returned (.int .i64 rr) ∧ W = W') := fun W => by rw [hrr]; exact modulo_any x (byV k) W hx hby.1 hby.2
        have HL : Hid (limV ws k = rr) := Lib.hid (by
          rw [hrr, Int.add_emod_right, limV, if_pos hkl, List.getD_eq_getElem?_getD, List.getElem?_eq_getElem hkl, hxx]; rfl)
        generalize byV k = bb at *
        clear hc hxx hkl hby hrr hx hbw
        go_wp2_with fail
        go_region_with (go_at_call 12; refine (H12.out _).mono ?_; rintro e w9 ⟨rfl, rfl⟩)
        all_goals
          go_wp2
          go_round
          case rel => exact ⟨k + 1, by omega, by go_num, Lib.hid (by have h := (GivI.step HI.out hk4').drew; rw [HL.out] at h; exact h)⟩
          case measure => simp [intOf] <;> omega
      · obtain rfl : k = kk := by omega
        have hR3 := HI.out.r
        have hN3 : wr.heap[w1.heap.size + 2]? = some (.cells #[.int .i64 (limV ws 0), .int .i64 (limV ws 1), .int .i64 (limV ws 2), .int .i64 (limV ws 3)] 41 (0, 0)) := by
          have h := HI.out.n
          rw [limB_end ws _ (by have := HN0.out; omega) 0 (by omega), limB_end ws _ (by have := HN0.out; omega) 1 (by omega), limB_end ws _ (by have := HN0.out; omega) 2 (by omega), limB_end ws _ (by have := HN0.out; omega) 3 (by omega)] at h
          exact h
        have HBW : Hid (Below w1.heap.size w1 wr) := Lib.hid HI.out.bel
        have H14' : Hid (∀ W, Below wr.heap.size wr W → Calls Try.prog 14 #[.slice a0 k cap0] W (fun e W' => e = .returned (.agg #[.int .i64 (limV ws 0), .int .i64 (limV ws 1), .int .i64 (limV ws 2), .int .i64 (limV ws 3)]) ∧ Below W.heap.size W W')) := fun W hb => H14.out W (HB1.out.trans ((HBW.out.trans (hb.mono HBW.out.size)).mono HB1.out.size))
        have HV1 : Hid (IV wr (.slice a0 k cap0) ws) := (HV.out.bel HB1.out).bel HBW.out
        have H13a : Hid (∀ W, Below wr.heap.size wr W → ∃ xs, IV W (.slice a1 m1 c1) xs ∧ IV W (.slice a0 k cap0) xs ∧ xs.length ≤ 1000000) := fun W hb => ⟨ws.take 4, (HI1.out.bel HBW.out).bel hb, (show IV wr (.slice a0 k cap0) (ws.take 4) from (by have h := iv_take HV1.out k (by omega); rw [List.take_of_length_le (by have := HN0.out; omega)] at h ⊢; exact h)).bel hb, (by rw [List.length_take]; omega)⟩
        have H13b : Hid (∀ (A : Option Addr) (C : Nat) W, C ≤ maxLen → Below wr.heap.size wr W → ∃ xs, IV W (.slice a2 m2 c2) xs ∧ IV W (.slice A 0 C) xs ∧ xs.length ≤ 1000000) := fun A C W hC hb => ⟨ws.drop 4, (HI2.out.bel HBW.out).bel hb, (by rw [List.drop_eq_nil_of_le (by have := HN0.out; omega)]; exact IV.nil _ _ _ hC), (by rw [List.length_drop]; have := HN0.out; omega)⟩
        generalize limV ws 0 = l0 at *
        generalize limV ws 1 = l1 at *
        generalize limV ws 2 = l2 at *
        generalize limV ws 3 = l3 at *
        have r03 := cell_of hR3 0
        have r13 := cell_of hR3 1
        have k3 := cell_of hN3 0
        have n13 := cell_of hN3 1
        have n23 := cell_of hN3 2
        have n33 := cell_of hN3 3
        simp only [List.getElem?_toArray, List.getElem?_cons_zero, List.getElem?_cons_succ] at r03 r13 k3 n13 n23 n33
        have HKS : Hid (∀ W, Below wr.heap.size wr W → W.cell? ⟨w1.heap.size, 0, none⟩ = some (.slice a1 m1 c1) ∧ W.cell? ⟨w1.heap.size, 1, none⟩ = some (.slice a2 m2 c2) ∧ W.cell? ⟨w1.heap.size + 2, 0, none⟩ = some (.int .i64 l0) ∧ W.cell? ⟨w1.heap.size + 2, 1, none⟩ = some (.int .i64 l1) ∧ W.cell? ⟨w1.heap.size + 2, 2, none⟩ = some (.int .i64 l2) ∧ W.cell? ⟨w1.heap.size + 2, 3, none⟩ = some (.int .i64 l3)) := Lib.hid (fun W hb => by
          have e0 : ∀ o, W.cell? ⟨w1.heap.size, o, none⟩ = wr.cell? ⟨w1.heap.size, o, none⟩ := fun o => hb.cell (p := ⟨w1.heap.size, o, none⟩) (heap_lt hR3)
          have e2 : ∀ o, W.cell? ⟨w1.heap.size + 2, o, none⟩ = wr.cell? ⟨w1.heap.size + 2, o, none⟩ := fun o => hb.cell (p := ⟨w1.heap.size + 2, o, none⟩) (heap_lt hN3)
          exact ⟨(e0 0).trans r03, (e0 1).trans r13, (e2 0).trans k3, (e2 1).trans n13, (e2 2).trans n23, (e2 3).trans n33⟩)
        clear hR3 hN3 HI H14
        by_cases hcc : cap0 = k
        · subst hcc; go_wp2_with fail
          go_region_held3 (fun W => W.cell? ⟨w1.heap.size, 0, none⟩ = some (.slice a1 m1 c1) ∧ W.cell? ⟨w1.heap.size, 1, none⟩ = some (.slice a2 m2 c2) ∧ W.cell? ⟨w1.heap.size + 2, 0, none⟩ = some (.int .i64 l0) ∧ W.cell? ⟨w1.heap.size + 2, 1, none⟩ = some (.int .i64 l1) ∧ W.cell? ⟨w1.heap.size + 2, 2, none⟩ = some (.int .i64 l2) ∧ W.cell? ⟨w1.heap.size + 2, 3, none⟩ = some (.int .i64 l3)) (first | exact ⟨r03, r13, k3, n13, n23, n33⟩ | exact HKS.out _ (by repeat (first | with_reducible exact Below.refl _ _ | with_reducible exact HB5.out | with_reducible exact HB6.out | with_reducible exact HB7.out | with_reducible exact HB8.out | with_reducible refine Below.drew ?_ | with_reducible refine Below.drewN ?_ _)) | go_keep) ((first
            | (go_at_call 13; refine (ints_x _ _ _ (by first | exact H13a.out _ (by repeat (first | with_reducible exact Below.refl _ _ | with_reducible exact HB5.out | with_reducible exact HB6.out | with_reducible exact HB7.out | with_reducible exact HB8.out | with_reducible refine Below.drew ?_ | with_reducible refine Below.drewN ?_ _)) | exact H13b.out _ _ _ (by unfold maxLen; omega) (by repeat (first | with_reducible exact Below.refl _ _ | with_reducible exact HB5.out | with_reducible exact HB6.out | with_reducible exact HB7.out | with_reducible exact HB8.out | with_reducible refine Below.drew ?_ | with_reducible refine Below.drewN ?_ _)))).mono ?_; rintro e w5 ⟨rfl, hb5⟩; have HB5 : Hid (Below wr.heap.size wr w5) := Lib.hid (Below.trans (by repeat (first | with_reducible exact Below.refl _ _ | with_reducible exact HB5.out | with_reducible exact HB6.out | with_reducible exact HB7.out | with_reducible exact HB8.out | with_reducible refine Below.drew ?_ | with_reducible refine Below.drewN ?_ _)) (hb5.mono (by first | exact Nat.le_refl _ | exact HB5.out.size | exact HB6.out.size | exact HB7.out.size))); clear hb5)
            | (go_at_call 14; refine (H14'.out _ (by repeat (first | with_reducible exact Below.refl _ _ | with_reducible exact HB5.out | with_reducible exact HB6.out | with_reducible exact HB7.out | with_reducible exact HB8.out | with_reducible refine Below.drew ?_ | with_reducible refine Below.drewN ?_ _))).mono ?_; rintro e w7 ⟨rfl, hb7⟩; have HB7 : Hid (Below wr.heap.size wr w7) := Lib.hid (Below.trans (by repeat (first | with_reducible exact Below.refl _ _ | with_reducible exact HB5.out | with_reducible exact HB6.out | with_reducible exact HB7.out | with_reducible exact HB8.out | with_reducible refine Below.drew ?_ | with_reducible refine Below.drewN ?_ _)) (hb7.mono (by first | exact Nat.le_refl _ | exact HB5.out.size | exact HB6.out.size | exact HB7.out.size))); clear hb7)
            | (go_at_call 5; refine (lives_any _).mono ?_; rintro e w8 ⟨rfl, hb8⟩; have HB8 : Hid (Below wr.heap.size wr w8) := Lib.hid (Below.trans (by repeat (first | with_reducible exact Below.refl _ _ | with_reducible exact HB5.out | with_reducible exact HB6.out | with_reducible exact HB7.out | with_reducible exact HB8.out | with_reducible refine Below.drew ?_ | with_reducible refine Below.drewN ?_ _)) (hb8.mono (by first | exact Nat.le_refl _ | exact HB5.out.size | exact HB6.out.size | exact HB7.out.size))); clear hb8)))
          all_goals
            go_wp2
            go_ret
            exact ⟨rfl, HB1.out.trans ((HBW.out.trans (HB8.out.mono HBW.out.size)).mono HB1.out.size)⟩
        · go_wp2_with fail
          go_region_held3 (fun W => W.cell? ⟨w1.heap.size, 0, none⟩ = some (.slice a1 m1 c1) ∧ W.cell? ⟨w1.heap.size, 1, none⟩ = some (.slice a2 m2 c2) ∧ W.cell? ⟨w1.heap.size + 2, 0, none⟩ = some (.int .i64 l0) ∧ W.cell? ⟨w1.heap.size + 2, 1, none⟩ = some (.int .i64 l1) ∧ W.cell? ⟨w1.heap.size + 2, 2, none⟩ = some (.int .i64 l2) ∧ W.cell? ⟨w1.heap.size + 2, 3, none⟩ = some (.int .i64 l3)) (first | exact ⟨r03, r13, k3, n13, n23, n33⟩ | exact HKS.out _ (by repeat (first | with_reducible exact Below.refl _ _ | with_reducible exact HB5.out | with_reducible exact HB6.out | with_reducible exact HB7.out | with_reducible exact HB8.out | with_reducible refine Below.drew ?_ | with_reducible refine Below.drewN ?_ _)) | go_keep) ((first
            | (go_at_call 13; refine (ints_x _ _ _ (by first | exact H13a.out _ (by repeat (first | with_reducible exact Below.refl _ _ | with_reducible exact HB5.out | with_reducible exact HB6.out | with_reducible exact HB7.out | with_reducible exact HB8.out | with_reducible refine Below.drew ?_ | with_reducible refine Below.drewN ?_ _)) | exact H13b.out _ _ _ (by unfold maxLen; omega) (by repeat (first | with_reducible exact Below.refl _ _ | with_reducible exact HB5.out | with_reducible exact HB6.out | with_reducible exact HB7.out | with_reducible exact HB8.out | with_reducible refine Below.drew ?_ | with_reducible refine Below.drewN ?_ _)))).mono ?_; rintro e w5 ⟨rfl, hb5⟩; have HB5 : Hid (Below wr.heap.size wr w5) := Lib.hid (Below.trans (by repeat (first | with_reducible exact Below.refl _ _ | with_reducible exact HB5.out | with_reducible exact HB6.out | with_reducible exact HB7.out | with_reducible exact HB8.out | with_reducible refine Below.drew ?_ | with_reducible refine Below.drewN ?_ _)) (hb5.mono (by first | exact Nat.le_refl _ | exact HB5.out.size | exact HB6.out.size | exact HB7.out.size))); clear hb5)
            | (go_at_call 14; refine (H14'.out _ (by repeat (first | with_reducible exact Below.refl _ _ | with_reducible exact HB5.out | with_reducible exact HB6.out | with_reducible exact HB7.out | with_reducible exact HB8.out | with_reducible refine Below.drew ?_ | with_reducible refine Below.drewN ?_ _))).mono ?_; rintro e w7 ⟨rfl, hb7⟩; have HB7 : Hid (Below wr.heap.size wr w7) := Lib.hid (Below.trans (by repeat (first | with_reducible exact Below.refl _ _ | with_reducible exact HB5.out | with_reducible exact HB6.out | with_reducible exact HB7.out | with_reducible exact HB8.out | with_reducible refine Below.drew ?_ | with_reducible refine Below.drewN ?_ _)) (hb7.mono (by first | exact Nat.le_refl _ | exact HB5.out.size | exact HB6.out.size | exact HB7.out.size))); clear hb7)
            | (go_at_call 5; refine (lives_any _).mono ?_; rintro e w8 ⟨rfl, hb8⟩; have HB8 : Hid (Below wr.heap.size wr w8) := Lib.hid (Below.trans (by repeat (first | with_reducible exact Below.refl _ _ | with_reducible exact HB5.out | with_reducible exact HB6.out | with_reducible exact HB7.out | with_reducible exact HB8.out | with_reducible refine Below.drew ?_ | with_reducible refine Below.drewN ?_ _)) (hb8.mono (by first | exact Nat.le_refl _ | exact HB5.out.size | exact HB6.out.size | exact HB7.out.size))); clear hb8)))
          all_goals
            go_wp2
            go_ret
            exact ⟨rfl, HB1.out.trans ((HBW.out.trans (HB8.out.mono HBW.out.size)).mono HB1.out.size)⟩
end Go.Proofs.Ythaniobijkdnoaa
