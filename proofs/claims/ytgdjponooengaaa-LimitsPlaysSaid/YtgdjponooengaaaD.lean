/- LimitsPlays answers true over a slice that is not empty. Condition: the slice of calls reads as numbers. -/
import Derived.Test.YtgdjponooengaaaB
import Derived.Deep.DeepCutAuto
namespace Go.Proofs.Ytgdjponooengaaa
open Go.RowKit

structure Inv (w wr : World) (M C G : Nat) (u0 u1 u2 u3 m0 m1 m2 m3 : Int) : Prop where
  met : MeterAt wr M C u0 u1 u2 u3 m0 m1 m2 m3
  box : wr.heap[G]? = some (.cells #[.int .i64 m0, .int .i64 m1, .int .i64 m2, .int .i64 m3, .int .i64 u0, .int .i64 u1, .int .i64 u2, .int .i64 u3] 28 (0, 0))
  bel : Below w.heap.size w wr

theorem set8 {w : World} {G : Nat} {a0 a1 a2 a3 a4 a5 a6 a7 : Value} (b0 b1 b2 b3 b4 b5 b6 b7 : Value) (h : w.heap[G]? = some (.cells #[a0, a1, a2, a3, a4, a5, a6, a7] 28 (0, 0))) :
    ((((((((w.setCell ⟨G, 0, none⟩ b0).setCell ⟨G, 1, none⟩ b1).setCell ⟨G, 2, none⟩ b2).setCell ⟨G, 3, none⟩ b3).setCell ⟨G, 4, none⟩ b4).setCell ⟨G, 5, none⟩ b5).setCell ⟨G, 6, none⟩ b6).setCell ⟨G, 7, none⟩ b7).heap[G]? = some (.cells #[b0, b1, b2, b3, b4, b5, b6, b7] 28 (0, 0)) := by
  rw [heap_set (heap_set (heap_set (heap_set (heap_set (heap_set (heap_set (heap_set h 0 _) 1 _) 2 _) 3 _) 4 _) 5 _) 6 _) 7 _]
  simp
theorem chg8 {S : Nat → Prop} {a w : World} {G : Nat} (b0 b1 b2 b3 b4 b5 b6 b7 : Value) (hG : S G ∨ a.heap.size ≤ G) (h : Chg S a w) :
    Chg S a ((((((((w.setCell ⟨G, 0, none⟩ b0).setCell ⟨G, 1, none⟩ b1).setCell ⟨G, 2, none⟩ b2).setCell ⟨G, 3, none⟩ b3).setCell ⟨G, 4, none⟩ b4).setCell ⟨G, 5, none⟩ b5).setCell ⟨G, 6, none⟩ b6).setCell ⟨G, 7, none⟩ b7) :=
  Chg.set' hG (Chg.set' hG (Chg.set' hG (Chg.set' hG (Chg.set' hG (Chg.set' hG (Chg.set' hG (Chg.set' hG h)))))))
theorem rd8 {w : World} {G k : Nat} {o : Option Obj} (b0 b1 b2 b3 b4 b5 b6 b7 : Value) (hk : k ≠ G) (h : w.heap[k]? = o) :
    ((((((((w.setCell ⟨G, 0, none⟩ b0).setCell ⟨G, 1, none⟩ b1).setCell ⟨G, 2, none⟩ b2).setCell ⟨G, 3, none⟩ b3).setCell ⟨G, 4, none⟩ b4).setCell ⟨G, 5, none⟩ b5).setCell ⟨G, 6, none⟩ b6).setCell ⟨G, 7, none⟩ b7).heap[k]? = o :=
  rd_set hk (rd_set hk (rd_set hk (rd_set hk (rd_set hk (rd_set hk (rd_set hk (rd_set hk h)))))))
theorem Inv.belo {w a b : World} {M C G : Nat} {u0 u1 u2 u3 m0 m1 m2 m3 : Int} (h : Inv w a M C G u0 u1 u2 u3 m0 m1 m2 m3) (hb : Below a.heap.size a b) : Inv w b M C G u0 u1 u2 u3 m0 m1 m2 m3 :=
  ⟨h.met.bel hb, (hb.block G (heap_lt h.box)).trans h.box, h.bel.trans (hb.mono h.bel.size)⟩
theorem inv_step {w wr w2 w3 : World} {M C G : Nat} {u0 u1 u2 u3 v0 v1 v2 v3 m0 m1 m2 m3 : Int} (h : Inv w wr M C G u0 u1 u2 u3 m0 m1 m2 m3) (hm : MeterAt w2 M C v0 v1 v2 v3 m0 m1 m2 m3)
    (hc : Chg (fun k => k = C) wr w2) (hb : Below w2.heap.size w2 w3) (hMG : M ≠ G) (hCG : C ≠ G) (hwC : w.heap.size ≤ C) (hwG : w.heap.size ≤ G) :
    Inv w ((((((((w3.setCell ⟨G, 0, none⟩ (.int .i64 m0)).setCell ⟨G, 1, none⟩ (.int .i64 m1)).setCell ⟨G, 2, none⟩ (.int .i64 m2)).setCell ⟨G, 3, none⟩ (.int .i64 m3)).setCell ⟨G, 4, none⟩ (.int .i64 v0)).setCell ⟨G, 5, none⟩ (.int .i64 v1)).setCell ⟨G, 6, none⟩ (.int .i64 v2)).setCell ⟨G, 7, none⟩ (.int .i64 v3)) M C G v0 v1 v2 v3 m0 m1 m2 m3 := by
  have hG := heap_lt h.box
  have hbx : w3.heap[G]? = _ := rd_bel hb (Nat.lt_of_lt_of_le hG hc.size) ((hc.block G hG (fun e => hCG e.symm)).trans h.box)
  have hm3 := hm.bel hb
  refine ⟨⟨rd8 _ _ _ _ _ _ _ _ hMG hm3.p, rd8 _ _ _ _ _ _ _ _ hCG hm3.c, hm3.ne⟩, set8 _ _ _ _ _ _ _ _ hbx, ?_⟩
  refine h.bel.trans ?_
  have h1 : Chg (fun k => k = C ∨ k = G) wr w3 := (hc.mono (fun k _ e => .inl e)).trans (Chg.of_below hb)
  exact (chg8 (S := fun k => k = C ∨ k = G) (a := wr) _ _ _ _ _ _ _ _ (.inl (.inr rfl)) h1).below h.bel.size (fun k hk e => by rcases e with e | e <;> omega)
theorem inv_used {w wr : World} {M C G : Nat} {u0 u1 u2 u3 m0 m1 m2 m3 : Int} (h : Inv w wr M C G u0 u1 u2 u3 m0 m1 m2 m3) : ∀ W', Below wr.heap.size wr W' → Calls Try.prog 18 #[.pointer (some ⟨M, 0, none⟩)] W' (usedPost W' u0 u1 u2 u3) := fun W' hb => used_any W' M C _ _ _ _ _ _ _ _ (h.met.bel hb)
theorem moreN_bd {u m : Int} {k : Nat} (h1 : 0 ≤ u) (h2 : u ≤ k) : 0 ≤ moreN u m ∧ moreN u m ≤ ((k + 1 : Nat) : Int) := by unfold moreN; split <;> omega

set_option maxRecDepth 1000000 in
set_option maxHeartbeats 8000000 in
theorem plays_any (b off n cap : Nat) (m0 m1 m2 m3 : Int) (w : World) (hb : b < w.heap.size)
    (hc : ∀ k, k < n → ∃ o : Int, w.cell? ⟨b, off + k, none⟩ = some (.int .i64 o)) :
    Calls Try.prog 3 #[.agg #[.int .i64 m0, .int .i64 m1, .int .i64 m2, .int .i64 m3], .slice (some ⟨b, off, none⟩) n cap] w fun e w' => e = .returned (.bool true) ∧ Below w.heap.size w w' := by
  have HC := Lib.hid hc
  have h5 : ∀ o, Calls Try.prog 5 #[.agg #[.int .i64 m0, .int .i64 m1, .int .i64 m2, .int .i64 m3]] (w.alloc o) (NewPost (w.alloc o) m0 m1 m2 m3) := fun o => new_any _ _ _ _ _
  have H5 := Lib.hid h5
  clear h5 hc
  go_enter Try.func3, Try.ntmps3
  go_wp2_with fail
  refine (H5.out _).mono ?_
  rintro e w1 ⟨M, C, rfl, hA, hM, hC, hb1⟩
  have hbx : w1.heap[w.heap.size]? = some (.cells #[.int .i64 m0, .int .i64 m1, .int .i64 m2, .int .i64 m3] 23 (0, 0)) := rd_bel hb1 (by simp) (heap_new _ _)
  have b0 : w1.cell? ⟨w.heap.size, 0, none⟩ = some (.int .i64 m0) := cell_of hbx 0
  have b1 : w1.cell? ⟨w.heap.size, 1, none⟩ = some (.int .i64 m1) := cell_of hbx 1
  have b2 : w1.cell? ⟨w.heap.size, 2, none⟩ = some (.int .i64 m2) := cell_of hbx 2
  have b3 : w1.cell? ⟨w.heap.size, 3, none⟩ = some (.int .i64 m3) := cell_of hbx 3
  have hM1 := heap_lt hA.p
  have hC1 := heap_lt hA.c
  have HI : Hid (Inv w (w1.alloc (.cells #[.int .i64 m0, .int .i64 m1, .int .i64 m2, .int .i64 m3, .int .i64 0, .int .i64 0, .int .i64 0, .int .i64 0] 28)) M C w1.heap.size 0 0 0 0 m0 m1 m2 m3) :=
    ⟨hA.bel ((Below.refl _ _).alloc (Nat.le_refl _) _), heap_new _ _, below_of_chg0 (Chg.alloc' (Chg.bel' hb1 (Chg.alloc' (Chg.refl _ _))))⟩
  simp only [World.size_alloc] at hM hC
  have hbw : b < w1.heap.size := by have := hb1.size; simp at this; omega
  clear hA hbx hb1
  go_wp2
  clear b0 b1 b2 b3
  go_loopw [7] (fun i wr => ∃ (k : Nat) (u0 u1 u2 u3 : Int), k ≤ n ∧ k ≤ 100 ∧ i = .int .i64 k ∧ Hid (0 ≤ u0 ∧ u0 ≤ k ∧ 0 ≤ u1 ∧ u1 ≤ k ∧ 0 ≤ u2 ∧ u2 ≤ k ∧ 0 ≤ u3 ∧ u3 ≤ k) ∧ Hid (Inv w wr M C w1.heap.size u0 u1 u2 u3 m0 m1 m2 m3)) (fun i _ => 100 - (intOf i).toNat)
  case atStart => exact ⟨0, 0, 0, 0, 0, Nat.zero_le _, Nat.zero_le _, rfl, by show _ ∧ _; simp, HI.out⟩
  case round =>
    obtain ⟨k, u0, u1, u2, u3, hkn, hk100, rfl, HU, HI⟩ := hrel
    by_cases hlt : k < n ∧ k < 100
    · obtain ⟨hln, hl1⟩ := hlt
      obtain ⟨x, hx⟩ := HC.out k hln
      rw [← HI.out.bel.cell (p := ⟨b, off + k, none⟩) hb] at hx
      by_cases hcase0 : x.tmod 6 = 0
      · have hq0 : (x.tmod 6 == 0) = true := by simp; omega
        have hgz := heap_lt HI.out.box
        obtain ⟨hu0, hu0', hu1, hu1', hu2, hu2', hu3, hu3'⟩ := HU.out
        have hGM : M ≠ w1.heap.size := by omega
        have hGC : C ≠ w1.heap.size := by omega
        have hwC : w.heap.size ≤ C := by omega
        have hwG : w.heap.size ≤ w1.heap.size := by omega
        have HM := Lib.hid (step_any wr M C u0 u1 u2 u3 m0 m1 m2 m3 HI.out.met hu0 (by omega))
        go_wp2_with fail
        refine HM.out.mono ?_
        rintro e w2 ⟨rfl, hA2, hc2⟩
        have hbx2 := (hc2.block _ hgz (fun e => hGC e.symm)).trans HI.out.box
        have g0 := cell_of hbx2 0
        have g1 := cell_of hbx2 1
        have g2 := cell_of hbx2 2
        have g3 := cell_of hbx2 3
        have g4 := cell_of hbx2 4
        have g5 := cell_of hbx2 5
        have g6 := cell_of hbx2 6
        have g7 := cell_of hbx2 7
        simp only [List.getElem?_toArray, List.getElem?_cons_zero, List.getElem?_cons_succ] at g0 g1 g2 g3 g4 g5 g6 g7
        have HA2 := Lib.hid hA2
        have HC2 := Lib.hid hc2
        have HX2 := Lib.hid hbx2
        clear hA2 hc2 hbx2
        have HR := Lib.hid (rstep_any w2 u0 u1 u2 u3 m0 m1 m2 m3 hu0 (by omega))
        go_wp2_with fail
        refine HR.out.mono ?_
        rintro e w3 ⟨rfl, hb3⟩
        have hinv := inv_step HI.out HA2.out HC2.out hb3 hGM hGC hwC hwG
        have hbx3 := rd_bel hb3 (heap_lt HX2.out) HX2.out
        have HB3 := Lib.hid hb3
        clear hb3 g0 g1 g2 g3 g4 g5 g6 g7
        have g0 := cell_of hbx3 0
        have f0 := frozen_of hbx3 0
        have g1 := cell_of hbx3 1
        have f1 := frozen_of hbx3 1
        have g2 := cell_of hbx3 2
        have f2 := frozen_of hbx3 2
        have g3 := cell_of hbx3 3
        have f3 := frozen_of hbx3 3
        have g4 := cell_of hbx3 4
        have f4 := frozen_of hbx3 4
        have g5 := cell_of hbx3 5
        have f5 := frozen_of hbx3 5
        have g6 := cell_of hbx3 6
        have f6 := frozen_of hbx3 6
        have g7 := cell_of hbx3 7
        have f7 := frozen_of hbx3 7
        simp only [List.getElem?_toArray, List.getElem?_cons_zero, List.getElem?_cons_succ] at g0 g1 g2 g3 g4 g5 g6 g7
        have HX3 := Lib.hid hbx3
        clear hbx3
        have q4 := cell_of hinv.box 4
        have q5 := cell_of hinv.box 5
        have q6 := cell_of hinv.box 6
        have q7 := cell_of hinv.box 7
        simp only [List.getElem?_toArray, List.getElem?_cons_zero, List.getElem?_cons_succ] at q4 q5 q6 q7
        have H18 := Lib.hid (inv_used hinv)
        have HINV := Lib.hid hinv
        clear hinv
        go_wp2_with fail
        clear g0 g1 g2 g3 g4 g5 g6 g7 f0 f1 f2 f3 f4 f5 f6 f7 hcase0 hq0
        generalize hX : ((((((((w3.setCell ⟨w1.heap.size, 0, none⟩ (.int .i64 m0)).setCell ⟨w1.heap.size, 1, none⟩ (.int .i64 m1)).setCell ⟨w1.heap.size, 2, none⟩ (.int .i64 m2)).setCell ⟨w1.heap.size, 3, none⟩ (.int .i64 m3)).setCell ⟨w1.heap.size, 4, none⟩ (.int .i64 (moreN u0 m0))).setCell ⟨w1.heap.size, 5, none⟩ (.int .i64 u1)).setCell ⟨w1.heap.size, 6, none⟩ (.int .i64 u2)).setCell ⟨w1.heap.size, 7, none⟩ (.int .i64 u3)) = X at q4 q5 q6 q7 H18 HINV ⊢
        clear hX HB3 HX3 HR HM HA2 HC2 HX2
        go_region_held3 (fun w' => w'.cell? ⟨w1.heap.size, 4, none⟩ = some (.int .i64 (moreN u0 m0)) ∧ w'.cell? ⟨w1.heap.size, 5, none⟩ = some (.int .i64 u1) ∧ w'.cell? ⟨w1.heap.size, 6, none⟩ = some (.int .i64 u2) ∧ w'.cell? ⟨w1.heap.size, 7, none⟩ = some (.int .i64 u3)) (first | exact ⟨q4, q5, q6, q7⟩ | exact ⟨s4, s5, s6, s7⟩ | go_keep)
          (first | (go_at_call 18; refine (H18.out _ (Below.drew (Below.refl _ _))).mono ?_; rintro e w4 ⟨rfl, hb4⟩; have s4 := (hb4.cell (p := ⟨w1.heap.size, 4, none⟩) (heap_lt HINV.out.box)).trans q4; have s5 := (hb4.cell (p := ⟨w1.heap.size, 5, none⟩) (heap_lt HINV.out.box)).trans q5; have s6 := (hb4.cell (p := ⟨w1.heap.size, 6, none⟩) (heap_lt HINV.out.box)).trans q6; have s7 := (hb4.cell (p := ⟨w1.heap.size, 7, none⟩) (heap_lt HINV.out.box)).trans q7; have HB4 := Lib.hid hb4; clear hb4))
        all_goals go_wp2
        all_goals go_roundw
        case rel => exact ⟨k + 1, (moreN u0 m0), u1, u2, u3, by omega, by omega, by go_num, ⟨(moreN_bd hu0 hu0').1, (moreN_bd hu0 hu0').2, hu1, by omega, hu2, by omega, hu3, by omega⟩, (HINV.out.belo (Below.drew (Below.refl _ _))).belo HB4.out⟩
        case measure => simp [intOf] <;> omega
      by_cases hcase1 : x.tmod 6 = 1
      · have hq0 : (x.tmod 6 == 0) = false := by simp; omega
        have hq1 : (x.tmod 6 == 1) = true := by simp; omega
        have hgz := heap_lt HI.out.box
        obtain ⟨hu0, hu0', hu1, hu1', hu2, hu2', hu3, hu3'⟩ := HU.out
        have hGM : M ≠ w1.heap.size := by omega
        have hGC : C ≠ w1.heap.size := by omega
        have hwC : w.heap.size ≤ C := by omega
        have hwG : w.heap.size ≤ w1.heap.size := by omega
        have HM := Lib.hid (enter_any wr M C u0 u1 u2 u3 m0 m1 m2 m3 HI.out.met hu1 (by omega))
        go_wp2_with fail
        refine HM.out.mono ?_
        rintro e w2 ⟨rfl, hA2, hc2⟩
        have hbx2 := (hc2.block _ hgz (fun e => hGC e.symm)).trans HI.out.box
        have g0 := cell_of hbx2 0
        have g1 := cell_of hbx2 1
        have g2 := cell_of hbx2 2
        have g3 := cell_of hbx2 3
        have g4 := cell_of hbx2 4
        have g5 := cell_of hbx2 5
        have g6 := cell_of hbx2 6
        have g7 := cell_of hbx2 7
        simp only [List.getElem?_toArray, List.getElem?_cons_zero, List.getElem?_cons_succ] at g0 g1 g2 g3 g4 g5 g6 g7
        have HA2 := Lib.hid hA2
        have HC2 := Lib.hid hc2
        have HX2 := Lib.hid hbx2
        clear hA2 hc2 hbx2
        have HR := Lib.hid (renter_any w2 u0 u1 u2 u3 m0 m1 m2 m3 hu1 (by omega))
        go_wp2_with fail
        refine HR.out.mono ?_
        rintro e w3 ⟨rfl, hb3⟩
        have hinv := inv_step HI.out HA2.out HC2.out hb3 hGM hGC hwC hwG
        have hbx3 := rd_bel hb3 (heap_lt HX2.out) HX2.out
        have HB3 := Lib.hid hb3
        clear hb3 g0 g1 g2 g3 g4 g5 g6 g7
        have g0 := cell_of hbx3 0
        have f0 := frozen_of hbx3 0
        have g1 := cell_of hbx3 1
        have f1 := frozen_of hbx3 1
        have g2 := cell_of hbx3 2
        have f2 := frozen_of hbx3 2
        have g3 := cell_of hbx3 3
        have f3 := frozen_of hbx3 3
        have g4 := cell_of hbx3 4
        have f4 := frozen_of hbx3 4
        have g5 := cell_of hbx3 5
        have f5 := frozen_of hbx3 5
        have g6 := cell_of hbx3 6
        have f6 := frozen_of hbx3 6
        have g7 := cell_of hbx3 7
        have f7 := frozen_of hbx3 7
        simp only [List.getElem?_toArray, List.getElem?_cons_zero, List.getElem?_cons_succ] at g0 g1 g2 g3 g4 g5 g6 g7
        have HX3 := Lib.hid hbx3
        clear hbx3
        have q4 := cell_of hinv.box 4
        have q5 := cell_of hinv.box 5
        have q6 := cell_of hinv.box 6
        have q7 := cell_of hinv.box 7
        simp only [List.getElem?_toArray, List.getElem?_cons_zero, List.getElem?_cons_succ] at q4 q5 q6 q7
        have H18 := Lib.hid (inv_used hinv)
        have HINV := Lib.hid hinv
        clear hinv
        go_wp2_with fail
        clear g0 g1 g2 g3 g4 g5 g6 g7 f0 f1 f2 f3 f4 f5 f6 f7 hcase1 hq0 hq1
        generalize hX : ((((((((w3.setCell ⟨w1.heap.size, 0, none⟩ (.int .i64 m0)).setCell ⟨w1.heap.size, 1, none⟩ (.int .i64 m1)).setCell ⟨w1.heap.size, 2, none⟩ (.int .i64 m2)).setCell ⟨w1.heap.size, 3, none⟩ (.int .i64 m3)).setCell ⟨w1.heap.size, 4, none⟩ (.int .i64 u0)).setCell ⟨w1.heap.size, 5, none⟩ (.int .i64 (moreN u1 m1))).setCell ⟨w1.heap.size, 6, none⟩ (.int .i64 u2)).setCell ⟨w1.heap.size, 7, none⟩ (.int .i64 u3)) = X at q4 q5 q6 q7 H18 HINV ⊢
        clear hX HB3 HX3 HR HM HA2 HC2 HX2
        go_region_held3 (fun w' => w'.cell? ⟨w1.heap.size, 4, none⟩ = some (.int .i64 u0) ∧ w'.cell? ⟨w1.heap.size, 5, none⟩ = some (.int .i64 (moreN u1 m1)) ∧ w'.cell? ⟨w1.heap.size, 6, none⟩ = some (.int .i64 u2) ∧ w'.cell? ⟨w1.heap.size, 7, none⟩ = some (.int .i64 u3)) (first | exact ⟨q4, q5, q6, q7⟩ | exact ⟨s4, s5, s6, s7⟩ | go_keep)
          (first | (go_at_call 18; refine (H18.out _ (Below.drew (Below.refl _ _))).mono ?_; rintro e w4 ⟨rfl, hb4⟩; have s4 := (hb4.cell (p := ⟨w1.heap.size, 4, none⟩) (heap_lt HINV.out.box)).trans q4; have s5 := (hb4.cell (p := ⟨w1.heap.size, 5, none⟩) (heap_lt HINV.out.box)).trans q5; have s6 := (hb4.cell (p := ⟨w1.heap.size, 6, none⟩) (heap_lt HINV.out.box)).trans q6; have s7 := (hb4.cell (p := ⟨w1.heap.size, 7, none⟩) (heap_lt HINV.out.box)).trans q7; have HB4 := Lib.hid hb4; clear hb4))
        all_goals go_wp2
        all_goals go_roundw
        case rel => exact ⟨k + 1, u0, (moreN u1 m1), u2, u3, by omega, by omega, by go_num, ⟨hu0, by omega, (moreN_bd hu1 hu1').1, (moreN_bd hu1 hu1').2, hu2, by omega, hu3, by omega⟩, (HINV.out.belo (Below.drew (Below.refl _ _))).belo HB4.out⟩
        case measure => simp [intOf] <;> omega
      by_cases hcase2 : x.tmod 6 = 2
      · have hq0 : (x.tmod 6 == 0) = false := by simp; omega
        have hq1 : (x.tmod 6 == 1) = false := by simp; omega
        have hq2 : (x.tmod 6 == 2) = true := by simp; omega
        have hgz := heap_lt HI.out.box
        obtain ⟨hu0, hu0', hu1, hu1', hu2, hu2', hu3, hu3'⟩ := HU.out
        have hGM : M ≠ w1.heap.size := by omega
        have hGC : C ≠ w1.heap.size := by omega
        have hwC : w.heap.size ≤ C := by omega
        have hwG : w.heap.size ≤ w1.heap.size := by omega
        have HM := Lib.hid (leave_any wr M C u0 u1 u2 u3 m0 m1 m2 m3 HI.out.met hu1 (by omega))
        go_wp2_with fail
        refine HM.out.mono ?_
        rintro e w2 ⟨rfl, hA2, hc2⟩
        have hbx2 := (hc2.block _ hgz (fun e => hGC e.symm)).trans HI.out.box
        have g0 := cell_of hbx2 0
        have g1 := cell_of hbx2 1
        have g2 := cell_of hbx2 2
        have g3 := cell_of hbx2 3
        have g4 := cell_of hbx2 4
        have g5 := cell_of hbx2 5
        have g6 := cell_of hbx2 6
        have g7 := cell_of hbx2 7
        simp only [List.getElem?_toArray, List.getElem?_cons_zero, List.getElem?_cons_succ] at g0 g1 g2 g3 g4 g5 g6 g7
        have HA2 := Lib.hid hA2
        have HC2 := Lib.hid hc2
        have HX2 := Lib.hid hbx2
        clear hA2 hc2 hbx2
        have HR := Lib.hid (rleave_any w2 u0 u1 u2 u3 m0 m1 m2 m3 hu1 (by omega))
        go_wp2_with fail
        refine HR.out.mono ?_
        rintro e w3 ⟨rfl, hb3⟩
        have hinv := inv_step HI.out HA2.out HC2.out hb3 hGM hGC hwC hwG
        have hbx3 := rd_bel hb3 (heap_lt HX2.out) HX2.out
        have HB3 := Lib.hid hb3
        clear hb3 g0 g1 g2 g3 g4 g5 g6 g7
        have g0 := cell_of hbx3 0
        have f0 := frozen_of hbx3 0
        have g1 := cell_of hbx3 1
        have f1 := frozen_of hbx3 1
        have g2 := cell_of hbx3 2
        have f2 := frozen_of hbx3 2
        have g3 := cell_of hbx3 3
        have f3 := frozen_of hbx3 3
        have g4 := cell_of hbx3 4
        have f4 := frozen_of hbx3 4
        have g5 := cell_of hbx3 5
        have f5 := frozen_of hbx3 5
        have g6 := cell_of hbx3 6
        have f6 := frozen_of hbx3 6
        have g7 := cell_of hbx3 7
        have f7 := frozen_of hbx3 7
        simp only [List.getElem?_toArray, List.getElem?_cons_zero, List.getElem?_cons_succ] at g0 g1 g2 g3 g4 g5 g6 g7
        have HX3 := Lib.hid hbx3
        clear hbx3
        have q4 := cell_of hinv.box 4
        have q5 := cell_of hinv.box 5
        have q6 := cell_of hinv.box 6
        have q7 := cell_of hinv.box 7
        simp only [List.getElem?_toArray, List.getElem?_cons_zero, List.getElem?_cons_succ] at q4 q5 q6 q7
        have H18 := Lib.hid (inv_used hinv)
        have HINV := Lib.hid hinv
        clear hinv
        go_wp2_with fail
        clear g0 g1 g2 g3 g4 g5 g6 g7 f0 f1 f2 f3 f4 f5 f6 f7 hcase2 hq0 hq1 hq2
        generalize hX : ((((((((w3.setCell ⟨w1.heap.size, 0, none⟩ (.int .i64 m0)).setCell ⟨w1.heap.size, 1, none⟩ (.int .i64 m1)).setCell ⟨w1.heap.size, 2, none⟩ (.int .i64 m2)).setCell ⟨w1.heap.size, 3, none⟩ (.int .i64 m3)).setCell ⟨w1.heap.size, 4, none⟩ (.int .i64 u0)).setCell ⟨w1.heap.size, 5, none⟩ (.int .i64 (max (u1 - 1) 0))).setCell ⟨w1.heap.size, 6, none⟩ (.int .i64 u2)).setCell ⟨w1.heap.size, 7, none⟩ (.int .i64 u3)) = X at q4 q5 q6 q7 H18 HINV ⊢
        clear hX HB3 HX3 HR HM HA2 HC2 HX2
        go_region_held3 (fun w' => w'.cell? ⟨w1.heap.size, 4, none⟩ = some (.int .i64 u0) ∧ w'.cell? ⟨w1.heap.size, 5, none⟩ = some (.int .i64 (max (u1 - 1) 0)) ∧ w'.cell? ⟨w1.heap.size, 6, none⟩ = some (.int .i64 u2) ∧ w'.cell? ⟨w1.heap.size, 7, none⟩ = some (.int .i64 u3)) (first | exact ⟨q4, q5, q6, q7⟩ | exact ⟨s4, s5, s6, s7⟩ | go_keep)
          (first | (go_at_call 18; refine (H18.out _ (Below.drew (Below.refl _ _))).mono ?_; rintro e w4 ⟨rfl, hb4⟩; have s4 := (hb4.cell (p := ⟨w1.heap.size, 4, none⟩) (heap_lt HINV.out.box)).trans q4; have s5 := (hb4.cell (p := ⟨w1.heap.size, 5, none⟩) (heap_lt HINV.out.box)).trans q5; have s6 := (hb4.cell (p := ⟨w1.heap.size, 6, none⟩) (heap_lt HINV.out.box)).trans q6; have s7 := (hb4.cell (p := ⟨w1.heap.size, 7, none⟩) (heap_lt HINV.out.box)).trans q7; have HB4 := Lib.hid hb4; clear hb4))
        all_goals go_wp2
        all_goals go_roundw
        case rel => exact ⟨k + 1, u0, (max (u1 - 1) 0), u2, u3, by omega, by omega, by go_num, ⟨hu0, by omega, by omega, by omega, hu2, by omega, hu3, by omega⟩, (HINV.out.belo (Below.drew (Below.refl _ _))).belo HB4.out⟩
        case measure => simp [intOf] <;> omega
      by_cases hcase3 : x.tmod 6 = 3
      · have hq0 : (x.tmod 6 == 0) = false := by simp; omega
        have hq1 : (x.tmod 6 == 1) = false := by simp; omega
        have hq2 : (x.tmod 6 == 2) = false := by simp; omega
        have hq3 : (x.tmod 6 == 3) = true := by simp; omega
        have hgz := heap_lt HI.out.box
        obtain ⟨hu0, hu0', hu1, hu1', hu2, hu2', hu3, hu3'⟩ := HU.out
        have hGM : M ≠ w1.heap.size := by omega
        have hGC : C ≠ w1.heap.size := by omega
        have hwC : w.heap.size ≤ C := by omega
        have hwG : w.heap.size ≤ w1.heap.size := by omega
        have HM := Lib.hid (hold_any wr M C u0 u1 u2 u3 m0 m1 m2 m3 HI.out.met hu2 (by omega))
        go_wp2_with fail
        refine HM.out.mono ?_
        rintro e w2 ⟨rfl, hA2, hc2⟩
        have hbx2 := (hc2.block _ hgz (fun e => hGC e.symm)).trans HI.out.box
        have g0 := cell_of hbx2 0
        have g1 := cell_of hbx2 1
        have g2 := cell_of hbx2 2
        have g3 := cell_of hbx2 3
        have g4 := cell_of hbx2 4
        have g5 := cell_of hbx2 5
        have g6 := cell_of hbx2 6
        have g7 := cell_of hbx2 7
        simp only [List.getElem?_toArray, List.getElem?_cons_zero, List.getElem?_cons_succ] at g0 g1 g2 g3 g4 g5 g6 g7
        have HA2 := Lib.hid hA2
        have HC2 := Lib.hid hc2
        have HX2 := Lib.hid hbx2
        clear hA2 hc2 hbx2
        have HR := Lib.hid (rhold_any w2 u0 u1 u2 u3 m0 m1 m2 m3 hu2 (by omega))
        go_wp2_with fail
        refine HR.out.mono ?_
        rintro e w3 ⟨rfl, hb3⟩
        have hinv := inv_step HI.out HA2.out HC2.out hb3 hGM hGC hwC hwG
        have hbx3 := rd_bel hb3 (heap_lt HX2.out) HX2.out
        have HB3 := Lib.hid hb3
        clear hb3 g0 g1 g2 g3 g4 g5 g6 g7
        have g0 := cell_of hbx3 0
        have f0 := frozen_of hbx3 0
        have g1 := cell_of hbx3 1
        have f1 := frozen_of hbx3 1
        have g2 := cell_of hbx3 2
        have f2 := frozen_of hbx3 2
        have g3 := cell_of hbx3 3
        have f3 := frozen_of hbx3 3
        have g4 := cell_of hbx3 4
        have f4 := frozen_of hbx3 4
        have g5 := cell_of hbx3 5
        have f5 := frozen_of hbx3 5
        have g6 := cell_of hbx3 6
        have f6 := frozen_of hbx3 6
        have g7 := cell_of hbx3 7
        have f7 := frozen_of hbx3 7
        simp only [List.getElem?_toArray, List.getElem?_cons_zero, List.getElem?_cons_succ] at g0 g1 g2 g3 g4 g5 g6 g7
        have HX3 := Lib.hid hbx3
        clear hbx3
        have q4 := cell_of hinv.box 4
        have q5 := cell_of hinv.box 5
        have q6 := cell_of hinv.box 6
        have q7 := cell_of hinv.box 7
        simp only [List.getElem?_toArray, List.getElem?_cons_zero, List.getElem?_cons_succ] at q4 q5 q6 q7
        have H18 := Lib.hid (inv_used hinv)
        have HINV := Lib.hid hinv
        clear hinv
        go_wp2_with fail
        clear g0 g1 g2 g3 g4 g5 g6 g7 f0 f1 f2 f3 f4 f5 f6 f7 hcase3 hq0 hq1 hq2 hq3
        generalize hX : ((((((((w3.setCell ⟨w1.heap.size, 0, none⟩ (.int .i64 m0)).setCell ⟨w1.heap.size, 1, none⟩ (.int .i64 m1)).setCell ⟨w1.heap.size, 2, none⟩ (.int .i64 m2)).setCell ⟨w1.heap.size, 3, none⟩ (.int .i64 m3)).setCell ⟨w1.heap.size, 4, none⟩ (.int .i64 u0)).setCell ⟨w1.heap.size, 5, none⟩ (.int .i64 u1)).setCell ⟨w1.heap.size, 6, none⟩ (.int .i64 (moreN u2 m2))).setCell ⟨w1.heap.size, 7, none⟩ (.int .i64 u3)) = X at q4 q5 q6 q7 H18 HINV ⊢
        clear hX HB3 HX3 HR HM HA2 HC2 HX2
        go_region_held3 (fun w' => w'.cell? ⟨w1.heap.size, 4, none⟩ = some (.int .i64 u0) ∧ w'.cell? ⟨w1.heap.size, 5, none⟩ = some (.int .i64 u1) ∧ w'.cell? ⟨w1.heap.size, 6, none⟩ = some (.int .i64 (moreN u2 m2)) ∧ w'.cell? ⟨w1.heap.size, 7, none⟩ = some (.int .i64 u3)) (first | exact ⟨q4, q5, q6, q7⟩ | exact ⟨s4, s5, s6, s7⟩ | go_keep)
          (first | (go_at_call 18; refine (H18.out _ (Below.drew (Below.refl _ _))).mono ?_; rintro e w4 ⟨rfl, hb4⟩; have s4 := (hb4.cell (p := ⟨w1.heap.size, 4, none⟩) (heap_lt HINV.out.box)).trans q4; have s5 := (hb4.cell (p := ⟨w1.heap.size, 5, none⟩) (heap_lt HINV.out.box)).trans q5; have s6 := (hb4.cell (p := ⟨w1.heap.size, 6, none⟩) (heap_lt HINV.out.box)).trans q6; have s7 := (hb4.cell (p := ⟨w1.heap.size, 7, none⟩) (heap_lt HINV.out.box)).trans q7; have HB4 := Lib.hid hb4; clear hb4))
        all_goals go_wp2
        all_goals go_roundw
        case rel => exact ⟨k + 1, u0, u1, (moreN u2 m2), u3, by omega, by omega, by go_num, ⟨hu0, by omega, hu1, by omega, (moreN_bd hu2 hu2').1, (moreN_bd hu2 hu2').2, hu3, by omega⟩, (HINV.out.belo (Below.drew (Below.refl _ _))).belo HB4.out⟩
        case measure => simp [intOf] <;> omega
      by_cases hcase4 : x.tmod 6 = 4
      · have hq0 : (x.tmod 6 == 0) = false := by simp; omega
        have hq1 : (x.tmod 6 == 1) = false := by simp; omega
        have hq2 : (x.tmod 6 == 2) = false := by simp; omega
        have hq3 : (x.tmod 6 == 3) = false := by simp; omega
        have hq4 : (x.tmod 6 == 4) = true := by simp; omega
        have hgz := heap_lt HI.out.box
        obtain ⟨hu0, hu0', hu1, hu1', hu2, hu2', hu3, hu3'⟩ := HU.out
        have hGM : M ≠ w1.heap.size := by omega
        have hGC : C ≠ w1.heap.size := by omega
        have hwC : w.heap.size ≤ C := by omega
        have hwG : w.heap.size ≤ w1.heap.size := by omega
        have HM := Lib.hid (free_any wr M C u0 u1 u2 u3 m0 m1 m2 m3 HI.out.met hu2 (by omega))
        go_wp2_with fail
        refine HM.out.mono ?_
        rintro e w2 ⟨rfl, hA2, hc2⟩
        have hbx2 := (hc2.block _ hgz (fun e => hGC e.symm)).trans HI.out.box
        have g0 := cell_of hbx2 0
        have g1 := cell_of hbx2 1
        have g2 := cell_of hbx2 2
        have g3 := cell_of hbx2 3
        have g4 := cell_of hbx2 4
        have g5 := cell_of hbx2 5
        have g6 := cell_of hbx2 6
        have g7 := cell_of hbx2 7
        simp only [List.getElem?_toArray, List.getElem?_cons_zero, List.getElem?_cons_succ] at g0 g1 g2 g3 g4 g5 g6 g7
        have HA2 := Lib.hid hA2
        have HC2 := Lib.hid hc2
        have HX2 := Lib.hid hbx2
        clear hA2 hc2 hbx2
        have HR := Lib.hid (rfree_any w2 u0 u1 u2 u3 m0 m1 m2 m3 hu2 (by omega))
        go_wp2_with fail
        refine HR.out.mono ?_
        rintro e w3 ⟨rfl, hb3⟩
        have hinv := inv_step HI.out HA2.out HC2.out hb3 hGM hGC hwC hwG
        have hbx3 := rd_bel hb3 (heap_lt HX2.out) HX2.out
        have HB3 := Lib.hid hb3
        clear hb3 g0 g1 g2 g3 g4 g5 g6 g7
        have g0 := cell_of hbx3 0
        have f0 := frozen_of hbx3 0
        have g1 := cell_of hbx3 1
        have f1 := frozen_of hbx3 1
        have g2 := cell_of hbx3 2
        have f2 := frozen_of hbx3 2
        have g3 := cell_of hbx3 3
        have f3 := frozen_of hbx3 3
        have g4 := cell_of hbx3 4
        have f4 := frozen_of hbx3 4
        have g5 := cell_of hbx3 5
        have f5 := frozen_of hbx3 5
        have g6 := cell_of hbx3 6
        have f6 := frozen_of hbx3 6
        have g7 := cell_of hbx3 7
        have f7 := frozen_of hbx3 7
        simp only [List.getElem?_toArray, List.getElem?_cons_zero, List.getElem?_cons_succ] at g0 g1 g2 g3 g4 g5 g6 g7
        have HX3 := Lib.hid hbx3
        clear hbx3
        have q4 := cell_of hinv.box 4
        have q5 := cell_of hinv.box 5
        have q6 := cell_of hinv.box 6
        have q7 := cell_of hinv.box 7
        simp only [List.getElem?_toArray, List.getElem?_cons_zero, List.getElem?_cons_succ] at q4 q5 q6 q7
        have H18 := Lib.hid (inv_used hinv)
        have HINV := Lib.hid hinv
        clear hinv
        go_wp2_with fail
        clear g0 g1 g2 g3 g4 g5 g6 g7 f0 f1 f2 f3 f4 f5 f6 f7 hcase4 hq0 hq1 hq2 hq3 hq4
        generalize hX : ((((((((w3.setCell ⟨w1.heap.size, 0, none⟩ (.int .i64 m0)).setCell ⟨w1.heap.size, 1, none⟩ (.int .i64 m1)).setCell ⟨w1.heap.size, 2, none⟩ (.int .i64 m2)).setCell ⟨w1.heap.size, 3, none⟩ (.int .i64 m3)).setCell ⟨w1.heap.size, 4, none⟩ (.int .i64 u0)).setCell ⟨w1.heap.size, 5, none⟩ (.int .i64 u1)).setCell ⟨w1.heap.size, 6, none⟩ (.int .i64 (max (u2 - 1) 0))).setCell ⟨w1.heap.size, 7, none⟩ (.int .i64 u3)) = X at q4 q5 q6 q7 H18 HINV ⊢
        clear hX HB3 HX3 HR HM HA2 HC2 HX2
        go_region_held3 (fun w' => w'.cell? ⟨w1.heap.size, 4, none⟩ = some (.int .i64 u0) ∧ w'.cell? ⟨w1.heap.size, 5, none⟩ = some (.int .i64 u1) ∧ w'.cell? ⟨w1.heap.size, 6, none⟩ = some (.int .i64 (max (u2 - 1) 0)) ∧ w'.cell? ⟨w1.heap.size, 7, none⟩ = some (.int .i64 u3)) (first | exact ⟨q4, q5, q6, q7⟩ | exact ⟨s4, s5, s6, s7⟩ | go_keep)
          (first | (go_at_call 18; refine (H18.out _ (Below.drew (Below.refl _ _))).mono ?_; rintro e w4 ⟨rfl, hb4⟩; have s4 := (hb4.cell (p := ⟨w1.heap.size, 4, none⟩) (heap_lt HINV.out.box)).trans q4; have s5 := (hb4.cell (p := ⟨w1.heap.size, 5, none⟩) (heap_lt HINV.out.box)).trans q5; have s6 := (hb4.cell (p := ⟨w1.heap.size, 6, none⟩) (heap_lt HINV.out.box)).trans q6; have s7 := (hb4.cell (p := ⟨w1.heap.size, 7, none⟩) (heap_lt HINV.out.box)).trans q7; have HB4 := Lib.hid hb4; clear hb4))
        all_goals go_wp2
        all_goals go_roundw
        case rel => exact ⟨k + 1, u0, u1, (max (u2 - 1) 0), u3, by omega, by omega, by go_num, ⟨hu0, by omega, hu1, by omega, by omega, by omega, hu3, by omega⟩, (HINV.out.belo (Below.drew (Below.refl _ _))).belo HB4.out⟩
        case measure => simp [intOf] <;> omega
      by_cases hcase5 : x.tmod 6 = 5
      · have hq0 : (x.tmod 6 == 0) = false := by simp; omega
        have hq1 : (x.tmod 6 == 1) = false := by simp; omega
        have hq2 : (x.tmod 6 == 2) = false := by simp; omega
        have hq3 : (x.tmod 6 == 3) = false := by simp; omega
        have hq4 : (x.tmod 6 == 4) = false := by simp; omega
        have hq5 : (x.tmod 6 == 5) = true := by simp; omega
        have hgz := heap_lt HI.out.box
        obtain ⟨hu0, hu0', hu1, hu1', hu2, hu2', hu3, hu3'⟩ := HU.out
        have hGM : M ≠ w1.heap.size := by omega
        have hGC : C ≠ w1.heap.size := by omega
        have hwC : w.heap.size ≤ C := by omega
        have hwG : w.heap.size ≤ w1.heap.size := by omega
        have HM := Lib.hid (tell_any wr M C u0 u1 u2 u3 m0 m1 m2 m3 HI.out.met hu3 (by omega))
        go_wp2_with fail
        refine HM.out.mono ?_
        rintro e w2 ⟨rfl, hA2, hc2⟩
        have hbx2 := (hc2.block _ hgz (fun e => hGC e.symm)).trans HI.out.box
        have g0 := cell_of hbx2 0
        have g1 := cell_of hbx2 1
        have g2 := cell_of hbx2 2
        have g3 := cell_of hbx2 3
        have g4 := cell_of hbx2 4
        have g5 := cell_of hbx2 5
        have g6 := cell_of hbx2 6
        have g7 := cell_of hbx2 7
        simp only [List.getElem?_toArray, List.getElem?_cons_zero, List.getElem?_cons_succ] at g0 g1 g2 g3 g4 g5 g6 g7
        have HA2 := Lib.hid hA2
        have HC2 := Lib.hid hc2
        have HX2 := Lib.hid hbx2
        clear hA2 hc2 hbx2
        have HR := Lib.hid (rtell_any w2 u0 u1 u2 u3 m0 m1 m2 m3 hu3 (by omega))
        go_wp2_with fail
        refine HR.out.mono ?_
        rintro e w3 ⟨rfl, hb3⟩
        have hinv := inv_step HI.out HA2.out HC2.out hb3 hGM hGC hwC hwG
        have hbx3 := rd_bel hb3 (heap_lt HX2.out) HX2.out
        have HB3 := Lib.hid hb3
        clear hb3 g0 g1 g2 g3 g4 g5 g6 g7
        have g0 := cell_of hbx3 0
        have f0 := frozen_of hbx3 0
        have g1 := cell_of hbx3 1
        have f1 := frozen_of hbx3 1
        have g2 := cell_of hbx3 2
        have f2 := frozen_of hbx3 2
        have g3 := cell_of hbx3 3
        have f3 := frozen_of hbx3 3
        have g4 := cell_of hbx3 4
        have f4 := frozen_of hbx3 4
        have g5 := cell_of hbx3 5
        have f5 := frozen_of hbx3 5
        have g6 := cell_of hbx3 6
        have f6 := frozen_of hbx3 6
        have g7 := cell_of hbx3 7
        have f7 := frozen_of hbx3 7
        simp only [List.getElem?_toArray, List.getElem?_cons_zero, List.getElem?_cons_succ] at g0 g1 g2 g3 g4 g5 g6 g7
        have HX3 := Lib.hid hbx3
        clear hbx3
        have q4 := cell_of hinv.box 4
        have q5 := cell_of hinv.box 5
        have q6 := cell_of hinv.box 6
        have q7 := cell_of hinv.box 7
        simp only [List.getElem?_toArray, List.getElem?_cons_zero, List.getElem?_cons_succ] at q4 q5 q6 q7
        have H18 := Lib.hid (inv_used hinv)
        have HINV := Lib.hid hinv
        clear hinv
        go_wp2_with fail
        clear g0 g1 g2 g3 g4 g5 g6 g7 f0 f1 f2 f3 f4 f5 f6 f7 hcase5 hq0 hq1 hq2 hq3 hq4 hq5
        generalize hX : ((((((((w3.setCell ⟨w1.heap.size, 0, none⟩ (.int .i64 m0)).setCell ⟨w1.heap.size, 1, none⟩ (.int .i64 m1)).setCell ⟨w1.heap.size, 2, none⟩ (.int .i64 m2)).setCell ⟨w1.heap.size, 3, none⟩ (.int .i64 m3)).setCell ⟨w1.heap.size, 4, none⟩ (.int .i64 u0)).setCell ⟨w1.heap.size, 5, none⟩ (.int .i64 u1)).setCell ⟨w1.heap.size, 6, none⟩ (.int .i64 u2)).setCell ⟨w1.heap.size, 7, none⟩ (.int .i64 (moreN u3 m3))) = X at q4 q5 q6 q7 H18 HINV ⊢
        clear hX HB3 HX3 HR HM HA2 HC2 HX2
        go_region_held3 (fun w' => w'.cell? ⟨w1.heap.size, 4, none⟩ = some (.int .i64 u0) ∧ w'.cell? ⟨w1.heap.size, 5, none⟩ = some (.int .i64 u1) ∧ w'.cell? ⟨w1.heap.size, 6, none⟩ = some (.int .i64 u2) ∧ w'.cell? ⟨w1.heap.size, 7, none⟩ = some (.int .i64 (moreN u3 m3))) (first | exact ⟨q4, q5, q6, q7⟩ | exact ⟨s4, s5, s6, s7⟩ | go_keep)
          (first | (go_at_call 18; refine (H18.out _ (Below.drew (Below.refl _ _))).mono ?_; rintro e w4 ⟨rfl, hb4⟩; have s4 := (hb4.cell (p := ⟨w1.heap.size, 4, none⟩) (heap_lt HINV.out.box)).trans q4; have s5 := (hb4.cell (p := ⟨w1.heap.size, 5, none⟩) (heap_lt HINV.out.box)).trans q5; have s6 := (hb4.cell (p := ⟨w1.heap.size, 6, none⟩) (heap_lt HINV.out.box)).trans q6; have s7 := (hb4.cell (p := ⟨w1.heap.size, 7, none⟩) (heap_lt HINV.out.box)).trans q7; have HB4 := Lib.hid hb4; clear hb4))
        all_goals go_wp2
        all_goals go_roundw
        case rel => exact ⟨k + 1, u0, u1, u2, (moreN u3 m3), by omega, by omega, by go_num, ⟨hu0, by omega, hu1, by omega, hu2, by omega, (moreN_bd hu3 hu3').1, (moreN_bd hu3 hu3').2⟩, (HINV.out.belo (Below.drew (Below.refl _ _))).belo HB4.out⟩
        case measure => simp [intOf] <;> omega
      have hq0 : (x.tmod 6 == 0) = false := by simp; omega
      have hq1 : (x.tmod 6 == 1) = false := by simp; omega
      have hq2 : (x.tmod 6 == 2) = false := by simp; omega
      have hq3 : (x.tmod 6 == 3) = false := by simp; omega
      have hq4 : (x.tmod 6 == 4) = false := by simp; omega
      have hq5 : (x.tmod 6 == 5) = false := by simp; omega
      have hgz := heap_lt HI.out.box
      obtain ⟨hu0, hu0', hu1, hu1', hu2, hu2', hu3, hu3'⟩ := HU.out
      have hGM : M ≠ w1.heap.size := by omega
      have hGC : C ≠ w1.heap.size := by omega
      have hwC : w.heap.size ≤ C := by omega
      have hwG : w.heap.size ≤ w1.heap.size := by omega
      have hinv := HI.out
      have q4 := cell_of hinv.box 4
      have q5 := cell_of hinv.box 5
      have q6 := cell_of hinv.box 6
      have q7 := cell_of hinv.box 7
      simp only [List.getElem?_toArray, List.getElem?_cons_zero, List.getElem?_cons_succ] at q4 q5 q6 q7
      have H18 := Lib.hid (inv_used hinv)
      have HINV := Lib.hid hinv
      clear hinv
      go_wp2_with fail
      have hqz := trivial
      clear hq0 hq1 hq2 hq3 hq4 hq5
      go_region_held3 (fun w' => w'.cell? ⟨w1.heap.size, 4, none⟩ = some (.int .i64 u0) ∧ w'.cell? ⟨w1.heap.size, 5, none⟩ = some (.int .i64 u1) ∧ w'.cell? ⟨w1.heap.size, 6, none⟩ = some (.int .i64 u2) ∧ w'.cell? ⟨w1.heap.size, 7, none⟩ = some (.int .i64 u3)) (first | exact ⟨q4, q5, q6, q7⟩ | exact ⟨s4, s5, s6, s7⟩ | go_keep)
        (first | (go_at_call 18; refine (H18.out _ (Below.drew (Below.refl _ _))).mono ?_; rintro e w4 ⟨rfl, hb4⟩; have s4 := (hb4.cell (p := ⟨w1.heap.size, 4, none⟩) (heap_lt HINV.out.box)).trans q4; have s5 := (hb4.cell (p := ⟨w1.heap.size, 5, none⟩) (heap_lt HINV.out.box)).trans q5; have s6 := (hb4.cell (p := ⟨w1.heap.size, 6, none⟩) (heap_lt HINV.out.box)).trans q6; have s7 := (hb4.cell (p := ⟨w1.heap.size, 7, none⟩) (heap_lt HINV.out.box)).trans q7; have HB4 := Lib.hid hb4; clear hb4))
      all_goals go_wp2
      all_goals go_roundw
      case rel => exact ⟨k + 1, u0, u1, u2, u3, by omega, by omega, by go_num, ⟨hu0, by omega, hu1, by omega, hu2, by omega, hu3, by omega⟩, (HINV.out.belo (Below.drew (Below.refl _ _))).belo HB4.out⟩
      case measure => simp [intOf] <;> omega
    · have hL : ∀ W, Calls Try.prog 19 #[] W fun e w' => e = .returned (.bool true) ∧ Below W.heap.size W w' := lives_any
      have HL := Lib.hid hL
      have hex : ¬ k < n ∨ (k < n ∧ ¬ k < 100) := by omega
      clear hlt hL
      rcases hex with hex | ⟨hex, hex2⟩
      all_goals go_wp2_with (go_at_call 19; refine (HL.out _).mono ?_; rintro e w9 ⟨rfl, hb9⟩; have HB9 := Lib.hid hb9; clear hb9)
      all_goals go_ret
      all_goals exact ⟨rfl, HI.out.bel.trans (HB9.out.mono HI.out.bel.size)⟩
end Go.Proofs.Ytgdjponooengaaa
