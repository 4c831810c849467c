/- The heads of functions that lot makes. Conditions: words of 64 bits. -/
import Derived.Test.YthaniobijkdnoaaLU
namespace Go.Proofs.Ythaniobijkdnoaa
open Go.RowKit

theorem headsK_snoc (ws : List Int) (k : Nat) : ∀ o : List Fn × Nat, headsK ws (k + 1) o = ((headsK ws k o).1 ++ [(headS ws (headsK ws k o).1 (headsK ws k o).1.length (headsK ws k o).2).1], (headS ws (headsK ws k o).1 (headsK ws k o).1.length (headsK ws k o).2).2) := by
  induction k with
  | zero => intro o; rfl
  | succ k ih =>
    intro o
    rw [headsK, ih]
    rfl
theorem HsOk.chg2 {S : Nat → Prop} {B : Nat} {w w' : World} {av : Value} {hs : List (Fn × HVal)} (h : HsOk B w av hs) (hc : Chg S w w') (ha : ∀ k, av.ownBlock = some k → ¬ S k) (hx : ∀ x ∈ hs, ∀ k, Blk x.2 k → ¬ S k) : HsOk B w' av hs :=
  ⟨owns_of_block h.row (fun k hk => hc.block k (h.row.lt k hk).2 (ha k hk)), fun x hx' => (h.rw_ x hx').chg hc (hx x hx'), h.av_, h.vl, h.vr⟩
theorem reads_newN (w : World) (cs : Array Value) (t : TypeId) (hn : cs.size = 11) : Reads (w.alloc (.cells cs t)) (w.heap.size + 1) 11 (some ⟨w.heap.size, 0, none⟩) 1 cs.toList := by
  refine ⟨by simpa using hn, fun _ => ⟨_, rfl, Nat.lt_succ_self _, fun j u hu => ?_⟩⟩
  rw [add_none, Nat.zero_add, cell_of (heap_new w _)]
  simpa using hu
def mainHd (ws : List Int) : List Fn × Nat := ([⟨mainName, false, [], [1, 1], [1], (typesV ws 3 (drP ws 0 6)).1, [], []⟩], (typesV ws 3 (drP ws 0 6)).2)
theorem headsV_eq (ws : List Int) : headsV ws = headsK ws (drV ws 0 6 + 1 - 1).toNat (mainHd ws) := rfl
def HdPost (D : Wd) (w : World) (e : Ending) (w' : World) : Prop := ∃ (av : Value) (hs : List (Fn × HVal)), e = .returned av ∧ hs.map (·.1) = (headsV D.ws).1 ∧ DR D (headsV D.ws).2 w' ∧ HsOk w.heap.size w' av hs ∧ Chg (fun k => k = D.Bd) w w'
theorem iv_cells (w : World) (H : Nat) (xs : List Int) (t : TypeId) (h : H = w.heap.size) (hm : xs.length ≤ maxLen) : IV (w.alloc (.cells (xs.map (Value.int .i64)).toArray t)) (.slice (some ⟨H, 0, none⟩) xs.length xs.length) xs := by
  subst h
  refine ⟨_, _, rfl, Nat.le_refl _, hm, fun i hi => ⟨w.heap.size, 0, rfl, by simp, ?_⟩⟩
  rw [cell_of (heap_new w _), Nat.zero_add]
  simp [hi]
set_option maxRecDepth 100000 in
set_option maxHeartbeats 4000000 in
theorem heads_dr {D : Wd} {w : World} (hd : WdOk D) (h : DR D 0 w) : Calls Try.prog 16 #[.func (.func 20) #[] #[.pointer (some ⟨D.Bd, 0, none⟩), .pointer (some ⟨D.Bl, 0, none⟩)]] w (HdPost D w) := by
  obtain ⟨j0, ji, jz0, jz1, jz2⟩ := info_parts inf34
  obtain ⟨i0, hi, hz0, hz1, hz2⟩ := info_parts inf59
  have HD := Lib.hid hd
  have H0 := Lib.hid h
  have hBd : D.Bd < w.heap.size := heap_lt h.d
  have hBl : D.Bl < w.heap.size := heap_lt h.l
  clear hd h
  go_enter Try.func16, Try.ntmps16
  go_wp2_with fail
  refine (draw_dr HD.out H0.out 6 (by omega) (by omega)).mono ?_
  rintro e w1 ⟨rfl, hd1, hc1⟩
  obtain ⟨q, hq⟩ : ∃ x, x = drV D.ws 0 6 := ⟨_, rfl⟩
  have hqq : 0 ≤ q ∧ q < 6 := by rw [hq]; exact drV_bd _ _ _ (by omega) (by omega)
  obtain ⟨hq0, hq1⟩ := hqq
  rw [← hq]
  have HQ := Lib.hid hq
  obtain ⟨n, hn⟩ : ∃ n : Nat, (n : Int) = q + 1 := ⟨(q + 1).toNat, by omega⟩
  have hn6 : 1 ≤ n ∧ n ≤ 6 := by omega
  obtain ⟨hn1, hn2⟩ := hn6
  have H1 := Lib.hid hd1
  have C1 := Lib.hid hc1
  have hzz1 : w.heap.size ≤ w1.heap.size := hc1.size
  clear hq hd1 hc1
  have hbel : Below w1.heap.size w1 ((w1.alloc (.cells #[.int .i64 1, .int .i64 1] 59)).alloc (.cells #[.int .i64 1] 59)) := ((Below.refl _ _).alloc (Nat.le_refl _) _).alloc (by simp) _
  have HA := Lib.hid (H1.out.bel hbel)
  go_wp2_with fail
  refine (types_dr HD.out HA.out 3 (by omega) (by omega)).mono ?_
  rintro e w2 ⟨vl, rfl, hd2, ho2, hc2⟩
  obtain ⟨A2, k2, rfl⟩ := row_formN ho2
  have H2 := Lib.hid hd2
  have hzA : ((w1.alloc (.cells #[.int .i64 1, .int .i64 1] 59)).alloc (.cells #[.int .i64 1] 59)).heap.size = w1.heap.size + 1 + 1 := by simp
  obtain ⟨hv, hhv⟩ : ∃ x : HVal, x = ⟨.slice none 0 0, .slice (some ⟨w1.heap.size, 0, none⟩) 2 2, .slice (some ⟨w1.heap.size + 1, 0, none⟩) 1 1, .slice A2 (typesV D.ws 3 (drP D.ws 0 6)).1.length k2⟩ := ⟨_, rfl⟩
  obtain ⟨f0, hf0⟩ : ∃ x : Fn, x = ⟨mainName, false, [], [1, 1], [1], (typesV D.ws 3 (drP D.ws 0 6)).1, [], []⟩ := ⟨_, rfl⟩
  have hzz2 : w1.heap.size + 2 ≤ w2.heap.size := by have := hc2.size; omega
  have hR : Rws w.heap.size w2 (f0, hv) := by
    have hnb : ∀ k, w1.heap.size ≤ k → ¬ k = D.Bd := fun k hk => by omega
    have hp := (iv_cells w1 w1.heap.size [1, 1] 59 rfl (by simp [maxLen])).bel (w' := (w1.alloc (.cells #[.int .i64 1, .int .i64 1] 59)).alloc (.cells #[.int .i64 1] 59)) ((Below.refl _ _).alloc (Nat.le_refl _) _)
    have hr := iv_cells (w1.alloc (.cells #[.int .i64 1, .int .i64 1] 59)) (w1.heap.size + 1) [1] 59 (by simp) (by simp [maxLen])
    rw [hhv, hf0]
    refine ⟨IV.nil _ _ _ (Nat.zero_le _), hp.chg hc2 (fun k hk => hnb k (by simp [Value.ownBlock] at hk; omega)), hr.chg hc2 (fun k hk => hnb k (by simp [Value.ownBlock] at hk; omega)), owns_base ho2 (fun k hk => by have := (ho2.lt k hk).1; omega), fun k hk => by simp [Value.ownBlock] at hk, fun k hk => ?_, fun k hk => ?_⟩
    · have e : w1.heap.size = k := by simpa [Value.ownBlock] using hk
      exact ⟨by omega, by omega, fun e2 => by have := (ho2.lt k e2).1; omega⟩
    · have e : w1.heap.size + 1 = k := by simpa [Value.ownBlock] using hk
      exact ⟨by omega, by omega, fun e2 => by have := (ho2.lt k e2).1; omega⟩
  have HRW := Lib.hid hR
  have C2 : Hid (Chg (fun k => k = D.Bd) w w2) := (C1.out.trans (Chg.of_below hbel)).trans hc2
  clear hd2 ho2 hc2 hbel hzA hR
  go_wp2_with fail
  have hHs : HsOk w.heap.size (w2.alloc (.cells (hCells (f0, hv)).toArray 34)) (.slice (some ⟨w2.heap.size, 0, none⟩) 1 1) [(f0, hv)] := by
    refine ⟨⟨by simp [hCells], .inr ⟨w2.heap.size, 1, (hCells (f0, hv)).toArray, rfl, by omega, heap_new _ _, Nat.le_refl _, by simp [maxLen], by simp [hCells], by simp [hCells]⟩⟩, fun x hx => ?_, fun x hx k hk => ?_, by simp, by simp⟩
    · simp at hx; subst hx
      exact HRW.out.chg (S := fun _ => False) (Chg.of_below ((Below.refl _ _).alloc (Nat.le_refl _) _)) (fun _ _ h => h)
    · simp at hx; subst hx
      intro e
      have e' : w2.heap.size = k := by simpa [Value.ownBlock] using e
      have := (HRW.out.blk k hk).2
      omega
  have HHS := Lib.hid hHs
  have HM : Hid (([(f0, hv)] : List (Fn × HVal)).map (·.1) = (mainHd D.ws).1 ∧ (typesV D.ws 3 (drP D.ws 0 6)).2 = (mainHd D.ws).2) := Lib.hid ⟨by simp [hf0, mainHd], rfl⟩
  have H3 : Hid (DR D (mainHd D.ws).2 (w2.alloc (.cells (hCells (f0, hv)).toArray 34))) := Lib.hid (by rw [← HM.out.2]; exact H2.out.bel ((Below.refl _ _).alloc (Nat.le_refl _) _))
  have C3 : Hid (Chg (fun k => k = D.Bd) w (w2.alloc (.cells (hCells (f0, hv)).toArray 34))) := C2.out.trans (Chg.of_below ((Below.refl _ _).alloc (Nat.le_refl _) _))
  rw [hhv, hf0] at HHS HM H3 C3
  clear hHs hhv hf0
  go_loopw [4, 5] (fun av i wr => ∃ (k : Nat) (hs : List (Fn × HVal)) (pos : Nat), (1 ≤ k ∧ k ≤ n) ∧ i = .int .i64 k ∧ hs.length = k ∧ Hid (hs.map (·.1) = (headsK D.ws (k - 1) (mainHd D.ws)).1 ∧ pos = (headsK D.ws (k - 1) (mainHd D.ws)).2) ∧ Hid (DR D pos wr) ∧ Hid (HsOk w.heap.size wr av hs ∧ ∀ x ∈ hs, x.1.results.length ≤ 2) ∧ Hid (Chg (fun k => k = D.Bd) w wr)) (fun _ i _ => n - (intOf i).toNat)
  case atStart => exact ⟨1, _, _, ⟨Nat.le_refl _, hn1⟩, rfl, rfl, Lib.hid ⟨HM.out.1, rfl⟩, H3, Lib.hid ⟨HHS.out, by simp⟩, C3⟩
  case round =>
    obtain ⟨k, hs, pos, ⟨hk1, hkn⟩, rfl, hsl, HPOS, HR, HHR, HC⟩ := hrel
    have HH := Lib.hid HHR.out.1
    have HRL := Lib.hid HHR.out.2
    clear HHR
    by_cases hlt : k < n
    · have hq' : (k : Int) < q + 1 := by omega
      have hk5 : k ≤ 5 := by omega
      have HSL := Lib.hid hsl
      have hcv : ∀ W, (convert 21 9 (.int .i32 (48 + (k : Int)))).run Try.prog W = .ok (.string ⟨#[(48 + k).toUInt8]⟩) W := by
        intro W
        rcases (show k = 1 ∨ k = 2 ∨ k = 3 ∨ k = 4 ∨ k = 5 by omega) with rfl | rfl | rfl | rfl | rfl <;> kernel_rfl
      have HNM : Hid ((⟨#[102]⟩ : ByteArray) ++ ⟨#[48 + UInt8.ofNat k]⟩ = headName k) := by
        rcases (show k = 1 ∨ k = 2 ∨ k = 3 ∨ k = 4 ∨ k = 5 by omega) with rfl | rfl | rfl | rfl | rfl <;> rfl
      have hzr : w.heap.size ≤ wr.heap.size := HC.out.size
      clear hsl hn
      go_wp2_with fail
      rw [HNM.out]
      refine (types_dr HD.out HR.out 2 (by omega) (by omega)).mono ?_
      rintro e w3 ⟨vp, rfl, hd3, ho3, hc3⟩
      obtain ⟨A3, c3, rfl⟩ := row_formN ho3
      obtain ⟨lp, hlp⟩ : ∃ x, x = (typesV D.ws 2 pos).1 := ⟨_, rfl⟩
      obtain ⟨p3, hp3⟩ : ∃ x, x = (typesV D.ws 2 pos).2 := ⟨_, rfl⟩
      rw [← hlp] at ho3 ⊢
      rw [← hp3] at hd3
      have hlen3 : lp.length ≤ 2 := by
        rw [hlp, typesV, typesK_len]
        have := drV_bd D.ws pos (2 + 1) (by omega) (by omega)
        omega
      have HL3 := Lib.hid hlp
      have HP3 := Lib.hid hp3
      have H3 := Lib.hid hd3
      have HO3 := Lib.hid ho3
      have CC3 := Lib.hid hc3
      have sz3 : wr.heap.size ≤ w3.heap.size := hc3.size
      clear hlp hp3 hd3 ho3 hc3
      go_wp2_with fail
      refine (types_dr HD.out H3.out 2 (by omega) (by omega)).mono ?_
      rintro e w4 ⟨vr, rfl, hd4, ho4, hc4⟩
      obtain ⟨A4, c4, rfl⟩ := row_formN ho4
      obtain ⟨lr, hlr⟩ : ∃ x, x = (typesV D.ws 2 p3).1 := ⟨_, rfl⟩
      obtain ⟨p4, hp4⟩ : ∃ x, x = (typesV D.ws 2 p3).2 := ⟨_, rfl⟩
      rw [← hlr] at ho4 ⊢
      rw [← hp4] at hd4
      have hlen4 : lr.length ≤ 2 := by
        rw [hlr, typesV, typesK_len]
        have := drV_bd D.ws p3 (2 + 1) (by omega) (by omega)
        omega
      have HL4 := Lib.hid hlr
      have HP4 := Lib.hid hp4
      have H4 := Lib.hid hd4
      have HO4 := Lib.hid ho4
      have CC4 := Lib.hid hc4
      have sz4 : w3.heap.size ≤ w4.heap.size := hc4.size
      clear hlr hp4 hd4 ho4 hc4
      go_wp2_with fail
      refine (types_dr HD.out H4.out 2 (by omega) (by omega)).mono ?_
      rintro e w5 ⟨vl, rfl, hd5, ho5, hc5⟩
      obtain ⟨A5, c5, rfl⟩ := row_formN ho5
      obtain ⟨ll, hll⟩ : ∃ x, x = (typesV D.ws 2 p4).1 := ⟨_, rfl⟩
      obtain ⟨p5, hp5⟩ : ∃ x, x = (typesV D.ws 2 p4).2 := ⟨_, rfl⟩
      rw [← hll] at ho5 ⊢
      rw [← hp5] at hd5
      have hlen5 : ll.length ≤ 2 := by
        rw [hll, typesV, typesK_len]
        have := drV_bd D.ws p4 (2 + 1) (by omega) (by omega)
        omega
      have HL5 := Lib.hid hll
      have HP5 := Lib.hid hp5
      have H5 := Lib.hid hd5
      have HO5 := Lib.hid ho5
      have CC5 := Lib.hid hc5
      have sz5 : w4.heap.size ≤ w5.heap.size := hc5.size
      clear hll hp5 hd5 ho5 hc5
      go_wp2_with fail
      have hbx : Below w5.heap.size w5 (w5.alloc (.cells #[.string (headName k), .bool false, .slice none 0 0, .slice A3 lp.length c3, .slice A4 lr.length c4, .slice A5 ll.length c5, .slice none 0 0, .slice none 0 0, .slice none 0 0, .slice none 0 0, .slice none 0 0] 34)) := (Below.refl _ _).alloc (Nat.le_refl _) _
      have HA5 := Lib.hid (H5.out.bel hbx)
      refine (draw_dr HD.out HA5.out 3 (by omega) (by omega)).mono ?_
      rintro e w6 ⟨rfl, hd6, hc6⟩
      obtain ⟨y, hy⟩ : ∃ x, x = drV D.ws p5 3 := ⟨_, rfl⟩
      obtain ⟨p6, hp6⟩ : ∃ x, x = drP D.ws p5 3 := ⟨_, rfl⟩
      have hyq : 0 ≤ y ∧ y < 3 := by rw [hy]; exact drV_bd _ _ _ (by omega) (by omega)
      obtain ⟨hy0, hy1⟩ := hyq
      rw [← hy]
      rw [← hp6] at hd6
      have HY := Lib.hid hy
      have HP6 := Lib.hid hp6
      have H6 := Lib.hid hd6
      have hBw : D.Bd < w5.heap.size := by omega
      have XX : Hid (w6.heap[w5.heap.size]? = some (.cells #[.string (headName k), .bool false, .slice none 0 0, .slice A3 lp.length c3, .slice A4 lr.length c4, .slice A5 ll.length c5, .slice none 0 0, .slice none 0 0, .slice none 0 0, .slice none 0 0, .slice none 0 0] 34 (0, 0))) := (hc6.block _ (by simp) (by omega)).trans (heap_new _ _)
      have C56 : Hid (Chg (fun k => k = D.Bd) w5 w6) := (Chg.of_below hbx).trans hc6
      have sz6 : w5.heap.size + 1 ≤ w6.heap.size := by have := hc6.size; simp at this; omega
      obtain ⟨X, hX⟩ : ∃ X, X = w5.heap.size := ⟨_, rfl⟩
      rw [← hX] at XX sz6 ⊢
      have HX := Lib.hid hX
      -- the rows of the new head, where the three stand
      have hnb : ∀ j, wr.heap.size ≤ j → ¬ j = D.Bd := fun j hj => by omega
      have R3 : Hid (IV w5 (.slice A3 lp.length c3) lp) := ((iv_of_owned HO3.out (by simp only [maxLen]; omega)).chg CC4.out (fun j hj => hnb j (HO3.out.lt j hj).1)).chg CC5.out (fun j hj => hnb j (HO3.out.lt j hj).1)
      have R4 : Hid (IV w5 (.slice A4 lr.length c4) lr) := (iv_of_owned HO4.out (by simp only [maxLen]; omega)).chg CC5.out (fun j hj => hnb j (by have := (HO4.out.lt j hj).1; omega))
      have HH6 : Hid (HsOk w.heap.size w6 u4 hs) := ((((HH.out.chg CC3.out (fun j h1 h2 => by omega)).chg CC4.out (fun j h1 h2 => by omega)).chg CC5.out (fun j h1 h2 => by omega)).chg C56.out (fun j h1 h2 => by omega))
      have C6 : Hid (Chg (fun k => k = D.Bd) w w6) := (((HC.out.trans CC3.out).trans CC4.out).trans CC5.out).trans C56.out
      have RWS : Hid (∀ (w' : World) (f : Fn) (vo : Value), Chg (fun j => j = D.Bd ∨ X ≤ j) w5 w' → f.params = lp → f.results = lr → f.locals = ll → IV w' vo f.outer → (∀ j, vo.ownBlock = some j → X ≤ j ∧ j < w'.heap.size) → Rws w.heap.size w' (f, ⟨vo, .slice A3 lp.length c3, .slice A4 lr.length c4, .slice A5 ll.length c5⟩)) := by
        intro w' f vo hch e1 e2 e3 hiv hvo
        have hX := HX.out
        have hs' := hch.size
        have q3 : ∀ j, (Value.slice A3 lp.length c3).ownBlock = some j → wr.heap.size ≤ j ∧ j < w3.heap.size := fun j hj => HO3.out.lt j hj
        have q4 : ∀ j, (Value.slice A4 lr.length c4).ownBlock = some j → w3.heap.size ≤ j ∧ j < w4.heap.size := fun j hj => HO4.out.lt j hj
        have q5 : ∀ j, (Value.slice A5 ll.length c5).ownBlock = some j → w4.heap.size ≤ j ∧ j < w5.heap.size := fun j hj => HO5.out.lt j hj
        have hno : ∀ j, wr.heap.size ≤ j → j < w5.heap.size → ¬ (j = D.Bd ∨ X ≤ j) := fun j h1 h2 => by omega
        refine ⟨hiv, ?_, ?_, ?_, fun j hj => ?_, fun j hj => ?_, fun j hj => ?_⟩
        · show IV w' _ f.params
          rw [e1]
          exact R3.out.chg hch (fun j hj => hno j (q3 j hj).1 (by have := q3 j hj; omega))
        · show IV w' _ f.results
          rw [e2]
          exact R4.out.chg hch (fun j hj => hno j (by have := q4 j hj; omega) (by have := q4 j hj; omega))
        · show w'.ownsRow _ _ _ _ f.locals.length (f.locals.map _)
          rw [e3]
          exact owns_base (owns_of_block HO5.out (fun j hj => hch.block j (q5 j hj).2 (hno j (by have := q5 j hj; omega) (q5 j hj).2))) (fun j hj => by have := q5 j hj; omega)
        · have := hvo j hj
          exact ⟨by omega, this.2, fun e => by have := q5 j e; omega⟩
        · have := q3 j hj
          exact ⟨by omega, by omega, fun e => by have := q5 j e; omega⟩
        · have := q4 j hj
          exact ⟨by omega, by omega, fun e => by have := q5 j e; omega⟩
      have HNW : Hid (∀ vo : Value, (∀ j, vo.ownBlock = some j → X ≤ j) → ∀ j, Blk ⟨vo, .slice A3 lp.length c3, .slice A4 lr.length c4, .slice A5 ll.length c5⟩ j → wr.heap.size ≤ j) := by
        intro vo hvo j hj
        have hX := HX.out
        rcases hj with h1 | h1 | h1 | h1
        · have := hvo j h1; omega
        · exact (HO3.out.lt j h1).1
        · have := (HO4.out.lt j h1).1; omega
        · have := (HO5.out.lt j h1).1; omega
      clear hd6 hc6 hy hp6 hbx hX hnb
      by_cases hyz : y = 0
      · have HYZ : Hid (drV D.ws p5 3 = 0) := HY.out.symm.trans hyz
        subst hyz
        obtain ⟨ga, capA, rfl, hga1, hga2⟩ : ∃ ga capA, u4 = .slice (some ⟨ga, 0, none⟩) k capA ∧ k ≤ capA ∧ capA ≤ 9223372036854775807 := by
          rcases HH.out.row.2 with ⟨_, h0⟩ | ⟨ga, capA, cur, e, _, _, h1, h2, _⟩
          · have := HSL.out; omega
          · exact ⟨ga, capA, by rw [e, HSL.out], by rw [← HSL.out]; exact h1, h2⟩
        go_wp2_with fail
        refine (draw_dr HD.out H6.out (k : Int) (by omega) (by omega)).mono ?_
        rintro e w7 ⟨rfl, hd7, hc7⟩
        obtain ⟨d2, hd2⟩ : ∃ x, x = drV D.ws p6 k := ⟨_, rfl⟩
        obtain ⟨p7, hp7⟩ : ∃ x, x = drP D.ws p6 k := ⟨_, rfl⟩
        have hd2q : 0 ≤ d2 ∧ d2 < (k : Int) := by rw [hd2]; exact drV_bd _ _ _ (by omega) (by omega)
        obtain ⟨hd20, hd21⟩ := hd2q
        rw [← hd2]
        obtain ⟨m, rfl⟩ : ∃ m : Nat, d2 = m := ⟨d2.toNat, by omega⟩
        have hmk : m < k := by omega
        have hml : m < hs.length := by rw [HSL.out]; exact hmk
        rw [← hp7] at hd7
        have HD2 := Lib.hid hd2
        have HP7 := Lib.hid hp7
        have H7 := Lib.hid hd7
        have HH7 := Lib.hid (HH6.out.chg hc7 (fun j h1 h2 => by omega))
        have C67 := Lib.hid hc7
        have sz7 : w6.heap.size ≤ w7.heap.size := hc7.size
        have hBX : D.Bd < X := by rw [HX.out]; exact hBw
        have X7 : Hid (w7.heap[X]? = some (.cells #[.string (headName k), .bool false, .slice none 0 0, .slice A3 lp.length c3, .slice A4 lr.length c4, .slice A5 ll.length c5, .slice none 0 0, .slice none 0 0, .slice none 0 0, .slice none 0 0, .slice none 0 0] 34 (0, 0))) := (hc7.block X (by omega) (by omega)).trans XX.out
        have hrs := (HH7.out.rw_ hs[m] (List.getElem_mem hml)).r
        obtain ⟨Ar, cr, hvr, -⟩ := id hrs
        have hcell : w7.cell? ⟨ga, m * 11 + 4, none⟩ = some (.slice Ar (hs[m]).1.results.length cr) := by
          rw [HH7.out.cell m hml 4 (by omega), ← hvr]
          rfl
        rw [hvr] at hrs
        obtain ⟨xr, hxr⟩ : ∃ x, x = (hs[m]).1.results := ⟨_, rfl⟩
        rw [← hxr] at hcell hrs
        have HXR := Lib.hid hxr
        have hxl : xr.length ≤ 2 := by rw [HXR.out]; exact HRL.out _ (List.getElem_mem hml)
        have HRDR := Lib.hid (reads_slice hrs).2
        have x1 := cell_of X7.out 1
        have x2 := cell_of X7.out 2
        have f1 := frozen_of X7.out 1
        have f2 := frozen_of X7.out 2
        simp only [List.getElem?_toArray, List.getElem?_cons_succ, List.getElem?_cons_zero] at x1 x2
        clear hd7 hc7 hd2 hp7 hvr hrs hxr
        go_upto_region 9 with ((at_builtin; refine wpList_append_any _ rfl _ _ 29 rfl w7.heap.size 59 i0 (.int .i64 0) 1 8 Try.underlying29 hi hz0 hz1 hz2 rfl (by decide) _ 0 [] rfl (World.ownsRow_nil _ _ _ _) _ Ar xr.length cr _ rfl HRDR.out (ints_one _) (by unfold maxLen; omega) (by omega) (Nat.le_refl _) ?_; intro v8 w8 hown8 hg8 hv8; obtain ⟨A8, c8, rfl⟩ := row_formN hown8; have HO8 := Lib.hid hown8; have HG8 : Hid (Chg (fun _ => False) w7 w8) := (Chg.refl _ _).grown hg8 (fun j hj => by cases hj); have X8 : Hid (w8.heap[X]? = some (.cells #[.string (headName k), .bool false, .slice none 0 0, .slice A3 lp.length c3, .slice A4 lr.length c4, .slice A5 ll.length c5, .slice none 0 0, .slice none 0 0, .slice none 0 0, .slice none 0 0, .slice none 0 0] 34 (0, 0))) := (HG8.out.block X (by omega) (fun h => h)).trans X7.out; have y1 := (cell_of X8.out 1); have y2 := (cell_of X8.out 2); have g1 := frozen_of X8.out 1; have g2 := frozen_of X8.out 2; clear hown8 hg8 hv8))
        obtain ⟨wF, hwF⟩ : ∃ x, x = (w8.setCell ⟨X, 1, none⟩ (.bool true)).setCell ⟨X, 2, none⟩ (.slice A8 xr.length c8) := ⟨_, rfl⟩
        rw [← hwF]
        have hXw := HX.out
        have hXr : wr.heap.size ≤ X := by omega
        have ho8 : w8.ownsRow w7.heap.size 59 1 (.slice A8 xr.length c8) xr.length (xr.map (Value.int .i64)) := by have h := HO8.out; rw [Nat.zero_add, List.nil_append] at h; exact h
        have HO9 := Lib.hid ho8
        have XF8 : Hid (wF.heap[X]? = some (.cells #[.string (headName k), .bool true, .slice A8 xr.length c8, .slice A3 lp.length c3, .slice A4 lr.length c4, .slice A5 ll.length c5, .slice none 0 0, .slice none 0 0, .slice none 0 0, .slice none 0 0, .slice none 0 0] 34 (0, 0))) := by
          have h1 := heap_set X8.out 1 (.bool true)
          have h2 := heap_set h1 2 (.slice A8 xr.length c8)
          rw [← hwF] at h2
          exact h2
        have C8F : Hid (Chg (fun j => j = X) w8 wF) := by
          rw [hwF]
          exact Chg.setCell (p := ⟨X, 2, none⟩) (Chg.setCell (S := fun j => j = X) (p := ⟨X, 1, none⟩) (Chg.refl _ _) (.inl rfl) _) (.inl rfl) _
        have sz8 : w7.heap.size ≤ w8.heap.size := HG8.out.size
        have HHF : Hid (HsOk w.heap.size wF (.slice (some ⟨ga, 0, none⟩) k capA) hs) := (HH7.out.chg HG8.out (fun _ _ _ h => h)).chg2 C8F.out (fun j hj e => by have := (HH.out.row.lt j hj).2; omega) (fun y hy j hj e => by have := ((HH.out.rw_ y hy).blk j hj).2; omega)
        have HRF : Hid (DR D p7 wF) := (H7.out.chg HG8.out (fun _ h => h.elim)).chg C8F.out (fun j hj => by have h1 := H0.out.bl.size; exact ⟨by omega, by omega, by omega⟩)
        have CF : Hid (Chg (fun k => k = D.Bd) w wF) := ((C6.out.trans C67.out).trans (HG8.out.mono (fun _ _ h => h.elim))).step C8F.out (fun i _ hi => .inr (by omega))
        have CW : Hid (Chg (fun j => j = D.Bd ∨ X ≤ j) w5 wF) := (((C56.out.mono (fun j _ h => .inl h)).trans (C67.out.mono (fun j _ h => .inl h))).trans (HG8.out.mono (fun _ _ h => h.elim))).trans (C8F.out.mono (fun j _ h => .inr (by omega)))
        have hvo8 : ∀ j, (Value.slice A8 xr.length c8).ownBlock = some j → X ≤ j ∧ j < wF.heap.size ∧ j ≠ X := fun j hj => by
          have h1 := HO9.out.lt j hj
          have h2 := C8F.out.size
          exact ⟨by omega, by omega, by omega⟩
        have HVO := Lib.hid hvo8
        obtain ⟨f, hf⟩ : ∃ f : Fn, f = ⟨headName k, true, xr, lp, lr, ll, [], []⟩ := ⟨_, rfl⟩
        have HFR : Hid (f.results = lr) := Lib.hid (by rw [hf])
        have HFE : Hid (headS D.ws (hs.map (·.1)) k pos = (f, p7)) := Lib.hid (by
          have e1 : (hs.map (·.1)).length = k := by rw [List.length_map]; exact HSL.out
          rw [hf]
          simp only [headS, ← HL3.out, ← HP3.out, ← HL4.out, ← HP4.out, ← HL5.out, ← HP5.out]
          rw [if_pos HYZ.out, ← HP6.out, e1, ← HD2.out, ← HP7.out, Int.toNat_natCast, List.getD_eq_getElem?_getD, List.getElem?_map, List.getElem?_eq_getElem hml, HXR.out]
          rfl)
        have RWF : Hid (Rws w.heap.size wF (f, ⟨.slice A8 xr.length c8, .slice A3 lp.length c3, .slice A4 lr.length c4, .slice A5 ll.length c5⟩)) := RWS.out wF f _ CW.out (by rw [hf]) (by rw [hf]) (by rw [hf]) (by rw [hf]; exact (iv_of_owned HO9.out (by simp only [maxLen]; omega)).chg C8F.out (fun j hj e => (HVO.out j hj).2.2 e)) (fun j hj => ⟨(HVO.out j hj).1, (HVO.out j hj).2.1⟩)
        have HCE : Hid (hCells (f, ⟨.slice A8 xr.length c8, .slice A3 lp.length c3, .slice A4 lr.length c4, .slice A5 ll.length c5⟩) = [.string (headName k), .bool true, .slice A8 xr.length c8, .slice A3 lp.length c3, .slice A4 lr.length c4, .slice A5 ll.length c5, .slice none 0 0, .slice none 0 0, .slice none 0 0, .slice none 0 0, .slice none 0 0]) := Lib.hid (by rw [hf]; rfl)
        clear hf hwF hvo8 ho8 x1 x2 f1 f2 y1 y2 g1 g2 hcell hXw
        obtain ⟨x0, x1, x2, x3, x4, x5, x6, x7, x8, x9, x10⟩ : wF.cell? ⟨X, 0, none⟩ = some (.string (headName k)) ∧ wF.cell? ⟨X, 1, none⟩ = some (.bool true) ∧ wF.cell? ⟨X, 2, none⟩ = some (.slice A8 xr.length c8) ∧ wF.cell? ⟨X, 3, none⟩ = some (.slice A3 lp.length c3) ∧ wF.cell? ⟨X, 4, none⟩ = some (.slice A4 lr.length c4) ∧ wF.cell? ⟨X, 5, none⟩ = some (.slice A5 ll.length c5) ∧ wF.cell? ⟨X, 6, none⟩ = some (.slice none 0 0) ∧ wF.cell? ⟨X, 7, none⟩ = some (.slice none 0 0) ∧ wF.cell? ⟨X, 8, none⟩ = some (.slice none 0 0) ∧ wF.cell? ⟨X, 9, none⟩ = some (.slice none 0 0) ∧ wF.cell? ⟨X, 10, none⟩ = some (.slice none 0 0) := ⟨cell_of XF8.out 0, cell_of XF8.out 1, cell_of XF8.out 2, cell_of XF8.out 3, cell_of XF8.out 4, cell_of XF8.out 5, cell_of XF8.out 6, cell_of XF8.out 7, cell_of XF8.out 8, cell_of XF8.out 9, cell_of XF8.out 10⟩
        have hblT : Below wF.heap.size wF (wF.alloc (.cells #[.string (headName k), .bool true, .slice A8 xr.length c8, .slice A3 lp.length c3, .slice A4 lr.length c4, .slice A5 ll.length c5, .slice none 0 0, .slice none 0 0, .slice none 0 0, .slice none 0 0, .slice none 0 0] 34)) := (Below.refl _ _).alloc (Nat.le_refl _) _
        have HOA : Hid ((wF.alloc (.cells #[.string (headName k), .bool true, .slice A8 xr.length c8, .slice A3 lp.length c3, .slice A4 lr.length c4, .slice A5 ll.length c5, .slice none 0 0, .slice none 0 0, .slice none 0 0, .slice none 0 0, .slice none 0 0] 34)).ownsRow w.heap.size 34 11 (.slice (some ⟨ga, 0, none⟩) k capA) k (hs.flatMap hCells)) := Lib.hid (by have h := (HHF.out.bel hblT).row; rw [HSL.out] at h; exact h)
        have HRD : Hid (Reads (wF.alloc (.cells #[.string (headName k), .bool true, .slice A8 xr.length c8, .slice A3 lp.length c3, .slice A4 lr.length c4, .slice A5 ll.length c5, .slice none 0 0, .slice none 0 0, .slice none 0 0, .slice none 0 0, .slice none 0 0] 34)) (wF.heap.size + 1) 11 (some ⟨wF.heap.size, 0, none⟩) 1 [.string (headName k), .bool true, .slice A8 xr.length c8, .slice A3 lp.length c3, .slice A4 lr.length c4, .slice A5 ll.length c5, .slice none 0 0, .slice none 0 0, .slice none 0 0, .slice none 0 0, .slice none 0 0]) := Lib.hid (reads_newN wF #[.string (headName k), .bool true, .slice A8 xr.length c8, .slice A3 lp.length c3, .slice A4 lr.length c4, .slice A5 ll.length c5, .slice none 0 0, .slice none 0 0, .slice none 0 0, .slice none 0 0, .slice none 0 0] 34 rfl)
        have hzf : w.heap.size ≤ wF.heap.size := CF.out.size
        go_wp2_with ((at_builtin; refine wpList_append_any _ rfl _ _ 24 rfl w.heap.size 34 j0 (.agg #[.string ⟨#[]⟩, .bool false, .slice none 0 0, .slice none 0 0, .slice none 0 0, .slice none 0 0, .slice none 0 0, .slice none 0 0, .slice none 0 0, .slice none 0 0, .slice none 0 0]) 11 240 Try.underlying24 ji jz0 jz1 jz2 rfl (by decide) (.slice (some ⟨ga, 0, none⟩) k capA) k _ rfl HOA.out _ (some ⟨wF.heap.size, 0, none⟩) 1 1 _ rfl HRD.out (by simp [Value.oneCell']) (by unfold maxLen; omega) (by omega) (by simp; omega) ?_; intro vN wN hownN hgN hvN; have HON := Lib.hid hownN; have HGN := Lib.hid hgN; have HVN := Lib.hid hvN; clear hownN hgN hvN))
        have hadd := (HHF.out.bel hblT).add (s0 := wr.heap.size) (RWF.out.chg (S := fun _ => False) (Chg.of_below hblT) (fun _ _ h => h)) hzr (fun y hy j hj => ((HH.out.rw_ y hy).blk j hj).2) (fun j hj => (HH.out.row.lt j hj).2) (fun j hj => HNW.out _ (fun j hj => (HVO.out j hj).1) j hj) (by rw [HCE.out, HSL.out]; exact HON.out) HGN.out (fun j hj => by
          rcases HVN.out with e | e
          · exact .inl (by rw [e] at hj; exact hj)
          · rw [e] at hj; exact .inr (by simp at hj ⊢; omega))
        have hch : Chg (fun j => w.heap.size ≤ j) wF wN := (Chg.of_below hblT).trans ((Chg.refl _ _).grown HGN.out (fun j hj => .inl (HOA.out.lt j hj).1))
        have HRN : Hid (DR D p7 wN) := Lib.hid (HRF.out.chg hch (fun j hj => by have h1 := H0.out.bl.size; exact ⟨by omega, by omega, by omega⟩))
        have CN : Hid (Chg (fun k => k = D.Bd) w wN) := CF.out.step hch (fun i _ hi => .inr hi)
        have HADD := Lib.hid hadd
        clear hadd hch hblT x0 x1 x2 x3 x4 x5 x6 x7 x8 x9 x10
        go_roundw
        case rel => exact ⟨k + 1, hs ++ [(f, _)], p7, ⟨by omega, by omega⟩, by go_num, by rw [List.length_append, HSL.out]; rfl, Lib.hid (by
          have e1 : (hs.map (·.1)).length = k := by rw [List.length_map]; exact HSL.out
          rw [show k + 1 - 1 = (k - 1) + 1 by omega, headsK_snoc, ← HPOS.out.1, ← HPOS.out.2, e1, HFE.out, List.map_append]
          exact ⟨rfl, rfl⟩), HRN, Lib.hid ⟨HADD.out, fun x hx => by
            rcases List.mem_append.1 hx with h1 | h1
            · exact HRL.out x h1
            · simp at h1; subst h1; rw [HFR.out]; exact hlen4⟩, CN⟩
        case measure => simp [intOf] <;> omega
      · have HYZ : Hid (¬ drV D.ws p5 3 = 0) := Lib.hid (by rw [← HY.out]; exact hyz)
        have hyq : (y == 0) = false := by simpa using hyz
        obtain ⟨f, hf⟩ : ∃ f : Fn, f = ⟨headName k, false, [], lp, lr, ll, [], []⟩ := ⟨_, rfl⟩
        have HFR : Hid (f.results = lr) := Lib.hid (by rw [hf])
        have HFE : Hid (headS D.ws (hs.map (·.1)) k pos = (f, p6)) := Lib.hid (by rw [hf]; simp only [headS, ← HL3.out, ← HP3.out, ← HL4.out, ← HP4.out, ← HL5.out, ← HP5.out]; rw [if_neg HYZ.out, ← HP6.out])
        have RWF : Hid (Rws w.heap.size w6 (f, ⟨.slice none 0 0, .slice A3 lp.length c3, .slice A4 lr.length c4, .slice A5 ll.length c5⟩)) := RWS.out w6 f _ (C56.out.mono (fun j _ h => .inl h)) (by rw [hf]) (by rw [hf]) (by rw [hf]) (by rw [hf]; exact IV.nil _ _ _ (Nat.zero_le _)) (fun j hj => by simp [Value.ownBlock] at hj)
        have HCE : Hid (hCells (f, ⟨.slice none 0 0, .slice A3 lp.length c3, .slice A4 lr.length c4, .slice A5 ll.length c5⟩) = [.string (headName k), .bool false, .slice none 0 0, .slice A3 lp.length c3, .slice A4 lr.length c4, .slice A5 ll.length c5, .slice none 0 0, .slice none 0 0, .slice none 0 0, .slice none 0 0, .slice none 0 0]) := Lib.hid (by rw [hf]; rfl)
        have XF6 := XX
        clear hyz hf
        obtain ⟨x0, x1, x2, x3, x4, x5, x6, x7, x8, x9, x10⟩ : w6.cell? ⟨X, 0, none⟩ = some (.string (headName k)) ∧ w6.cell? ⟨X, 1, none⟩ = some (.bool false) ∧ w6.cell? ⟨X, 2, none⟩ = some (.slice none 0 0) ∧ w6.cell? ⟨X, 3, none⟩ = some (.slice A3 lp.length c3) ∧ w6.cell? ⟨X, 4, none⟩ = some (.slice A4 lr.length c4) ∧ w6.cell? ⟨X, 5, none⟩ = some (.slice A5 ll.length c5) ∧ w6.cell? ⟨X, 6, none⟩ = some (.slice none 0 0) ∧ w6.cell? ⟨X, 7, none⟩ = some (.slice none 0 0) ∧ w6.cell? ⟨X, 8, none⟩ = some (.slice none 0 0) ∧ w6.cell? ⟨X, 9, none⟩ = some (.slice none 0 0) ∧ w6.cell? ⟨X, 10, none⟩ = some (.slice none 0 0) := ⟨cell_of XF6.out 0, cell_of XF6.out 1, cell_of XF6.out 2, cell_of XF6.out 3, cell_of XF6.out 4, cell_of XF6.out 5, cell_of XF6.out 6, cell_of XF6.out 7, cell_of XF6.out 8, cell_of XF6.out 9, cell_of XF6.out 10⟩
        have hblT : Below w6.heap.size w6 (w6.alloc (.cells #[.string (headName k), .bool false, .slice none 0 0, .slice A3 lp.length c3, .slice A4 lr.length c4, .slice A5 ll.length c5, .slice none 0 0, .slice none 0 0, .slice none 0 0, .slice none 0 0, .slice none 0 0] 34)) := (Below.refl _ _).alloc (Nat.le_refl _) _
        have HOA : Hid ((w6.alloc (.cells #[.string (headName k), .bool false, .slice none 0 0, .slice A3 lp.length c3, .slice A4 lr.length c4, .slice A5 ll.length c5, .slice none 0 0, .slice none 0 0, .slice none 0 0, .slice none 0 0, .slice none 0 0] 34)).ownsRow w.heap.size 34 11 u4 k (hs.flatMap hCells)) := Lib.hid (by have h := (HH6.out.bel hblT).row; rw [HSL.out] at h; exact h)
        have HRD : Hid (Reads (w6.alloc (.cells #[.string (headName k), .bool false, .slice none 0 0, .slice A3 lp.length c3, .slice A4 lr.length c4, .slice A5 ll.length c5, .slice none 0 0, .slice none 0 0, .slice none 0 0, .slice none 0 0, .slice none 0 0] 34)) (w6.heap.size + 1) 11 (some ⟨w6.heap.size, 0, none⟩) 1 [.string (headName k), .bool false, .slice none 0 0, .slice A3 lp.length c3, .slice A4 lr.length c4, .slice A5 ll.length c5, .slice none 0 0, .slice none 0 0, .slice none 0 0, .slice none 0 0, .slice none 0 0]) := Lib.hid (reads_newN w6 #[.string (headName k), .bool false, .slice none 0 0, .slice A3 lp.length c3, .slice A4 lr.length c4, .slice A5 ll.length c5, .slice none 0 0, .slice none 0 0, .slice none 0 0, .slice none 0 0, .slice none 0 0] 34 rfl)
        have hzf : w.heap.size ≤ w6.heap.size := C6.out.size
        go_wp2_with ((at_builtin; refine wpList_append_any _ rfl _ _ 24 rfl w.heap.size 34 j0 (.agg #[.string ⟨#[]⟩, .bool false, .slice none 0 0, .slice none 0 0, .slice none 0 0, .slice none 0 0, .slice none 0 0, .slice none 0 0, .slice none 0 0, .slice none 0 0, .slice none 0 0]) 11 240 Try.underlying24 ji jz0 jz1 jz2 rfl (by decide) u4 k _ rfl HOA.out _ (some ⟨w6.heap.size, 0, none⟩) 1 1 _ rfl HRD.out (by simp [Value.oneCell']) (by unfold maxLen; omega) (by omega) (by simp; omega) ?_; intro vN wN hownN hgN hvN; have HON := Lib.hid hownN; have HGN := Lib.hid hgN; have HVN := Lib.hid hvN; clear hownN hgN hvN))
        have hadd := (HH6.out.bel hblT).add (s0 := wr.heap.size) (RWF.out.chg (S := fun _ => False) (Chg.of_below hblT) (fun _ _ h => h)) hzr (fun y hy j hj => ((HH.out.rw_ y hy).blk j hj).2) (fun j hj => (HH.out.row.lt j hj).2) (fun j hj => HNW.out _ (fun j hj => by simp [Value.ownBlock] at hj) j hj) (by rw [HCE.out, HSL.out]; exact HON.out) HGN.out (fun j hj => by
          rcases HVN.out with e | e
          · exact .inl (by rw [e] at hj; exact hj)
          · rw [e] at hj; exact .inr (by simp at hj ⊢; omega))
        have hch : Chg (fun j => w.heap.size ≤ j) w6 wN := (Chg.of_below hblT).trans ((Chg.refl _ _).grown HGN.out (fun j hj => .inl (HOA.out.lt j hj).1))
        have HRN : Hid (DR D p6 wN) := Lib.hid (H6.out.chg hch (fun j hj => by have h1 := H0.out.bl.size; exact ⟨by omega, by omega, by omega⟩))
        have CN : Hid (Chg (fun k => k = D.Bd) w wN) := C6.out.step hch (fun i _ hi => .inr hi)
        have HADD := Lib.hid hadd
        clear hadd hch hblT x0 x1 x2 x3 x4 x5 x6 x7 x8 x9 x10
        go_roundw
        case rel => exact ⟨k + 1, hs ++ [(f, _)], p6, ⟨by omega, by omega⟩, by go_num, by rw [List.length_append, HSL.out]; rfl, Lib.hid (by
          have e1 : (hs.map (·.1)).length = k := by rw [List.length_map]; exact HSL.out
          rw [show k + 1 - 1 = (k - 1) + 1 by omega, headsK_snoc, ← HPOS.out.1, ← HPOS.out.2, e1, HFE.out, List.map_append]
          exact ⟨rfl, rfl⟩), HRN, Lib.hid ⟨HADD.out, fun x hx => by
            rcases List.mem_append.1 hx with h1 | h1
            · exact HRL.out x h1
            · simp at h1; subst h1; rw [HFR.out]; exact hlen4⟩, CN⟩
        case measure => simp [intOf] <;> omega
    · obtain rfl : k = n := by omega
      have hge : ¬ (k : Int) < q + 1 := by omega
      have e1 : headsV D.ws = headsK D.ws (k - 1) (mainHd D.ws) := by
        rw [headsV_eq, ← HQ.out]
        congr 1
        omega
      have HE1 := Lib.hid e1
      clear e1
      go_wp2_with fail
      go_ret
      exact ⟨_, hs, rfl, by rw [HE1.out]; exact HPOS.out.1, by rw [HE1.out, ← HPOS.out.2]; exact HR.out, HH.out, HC.out⟩
end Go.Proofs.Ythaniobijkdnoaa
