/- The draws outside a maker, and types that are drawn. Conditions: words of 64 bits. -/
import Derived.Test.YthaniobijkdnoaaLS
namespace Go.Proofs.Ythaniobijkdnoaa
open Go.RowKit

/-- the words that all draws come from -/
structure Wd where
  w0 : World
  Bd : Nat
  Bl : Nat
  la : Option Addr
  lc : Nat
  ws : List Int
structure WdOk (d : Wd) : Prop where
  iv : IV d.w0 (.slice d.la d.ws.length d.lc) d.ws
  wl : d.ws.length ≤ 1000000
  wr : ∀ x ∈ d.ws, -9223372036854775808 ≤ x ∧ x ≤ 9223372036854775807
  g1 : d.w0.heap.size ≤ d.Bd
  g2 : d.w0.heap.size ≤ d.Bl
  ne : d.Bd ≠ d.Bl
structure DR (D : Wd) (pos : Nat) (w : World) : Prop where
  d : w.heap[D.Bd]? = some (.cells #[.int .i64 pos] 3 (0, 0))
  l : w.heap[D.Bl]? = some (.cells #[.slice D.la D.ws.length D.lc] 22 (0, 0))
  bl : Below D.w0.heap.size D.w0 w
  pw : pos ≤ D.ws.length
theorem DR.chg {D : Wd} {pos : Nat} {w w' : World} {S : Nat → Prop} (h : DR D pos w) (hc : Chg S w w') (hS : ∀ k, S k → D.w0.heap.size ≤ k ∧ k ≠ D.Bd ∧ k ≠ D.Bl) : DR D pos w' :=
  ⟨(hc.block _ (heap_lt h.d) (fun e => (hS _ e).2.1 rfl)).trans h.d, (hc.block _ (heap_lt h.l) (fun e => (hS _ e).2.2 rfl)).trans h.l, ⟨hc.os.trans h.bl.os, hc.tape.trans h.bl.tape, hc.output.trans h.bl.output, Nat.le_trans h.bl.size hc.size, fun k hk => (hc.block k (by have := h.bl.size; omega) (fun e => by have := (hS k e).1; omega)).trans (h.bl.block k hk)⟩, h.pw⟩
theorem DR.bel {d : Wd} {pos : Nat} {w w' : World} (h : DR d pos w) (hb : Below w.heap.size w w') : DR d pos w' :=
  ⟨rd_bel hb (heap_lt h.d) h.d, rd_bel hb (heap_lt h.l) h.l, h.bl.trans (hb.mono h.bl.size), h.pw⟩
def DMP (d : Wd) (pos' : Nat) (w : World) (v : Value) (e : Ending) (w' : World) : Prop := e = .returned v ∧ DR d pos' w' ∧ Chg (fun k => k = d.Bd) w w'
theorem draw_dr {d : Wd} {pos : Nat} {w : World} (hd : WdOk d) (h : DR d pos w) (b : Int) (h1 : 1 ≤ b) (h2 : b ≤ 1000000) :
    Calls Try.prog 20 #[.int .i64 b, .pointer (some ⟨d.Bd, 0, none⟩), .pointer (some ⟨d.Bl, 0, none⟩)] w (DMP d (drP d.ws pos b) w (.int .i64 (drV d.ws pos b))) := by
  refine (draw_walk w d.Bd d.Bl d.la d.lc d.ws pos b h.d h.l (hd.iv.bel h.bl) hd.wl (by have := h.pw; have := hd.wl; omega) hd.wr h1 h2).mono ?_
  rintro e w' ⟨rfl, ⟨hp, rfl⟩ | ⟨hp, rfl⟩⟩
  · rw [hp]
    exact ⟨rfl, h, Chg.refl _ _⟩
  · refine ⟨rfl, ⟨?_, ?_, h.bl.setCell hd.g1 _, drP_le _ _ _ h.pw⟩, Chg.setCell (S := fun k => k = d.Bd) (p := ⟨d.Bd, 0, none⟩) (Chg.refl _ _) (.inl rfl) _⟩
    · rw [heap_set h.d 0, hp]
      rfl
    · exact rd_set (fun e => hd.ne e.symm) h.l

theorem typesK_len (ws : List Int) : ∀ (k p : Nat), (typesK ws k p).1.length = k := by
  intro k
  induction k with
  | zero => intro p; rfl
  | succ k ih => intro p; simp [typesK, ih]
theorem typesK_snoc (ws : List Int) : ∀ (k p : Nat), typesK ws (k + 1) p = ((typesK ws k p).1 ++ [if drV ws (typesK ws k p).2 3 = 0 then 2 else 1], drP ws (typesK ws k p).2 3) := by
  intro k
  induction k with
  | zero => intro p; rfl
  | succ k ih =>
    intro p
    rw [typesK, ih (drP ws p 3)]
    rfl
theorem typesK_ty (ws : List Int) : ∀ (k p : Nat), ∀ t ∈ (typesK ws k p).1, t = 1 ∨ t = 2 := by
  intro k
  induction k with
  | zero => intro p t ht; cases ht
  | succ k ih =>
    intro p t ht
    rcases List.mem_cons.1 ht with rfl | h
    · split
      · exact .inr rfl
      · exact .inl rfl
    · exact ih _ t h
/-- a row of types that is new -/
def TyPost (d : Wd) (xs : List Int) (pos' : Nat) (w : World) (e : Ending) (w' : World) : Prop := ∃ v, e = .returned v ∧ DR d pos' w' ∧ w'.ownsRow w.heap.size 59 1 v xs.length (xs.map (Value.int .i64)) ∧ Chg (fun k => k = d.Bd) w w'
theorem chgBd_row {d : Wd} {w w' w'' : World} {B n : Nat} {v : Value} {xs : List Value} (h : w.ownsRow B 59 1 v n xs) (hB : d.Bd < B) (hc : Chg (fun k => k = d.Bd) w w') : w'.ownsRow B 59 1 v n xs :=
  owns_of_block h fun k hk => hc.block k (h.lt k hk).2 (fun e => by have := (h.lt k hk).1; omega)
set_option maxRecDepth 100000 in
set_option maxHeartbeats 4000000 in
theorem types_dr {d : Wd} {pos : Nat} {w : World} (hd : WdOk d) (h : DR d pos w) (m : Int) (h1 : 0 ≤ m) (h2 : m ≤ 100) :
    Calls Try.prog 21 #[.func (.func 20) #[] #[.pointer (some ⟨d.Bd, 0, none⟩), .pointer (some ⟨d.Bl, 0, none⟩)], .int .i64 m] w (TyPost d (typesV d.ws m pos).1 (typesV d.ws m pos).2 w) := by
  obtain ⟨i0, hi, hz0, hz1, hz2⟩ := info_parts inf59
  have HD := Lib.hid hd
  have H0 := Lib.hid h
  have hBd : d.Bd < w.heap.size := heap_lt h.d
  clear hd h
  go_enter Try.func21, Try.ntmps21
  go_wp2_with fail
  refine (draw_dr HD.out H0.out (m + 1) (by omega) (by omega)).mono ?_
  rintro e w1 ⟨rfl, hd1, hc1⟩
  obtain ⟨q, hq⟩ : ∃ x, x = drV d.ws pos (m + 1) := ⟨_, rfl⟩
  have hqq : 0 ≤ q ∧ q < m + 1 := by rw [hq]; exact drV_bd _ _ _ (by omega) (by omega)
  obtain ⟨hq0, hq1⟩ := hqq
  rw [← hq]
  obtain ⟨n, rfl⟩ : ∃ n : Nat, q = n := ⟨q.toNat, by omega⟩
  have HQ := Lib.hid hq
  have hn : n ≤ 101 := by omega
  obtain ⟨p1, hp1⟩ : ∃ x, x = drP d.ws pos (m + 1) := ⟨_, rfl⟩
  have HP1 := Lib.hid hp1
  rw [← hp1] at hd1
  have H1 := Lib.hid hd1
  have C1 := Lib.hid hc1
  clear hq hp1 hd1 hc1
  go_wp2_with fail
  go_loopw [5, 11] (fun v i wr => ∃ k : Nat, k ≤ n ∧ i = .int .i64 k ∧ Hid (DR d (typesK d.ws k p1).2 wr) ∧ Hid (wr.ownsRow w.heap.size 59 1 v k ((typesK d.ws k p1).1.map (Value.int .i64))) ∧ Hid (Chg (fun k => k = d.Bd) w wr)) (fun _ i _ => n - (intOf i).toNat)
  case atStart => exact ⟨0, Nat.zero_le _, rfl, H1, World.ownsRow_nil _ _ _ _, C1⟩
  case round =>
    obtain ⟨k, hk, rfl, HR, HO, HC⟩ := hrel
    by_cases hlt : k < n
    · go_wp2_with fail
      refine (draw_dr HD.out HR.out 3 (by omega) (by omega)).mono ?_
      rintro e w2 ⟨rfl, hd2, hc2⟩
      have hzw : w.heap.size ≤ w2.heap.size := Nat.le_trans HC.out.size hc2.size
      have HO2 := Lib.hid (chgBd_row (w'' := w) HO.out hBd hc2)
      have H2 := Lib.hid hd2
      have C2 := Lib.hid (HC.out.trans hc2)
      obtain ⟨y, hy⟩ : ∃ x, x = drV d.ws (typesK d.ws k p1).2 3 := ⟨_, rfl⟩
      have hyq : 0 ≤ y ∧ y < 3 := by rw [hy]; exact drV_bd _ _ _ (by omega) (by omega)
      obtain ⟨hy0, hy1⟩ := hyq
      rw [← hy]
      have HY := Lib.hid hy
      clear hd2 hc2 hy
      by_cases hyz : y = 0
      · have HYZ : Hid (drV d.ws (typesK d.ws k p1).2 3 = 0) := HY.out.symm.trans hyz
        subst hyz
        have HRD := Lib.hid (reads_new1 w2 2 59 w2.heap.size rfl)
        have HOA : Hid ((w2.alloc (.cells #[.int .i64 2] 59)).ownsRow w.heap.size 59 1 u5 k ((typesK d.ws k p1).1.map (Value.int .i64))) := HO2.out.alloc _
        go_wp2_with ((at_builtin; refine wpList_append_any _ rfl _ _ 29 rfl w.heap.size 59 i0 (.int .i64 0) 1 8 Try.underlying29 hi hz0 hz1 hz2 rfl (by decide) _ _ _ rfl HOA.out _ (some ⟨w2.heap.size, 0, none⟩) 1 1 [.int .i64 2] rfl HRD.out (by simp [Value.oneCell']) (by unfold maxLen; omega) (by omega) (by simp; omega) ?_; intro v3 w3 hown3 hg3 _; have HO3 := Lib.hid hown3; have HG3 := Lib.hid hg3; clear hown3 hg3))
        have hch : Chg (fun j => w.heap.size ≤ j) w2 w3 := ((Chg.refl _ _).alloc _).grown HG3.out (fun j hj => .inl (HOA.out.lt j hj).1)
        have H3 : Hid (DR d (drP d.ws (typesK d.ws k p1).2 3) w3) := H2.out.chg hch (fun j hj => by have h1 := H0.out.bl.size; have h2 := heap_lt H0.out.l; exact ⟨by omega, by omega, by omega⟩)
        have C3 : Hid (Chg (fun k => k = d.Bd) w w3) := C2.out.step hch (fun i _ hi => .inr hi)
        clear hch
        go_roundw
        case rel => exact ⟨k + 1, by omega, by go_num, Lib.hid (by rw [typesK_snoc]; exact H3.out), Lib.hid (by rw [typesK_snoc, List.map_append, if_pos HYZ.out]; exact HO3.out), C3⟩
        case measure => simp [intOf] <;> omega
      · have HYZ : Hid (¬ drV d.ws (typesK d.ws k p1).2 3 = 0) := Lib.hid (by rw [← HY.out]; exact hyz)
        have hyq : (y == 0) = false := by simpa using hyz
        have HRD := Lib.hid (reads_new1 w2 1 59 w2.heap.size rfl)
        have HOA : Hid ((w2.alloc (.cells #[.int .i64 1] 59)).ownsRow w.heap.size 59 1 u5 k ((typesK d.ws k p1).1.map (Value.int .i64))) := HO2.out.alloc _
        go_wp2_with ((at_builtin; refine wpList_append_any _ rfl _ _ 29 rfl w.heap.size 59 i0 (.int .i64 0) 1 8 Try.underlying29 hi hz0 hz1 hz2 rfl (by decide) _ _ _ rfl HOA.out _ (some ⟨w2.heap.size, 0, none⟩) 1 1 [.int .i64 1] rfl HRD.out (by simp [Value.oneCell']) (by unfold maxLen; omega) (by omega) (by simp; omega) ?_; intro v3 w3 hown3 hg3 _; have HO3 := Lib.hid hown3; have HG3 := Lib.hid hg3; clear hown3 hg3))
        have hch : Chg (fun j => w.heap.size ≤ j) w2 w3 := ((Chg.refl _ _).alloc _).grown HG3.out (fun j hj => .inl (HOA.out.lt j hj).1)
        have H3 : Hid (DR d (drP d.ws (typesK d.ws k p1).2 3) w3) := H2.out.chg hch (fun j hj => by have h1 := H0.out.bl.size; have h2 := heap_lt H0.out.l; exact ⟨by omega, by omega, by omega⟩)
        have C3 : Hid (Chg (fun k => k = d.Bd) w w3) := C2.out.step hch (fun i _ hi => .inr hi)
        clear hch
        go_roundw
        case rel => exact ⟨k + 1, by omega, by go_num, Lib.hid (by rw [typesK_snoc]; exact H3.out), Lib.hid (by rw [typesK_snoc, List.map_append, if_neg HYZ.out]; exact HO3.out), C3⟩
        case measure => simp [intOf] <;> omega
    · obtain rfl : k = n := by omega
      go_wp2_with fail
      go_ret
      have e1 : typesV d.ws m pos = typesK d.ws k p1 := by rw [typesV, ← HQ.out, ← HP1.out, Int.toNat_natCast]
      rw [e1]
      exact ⟨_, rfl, HR.out, by rw [typesK_len]; exact HO.out, HC.out⟩
end Go.Proofs.Ythaniobijkdnoaa
