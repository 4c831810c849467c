/- The input and the limits that words give. Conditions: words of 64 bits, lengths of 63 bits. -/
import Derived.Test.YthaniobijkdnoaaLV

namespace Go.Proofs.Ythaniobijkdnoaa
open Go.RowKit

theorem mod2_bd (x b : Int) (h1 : 1 ≤ b) (h2 : b ≤ 1000000) : 0 ≤ (x.tmod b + b) % b ∧ (x.tmod b + b) % b < b := by
  have h := rem_bd x b h1 h2
  exact ⟨Int.emod_nonneg _ (by omega), Int.emod_lt_of_pos _ (by omega)⟩
theorem modulo_any (x b : Int) (w : World) (hx : -9223372036854775808 ≤ x ∧ x ≤ 9223372036854775807) (h1 : 1 ≤ b) (h2 : b ≤ 1000000) :
    Calls Try.prog 12 #[.int .i64 x, .int .i64 b] w fun e w' => e = .returned (.int .i64 ((x.tmod b + b) % b)) ∧ w = w' := by
  obtain ⟨r, hr⟩ : ∃ r, r = x.tmod b := ⟨_, rfl⟩
  obtain ⟨hb1, hb2, hb3, hb4⟩ := rem_bd x b h1 h2
  obtain ⟨hx1, hx2⟩ := hx
  obtain ⟨hc1, hc2⟩ := mod2_bd x b h1 h2
  go_enter Try.func12, Try.ntmps12
  go_wp2
  go_ret
  exact ⟨rfl, rfl⟩
/-- the input's post -/
def InPost (ws : List Int) (w : World) (e : Ending) (w' : World) : Prop := ∃ v1 v2, e = .returned (.agg #[v1, v2]) ∧ IV w' v1 (ws.take 4) ∧ IV w' v2 (ws.drop 4) ∧ Below w.heap.size w w'
theorem iv_owned0 {w : World} {base n k : Nat} {e : TypeId} {A : Option Addr} {xs : List Int} (h : w.ownsRow base e 1 (.slice A (0 + n) k) (0 + n) ([] ++ xs.map (Value.int .i64))) (hn : xs.length = n) (hm : n ≤ maxLen) : IV w (.slice A n k) xs := by
  subst hn
  rw [Nat.zero_add, List.nil_append] at h
  exact iv_of_owned h hm
theorem kept_none {w w' : World} {base size n : Nat} {e : TypeId} {v : Value} {xs : List Value} (h : w.ownsRow base e size v n xs) (hg : w.grownBy w' (Value.slice none 0 0).ownBlock) : w'.ownsRow base e size v n xs := h.kept hg (by
  cases hv : v.ownBlock with
  | none => exact .inl rfl
  | some k => exact .inr (by simp [Value.ownBlock]))
theorem reads_iv {w : World} {a : Option Addr} {n c : Nat} {xs : List Int} (h : IV w (.slice a n c) xs) (W : World) (hb : Below w.heap.size w W) : Reads W W.heap.size 1 a n (xs.map (Value.int .i64)) := by
  obtain ⟨e, hr⟩ := reads_slice (h.bel hb)
  rw [e]; exact hr
theorem iv_take {w : World} {a : Option Addr} {n c : Nat} {xs : List Int} (h : IV w (.slice a n c) xs) (k : Nat) (hk : k ≤ n) : IV w (.slice a k c) (xs.take k) := by
  obtain ⟨a', cap, e, h1, h2, hc⟩ := h
  simp only [Value.slice.injEq] at e
  obtain ⟨rfl, rfl, rfl⟩ := e
  have hl : (xs.take k).length = k := by rw [List.length_take]; omega
  refine ⟨_, _, by rw [hl], by omega, h2, fun i hi => ?_⟩
  have hi2 : i < k := by omega
  obtain ⟨b, off, e, hb, hcc⟩ := hc i (by omega)
  exact ⟨b, off, e, hb, by rw [List.getElem_take]; exact hcc⟩
theorem reads_drop {w : World} {a : Option Addr} {n c : Nat} {xs : List Int} (h : IV w (.slice a n c) xs) (k : Nat) (hk : k ≤ n) (W : World) (hb : Below w.heap.size w W) : Reads W W.heap.size 1 (if c = k then a else a.map (·.add k)) (n - k) ((xs.drop k).map (Value.int .i64)) := by
  have hr := reads_iv h W hb
  have hnc : n ≤ c := by
    obtain ⟨a', cap, e, h1, h2, hc⟩ := h
    simp only [Value.slice.injEq] at e
    omega
  have := hr.cut hk hnc
  rw [Nat.mul_one] at this
  rw [List.map_drop]
  exact this
set_option maxRecDepth 100000 in
set_option maxHeartbeats 1000000 in
theorem input_any (ws : List Int) (v : Value) (w : World) (hv : IV w v ws) (hl0 : ws.length ≤ 1000000) : Calls Try.prog 11 #[v] w (InPost ws w) := by
  obtain ⟨j0, ji, jz0, jz1, jz2⟩ := info_parts inf3
  have hv' := hv
  obtain ⟨a, cap, rfl, hl, hm, hc⟩ := hv'
  clear hc
  obtain ⟨n, hn⟩ : ∃ n, n = ws.length := ⟨_, rfl⟩
  rw [← hn] at hl hl0 hv ⊢
  have HN := Lib.hid hn
  have HV := Lib.hid hv
  clear hn hv
  by_cases hk : n ≤ 4
  · skip
    have HR1 : Hid (∀ W, Below w.heap.size w W → Reads W W.heap.size 1 a n ((ws.take n).map (Value.int .i64))) := fun W hb => reads_iv (iv_take HV.out n (by omega)) W hb
    have HR2 : Hid (∀ W, Below w.heap.size w W → Reads W W.heap.size 1 (if cap = n then a else a.map (·.add n)) 0 ((ws.drop n).map (Value.int .i64))) := fun W hb => by have h := reads_drop HV.out n (by omega) W hb; rwa [Nat.sub_self] at h
    obtain ⟨XS1, hx1⟩ : ∃ x, x = ws.take n := ⟨_, rfl⟩
    obtain ⟨XS2, hx2⟩ : ∃ x, x = ws.drop n := ⟨_, rfl⟩
    rw [← hx1] at HR1
    rw [← hx2] at HR2
    have HX1 : Hid (XS1 = ws.take 4 ∧ XS1.length = n) := Lib.hid ⟨by rw [hx1]; rw [List.take_of_length_le (by have := HN.out; omega), List.take_of_length_le (by have := HN.out; omega)], by rw [hx1, List.length_take]; have := HN.out; omega⟩
    have HX2 : Hid (XS2 = ws.drop 4 ∧ XS2.length = 0) := Lib.hid ⟨by rw [hx2]; rw [List.drop_eq_nil_of_le (by have := HN.out; omega), List.drop_eq_nil_of_le (by have := HN.out; omega)], by rw [hx2, List.length_drop]; have := HN.out; omega⟩
    clear hx1 hx2
    go_enter Try.func11, Try.ntmps11
    go_wp2
    go_region_law
      (first
        | (refine step_append_any _ rfl (.const (.slice none 0 0)) (.tmp 9) 22 rfl (w.heap.size + 1) 3 j0 (.int .i64 0) 1 8 Try.underlying22 ji jz0 jz1 jz2 rfl (by decide) (.slice none 0 0) 0 [] (by rfl) (World.ownsRow_nil _ _ _ _) _ _ n _ (XS1.map (Value.int .i64)) (by rfl) (HR1.out _ (by repeat (first | with_reducible exact Below.refl _ _ | with_reducible exact HB1.out | with_reducible exact HB2.out | with_reducible refine Below.drew ?_ | with_reducible refine Below.drewN ?_ _ | with_reducible refine Below.alloc ?_ (Nat.le_refl _) _))) (ints_one _) (by unfold maxLen; omega) (by omega) (by first | (have := heap_lt HBK1.out; simp; omega) | (simp; done)) ?_; intro v1 w1 hown1 hg1 _; obtain ⟨A1, k1, rfl⟩ := row_formN hown1; have HO1 := Lib.hid hown1; have HBK1 : Hid (w1.heap[w.heap.size]? = some (.cells #[.slice none 0 0, .slice none 0 0] 39 (0, 0))) := (hg1.block _ (by first | (have := heap_lt HBK1.out; simp; omega) | (have := heap_lt HBK2.out; simp; omega) | (simp; done)) (by simp [Value.ownBlock])).trans (by first | exact HBK1.out | exact HBK2.out | exact heap_new _ _); have HB1 : Hid (Below w.heap.size w w1) := Below.grown (by repeat (first | with_reducible exact Below.refl _ _ | with_reducible exact HB1.out | with_reducible exact HB2.out | with_reducible refine Below.drew ?_ | with_reducible refine Below.drewN ?_ _ | with_reducible refine Below.alloc ?_ (Nat.le_refl _) _)) hg1 (by first | (have := heap_lt HBK1.out; simp; omega) | (simp; done)) (by simp [Value.ownBlock]); have c01 := cell_of HBK1.out 0; have c11 := cell_of HBK1.out 1; have f01 := frozen_of HBK1.out 0; have f11 := frozen_of HBK1.out 1; simp only [List.getElem?_toArray, List.getElem?_cons_zero, List.getElem?_cons_succ] at c01 c11; clear hown1 hg1)
        | (refine step_append_any _ rfl (.const (.slice none 0 0)) (.tmp 13) 22 rfl (w.heap.size + 1) 3 j0 (.int .i64 0) 1 8 Try.underlying22 ji jz0 jz1 jz2 rfl (by decide) (.slice none 0 0) 0 [] (by rfl) (World.ownsRow_nil _ _ _ _) _ _ 0 _ (XS2.map (Value.int .i64)) (by rfl) (HR2.out _ (by repeat (first | with_reducible exact Below.refl _ _ | with_reducible exact HB1.out | with_reducible exact HB2.out | with_reducible refine Below.drew ?_ | with_reducible refine Below.drewN ?_ _ | with_reducible refine Below.alloc ?_ (Nat.le_refl _) _))) (ints_one _) (by unfold maxLen; omega) (by omega) (by first | (have := heap_lt HBK1.out; simp; omega) | (simp; done)) ?_; intro v2 w2 hown2 hg2 _; obtain ⟨A2, k2, rfl⟩ := row_formN hown2; have HO2 := Lib.hid hown2; have HBK2 : Hid (w2.heap[w.heap.size]? = some (.cells #[.slice none 0 0, .slice none 0 0] 39 (0, 0))) := (hg2.block _ (by first | (have := heap_lt HBK1.out; simp; omega) | (have := heap_lt HBK2.out; simp; omega) | (simp; done)) (by simp [Value.ownBlock])).trans (by first | exact HBK1.out | exact HBK2.out | exact heap_new _ _); have HB2 : Hid (Below w.heap.size w w2) := Below.grown (by repeat (first | with_reducible exact Below.refl _ _ | with_reducible exact HB1.out | with_reducible exact HB2.out | with_reducible refine Below.drew ?_ | with_reducible refine Below.drewN ?_ _ | with_reducible refine Below.alloc ?_ (Nat.le_refl _) _)) hg2 (by first | (have := heap_lt HBK1.out; simp; omega) | (simp; done)) (by simp [Value.ownBlock]); have c02 := cell_of HBK2.out 0; have c12 := cell_of HBK2.out 1; have f02 := frozen_of HBK2.out 0; have f12 := frozen_of HBK2.out 1; simp only [List.getElem?_toArray, List.getElem?_cons_zero, List.getElem?_cons_succ] at c02 c12; have HO12 := Lib.hid (kept_none HO1.out hg2); clear hown2 hg2))
    all_goals
      go_wp2_with fail
      all_goals
        refine bodyPost_ret (v := .agg #[.slice A1 n k1, .slice A2 0 k2]) (by simp [results, Try.results11, go_sem, c02, c12]) rfl ?_
        refine ⟨_, _, rfl, ?_, ?_, ?_⟩
        · rw [← HX1.out.1]
          exact iv_owned0 (ownsRow_setCell_below (ownsRow_setCell_below HO12.out (by simp) _) (by simp) _) HX1.out.2 (by unfold maxLen; omega)
        · rw [← HX2.out.1]
          exact iv_owned0 (ownsRow_setCell_below (ownsRow_setCell_below HO2.out (by simp) _) (by simp) _) HX2.out.2 (by unfold maxLen; omega)
        · exact (HB2.out.setCell (Nat.le_refl _) _).setCell (Nat.le_refl _) _
  · have hc4 : (4 : Int) ≤ (cap : Int) := by omega
    have hn4 : (4 : Int) ≤ (n : Int) := by omega
    have hc4' : ¬ cap = 4 := by omega
    have HR1 : Hid (∀ W, Below w.heap.size w W → Reads W W.heap.size 1 a 4 ((ws.take 4).map (Value.int .i64))) := fun W hb => reads_iv (iv_take HV.out 4 (by omega)) W hb
    have HR2 : Hid (∀ W, Below w.heap.size w W → Reads W W.heap.size 1 (a.map (·.add 4)) (n - 4) ((ws.drop 4).map (Value.int .i64))) := fun W hb => by have h := reads_drop HV.out 4 (by omega) W hb; rwa [if_neg hc4'] at h
    obtain ⟨XS1, hx1⟩ : ∃ x, x = ws.take 4 := ⟨_, rfl⟩
    obtain ⟨XS2, hx2⟩ : ∃ x, x = ws.drop 4 := ⟨_, rfl⟩
    rw [← hx1] at HR1
    rw [← hx2] at HR2
    have HX1 : Hid (XS1 = ws.take 4 ∧ XS1.length = 4) := Lib.hid ⟨by rw [hx1], by rw [hx1, List.length_take]; have := HN.out; omega⟩
    have HX2 : Hid (XS2 = ws.drop 4 ∧ XS2.length = (n - 4)) := Lib.hid ⟨by rw [hx2], by rw [hx2, List.length_drop]; have := HN.out; omega⟩
    clear hx1 hx2
    go_enter Try.func11, Try.ntmps11
    go_wp2
    go_region_law
      (first
        | (refine step_append_any _ rfl (.const (.slice none 0 0)) (.tmp 9) 22 rfl (w.heap.size + 1) 3 j0 (.int .i64 0) 1 8 Try.underlying22 ji jz0 jz1 jz2 rfl (by decide) (.slice none 0 0) 0 [] (by rfl) (World.ownsRow_nil _ _ _ _) _ _ 4 _ (XS1.map (Value.int .i64)) (by rfl) (HR1.out _ (by repeat (first | with_reducible exact Below.refl _ _ | with_reducible exact HB1.out | with_reducible exact HB2.out | with_reducible refine Below.drew ?_ | with_reducible refine Below.drewN ?_ _ | with_reducible refine Below.alloc ?_ (Nat.le_refl _) _))) (ints_one _) (by unfold maxLen; omega) (by omega) (by first | (have := heap_lt HBK1.out; simp; omega) | (simp; done)) ?_; intro v1 w1 hown1 hg1 _; obtain ⟨A1, k1, rfl⟩ := row_formN hown1; have HO1 := Lib.hid hown1; have HBK1 : Hid (w1.heap[w.heap.size]? = some (.cells #[.slice none 0 0, .slice none 0 0] 39 (0, 0))) := (hg1.block _ (by first | (have := heap_lt HBK1.out; simp; omega) | (have := heap_lt HBK2.out; simp; omega) | (simp; done)) (by simp [Value.ownBlock])).trans (by first | exact HBK1.out | exact HBK2.out | exact heap_new _ _); have HB1 : Hid (Below w.heap.size w w1) := Below.grown (by repeat (first | with_reducible exact Below.refl _ _ | with_reducible exact HB1.out | with_reducible exact HB2.out | with_reducible refine Below.drew ?_ | with_reducible refine Below.drewN ?_ _ | with_reducible refine Below.alloc ?_ (Nat.le_refl _) _)) hg1 (by first | (have := heap_lt HBK1.out; simp; omega) | (simp; done)) (by simp [Value.ownBlock]); have c01 := cell_of HBK1.out 0; have c11 := cell_of HBK1.out 1; have f01 := frozen_of HBK1.out 0; have f11 := frozen_of HBK1.out 1; simp only [List.getElem?_toArray, List.getElem?_cons_zero, List.getElem?_cons_succ] at c01 c11; clear hown1 hg1)
        | (refine step_append_any _ rfl (.const (.slice none 0 0)) (.tmp 13) 22 rfl (w.heap.size + 1) 3 j0 (.int .i64 0) 1 8 Try.underlying22 ji jz0 jz1 jz2 rfl (by decide) (.slice none 0 0) 0 [] (by rfl) (World.ownsRow_nil _ _ _ _) _ _ (n - 4) _ (XS2.map (Value.int .i64)) (by rfl) (HR2.out _ (by repeat (first | with_reducible exact Below.refl _ _ | with_reducible exact HB1.out | with_reducible exact HB2.out | with_reducible refine Below.drew ?_ | with_reducible refine Below.drewN ?_ _ | with_reducible refine Below.alloc ?_ (Nat.le_refl _) _))) (ints_one _) (by unfold maxLen; omega) (by omega) (by first | (have := heap_lt HBK1.out; simp; omega) | (simp; done)) ?_; intro v2 w2 hown2 hg2 _; obtain ⟨A2, k2, rfl⟩ := row_formN hown2; have HO2 := Lib.hid hown2; have HBK2 : Hid (w2.heap[w.heap.size]? = some (.cells #[.slice none 0 0, .slice none 0 0] 39 (0, 0))) := (hg2.block _ (by first | (have := heap_lt HBK1.out; simp; omega) | (have := heap_lt HBK2.out; simp; omega) | (simp; done)) (by simp [Value.ownBlock])).trans (by first | exact HBK1.out | exact HBK2.out | exact heap_new _ _); have HB2 : Hid (Below w.heap.size w w2) := Below.grown (by repeat (first | with_reducible exact Below.refl _ _ | with_reducible exact HB1.out | with_reducible exact HB2.out | with_reducible refine Below.drew ?_ | with_reducible refine Below.drewN ?_ _ | with_reducible refine Below.alloc ?_ (Nat.le_refl _) _)) hg2 (by first | (have := heap_lt HBK1.out; simp; omega) | (simp; done)) (by simp [Value.ownBlock]); have c02 := cell_of HBK2.out 0; have c12 := cell_of HBK2.out 1; have f02 := frozen_of HBK2.out 0; have f12 := frozen_of HBK2.out 1; simp only [List.getElem?_toArray, List.getElem?_cons_zero, List.getElem?_cons_succ] at c02 c12; have HO12 := Lib.hid (kept_none HO1.out hg2); clear hown2 hg2))
    all_goals
      go_wp2_with fail
      all_goals
        refine bodyPost_ret (v := .agg #[.slice A1 4 k1, .slice A2 (n - 4) k2]) (by simp [results, Try.results11, go_sem, c02, c12]) rfl ?_
        refine ⟨_, _, rfl, ?_, ?_, ?_⟩
        · rw [← HX1.out.1]
          exact iv_owned0 (ownsRow_setCell_below (ownsRow_setCell_below HO12.out (by simp) _) (by simp) _) HX1.out.2 (by unfold maxLen; omega)
        · rw [← HX2.out.1]
          exact iv_owned0 (ownsRow_setCell_below (ownsRow_setCell_below HO2.out (by simp) _) (by simp) _) HX2.out.2 (by unfold maxLen; omega)
        · exact (HB2.out.setCell (Nat.le_refl _) _).setCell (Nat.le_refl _) _
end Go.Proofs.Ythaniobijkdnoaa

namespace Go.Proofs.Ythaniobijkdnoaa
open Go.RowKit

def byV : Nat → Int
  | 0 => 500
  | 1 => 20
  | 2 => 20
  | _ => 60
def limV (ws : List Int) (i : Nat) : Int := if i < ws.length then (ws.getD i 0).tmod (byV i) % byV i else byV i - 1
def limAt (ws : List Int) (k i : Nat) : Int := if i < k then limV ws i else 0
def LimPost (ws : List Int) (w : World) (e : Ending) (w' : World) : Prop := e = .returned (.agg #[.int .i64 (limV ws 0), .int .i64 (limV ws 1), .int .i64 (limV ws 2), .int .i64 (limV ws 3)]) ∧ Below w.heap.size w w'
/-- what the loop keeps -/
structure LimI (ws : List Int) (w : World) (k : Nat) (wr : World) : Prop where
  r : wr.heap[w.heap.size]? = some (.cells #[.int .i64 0, .int .i64 0, .int .i64 0, .int .i64 0] 45 (0, 0))
  b : wr.heap[w.heap.size + 1]? = some (.cells #[.int .i64 500, .int .i64 20, .int .i64 20, .int .i64 60] 41 (0, 0))
  n : wr.heap[w.heap.size + 2]? = some (.cells #[.int .i64 (limAt ws k 0), .int .i64 (limAt ws k 1), .int .i64 (limAt ws k 2), .int .i64 (limAt ws k 3)] 41 (0, 0))
  bel : Below w.heap.size w wr
theorem LimI.step {ws : List Int} {w wr : World} {k : Nat} (h : LimI ws w k wr) (hk : k < 4) : LimI ws w (k + 1) (wr.setCell ⟨w.heap.size + 2, k, none⟩ (.int .i64 (limV ws k))) := by
  refine ⟨rd_set (by simp) h.r, rd_set (by simp) h.b, ?_, h.bel.setCell (by simp) _⟩
  rw [heap_set h.n]
  have e : k = 0 ∨ k = 1 ∨ k = 2 ∨ k = 3 := by omega
  rcases e with rfl | rfl | rfl | rfl <;> simp [limAt]
theorem sz_alloc (w : World) (o : Obj) : (w.alloc o).heap.size = w.heap.size + 1 := by simp
theorem LimI.start (ws : List Int) (w : World) : LimI ws w 0 (((w.alloc (.cells #[.int .i64 0, .int .i64 0, .int .i64 0, .int .i64 0] 45)).alloc (.cells #[.int .i64 500, .int .i64 20, .int .i64 20, .int .i64 60] 41)).alloc (.cells #[.int .i64 0, .int .i64 0, .int .i64 0, .int .i64 0] 41)) := by
  refine ⟨?_, ?_, ?_, ?_⟩
  · exact (heap_old _ _ _ (by simp only [sz_alloc]; omega)).trans ((heap_old _ _ _ (by simp only [sz_alloc]; omega)).trans (heap_new _ _))
  · refine (heap_old _ _ _ (by simp only [sz_alloc]; omega)).trans ?_
    have h := heap_new (w.alloc (.cells #[.int .i64 0, .int .i64 0, .int .i64 0, .int .i64 0] 45)) (.cells #[.int .i64 500, .int .i64 20, .int .i64 20, .int .i64 60] 41)
    rw [sz_alloc] at h
    exact h
  · have h := heap_new ((w.alloc (.cells #[.int .i64 0, .int .i64 0, .int .i64 0, .int .i64 0] 45)).alloc (.cells #[.int .i64 500, .int .i64 20, .int .i64 20, .int .i64 60] 41)) (.cells #[.int .i64 0, .int .i64 0, .int .i64 0, .int .i64 0] 41)
    rw [sz_alloc, sz_alloc] at h
    exact h
  · exact (((Below.refl _ _).alloc (Nat.le_refl _) _).alloc (by simp only [sz_alloc]; omega) _).alloc (by simp only [sz_alloc]; omega) _
theorem LimI.drew {ws : List Int} {w wr : World} {k : Nat} (h : LimI ws w k wr) : LimI ws w k wr.drew := ⟨h.r, h.b, h.n, h.bel.drew⟩
set_option maxRecDepth 100000 in
set_option maxHeartbeats 2000000 in
theorem limits_any (ws : List Int) (v : Value) (w : World) (hv : IV w v ws) (hl0 : ws.length ≤ 1000000) (hr : ∀ x ∈ ws, -9223372036854775808 ≤ x ∧ x ≤ 9223372036854775807) : Calls Try.prog 14 #[v] w (LimPost ws w) := by
  have hv' := hv
  obtain ⟨a, cap, rfl, hl, hm, hc⟩ := hv'
  clear hc
  obtain ⟨n, hn⟩ : ∃ n, n = ws.length := ⟨_, rfl⟩
  rw [← hn] at hl hl0 hv ⊢
  have HN := Lib.hid hn
  have HV := Lib.hid hv
  have HR := Lib.hid hr
  clear hn hv hr
  go_enter Try.func14, Try.ntmps14
  go_wp2
  go_loopw [8] (fun i wr => ∃ k : Nat, k ≤ 4 ∧ i = .int .i64 k ∧ Hid (LimI ws w k wr)) (fun i _ => 4 - (intOf i).toNat)
  case atStart => exact ⟨0, by omega, rfl, Lib.hid (LimI.start ws w)⟩
  case round =>
    obtain ⟨k, hk, rfl, HI⟩ := hrel
    by_cases hlt : k < 4
    · have n0 := cell_of HI.out.n k
      have nf := frozen_of HI.out.n k
      have b0 := cell_of HI.out.b k
      have n0' : wr.cell? ⟨w.heap.size + 2, k, none⟩ = some (.int .i64 (limAt ws k k)) := by
        rw [n0]
        have e : k = 0 ∨ k = 1 ∨ k = 2 ∨ k = 3 := by omega
        rcases e with rfl | rfl | rfl | rfl <;> rfl
      have b0' : wr.cell? ⟨w.heap.size + 1, k, none⟩ = some (.int .i64 (byV k)) := by
        rw [b0]
        have e : k = 0 ∨ k = 1 ∨ k = 2 ∨ k = 3 := by omega
        rcases e with rfl | rfl | rfl | rfl <;> rfl
      have hby : 1 ≤ byV k ∧ byV k ≤ 1000000 := by
        have e : k = 0 ∨ k = 1 ∨ k = 2 ∨ k = 3 := by omega
        rcases e with rfl | rfl | rfl | rfl <;> simp [byV]
      obtain ⟨by1, by2⟩ := hby
      clear n0 b0
      by_cases hkn : k < n
      · have hkl : k < ws.length := by have := HN.out; omega
        obtain ⟨_, _, he, _, _, hc⟩ := (HV.out.bel HI.out.bel)
        simp only [Value.slice.injEq] at he
        obtain ⟨rfl, _, rfl⟩ := he
        obtain ⟨g, off, rfl, hg, hcell⟩ := hc k hkl
        have hx := HR.out _ (List.getElem_mem hkl)
        obtain ⟨x, hxx⟩ : ∃ x, x = ws[k] := ⟨_, rfl⟩
        rw [← hxx] at hcell hx
        obtain ⟨hb1, hb2, hb3, hb4⟩ := rem_bd x (byV k) by1 by2
        obtain ⟨hx1, hx2⟩ := hx
        obtain ⟨hc1, hc2⟩ := mod2_bd x (byV k) by1 by2
        rw [Int.add_emod_right] at hc1 hc2
        have HL : Hid (limV ws k = x.tmod (byV k) % byV k) := Lib.hid (by
          rw [limV, if_pos hkl, List.getD_eq_getElem?_getD, List.getElem?_eq_getElem hkl, hxx]; rfl)
        generalize hby : byV k = bb at *
        clear hc hxx hkl hby
        have hbb0 : ¬ bb = 0 := by omega
        go_wp2
        go_region
        all_goals
          go_wp2
          go_round
          case rel => exact ⟨k + 1, by omega, by go_num, Lib.hid (by have h := (LimI.step HI.out hlt).drew; rw [HL.out] at h; exact h)⟩
          case measure => simp [intOf] <;> omega
      · have HL : Hid (limV ws k = byV k - 1) := Lib.hid (by have := HN.out; rw [limV, if_neg (by omega)])
        generalize hby : byV k = bb at *
        clear hby
        go_wp2
        go_roundw
        case rel => exact ⟨k + 1, by omega, by go_num, Lib.hid (by have h := (LimI.step HI.out hlt); rw [HL.out] at h; exact h)⟩
        case measure => simp [intOf] <;> omega
    · obtain rfl : k = 4 := by omega
      have n0 := cell_of HI.out.n 0
      have n1 := cell_of HI.out.n 1
      have n2 := cell_of HI.out.n 2
      have n3 := cell_of HI.out.n 3
      have r0 := cell_of HI.out.r 0
      have r1 := cell_of HI.out.r 1
      have r2 := cell_of HI.out.r 2
      have r3 := cell_of HI.out.r 3
      have f0 := frozen_of HI.out.r 0
      have f1 := frozen_of HI.out.r 1
      have f2 := frozen_of HI.out.r 2
      have f3 := frozen_of HI.out.r 3
      simp [limAt] at n0 n1 n2 n3 r0 r1 r2 r3
      go_wp2
      refine bodyPost_ret (v := .agg #[.int .i64 (limV ws 0), .int .i64 (limV ws 1), .int .i64 (limV ws 2), .int .i64 (limV ws 3)]) (by simp [results, Try.results14, go_sem, r0, r1, r2, r3]) rfl ⟨rfl, (((HI.out.bel.setCell (Nat.le_refl _) _).setCell (Nat.le_refl _) _).setCell (Nat.le_refl _) _).setCell (Nat.le_refl _) _⟩
end Go.Proofs.Ythaniobijkdnoaa
