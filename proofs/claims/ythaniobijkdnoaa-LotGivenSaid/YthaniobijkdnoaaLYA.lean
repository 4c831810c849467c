/- What a round of lot.Program's loop keeps. No condition beyond each theorem's premises. -/
import Derived.Test.YthaniobijkdnoaaLX
namespace Go.Proofs.Ythaniobijkdnoaa
open Go.RowKit

structure PI (D : Wd) (w3 : World) (PP : Nat) (hs : List (Fn × HVal)) (all : List Fn) (p0 i pos : Nat) (pv : Value) (done : List (Fn × HVal × Gh)) (wr : World) : Prop where
  dr : DR D pos wr
  ch : Chg (SP D hs i) w3 wr
  pp : wr.heap[PP]? = some (.cells #[pv] 26 (0, 0))
  row : wr.ownsRow w3.heap.size 34 11 pv i (done.flatMap dCells)
  ps : pos = posF D.ws all 0 p0 i
  len : done.length = i
  pn : pv.ownBlock ≠ some PP
  dn : ∀ j y, done[j]? = some y → (∃ x, hs[j]? = some x ∧ y.2.1 = x.2) ∧ y.1 = funcOf D.ws all j (posF D.ws all 0 p0 j) ∧ Dn w3 wr PP pv y
def ProgPost (ws : List Int) (w : World) (e : Ending) (w' : World) : Prop := ∃ v, e = .returned v ∧ PV w' v (progV ws) ∧ Below w.heap.size w w'
theorem mk_start {D : Wd} {av : Value} {all : List Fn} {i pos B : Nat} {x : Fn × HVal} {wr wM : World} (o : Obj) (hwM : wM = (wr.alloc o).alloc (.cells (mCells (cxOf D av all i x wM (wr.heap.size + 1)) ⟨.slice none 0 0, .slice none 0 0, x.2.vl⟩ 0) 52)) (dr : DR D pos wr) (hl : wr.ownsRow B 59 1 x.2.vl x.1.locals.length (x.1.locals.map (Value.int .i64))) (hBB : D.Bd < B) (hty : ∀ t ∈ x.1.locals, t = 1 ∨ t = 2) :
    MK (cxOf D av all i x wM (wr.heap.size + 1)) ⟨pos, [], [], x.1.locals, 0⟩ ⟨.slice none 0 0, .slice none 0 0, x.2.vl⟩ wM := by
  have hbl : Below wr.heap.size wr wM := by rw [hwM]; exact ((Below.refl _ _).alloc (Nat.le_refl _) _).alloc (by simp) _
  have hBd := heap_lt dr.d
  have hm : wM.heap[wr.heap.size + 1]? = some (.cells (mCells (cxOf D av all i x wM (wr.heap.size + 1)) ⟨.slice none 0 0, .slice none 0 0, x.2.vl⟩ 0) 52 (0, 0)) := by
    have h := heap_new (wr.alloc o) (.cells (mCells (cxOf D av all i x wM (wr.heap.size + 1)) ⟨.slice none 0 0, .slice none 0 0, x.2.vl⟩ 0) 52)
    rw [← hwM, show (wr.alloc o).heap.size = wr.heap.size + 1 by simp] at h
    exact h
  have q : ∀ k, x.2.vl.ownBlock = some k → B ≤ k ∧ k < wr.heap.size := hl.lt
  refine ⟨hm, (hbl.block _ hBd).trans dr.d, World.ownsRow_nil _ _ _ _, World.ownsRow_nil _ _ _ _, owns_base (owns_of_block hl (fun k hk => hbl.block k (q k hk).2)) (fun k _ => Nat.zero_le k), by show wr.heap.size + 1 ≠ D.Bd; omega, ⟨by simp [Value.ownBlock], by simp [Value.ownBlock], fun e => by have := q _ e; show False; have h2 : (cxOf D av all i x wM (wr.heap.size + 1)).M = wr.heap.size + 1 := rfl; omega⟩, ⟨by simp [Value.ownBlock], by simp [Value.ownBlock], fun e => by have := q _ e; have h2 : (cxOf D av all i x wM (wr.heap.size + 1)).Bd = D.Bd := rfl; omega⟩, fun k hk => by simp [Value.ownBlock] at hk, fun k hk => by simp [Value.ownBlock] at hk, fun k hk => by simp [Value.ownBlock] at hk, fun k hk => ?_, Chg.refl _ _, dr.pw, hty⟩
  rcases hk with h1 | h1 | h1 | h1 | h1
  · exact .inl h1
  · exact .inr (.inl h1)
  · simp [Value.ownBlock] at h1
  · simp [Value.ownBlock] at h1
  · exact .inr (.inr (.inl h1))
theorem PI.at5 {D : Wd} {w3 wr wM w5 : World} {PP B k pos : Nat} {hs : List (Fn × HVal)} {all : List Fn} {p0 : Nat} {pv av : Value} {done : List (Fn × HVal × Gh)} {x : Fn × HVal} {g5 : Gh}
    (hI : PI D w3 PP hs all p0 k pos pv done wr) (hPP : PP = w3.heap.size) (hBd : D.Bd < w3.heap.size) (hh : HsOk B w3 av hs) (hx : hs[k]? = some x)
    (hbM : Below wr.heap.size wr wM)
    (f5 : Fr (cxOf D av all k x wM (wr.heap.size + 1)) ⟨.slice none 0 0, .slice none 0 0, x.2.vl⟩ g5 wM w5) :
    w5.heap[PP]? = some (.cells #[pv] 26 (0, 0)) ∧ w5.ownsRow w3.heap.size 34 11 pv k (done.flatMap dCells) ∧ w3.heap.size < w5.heap.size := by
  have hsz3 := hI.ch.size
  have hszM := hbM.size
  have hsz5 := f5.1.size
  have hxm := List.mem_of_getElem? hx
  have hvl := (hh.rw_ x hxm).l.lt
  have hpp : PP < wr.heap.size := heap_lt hI.pp
  have hpo : ∀ j, pv.ownBlock = some j → w3.heap.size ≤ j ∧ j < wr.heap.size := hI.row.lt
  have key : ∀ j, w3.heap.size ≤ j → j < wr.heap.size → w5.heap[j]? = wr.heap[j]? := fun j h1 h2 => by
    rw [f5.1.block j (by omega) (fun ho => ?_), hbM.block j h2]
    rcases ho with q | q | q | q | q
    · have q' : j = wr.heap.size + 1 := q
      omega
    · have q' : j = D.Bd := q
      omega
    · simp [Value.ownBlock] at q
    · simp [Value.ownBlock] at q
    · have := hvl j q; omega
  exact ⟨(key PP (by omega) hpp).trans hI.pp, owns_of_block hI.row (fun j hj => key j (hpo j hj).1 (hpo j hj).2), by omega⟩
theorem PI.step {D : Wd} {w3 wr wM w5 wA w6 : World} {PP B k pos : Nat} {hs : List (Fn × HVal)} {all : List Fn} {p0 : Nat} {pv v' av : Value} {done : List (Fn × HVal × Gh)} {x : Fn × HVal} {g5 : Gh}
    (hI : PI D w3 PP hs all p0 k pos pv done wr) (hPP : PP = w3.heap.size) (hD : WdOk D) (hh : HsOk B w3 av hs) (hB : D.Bd < B ∧ D.Bl < B) (hB3 : B ≤ w3.heap.size) (hx : hs[k]? = some x) (hal : all = hs.map (·.1))
    (hbM : Below wr.heap.size wr wM)
    (h5 : MK (cxOf D av all k x wM (wr.heap.size + 1)) (bodyOf D.ws all k pos) g5 w5)
    (f5 : Fr (cxOf D av all k x wM (wr.heap.size + 1)) ⟨.slice none 0 0, .slice none 0 0, x.2.vl⟩ g5 wM w5)
    (hA : Below w5.heap.size w5 wA)
    (hown : w6.ownsRow w3.heap.size 34 11 v' (k + 1) (done.flatMap dCells ++ dCells (funcOf D.ws all k pos, x.2, g5)))
    (hg : wA.grownBy w6 pv.ownBlock) (hv : ∀ j, v'.ownBlock = some j → pv.ownBlock = some j ∨ wA.heap.size ≤ j) :
    PI D w3 PP hs all p0 (k + 1) (bodyOf D.ws all k pos).pos v' (done ++ [(funcOf D.ws all k pos, x.2, g5)]) (w6.setCell ⟨PP, 0, none⟩ v') := by
  have hBd3 : D.Bd < w3.heap.size := by omega
  have hM : w3.heap.size ≤ wr.heap.size + 1 := by have := hI.ch.size; omega
  have hsz3 := hI.ch.size
  have hszM := hbM.size
  have hsz5 := f5.1.size
  have hszA := hA.size
  have hxm := List.mem_of_getElem? hx
  have hvl := (hh.rw_ x hxm).l.lt
  have hpp : PP < wr.heap.size := heap_lt hI.pp
  have hpo : ∀ j, pv.ownBlock = some j → w3.heap.size ≤ j ∧ j < wr.heap.size := hI.row.lt
  -- from the round's start to the append
  have cA : Chg (SP D hs (k + 1)) w3 wA := (chg_all (hI.ch.trans (Chg.of_below hbM)) hx hM (Chg.step (S := Own0 (cxOf D av all k x wM (wr.heap.size + 1))) (Chg.refl _ _) (f5.1.step (Chg.of_below (S := Own (cxOf D av all k x wM (wr.heap.size + 1)) ⟨.slice none 0 0, .slice none 0 0, x.2.vl⟩) hA) (fun _ _ h => .inl h)) (fun i hi ho => .inl (by
    rcases ho with h1 | h1 | h1 | h1 | h1
    · exact .inl h1
    · exact .inr (.inl h1)
    · simp [Value.ownBlock] at h1
    · simp [Value.ownBlock] at h1
    · exact .inr (.inr (.inl h1))))))
  have cW : Chg (SP D hs (k + 1)) w3 (w6.setCell ⟨PP, 0, none⟩ v') := (cA.grown hg (fun j hj => .inr (hpo j hj).1)).setCell (.inr (by rw [hPP]; exact Nat.le_refl _)) _
  -- what a round turns of the world it starts in
  have cR : Chg (fun j => j = D.Bd ∨ x.2.vl.ownBlock = some j ∨ pv.ownBlock = some j ∨ j = PP) wr (w6.setCell ⟨PP, 0, none⟩ v') := by
    refine (((Chg.of_below hbM).step f5.1 (fun i hi ho => ?_)).trans (Chg.of_below hA) |>.grown hg (fun j hj => .inl (.inr (.inr (.inl hj))))).setCell (.inl (.inr (.inr (.inr rfl)))) _
    rcases ho with h1 | h1 | h1 | h1 | h1
    · exact .inr (by rw [h1]; show wr.heap.size ≤ wr.heap.size + 1; omega)
    · exact .inl (.inl h1)
    · simp [Value.ownBlock] at h1
    · simp [Value.ownBlock] at h1
    · exact .inl (.inr (.inl h1))
  have gb : ∀ j, GB g5 j → j < w5.heap.size ∧ j ≠ PP ∧ pv.ownBlock ≠ some j ∧ (w3.heap.size ≤ j ∨ x.2.vl.ownBlock = some j) := fun j hj => by
    have hlt : j < w5.heap.size := h5.lt j (.inr (.inr hj))
    have ho : Own (cxOf D av all k x wM (wr.heap.size + 1)) g5 j := .inr (.inr hj)
    have hnm : j ≠ wr.heap.size + 1 := fun e => by
      rcases hj with h1 | h1 | h1
      · exact h5.nm.1 (by rw [h1, e]; rfl)
      · exact h5.nm.2.1 (by rw [h1, e]; rfl)
      · exact h5.nm.2.2 (by rw [h1, e]; rfl)
    have hnd : j ≠ D.Bd := fun e => by
      rcases hj with h1 | h1 | h1
      · exact h5.nd.1 (by rw [h1, e]; rfl)
      · exact h5.nd.2.1 (by rw [h1, e]; rfl)
      · exact h5.nd.2.2 (by rw [h1, e]; rfl)
    rcases h5.own j ho with h1 | h1 | h1 | h1
    · exact absurd h1 hnm
    · exact absurd h1 hnd
    · have h1' : x.2.vl.ownBlock = some j := h1
      have := hvl j h1'
      exact ⟨hlt, by omega, fun e => by have := hpo j e; omega, .inr h1'⟩
    · have h1' : wM.heap.size ≤ j := h1
      exact ⟨hlt, by omega, fun e => by have := hpo j e; omega, .inl (by omega)⟩
  have hkeep : ∀ j, GB g5 j → (w6.setCell ⟨PP, 0, none⟩ v').heap[j]? = w5.heap[j]? := fun j hj => by
    obtain ⟨q1, q2, q3, -⟩ := gb j hj
    rw [Below.heap_setCell w6 _ _ j q2, hg.block j (by omega) (fun e => q3 e.symm), hA.block j q1]
  have hvPP : v'.ownBlock ≠ some PP := fun e => by
    rcases hv PP e with h1 | h1
    · exact hI.pn h1
    · omega
  have hppA : wA.heap[PP]? = some (.cells #[pv] 26 (0, 0)) := by
    rw [hA.block PP (by omega), f5.1.block PP (by omega) (fun ho => ?_), hbM.block PP hpp]
    · exact hI.pp
    · rcases ho with h1 | h1 | h1 | h1 | h1
      · have h2 : PP = wr.heap.size + 1 := h1
        omega
      · have h2 : PP = D.Bd := h1
        omega
      · simp [Value.ownBlock] at h1
      · simp [Value.ownBlock] at h1
      · have := hvl PP h1; omega
  refine ⟨?_, cW, ?_, ?_, ?_, ?_, hvPP, ?_⟩
  · have q : ∀ j, j < w6.heap.size → j ≠ PP → (w6.setCell ⟨PP, 0, none⟩ v').heap[j]? = w6.heap[j]? := fun j _ hj => Below.heap_setCell w6 _ _ j hj
    have hnotSP : ∀ j, j < B → j ≠ D.Bd → ¬ SP D hs (k + 1) j := fun j hj hne hs' => by
      rcases hs' with h1 | ⟨i, y, _, hy, h2⟩
      · exact hne h1
      · have := ((hh.rw_ y (List.mem_of_getElem? hy)).blk j (.inr (.inr (.inr h2)))).1; omega
    refine ⟨?_, ?_, ?_, ?_⟩
    · rw [Below.heap_setCell w6 _ _ D.Bd (by show D.Bd ≠ PP; omega), hg.block D.Bd (by omega) (fun e => by have := hpo _ e.symm; omega), hA.block D.Bd (by omega)]
      exact h5.d
    · have hlB := hB.2
      rw [cR.block D.Bl (by omega) (fun e => ?_)]
      · exact hI.dr.l
      · rcases e with h1 | h1 | h1 | h1
        · exact hD.ne h1.symm
        · have := hvl _ h1
          have := ((hh.rw_ x hxm).blk _ (.inr (.inr (.inr h1)))).1
          omega
        · have := hpo _ h1; omega
        · omega
    · have hg1 := hD.g1
      have hg2 := hD.g2
      refine ⟨cR.os.trans hI.dr.bl.os, cR.tape.trans hI.dr.bl.tape, cR.output.trans hI.dr.bl.output, Nat.le_trans hI.dr.bl.size cR.size, fun j hj => ?_⟩
      have hs0 := hI.dr.bl.size
      rw [cR.block j (by omega) (fun e => ?_), hI.dr.bl.block j hj]
      rcases e with h1 | h1 | h1 | h1
      · omega
      · have := ((hh.rw_ x hxm).blk _ (.inr (.inr (.inr h1)))).1
        omega
      · have := hpo _ h1; omega
      · omega
    · exact h5.pw
  · have h6 : w6.heap[PP]? = some (.cells #[pv] 26 (0, 0)) := (hg.block PP (by omega) (fun e => hI.pn e.symm)).trans hppA
    rw [heap_set h6 0]
    rfl
  · rw [List.flatMap_append]
    simp only [List.flatMap_cons, List.flatMap_nil, List.append_nil]
    exact owns_of_block hown (fun j hj => Below.heap_setCell w6 _ _ j (fun e => by rw [e] at hj; exact hvPP hj))
  · rw [posF_succ, Nat.zero_add, ← hI.ps]
  · rw [List.length_append, hI.len]; rfl
  · intro j y hy
    by_cases hj : j < done.length
    · rw [List.getElem?_append_left hj] at hy
      obtain ⟨⟨xj, hxj, hyx⟩, hyf, hdn⟩ := hI.dn j y hy
      refine ⟨⟨xj, hxj, hyx⟩, hyf, hdn.step cR (fun i hi hS => ?_) (fun i hi => (hv i hi).imp id (fun h => by omega))⟩
      have hjk : j < k := by rw [← hI.len]; exact hj
      rcases hdn.b i hi with ⟨q1, q2, q3⟩ | q1
      · rcases hS with h1 | h1 | h1 | h1
        · omega
        · have := hvl i h1; omega
        · exact q2 h1
        · exact q1 h1
      · rw [hyx] at q1
        have hm := List.mem_of_getElem? hxj
        have hbk := (hh.rw_ xj hm).blk i (.inr (.inr (.inr q1)))
        rcases hS with h1 | h1 | h1 | h1
        · omega
        · exact pair_get hh.vl hjk hxj hx i q1 (.inr (.inr (.inr h1)))
        · have := hpo i h1; omega
        · omega
    · have hje : j = done.length := by
        have h1 := (List.getElem?_eq_some_iff.1 hy).1
        rw [List.length_append] at h1
        simp at h1
        omega
      subst hje
      rw [List.getElem?_append_right (Nat.le_refl _), Nat.sub_self] at hy
      simp at hy
      subst hy
      refine ⟨⟨x, by rw [hI.len]; exact hx, rfl⟩, by rw [hI.len, ← hI.ps], ?_, ?_, ?_, ?_⟩
      · exact owns_of_block h5.lo (fun j hj => hkeep j (.inr (.inr hj)))
      · exact owns_of_block h5.cd (fun j hj => hkeep j (.inl hj))
      · exact owns_of_block h5.ln (fun j hj => hkeep j (.inr (.inl hj)))
      · intro j hj
        obtain ⟨q1, q2, q3, q4⟩ := gb j hj
        rcases q4 with h1 | h1
        · refine .inl ⟨q2, fun e => ?_, h1⟩
          rcases hv j e with h2 | h2
          · exact q3 h2
          · omega
        · exact .inr h1
theorem own_len {w : World} {base size n : Nat} {e : TypeId} {v : Value} {xs : List Value} (h : w.ownsRow base e size v n xs) : n ≤ maxLen := by
  rcases h.2 with ⟨_, h0⟩ | ⟨g, cap, cur, e', _, _, h1, h2, _⟩
  · rw [h0]; exact Nat.zero_le _
  · exact Nat.le_trans h1 h2
theorem cells_pair (l : List (Int × Int)) (i : Nat) (hi : i < l.length) : (cellsOf l)[i * 2]? = some (.int .i64 l[i].1) ∧ (cellsOf l)[i * 2 + 1]? = some (.int .i64 l[i].2) := by
  induction l generalizing i with
  | nil => simp at hi
  | cons x l ih =>
    have e1 : cellsOf (x :: l) = .int .i64 x.1 :: .int .i64 x.2 :: cellsOf l := rfl
    cases i with
    | zero => exact ⟨rfl, rfl⟩
    | succ i =>
      have h := ih i (by simpa using hi)
      rw [e1, show (i + 1) * 2 + 1 = (i * 2 + 1) + 1 + 1 by omega, show (i + 1) * 2 = i * 2 + 1 + 1 by omega]
      exact h
theorem cv_of_owned {w : World} {base : Nat} {e : TypeId} {v : Value} {l : List (Int × Int)} (h : w.ownsRow base e 2 v l.length (cellsOf l)) : CV w v l := by
  rcases h.2 with ⟨rfl, h0⟩ | ⟨g, cap, cur, rfl, _, _, h1, h2, _⟩
  · have hl : l = [] := List.eq_nil_of_length_eq_zero h0
    subst hl
    exact ⟨none, 0, rfl, Nat.le_refl _, Nat.zero_le _, fun i hi => absurd hi (by simp)⟩
  · refine ⟨_, cap, rfl, h1, h2, fun i hi => ⟨g, 0, rfl, (h.lt g rfl).2, ?_, ?_⟩⟩
    · rw [Nat.zero_add]; exact (h.cellAt (i * 2) (by omega)).trans (cells_pair l i hi).1
    · rw [Nat.zero_add]; exact (h.cellAt (i * 2 + 1) (by omega)).trans (cells_pair l i hi).2
theorem done_cell (l : List (Fn × HVal × Gh)) (i : Nat) (y : Fn × HVal × Gh) (hy : l[i]? = some y) (j : Nat) (hj : j < 11) : (l.flatMap dCells)[i * 11 + j]? = (dCells y)[j]? := by
  induction l generalizing i with
  | nil => simp at hy
  | cons x l ih =>
    cases i with
    | zero =>
      simp at hy
      subst hy
      rw [Nat.zero_mul, Nat.zero_add, List.flatMap_cons, List.getElem?_append_left (by simpa [dCells] using hj)]
    | succ i =>
      rw [List.flatMap_cons, List.getElem?_append_right (by simp [dCells]; omega), show (i + 1) * 11 + j - (dCells x).length = i * 11 + j by simp [dCells]; omega]
      exact ih i (by simpa using hy)
theorem PI.exit {D : Wd} {S : Nat → Prop} {w3 wr w' : World} {PP B n pos : Nat} {hs : List (Fn × HVal)} {all : List Fn} {p0 : Nat} {pv av : Value} {done : List (Fn × HVal × Gh)} {ws : List Int}
    (hI : PI D w3 PP hs all p0 n pos pv done wr) (hn : n = hs.length) (hn1 : 1 ≤ n) (hh : HsOk B w3 av hs) (hB : D.Bd < B) (hws : D.ws = ws) (hal : all = (headsV ws).1) (hf : hs.map (·.1) = (headsV ws).1) (hp0 : p0 = (headsV ws).2) (hnm : ∀ f ∈ (headsV ws).1, f.name.size ≤ maxLen) (hc : Chg S wr w') (hS : ∀ j, S j → j < B) (hB3 : B ≤ w3.heap.size) :
    PV w' (.agg #[pv]) (progV ws) := by
  have hrow : w'.ownsRow w3.heap.size 34 11 pv n (done.flatMap dCells) := owns_of_block hI.row (fun j hj => hc.block j (hI.row.lt j hj).2 (fun e => by have := hS j e; have := (hI.row.lt j hj).1; omega))
  have hlen : all.length = n := by rw [hal, ← hf, List.length_map, hn]
  have hpl : (progV ws).length = n := by rw [← hlen, hal]; exact progK_len _ _ _ _ _
  obtain ⟨g, cap, rfl, hc1, hc2⟩ : ∃ g cap, pv = .slice (some ⟨g, 0, none⟩) n cap ∧ n ≤ cap ∧ cap ≤ maxLen := by
    rcases hrow.2 with ⟨_, h0⟩ | ⟨g, cap, cur, e, _, _, h1, h2, _⟩
    · omega
    · exact ⟨g, cap, e, h1, h2⟩
  refine ⟨some ⟨g, 0, none⟩, cap, by rw [hpl], by rw [hpl]; exact hc1, hc2, fun i hi => ⟨g, 0, rfl, ?_⟩⟩
  have hin : i < n := by rw [← hpl]; exact hi
  obtain ⟨y, hy⟩ : ∃ y, done[i]? = some y := ⟨_, List.getElem?_eq_getElem (by rw [hI.len]; exact hin)⟩
  obtain ⟨⟨x, hx, hyx⟩, hyf, hdn⟩ := hI.dn i y hy
  have hpe : (progV ws)[i] = y.1 := by
    have h1 := progK_get ws (headsV ws).1 (headsV ws).1.length 0 (headsV ws).2 i (by rw [← hal, hlen]; exact hin)
    rw [Nat.zero_add] at h1
    have h2 : (progV ws)[i]? = some (progV ws)[i] := List.getElem?_eq_getElem hi
    have h3 : (progV ws)[i]? = some y.1 := by rw [hyf, hws, hal, hp0]; exact h1
    rw [h2] at h3
    exact Option.some.inj h3
  rw [hpe]
  have hxm := List.mem_of_getElem? hx
  have st := (hh.still (i := n) hB).2 x hxm
  have hfx : all.getD i default = x.1 := by rw [hal, ← hf, List.getD_eq_getElem?_getD, List.getElem?_map, hx]; rfl
  have e1 : y.1.outer = x.1.outer := by rw [hyf]; show (all.getD i default).outer = _; rw [hfx]
  have e2 : y.1.params = x.1.params := by rw [hyf]; show (all.getD i default).params = _; rw [hfx]
  have e3 : y.1.results = x.1.results := by rw [hyf]; show (all.getD i default).results = _; rw [hfx]
  have e4 : y.1.name = x.1.name := by rw [hyf]; show (all.getD i default).name = _; rw [hfx]
  have cel : ∀ j, j < 11 → w'.cell? ⟨g, 0 + i * 11 + j, none⟩ = (dCells y)[j]? := fun j hj => by
    rw [Nat.zero_add, hrow.cellAt (i * 11 + j) (by omega)]
    exact done_cell done i y hy j hj
  refine ⟨y.2.1.vo, y.2.1.vp, y.2.1.vr, y.2.2.ov, y.2.2.cv, y.2.2.lv, none, none, none, 0, 0, 0, ⟨(hrow.lt g rfl).2, cel 0 (by omega), cel 1 (by omega), cel 2 (by omega), cel 3 (by omega), cel 4 (by omega), cel 5 (by omega), cel 6 (by omega), cel 7 (by omega), cel 8 (by omega), cel 9 (by omega), cel 10 (by omega)⟩, ?_⟩
  have hgb : ∀ j, GB y.2.2 j → w'.heap[j]? = wr.heap[j]? := fun j hj => hc.block j (hdn.lt j hj) (fun e => by
    have h0 := hS j e
    rcases hdn.b j hj with ⟨_, _, h3⟩ | h3
    · omega
    · rw [hyx] at h3
      have := ((hh.rw_ x hxm).blk j (.inr (.inr (.inr h3)))).1
      omega)
  have ho := owns_of_block hdn.o (fun j hj => hgb j (.inr (.inr hj)))
  have hcd := owns_of_block hdn.c (fun j hj => hgb j (.inl hj))
  have hln := owns_of_block hdn.n (fun j hj => hgb j (.inr (.inl hj)))
  refine ⟨?_, ?_, ?_, ?_, iv_of_owned ho (own_len ho), cv_of_owned hcd, iv_of_owned hln (own_len hln), Nat.zero_le _, Nat.zero_le _, Nat.zero_le _⟩
  · rw [e4]
    exact hnm _ (by rw [← hf]; exact List.mem_map_of_mem hxm)
  · rw [e1, hyx]; exact ((hh.rw_ x hxm).o.chg hI.ch (fun j hj => st j (.inl hj))).chg hc (fun j hj e => by have := hS j e; have := ((hh.rw_ x hxm).bo j hj).1; omega)
  · rw [e2, hyx]; exact ((hh.rw_ x hxm).p.chg hI.ch (fun j hj => st j (.inr (.inl hj)))).chg hc (fun j hj e => by have := hS j e; have := ((hh.rw_ x hxm).bp j hj).1; omega)
  · rw [e3, hyx]; exact ((hh.rw_ x hxm).r.chg hI.ch (fun j hj => st j (.inr (.inr hj)))).chg hc (fun j hj e => by have := hS j e; have := ((hh.rw_ x hxm).br j hj).1; omega)
end Go.Proofs.Ythaniobijkdnoaa
