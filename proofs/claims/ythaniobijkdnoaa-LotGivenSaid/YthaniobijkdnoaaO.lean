/- A row that is cut at its head and appended to at its end: whose it is, where its elements lie. No condition beyond each theorem's premises. -/
import Derived.Test.YthaniobijkdnoaaN
import Derived.Deep.AppendSrc
namespace Go.Proofs.Ythaniobijkdnoaa
open Go.RowKit

/-- a row of one cell each that begins anywhere in its block, all of it writable -/
def OwnQ (w : World) (base : Nat) (v : Value) (n : Nat) (xs : List Value) : Prop :=
  xs.length = n ∧ ∃ g off cap, v = .slice (some ⟨g, off, none⟩) n cap ∧ base ≤ g ∧ g < w.heap.size ∧ n ≤ cap ∧ cap ≤ maxLen ∧
    (∀ j, j < n → w.cell? ⟨g, off + j, none⟩ = xs[j]?) ∧ ∀ j, j < cap → (w.cell? ⟨g, off + j, none⟩).isSome = true ∧ w.frozen? ⟨g, off + j, none⟩ = false

theorem OwnQ.new {w : World} {base H : Nat} (c : List Value) (t : TypeId) (h : H = w.heap.size) (hb : base ≤ w.heap.size) (hl : c.length ≤ maxLen) :
    OwnQ (w.alloc (.cells c.toArray t)) base (.slice (some ⟨H, 0, none⟩) c.length c.length) c.length c := by
  subst h
  have hh := heap_new w (.cells c.toArray t)
  refine ⟨rfl, w.heap.size, 0, c.length, rfl, hb, by simp, Nat.le_refl _, hl, fun j hj => ?_, fun j hj => ⟨?_, frozen_of hh _⟩⟩
  · rw [cell_of hh]; simp
  · rw [cell_of hh]; simp; omega
theorem OwnQ.cut {w : World} {base n : Nat} {v : Value} {xs : List Value} (h : OwnQ w base v n xs) (hn : 1 ≤ n) {a : Option Addr} {cap : Nat} (hv : v = .slice a n cap) :
    OwnQ w base (.slice (if cap = 1 then a else a.map (·.add (1 * 1))) (n - 1) (cap - 1)) (n - 1) (xs.drop 1) := by
  obtain ⟨hl, g, off, cap', rfl, hb, hg, hc, hm, h1, h2⟩ := h
  simp only [Value.slice.injEq] at hv
  obtain ⟨rfl, _, rfl⟩ := hv
  refine ⟨by simp; omega, ?_⟩
  by_cases h1c : cap' = 1
  · subst h1c
    have : n = 1 := by omega
    subst this
    exact ⟨g, off, 0, by simp, hb, hg, Nat.zero_le _, Nat.zero_le _, fun j hj => by omega, fun j hj => by omega⟩
  · refine ⟨g, off + 1, cap' - 1, by rw [if_neg h1c]; simp [add_none], hb, hg, by omega, by omega, fun j hj => ?_, fun j hj => ?_⟩
    · rw [List.getElem?_drop, show off + 1 + j = off + (1 + j) by omega]
      exact h1 (1 + j) (by omega)
    · rw [show off + 1 + j = off + (1 + j) by omega]
      exact h2 (1 + j) (by omega)
theorem OwnQ.keep {w w' : World} {base n : Nat} {v : Value} {xs : List Value} (h : OwnQ w base v n xs) (hs : w.heap.size ≤ w'.heap.size) (hk : ∀ k, v.ownBlock = some k → w'.heap[k]? = w.heap[k]?) : OwnQ w' base v n xs := by
  obtain ⟨hl, g, off, cap, rfl, hb, hg, hc, hm, h1, h2⟩ := h
  have e := hk g rfl
  refine ⟨hl, g, off, cap, rfl, hb, by omega, hc, hm, fun j hj => ?_, fun j hj => ?_⟩
  · rw [World.cell?_of_block (a := ⟨g, off + j, none⟩) e]; exact h1 j hj
  · rw [World.cell?_of_block (a := ⟨g, off + j, none⟩) e, World.frozen?_of_block (a := ⟨g, off + j, none⟩) e]; exact h2 j hj
theorem OwnQ.lt {w : World} {base n : Nat} {v : Value} {xs : List Value} (h : OwnQ w base v n xs) : ∀ k, v.ownBlock = some k → base ≤ k ∧ k < w.heap.size := by
  obtain ⟨hl, g, off, cap, rfl, hb, hg, hc, hm, h1, h2⟩ := h
  intro k hk
  simp [Value.ownBlock] at hk
  omega

theorem src_reads {w : World} {B m c : Nat} {A : Option Addr} {news : List Value} {tx e' : TypeId} (hk : Try.prog.underlying tx = some (.slice e')) (hr : Reads w B 1 A m news) (h1 : ∀ u ∈ news, u.oneCell' = true) : Src Try.prog 1 tx (.slice A m c) m news w := by
  rcases A with _ | ad
  · have hm : m = 0 := by
      rcases Nat.eq_zero_or_pos m with h0 | h0
      · exact h0
      · obtain ⟨ad, h, _⟩ := hr.2 h0
        cases h
    subst hm
    have hn : news = [] := List.eq_nil_of_length_eq_zero (by simpa using hr.1)
    subst hn
    exact Src.ofNil w hk c
  · refine Src.ofSlice w hk ad m c news hr.1 (fun j u hu => ?_) h1
    rcases Nat.eq_zero_or_pos m with h0 | h0
    · subst h0
      have hn : news = [] := List.eq_nil_of_length_eq_zero (by simpa using hr.1)
      subst hn
      rw [List.getElem?_nil] at hu
      cases hu
    · obtain ⟨ad', h, _, hc⟩ := hr.2 h0
      obtain rfl : ad = ad' := Option.some.inj h
      exact hc j u hu

theorem chg_setCells (g : Nat) : ∀ (vs : List Value) (o : Nat) (w0 w : World), Chg (fun k => k = g) w0 w → Chg (fun k => k = g) w0 (w.setCells g o vs)
  | [], _, _, _, h => h
  | v :: r, o, w0, _, h => chg_setCells g r (o + 1) w0 _ (h.setCell (p := ⟨g, o, none⟩) (.inl rfl) v)

/-- appending to such a row -/
theorem run_append_q (w : World) (base : Nat) (t ty e : TypeId) (i : TypeInfo) (z : Value) (bytes : Nat) (ht : Try.prog.underlying t = some (.slice e)) (hi : Try.prog.info? e = some i) (hz : i.zero = some z) (hsize : i.size = 1) (hby : i.bytes = bytes) (hzs : z.cells.size = 1)
    (v : Value) (n : Nat) (xs : List Value) (hown : OwnQ w base v n xs) (B : Nat) (A : Option Addr) (m c : Nat) (news : List Value) (hr : Reads w B 1 A m news) (h1 : ∀ u ∈ news, u.oneCell' = true)
    (h63 : n + m ≤ maxLen) (hbytes : (n + m) * bytes ≤ 140737488355328) (hbase : base ≤ w.heap.size) :
    ∃ v' w', (Builtin.append_ #[t, t] ty #[v, .slice A m c]).run Try.prog w = .ok v' w' ∧ OwnQ w' base v' (n + m) (xs ++ news) ∧ w.grownBy w' v.ownBlock ∧ (v'.ownBlock = v.ownBlock ∨ v'.ownBlock = some w.heap.size) := by
  have hs : Src Try.prog i.size t (.slice A m c) m news w := by rw [hsize]; exact src_reads ht hr h1
  have hnl : news.length = m := by have := hr.1; omega
  obtain ⟨hl, g, off, cap, rfl, hb, hg, hc, hm, hx, hcell⟩ := hown
  by_cases hroom : n + m ≤ cap
  · have hrun := run_append_room_src (P := Try.prog) w t t ty e i ht hi g off n cap (.slice A m c) m news hs hroom
      (fun j hj => by rw [hsize, show off + n * 1 + j = off + (n + j) by omega]; exact (hcell (n + j) (by omega)).1) (fun j hj => by rw [hsize, show off + n * 1 + j = off + (n + j) by omega]; exact (hcell (n + j) (by omega)).2)
    rw [hsize, Nat.mul_one] at hrun
    have hch := chg_setCells g news (off + n) w w (Chg.refl _ _)
    have hthere : ∀ j, j < news.length → (w.cell? ⟨g, off + n + j, none⟩).isSome = true := fun j hj => by rw [show off + n + j = off + (n + j) by omega]; exact (hcell (n + j) (by omega)).1
    have hin := World.cell?_setCells_in g news (off + n) w hthere
    have hout := World.cell?_setCells_out g news (off + n) w
    refine ⟨_, _, hrun, ⟨by simp [hl, hnl], g, off, cap, rfl, hb, Nat.lt_of_lt_of_le hg hch.size, hroom, hm, fun j hj => ?_, fun j hj => ⟨?_, ?_⟩⟩, ⟨hch.os, hch.tape, hch.output, hch.size, fun k hk hne => hch.block k hk (fun e => hne (by rw [e]; rfl))⟩, .inl rfl⟩
    · rcases Nat.lt_or_ge j n with h | h
      · rw [hout ⟨g, off + j, none⟩ (fun _ _ => .inl (by show off + j < off + n; omega)), hx j h, List.getElem?_append_left (by omega)]
      · have := hin (j - n) (by omega)
        rw [show off + n + (j - n) = off + j by omega] at this
        rw [this, List.getElem?_append_right (by omega), hl, List.getElem?_eq_getElem]
    · rcases Nat.lt_or_ge j n with h | h
      · rw [hout ⟨g, off + j, none⟩ (fun _ _ => .inl (by show off + j < off + n; omega))]
        exact (hcell j hj).1
      · rcases Nat.lt_or_ge j (n + m) with h' | h'
        · have := hin (j - n) (by omega)
          rw [show off + n + (j - n) = off + j by omega] at this
          rw [this]; rfl
        · rw [hout ⟨g, off + j, none⟩ (fun _ _ => .inr (by show off + n + news.length ≤ off + j; omega))]
          exact (hcell j hj).1
    · rw [World.frozen?_setCells]
      exact (hcell j hj).2
  · have hold : (Builtin.firstCells i.size n (.slice (some ⟨g, off, none⟩) n cap)).run Try.prog w.drew = .ok xs.toArray w.drew :=
      run_firstCells_some w.drew i.size n ⟨g, off, none⟩ n cap xs (by rw [hsize]; omega) (fun j u hu => by
        rw [add_none]
        have hj : j < n := by have := (List.getElem?_eq_some_iff.1 hu).1; omega
        exact (hx j hj).trans hu)
    have h63' : ((n + m : Nat) : Int) ≤ 9223372036854775807 := by simp only [maxLen] at h63; omega
    have hrun := run_append_grow_src (P := Try.prog) w t t ty e i z ht hi hz (some ⟨g, off, none⟩) n cap xs hold (.slice A m c) m news hs (by omega) h63' (by rw [hby]; exact growslice_fits (by omega) hbytes)
    have hge := grownCap_ge w (n + m) cap e
    have hcm : grownCap w (n + m) cap e ≤ maxLen := grownCap_le_maxLen w (n + m) cap e h63
    refine ⟨_, _, hrun, ?_, ⟨rfl, rfl, rfl, by simp, fun k hk _ => heap_old w.drew _ k hk⟩, .inr rfl⟩
    have hh : _ = some (Obj.cells _ e (0, 0)) := heap_new w.drew (.cells ((xs ++ news).toArray ++ Builtin.zeroCells z.cells (grownCap w (n + m) cap e - (n + m))) e)
    have hsz : ((xs ++ news).toArray ++ Builtin.zeroCells z.cells (grownCap w (n + m) cap e - (n + m))).size = grownCap w (n + m) cap e := by
      simp only [Array.size_append, List.size_toArray, size_zeroCells, hzs, List.length_append]
      omega
    have hdz : w.drew.heap.size = w.heap.size := rfl
    rw [hdz] at hh
    refine ⟨by simp [hl, hnl], w.heap.size, 0, _, rfl, hbase, by simp, hge, hcm, fun j hj => ?_, fun j hj => ⟨?_, frozen_of hh _⟩⟩
    · rw [cell_of hh, Nat.zero_add, Array.getElem?_append_left (by simp [hl, hnl]; omega)]
      simp
    · rw [cell_of hh, Nat.zero_add, Array.getElem?_eq_getElem (by rw [hsz]; exact hj)]
      rfl

theorem wpList_append_q (w : World) {ops : Array Oper} {rest : List Oper} {o : Oper} {a : Act} {Q : Exit → Act → World → Prop} (hgd : o.guard = none) (s x : Operand) (t : TypeId)
    (ho : o.op = .call { callee := .builtin .append, args := #[s, x], argTypes := #[t, t] })
    (base : Nat) (e : TypeId) (i : TypeInfo) (z : Value) (bytes : Nat) (ht : Try.prog.underlying t = some (.slice e)) (hi : Try.prog.info? e = some i) (hz : i.zero = some z)
    (hsize : i.size = 1) (hby : i.bytes = bytes) (hzs : z.cells.size = 1)
    (v : Value) (n : Nat) (xs : List Value) (hs : a.eval s = v) (hown : OwnQ w base v n xs)
    (B : Nat) (A : Option Addr) (m c : Nat) (news : List Value) (hx : a.eval x = .slice A m c) (hr : Reads w B 1 A m news) (h1 : ∀ u ∈ news, u.oneCell' = true)
    (h63 : n + m ≤ maxLen) (hbytes : (n + m) * bytes ≤ 140737488355328) (hbase : base ≤ w.heap.size)
    (h : ∀ v' w', OwnQ w' base v' (n + m) (xs ++ news) → w.grownBy w' v.ownBlock → (v'.ownBlock = v.ownBlock ∨ v'.ownBlock = some w.heap.size) → wpList Try.prog ops Q rest (a.put o.dst v') w') : wpList Try.prog ops Q (o :: rest) a w := by
  refine wpList_plain hgd fun K hK => ?_
  obtain ⟨v', w', hrun, h2, h3, h4⟩ := run_append_q w base t o.type e i z bytes ht hi hz hsize hby hzs v n xs hown B A m c news hr h1 h63 hbytes hbase
  unfold Oper.wp execOp
  simp only [ho, resolve, invoke, builtin, Sem.run_bind, Sem.run_pure, Result.andThen_ok, List.map_toArray, List.map_cons, List.map_nil, hs, hx, hrun]
  exact hK _ _ (h v' w' h2 h3 h4)
end Go.Proofs.Ythaniobijkdnoaa
