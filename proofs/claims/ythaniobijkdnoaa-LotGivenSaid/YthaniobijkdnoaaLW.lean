/- The words of lot, and what a round of its makers starts from. Conditions: words of 64 bits. -/
import Derived.Test.YthaniobijkdnoaaLV
namespace Go.Proofs.Ythaniobijkdnoaa
open Go.RowKit

def wdOf (w : World) (la : Option Addr) (lc : Nat) (ws : List Int) : Wd := ⟨w, w.heap.size + 1, w.heap.size, la, lc, ws⟩
def WordsPost (D : Wd) (w : World) (e : Ending) (w' : World) : Prop := e = .returned (.func (.func 20) #[] #[.pointer (some ⟨D.Bd, 0, none⟩), .pointer (some ⟨D.Bl, 0, none⟩)]) ∧ DR D 0 w' ∧ Below w.heap.size w w'
set_option maxHeartbeats 2000000 in
theorem words_mk (w : World) (la : Option Addr) (lc : Nat) (ws : List Int) : Calls Try.prog 15 #[.slice la ws.length lc] w (WordsPost (wdOf w la lc ws) w) := by
  have hmf : ∀ (fn : Fn) (first cap : Array Value) (w : World), True := fun _ _ _ _ => trivial
  obtain ⟨n, hn⟩ : ∃ n, n = ws.length := ⟨_, rfl⟩
  have HN := Lib.hid hn
  rw [← hn]
  clear hmf hn
  go_enter Try.func15, Try.ntmps15
  go_wp2
  go_ret
  have hb : Below w.heap.size w ((w.alloc (.cells #[.slice la n lc] 22)).alloc (.cells #[.int .i64 0] 3)) := ((Below.refl _ _).alloc (Nat.le_refl _) _).alloc (by simp) _
  refine ⟨rfl, ⟨?_, ?_, hb, Nat.zero_le _⟩, hb⟩
  · have h := heap_new (w.alloc (.cells #[.slice la n lc] 22)) (.cells #[.int .i64 0] 3)
    rw [show (w.alloc (.cells #[.slice la n lc] 22)).heap.size = w.heap.size + 1 by simp] at h
    exact h
  · show ((w.alloc (.cells #[.slice la n lc] 22)).alloc (.cells #[.int .i64 0] 3)).heap[w.heap.size]? = some (.cells #[.slice la ws.length lc] 22 (0, 0))
    rw [← HN.out, heap_old _ _ _ (by simp)]
    exact heap_new _ _

/-- what changes behind the heads: the draw's place, and the rows of locals of the heads that had their turn -/
def SP (D : Wd) (hs : List (Fn × HVal)) (i : Nat) (k : Nat) : Prop := k = D.Bd ∨ ∃ j x, j < i ∧ hs[j]? = some x ∧ x.2.vl.ownBlock = some k
theorem pair_get {α : Type} {R : α → α → Prop} {l : List α} (h : l.Pairwise R) {i j : Nat} {x y : α} (hij : i < j) (hx : l[i]? = some x) (hy : l[j]? = some y) : R x y := by
  obtain ⟨hi, rfl⟩ := List.getElem?_eq_some_iff.1 hx
  obtain ⟨hj, rfl⟩ := List.getElem?_eq_some_iff.1 hy
  exact List.pairwise_iff_getElem.1 h i j hi hj hij
/-- the blocks that stand for good -/
theorem HsOk.still {B i : Nat} {w : World} {av : Value} {hs : List (Fn × HVal)} {D : Wd} (h : HsOk B w av hs) (hB : D.Bd < B) : (∀ k, av.ownBlock = some k → ¬ SP D hs i k) ∧
    ∀ x ∈ hs, ∀ k, (x.2.vo.ownBlock = some k ∨ x.2.vp.ownBlock = some k ∨ x.2.vr.ownBlock = some k) → ¬ SP D hs i k := by
  refine ⟨fun k hk hs' => ?_, fun x hx k hk hs' => ?_⟩
  · rcases hs' with h1 | ⟨j, y, _, hy, h2⟩
    · have := (h.row.lt k hk).1; omega
    · exact h.av_ y (List.mem_of_getElem? hy) k (.inr (.inr (.inr h2))) hk
  · have hbk : Blk x.2 k := by
      rcases hk with h1 | h1 | h1
      · exact .inl h1
      · exact .inr (.inl h1)
      · exact .inr (.inr (.inl h1))
    rcases hs' with h1 | ⟨j, y, _, hy, h2⟩
    · have := ((h.rw_ x hx).blk k hbk).1; omega
    · obtain ⟨a, ha, rfl⟩ := List.getElem_of_mem hx
      have hxa : hs[a]? = some hs[a] := List.getElem?_eq_getElem ha
      rcases Nat.lt_trichotomy a j with h3 | h3 | h3
      · exact pair_get h.vr h3 hxa hy k h2 hbk
      · subst h3
        rw [hxa] at hy
        obtain rfl := Option.some.inj hy
        rcases hk with h4 | h4 | h4
        · exact ((h.rw_ _ hx).bo k h4).2.2 h2
        · exact ((h.rw_ _ hx).bp k h4).2.2 h2
        · exact ((h.rw_ _ hx).br k h4).2.2 h2
      · exact pair_get h.vl h3 hy hxa k h2 hbk
theorem HsOk.loc {B i a : Nat} {w : World} {av : Value} {hs : List (Fn × HVal)} {D : Wd} {x : Fn × HVal} (h : HsOk B w av hs) (hB : D.Bd < B) (hx : hs[a]? = some x) (hia : i ≤ a) : ∀ k, x.2.vl.ownBlock = some k → ¬ SP D hs i k := by
  intro k hk hs'
  have hm := List.mem_of_getElem? hx
  rcases hs' with h1 | ⟨j, y, hj, hy, h2⟩
  · have := ((h.rw_ x hm).blk k (.inr (.inr (.inr hk)))).1; omega
  · exact pair_get h.vl (by omega) hy hx k h2 (.inr (.inr (.inr hk)))
theorem SP.mono {D : Wd} {hs : List (Fn × HVal)} {i j k : Nat} (h : SP D hs i k) (hij : i ≤ j) : SP D hs j k := by
  rcases h with h1 | ⟨a, y, ha, hy, h2⟩
  · exact .inl h1
  · exact .inr ⟨a, y, by omega, hy, h2⟩
/-- the i-th maker's fixed data -/
def cxOf (D : Wd) (av : Value) (all : List Fn) (i : Nat) (x : Fn × HVal) (w : World) (M : Nat) : Cx := ⟨knOf D.ws all i, w, D.Bd, D.Bl, M, D.la, D.lc, av, x.2.vo, x.2.vp, x.2.vr, x.1.name, x.1.inner, fun k => x.2.vl.ownBlock = some k⟩
theorem chg_all {D : Wd} {av : Value} {all : List Fn} {i M : Nat} {hs : List (Fn × HVal)} {x : Fn × HVal} {w3 w W : World} (hc : Chg (SP D hs i) w3 w) (hx : hs[i]? = some x) (hM : w3.heap.size ≤ M) (h : Chg (Own0 (cxOf D av all i x w M)) w W) : Chg (SP D hs (i + 1)) w3 W := by
  have hs' := hc.size
  refine (hc.mono (fun k _ h1 => h1.mono (Nat.le_succ i))).step h fun k hk ho => ?_
  rcases ho with h1 | h1 | h1 | h1
  · exact .inr (by rw [h1]; exact hM)
  · exact .inl (.inl h1)
  · exact .inl (.inr ⟨i, x, Nat.lt_succ_self i, hx, h1⟩)
  · exact .inr (Nat.le_trans hs' h1)
/-- types that heads have -/
structure HdT (all : List Fn) : Prop where
  n1 : 1 ≤ all.length
  n2 : all.length ≤ 40
  o : ∀ f ∈ all, ∀ t ∈ f.outer, t = 1 ∨ t = 2
  p : ∀ f ∈ all, ∀ t ∈ f.params, t = 1 ∨ t = 2
  r : ∀ f ∈ all, ∀ t ∈ f.results, t = 1 ∨ t = 2
  l : ∀ f ∈ all, ∀ t ∈ f.locals, t = 1 ∨ t = 2
  b : ∀ f ∈ all, f.params.length ≤ 8 ∧ f.results.length ≤ 8 ∧ f.outer.length ≤ 8 ∧ f.locals.length ≤ 8
theorem cxOk {D : Wd} {av : Value} {i M B : Nat} {hs : List (Fn × HVal)} {x : Fn × HVal} {w3 w : World} (hd : WdOk D) (h : HsOk B w3 av hs) (hr : DR D 0 w3 ∨ True) (hl : w3.heap[D.Bl]? = some (.cells #[.slice D.la D.ws.length D.lc] 22 (0, 0))) (hbl : Below D.w0.heap.size D.w0 w3) (hB : D.Bd < B ∧ D.Bl < B) (hT : HdT (hs.map (·.1))) (hx : hs[i]? = some x) (hc : Chg (SP D hs i) w3 w) (hM : w3.heap.size ≤ M) :
    CxOk (cxOf D av (hs.map (·.1)) i x w M) := by
  have hxm := List.mem_of_getElem? hx
  have hxf : (hs.map (·.1)).getD i default = x.1 := by rw [List.getD_eq_getElem?_getD, List.getElem?_map, hx]; rfl
  have hxa : x.1 ∈ hs.map (·.1) := List.mem_map_of_mem hxm
  have hBS : ∀ k, k < B → k ≠ D.Bd → ¬ SP D hs (i + 1) k := fun k hk hne hs' => by
    rcases hs' with h1 | ⟨j, y, _, hy, h2⟩
    · exact hne h1
    · have := ((h.rw_ y (List.mem_of_getElem? hy)).blk k (.inr (.inr (.inr h2)))).1; omega
  have key : ∀ W, Chg (Own0 (cxOf D av (hs.map (·.1)) i x w M)) w W → Chg (SP D hs (i + 1)) w3 W := fun W hW => chg_all hc hx hM hW
  have st := h.still (i := i + 1) hB.1
  have rws : ∀ W, Chg (SP D hs (i + 1)) w3 W → ∀ y ∈ hs, IV W y.2.vo y.1.outer ∧ IV W y.2.vp y.1.params ∧ IV W y.2.vr y.1.results := fun W hW y hy =>
    ⟨(h.rw_ y hy).o.chg hW (fun k hk => st.2 y hy k (.inl hk)), (h.rw_ y hy).p.chg hW (fun k hk => st.2 y hy k (.inr (.inl hk))), (h.rw_ y hy).r.chg hW (fun k hk => st.2 y hy k (.inr (.inr hk)))⟩
  have hb := hT.b x.1 hxa
  refine ⟨fun W hW => ?_, fun W hW => ?_, hd.wl, hd.wr, fun W hW => ?_, fun W hW => ?_, fun W hW => ?_, ?_, ?_, ?_, ?_, ?_, ?_, ?_, ?_, ?_, ?_⟩
  · exact ((key W hW).block _ (heap_lt hl) (hBS _ hB.2 (fun e => hd.ne e.symm))).trans hl
  · have hlt : ∀ k, (Value.slice D.la D.ws.length D.lc).ownBlock = some k → True := fun _ _ => trivial
    have hw := hd.iv.bel hbl
    obtain ⟨a, cap, he, q1, q2, hcell⟩ := hd.iv
    refine ⟨a, cap, he, q1, q2, fun j hj => ?_⟩
    obtain ⟨b, off, ha, hb0, hc0⟩ := hcell j hj
    have hbs := hbl.size
    have g1 := hd.g1
    have g2 := (key W hW).size
    have hblk : W.heap[b]? = D.w0.heap[b]? := ((key W hW).block b (by omega) (hBS b (by omega) (by omega))).trans (hbl.block b hb0)
    exact ⟨b, off, ha, by omega, (World.cell?_of_block (a := ⟨b, off + j, none⟩) hblk).trans hc0⟩
  · show IV W x.2.vo ((hs.map (fun y : Fn × HVal => y.1)).getD i default).outer
    rw [hxf]; exact (rws W (key W hW) x hxm).1
  · show IV W x.2.vp ((hs.map (fun y : Fn × HVal => y.1)).getD i default).params
    rw [hxf]; exact (rws W (key W hW) x hxm).2.1
  · show IV W x.2.vr ((hs.map (fun y : Fn × HVal => y.1)).getD i default).results
    rw [hxf]; exact (rws W (key W hW) x hxm).2.2
  · show ((hs.map (fun y : Fn × HVal => y.1)).getD i default).outer.length ≤ 1000
    rw [hxf]; omega
  · show ((hs.map (fun y : Fn × HVal => y.1)).getD i default).params.length ≤ 1000
    rw [hxf]; omega
  · show ((hs.map (fun y : Fn × HVal => y.1)).getD i default).results.length ≤ 1000
    rw [hxf]; omega
  · show ∀ t ∈ ((hs.map (fun y : Fn × HVal => y.1)).getD i default).outer, t = 1 ∨ t = 2
    rw [hxf]; exact hT.o _ hxa
  · show ∀ t ∈ ((hs.map (fun y : Fn × HVal => y.1)).getD i default).params, t = 1 ∨ t = 2
    rw [hxf]; exact hT.p _ hxa
  · show ∀ t ∈ ((hs.map (fun y : Fn × HVal => y.1)).getD i default).results, t = 1 ∨ t = 2
    rw [hxf]; exact hT.r _ hxa
  · have hlen : (hs.map (·.1)).length = hs.length := List.length_map _
    have hn1 : 1 ≤ hs.length := by rw [← hlen]; exact hT.n1
    obtain ⟨ga, cap, hav, hc1, hc2⟩ : ∃ ga cap, av = .slice (some ⟨ga, 0, none⟩) hs.length cap ∧ hs.length ≤ cap ∧ cap ≤ maxLen := by
      rcases h.row.2 with ⟨_, h0⟩ | ⟨ga, cap, cur, e, _, _, h1, h2, _⟩
      · omega
      · exact ⟨ga, cap, e, h1, h2⟩
    refine ⟨ga, 0, cap, by show av = _; rw [hav]; show _ = Value.slice _ (hs.map _).length _; rw [List.length_map], by show (hs.map _).length ≤ _; rw [List.length_map]; exact hc1, hc2, fun k hk => ?_⟩
    have hk' : k < hs.length := by
      have : k < (hs.map (fun y : Fn × HVal => y.1)).length := hk
      rw [List.length_map] at this
      exact this
    have hy := List.getElem_mem hk'
    have hyf : (hs.map (fun y : Fn × HVal => y.1)).getD k default = (hs[k]).1 := by rw [List.getD_eq_getElem?_getD, List.getElem?_map, List.getElem?_eq_getElem hk']; rfl
    obtain ⟨ao, co, eo, -⟩ := (h.rw_ _ hy).o
    obtain ⟨ap, cp, ep, -⟩ := (h.rw_ _ hy).p
    obtain ⟨ar, cr, er, -⟩ := (h.rw_ _ hy).r
    obtain ⟨al, cl, el⟩ := row_formN (h.rw_ _ hy).l
    refine ⟨ao, co, ap, cp, ar, cr, al, (hs[k]).1.locals.length, cl, fun W hW => ?_⟩
    show At11 W ga (0 + k * 11) (.string ((hs.map (fun y : Fn × HVal => y.1)).getD k default).name) (.bool ((hs.map (fun y : Fn × HVal => y.1)).getD k default).inner) (.slice ao ((hs.map (fun y : Fn × HVal => y.1)).getD k default).outer.length co) (.slice ap ((hs.map (fun y : Fn × HVal => y.1)).getD k default).params.length cp) (.slice ar ((hs.map (fun y : Fn × HVal => y.1)).getD k default).results.length cr) _ _ _ _ _ _ ∧ IV W (.slice ao ((hs.map (fun y : Fn × HVal => y.1)).getD k default).outer.length co) ((hs.map (fun y : Fn × HVal => y.1)).getD k default).outer ∧ IV W (.slice ap ((hs.map (fun y : Fn × HVal => y.1)).getD k default).params.length cp) ((hs.map (fun y : Fn × HVal => y.1)).getD k default).params ∧ IV W (.slice ar ((hs.map (fun y : Fn × HVal => y.1)).getD k default).results.length cr) ((hs.map (fun y : Fn × HVal => y.1)).getD k default).results
    rw [hyf, ← eo, ← ep, ← er]
    have hW' := key W hW
    refine ⟨?_, rws W hW' _ hy⟩
    have hrow := h
    rw [hav] at hrow
    have hgb : ga < w3.heap.size := (hrow.row.lt ga rfl).2
    have hblk : W.heap[ga]? = w3.heap[ga]? := hW'.block ga hgb (st.1 ga (by rw [hav]; rfl))
    have cel : ∀ j, j < 11 → W.cell? ⟨ga, 0 + k * 11 + j, none⟩ = (hCells hs[k])[j]? := fun j hj => by
      rw [World.cell?_of_block (a := ⟨ga, 0 + k * 11 + j, none⟩) hblk, Nat.zero_add]
      exact hrow.cell k hk' j hj
    refine ⟨Nat.lt_of_lt_of_le hgb hW'.size, cel 0 (by omega), cel 1 (by omega), cel 2 (by omega), cel 3 (by omega), cel 4 (by omega), ?_, cel 6 (by omega), cel 7 (by omega), cel 8 (by omega), cel 9 (by omega), cel 10 (by omega)⟩
    rw [cel 5 (by omega), ← el]
    rfl
  · exact hT.n1
  · exact hT.n2
  · exact fun f hf => ⟨hT.p f hf, hT.r f hf, (hT.b f hf).1, (hT.b f hf).2.1, (hT.b f hf).2.2.1⟩
end Go.Proofs.Ythaniobijkdnoaa
