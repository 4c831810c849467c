/- How a maker of functions lies in memory, and what its writes do to it. No condition beyond each theorem's premises. -/
import Derived.Test.YthaniobijkdnoaaLA
namespace Go.Proofs.Ythaniobijkdnoaa
open Go.RowKit

structure Cx where
  kn : Kn
  w0 : World
  Bd : Nat
  Bl : Nat
  M : Nat
  la : Option Addr
  lc : Nat
  av : Value
  vo : Value
  vp : Value
  vr : Value
  name : ByteArray
  inner : Bool
  Lo : Nat → Prop
structure Gh where
  cv : Value
  lv : Value
  ov : Value
def dvOf (Bd Bl : Nat) : Value := .func (.func 20) #[] #[.pointer (some ⟨Bd, 0, none⟩), .pointer (some ⟨Bl, 0, none⟩)]
def cellsOf (l : List (Int × Int)) : List Value := l.flatMap fun x => [.int .i64 x.1, .int .i64 x.2]
theorem cellsOf_len (l : List (Int × Int)) : (cellsOf l).length = l.length * 2 := by
  induction l with
  | nil => rfl
  | cons x l ih => simp only [cellsOf, List.flatMap_cons, List.length_append, List.length_cons, List.length_nil] at ih ⊢; omega
theorem cellsOf_app (l m : List (Int × Int)) : cellsOf (l ++ m) = cellsOf l ++ cellsOf m := by simp [cellsOf]

theorem cellsOf_set (l : List (Int × Int)) (i : Nat) (a : Int) (hi : i < l.length) : cellsOf (l.set i ((l.getD i (0, 0)).1, a)) = (cellsOf l).set (i * 2 + 1) (.int .i64 a) := by
  induction l generalizing i with
  | nil => simp at hi
  | cons x l ih =>
    cases i with
    | zero => rfl
    | succ i =>
      have h := ih i (by simpa using hi)
      have e1 : cellsOf (x :: l) = .int .i64 x.1 :: .int .i64 x.2 :: cellsOf l := rfl
      rw [e1, show (i + 1) * 2 + 1 = (i * 2 + 1) + 1 + 1 by omega, List.set_cons_succ, List.set_cons_succ, List.set_cons_succ, List.getD_cons_succ, ← h]
      rfl

def Own0 (c : Cx) (k : Nat) : Prop := k = c.M ∨ k = c.Bd ∨ c.Lo k ∨ c.w0.heap.size ≤ k
def Own (c : Cx) (g : Gh) (k : Nat) : Prop := k = c.M ∨ k = c.Bd ∨ g.cv.ownBlock = some k ∨ g.lv.ownBlock = some k ∨ g.ov.ownBlock = some k

def mCells (c : Cx) (g : Gh) (line : Int) : Array Value := #[dvOf c.Bd c.Bl, c.av, .int .i64 c.kn.me, .string c.name, .bool c.inner, c.vo, c.vp, c.vr, g.ov, g.cv, g.lv, .slice none 0 0, .slice none 0 0, .slice none 0 0, .int .i64 line]

structure MK (c : Cx) (s : St) (g : Gh) (w : World) : Prop where
  m : w.heap[c.M]? = some (.cells (mCells c g s.line) 52 (0, 0))
  d : w.heap[c.Bd]? = some (.cells #[.int .i64 s.pos] 3 (0, 0))
  cd : w.ownsRow 0 73 2 g.cv s.code.length (cellsOf s.code)
  ln : w.ownsRow 0 3 1 g.lv s.lines.length (s.lines.map (Value.int .i64))
  lo : w.ownsRow 0 59 1 g.ov s.locals.length (s.locals.map (Value.int .i64))
  md : c.M ≠ c.Bd
  nm : g.cv.ownBlock ≠ some c.M ∧ g.lv.ownBlock ≠ some c.M ∧ g.ov.ownBlock ≠ some c.M
  nd : g.cv.ownBlock ≠ some c.Bd ∧ g.lv.ownBlock ≠ some c.Bd ∧ g.ov.ownBlock ≠ some c.Bd
  n1 : ∀ k, g.cv.ownBlock = some k → g.lv.ownBlock ≠ some k
  n2 : ∀ k, g.cv.ownBlock = some k → g.ov.ownBlock ≠ some k
  n3 : ∀ k, g.lv.ownBlock = some k → g.ov.ownBlock ≠ some k
  own : ∀ k, Own c g k → Own0 c k
  ch : Chg (Own0 c) c.w0 w
  pw : s.pos ≤ c.kn.ws.length
  ty : ∀ t ∈ s.locals, t = 1 ∨ t = 2
def Fr (c : Cx) (g g' : Gh) (w w' : World) : Prop := Chg (Own c g) w w' ∧ ∀ k, Own c g' k → Own c g k ∨ w.heap.size ≤ k
def MP (c : Cx) (s' : St) (g : Gh) (w : World) (v : Value) (e : Ending) (w' : World) : Prop := e = .returned v ∧ ∃ g', MK c s' g' w' ∧ Fr c g g' w w'

section
variable {c : Cx} {s : St} {g g' g'' : Gh} {w w' w'' : World}
theorem Fr.refl (c : Cx) (g : Gh) (w : World) : Fr c g g w w := ⟨Chg.refl _ _, fun _ h => .inl h⟩
theorem Fr.trans (h : Fr c g g' w w') (k : Fr c g' g'' w' w'') : Fr c g g'' w w'' :=
  ⟨h.1.step k.1 fun i _ hi => h.2 i hi, fun i hi => by
    have hs := h.1.size
    rcases k.2 i hi with h1 | h1
    · exact h.2 i h1
    · exact .inr (by omega)⟩
theorem Fr.of_bel (hb : Below w.heap.size w w') : Fr c g g w w' := ⟨Chg.of_below hb, fun _ h => .inl h⟩
theorem MK.lt (h : MK c s g w) : ∀ k, Own c g k → k < w.heap.size := fun k hk => by
  rcases hk with rfl | rfl | hk | hk | hk
  · exact heap_lt h.m
  · exact heap_lt h.d
  · exact (h.cd.lt k hk).2
  · exact (h.ln.lt k hk).2
  · exact (h.lo.lt k hk).2
theorem MK.bel (h : MK c s g w) (hb : Below w.heap.size w w') : MK c s g w' :=
  ⟨rd_bel hb (heap_lt h.m) h.m, rd_bel hb (heap_lt h.d) h.d, owns_of_block h.cd (fun k hk => hb.block k (h.cd.lt k hk).2), owns_of_block h.ln (fun k hk => hb.block k (h.ln.lt k hk).2), owns_of_block h.lo (fun k hk => hb.block k (h.lo.lt k hk).2), h.md, h.nm, h.nd, h.n1, h.n2, h.n3, h.own, h.ch.trans (Chg.of_below hb), h.pw, h.ty⟩
theorem MK.drew (h : MK c s g w) : MK c s g w.drew := h.bel (Below.drew (Below.refl _ _))
/-- a block that is not the maker's is as it was -/
theorem MK.kept (h : MK c s g w) (hf : Fr c g g' w w') {k : Nat} (hk : k < w.heap.size) (hn : ¬ Own c g k) : w'.heap[k]? = w.heap[k]? ∧ ¬ Own c g' k :=
  ⟨hf.1.block k hk hn, fun ho => (hf.2 k ho).elim hn (fun h1 => by omega)⟩
/-- what does not change for a maker's life -/
structure CxOk (c : Cx) : Prop where
  bl : ∀ W, Chg (Own0 c) c.w0 W → W.heap[c.Bl]? = some (.cells #[.slice c.la c.kn.ws.length c.lc] 22 (0, 0))
  iv : ∀ W, Chg (Own0 c) c.w0 W → IV W (.slice c.la c.kn.ws.length c.lc) c.kn.ws
  wl : c.kn.ws.length ≤ 1000000
  wr : ∀ x ∈ c.kn.ws, -9223372036854775808 ≤ x ∧ x ≤ 9223372036854775807
  vo : ∀ W, Chg (Own0 c) c.w0 W → IV W c.vo c.kn.outer
  vp : ∀ W, Chg (Own0 c) c.w0 W → IV W c.vp c.kn.params
  vr : ∀ W, Chg (Own0 c) c.w0 W → IV W c.vr c.kn.results
  lo : c.kn.outer.length ≤ 1000
  lp : c.kn.params.length ≤ 1000
  lr : c.kn.results.length ≤ 1000
  tyo : ∀ t ∈ c.kn.outer, t = 1 ∨ t = 2
  typ : ∀ t ∈ c.kn.params, t = 1 ∨ t = 2
  tyr : ∀ t ∈ c.kn.results, t = 1 ∨ t = 2
  hd : ∃ ab aoff acap, c.av = .slice (some ⟨ab, aoff, none⟩) c.kn.all.length acap ∧ c.kn.all.length ≤ acap ∧ acap ≤ maxLen ∧ ∀ k, k < c.kn.all.length → ∃ ao co ap cp ar cr al nl cl, ∀ W, Chg (Own0 c) c.w0 W →
    At11 W ab (aoff + k * 11) (.string (c.kn.all.getD k default).name) (.bool (c.kn.all.getD k default).inner) (.slice ao (c.kn.all.getD k default).outer.length co) (.slice ap (c.kn.all.getD k default).params.length cp) (.slice ar (c.kn.all.getD k default).results.length cr) (.slice al nl cl) (.slice none 0 0) (.slice none 0 0) (.slice none 0 0) (.slice none 0 0) (.slice none 0 0) ∧
    IV W (.slice ao (c.kn.all.getD k default).outer.length co) (c.kn.all.getD k default).outer ∧ IV W (.slice ap (c.kn.all.getD k default).params.length cp) (c.kn.all.getD k default).params ∧ IV W (.slice ar (c.kn.all.getD k default).results.length cr) (c.kn.all.getD k default).results
  a1 : 1 ≤ c.kn.all.length
  a2 : c.kn.all.length ≤ 40
  at_ : ∀ f ∈ c.kn.all, (∀ t ∈ f.params, t = 1 ∨ t = 2) ∧ (∀ t ∈ f.results, t = 1 ∨ t = 2) ∧ f.params.length ≤ 8 ∧ f.results.length ≤ 8 ∧ f.outer.length ≤ 8
theorem Fr.chg0 (h : MK c s g w) (hf : Fr c g g' w w') : Chg (Own0 c) c.w0 w' := h.ch.step hf.1 fun i _ hi => .inl (h.own i hi)

/-- the draw's place moves -/
theorem MK.setPos (h : MK c s g w) (p : Nat) (hpw : p ≤ c.kn.ws.length) : MK c { s with pos := p } g (w.setCell ⟨c.Bd, 0, none⟩ (.int .i64 p)) ∧ Fr c g g w (w.setCell ⟨c.Bd, 0, none⟩ (.int .i64 p)) := by
  have hb : ∀ k, k ≠ c.Bd → (w.setCell ⟨c.Bd, 0, none⟩ (.int .i64 (p : Int))).heap[k]? = w.heap[k]? := fun k hk => Below.heap_setCell w _ _ k hk
  have hc : Chg (Own c g) w (w.setCell ⟨c.Bd, 0, none⟩ (.int .i64 (p : Int))) := (Chg.refl _ _).setCell (.inl (.inr (.inl rfl))) _
  refine ⟨⟨(hb _ h.md).trans h.m, ?_, owns_of_block h.cd (fun k hk => hb k (fun e => by rw [e] at hk; exact h.nd.1 hk)), owns_of_block h.ln (fun k hk => hb k (fun e => by rw [e] at hk; exact h.nd.2.1 hk)), owns_of_block h.lo (fun k hk => hb k (fun e => by rw [e] at hk; exact h.nd.2.2 hk)), h.md, h.nm, h.nd, h.n1, h.n2, h.n3, h.own, h.ch.step hc (fun i _ hi => .inl (h.own i hi)), hpw, h.ty⟩, hc, fun k hk => .inl hk⟩
  rw [heap_set h.d 0]
  rfl
/-- the line moves -/
theorem MK.setLine (h : MK c s g w) (l : Int) : MK c { s with line := l } g (w.setCell ⟨c.M, 14, none⟩ (.int .i64 l)) ∧ Fr c g g w (w.setCell ⟨c.M, 14, none⟩ (.int .i64 l)) := by
  have hb : ∀ k, k ≠ c.M → (w.setCell ⟨c.M, 14, none⟩ (.int .i64 l)).heap[k]? = w.heap[k]? := fun k hk => Below.heap_setCell w _ _ k hk
  have hc : Chg (Own c g) w (w.setCell ⟨c.M, 14, none⟩ (.int .i64 l)) := (Chg.refl _ _).setCell (.inl (.inl rfl)) _
  refine ⟨⟨?_, (hb _ (fun e => h.md e.symm)).trans h.d, owns_of_block h.cd (fun k hk => hb k (fun e => by rw [e] at hk; exact h.nm.1 hk)), owns_of_block h.ln (fun k hk => hb k (fun e => by rw [e] at hk; exact h.nm.2.1 hk)), owns_of_block h.lo (fun k hk => hb k (fun e => by rw [e] at hk; exact h.nm.2.2 hk)), h.md, h.nm, h.nd, h.n1, h.n2, h.n3, h.own, h.ch.step hc (fun i _ hi => .inl (h.own i hi)), h.pw, h.ty⟩, hc, fun k hk => .inl hk⟩
  rw [heap_set h.m 14]
  rfl
end
/-- what an append does to the rows beside it -/
theorem grown_keep {w w' : World} {v u : Value} {base n size : Nat} {e : TypeId} {xs : List Value} (h : w.ownsRow base e size v n xs) (hg : w.grownBy w' u.ownBlock) (hn : ∀ k, v.ownBlock = some k → u.ownBlock ≠ some k) : w'.ownsRow base e size v n xs :=
  owns_of_block h fun k hk => hg.block k (h.lt k hk).2 (fun e => hn k hk e.symm)
section
variable {c : Cx} {s : St} {g : Gh} {w w1 : World} {v' : Value}
theorem MK.setCode (h : MK c s g w) (code' : List (Int × Int)) (hown : w1.ownsRow 0 73 2 v' code'.length (cellsOf code')) (hg : w.grownBy w1 g.cv.ownBlock) (hv : ∀ k, v'.ownBlock = some k → g.cv.ownBlock = some k ∨ w.heap.size ≤ k) :
    MK c { s with code := code' } { g with cv := v' } (w1.setCell ⟨c.M, 9, none⟩ v') ∧ Fr c g { g with cv := v' } w (w1.setCell ⟨c.M, 9, none⟩ v') := by
  have hlt := h.lt
  have hb : ∀ k, k ≠ c.M → (w1.setCell ⟨c.M, 9, none⟩ v').heap[k]? = w1.heap[k]? := fun k hk => Below.heap_setCell w1 _ _ k hk
  have hm1 : w1.heap[c.M]? = some (.cells (mCells c g s.line) 52 (0, 0)) := (hg.block _ (heap_lt h.m) (fun e => h.nm.1 e.symm)).trans h.m
  have hd1 : w1.heap[c.Bd]? = some (.cells #[.int .i64 s.pos] 3 (0, 0)) := (hg.block _ (heap_lt h.d) (fun e => h.nd.1 e.symm)).trans h.d
  have hne : ∀ k, v'.ownBlock = some k → k ≠ c.M ∧ k ≠ c.Bd ∧ g.lv.ownBlock ≠ some k ∧ g.ov.ownBlock ≠ some k := fun k hk => by
    rcases hv k hk with h1 | h1
    · exact ⟨fun e => by rw [e] at h1; exact h.nm.1 h1, fun e => by rw [e] at h1; exact h.nd.1 h1, h.n1 k h1, h.n2 k h1⟩
    · have q1 := hlt c.M (.inl rfl)
      have q2 := hlt c.Bd (.inr (.inl rfl))
      exact ⟨by omega, by omega, fun e => by have := hlt k (.inr (.inr (.inr (.inl e)))); omega, fun e => by have := hlt k (.inr (.inr (.inr (.inr e)))); omega⟩
  have hc : Chg (Own c g) w (w1.setCell ⟨c.M, 9, none⟩ v') := ((Chg.refl _ _).grown hg (fun k hk => .inl (.inr (.inr (.inl hk))))).setCell (.inl (.inl rfl)) _
  have hfr : ∀ k, Own c { g with cv := v' } k → Own c g k ∨ w.heap.size ≤ k := fun k hk => by
    rcases hk with h1 | h1 | h1 | h1 | h1
    · exact .inl (.inl h1)
    · exact .inl (.inr (.inl h1))
    · rcases hv k h1 with h2 | h2
      · exact .inl (.inr (.inr (.inl h2)))
      · exact .inr h2
    · exact .inl (.inr (.inr (.inr (.inl h1))))
    · exact .inl (.inr (.inr (.inr (.inr h1))))
  refine ⟨⟨?_, (hb _ (fun e => h.md e.symm)).trans hd1, owns_of_block hown (fun k hk => hb k (hne k hk).1), owns_of_block (grown_keep h.ln hg (fun k hk e => h.n1 k e hk)) (fun k hk => hb k (fun e => by rw [e] at hk; exact h.nm.2.1 hk)),
    owns_of_block (grown_keep h.lo hg (fun k hk e => h.n2 k e hk)) (fun k hk => hb k (fun e => by rw [e] at hk; exact h.nm.2.2 hk)), h.md, ⟨fun e => (hne _ e).1 rfl, h.nm.2⟩, ⟨fun e => (hne _ e).2.1 rfl, h.nd.2⟩, fun k hk => (hne k hk).2.2.1, fun k hk => (hne k hk).2.2.2, h.n3, fun k hk => ?_, h.ch.step hc (fun i _ hi => .inl (h.own i hi)), h.pw, h.ty⟩, hc, hfr⟩
  · rw [heap_set hm1 9]
    rfl
  · rcases hfr k hk with h1 | h1
    · exact h.own k h1
    · exact .inr (.inr (.inr (by have := h.ch.size; omega)))
theorem MK.setLines (h : MK c s g w) (lines' : List Int) (hown : w1.ownsRow 0 3 1 v' lines'.length (lines'.map (Value.int .i64))) (hg : w.grownBy w1 g.lv.ownBlock) (hv : ∀ k, v'.ownBlock = some k → g.lv.ownBlock = some k ∨ w.heap.size ≤ k) :
    MK c { s with lines := lines' } { g with lv := v' } (w1.setCell ⟨c.M, 10, none⟩ v') ∧ Fr c g { g with lv := v' } w (w1.setCell ⟨c.M, 10, none⟩ v') := by
  have hlt := h.lt
  have hb : ∀ k, k ≠ c.M → (w1.setCell ⟨c.M, 10, none⟩ v').heap[k]? = w1.heap[k]? := fun k hk => Below.heap_setCell w1 _ _ k hk
  have hm1 : w1.heap[c.M]? = some (.cells (mCells c g s.line) 52 (0, 0)) := (hg.block _ (heap_lt h.m) (fun e => h.nm.2.1 e.symm)).trans h.m
  have hd1 : w1.heap[c.Bd]? = some (.cells #[.int .i64 s.pos] 3 (0, 0)) := (hg.block _ (heap_lt h.d) (fun e => h.nd.2.1 e.symm)).trans h.d
  have hne : ∀ k, v'.ownBlock = some k → k ≠ c.M ∧ k ≠ c.Bd ∧ g.cv.ownBlock ≠ some k ∧ g.ov.ownBlock ≠ some k := fun k hk => by
    rcases hv k hk with h1 | h1
    · exact ⟨fun e => by rw [e] at h1; exact h.nm.2.1 h1, fun e => by rw [e] at h1; exact h.nd.2.1 h1, fun e => h.n1 k e h1, h.n3 k h1⟩
    · have q1 := hlt c.M (.inl rfl)
      have q2 := hlt c.Bd (.inr (.inl rfl))
      exact ⟨by omega, by omega, fun e => by have := hlt k (.inr (.inr (.inl e))); omega, fun e => by have := hlt k (.inr (.inr (.inr (.inr e)))); omega⟩
  have hc : Chg (Own c g) w (w1.setCell ⟨c.M, 10, none⟩ v') := ((Chg.refl _ _).grown hg (fun k hk => .inl (.inr (.inr (.inr (.inl hk)))))).setCell (.inl (.inl rfl)) _
  have hfr : ∀ k, Own c { g with lv := v' } k → Own c g k ∨ w.heap.size ≤ k := fun k hk => by
    rcases hk with h1 | h1 | h1 | h1 | h1
    · exact .inl (.inl h1)
    · exact .inl (.inr (.inl h1))
    · exact .inl (.inr (.inr (.inl h1)))
    · rcases hv k h1 with h2 | h2
      · exact .inl (.inr (.inr (.inr (.inl h2))))
      · exact .inr h2
    · exact .inl (.inr (.inr (.inr (.inr h1))))
  refine ⟨⟨?_, (hb _ (fun e => h.md e.symm)).trans hd1, owns_of_block (grown_keep h.cd hg (fun k hk e => h.n1 k hk e)) (fun k hk => hb k (fun e => by rw [e] at hk; exact h.nm.1 hk)), owns_of_block hown (fun k hk => hb k (hne k hk).1),
    owns_of_block (grown_keep h.lo hg (fun k hk e => h.n3 k e hk)) (fun k hk => hb k (fun e => by rw [e] at hk; exact h.nm.2.2 hk)), h.md, ⟨h.nm.1, fun e => (hne _ e).1 rfl, h.nm.2.2⟩, ⟨h.nd.1, fun e => (hne _ e).2.1 rfl, h.nd.2.2⟩, fun k hk e => (hne k e).2.2.1 hk, h.n2, fun k hk => (hne k hk).2.2.2, fun k hk => ?_, h.ch.step hc (fun i _ hi => .inl (h.own i hi)), h.pw, h.ty⟩, hc, hfr⟩
  · rw [heap_set hm1 10]
    rfl
  · rcases hfr k hk with h1 | h1
    · exact h.own k h1
    · exact .inr (.inr (.inr (by have := h.ch.size; omega)))
theorem MK.setLocals (h : MK c s g w) (locals' : List Int) (hty : ∀ t ∈ locals', t = 1 ∨ t = 2) (hown : w1.ownsRow 0 59 1 v' locals'.length (locals'.map (Value.int .i64))) (hg : w.grownBy w1 g.ov.ownBlock) (hv : ∀ k, v'.ownBlock = some k → g.ov.ownBlock = some k ∨ w.heap.size ≤ k) :
    MK c { s with locals := locals' } { g with ov := v' } (w1.setCell ⟨c.M, 8, none⟩ v') ∧ Fr c g { g with ov := v' } w (w1.setCell ⟨c.M, 8, none⟩ v') := by
  have hlt := h.lt
  have hb : ∀ k, k ≠ c.M → (w1.setCell ⟨c.M, 8, none⟩ v').heap[k]? = w1.heap[k]? := fun k hk => Below.heap_setCell w1 _ _ k hk
  have hm1 : w1.heap[c.M]? = some (.cells (mCells c g s.line) 52 (0, 0)) := (hg.block _ (heap_lt h.m) (fun e => h.nm.2.2 e.symm)).trans h.m
  have hd1 : w1.heap[c.Bd]? = some (.cells #[.int .i64 s.pos] 3 (0, 0)) := (hg.block _ (heap_lt h.d) (fun e => h.nd.2.2 e.symm)).trans h.d
  have hne : ∀ k, v'.ownBlock = some k → k ≠ c.M ∧ k ≠ c.Bd ∧ g.cv.ownBlock ≠ some k ∧ g.lv.ownBlock ≠ some k := fun k hk => by
    rcases hv k hk with h1 | h1
    · exact ⟨fun e => by rw [e] at h1; exact h.nm.2.2 h1, fun e => by rw [e] at h1; exact h.nd.2.2 h1, fun e => h.n2 k e h1, fun e => h.n3 k e h1⟩
    · have q1 := hlt c.M (.inl rfl)
      have q2 := hlt c.Bd (.inr (.inl rfl))
      exact ⟨by omega, by omega, fun e => by have := hlt k (.inr (.inr (.inl e))); omega, fun e => by have := hlt k (.inr (.inr (.inr (.inl e)))); omega⟩
  have hc : Chg (Own c g) w (w1.setCell ⟨c.M, 8, none⟩ v') := ((Chg.refl _ _).grown hg (fun k hk => .inl (.inr (.inr (.inr (.inr hk)))))).setCell (.inl (.inl rfl)) _
  have hfr : ∀ k, Own c { g with ov := v' } k → Own c g k ∨ w.heap.size ≤ k := fun k hk => by
    rcases hk with h1 | h1 | h1 | h1 | h1
    · exact .inl (.inl h1)
    · exact .inl (.inr (.inl h1))
    · exact .inl (.inr (.inr (.inl h1)))
    · exact .inl (.inr (.inr (.inr (.inl h1))))
    · rcases hv k h1 with h2 | h2
      · exact .inl (.inr (.inr (.inr (.inr h2))))
      · exact .inr h2
  refine ⟨⟨?_, (hb _ (fun e => h.md e.symm)).trans hd1, owns_of_block (grown_keep h.cd hg (fun k hk e => h.n2 k hk e)) (fun k hk => hb k (fun e => by rw [e] at hk; exact h.nm.1 hk)), owns_of_block (grown_keep h.ln hg (fun k hk e => h.n3 k hk e)) (fun k hk => hb k (fun e => by rw [e] at hk; exact h.nm.2.1 hk)),
    owns_of_block hown (fun k hk => hb k (hne k hk).1), h.md, ⟨h.nm.1, h.nm.2.1, fun e => (hne _ e).1 rfl⟩, ⟨h.nd.1, h.nd.2.1, fun e => (hne _ e).2.1 rfl⟩, h.n1, fun k hk e => (hne k e).2.2.1 hk, fun k hk e => (hne k e).2.2.2 hk, fun k hk => ?_, h.ch.step hc (fun i _ hi => .inl (h.own i hi)), h.pw, hty⟩, hc, hfr⟩
  · rw [heap_set hm1 8]
    rfl
  · rcases hfr k hk with h1 | h1
    · exact h.own k h1
    · exact .inr (.inr (.inr (by have := h.ch.size; omega)))
/-- an instruction's operand is written anew -/
theorem MK.patch (h : MK c s g w) {b cap : Nat} (hcv : g.cv = .slice (some ⟨b, 0, none⟩) s.code.length cap) (i : Nat) (hi : i < s.code.length) (a : Int) :
    MK c { s with code := s.code.set i ((s.code.getD i (0, 0)).1, a) } g (w.setCell ⟨b, i * 2 + 1, none⟩ (.int .i64 a)) ∧ Fr c g g w (w.setCell ⟨b, i * 2 + 1, none⟩ (.int .i64 a)) := by
  have hbk : g.cv.ownBlock = some b := by rw [hcv]; rfl
  have hb : ∀ k, k ≠ b → (w.setCell ⟨b, i * 2 + 1, none⟩ (.int .i64 a)).heap[k]? = w.heap[k]? := fun k hk => Below.heap_setCell w _ _ k hk
  have hc : Chg (Own c g) w (w.setCell ⟨b, i * 2 + 1, none⟩ (.int .i64 a)) := (Chg.refl _ _).setCell (.inl (.inr (.inr (.inl hbk)))) _
  have hset := cellsOf_set s.code i a hi
  have hst := World.ownsRow.stored (by rw [← hcv]; exact h.cd) (i * 2 + 1) (.int .i64 a)
  refine ⟨⟨(hb _ (fun e => h.nm.1 (by rw [hbk, e]))).trans h.m, (hb _ (fun e => h.nd.1 (by rw [hbk, e]))).trans h.d, ?_, owns_of_block h.ln (fun k hk => hb k (fun e => h.n1 k (by rw [hbk, e]) hk)), owns_of_block h.lo (fun k hk => hb k (fun e => h.n2 k (by rw [hbk, e]) hk)), h.md, h.nm, h.nd, h.n1, h.n2, h.n3, h.own, h.ch.step hc (fun i _ hi => .inl (h.own i hi)), h.pw, h.ty⟩, hc, fun k hk => .inl hk⟩
  rw [hset, hcv, List.length_set]
  exact hst.1
end
end Go.Proofs.Ythaniobijkdnoaa
