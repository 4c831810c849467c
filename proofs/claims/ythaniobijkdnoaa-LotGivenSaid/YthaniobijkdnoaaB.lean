/- How functions and programs without tables lie in memory; the plain tests of the reference answer true of right rows. Conditions: lengths of 63 bits, lists that are right. -/
import Derived.Test.YthaniobijkdnoaaA
namespace Go.Proofs.Ythaniobijkdnoaa
open Go.RowKit

structure Fn where
  name : ByteArray
  inner : Bool
  outer : List Int
  params : List Int
  results : List Int
  locals : List Int
  code : List (Int × Int)
  lines : List Int

/-- the parts of a function value without tables -/
structure FnP (w : World) (f : Fn) (vo vp vr vl vc vn : Value) (cn ca cl : Nat) : Prop where
  nm : f.name.size ≤ maxLen
  o : IV w vo f.outer
  p : IV w vp f.params
  r : IV w vr f.results
  l : IV w vl f.locals
  c : CV w vc f.code
  n : IV w vn f.lines
  cn : cn ≤ maxLen
  ca : ca ≤ maxLen
  cl : cl ≤ maxLen
theorem FnP.bel {w w' : World} {f : Fn} {vo vp vr vl vc vn : Value} {cn ca cl : Nat} (h : FnP w f vo vp vr vl vc vn cn ca cl) (hb : Below w.heap.size w w') : FnP w' f vo vp vr vl vc vn cn ca cl :=
  ⟨h.nm, h.o.bel hb, h.p.bel hb, h.r.bel hb, h.l.bel hb, h.c.bel hb, h.n.bel hb, h.cn, h.ca, h.cl⟩

def fnAgg (f : Fn) (vo vp vr vl vc vn : Value) (an aa al : Option Addr) (cn ca cl : Nat) : Value :=
  .agg #[.string f.name, .bool f.inner, vo, vp, vr, vl, vc, vn, .slice an 0 cn, .slice aa 0 ca, .slice al 0 cl]
def FnV (w : World) (v : Value) (f : Fn) : Prop := ∃ vo vp vr vl vc vn an aa al cn ca cl, v = fnAgg f vo vp vr vl vc vn an aa al cn ca cl ∧ FnP w f vo vp vr vl vc vn cn ca cl
theorem FnV.bel {w w' : World} {f : Fn} {v : Value} (h : FnV w v f) (hb : Below w.heap.size w w') : FnV w' v f := by
  obtain ⟨vo, vp, vr, vl, vc, vn, an, aa, al, cn, ca, cl, rfl, hp⟩ := h
  exact ⟨vo, vp, vr, vl, vc, vn, an, aa, al, cn, ca, cl, rfl, hp.bel hb⟩

/-- the eleven cells from a place on -/
structure At11 (w : World) (b o : Nat) (c0 c1 c2 c3 c4 c5 c6 c7 c8 c9 c10 : Value) : Prop where
  lt : b < w.heap.size
  h0 : w.cell? ⟨b, o, none⟩ = some c0
  h1 : w.cell? ⟨b, o + 1, none⟩ = some c1
  h2 : w.cell? ⟨b, o + 2, none⟩ = some c2
  h3 : w.cell? ⟨b, o + 3, none⟩ = some c3
  h4 : w.cell? ⟨b, o + 4, none⟩ = some c4
  h5 : w.cell? ⟨b, o + 5, none⟩ = some c5
  h6 : w.cell? ⟨b, o + 6, none⟩ = some c6
  h7 : w.cell? ⟨b, o + 7, none⟩ = some c7
  h8 : w.cell? ⟨b, o + 8, none⟩ = some c8
  h9 : w.cell? ⟨b, o + 9, none⟩ = some c9
  h10 : w.cell? ⟨b, o + 10, none⟩ = some c10
theorem At11.bel {w w' : World} {b o : Nat} {c0 c1 c2 c3 c4 c5 c6 c7 c8 c9 c10 : Value} (h : At11 w b o c0 c1 c2 c3 c4 c5 c6 c7 c8 c9 c10) (hb : Below w.heap.size w w') : At11 w' b o c0 c1 c2 c3 c4 c5 c6 c7 c8 c9 c10 := by
  have hh : ∀ o, w'.cell? ⟨b, o, none⟩ = w.cell? ⟨b, o, none⟩ := fun o => hb.cell (p := ⟨b, o, none⟩) h.lt
  exact ⟨Nat.lt_of_lt_of_le h.lt hb.size, (hh _).trans h.h0, (hh _).trans h.h1, (hh _).trans h.h2, (hh _).trans h.h3, (hh _).trans h.h4, (hh _).trans h.h5, (hh _).trans h.h6, (hh _).trans h.h7, (hh _).trans h.h8, (hh _).trans h.h9, (hh _).trans h.h10⟩

def FnAt (w : World) (b o : Nat) (f : Fn) : Prop := ∃ vo vp vr vl vc vn an aa al cn ca cl, At11 w b o (.string f.name) (.bool f.inner) vo vp vr vl vc vn (.slice an 0 cn) (.slice aa 0 ca) (.slice al 0 cl) ∧ FnP w f vo vp vr vl vc vn cn ca cl
theorem FnAt.bel {w w' : World} {f : Fn} {b o : Nat} (h : FnAt w b o f) (hb : Below w.heap.size w w') : FnAt w' b o f := by
  obtain ⟨vo, vp, vr, vl, vc, vn, an, aa, al, cn, ca, cl, h1, hp⟩ := h
  exact ⟨vo, vp, vr, vl, vc, vn, an, aa, al, cn, ca, cl, h1.bel hb, hp.bel hb⟩

/-- a program value that reads as a list of functions -/
def PV (w : World) (v : Value) (p : List Fn) : Prop := ∃ a cap, v = .agg #[.slice a p.length cap] ∧ p.length ≤ cap ∧ cap ≤ maxLen ∧ ∀ i (hi : i < p.length), ∃ b off, a = some ⟨b, off, none⟩ ∧ FnAt w b (off + i * 11) p[i]
theorem PV.bel {w w' : World} {p : List Fn} {v : Value} (h : PV w v p) (hb : Below w.heap.size w w') : PV w' v p := by
  obtain ⟨a, cap, rfl, h1, h2, hc⟩ := h
  refine ⟨a, cap, rfl, h1, h2, fun i hi => ?_⟩
  obtain ⟨b, off, rfl, hf⟩ := hc i hi
  exact ⟨b, off, rfl, hf.bel hb⟩

/-- a call that answers a value and turns nothing that was there -/
def AnsB (u : Value) (w : World) (e : Ending) (w' : World) : Prop := e = .returned u ∧ Below w.heap.size w w'

set_option maxHeartbeats 1000000 in
theorem bare1_any (f : Fn) (vo vp vr vl vc vn : Value) (an aa al : Option Addr) (cn ca cl : Nat) (w : World) :
    Calls Try.prog 9 #[fnAgg f vo vp vr vl vc vn an aa al cn ca cl] w (AnsB (.bool true) w) := by
  obtain ⟨s, hs⟩ : ∃ s, s = f.name := ⟨_, rfl⟩
  obtain ⟨i, hi⟩ : ∃ i, i = f.inner := ⟨_, rfl⟩
  rw [fnAgg, ← hs, ← hi]
  clear hs hi
  go_enter Try.func9, Try.ntmps9
  go_wp2
  go_ret
  exact ⟨rfl, (Below.refl _ _).alloc (Nat.le_refl _) _⟩

set_option maxHeartbeats 1000000 in
theorem bareP_any (p : List Fn) (v : Value) (w : World) (hv : PV w v p) (hl0 : p.length ≤ 1000000) : Calls Try.prog 8 #[v] w (AnsB (.bool true) w) := by
  obtain ⟨a, cap, rfl, hl, hm, hc⟩ := hv
  have HC := Lib.hid hc
  obtain ⟨n, hn⟩ : ∃ n, n = p.length := ⟨_, rfl⟩
  rw [← hn] at hl hl0 ⊢
  have HN := Lib.hid hn
  clear hc hn
  go_enter Try.func8, Try.ntmps8
  go_wp2
  go_loopw [3] (fun i wr => ∃ k : Nat, k ≤ n ∧ i = .int .i64 k ∧ wr.cell? ⟨w.heap.size, 0, none⟩ = some (.slice a n cap) ∧ Hid (Below w.heap.size w wr) ∧ w.heap.size < wr.heap.size) (fun i _ => n - (intOf i).toNat)
  case atStart => exact ⟨0, Nat.zero_le _, rfl, by go_simp, (Below.refl _ _).alloc (Nat.le_refl _) _, by simp⟩
  case round =>
    obtain ⟨k, hk, rfl, hbox, HB, hsz⟩ := hrel
    by_cases hlt : k < n
    · have hkl : k < p.length := by have := HN.out; omega
      obtain ⟨b, off, rfl, hf⟩ := HC.out k hkl
      obtain ⟨vo, vp, vr, vl, vc, vn, an, aa, al, cn, ca, cl, h1, hp⟩ := hf.bel HB.out
      obtain ⟨hlt1, h0, h1, h2, h3, h4, h5, h6, h7, h8, h9, h10⟩ := h1
      obtain ⟨s, hs⟩ : ∃ s, s = p[k].name := ⟨_, rfl⟩
      obtain ⟨i, hi⟩ : ∃ i, i = p[k].inner := ⟨_, rfl⟩
      have H9 : Hid (∀ W, Calls Try.prog 9 #[.agg #[.string s, .bool i, vo, vp, vr, vl, vc, vn, .slice an 0 cn, .slice aa 0 ca, .slice al 0 cl]] W (AnsB (.bool true) W)) := fun W => by
        rw [hs, hi]; exact bare1_any p[k] vo vp vr vl vc vn an aa al cn ca cl W
      rw [← hs] at h0
      rw [← hi] at h1
      clear hs hi hf hp
      go_wp2_with (go_at_call 9; refine (H9.out _).mono ?_; rintro e w1 ⟨rfl, hb⟩; have HB1 := Lib.hid hb; clear hb)
      go_round
      case rel => exact ⟨k + 1, by omega, by go_num, (HB1.out.cell (p := ⟨w.heap.size, 0, none⟩) hsz).trans hbox, HB.out.trans (HB1.out.mono HB.out.size), Nat.lt_of_lt_of_le hsz HB1.out.size⟩
      case measure => simp [intOf] <;> omega
    · go_wp2
      go_ret
      exact ⟨rfl, HB.out⟩
end Go.Proofs.Ythaniobijkdnoaa
