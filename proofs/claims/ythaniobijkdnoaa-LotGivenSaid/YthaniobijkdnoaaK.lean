/- Whose an instruction is, and to whose results it may come, in the reference, of programs without tables. Conditions: the function is one of the program. -/
import Derived.Test.YthaniobijkdnoaaJ
namespace Go.Proofs.Ythaniobijkdnoaa
open Go.RowKit

instance : Inhabited Fn := ⟨⟨⟨#[]⟩, false, [], [], [], [], [], []⟩⟩
/-- the k-th function of a program, opened -/
theorem PV.open_ {w : World} {v : Value} {p : List Fn} (h : PV w v p) : ∃ a cap, v = .agg #[.slice a p.length cap] ∧ p.length ≤ cap ∧ Hid (∀ k W, k < p.length → Below w.heap.size w W → ∃ b off vo vp vr vl vc vn an aa al cn ca cl, a = some ⟨b, off, none⟩ ∧
    At11 W b (off + k * 11) (.string (p[k]!).name) (.bool (p[k]!).inner) vo vp vr vl vc vn (.slice an 0 cn) (.slice aa 0 ca) (.slice al 0 cl) ∧ FnP W p[k]! vo vp vr vl vc vn cn ca cl) := by
  obtain ⟨a, cap, rfl, hl, hm, hc⟩ := h
  refine ⟨a, cap, rfl, hl, fun k W hk hb => ?_⟩
  obtain ⟨b, off, rfl, hf⟩ := hc k hk
  obtain ⟨vo, vp, vr, vl, vc, vn, an, aa, al, cn, ca, cl, h1, hp⟩ := hf.bel hb
  have e : p[k]! = p[k] := getElem!_pos p k hk
  rw [e]
  exact ⟨b, off, vo, vp, vr, vl, vc, vn, an, aa, al, cn, ca, cl, rfl, h1, hp⟩

set_option maxHeartbeats 1000000 in
theorem owner_any (p : List Fn) (v : Value) (w : World) (hv : PV w v p) (k : Nat) (hk : k < p.length) (pc : Int) (hl0 : p.length ≤ 1000000) : Calls Try.prog 79 #[v, .int .i64 k, .int .i64 pc] w (AnsB (.int .i64 k) w) := by
  obtain ⟨a, cap, rfl, hl, HC⟩ := hv.open_
  obtain ⟨b, off, vo, vp, vr, vl, vc, vn, an, aa, al, cn, ca, cl, rfl, h1, hfp⟩ := HC.out k w hk (Below.refl _ _)
  obtain ⟨-, ⟨ao, co, rfl, -⟩, ⟨ap, cp, rfl, -⟩, ⟨ar, cr, rfl, -⟩, ⟨al1, cl1, rfl, -⟩, ⟨ac, cc, rfl, -⟩, ⟨an1, cn1, rfl, -⟩, -, -, -⟩ := hfp
  generalize (p[k]!).outer.length = no, (p[k]!).params.length = np, (p[k]!).results.length = nr, (p[k]!).locals.length = nl, (p[k]!).code.length = nc, (p[k]!).lines.length = nn at h1
  obtain ⟨hlt1, h0, h1, h2, h3, h4, h5, h6, h7, h8, h9, h10⟩ := h1
  obtain ⟨n, hn⟩ : ∃ n, n = p.length := ⟨_, rfl⟩
  obtain ⟨s, hs⟩ : ∃ s, s = (p[k]!).name := ⟨_, rfl⟩
  obtain ⟨i, hi⟩ : ∃ i, i = (p[k]!).inner := ⟨_, rfl⟩
  rw [← hs] at h0
  rw [← hi] at h1
  rw [← hn] at hl hk hl0 ⊢
  clear HC hn hs hi
  have H9 : Hid (∀ W, Calls Try.prog 9 #[.agg #[.string s, .bool i, .slice ao no co, .slice ap np cp, .slice ar nr cr, .slice al1 nl cl1, .slice ac nc cc, .slice an1 nn cn1, .slice an 0 cn, .slice aa 0 ca, .slice al 0 cl]] W (AnsB (.bool true) W)) := fun W => bare_agg W s i _ _ _ _ _ _ an aa al cn ca cl
  go_enter Try.func79, Try.ntmps79
  go_wp2_with (go_at_call 9; refine (H9.out _).mono ?_; rintro e w1 ⟨rfl, hb⟩; have HB1 := Lib.hid hb; clear hb)
  go_ret
  exact ⟨rfl, Below.trans (by repeat (first | with_reducible exact Below.refl _ _ | with_reducible refine Below.alloc ?_ (by simp <;> omega) _ | with_reducible refine Below.setCell ?_ (by simp <;> omega) _)) (HB1.out.mono (by simp <;> omega))⟩

def OutPost (xs : List Int) (w : World) (e : Ending) (w' : World) : Prop := ∃ v, e = .returned (.tuple #[v, .bool true]) ∧ IV w' v xs ∧ Below w.heap.size w w'
set_option maxHeartbeats 1000000 in
theorem outer_any (p : List Fn) (v : Value) (w : World) (hv : PV w v p) (k : Nat) (hk : k < p.length) (pc : Int) (hl0 : p.length ≤ 1000000) (hin : (p[k]!).inner = true) : Calls Try.prog 80 #[v, .int .i64 k, .int .i64 pc] w (OutPost (p[k]!).outer w) := by
  have H79 : Hid (∀ W, Below w.heap.size w W → Calls Try.prog 79 #[v, .int .i64 k, .int .i64 pc] W (AnsB (.int .i64 k) W)) := fun W hb => owner_any p v W (hv.bel hb) k hk pc hl0
  obtain ⟨a, cap, rfl, hl, HC⟩ := hv.open_
  obtain ⟨n, hn⟩ : ∃ n, n = p.length := ⟨_, rfl⟩
  rw [← hn] at hl hk hl0 H79 HC ⊢
  clear hn
  have HB0 : Hid (Below w.heap.size w (w.alloc (.cells #[.slice a n cap] 26))) := (Below.refl _ _).alloc (Nat.le_refl _) _
  go_enter Try.func80, Try.ntmps80
  go_wp2_with fail
  refine (H79.out _ HB0.out).mono ?_
  rintro e w1 ⟨rfl, hb⟩
  have HB1 := Lib.hid hb
  clear hb
  have gb : w1.cell? ⟨w.heap.size, 0, none⟩ = some (.slice a n cap) := (HB1.out.cell (p := ⟨w.heap.size, 0, none⟩) (by simp)).trans (cell_of (heap_new w _) 0)
  have HB2 : Hid (Below w.heap.size w w1) := HB0.out.trans (HB1.out.mono HB0.out.size)
  obtain ⟨b, off, vo, vp, vr, vl, vc, vn, an, aa, al, cn, ca, cl, rfl, h1, hfp⟩ := HC.out k w1 hk HB2.out
  obtain ⟨hlt1, h0, h1, h2, h3, h4, h5, h6, h7, h8, h9, h10⟩ := h1
  rw [hin] at h1
  have HF := Lib.hid hfp
  clear hfp
  go_wp2
  go_ret2
  exact ⟨_, rfl, HF.out.o, HB2.out⟩
end Go.Proofs.Ythaniobijkdnoaa
