/- The slots of a function, and whose an instruction is, in the reference. Conditions: lists that are not too long. -/
import Derived.Test.YthaniobijkdnoaaI
namespace Go.Proofs.Ythaniobijkdnoaa
open Go.RowKit

theorem add_none (b o n : Nat) : (⟨b, o, none⟩ : Addr).add n = ⟨b, o + n, none⟩ := by unfold Addr.add; split <;> simp_all
theorem reads_of_iv {w : World} {v : Value} {xs : List Int} (h : IV w v xs) : ∃ A c, v = .slice A xs.length c ∧ Reads w w.heap.size 1 A xs.length (xs.map (Value.int .i64)) := by
  obtain ⟨a, cap, rfl, _, _, hc⟩ := h
  refine ⟨a, cap, rfl, by simp, fun hn => ?_⟩
  obtain ⟨b, off, rfl, hb, _⟩ := hc 0 hn
  refine ⟨_, rfl, hb, fun j u hu => ?_⟩
  rw [List.getElem?_map] at hu
  cases hj : xs[j]? with
  | none => rw [hj] at hu; simp at hu
  | some x =>
    rw [hj] at hu
    obtain ⟨hlt, rfl⟩ := List.getElem?_eq_some_iff.1 hj
    obtain ⟨b2, off2, he, _, hcell⟩ := hc j hlt
    simp only [Option.some.injEq, Addr.mk.injEq] at he
    obtain ⟨rfl, rfl, _⟩ := he
    rw [add_none, hcell]
    simpa using hu
theorem ints_one (xs : List Int) : ∀ u ∈ xs.map (Value.int .i64), u.oneCell' = true := by
  intro u hu
  rw [List.mem_map] at hu
  obtain ⟨x, _, rfl⟩ := hu
  rfl

set_option maxHeartbeats 2000000 in
theorem slots_walk (w : World) (s : ByteArray) (inn : Bool) (vo vc vn c8 c9 c10 : Value) (ap ar al : Option Addr) (cp cr cl : Nat) (ps rs ls : List Int)
    (HP : Hid (∀ W, Below w.heap.size w W → Reads W W.heap.size 1 ap ps.length (ps.map (Value.int .i64)))) (HR : Hid (∀ W, Below w.heap.size w W → Reads W W.heap.size 1 ar rs.length (rs.map (Value.int .i64)))) (HL : Hid (∀ W, Below w.heap.size w W → Reads W W.heap.size 1 al ls.length (ls.map (Value.int .i64))))
    (hp : ps.length ≤ 100000) (hr : rs.length ≤ 100000) (hl : ls.length ≤ 100000) :
    Calls Try.prog 84 #[.agg #[.string s, .bool inn, vo, .slice ap ps.length cp, .slice ar rs.length cr, .slice al ls.length cl, vc, vn, c8, c9, c10]] w (RowT 59 (ps ++ rs ++ ls) w) := by
  obtain ⟨i0, hi, hz0, hz1, hz2⟩ := info_parts inf59
  have HB0 : Hid (∀ o, Below w.heap.size w (w.alloc o)) := fun o => (Below.refl _ _).alloc (Nat.le_refl _) o
  go_enter Try.func84, Try.ntmps84
  go_wp2_with (at_builtin; refine wpList_append_any _ rfl _ _ 29 rfl (w.heap.size + 1) 59 i0 (.int .i64 0) 1 8 Try.underlying29 hi hz0 hz1 hz2 rfl (by decide) _ 0 [] rfl (World.ownsRow_nil _ _ _ _) _ ap ps.length cp _ rfl (HP.out _ (HB0.out _)) (ints_one _) (by unfold maxLen; omega) (by omega) (by simp) ?_)
  intro v1 w1 hown1 hgrow1 _
  have hb1 : Below (w.heap.size + 1) (w.alloc (.cells #[.string s, .bool inn, vo, .slice ap ps.length cp, .slice ar rs.length cr, .slice al ls.length cl, vc, vn, c8, c9, c10] 34)) w1 :=
    Below.grown (Below.refl _ _) hgrow1 (by simp) (fun k hk => by simp [Value.ownBlock] at hk)
  have BX := (Box11.new w 34 (.string s) (.bool inn) vo (.slice ap ps.length cp) (.slice ar rs.length cr) (.slice al ls.length cl) vc vn c8 c9 c10).bel (by simpa using hb1)
  have HB1 : Hid (Below w.heap.size w w1) := (HB0.out _).trans (hb1.mono (by omega))
  obtain ⟨gl, -, -, -, -, g4, g5, -, -, -, -, -⟩ := BX
  have HO1 := Lib.hid hown1
  clear hown1 hgrow1 hb1
  go_wp2_with (at_builtin; refine wpList_append_any _ rfl _ _ 29 rfl (w.heap.size + 1) 59 i0 (.int .i64 0) 1 8 Try.underlying29 hi hz0 hz1 hz2 rfl (by decide) _ ps.length _ rfl HO1.out _ ar rs.length cr _ rfl (HR.out _ HB1.out) (ints_one _) (by unfold maxLen; omega) (by omega) (by omega) ?_)
  intro v2 w2 hown2 hgrow2 _
  have g5' : w2.cell? ⟨w.heap.size, 5, none⟩ = some (.slice al ls.length cl) := by
    rw [World.cell?_of_block (hgrow2.block w.heap.size gl (fun e => by have := (HO1.out.lt _ e.symm).1; omega))]
    exact g5
  have gl' : w.heap.size < w2.heap.size := Nat.lt_of_lt_of_le gl hgrow2.size
  have HB2 : Hid (Below w.heap.size w w2) := HB1.out.grown hgrow2 (by omega) (fun k hk => by have := (HO1.out.lt _ hk).1; omega)
  have HO2 := Lib.hid hown2
  clear hown2 hgrow2 g4 g5
  go_wp2_with (at_builtin; refine wpList_append_any _ rfl _ _ 29 rfl (w.heap.size + 1) 59 i0 (.int .i64 0) 1 8 Try.underlying29 hi hz0 hz1 hz2 rfl (by decide) _ (ps.length + rs.length) _ rfl HO2.out _ al ls.length cl _ rfl (HL.out _ HB2.out) (ints_one _) (by unfold maxLen; omega) (by omega) (by omega) ?_)
  intro v3 w3 hown3 hgrow3 _
  have HB3 : Hid (Below w.heap.size w w3) := HB2.out.grown hgrow3 (by omega) (fun k hk => by have := (HO2.out.lt _ hk).1; omega)
  have HO3 := Lib.hid hown3
  clear hown3 hgrow3
  go_wp2
  go_ret
  refine ⟨_, rfl, ?_, HB3.out⟩
  have h := owns_base (base' := w.heap.size) HO3.out (fun k hk => by have := (HO3.out.lt _ hk).1; omega)
  simpa [Nat.add_assoc] using h

theorem slots_any (f : Fn) (v : Value) (w : World) (hv : FnV w v f) (h1 : f.params.length ≤ 100000) (h2 : f.results.length ≤ 100000) (h3 : f.locals.length ≤ 100000) : Calls Try.prog 84 #[v] w (RowT 59 (f.params ++ f.results ++ f.locals) w) := by
  obtain ⟨vo, vp, vr, vl, vc, vn, an, aa, al, cn, ca, cl, rfl, hp⟩ := hv
  obtain ⟨ap, cp, rfl, _⟩ := reads_of_iv hp.p
  obtain ⟨ar, cr, rfl, _⟩ := reads_of_iv hp.r
  obtain ⟨al1, cl1, rfl, _⟩ := reads_of_iv hp.l
  have key : ∀ {A : Option Addr} {c : Nat} {xs : List Int}, IV w (.slice A xs.length c) xs → ∀ W, Below w.heap.size w W → Reads W W.heap.size 1 A xs.length (xs.map (Value.int .i64)) := fun {A c xs} h W hb => by
    obtain ⟨A', c', he, hr⟩ := reads_of_iv (h.bel hb)
    simp only [Value.slice.injEq] at he
    obtain ⟨rfl, _, _⟩ := he
    exact hr
  exact slots_walk w f.name f.inner vo vc vn _ _ _ ap ar al1 cp cr cl1 f.params f.results f.locals (key hp.p) (key hp.r) (key hp.l) h1 h2 h3
end Go.Proofs.Ythaniobijkdnoaa
