/- Which instructions are reached, in the reference, of a function value without tables. Conditions: code that is right and not too long. -/
import Derived.Test.YthaniobijkdnoaaQ
namespace Go.Proofs.Ythaniobijkdnoaa
open Go.RowKit

theorem reach_any (f : Fn) (w : World) (v : Value) (hv : FnV w v f) (h1 : 1 ≤ f.code.length) (h2 : f.code.length ≤ 2000) (hin : ∀ x ∈ f.code, 0 ≤ x.1 ∧ x.1 < 35 ∧ x.1 ≠ 33 ∧ x.1 ≠ 34) (hr : ∀ i, i < f.code.length → Rch f.code i) :
    Calls Try.prog 58 #[v] w (ReachPost f.code.length w) := by
  obtain ⟨vo, vp, vr, vl, vc, vn, an, aa, al, cn, ca, cl, rfl, hp⟩ := hv
  obtain ⟨a, cc, hvc, -⟩ := id hp.c
  subst hvc
  obtain ⟨b, off, rfl, -⟩ := code_at hp.c 0 h1
  have key : ∀ (k : Nat) W, k < f.code.length → Below w.heap.size w W → b < W.heap.size ∧ W.cell? ⟨b, off + k * 2, none⟩ = some (.int .i64 (f.code[k]!).1) ∧ W.cell? ⟨b, off + k * 2 + 1, none⟩ = some (.int .i64 (f.code[k]!).2) := fun k W hk hb => by
    obtain ⟨b', off', he, h3, h4, h5⟩ := code_at (hp.c.bel hb) k hk
    simp only [Option.some.injEq, Addr.mk.injEq] at he
    obtain ⟨rfl, rfl, _⟩ := he
    exact ⟨h3, h4, h5⟩
  have hi : ∀ k, k < f.code.length → 0 ≤ (f.code[k]!).1 ∧ (f.code[k]!).1 < 35 ∧ (f.code[k]!).1 ≠ 33 ∧ (f.code[k]!).1 ≠ 34 := fun k hk => by
    rw [getElem!_pos f.code k hk]; exact hin _ (List.getElem_mem _)
  refine reach_walk w f.name f.inner vo vp vr vl vn an aa al f.code.length cc cn ca cl b off f.code rfl h1 h2 hr ?_ ?_ ?_
  · exact fun k W hk hb => next_any W _ _ _ _ _ _ _ _ _ _ _ _ _ _ _ k b off _ _ hk h2 (key k W hk hb).1 (key k W hk hb).2.1 (key k W hk hb).2.2 (hi k hk).2.2.2
  · exact fun k W hk hb => catch_any W _ _ _ _ _ _ _ _ _ _ _ _ _ _ _ k b off _ _ hk (key k W hk hb).1 (key k W hk hb).2.1 (key k W hk hb).2.2 (hi k hk).1 (hi k hk).2.1
  · exact fun k W hk hb => opens_any W _ _ _ _ _ _ _ _ _ _ _ _ _ _ _ k b off _ _ hk h2 (key k W hk hb).1 (key k W hk hb).2.1 (key k W hk hb).2.2 (by simpa using (hi k hk).2.2.1)
end Go.Proofs.Ythaniobijkdnoaa
