/- The law VframePlays of inlaylaw31 returns true for every list of calls, and leaves its argument as it was. No condition. -/
import Derived.Test.YtddchmkdmmobeaaRows
import Derived.WalkKit
import Derived.ProofKit
import Derived.OpenShut
import Derived.ChangeOld
import Derived.Test.YtddchmkdmmobeaaI
import Derived.Test.YtddchmkdmmobeaaOpen
namespace Go.Proofs.Ytddchmkdmmobeaa.vframePlays
open Go.ChangeShapes Go.WideShapes Go.ChangeAt Go.RowKit
set_option linter.unusedVariables false

theorem own : ownKnob Try.prog.godebug = none := by kernel_rfl
theorem laidOut : laidOutB Try.prog = true := by kernel_rfl

theorem plays_none (a : Option Addr) (cap : Nat) (w : World) :
    Calls Try.prog 3 #[.slice a 0 cap] w fun e w' => e = .returned (.bool true) ∧ Below w.heap.size w w' := by
  go_enter Try.func3, Try.ntmps3
  go_wp2
  go_loopw [6] (fun i wr => i = .int .i64 0 ∧ wr = w.alloc (.cells #[.slice none 0 0, .int .i64 0] 26)) (fun _ _ => 0)
  case atStart => exact ⟨rfl, rfl⟩
  case round =>
    obtain ⟨rfl, rfl⟩ := hrel
    go_wp2_with (go_at_call 8; refine (lives_any _).mono ?_; rintro e w9 ⟨rfl, hb9⟩)
    go_ret
    exact ⟨rfl, ((Below.refl _ _).alloc (Nat.le_refl _) _).trans (hb9.mono (by simp))⟩

def IsOps (w : World) (a : Option Addr) (len cap : Nat) : Prop :=
  len = 0 ∨ ∃ b off, a = some ⟨b, off, none⟩ ∧ b < w.heap.size ∧ len ≤ cap ∧ cap ≤ 9223372036854775807 ∧
    ∀ k, k < len → ∃ o0 o1 o2 o3 : Int, w.cell? ⟨b, off + k * 4, none⟩ = some (.int .i64 o0) ∧ w.cell? ⟨b, off + k * 4 + 1, none⟩ = some (.int .i64 o1) ∧ w.cell? ⟨b, off + k * 4 + 2, none⟩ = some (.int .i64 o2) ∧ w.cell? ⟨b, off + k * 4 + 3, none⟩ = some (.int .i64 o3)

theorem walk (a : Option Addr) (len cap : Nat) (w : World) (h : IsOps w a len cap) :
    Calls Try.prog 3 #[.slice a len cap] w fun e w' => e = .returned (.bool true) ∧ Below w.heap.size w w' := by
  rcases h with rfl | ⟨b, off, rfl, hb, h1, h2, h3⟩
  · exact plays_none a cap w
  · exact plays_any b off len cap w hb h1 h2 h3

theorem isOps {H : Type} {enc : TypeId × Value → H} {W : World} {a : Option Addr} {len cap : Nat} {d : DataW H} {p : List MemPlace} (h : DataW.Trod enc Try.prog W 0 (fun _ => true) true 22 (.slice a len cap) d p) : IsOps W a len cap := by
  obtain ⟨fuel, hf⟩ := h
  rcases open_slice_fields Try.underlying22 Try.underlying28 (by kernel_rfl) (by kernel_rfl) hf with ⟨hcs, _⟩ | ⟨x, l, c, m, D, Pl, hcs, _, hl, hm, hmm, _, hcell⟩
  · simp [Value.cells] at hcs
    exact .inl hcs.2.1
  · simp [Value.cells] at hcs
    obtain ⟨rfl, rfl, rfl⟩ := hcs
    simp at hmm
    subst hmm
    by_cases h0 : len = 0
    · exact .inl h0
    · right
      have key : ∀ i, i < len → ∀ j, j < 4 → ∃ o : Int, W.cell? (x.add (i * 4 + j)) = some (.int .i64 o) := by
        intro i hi j hj
        obtain ⟨ys, n, _, _, hys, hf⟩ := hcell i (by omega)
        have hj' : j = 0 ∨ j = 1 ∨ j = 2 ∨ j = 3 := by omega
        rcases hj' with rfl | rfl | rfl | rfl
        · obtain ⟨v, y, hc, _, ht⟩ := hf 0 _ rfl
          obtain ⟨o, e0, _, _⟩ := DataW.trod_int Try.underlying3 ht
          simp at e0
          subst e0
          exact ⟨o, hc⟩
        · obtain ⟨v, y, hc, _, ht⟩ := hf 1 _ rfl
          obtain ⟨o, e0, _, _⟩ := DataW.trod_int Try.underlying3 ht
          simp at e0
          subst e0
          exact ⟨o, hc⟩
        · obtain ⟨v, y, hc, _, ht⟩ := hf 2 _ rfl
          obtain ⟨o, e0, _, _⟩ := DataW.trod_int Try.underlying3 ht
          simp at e0
          subst e0
          exact ⟨o, hc⟩
        · obtain ⟨v, y, hc, _, ht⟩ := hf 3 _ rfl
          obtain ⟨o, e0, _, _⟩ := DataW.trod_int Try.underlying3 ht
          simp at e0
          subst e0
          exact ⟨o, hc⟩
      obtain ⟨b, off, spot⟩ := x
      obtain ⟨o, hc⟩ := key 0 (by omega) 0 (by omega)
      have hspot : spot = none := by simpa [Addr.add] using World.cell?_spot hc
      subst hspot
      have hadd : ∀ n, (⟨b, off, none⟩ : Addr).add n = ⟨b, off + n, none⟩ := by intro n; unfold Addr.add; split <;> simp_all
      refine ⟨b, off, rfl, World.block_lt_of_cell? W _ hc, hl, by simpa [maxLen] using hm, fun k hk => ?_⟩
      obtain ⟨o0, h0⟩ := key k hk 0 (by omega)
      obtain ⟨o1, h1⟩ := key k hk 1 (by omega)
      obtain ⟨o2, h2⟩ := key k hk 2 (by omega)
      obtain ⟨o3, h3⟩ := key k hk 3 (by omega)
      rw [hadd] at h0 h1 h2 h3
      exact ⟨o0, o1, o2, o3, by simpa using h0, by simpa [Nat.add_assoc] using h1, by simpa [Nat.add_assoc] using h2, by simpa [Nat.add_assoc] using h3⟩

set_option maxRecDepth 100000 in
theorem lifted (os : Os) (started : os.Started) (H : Type) (enc : TypeId × Value → H) :
    ReturnsInHanded {} Try.checked os 3 .any (Rows.vframePlaysSpec.pre6 enc Try.prog Try.f3 Rows.vframePlaysRow.domain false) (Rows.vframePlaysSpec.post enc Try.prog Try.f3 false true false false) := by
  refine returnsInHanded_of_change (C := Try.checked) own started (by kernel_rfl) Try.func3
    (ChangeSpec.witness6 (enc := enc) (C := Try.checked) false ⟨#[], #[.slice none 0 0], []⟩ 8 (by kernel_rfl) (by kernel_rfl) (by kernel_rfl) (by kernel_rfl)) ?_
  intro W base args ds gs before hval0 hW hcnd _
  have hval : ∀ (j : Nat) t v, Try.f3.params[j]? = some t → args[j]? = some v → Value.okWide Try.prog W .any base t v := hval0
  have hW' := hW
  obtain ⟨p, q, hA0, hV, rfl, hfz, hnd⟩ := hW
  have hA : DataW.TrodAll enc Try.prog W 0 (fun _ => true) true Try.f3.params.toList args.toList ds p := hA0
  rw [Try.params3] at hA hval
  obtain ⟨v0, vs0, d0, ds0, p0, q0, hargs, rfl, rfl, h0, r0⟩ := trodAll_cons hA
  obtain ⟨rfl, rfl, rfl⟩ := trodAll_nil r0
  obtain rfl : args = #[v0] := by cases args; simp_all
  obtain ⟨rfl, rfl⟩ := trodVars_none hV
  obtain ⟨a0, len0, cap0, rfl⟩ := okWide_slice Try.underlying22 (hval 0 22 v0 rfl rfl)
  have k0 := h0
  have lt0 : ∀ x ∈ p0, x.block < W.heap.size := by obtain ⟨m, hm⟩ := k0; exact DataW.trod_lt m _ _ _ hm
  clear hA0 hval0
  refine (walk a0 len0 cap0 W (isOps h0)).mono fun e W' ⟨he, bel⟩ => ?_
  subst he
  exact ⟨_, rfl, _, _, _, [], _, [], hW', trodAll_mk1 (shut_bool Try.underlying4 _), (trodAll_cons_mk (Below.trod laidOut (by kernel_rfl) (of_decide_eq_true (by kernel_rfl)) k0 bel lt0) trodAll_mk0), rfl, bel.frame _, fun h => by cases h⟩

theorem over : Rows.vframePlaysRow.holds Try.pinned (OpenSpec.ofChange Rows.vframePlaysSpec) :=
  OpenClaim.holds_of_wide 3 Try.f3 rfl rfl rfl rfl rfl rfl rfl ⟨rfl, rfl, rfl, rfl, rfl⟩ rfl rfl rfl rfl rfl (by kernel_rfl) Try.func3 (by kernel_rfl)
    (of_decide_eq_true (by kernel_rfl)) (by unfold Func.isWrapper; first | (rw [if_pos (by decide +kernel)]; kernel_rfl) | (rw [if_neg (by decide +kernel)]; exact ⟨rfl, rfl⟩))
    (fun os started H enc _ => lifted os started H enc)

theorem proved : Rows.VframePlaysSaid := over
end Go.Proofs.Ytddchmkdmmobeaa.vframePlays
namespace Go.Proofs.Ytddchmkdmmobeaa
theorem vframePlays_holds : Rows.VframePlaysSaid := vframePlays.proved
#print axioms vframePlays_holds
end Go.Proofs.Ytddchmkdmmobeaa
