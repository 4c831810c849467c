/- The law LimitsPlays of inlaylaw27 returns true for all limits and every list of calls, and leaves its arguments as they were. No condition. -/
import Derived.Test.YtgdjponooengaaaRows
import Derived.WalkKit
import Derived.ProofKit
import Derived.OpenShut
import Derived.ChangeOld
import Derived.Lib.SmallJoins
import Derived.Test.YtgdjponooengaaaD
namespace Go.Proofs.Ytgdjponooengaaa.limitsPlays
open Go.ChangeShapes Go.WideShapes Go.ChangeAt Go.RowKit Go.Joins
set_option linter.unusedVariables false

theorem own : ownKnob Try.prog.godebug = none := by kernel_rfl
theorem laidOut : laidOutB Try.prog = true := by kernel_rfl

set_option maxHeartbeats 1000000 in
set_option maxRecDepth 1000000 in
theorem plays_none (a : Option Addr) (cap : Nat) (m0 m1 m2 m3 : Int) (w : World) :
    Calls Try.prog 3 #[.agg #[.int .i64 m0, .int .i64 m1, .int .i64 m2, .int .i64 m3], .slice a 0 cap] w fun e w' => e = .returned (.bool true) ∧ Below w.heap.size w w' := by
  have h5 : ∀ o, Calls Try.prog 5 #[.agg #[.int .i64 m0, .int .i64 m1, .int .i64 m2, .int .i64 m3]] (w.alloc o) (NewPost (w.alloc o) m0 m1 m2 m3) := fun o => new_any _ _ _ _ _
  have H5 := Lib.hid h5
  clear h5
  go_enter Try.func3, Try.ntmps3
  go_wp2_with fail
  refine (H5.out _).mono ?_
  rintro e w1 ⟨M, C, rfl, hA, hM, hC, hb1⟩
  have hbx : w1.heap[w.heap.size]? = some (.cells #[.int .i64 m0, .int .i64 m1, .int .i64 m2, .int .i64 m3] 23 (0, 0)) := rd_bel hb1 (by simp) (heap_new _ _)
  have b0 : w1.cell? ⟨w.heap.size, 0, none⟩ = some (.int .i64 m0) := cell_of hbx 0
  have b1 : w1.cell? ⟨w.heap.size, 1, none⟩ = some (.int .i64 m1) := cell_of hbx 1
  have b2 : w1.cell? ⟨w.heap.size, 2, none⟩ = some (.int .i64 m2) := cell_of hbx 2
  have b3 : w1.cell? ⟨w.heap.size, 3, none⟩ = some (.int .i64 m3) := cell_of hbx 3
  have HB : Hid (∀ o, Below w.heap.size w (w1.alloc o)) := fun o => below_of_chg0 (Chg.alloc' (Chg.bel' hb1 (Chg.alloc' (Chg.refl _ _))))
  clear hA hM hC hb1 hbx
  go_wp2
  go_loopw [7] (fun i wr => i = .int .i64 0 ∧ Hid (Below w.heap.size w wr)) (fun _ _ => 0)
  case atStart => exact ⟨rfl, HB.out _⟩
  case round =>
    obtain ⟨rfl, HBB⟩ := hrel
    go_wp2_with (go_at_call 19; refine (lives_any _).mono ?_; rintro e w9 ⟨rfl, hb9⟩)
    go_ret
    exact ⟨rfl, HBB.out.trans (hb9.mono HBB.out.size)⟩

def IsInts (w : World) (a : Option Addr) (len cap : Nat) : Prop :=
  len = 0 ∨ ∃ b off, a = some ⟨b, off, none⟩ ∧ b < w.heap.size ∧ ∀ k, k < len → ∃ o : Int, w.cell? ⟨b, off + k, none⟩ = some (.int .i64 o)

theorem walk (m0 m1 m2 m3 : Int) (a : Option Addr) (len cap : Nat) (w : World) (h : IsInts w a len cap) :
    Calls Try.prog 3 #[.agg #[.int .i64 m0, .int .i64 m1, .int .i64 m2, .int .i64 m3], .slice a len cap] w fun e w' => e = .returned (.bool true) ∧ Below w.heap.size w w' := by
  rcases h with rfl | ⟨b, off, rfl, hb, h3⟩
  · exact plays_none a cap m0 m1 m2 m3 w
  · exact plays_any b off len cap m0 m1 m2 m3 w hb h3

theorem isInts {H : Type} {enc : TypeId × Value → H} {W : World} {a : Option Addr} {len cap : Nat} {d : DataW H} {p : List MemPlace} (h : DataW.Trod enc Try.prog W 0 (fun _ => true) true 24 (.slice a len cap) d p) : IsInts W a len cap := by
  obtain ⟨fuel, hf⟩ := h
  rcases open_ints Try.underlying24 Try.underlying3 (by kernel_rfl) hf with ⟨hcs, _⟩ | ⟨x, l, c, zs, hcs, _, hl, hm, hz, _, hcell, hwz⟩
  · simp [Value.cells] at hcs
    exact .inl hcs.2.1
  · simp [Value.cells] at hcs
    obtain ⟨rfl, rfl, rfl⟩ := hcs
    simp at hz
    by_cases h0 : len = 0
    · exact .inl h0
    · right
      obtain ⟨b, off, spot⟩ := x
      have hc := hcell 0 (by omega)
      have hspot : spot = none := by simpa [Addr.add] using World.cell?_spot hc
      subst hspot
      have hadd : ∀ n, (⟨b, off, none⟩ : Addr).add n = ⟨b, off + n, none⟩ := by intro n; unfold Addr.add; split <;> simp_all
      refine ⟨b, off, rfl, World.block_lt_of_cell? W _ hc, fun k hk => ⟨_, (by have h := hcell k (by omega); rw [hadd] at h; exact h)⟩⟩

set_option maxRecDepth 100000 in
theorem lifted (os : Os) (started : os.Started) (H : Type) (enc : TypeId × Value → H) :
    ReturnsInHanded {} Try.checked os 3 .any (Rows.limitsPlaysSpec.pre6 enc Try.prog Try.f3 Rows.limitsPlaysRow.domain false) (Rows.limitsPlaysSpec.post enc Try.prog Try.f3 false true false false) := by
  refine returnsInHanded_of_change (C := Try.checked) own started (by kernel_rfl) Try.func3
    (ChangeSpec.witness6 (enc := enc) (C := Try.checked) false ⟨#[], #[.agg #[.int .i64 0, .int .i64 0, .int .i64 0, .int .i64 0], .slice none 0 0], []⟩ 8 (by kernel_rfl) (by kernel_rfl) (by kernel_rfl) (by kernel_rfl)) ?_
  intro W base args ds gs before hval0 hW hcnd _
  have hval : ∀ (j : Nat) t v, Try.f3.params[j]? = some t → args[j]? = some v → Value.okWide Try.prog W .any base t v := hval0
  have hW' := hW
  obtain ⟨p, q, hA0, hV, rfl, hfz, hnd⟩ := hW
  have hA : DataW.TrodAll enc Try.prog W 0 (fun _ => true) true Try.f3.params.toList args.toList ds p := hA0
  rw [Try.params3] at hA hval
  obtain ⟨v0, vs0, d0, ds0, p0, q0, hargs, rfl, rfl, h0, r0⟩ := trodAll_cons hA
  obtain ⟨v1, vs1, d1, ds1, p1, q1, rfl, rfl, rfl, h1, r1⟩ := trodAll_cons r0
  obtain ⟨rfl, rfl, rfl⟩ := trodAll_nil r1
  obtain rfl : args = #[v0, v1] := by cases args; simp_all
  obtain ⟨rfl, rfl⟩ := trodVars_none hV
  have k0 := h0
  have lt0 : ∀ x ∈ p0, x.block < W.heap.size := by obtain ⟨m, hm⟩ := k0; exact DataW.trod_lt m _ _ _ hm
  have k1 := h1
  have lt1 : ∀ x ∈ p1, x.block < W.heap.size := by obtain ⟨m, hm⟩ := k1; exact DataW.trod_lt m _ _ _ hm
  obtain ⟨x0, x1, x2, x3, y0, y1, y2, y3, m, rfl, _, _, t0, t1, t2, t3⟩ := open_agg4 Try.underlying23 (by kernel_rfl) (by kernel_rfl) (hval 0 23 v0 rfl rfl) h0
  obtain ⟨a0, e0, _, _⟩ := DataW.trod_int Try.underlying3 t0
  simp at e0
  subst e0
  obtain ⟨a1, e1, _, _⟩ := DataW.trod_int Try.underlying3 t1
  simp at e1
  subst e1
  obtain ⟨a2, e2, _, _⟩ := DataW.trod_int Try.underlying3 t2
  simp at e2
  subst e2
  obtain ⟨a3, e3, _, _⟩ := DataW.trod_int Try.underlying3 t3
  simp at e3
  subst e3
  obtain ⟨b1, len1, cap1, rfl⟩ := okWide_slice Try.underlying24 (hval 1 24 v1 rfl rfl)
  clear hA0 hval0
  refine (walk a0 a1 a2 a3 b1 len1 cap1 W (isInts h1)).mono fun e W' ⟨he, bel⟩ => ?_
  subst he
  exact ⟨_, rfl, _, _, _, [], _, [], hW', trodAll_mk1 (shut_bool Try.underlying4 _), (trodAll_cons_mk (Below.trod laidOut (by kernel_rfl) (of_decide_eq_true (by kernel_rfl)) k0 bel lt0) (trodAll_cons_mk (Below.trod laidOut (by kernel_rfl) (of_decide_eq_true (by kernel_rfl)) k1 bel lt1) trodAll_mk0)), rfl, bel.frame _, fun h => by cases h⟩

theorem over : Rows.limitsPlaysRow.holds Try.pinned (OpenSpec.ofChange Rows.limitsPlaysSpec) :=
  OpenClaim.holds_of_wide 3 Try.f3 rfl rfl rfl rfl rfl rfl rfl ⟨rfl, rfl, rfl, rfl, rfl⟩ rfl rfl rfl rfl rfl (by kernel_rfl) Try.func3 (by kernel_rfl)
    (of_decide_eq_true (by kernel_rfl)) (by unfold Func.isWrapper; first | (rw [if_pos (by decide +kernel)]; kernel_rfl) | (rw [if_neg (by decide +kernel)]; exact ⟨rfl, rfl⟩))
    (fun os started H enc _ => lifted os started H enc)

theorem proved : Rows.LimitsPlaysSaid := over
end Go.Proofs.Ytgdjponooengaaa.limitsPlays
namespace Go.Proofs.Ytgdjponooengaaa
theorem limitsPlays_holds : Rows.LimitsPlaysSaid := limitsPlays.proved
#print axioms limitsPlays_holds
end Go.Proofs.Ytgdjponooengaaa
