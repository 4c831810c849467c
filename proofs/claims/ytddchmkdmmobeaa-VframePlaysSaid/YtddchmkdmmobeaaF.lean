/- same answers true of two slices that hold the same frames. Condition: at most 100 frames. -/
import Derived.Test.YtddchmkdmmobeaaE
namespace Go.Proofs.Ytddchmkdmmobeaa
open Go.RowKit

theorem At.bel {w wr : World} {g i : Nat} {x : L4} (h : At w g i x) (hb : Below w.heap.size w wr) (hg : g < w.heap.size) : At wr g i x := by
  have hh : ∀ o, wr.cell? ⟨g, o, none⟩ = w.cell? ⟨g, o, none⟩ := fun o => hb.cell (p := ⟨g, o, none⟩) hg
  exact ⟨(hh _).trans h.a, (hh _).trans h.b, (hh _).trans h.c, (hh _).trans h.d⟩

set_option maxHeartbeats 1000000 in
theorem same_true (w : World) (B B' : Nat) (va vb : Value) (ls : List L4) (ha : Sl w B va ls) (hb : Sl w B' vb ls) (hl : ls.length ≤ 100) :
   Calls Try.prog 13 #[va, vb] w fun e w' => e = .returned (.bool true) ∧ Below w.heap.size w w' := by
  rcases ha.shape with ⟨rfl, a, cap, rfl⟩ | ⟨g, cap, rfl, hg, hne⟩
  · obtain ⟨a', cap', rfl⟩ := hb.len
    have hz : (([] : List L4).length : Int) = 0 := rfl
    simp only [List.length_nil]
    go_enter Try.func13, Try.ntmps13
    go_wp2
    go_loop [5] (fun i => i = .int .i64 0) (fun _ => 0)
    case atStart => rfl
    case round =>
      subst hrel
      go_wp2
      go_ret
      exact ⟨rfl, Below.refl _ _⟩
  · rcases hb.shape with ⟨rfl, _⟩ | ⟨g', cap', rfl, hg', _⟩
    · exact (hne rfl).elim
    have hca : ∀ i (hi : i < ls.length), At w g i ls[i] := fun i hi => ha.at i hi
    have hcb : ∀ i (hi : i < ls.length), At w g' i ls[i] := fun i hi => hb.at i hi
    have HA := Lib.hid hca
    have HB := Lib.hid hcb
    clear hca hcb
    go_enter Try.func13, Try.ntmps13
    go_wp2
    go_loopw [5] (fun i wr => ∃ k : Nat, k ≤ ls.length ∧ i = .int .i64 k ∧ Hid (Below w.heap.size w wr)) (fun i _ => ls.length - (intOf i).toNat)
    case atStart => exact ⟨0, Nat.zero_le _, rfl, Below.refl _ _⟩
    case round =>
      obtain ⟨k, hk, rfl, HBL⟩ := hrel
      by_cases hlt : k < ls.length
      · obtain ⟨h0, h1, h2, h3⟩ := (HA.out k hlt).bel HBL.out hg
        obtain ⟨h0', h1', h2', h3'⟩ := (HB.out k hlt).bel HBL.out hg'
        obtain ⟨x, hx⟩ : ∃ x, x = ls[k] := ⟨_, rfl⟩
        rw [← hx] at h0 h1 h2 h3 h0' h1' h2' h3'
        clear hx
        have hki : (k : Int) < (ls.length : Int) := by omega
        go_wp2
        go_quiet (fail)
        go_wp2
        go_roundw
        case rel => exact ⟨k + 1, by omega, by go_num, Below.drewN HBL.out _⟩
        case measure => simp [intOf] <;> omega
      · go_wp2
        go_ret
        exact ⟨rfl, HBL.out⟩
end Go.Proofs.Ytddchmkdmmobeaa
