/- The law's own example (lives) answers true. No condition. -/
import Derived.Test.YthaniobijkdnoaaQA
import Derived.Test.YthaniobijkdnoaaPA
namespace Go.Proofs.Ythaniobijkdnoaa
open Go.RowKit

theorem prog_any (ws : List Int) (v : Value) (w : World) (hv : IV w v ws) (hl0 : ws.length ≤ 1000000) (hr : ∀ x ∈ ws, -9223372036854775808 ≤ x ∧ x ≤ 9223372036854775807) : Calls Try.prog 6 #[v] w (ProgPost ws w) := by
  obtain ⟨a, cap, rfl, hl, hm, hc⟩ := hv
  exact program_mk w a cap ws ⟨a, cap, rfl, hl, hm, hc⟩ hl0 hr (heads_hdT ws) (fun f hf => by have := heads_names ws f hf; unfold maxLen; omega)
theorem ints5 (w : World) : IV (w.alloc (.cells #[.int .i64 1, .int .i64 2, .int .i64 3, .int .i64 4, .int .i64 5] 3)) (.slice (some ⟨w.heap.size, 0, none⟩) 5 5) [1, 2, 3, 4, 5] := by
  refine ⟨_, 5, rfl, by simp, by decide, fun i hi => ⟨w.heap.size, 0, rfl, by simp, ?_⟩⟩
  have hi5 : i < 5 := by simpa using hi
  rw [cell_of (heap_new _ _)]
  have : i = 0 ∨ i = 1 ∨ i = 2 ∨ i = 3 ∨ i = 4 := by omega
  rcases this with rfl | rfl | rfl | rfl | rfl <;> rfl
set_option maxRecDepth 100000 in
set_option maxHeartbeats 2000000 in
theorem lives_any (w : World) : Calls Try.prog 5 #[] w (AnsB (.bool true) w) := by
  have HP := Lib.hid (prog_good [])
  have HL : Hid (limV [] 0 = 499 ∧ limV [] 1 = 19 ∧ limV [] 2 = 19 ∧ limV [] 3 = 59) := Lib.hid ⟨rfl, rfl, rfl, rfl⟩
  have HI5 := Lib.hid (ints5 w)
  go_enter Try.func5, Try.ntmps5
  go_wp2_with fail
  refine (input_any [1, 2, 3, 4, 5] _ _ HI5.out (by decide)).mono ?_
  rintro e w1 ⟨v1, v2, rfl, h1, h2, hb⟩
  obtain ⟨a1, c1, rfl, -, -, -⟩ := h1
  obtain ⟨a2, c2, rfl, -, -, hc2⟩ := h2
  obtain ⟨b, off, rfl, hbl, hcell⟩ := hc2 0 (by decide)
  have hcell' : w1.cell? ⟨b, off, none⟩ = some (.int .i64 5) := hcell
  have HB1 : Hid (Below w.heap.size w w1) := Below.trans ((Below.refl _ _).alloc (Nat.le_refl _) _) (hb.mono (by simp))
  clear hc2 hcell hb HI5
  simp only [List.length_take, List.length_drop, List.length_cons, List.length_nil]
  go_wp2_with fail
  refine (prog_any [] (.slice none 0 0) _ (IV.nil _ _ _ (Nat.zero_le _)) (by decide) (fun x hx => absurd hx (by simp))).mono ?_
  rintro e w2 ⟨v, rfl, hpv, hb2⟩
  have HB2 := Lib.hid hb2
  have HPV := Lib.hid hpv
  clear hb2 hpv
  go_wp2_with fail
  refine (fine_any _ v w2 HPV.out HP.out.1).mono ?_
  rintro e w3 ⟨rfl, hb3⟩
  have hblk : w3.heap[w1.heap.size]? = some (.cells #[.slice a1 4 c1, .slice (some ⟨b, off, none⟩) 1 c2] 39 (0, 0)) := by
    refine rd_bel hb3 ?_ (rd_bel HB2.out (by simp) (heap_new _ _))
    have := HB2.out.size
    simp at this
    omega
  have q0 := cell_of hblk 0
  have q1 := cell_of hblk 1
  simp only [List.getElem?_toArray, List.getElem?_cons_zero, List.getElem?_cons_succ] at q0 q1
  have HB13 : Hid (Below w1.heap.size w1 w3) := Below.trans (Below.trans ((Below.refl _ _).alloc (Nat.le_refl _) _) (HB2.out.mono (by simp))) (hb3.mono (by have := HB2.out.size; simp at this; omega))
  have q2 : w3.cell? ⟨b, off, none⟩ = some (.int .i64 5) := (HB13.out.cell (p := ⟨b, off, none⟩) hbl).trans hcell'
  clear hb3 HB2 HPV hblk hcell'
  go_wp2_with fail
  refine (limits_any [] (.slice none 0 0) _ (IV.nil _ _ _ (Nat.zero_le _)) (by decide) (fun x hx => absurd hx (by simp))).mono ?_
  rintro e w4 ⟨rfl, hb4⟩
  rw [HL.out.1, HL.out.2.1, HL.out.2.2.1, HL.out.2.2.2]
  have HB4 := Lib.hid hb4
  clear hb4
  go_wp2
  go_ret
  exact ⟨rfl, HB1.out.trans ((HB13.out.mono HB1.out.size).trans (HB4.out.mono (by have := HB13.out.size; have := HB1.out.size; omega)))⟩
end Go.Proofs.Ythaniobijkdnoaa
