/- Find returns the last frame of a number. Conditions: at most 100 frames, each of a number from 1 on. -/
import Derived.Test.YtddchmkdmmobeaaC
namespace Go.Proofs.Ytddchmkdmmobeaa
open Go.RowKit

def FindPost (w : World) (r : L4) (t : Bool) (e : Ending) (w' : World) : Prop := e = .returned (.tuple #[r.val, .bool t]) ∧ Below w.heap.size w w'
theorem find_hits (id : Int) (ls : List L4) (j : Nat) (hj : j < ls.length) (h : lw id ls = lw id (ls.take (j + 1))) (he : ls[j].a = id) : (lw id ls).isSome = true := by
  rw [h, lw_take _ _ _ hj, if_pos he]; rfl
theorem find_zeros (id : Int) (ls : List L4) (h : lw id ls = lw id (ls.take 0)) : (lw id ls).isSome = false := by rw [h]; rfl

theorem find_zero (id : Int) (ls : List L4) (h : lw id ls = lw id (ls.take 0)) : (lw id ls).getD zero4 = zero4 := by rw [h]; rfl
theorem find_hit (id : Int) (ls : List L4) (j : Nat) (hj : j < ls.length) (h : lw id ls = lw id (ls.take (j + 1))) (he : ls[j].a = id) : (lw id ls).getD zero4 = ls[j] := by
  rw [h, lw_take _ _ _ hj, if_pos he]; rfl
theorem find_miss (id : Int) (ls : List L4) (j : Nat) (hj : j < ls.length) (h : lw id ls = lw id (ls.take (j + 1))) (he : ¬ ls[j].a = id) : lw id ls = lw id (ls.take j) := by
  rw [h, lw_take _ _ _ hj, if_neg he]

set_option maxHeartbeats 1000000 in
theorem find_any (w : World) (B b : Nat) (v : Value) (ls : List L4) (last : Nat) (id : Int) (hR : RowAt w B b v ls last) (hl : ls.length ≤ 100) (hpos : ∀ x ∈ ls, 1 ≤ x.a) :
   Calls Try.prog 10 #[.pointer (some ⟨b, 0, none⟩), .int .i64 id] w (FindPost w ((lw id ls).getD zero4) (lw id ls).isSome) := by
  obtain ⟨hb, hown, hvb, hBb⟩ := hR
  have hlt := heap_lt hb
  have c0 : w.cell? ⟨b, 0, none⟩ = some v := cell_of hb 0
  have HB := Lib.hid hb
  clear hb
  have hs : Sl w B v ls := hown
  rcases hs.shape with ⟨rfl, a, cap, rfl⟩ | ⟨g, cap, rfl, hg, hne⟩
  · go_enter Try.func10, Try.ntmps10
    go_wp2_with fail
    go_step3
    go_wp2_with fail
    go_step3
    go_wp2_with (go_at_call 11; refine (count_some b a 0 cap _ (by go_simp)).mono ?_; rintro e w1 ⟨rfl, rfl⟩)
    go_loop [7] (fun i => i = .int .i64 (-1)) (fun _ => 0)
    case atStart => rfl
    case round =>
      subst hrel
      go_wp2
      go_region
      all_goals go_wp2
      all_goals (refine bodyPost_ret (v := .tuple #[zero4.val, .bool false]) (by simp [results, Try.results10, go_sem, zero4, L4.val]) rfl ⟨by simp [lw], below_of_chg0 ?_⟩)
      all_goals (repeat (first | with_reducible exact Chg.refl _ _ | with_reducible refine Chg.drew ?_ | (with_reducible refine Chg.set' ?_ ?_; · (first | omega | (simp; done) | (simp; omega))) | with_reducible refine Chg.alloc' ?_))
  · have hcells : ∀ i (hi : i < ls.length), At w g i ls[i] := fun i hi => hs.at i hi
    have HC := Lib.hid hcells
    clear hcells
    go_enter Try.func10, Try.ntmps10
    go_wp2_with fail
    go_step3
    go_wp2_with fail
    go_step3
    go_wp2_with (go_at_call 11; refine (count_some b _ ls.length cap _ ((World.cell?_alloc_past _ _ _ (by simp; omega)).trans ((World.cell?_alloc_past _ _ _ hlt).trans c0))).mono ?_; rintro e w1 ⟨rfl, rfl⟩)
    go_loop [7] (fun i => ∃ k : Nat, k ≤ ls.length ∧ i = .int .i64 ((k : Int) - 1) ∧ Hid (lw id ls = lw id (ls.take k))) (fun i => (intOf i + 1).toNat)
    case atStart => exact ⟨ls.length, Nat.le_refl _, rfl, by show lw id ls = lw id (ls.take ls.length); rw [List.take_length]⟩
    case round =>
      obtain ⟨k, hk, rfl, HL⟩ := hrel
      obtain rfl | ⟨j, rfl⟩ : k = 0 ∨ ∃ j, k = j + 1 := by cases k with | zero => exact .inl rfl | succ j => exact .inr ⟨j, rfl⟩
      · simp only [show ((0 : Nat) : Int) - 1 = -1 from rfl]
        go_wp2
        go_region
        all_goals go_wp2
        have hzz := find_zero id ls HL.out
        all_goals (refine bodyPost_ret (v := .tuple #[zero4.val, .bool false]) (by simp [results, Try.results10, go_sem, zero4, L4.val]) rfl ⟨by rw [hzz, find_zeros id ls HL.out], below_of_chg0 ?_⟩)
        all_goals (repeat (first | with_reducible exact Chg.refl _ _ | with_reducible refine Chg.drew ?_ | (with_reducible refine Chg.set' ?_ ?_; · (first | omega | (simp; done) | (simp; omega))) | with_reducible refine Chg.alloc' ?_))
      · simp only [show ((j + 1 : Nat) : Int) - 1 = j by omega]
        obtain ⟨x, hx⟩ : ∃ x, x = ls[j] := ⟨_, rfl⟩
        obtain ⟨h0, h1, h2, h3⟩ := HC.out j (by omega)
        rw [← hx] at h0 h1 h2 h3
        have HX := Lib.hid hx
        clear hx
        have hx0 : ¬ x.a = 0 := by have := hpos x (by rw [HX.out]; exact List.getElem_mem _); omega
        by_cases hid : x.a = id
        · have HID := Lib.hid hid
          have hidb : (x.a == id) = true := by simpa using hid
          clear hid
          go_wp2
          go_region
          all_goals go_wp2
          have hzz := find_hit id ls j (by omega) HL.out (by rw [← HX.out]; exact HID.out)
          have hzs := find_hits id ls j (by omega) HL.out (by rw [← HX.out]; exact HID.out)
          all_goals (refine bodyPost_ret (v := .tuple #[x.val, .bool true]) (by simp [results, Try.results10, go_sem, L4.val]) rfl ⟨by rw [hzz, hzs, HX.out], below_of_chg0 ?_⟩)
          all_goals (repeat (first | with_reducible exact Chg.refl _ _ | with_reducible refine Chg.drew ?_ | (with_reducible refine Chg.set' ?_ ?_; · (first | omega | (simp; done) | (simp; omega))) | with_reducible refine Chg.alloc' ?_))
        · have HID := Lib.hid hid
          have hidb : (x.a == id) = false := by simpa using hid
          clear hid
          go_wp2
          go_round
          case rel => 
            exact ⟨j, by omega, rfl, find_miss id ls j (by omega) HL.out (by rw [← HX.out]; exact HID.out)⟩
          case measure => simp [intOf] <;> omega
end Go.Proofs.Ytddchmkdmmobeaa
