/- Of returns the frames of a physical frame, in new memory. Condition: at most 100 frames. -/
import Derived.Test.YtddchmkdmmobeaaD
namespace Go.Proofs.Ytddchmkdmmobeaa
open Go.RowKit

/-- those of a physical frame -/
def ofP (p : Int) (ls : List L4) : List L4 := ls.filter (fun x => x.b = p)
theorem ofP_hit (p : Int) (ls : List L4) (k : Nat) (h : k < ls.length) (he : ls[k].b = p) : ofP p (ls.take (k + 1)) = ofP p (ls.take k) ++ [ls[k]] := by
  rw [take_snoc _ _ h]; unfold ofP; rw [List.filter_append]; congr 1; simp [he]
theorem ofP_miss (p : Int) (ls : List L4) (k : Nat) (h : k < ls.length) (he : ¬ ls[k].b = p) : ofP p (ls.take (k + 1)) = ofP p (ls.take k) := by
  rw [take_snoc _ _ h]; unfold ofP; rw [List.filter_append]; simp [he]
theorem ofP_le (p : Int) (ls : List L4) (k : Nat) : (ofP p (ls.take k)).length ≤ k := by
  unfold ofP
  exact Nat.le_trans (List.length_filter_le _ _) (by simp; omega)

def OfPost (w : World) (r : List L4) (e : Ending) (w' : World) : Prop := ∃ v, e = .returned v ∧ Sl w' w.heap.size v r ∧ Below w.heap.size w w'

theorem flat_len (l : List L4) : (flat l).length = l.length * 4 := by
  induction l with
  | nil => rfl
  | cons y l ih => simp only [flat, List.flatMap_cons, List.length_append, List.length_cons]; rw [show (l.flatMap L4.cells).length = (flat l).length from rfl, ih]; simp [L4.cells]; omega

theorem Sl.snoc {w : World} {B : Nat} {v : Value} {ls : List L4} {x : L4} (h : w.ownsRow B 31 4 v (ls.length + 1) (flat ls ++ [.int .i64 x.a, .int .i64 x.b, .int .i64 x.c, .int .i64 x.d])) : Sl w B v (ls ++ [x]) := by
  unfold Sl
  rw [flat_snoc]
  simpa [L4.cells] using h

theorem of_snoc {w : World} {B : Nat} {v : Value} {ls : List L4} {x : L4} (h : w.ownsRow B 31 4 v (ls.length + 1) (flat ls ++ [.int .i64 x.a, .int .i64 x.b, .int .i64 x.c, .int .i64 x.d])) : w.ownsRow B 31 4 v (ls ++ [x]).length (flat (ls ++ [x])) := Sl.snoc h
theorem of_end {w : World} {B k : Nat} {v : Value} {ls : List L4} {p : Int} (hk : k = ls.length) (h : w.ownsRow B 31 4 v (ofP p (ls.take k)).length (flat (ofP p (ls.take k)))) : Sl w B v (ofP p ls) := by
  subst hk; rw [List.take_length] at h; exact h

set_option maxHeartbeats 1000000 in
theorem of_any (w : World) (B b : Nat) (v : Value) (ls : List L4) (last : Nat) (p : Int) (hR : RowAt w B b v ls last) (hl : ls.length ≤ 100) :
   Calls Try.prog 12 #[.pointer (some ⟨b, 0, none⟩), .int .i64 p] w (OfPost w (ofP p ls)) := by
  obtain ⟨i0, hi, hz0, hz1, hz2⟩ := info_parts Try.info31
  obtain ⟨hb, hown, hvb, hBb⟩ := hR
  have hlt := heap_lt hb
  have c0 : w.cell? ⟨b, 0, none⟩ = some v := cell_of hb 0
  have HB := Lib.hid hb
  clear hb
  have hs : Sl w B v ls := hown
  rcases hs.shape with ⟨rfl, a, cap, rfl⟩ | ⟨g, cap, rfl, hg, hne⟩
  · go_enter Try.func12, Try.ntmps12
    go_wp2_with (go_at_call 11; refine (count_some b a 0 cap _ c0).mono ?_; rintro e w1 ⟨rfl, rfl⟩)
    go_loop [5, 9] (fun o i => o = .slice none 0 0 ∧ i = .int .i64 0) (fun _ _ => 0)
    case atStart => exact ⟨rfl, rfl⟩
    case round =>
      obtain ⟨rfl, rfl⟩ := hrel
      go_wp2
      go_ret
      exact ⟨_, rfl, World.ownsRow_nil _ _ _ _, Below.refl _ _⟩
  · have hcells : ∀ i (hi : i < ls.length), At w g i ls[i] := fun i hi => hs.at i hi
    have HC := Lib.hid hcells
    clear hcells
    go_enter Try.func12, Try.ntmps12
    go_wp2_with (go_at_call 11; refine (count_some b _ ls.length cap _ c0).mono ?_; rintro e w1 ⟨rfl, rfl⟩)
    go_loopw [5, 9] (fun o i wr => ∃ k : Nat, k ≤ ls.length ∧ i = .int .i64 k ∧ wr.ownsRow w.heap.size 31 4 o (ofP p (ls.take k)).length (flat (ofP p (ls.take k))) ∧ Hid (Below w.heap.size w wr)) (fun _ i _ => ls.length - (intOf i).toNat)
    case atStart => exact ⟨0, Nat.zero_le _, rfl, World.ownsRow_nil _ _ _ _, Below.refl _ _⟩
    case round =>
      obtain ⟨k, hk, rfl, howr, HBL⟩ := hrel
      have hcw : ∀ i, i < ls.length → ∀ (hi : i < ls.length), At wr g i ls[i] := fun i _ hi => by
        have h := HC.out i hi
        have hh : ∀ o, wr.cell? ⟨g, o, none⟩ = w.cell? ⟨g, o, none⟩ := fun o => HBL.out.cell (p := ⟨g, o, none⟩) hg
        exact ⟨(hh _).trans h.a, (hh _).trans h.b, (hh _).trans h.c, (hh _).trans h.d⟩
      have c0' : wr.cell? ⟨b, 0, none⟩ = some (.slice (some ⟨g, 0, none⟩) ls.length cap) := (HBL.out.cell (p := ⟨b, 0, none⟩) hlt).trans c0
      have HCW := Lib.hid hcw
      clear hcw
      by_cases hlt : k < ls.length
      · obtain ⟨x, hx⟩ : ∃ x, x = ls[k] := ⟨_, rfl⟩
        obtain ⟨h0, h1, h2, h3⟩ := HCW.out k hlt hlt
        rw [← hx] at h0 h1 h2 h3
        have HX := Lib.hid hx
        clear hx
        have hlen := ofP_le p ls k
        by_cases hid : x.b = p
        · have HID := Lib.hid hid
          have hidb : (x.b == p) = true := by simpa using hid
          clear hid
          go_wp2_with (at_builtin; refine wpList_append_own _ rfl _ _ 24 rfl w.heap.size 31 i0 (.agg #[.int .i64 0, .int .i64 0, .int .i64 0, .int .i64 0]) 4 32 Try.underlying24 hi hz0 hz1 hz2 rfl (by decide) _ _ _ rfl (howr.alloc _) ⟨wr.heap.size, 0, none⟩ 1 1 [.int .i64 x.a, .int .i64 x.b, .int .i64 x.c, .int .i64 x.d] rfl rfl (news4 _ _ rfl) (by simp [Value.oneCell']) (by unfold maxLen; omega) (by omega) (by have := HBL.out.size; simp; omega) ?_)
          intro v' w1 hown' hgrow _
          have hbel : Below w.heap.size w w1 := (HBL.out.alloc HBL.out.size _).grown hgrow (by have := HBL.out.size; simp; omega) (fun k hk => (howr.lt k hk).1)
          have HO := Lib.hid hown'
          have HBL1 := Lib.hid hbel
          clear hbel hown' hgrow
          go_wp2
          go_roundw
          case rel => exact ⟨k + 1, by omega, by go_num, by rw [ofP_hit p ls k hlt (by rw [← HX.out]; exact HID.out), ← HX.out]; exact of_snoc HO.out, HBL1.out⟩
          case measure => simp [intOf] <;> omega
        · have HID := Lib.hid hid
          have hidb : (x.b == p) = false := by simpa using hid
          clear hid
          go_wp2
          go_roundw
          case rel => exact ⟨k + 1, by omega, by go_num, by rw [ofP_miss p ls k hlt (by rw [← HX.out]; exact HID.out)]; exact howr, HBL.out⟩
          case measure => simp [intOf] <;> omega
      · have HK := Lib.hid (show k = ls.length by omega)
        go_wp2
        go_ret
        exact ⟨_, rfl, of_end HK.out howr, HBL.out⟩
end Go.Proofs.Ytddchmkdmmobeaa
