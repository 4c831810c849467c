/- lives answers true; the methods of a nil row; what VframeNil does, walked. No condition. -/
import Derived.Test.YtddchmkdmmobeaaG
namespace Go.Proofs.Ytddchmkdmmobeaa
open Go.RowKit

def Closed (w : World) (B b : Nat) (v : Value) (ls : List L4) (last : Nat) (x : L4) (e : Ending) (w' : World) : Prop :=
  e = .returned (.tuple #[x.val, .bool true]) ∧ ∃ v', RowAt w' B b v' ls last ∧ v'.ownBlock = v.ownBlock ∧ Chg (fun k => k = b) w w'

theorem close_any (w : World) (B b : Nat) (v : Value) (ls : List L4) (last : Nat) (x : L4) (hR : RowAt w B b v (ls ++ [x]) last) (hl : ls.length ≤ 100) :
   Calls Try.prog 6 #[.pointer (some ⟨b, 0, none⟩)] w (Closed w B b v ls last x) := by
  obtain ⟨hb, hown, hvb, hBb⟩ := hR
  rcases Sl.shape hown with ⟨h, _⟩ | ⟨g, cap, rfl, hg, _⟩
  · simp at h
  · have hx := Sl.at (show Sl w B _ _ from hown) ls.length (by simp)
    have htk := Sl.take (show Sl w B _ _ from hown)
    simp only [List.length_append, List.length_cons, List.length_nil, Nat.zero_add] at hb hx htk hvb
    have hx' : At w g ls.length x := by simpa using hx
    refine (close_some b g ls.length cap last x w (by omega) htk.2 hg hb hx').mono fun e w' ⟨he, h1, h2⟩ => ⟨he, _, ⟨h1, ?_, hvb, hBb⟩, rfl, h2⟩
    refine owns_chg htk.1 h2 (fun k hk => ?_)
    simp [Value.ownBlock] at hk hvb
    rintro rfl
    exact hvb hk

def Opened (w : World) (B b : Nat) (v : Value) (ls : List L4) (last : Nat) (x y z : Int) (e : Ending) (w' : World) : Prop :=
  e = .returned (.int .i64 (last + 1)) ∧ OpenPost w w' B b v ls last x y z
theorem open_all (w : World) (B b : Nat) (v : Value) (ls : List L4) (last : Nat) (x y z : Int) (hR : RowAt w B b v ls last) (h1 : last ≤ 100) (h2 : ls.length ≤ 100) :
    Calls Try.prog 5 #[.pointer (some ⟨b, 0, none⟩), .int .i64 x, .int .i64 y, .int .i64 z] w (Opened w B b v ls last x y z) := open_any w B b v ls last x y z hR h1 h2

theorem count_any (w : World) (b n : Nat) (v : Value) (hb : w.cell? ⟨b, 0, none⟩ = some v) (hv : ∃ a cap, v = .slice a n cap) :
   Calls Try.prog 11 #[.pointer (some ⟨b, 0, none⟩)] w fun e w' => e = .returned (.int .i64 n) ∧ w = w' := by
  obtain ⟨a, cap, rfl⟩ := hv
  exact count_some b a n cap w hb

theorem row_new (w : World) : RowAt (w.alloc (.cells #[.slice none 0 0, .int .i64 0] 26)) w.heap.size w.heap.size (.slice none 0 0) [] 0 :=
  ⟨heap_new _ _, World.ownsRow_nil _ _ _ _, by simp [Value.ownBlock], Nat.le_refl _⟩

set_option maxRecDepth 1000000 in
set_option maxHeartbeats 1000000 in
theorem lives_any (w : World) : Calls Try.prog 8 #[] w fun e w' => e = .returned (.bool true) ∧ Below w.heap.size w w' := by
  have h1 := open_all _ _ _ _ _ _ 0 0 3 (row_new w) (by decide) (by decide)
  have H1 := Lib.hid h1
  clear h1
  go_enter Try.func8, Try.ntmps8
  go_wp2_with fail
  refine H1.out.mono ?_
  rintro e w1 ⟨rfl, g1, cap1, hR1, hg1, hch1⟩
  have h2 := open_all _ _ _ _ _ _ 0 1 4 hR1 (by decide) (by decide)
  have HC1 := Lib.hid hch1
  have H2 := Lib.hid h2
  have HL1 := Lib.hid (fun k hk => (hR1.2.1.lt k hk).1)
  clear h2 hR1 hch1 hg1
  go_wp2_with fail
  refine H2.out.mono ?_
  rintro e w2 ⟨rfl, g2, cap2, hR2, hg2, hch2⟩
  have h3 := close_any w2 _ _ _ [⟨1, 0, 0, 3⟩] 2 ⟨2, 0, 1, 4⟩ hR2 (by decide)
  have HC2 := Lib.hid hch2
  have H3 := Lib.hid h3
  clear h3 hR2 hch2 hg2
  go_wp2_with fail
  refine H3.out.mono ?_
  rintro e w3 ⟨rfl, v3, hR3, _, hch3⟩
  have hl3 : w.heap.size < w3.heap.size := heap_lt hR3.1
  have h4 := fun o => count_any (w3.alloc o) w.heap.size 1 v3 ((World.cell?_alloc_past _ _ _ hl3).trans (cell_of hR3.1 0)) (Sl.len (show Sl w3 _ _ _ from hR3.2.1))
  have HC3 := Lib.hid hch3
  have H4 := Lib.hid h4
  clear hR3 hch3 h4
  simp only [L4.val]
  go_wp2_with (go_at_call 11; refine (H4.out _).mono ?_; rintro e w4 ⟨rfl, rfl⟩)
  go_ret
  refine ⟨rfl, ?_⟩
  refine below_of_chg0 (Chg.alloc' ?_)
  refine Chg.chg' HC3.out (fun i _ h => .inr (by omega)) ?_
  refine Chg.chg' HC2.out (fun i _ h => .inr ?_) ?_
  · rcases h with h | h
    · omega
    · exact HL1.out i h
  refine Chg.chg' HC1.out (fun i _ h => .inr ?_) (Chg.alloc' (Chg.refl _ _))
  rcases h with h | h
  · omega
  · simp [Value.ownBlock] at h

theorem open_nil (x y z : Int) (w : World) : Calls Try.prog 5 #[.pointer none, .int .i64 x, .int .i64 y, .int .i64 z] w fun e w' => e = .returned (.int .i64 0) ∧ w = w' := by
  go_enter Try.func5, Try.ntmps5
  go_wp2
  go_ret
  exact ⟨rfl, rfl⟩

theorem find_nil (x : Int) (w : World) : Calls Try.prog 10 #[.pointer none, .int .i64 x] w (FindPost w zero4 false) := by
  go_enter Try.func10, Try.ntmps10
  go_wp2_with fail
  go_step3
  go_wp2_with fail
  go_step3
  go_wp2_with (go_at_call 11; refine (count_nil _).mono ?_; rintro e w1 ⟨rfl, rfl⟩)
  go_loop [7] (fun i => i = .int .i64 (-1)) (fun _ => 0)
  case atStart => rfl
  case round =>
    subst hrel
    go_wp2
    go_region
    all_goals go_wp2
    all_goals (refine bodyPost_ret (v := .tuple #[zero4.val, .bool false]) (by simp [results, Try.results10, go_sem, zero4, L4.val]) rfl ⟨rfl, below_of_chg0 ?_⟩)
    all_goals (repeat (first | with_reducible exact Chg.refl _ _ | with_reducible refine Chg.drew ?_ | (with_reducible refine Chg.set' ?_ ?_; · (first | omega | (simp; done) | (simp; omega))) | with_reducible refine Chg.alloc' ?_))

theorem of_nil (x : Int) (w : World) : Calls Try.prog 12 #[.pointer none, .int .i64 x] w fun e w' => e = .returned (.slice none 0 0) ∧ w = w' := by
  go_enter Try.func12, Try.ntmps12
  go_wp2_with (go_at_call 11; refine (count_nil _).mono ?_; rintro e w1 ⟨rfl, rfl⟩)
  go_loop [5, 9] (fun o i => o = .slice none 0 0 ∧ i = .int .i64 0) (fun _ _ => 0)
  case atStart => exact ⟨rfl, rfl⟩
  case round =>
    obtain ⟨rfl, rfl⟩ := hrel
    go_wp2
    go_ret
    exact ⟨rfl, rfl⟩

set_option maxRecDepth 1000000 in
set_option maxHeartbeats 1000000 in
theorem nil_any (n : Int) (w : World) : Calls Try.prog 4 #[.int .i64 n] w fun e w' => e = .returned (.bool true) ∧ Below w.heap.size w w' := by
  go_enter Try.func4, Try.ntmps4
  go_wp2_with (first
    | (go_at_call 9; refine (top_nil _).mono ?_; rintro e w1 ⟨rfl, hb1⟩; have HB1 := Lib.hid hb1; clear hb1)
    | (go_at_call 6; refine (close_nil _).mono ?_; rintro e w2 ⟨rfl, hb2⟩; have HB2 := Lib.hid hb2; clear hb2)
    | (go_at_call 10; refine (find_nil _ _).mono ?_; rintro e w3 ⟨rfl, hb3⟩; have HB3 := Lib.hid hb3; clear hb3; simp only [L4.val, zero4])
    | (go_at_call 5; refine (open_nil _ _ _ _).mono ?_; rintro e w4 ⟨rfl, rfl⟩)
    | (go_at_call 11; refine (count_nil _).mono ?_; rintro e w4 ⟨rfl, rfl⟩)
    | (go_at_call 12; refine (of_nil _ _).mono ?_; rintro e w4 ⟨rfl, rfl⟩)
    | (go_at_call 8; refine (lives_any _).mono ?_; rintro e w5 ⟨rfl, hb5⟩; have HB5 := Lib.hid hb5; clear hb5))
  go_ret
  refine ⟨rfl, below_of_chg0 ?_⟩
  exact Chg.bel' HB5.out (Chg.alloc' (Chg.bel' HB3.out (Chg.alloc' (Chg.bel' HB2.out (Chg.alloc' (Chg.bel' HB1.out (Chg.refl _ _)))))))
end Go.Proofs.Ytddchmkdmmobeaa
