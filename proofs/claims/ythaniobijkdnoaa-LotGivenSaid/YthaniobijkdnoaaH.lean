/- Where a run may go on behind a panic: nowhere, in a function without tables. Conditions: the place is one of the code. -/
import Derived.Test.YthaniobijkdnoaaG
namespace Go.Proofs.Ythaniobijkdnoaa
open Go.RowKit

theorem Box11.conj {w : World} {b : Nat} {c0 c1 c2 c3 c4 c5 c6 c7 c8 c9 c10 : Value} (h : Box11 w b c0 c1 c2 c3 c4 c5 c6 c7 c8 c9 c10) : w.cell? ⟨b, 0, none⟩ = some c0 ∧ w.cell? ⟨b, 1, none⟩ = some c1 ∧ w.cell? ⟨b, 2, none⟩ = some c2 ∧ w.cell? ⟨b, 3, none⟩ = some c3 ∧ w.cell? ⟨b, 4, none⟩ = some c4 ∧ w.cell? ⟨b, 5, none⟩ = some c5 ∧ w.cell? ⟨b, 6, none⟩ = some c6 ∧ w.cell? ⟨b, 7, none⟩ = some c7 ∧ w.cell? ⟨b, 8, none⟩ = some c8 ∧ w.cell? ⟨b, 9, none⟩ = some c9 ∧ w.cell? ⟨b, 10, none⟩ = some c10 := ⟨h.h0, h.h1, h.h2, h.h3, h.h4, h.h5, h.h6, h.h7, h.h8, h.h9, h.h10⟩

set_option maxRecDepth 100000 in
set_option maxHeartbeats 1000000 in
theorem catch_no (w : World) (s : ByteArray) (inn : Bool) (vo vp vr vl vn : Value) (an aa al : Option Addr) (nc cc cn ca cl : Nat) (pc : Nat) (b off : Nat) (x y : Int) (hpc : pc < nc) (hb : b < w.heap.size) (hx : w.cell? ⟨b, off + pc * 2, none⟩ = some (.int .i64 x)) (hy : w.cell? ⟨b, off + pc * 2 + 1, none⟩ = some (.int .i64 y))
    (H99 : Hid (∀ W, Calls Try.prog 99 #[.int .i64 x] W fun e w' => e = .returned (.bool false) ∧ W = w')) :
    Calls Try.prog 82 #[.agg #[.string s, .bool inn, vo, vp, vr, vl, .slice (some ⟨b, off, none⟩) nc cc, vn, .slice an 0 cn, .slice aa 0 ca, .slice al 0 cl], .int .i64 pc] w (AnsB (.slice none 0 0) w) := by
  go_enter Try.func82, Try.ntmps82
  go_wp2_with (go_at_call 99; refine (H99.out _).mono ?_; rintro e w1 ⟨rfl, rfl⟩)
  go_ret
  exact ⟨rfl, (Below.refl _ _).alloc (Nat.le_refl _) _⟩

set_option maxRecDepth 100000 in
set_option maxHeartbeats 1000000 in
theorem catch_yes (w : World) (s : ByteArray) (inn : Bool) (vo vp vr vl vn : Value) (an aa al : Option Addr) (nc cc cn ca cl : Nat) (pc : Nat) (b off : Nat) (x y : Int) (hpc : pc < nc) (hb : b < w.heap.size) (hx : w.cell? ⟨b, off + pc * 2, none⟩ = some (.int .i64 x)) (hy : w.cell? ⟨b, off + pc * 2 + 1, none⟩ = some (.int .i64 y))
    (H99 : Hid (∀ W, Calls Try.prog 99 #[.int .i64 x] W fun e w' => e = .returned (.bool true) ∧ W = w')) :
    Calls Try.prog 82 #[.agg #[.string s, .bool inn, vo, vp, vr, vl, .slice (some ⟨b, off, none⟩) nc cc, vn, .slice an 0 cn, .slice aa 0 ca, .slice al 0 cl], .int .i64 pc] w (AnsB (.slice none 0 0) w) := by
  have H81 : Hid (∀ W, Calls Try.prog 81 #[.agg #[.string s, .bool inn, vo, vp, vr, vl, .slice (some ⟨b, off, none⟩) nc cc, vn, .slice an 0 cn, .slice aa 0 ca, .slice al 0 cl], .int .i64 pc] W (AnsB (.int .i64 0) W)) := fun W => node_any W s inn vo vp vr vl vn (some ⟨b, off, none⟩) an aa al nc cc cn ca cl pc
  have H100 : Hid (∀ W, Calls Try.prog 100 #[.slice an 0 cn, .int .i64 0] W fun e w' => e = .returned (.slice none 0 0) ∧ W = w') := fun W => up0_any W an cn
  go_enter Try.func82, Try.ntmps82
  go_wp2_with (go_at_call 99; refine (H99.out _).mono ?_; rintro e w1 ⟨rfl, rfl⟩)
  have HB0 : Hid (Below w.heap.size w (w.alloc (.cells #[.string s, .bool inn, vo, vp, vr, vl, .slice (some ⟨b, off, none⟩) nc cc, vn, .slice an 0 cn, .slice aa 0 ca, .slice al 0 cl] 34))) := (Below.refl _ _).alloc (Nat.le_refl _) _
  have BX := Box11.new w 34 (.string s) (.bool inn) vo vp vr vl (.slice (some ⟨b, off, none⟩) nc cc) vn (.slice an 0 cn) (.slice aa 0 ca) (.slice al 0 cl)
  generalize w.alloc (.cells #[.string s, .bool inn, vo, vp, vr, vl, .slice (some ⟨b, off, none⟩) nc cc, vn, .slice an 0 cn, .slice aa 0 ca, .slice al 0 cl] 34) = W at *
  have KS : ∀ W0 W1, Below W0.heap.size W0 W1 → Below W.heap.size W W0 → W1.cell? ⟨w.heap.size, 0, none⟩ = some (.string s) ∧ W1.cell? ⟨w.heap.size, 1, none⟩ = some (.bool inn) ∧ W1.cell? ⟨w.heap.size, 2, none⟩ = some vo ∧ W1.cell? ⟨w.heap.size, 3, none⟩ = some vp ∧ W1.cell? ⟨w.heap.size, 4, none⟩ = some vr ∧ W1.cell? ⟨w.heap.size, 5, none⟩ = some vl ∧ W1.cell? ⟨w.heap.size, 6, none⟩ = some (.slice (some ⟨b, off, none⟩) nc cc) ∧ W1.cell? ⟨w.heap.size, 7, none⟩ = some vn ∧ W1.cell? ⟨w.heap.size, 8, none⟩ = some (.slice an 0 cn) ∧ W1.cell? ⟨w.heap.size, 9, none⟩ = some (.slice aa 0 ca) ∧ W1.cell? ⟨w.heap.size, 10, none⟩ = some (.slice al 0 cl) := fun W0 W1 hb1 hb0 => ((BX.bel hb0).bel hb1).conj
  have HKS := Lib.hid KS
  obtain ⟨gl, g0, g1, g2, g3, g4, g5, g6, g7, g8, g9, g10⟩ := BX
  clear KS hx hy
  go_region_held3 (fun w' => w'.cell? ⟨w.heap.size, 0, none⟩ = some (.string s) ∧ w'.cell? ⟨w.heap.size, 1, none⟩ = some (.bool inn) ∧ w'.cell? ⟨w.heap.size, 2, none⟩ = some vo ∧ w'.cell? ⟨w.heap.size, 3, none⟩ = some vp ∧ w'.cell? ⟨w.heap.size, 4, none⟩ = some vr ∧ w'.cell? ⟨w.heap.size, 5, none⟩ = some vl ∧ w'.cell? ⟨w.heap.size, 6, none⟩ = some (.slice (some ⟨b, off, none⟩) nc cc) ∧ w'.cell? ⟨w.heap.size, 7, none⟩ = some vn ∧ w'.cell? ⟨w.heap.size, 8, none⟩ = some (.slice an 0 cn) ∧ w'.cell? ⟨w.heap.size, 9, none⟩ = some (.slice aa 0 ca) ∧ w'.cell? ⟨w.heap.size, 10, none⟩ = some (.slice al 0 cl)) (first | exact ⟨g0, g1, g2, g3, g4, g5, g6, g7, g8, g9, g10⟩ | exact HKS.out _ _ HB1.out (by repeat (first | with_reducible exact Below.refl _ _ | with_reducible refine Below.drew ?_ | with_reducible refine Below.drewN ?_ _)) | go_keep) ((first | (go_at_call 81; refine (H81.out _).mono ?_; rintro e w1 ⟨rfl, hb⟩; have HB1 := Lib.hid hb; clear hb) | (go_at_call 100; refine (H100.out _).mono ?_; rintro e w2 ⟨rfl, rfl⟩)))
  go_wp2
  go_loopw [5, 7] (fun o i wr => o = .slice none 0 0 ∧ i = .int .i64 0 ∧ wr = w1) (fun _ _ _ => 0)
  case atStart => exact ⟨rfl, rfl, rfl⟩
  case round =>
    obtain ⟨rfl, rfl, rfl⟩ := hrel
    go_wp2
    go_ret
    exact ⟨rfl, HB0.out.trans (Below.mono (Below.trans (Below.drew (Below.refl W.heap.size W)) HB1.out) HB0.out.size)⟩

theorem catch_any (w : World) (s : ByteArray) (inn : Bool) (vo vp vr vl vn : Value) (an aa al : Option Addr) (nc cc cn ca cl : Nat) (pc : Nat) (b off : Nat) (x y : Int) (hpc : pc < nc) (hb : b < w.heap.size) (hx : w.cell? ⟨b, off + pc * 2, none⟩ = some (.int .i64 x)) (hy : w.cell? ⟨b, off + pc * 2 + 1, none⟩ = some (.int .i64 y)) (h0 : 0 ≤ x) (h1 : x < 35) :
    Calls Try.prog 82 #[.agg #[.string s, .bool inn, vo, vp, vr, vl, .slice (some ⟨b, off, none⟩) nc cc, vn, .slice an 0 cn, .slice aa 0 ca, .slice al 0 cl], .int .i64 pc] w (AnsB (.slice none 0 0) w) := by
  cases hr : raisesB x
  · exact catch_no w s inn vo vp vr vl vn an aa al nc cc cn ca cl pc b off x y hpc hb hx hy (fun W => by have h := raises_any x W h0 h1; rw [hr] at h; exact h)
  · exact catch_yes w s inn vo vp vr vl vn an aa al nc cc cn ca cl pc b off x y hpc hb hx hy (fun W => by have h := raises_any x W h0 h1; rw [hr] at h; exact h)
end Go.Proofs.Ythaniobijkdnoaa
