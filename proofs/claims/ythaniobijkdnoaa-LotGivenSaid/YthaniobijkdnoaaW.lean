/- The reference's Check of a function, of programs without tables, where all is right. Conditions: what right is (CallOk, PlaceOk, Typed). -/
import Derived.Test.YthaniobijkdnoaaV
namespace Go.Proofs.Ythaniobijkdnoaa
open Go.RowKit

def CallOk (p : List Fn) (k : Nat) (x : Int × Int) : Prop := x.1 = 23 ∨ x.1 = 24 → ∃ g : Nat, x.2 = g ∧ g < p.length ∧ ((p[g]!).inner = false ∨ (x.1 = 24 ∧ (p[g]!).inner = true ∧ (p[g]!).outer = (p[k]!).results))
def PlaceOk (p : List Fn) (k : Nat) (x : Int × Int) : Prop := x.1 ≠ 33 ∧ x.1 ≠ 34 ∧ (x.1 = 28 ∨ x.1 = 29 → ∃ y : Nat, x.2 = y ∧ (p[k]!).inner = true ∧ y < (p[k]!).outer.length)
theorem calls_any (p : List Fn) (v : Value) (w : World) (hv : PV w v p) (k : Nat) (hk : k < p.length) (pc : Nat) (hpc : pc < (p[k]!).code.length) (hl0 : p.length ≤ 40) (hc0 : (p[k]!).code.length ≤ 2000) (hr : (p[k]!).results.length ≤ 100) (h : CallOk p k (p[k]!).code[pc]!) :
    Calls Try.prog 56 #[v, .int .i64 k, .int .i64 pc] w (AnsB (.int .i64 0) w) := by
  obtain ⟨x, y, hx⟩ : ∃ x y, (p[k]!).code[pc]! = (x, y) := ⟨_, _, rfl⟩
  rw [hx] at h
  by_cases h1 : x = 23 ∨ x = 24
  · obtain ⟨g, hy, hg, hi⟩ := h h1
    simp only at hy
    subst hy
    cases hin : (p[g]!).inner with
    | false => exact calls_plain p v w hv k hk pc hpc hl0 hc0 x g hx h1 hg hin
    | true =>
      rcases hi with hi | ⟨h2, _, h3⟩
      · rw [hin] at hi; cases hi
      · simp only at h2
        subst h2
        exact calls_inner p v w hv k hk pc hpc hl0 hc0 g hx hg hin h3 hr
  · exact calls_no p v w hv k hk pc hpc hl0 hc0 x y hx (by simp; omega) (by simp; omega)
theorem places_any (p : List Fn) (v : Value) (w : World) (hv : PV w v p) (k : Nat) (hk : k < p.length) (pc : Nat) (hpc : pc < (p[k]!).code.length) (hl0 : p.length ≤ 40) (hc0 : (p[k]!).code.length ≤ 2000) (ho : (p[k]!).outer.length ≤ 1000) (h : PlaceOk p k (p[k]!).code[pc]!) :
    Calls Try.prog 57 #[v, .int .i64 k, .int .i64 pc] w (AnsB (.int .i64 0) w) := by
  obtain ⟨x, y, hx⟩ : ∃ x y, (p[k]!).code[pc]! = (x, y) := ⟨_, _, rfl⟩
  rw [hx] at h
  obtain ⟨h33, h34, h28⟩ := h
  simp only at h33 h34 h28
  by_cases h1 : x = 28 ∨ x = 29
  · obtain ⟨z, hy, hin, hz⟩ := h28 h1
    subst hy
    exact places_res p v w hv k hk pc hpc hl0 hc0 x z hx h1 hin hz ho
  · by_cases h2 : x = 25
    · subst h2
      exact places_ret p v w hv k hk pc hpc hl0 hc0 y hx
    · exact places_no p v w hv k hk pc hpc hl0 hc0 x y hx (by simp; omega) (by simp; omega) (by simp; omega) (by simp; omega) (by simp; omega)

def Ok2 (w : World) (e : Ending) (w' : World) : Prop := e = .returned (.tuple #[.int .i64 0, .int .i64 0]) ∧ Below w.heap.size w w'

set_option maxRecDepth 100000 in
set_option maxHeartbeats 4000000 in
theorem check_later (w : World) (b off np0 cap kf : Nat) (s : ByteArray) (inn : Bool) (ao ap ar al1 an1 an aa al : Option Addr) (no co np cp nr cr nl cl1 n cc nn cn1 cn ca cl cb coff : Nat)
    (hA : At11 w b (off + kf * 11) (.string s) (.bool inn) (.slice ao no co) (.slice ap np cp) (.slice ar nr cr) (.slice al1 nl cl1) (.slice (some ⟨cb, coff, none⟩) n cc) (.slice an1 nn cn1) (.slice an 0 cn) (.slice aa 0 ca) (.slice al 0 cl)) (hkf : kf < np0) (hcap : np0 ≤ cap) (hnp : np0 ≤ 40) (hn1 : 1 ≤ n) (hn2 : n ≤ 2000) (hk0 : ((kf : Int) == 0) = false)
    (H56 : Hid (∀ (k : Nat) W, k < n → Below w.heap.size w W → Calls Try.prog 56 #[.agg #[.slice (some ⟨b, off, none⟩) np0 cap], .int .i64 kf, .int .i64 k] W (AnsB (.int .i64 0) W)))
    (H57 : Hid (∀ (k : Nat) W, k < n → Below w.heap.size w W → Calls Try.prog 57 #[.agg #[.slice (some ⟨b, off, none⟩) np0 cap], .int .i64 kf, .int .i64 k] W (AnsB (.int .i64 0) W)))
    (H58 : Hid (∀ W, Below w.heap.size w W → Calls Try.prog 58 #[.agg #[.string s, .bool inn, .slice ao no co, .slice ap np cp, .slice ar nr cr, .slice al1 nl cl1, .slice (some ⟨cb, coff, none⟩) n cc, .slice an1 nn cn1, .slice an 0 cn, .slice aa 0 ca, .slice al 0 cl]] W (ReachPost n W))) :
    Calls Try.prog 39 #[.agg #[.slice (some ⟨b, off, none⟩) np0 cap], .int .i64 kf] w (Ok2 w) := by
  obtain ⟨hlt1, h0, h1, h2, h3, h4, h5, h6, h7, h8, h9, h10⟩ := hA
  go_enter Try.func39, Try.ntmps39
  go_wp2_with fail
  clear hlt1 h0 h1 h2 h3 h4 h5 h6 h7 h8 h9 h10
  go_loopw [7] (fun i wr => ∃ k : Nat, k ≤ n ∧ i = .int .i64 k ∧ wr.cell? ⟨w.heap.size, 0, none⟩ = some (.slice (some ⟨b, off, none⟩) np0 cap) ∧ Hid (Box11 wr (w.heap.size + 1) (.string s) (.bool inn) (.slice ao no co) (.slice ap np cp) (.slice ar nr cr) (.slice al1 nl cl1) (.slice (some ⟨cb, coff, none⟩) n cc) (.slice an1 nn cn1) (.slice an 0 cn) (.slice aa 0 ca) (.slice al 0 cl)) ∧ Hid (Below w.heap.size w wr)) (fun i _ => n - (intOf i).toNat)
  case atStart => 
    have hx := Box11.new (w.alloc (.cells #[.slice (some ⟨b, off, none⟩) np0 cap] 26)) 34 (.string s) (.bool inn) (.slice ao no co) (.slice ap np cp) (.slice ar nr cr) (.slice al1 nl cl1) (.slice (some ⟨cb, coff, none⟩) n cc) (.slice an1 nn cn1) (.slice an 0 cn) (.slice aa 0 ca) (.slice al 0 cl)
    rw [show (w.alloc (.cells #[.slice (some ⟨b, off, none⟩) np0 cap] 26)).heap.size = w.heap.size + 1 by simp] at hx
    exact ⟨0, Nat.zero_le _, rfl, by go_simp, hx, ((Below.refl _ _).alloc (Nat.le_refl _) _).alloc (by simp) _⟩
  case round =>
    obtain ⟨k, hk, rfl, pb, HX, HB⟩ := hrel
    have x6 : wr.cell? ⟨(w.heap.size + 1), 6, none⟩ = some (.slice (some ⟨cb, coff, none⟩) n cc) := HX.out.h6
    by_cases hlt : k < n
    · go_wp2_with fail
      refine (H56.out k wr hlt HB.out).mono ?_
      rintro e w1 ⟨rfl, hb1⟩
      have HB1 : Hid (Below w.heap.size w w1) := HB.out.trans (hb1.mono HB.out.size)
      have HX1 := Lib.hid (HX.out.bel hb1)
      have pb1 : w1.cell? ⟨w.heap.size, 0, none⟩ = some (.slice (some ⟨b, off, none⟩) np0 cap) := (hb1.cell (p := ⟨w.heap.size, 0, none⟩) (by have := HX.out.lt; show w.heap.size < _; omega)).trans pb
      clear hb1 pb x6
      go_wp2_with fail
      refine (H57.out k w1 hlt HB1.out).mono ?_
      rintro e w2 ⟨rfl, hb2⟩
      have HB2 : Hid (Below w.heap.size w w2) := HB1.out.trans (hb2.mono HB1.out.size)
      have HX2 := Lib.hid (HX1.out.bel hb2)
      have pb2 : w2.cell? ⟨w.heap.size, 0, none⟩ = some (.slice (some ⟨b, off, none⟩) np0 cap) := (hb2.cell (p := ⟨w.heap.size, 0, none⟩) (by have := HX1.out.lt; show w.heap.size < _; omega)).trans pb1
      clear hb2 pb1
      go_wp2_with fail
      go_roundw
      case rel => exact ⟨k + 1, by omega, by go_num, pb2, HX2.out, HB2.out⟩
      case measure => simp [intOf] <;> omega
    · obtain ⟨gl, g0, g1, g2, g3, g4, g5, g6, g7, g8, g9, g10⟩ := HX.out
      clear x6
      go_wp2_with fail
      refine (H58.out wr HB.out).mono ?_
      rintro e w1 ⟨gr, cr', rfl, hc, hb⟩
      have HB1 : Hid (Below w.heap.size w w1) := HB.out.trans (hb.mono HB.out.size)
      have HC := Lib.hid hc
      clear hb hc gl g0 g1 g2 g3 g4 g5 g6 g7 g8 g9 g10 pb
      go_wp2_with fail
      go_loop [11] (fun i => ∃ j : Nat, j ≤ n ∧ i = .int .i64 j) (fun i => n - (intOf i).toNat)
      case atStart => exact ⟨0, Nat.zero_le _, rfl⟩
      case round =>
        obtain ⟨j, hj, rfl⟩ := hrel
        by_cases hjl : j < n
        · have hc := HC.out j hjl
          rw [Nat.zero_add] at hc
          go_wp2_with fail
          go_round
          case rel => exact ⟨j + 1, by omega, by go_num⟩
          case measure => simp [intOf] <;> omega
        · go_wp2_with fail
          go_ret2
          exact ⟨rfl, HB1.out⟩

set_option maxRecDepth 100000 in
set_option maxHeartbeats 4000000 in
theorem check_first (w : World) (b off np0 cap kf : Nat) (s : ByteArray) (inn : Bool) (ao ap ar al1 an1 an aa al : Option Addr) (no co np cp nr cr nl cl1 n cc nn cn1 cn ca cl cb coff : Nat)
    (hA : At11 w b (off + kf * 11) (.string s) (.bool inn) (.slice ao no co) (.slice ap np cp) (.slice ar nr cr) (.slice al1 nl cl1) (.slice (some ⟨cb, coff, none⟩) n cc) (.slice an1 nn cn1) (.slice an 0 cn) (.slice aa 0 ca) (.slice al 0 cl)) (hkf : kf < np0) (hcap : np0 ≤ cap) (hnp : np0 ≤ 40) (hn1 : 1 ≤ n) (hn2 : n ≤ 2000) (hk0 : ((kf : Int) == 0) = true) (H55 : Hid (∀ W, Below w.heap.size w W → Calls Try.prog 55 #[.agg #[.slice (some ⟨b, off, none⟩) np0 cap]] W (AnsB (.bool true) W)))
    (H56 : Hid (∀ (k : Nat) W, k < n → Below w.heap.size w W → Calls Try.prog 56 #[.agg #[.slice (some ⟨b, off, none⟩) np0 cap], .int .i64 kf, .int .i64 k] W (AnsB (.int .i64 0) W)))
    (H57 : Hid (∀ (k : Nat) W, k < n → Below w.heap.size w W → Calls Try.prog 57 #[.agg #[.slice (some ⟨b, off, none⟩) np0 cap], .int .i64 kf, .int .i64 k] W (AnsB (.int .i64 0) W)))
    (H58 : Hid (∀ W, Below w.heap.size w W → Calls Try.prog 58 #[.agg #[.string s, .bool inn, .slice ao no co, .slice ap np cp, .slice ar nr cr, .slice al1 nl cl1, .slice (some ⟨cb, coff, none⟩) n cc, .slice an1 nn cn1, .slice an 0 cn, .slice aa 0 ca, .slice al 0 cl]] W (ReachPost n W))) :
    Calls Try.prog 39 #[.agg #[.slice (some ⟨b, off, none⟩) np0 cap], .int .i64 kf] w (Ok2 w) := by
  have HA := Lib.hid hA
  clear hA
  go_enter Try.func39, Try.ntmps39
  go_wp2_with fail
  refine (H55.out _ ((Below.refl _ _).alloc (Nat.le_refl _) _)).mono ?_
  rintro e w0 ⟨rfl, hb0⟩
  have HB0 : Hid (Below w.heap.size w w0) := Below.trans ((Below.refl _ _).alloc (Nat.le_refl _) _) (hb0.mono (by simp))
  have pb0 : w0.cell? ⟨w.heap.size, 0, none⟩ = some (.slice (some ⟨b, off, none⟩) np0 cap) := (hb0.cell (p := ⟨w.heap.size, 0, none⟩) (by simp)).trans (by go_simp)
  have hz0 : w.heap.size < w0.heap.size := by have := hb0.size; simp at this; omega
  obtain ⟨hlt1, h0, h1, h2, h3, h4, h5, h6, h7, h8, h9, h10⟩ := HA.out.bel HB0.out
  clear hb0
  go_wp2_with fail
  clear hlt1 h0 h1 h2 h3 h4 h5 h6 h7 h8 h9 h10

  go_loopw [7] (fun i wr => ∃ k : Nat, k ≤ n ∧ i = .int .i64 k ∧ wr.cell? ⟨w.heap.size, 0, none⟩ = some (.slice (some ⟨b, off, none⟩) np0 cap) ∧ Hid (Box11 wr w0.heap.size (.string s) (.bool inn) (.slice ao no co) (.slice ap np cp) (.slice ar nr cr) (.slice al1 nl cl1) (.slice (some ⟨cb, coff, none⟩) n cc) (.slice an1 nn cn1) (.slice an 0 cn) (.slice aa 0 ca) (.slice al 0 cl)) ∧ Hid (Below w.heap.size w wr)) (fun i _ => n - (intOf i).toNat)
  case atStart => 
    have hx := Box11.new w0 34 (.string s) (.bool inn) (.slice ao no co) (.slice ap np cp) (.slice ar nr cr) (.slice al1 nl cl1) (.slice (some ⟨cb, coff, none⟩) n cc) (.slice an1 nn cn1) (.slice an 0 cn) (.slice aa 0 ca) (.slice al 0 cl)
    exact ⟨0, Nat.zero_le _, rfl, by go_simp, hx, HB0.out.alloc (Nat.le_of_lt hz0) _⟩
  case round =>
    obtain ⟨k, hk, rfl, pb, HX, HB⟩ := hrel
    have x6 : wr.cell? ⟨w0.heap.size, 6, none⟩ = some (.slice (some ⟨cb, coff, none⟩) n cc) := HX.out.h6
    by_cases hlt : k < n
    · go_wp2_with fail
      refine (H56.out k wr hlt HB.out).mono ?_
      rintro e w1 ⟨rfl, hb1⟩
      have HB1 : Hid (Below w.heap.size w w1) := HB.out.trans (hb1.mono HB.out.size)
      have HX1 := Lib.hid (HX.out.bel hb1)
      have pb1 : w1.cell? ⟨w.heap.size, 0, none⟩ = some (.slice (some ⟨b, off, none⟩) np0 cap) := (hb1.cell (p := ⟨w.heap.size, 0, none⟩) (by have := HX.out.lt; show w.heap.size < _; omega)).trans pb
      clear hb1 pb x6
      go_wp2_with fail
      refine (H57.out k w1 hlt HB1.out).mono ?_
      rintro e w2 ⟨rfl, hb2⟩
      have HB2 : Hid (Below w.heap.size w w2) := HB1.out.trans (hb2.mono HB1.out.size)
      have HX2 := Lib.hid (HX1.out.bel hb2)
      have pb2 : w2.cell? ⟨w.heap.size, 0, none⟩ = some (.slice (some ⟨b, off, none⟩) np0 cap) := (hb2.cell (p := ⟨w.heap.size, 0, none⟩) (by have := HX1.out.lt; show w.heap.size < _; omega)).trans pb1
      clear hb2 pb1
      go_wp2_with fail
      go_roundw
      case rel => exact ⟨k + 1, by omega, by go_num, pb2, HX2.out, HB2.out⟩
      case measure => simp [intOf] <;> omega
    · obtain ⟨gl, g0, g1, g2, g3, g4, g5, g6, g7, g8, g9, g10⟩ := HX.out
      clear x6
      go_wp2_with fail
      refine (H58.out wr HB.out).mono ?_
      rintro e w1 ⟨gr, cr', rfl, hc, hb⟩
      have HB1 : Hid (Below w.heap.size w w1) := HB.out.trans (hb.mono HB.out.size)
      have HC := Lib.hid hc
      clear hb hc gl g0 g1 g2 g3 g4 g5 g6 g7 g8 g9 g10 pb
      go_wp2_with fail
      go_loop [11] (fun i => ∃ j : Nat, j ≤ n ∧ i = .int .i64 j) (fun i => n - (intOf i).toNat)
      case atStart => exact ⟨0, Nat.zero_le _, rfl⟩
      case round =>
        obtain ⟨j, hj, rfl⟩ := hrel
        by_cases hjl : j < n
        · have hc := HC.out j hjl
          rw [Nat.zero_add] at hc
          go_wp2_with fail
          go_round
          case rel => exact ⟨j + 1, by omega, by go_num⟩
          case measure => simp [intOf] <;> omega
        · go_wp2_with fail
          go_ret2
          exact ⟨rfl, HB1.out⟩
end Go.Proofs.Ythaniobijkdnoaa
