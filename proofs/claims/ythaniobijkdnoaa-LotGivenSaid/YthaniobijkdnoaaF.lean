/- The reference can lay a right program; two readings of one program are the same. Conditions: what right is (PR). -/
import Derived.Test.YthaniobijkdnoaaE
import Derived.StillTailTactics
namespace Go.Proofs.Ythaniobijkdnoaa
open Go.RowKit

/-- a right program without tables -/
structure PR (p : List Fn) : Prop where
  n1 : 1 ≤ p.length
  n2 : p.length ≤ 40
  f : ∀ f ∈ p, FnR f
  u : unl (p.map (·.name)) = true

theorem FnAt.val {w : World} {b o : Nat} {f : Fn} (h : FnAt w b o f) : ∃ c2 c3 c4 c5 c6 c7 an aa al cn ca cl, At11 w b o (.string f.name) (.bool f.inner) c2 c3 c4 c5 c6 c7 (.slice an 0 cn) (.slice aa 0 ca) (.slice al 0 cl) ∧
    FnV w (.agg #[.string f.name, .bool f.inner, c2, c3, c4, c5, c6, c7, .slice an 0 cn, .slice aa 0 ca, .slice al 0 cl]) f := by
  obtain ⟨vo, vp, vr, vl, vc, vn, an, aa, al, cn, ca, cl, h1, hp⟩ := h
  exact ⟨vo, vp, vr, vl, vc, vn, an, aa, al, cn, ca, cl, h1, vo, vp, vr, vl, vc, vn, an, aa, al, cn, ca, cl, rfl, hp⟩

set_option maxHeartbeats 2000000 in
theorem can_any (p : List Fn) (v : Value) (w : World) (hv : PV w v p) (hr : PR p) : Calls Try.prog 24 #[v] w (AnsB (.int .i64 0) w) := by
  have HV := Lib.hid hv
  obtain ⟨a, cap, rfl, hl, hm, hc⟩ := hv
  have H38 : Hid (∀ W, Below w.heap.size w W → Calls Try.prog 38 #[.agg #[.slice a p.length cap]] W (NamesPost p W)) := fun W hb => names_any p _ W (HV.out.bel hb) (by have := hr.n2; omega)
  have H37 : Hid (∀ v W, SV W v (p.map (·.name)) → Calls Try.prog 37 #[v] W fun e w' => e = .returned (.bool true) ∧ W = w') := fun v W h => by
    have h := runlike_any _ v W h (by rw [List.length_map]; have := hr.n2; omega)
    unfold UnlPost at h
    rw [hr.u] at h
    exact h
  have HC : Hid (∀ k W, k < p.length → Below w.heap.size w W → ∃ b off c0 c1 c2 c3 c4 c5 c6 c7 an aa al cn ca cl, a = some ⟨b, off, none⟩ ∧ At11 W b (off + k * 11) c0 c1 c2 c3 c4 c5 c6 c7 (.slice an 0 cn) (.slice aa 0 ca) (.slice al 0 cl) ∧
      Hid (Calls Try.prog 36 #[.agg #[c0, c1, c2, c3, c4, c5, c6, c7, .slice an 0 cn, .slice aa 0 ca, .slice al 0 cl]] W (AnsB (.int .i64 0) W))) := fun k W hk hb => by
    obtain ⟨b, off, rfl, hf⟩ := hc k hk
    obtain ⟨c2, c3, c4, c5, c6, c7, an, aa, al, cn, ca, cl, h1, hv⟩ := (hf.bel hb).val
    exact ⟨b, off, _, _, c2, c3, c4, c5, c6, c7, an, aa, al, cn, ca, cl, rfl, h1, can1_any _ _ W hv (hr.f _ (List.getElem_mem _))⟩
  obtain ⟨n, hn⟩ : ∃ n, n = p.length := ⟨_, rfl⟩
  have hn1 : 1 ≤ n := by rw [hn]; exact hr.n1
  have hn2 : n ≤ 40 := by rw [hn]; exact hr.n2
  rw [← hn] at hl H38 HC ⊢
  clear hc hn hr HV
  go_enter Try.func24, Try.ntmps24
  go_wp2
  go_loopw [3, 4] (fun i e wr => ∃ k : Nat, k ≤ n ∧ i = .int .i64 k ∧ wr.cell? ⟨w.heap.size, 0, none⟩ = some (.slice a n cap) ∧ Hid (Below w.heap.size w wr) ∧ w.heap.size < wr.heap.size) (fun i _ _ => n - (intOf i).toNat)
  case atStart => exact ⟨0, Nat.zero_le _, rfl, by go_simp, (Below.refl _ _).alloc (Nat.le_refl _) _, by simp⟩
  case round =>
    obtain ⟨k, hk, rfl, hbox, HB, hsz⟩ := hrel
    by_cases hlt : k < n
    · obtain ⟨b, off, c0, c1, c2, c3, c4, c5, c6, c7, an, aa, al, cn, ca, cl, rfl, h1, H36⟩ := HC.out k _ hlt HB.out
      obtain ⟨hlt1, h0, h1, h2, h3, h4, h5, h6, h7, h8, h9, h10⟩ := h1
      go_wp2_with (go_at_call 36; refine H36.out.mono ?_; rintro e w1 ⟨rfl, hb⟩; have HB1 := Lib.hid hb; clear hb)
      go_roundw
      case rel => exact ⟨k + 1, by omega, by go_num, (HB1.out.cell (p := ⟨w.heap.size, 0, none⟩) hsz).trans hbox, HB.out.trans (HB1.out.mono HB.out.size), Nat.lt_of_lt_of_le hsz HB1.out.size⟩
      case measure => simp [intOf] <;> omega
    · go_wp2_with (first
        | (go_at_call 38; refine (H38.out _ HB.out).mono ?_; rintro e w1 ⟨v1, rfl, hs, hb⟩; have HB1 := Lib.hid hb; have HS := Lib.hid hs; clear hb hs)
        | (go_at_call 37; refine (H37.out _ _ HS.out).mono ?_; rintro e w1 ⟨rfl, rfl⟩))
      go_ret
      exact ⟨rfl, HB.out.trans (HB1.out.mono HB.out.size)⟩
set_option maxRecDepth 100000 in
set_option maxHeartbeats 4000000 in
theorem same1_walk (w : World) (s : ByteArray) (inn : Bool) (a2 a3 a4 a5 a6 a7 a8 a9 a10 b2 b3 b4 b5 b6 b7 b8 b9 b10 : Value)
    (H2 : Hid (∀ W, Below w.heap.size w W → Calls Try.prog 26 #[a2, b2] W (Ans (.bool true) W)))
    (H3 : Hid (∀ W, Below w.heap.size w W → Calls Try.prog 26 #[a3, b3] W (Ans (.bool true) W)))
    (H4 : Hid (∀ W, Below w.heap.size w W → Calls Try.prog 26 #[a4, b4] W (Ans (.bool true) W)))
    (H5 : Hid (∀ W, Below w.heap.size w W → Calls Try.prog 26 #[a5, b5] W (Ans (.bool true) W)))
    (H6 : Hid (∀ W, Below w.heap.size w W → Calls Try.prog 27 #[a6, b6] W (Ans (.bool true) W)))
    (H7 : Hid (∀ W, Below w.heap.size w W → Calls Try.prog 13 #[a7, b7] W (Ans (.bool true) W)))
    (H8 : Hid (∀ W, Below w.heap.size w W → Calls Try.prog 28 #[a8, b8] W (Ans (.bool true) W)))
    (H9 : Hid (∀ W, Below w.heap.size w W → Calls Try.prog 13 #[a9, b9] W (Ans (.bool true) W)))
    (H10 : Hid (∀ W, Below w.heap.size w W → Calls Try.prog 29 #[a10, b10] W (Ans (.bool true) W)))
    (hs : (s.toList == s.toList) = true) (hi : (inn != inn) = false) :
    Calls Try.prog 19 #[.agg #[.string s, .bool inn, a2, a3, a4, a5, a6, a7, a8, a9, a10], .agg #[.string s, .bool inn, b2, b3, b4, b5, b6, b7, b8, b9, b10]] w (AnsB (.bool true) w) := by
  go_enter Try.func19, Try.ntmps19
  go_wp2_with fail
  refine (H2.out _ (by repeat (first | with_reducible exact ((Below.refl _ _).alloc (Nat.le_refl _) _).alloc (by simp) _ | with_reducible refine Below.drewN ?_ _))).mono ?_
  rintro e w1 ⟨rfl, m2, rfl⟩
  go_wp2_with fail
  refine (H3.out _ (by repeat (first | with_reducible exact ((Below.refl _ _).alloc (Nat.le_refl _) _).alloc (by simp) _ | with_reducible refine Below.drewN ?_ _))).mono ?_
  rintro e w1 ⟨rfl, m3, rfl⟩
  go_wp2_with fail
  refine (H4.out _ (by repeat (first | with_reducible exact ((Below.refl _ _).alloc (Nat.le_refl _) _).alloc (by simp) _ | with_reducible refine Below.drewN ?_ _))).mono ?_
  rintro e w1 ⟨rfl, m4, rfl⟩
  go_wp2_with fail
  refine (H5.out _ (by repeat (first | with_reducible exact ((Below.refl _ _).alloc (Nat.le_refl _) _).alloc (by simp) _ | with_reducible refine Below.drewN ?_ _))).mono ?_
  rintro e w1 ⟨rfl, m5, rfl⟩
  go_wp2_with fail
  refine (H6.out _ (by repeat (first | with_reducible exact ((Below.refl _ _).alloc (Nat.le_refl _) _).alloc (by simp) _ | with_reducible refine Below.drewN ?_ _))).mono ?_
  rintro e w1 ⟨rfl, m6, rfl⟩
  go_wp2_with fail
  refine (H7.out _ (by repeat (first | with_reducible exact ((Below.refl _ _).alloc (Nat.le_refl _) _).alloc (by simp) _ | with_reducible refine Below.drewN ?_ _))).mono ?_
  rintro e w1 ⟨rfl, m7, rfl⟩
  go_wp2_with fail
  refine (H8.out _ (by repeat (first | with_reducible exact ((Below.refl _ _).alloc (Nat.le_refl _) _).alloc (by simp) _ | with_reducible refine Below.drewN ?_ _))).mono ?_
  rintro e w1 ⟨rfl, m8, rfl⟩
  go_wp2_with fail
  refine (H9.out _ (by repeat (first | with_reducible exact ((Below.refl _ _).alloc (Nat.le_refl _) _).alloc (by simp) _ | with_reducible refine Below.drewN ?_ _))).mono ?_
  rintro e w1 ⟨rfl, m9, rfl⟩
  go_wp2_with fail
  refine (H10.out _ (by repeat (first | with_reducible exact ((Below.refl _ _).alloc (Nat.le_refl _) _).alloc (by simp) _ | with_reducible refine Below.drewN ?_ _))).mono ?_
  rintro e w1 ⟨rfl, m10, rfl⟩
  go_wp2_with fail
  go_ret
  exact ⟨rfl, Below.drewN (((Below.refl w.heap.size w).alloc (Nat.le_refl _) _).alloc (by simp) _) _⟩

theorem same1_any (f : Fn) (v1 v2 : Value) (w : World) (h1 : FnV w v1 f) (h2 : FnV w v2 f) (hr : FnR f) : Calls Try.prog 19 #[v1, v2] w (AnsB (.bool true) w) := by
  obtain ⟨vo, vp, vr, vl, vc, vn, an, aa, al, cn, ca, cl, rfl, hp⟩ := h1
  obtain ⟨vo2, vp2, vr2, vl2, vc2, vn2, an2, aa2, al2, cn2, ca2, cl2, rfl, hp2⟩ := h2
  refine same1_walk w f.name f.inner _ _ _ _ _ _ _ _ _ _ _ _ _ _ _ _ _ _ (fun W hb => types_any f.outer _ _ W (hp.o.bel hb) (hp2.o.bel hb) (by have := hr.o.2; omega)) (fun W hb => types_any f.params _ _ W (hp.p.bel hb) (hp2.p.bel hb) (by have := hr.p.2; omega))
    (fun W hb => types_any f.results _ _ W (hp.r.bel hb) (hp2.r.bel hb) (by have := hr.r.2; omega)) (fun W hb => types_any f.locals _ _ W (hp.l.bel hb) (hp2.l.bel hb) (by have := hr.l.2; omega))
    (fun W hb => codes_any f.code _ _ W (hp.c.bel hb) (hp2.c.bel hb) (by have := hr.c2; omega)) (fun W hb => ints_any f.lines _ _ W (hp.n.bel hb) (hp2.n.bel hb) (by have := hr.c2; have := hr.n; omega))
    (fun W _ => nodes0_any W _ _ _ _) (fun W _ => ints_any [] _ _ W (IV.nil _ _ _ hp.ca) (IV.nil _ _ _ hp2.ca) (by simp)) (fun W _ => sets0_any W _ _ _ _) (by simp) (by simp)

set_option maxRecDepth 100000 in
set_option maxHeartbeats 2000000 in
theorem same_any (p : List Fn) (v1 v2 : Value) (w : World) (hv1 : PV w v1 p) (hv2 : PV w v2 p) (hr : PR p) : Calls Try.prog 10 #[v1, v2] w (AnsB (.bool true) w) := by
  obtain ⟨a, cap, rfl, hl, hm, hc⟩ := hv1
  obtain ⟨a2, cap2, rfl, hl2, hm2, hc2⟩ := hv2
  have HC : Hid (∀ k W, k < p.length → Below w.heap.size w W → ∃ b off c0 c1 c2 c3 c4 c5 c6 c7 c8 c9 c10 b2 off2 d0 d1 d2 d3 d4 d5 d6 d7 d8 d9 d10, a = some ⟨b, off, none⟩ ∧ a2 = some ⟨b2, off2, none⟩ ∧ At11 W b (off + k * 11) c0 c1 c2 c3 c4 c5 c6 c7 c8 c9 c10 ∧ At11 W b2 (off2 + k * 11) d0 d1 d2 d3 d4 d5 d6 d7 d8 d9 d10 ∧
      Hid (∀ W2, Below w.heap.size w W2 → Calls Try.prog 19 #[.agg #[c0, c1, c2, c3, c4, c5, c6, c7, c8, c9, c10], .agg #[d0, d1, d2, d3, d4, d5, d6, d7, d8, d9, d10]] W2 (AnsB (.bool true) W2))) := fun k W hk hb => by
    obtain ⟨b, off, rfl, hf⟩ := hc k hk
    obtain ⟨b2, off2, rfl, hf2⟩ := hc2 k hk
    obtain ⟨c2, c3, c4, c5, c6, c7, an, aa, al, cn, ca, cl, h1, hv⟩ := hf.val
    obtain ⟨d2, d3, d4, d5, d6, d7, an2, aa2, al2, cn2, ca2, cl2, h2, hv2⟩ := hf2.val
    exact ⟨b, off, _, _, c2, c3, c4, c5, c6, c7, _, _, _, b2, off2, _, _, d2, d3, d4, d5, d6, d7, _, _, _, rfl, rfl, h1.bel hb, h2.bel hb, fun W2 hb2 => same1_any _ _ _ W2 (hv.bel hb2) (hv2.bel hb2) (hr.f _ (List.getElem_mem _))⟩
  obtain ⟨n, hn⟩ : ∃ n, n = p.length := ⟨_, rfl⟩
  have hn2 : n ≤ 40 := by rw [hn]; exact hr.n2
  rw [← hn] at hl hl2 HC ⊢
  clear hc hc2 hn hr
  go_enter Try.func10, Try.ntmps10
  go_wp2
  go_loopw [5] (fun i wr => ∃ k : Nat, k ≤ n ∧ i = .int .i64 k ∧ wr.cell? ⟨w.heap.size, 0, none⟩ = some (.slice a n cap) ∧ wr.cell? ⟨w.heap.size + 1, 0, none⟩ = some (.slice a2 n cap2) ∧ Hid (Below w.heap.size w wr) ∧ w.heap.size + 1 < wr.heap.size) (fun i _ => n - (intOf i).toNat)
  case atStart => exact ⟨0, Nat.zero_le _, rfl, by go_simp, by go_simp, ((Below.refl _ _).alloc (Nat.le_refl _) _).alloc (by simp) _, by simp⟩
  case round =>
    obtain ⟨k, hk, rfl, hbox, hbox2, HB, hsz⟩ := hrel
    by_cases hlt : k < n
    · obtain ⟨b, off, c0, c1, c2, c3, c4, c5, c6, c7, c8, c9, c10, b2, off2, d0, d1, d2, d3, d4, d5, d6, d7, d8, d9, d10, rfl, rfl, A1, A2, H19⟩ := HC.out k _ hlt HB.out
      obtain ⟨hlt1, h0, h1, h2, h3, h4, h5, h6, h7, h8, h9, h10⟩ := A1
      obtain ⟨glt1, g0, g1, g2, g3, g4, g5, g6, g7, g8, g9, g10⟩ := A2
      go_wp2
      go_still_tail 10, (by kernel_rfl)
      change wpList _ _ _ _ _ wr.drew
      have HB0 := Lib.hid (show Below w.heap.size w wr.drew from Below.drewN HB.out 1)
      have hb1 := Lib.hid (show wr.drew.cell? ⟨w.heap.size, 0, none⟩ = _ from hbox)
      have hb2 := Lib.hid (show wr.drew.cell? ⟨w.heap.size + 1, 0, none⟩ = _ from hbox2)
      have hsz1 : w.heap.size + 1 < wr.drew.heap.size := hsz
      clear hbox hbox2 hsz h0 h1 h2 h3 h4 h5 h6 h7 h8 h9 h10 g0 g1 g2 g3 g4 g5 g6 g7 g8 g9 g10 hlt1 glt1
      generalize wr.drew = wd at *
      go_wp2_with (go_at_call 19; refine (H19.out _ HB0.out).mono ?_; rintro e w1 ⟨rfl, hb⟩; have HB1 := Lib.hid hb; clear hb)
      go_roundw
      case rel => exact ⟨k + 1, by omega, by go_num, (HB1.out.cell (p := ⟨w.heap.size, 0, none⟩) (by show w.heap.size < _; omega)).trans hb1.out, (HB1.out.cell (p := ⟨w.heap.size + 1, 0, none⟩) hsz1).trans hb2.out, HB0.out.trans (HB1.out.mono HB0.out.size), Nat.lt_of_lt_of_le hsz1 HB1.out.size⟩
      case measure => simp [intOf] <;> omega
    · go_wp2
      go_ret
      exact ⟨rfl, HB.out⟩

end Go.Proofs.Ythaniobijkdnoaa
