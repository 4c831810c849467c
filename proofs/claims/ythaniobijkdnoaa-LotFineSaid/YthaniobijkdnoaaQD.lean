/- The walk of the law LotFine. Conditions: words of 64 bits, lengths of 63 bits. -/
import Derived.Test.YthaniobijkdnoaaQC
namespace Go.Proofs.Ythaniobijkdnoaa
open Go.RowKit

set_option maxRecDepth 100000 in
set_option maxHeartbeats 4000000 in
theorem lotFine_any (ws : List Int) (v : Value) (w : World) (hv : IV w v ws) (hr : ∀ x ∈ ws, -9223372036854775808 ≤ x ∧ x ≤ 9223372036854775807) : Calls Try.prog 3 #[v] w (AnsB (.bool true) w) := by
  have hv' := hv
  obtain ⟨a0, cap0, rfl, hl0, hm0, -⟩ := hv'
  obtain ⟨n0, hn0⟩ : ∃ n, n = ws.length := ⟨_, rfl⟩
  rw [← hn0] at hl0 hv ⊢
  have HV := Lib.hid hv
  have HR := Lib.hid hr
  have HN0 := Lib.hid hn0
  clear hv hr hn0
  by_cases hbig : 400 < n0
  · unfold maxLen at hm0
    go_enter Try.func3, Try.ntmps3
    go_wp2_with (go_at_call 5; refine (lives_any _).mono ?_; rintro e w1 ⟨rfl, hb⟩; have HB1 := Lib.hid hb; clear hb)
    go_ret
    exact ⟨rfl, HB1.out⟩
  have H6 : Hid (∀ W, Below w.heap.size w W → Calls Try.prog 6 #[.slice a0 n0 cap0] W (ProgPost ws W)) := fun W hb => prog_any ws _ W (HV.out.bel hb) (by have := HN0.out; omega) HR.out
  have HG := Lib.hid (prog_good ws)
  obtain ⟨p, hp⟩ : ∃ p, p = progV ws := ⟨_, rfl⟩
  have HP := Lib.hid hp
  rw [← hp] at HG
  have h6' : p.length ≤ 6 := HG.out.2.1
  unfold maxLen at hm0
  clear hp
  go_enter Try.func3, Try.ntmps3
  go_wp2_with fail
  refine (H6.out w (Below.refl _ _)).mono ?_
  rintro e w1 ⟨v1, rfl, hpv, hb1⟩
  rw [← HP.out] at hpv
  have HPV := Lib.hid hpv
  have HB1 := Lib.hid hb1
  obtain ⟨a, cap, rfl, hl, hm, hc⟩ := hpv
  obtain ⟨n, hn⟩ : ∃ n, n = p.length := ⟨_, rfl⟩
  rw [← hn] at hl h6' HPV ⊢
  have HN := Lib.hid hn
  have HC := Lib.hid hc
  unfold maxLen at hm
  clear hc hn hb1
  have H7 : Hid (∀ W, Below w1.heap.size w1 W → Calls Try.prog 7 #[.agg #[.slice a n cap]] W (AnsB (.bool true) W)) := fun W hb => fine_any p _ W (HPV.out.bel hb) HG.out.1
  have H8 : Hid (∀ W, Below w1.heap.size w1 W → Calls Try.prog 8 #[.agg #[.slice a n cap]] W (AnsB (.bool true) W)) := fun W hb => bareP_any p _ W (HPV.out.bel hb) (by have := HN.out; omega)
  have H10 : Hid (∀ v2 W, Below w1.heap.size w1 W → PV W v2 (progV ws) → Calls Try.prog 10 #[.agg #[.slice a n cap], v2] W (AnsB (.bool true) W)) := fun v2 W hb h2 => same_any p _ v2 W (HPV.out.bel hb) (by rw [HP.out]; exact h2) HG.out.1.pr
  go_wp2_with fail
  refine (H7.out _ ((Below.refl _ _).alloc (Nat.le_refl _) _)).mono ?_
  rintro e w2 ⟨rfl, hb2⟩
  have hblk2 : w2.heap[w1.heap.size]? = some (.cells #[.slice a n cap] 26 (0, 0)) := rd_bel hb2 (by simp) (heap_new _ _)
  have q2 := cell_of hblk2 0
  simp only [List.getElem?_toArray, List.getElem?_cons_zero] at q2
  have HB2 : Hid (Below w1.heap.size w1 w2) := Below.trans ((Below.refl _ _).alloc (Nat.le_refl _) _) (hb2.mono (by simp))
  clear hb2
  go_wp2_with fail
  refine (H8.out _ HB2.out).mono ?_
  rintro e w3 ⟨rfl, hb3⟩
  have hblk3 : w3.heap[w1.heap.size]? = some (.cells #[.slice a n cap] 26 (0, 0)) := rd_bel hb3 (heap_lt hblk2) hblk2
  have q3 := cell_of hblk3 0
  simp only [List.getElem?_toArray, List.getElem?_cons_zero] at q3
  have HB3 : Hid (Below w1.heap.size w1 w3) := Below.trans HB2.out (hb3.mono HB2.out.size)
  have HBK3 := Lib.hid hblk3
  clear hb3 q2 hblk2 HB2 hblk3
  go_wp2
  go_loopw [4] (fun i wr => ∃ k : Nat, k ≤ n ∧ i = .int .i64 k ∧ Hid (wr.heap[w1.heap.size]? = some (.cells #[.slice a n cap] 26 (0, 0))) ∧ Hid (Below w1.heap.size w1 wr)) (fun i _ => n - (intOf i).toNat)
  case atStart => exact ⟨0, Nat.zero_le _, rfl, HBK3, HB3⟩
  case round =>
    obtain ⟨k, hk, rfl, HBK, HB⟩ := hrel
    have q := cell_of HBK.out 0
    simp only [List.getElem?_toArray, List.getElem?_cons_zero] at q
    by_cases hlt : k < n
    · have hkl : k < p.length := by have := HN.out; omega
      obtain ⟨b, off, rfl, hf⟩ := HC.out k hkl
      obtain ⟨vo, vp, vr, vl, vc, vn, an, aa, al, cn, ca, cl, h1, hp⟩ := hf.bel HB.out
      obtain ⟨hlt1, h0, h1, h2, h3, h4, h5, h6, h7, h8, h9, h10⟩ := h1
      obtain ⟨vcA, vcc, rfl, hcl, hcm, -⟩ := hp.c
      have hcl2 : p[k].code.length ≤ 372 := by have := HG.out.2.2 k hkl; rwa [getElem!_pos p k hkl] at this
      obtain ⟨s, hs⟩ : ∃ s, s = p[k].name := ⟨_, rfl⟩
      obtain ⟨i, hi⟩ : ∃ i, i = p[k].inner := ⟨_, rfl⟩
      obtain ⟨nc, hnc⟩ : ∃ i, i = p[k].code.length := ⟨_, rfl⟩
      have H9 : Hid (∀ W, Calls Try.prog 9 #[.agg #[.string s, .bool i, vo, vp, vr, vl, .slice vcA nc vcc, vn, .slice an 0 cn, .slice aa 0 ca, .slice al 0 cl]] W (AnsB (.bool true) W)) := fun W => by
        rw [hs, hi, hnc]; exact bare1_any p[k] vo vp vr vl _ vn an aa al cn ca cl W
      rw [← hs] at h0
      rw [← hi] at h1
      rw [← hnc] at h6 hcl hcl2
      clear hs hi hf hp hnc
      go_wp2_with (go_at_call 9; refine (H9.out _).mono ?_; rintro e w4 ⟨rfl, hb⟩; have HB4 := Lib.hid hb; clear hb)
      go_round
      case rel => exact ⟨k + 1, by omega, by go_num, Lib.hid (rd_bel HB4.out (heap_lt HBK.out) HBK.out), Lib.hid (HB.out.trans (HB4.out.mono HB.out.size))⟩
      case measure => simp [intOf] <;> omega
    · obtain rfl : k = n := by omega
      go_wp2_with fail
      clear H7 H8 HC h6' hl hm q3 HBK3 HB3 hlt hk
      go_region_with (first
        | (go_at_call 6; refine (H6.out _ (HB1.out.trans (Below.mono (by repeat (first | with_reducible exact Below.refl _ _ | with_reducible exact HB.out | with_reducible exact HB5.out | with_reducible exact HB6.out | with_reducible refine Below.drew ?_ | with_reducible refine Below.drewN ?_ _)) HB1.out.size))).mono ?_; rintro e w5 ⟨v2, rfl, hpv2, hb5⟩; have HB5 : Hid (Below w1.heap.size w1 w5) := Lib.hid (Below.trans (by repeat (first | with_reducible exact Below.refl _ _ | with_reducible exact HB.out | with_reducible exact HB5.out | with_reducible exact HB6.out | with_reducible refine Below.drew ?_ | with_reducible refine Below.drewN ?_ _)) (hb5.mono HB.out.size)); have hq5 : w5.heap[w1.heap.size]? = some (.cells #[.slice a k cap] 26 (0, 0)) := rd_bel hb5 (heap_lt HBK.out) HBK.out; have q5 := cell_of hq5 0; simp only [List.getElem?_toArray, List.getElem?_cons_zero] at q5; have HPV2 := Lib.hid hpv2; clear hpv2 hb5 hq5)
        | (go_at_call 10; refine (H10.out _ _ (by repeat (first | with_reducible exact Below.refl _ _ | with_reducible exact HB.out | with_reducible exact HB5.out | with_reducible exact HB6.out | with_reducible refine Below.drew ?_ | with_reducible refine Below.drewN ?_ _)) HPV2.out).mono ?_; rintro e w6 ⟨rfl, hb6⟩; have HB6 : Hid (Below w1.heap.size w1 w6) := Lib.hid (Below.trans (by repeat (first | with_reducible exact Below.refl _ _ | with_reducible exact HB.out | with_reducible exact HB5.out | with_reducible exact HB6.out | with_reducible refine Below.drew ?_ | with_reducible refine Below.drewN ?_ _)) (hb6.mono HB5.out.size)); clear hb6)
        | (go_at_call 5; refine (lives_any _).mono ?_; rintro e w7 ⟨rfl, hb7⟩; have HB7 : Hid (Below w1.heap.size w1 w7) := Lib.hid (Below.trans (by repeat (first | with_reducible exact Below.refl _ _ | with_reducible exact HB.out | with_reducible exact HB5.out | with_reducible exact HB6.out | with_reducible refine Below.drew ?_ | with_reducible refine Below.drewN ?_ _)) (hb7.mono HB6.out.size)); clear hb7))
      all_goals
        go_wp2
        go_ret
        exact ⟨rfl, HB1.out.trans (HB7.out.mono HB1.out.size)⟩
end Go.Proofs.Ythaniobijkdnoaa
