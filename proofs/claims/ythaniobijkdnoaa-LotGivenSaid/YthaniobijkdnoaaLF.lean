/- A maker picks a slot of a type. Conditions: lists that are not too long. -/
import Derived.Test.YthaniobijkdnoaaLE
namespace Go.Proofs.Ythaniobijkdnoaa
open Go.RowKit

def placesK (t : Int) (l : List Int) (k : Nat) : List Int := ((List.range k).filter (fun i => l.getD i 0 == t)).map (fun i : Nat => (i : Int))
theorem placesK_le (t : Int) (l : List Int) (k : Nat) : (placesK t l k).length ≤ k := by
  unfold placesK
  rw [List.length_map]
  exact Nat.le_trans (List.length_filter_le _ _) (by simp)
theorem placesK_yes {t : Int} {l : List Int} {k : Nat} (h : l.getD k 0 = t) : placesK t l (k + 1) = placesK t l k ++ [(k : Int)] := by
  unfold placesK
  rw [List.range_succ, List.filter_append, List.map_append]
  congr 1
  rw [List.filter_cons, h]
  simp
theorem placesK_no {t : Int} {l : List Int} {k : Nat} (h : l.getD k 0 ≠ t) : placesK t l (k + 1) = placesK t l k := by
  unfold placesK
  rw [List.range_succ, List.filter_append, List.map_append, List.filter_cons, if_neg (by simpa using h)]
  simp
theorem MK.f11 {c : Cx} {s : St} {g : Gh} {w : World} (h : MK c s g w) : w.cell? ⟨c.M, 3, none⟩ = some (.string c.name) ∧ w.cell? ⟨c.M, 4, none⟩ = some (.bool c.inner) ∧ w.cell? ⟨c.M, 5, none⟩ = some c.vo ∧ w.cell? ⟨c.M, 6, none⟩ = some c.vp ∧ w.cell? ⟨c.M, 7, none⟩ = some c.vr ∧ w.cell? ⟨c.M, 8, none⟩ = some g.ov ∧ w.cell? ⟨c.M, 9, none⟩ = some g.cv ∧ w.cell? ⟨c.M, 10, none⟩ = some g.lv ∧ w.cell? ⟨c.M, 11, none⟩ = some (.slice none 0 0) ∧ w.cell? ⟨c.M, 12, none⟩ = some (.slice none 0 0) ∧ w.cell? ⟨c.M, 13, none⟩ = some (.slice none 0 0) :=
  ⟨cell_of h.m 3, cell_of h.m 4, cell_of h.m 5, cell_of h.m 6, cell_of h.m 7, cell_of h.m 8, cell_of h.m 9, cell_of h.m 10, cell_of h.m 11, cell_of h.m 12, cell_of h.m 13⟩

set_option maxRecDepth 100000 in
set_option maxHeartbeats 4000000 in
theorem slot_mk {c : Cx} {s : St} {g : Gh} {w : World} (hc : CxOk c) (h : MK c s g w) (t : Int) (hl : s.locals.length ≤ 100000) :
    Calls Try.prog 70 #[.pointer (some ⟨c.M, 0, none⟩), .int .i64 t] w (MP c (Lot.slotS c.kn t s) g w (.int .i64 (Lot.slotV c.kn t s))) := by
  obtain ⟨i0, hi, hz0, hz1, hz2⟩ := info_parts inf3
  obtain ⟨g3, g4, g5, g6, g7, g8, g9, g10, g11, g12, g13⟩ := h.f11
  have H42 : Hid (Calls Try.prog 42 #[.agg #[.string c.name, .bool c.inner, c.vo, c.vp, c.vr, g.ov, g.cv, g.lv, .slice none 0 0, .slice none 0 0, .slice none 0 0]] w (RowT 59 (Lot.slots c.kn s) w)) := slots_mk hc h hl
  obtain ⟨sl, hsl⟩ : ∃ l, l = Lot.slots c.kn s := ⟨_, rfl⟩
  have hsn : sl.length ≤ 200000 := by rw [hsl]; simp only [Lot.slots, List.length_append]; have := hc.lp; have := hc.lr; omega
  rw [← hsl] at H42
  have HSL := Lib.hid hsl
  have H := Lib.hid h
  have HC := Lib.hid hc
  have HM : Hid (∀ k, Own c g k → k < w.heap.size) := h.lt
  have HDV : Hid (∀ W, MK c s g W → W.cell? ⟨c.M, 0, none⟩ = some (.func (.func 20) #[] #[.pointer (some ⟨c.Bd, 0, none⟩), .pointer (some ⟨c.Bl, 0, none⟩)])) := fun W hW => hW.cells.1
  have H20 : Hid (∀ W (b : Nat), MK c s g W → 1 ≤ b → b ≤ 1000000 → Calls Try.prog 20 #[.int .i64 b, .pointer (some ⟨c.Bd, 0, none⟩), .pointer (some ⟨c.Bl, 0, none⟩)] W (MP c (Lot.rS c.kn b s) g W (.int .i64 (Lot.rV c.kn b s)))) := fun W b hW h1 h2 => draw_mk hc hW b (by omega) (by omega)
  generalize hcM : c.M = M at g3 g4 g5 g6 g7 g8 g9 g10 g11 g12 g13 HDV ⊢
  generalize c.name = nm, c.inner = inn, c.vo = vo, c.vp = vp, c.vr = vr, g.ov = ov, g.cv = cv, g.lv = lv at g3 g4 g5 g6 g7 g8 g9 g10 H42
  clear hsl h hc hcM
  go_enter Try.func70, Try.ntmps70
  go_wp2_with fail
  refine H42.out.mono ?_
  rintro e w1 ⟨v, rfl, ho, hb⟩
  have hiv : IV w1 v sl := iv_of_owned ho (by simp only [maxLen]; omega)
  obtain ⟨A, cap, rfl, hcap1, hcap2, hcc⟩ := id hiv
  obtain ⟨n, hn⟩ : ∃ n, n = sl.length := ⟨_, rfl⟩
  rw [← hn] at hcap1 hsn ⊢
  simp only [maxLen] at hcap2
  have HN := Lib.hid hn
  have HCC := Lib.hid hcc
  have HB1 := Lib.hid hb
  clear ho hb hiv hcc hn g3 g4 g5 g6 g7 g8 g9 g10 g11 g12 g13
  go_wp2_with fail
  go_loopw [5, 14] (fun v i wr => ∃ (k : Nat) (ps : List Int), k ≤ n ∧ i = .int .i64 k ∧ ps.length ≤ k ∧ Hid (ps = placesK t sl k) ∧ Hid (wr.ownsRow w1.heap.size 3 1 v ps.length (ps.map (Value.int .i64))) ∧ Hid (Below w1.heap.size w1 wr)) (fun _ i _ => n - (intOf i).toNat)
  case atStart => exact ⟨0, [], Nat.zero_le _, rfl, Nat.zero_le _, rfl, World.ownsRow_nil _ _ _ _, Below.refl _ _⟩
  case round =>
    obtain ⟨k, ps, hk, rfl, hpk, HPS, HO, HB⟩ := hrel
    have hz : w.heap.size ≤ wr.heap.size := by have h1 := HB1.out.size; have h2 := HB.out.size; omega
    by_cases hlt : k < n
    · have hkl : k < sl.length := by have := HN.out; omega
      obtain ⟨b, off, rfl, hbl, hcell0⟩ := HCC.out k hkl
      have hcell : wr.cell? ⟨b, off + k, none⟩ = some (.int .i64 sl[k]) := (HB.out.cell (p := ⟨b, off + k, none⟩) hbl).trans hcell0
      have hgd : sl.getD k 0 = sl[k] := by rw [List.getD_eq_getElem?_getD, List.getElem?_eq_getElem hkl]; rfl
      obtain ⟨x, hx⟩ : ∃ x, x = sl[k] := ⟨_, rfl⟩
      rw [← hx] at hcell hgd
      have HGD := Lib.hid hgd
      clear hx hcell0 hgd
      by_cases hxt : x = t
      · have HXT := Lib.hid hxt
        have hq : (x == t) = true := by simpa using hxt
        have HR := Lib.hid (reads_new1 wr (k : Int) 3 wr.heap.size rfl)
        have HOA : Hid ((wr.alloc (.cells #[.int .i64 (k : Int)] 3)).ownsRow w1.heap.size 3 1 u5 ps.length (ps.map (Value.int .i64))) := HO.out.alloc _
        clear hxt
        go_wp2_with ((at_builtin; refine wpList_append_any _ rfl _ _ 22 rfl w1.heap.size 3 i0 (.int .i64 0) 1 8 Try.underlying22 hi hz0 hz1 hz2 rfl (by decide) _ _ _ rfl HOA.out _ (some ⟨wr.heap.size, 0, none⟩) 1 1 [.int .i64 (k : Int)] rfl HR.out (by simp [Value.oneCell']) (by unfold maxLen; omega) (by omega) (by have := HB.out.size; simp; omega) ?_; intro v2 w2 hown2 hg2 _; have HO2 := Lib.hid hown2; have HB2 : Hid (Below w1.heap.size w1 w2) := (HB.out.alloc HB.out.size _).grown hg2 (by have := HB.out.size; simp; omega) (fun j hj => (HOA.out.lt j hj).1); clear hown2 hg2))
        go_roundw
        case rel => exact ⟨k + 1, ps ++ [(k : Int)], by omega, by go_num, by simp; omega, by rw [HPS.out]; exact (placesK_yes (HGD.out.trans HXT.out)).symm, by rw [List.length_append, List.map_append]; exact HO2.out, HB2.out⟩
        case measure => simp [intOf] <;> omega
      · have hq : (x == t) = false := by simpa using hxt
        have HXT := Lib.hid hxt
        clear hxt
        go_wp2_with fail
        go_roundw
        case rel => exact ⟨k + 1, ps, by omega, by go_num, by omega, by rw [HPS.out]; exact (placesK_no (by rw [HGD.out]; exact HXT.out)).symm, HO.out, HB.out⟩
        case measure => simp [intOf] <;> omega
    · obtain rfl : k = n := by omega
      have HPL : Hid (ps = Lot.places t (Lot.slots c.kn s)) := by
        have h1 := HPS.out
        have h2 := HSL.out
        have h3 := HN.out
        rw [h3, h2] at h1
        exact Lib.hid h1
      have HW : Hid (Below w.heap.size w wr) := HB1.out.trans (HB.out.mono HB1.out.size)
      have HK : Hid (MK c s g wr) := H.out.bel HW.out
      have dv := HDV.out wr HK.out
      by_cases hp0 : ps.length = 0
      · have hps : ps = [] := List.eq_nil_of_length_eq_zero hp0
        have HE : Hid (Lot.places t (Lot.slots c.kn s) = []) := by have h1 := HPL.out; rw [hps] at h1; exact Lib.hid h1.symm
        subst hps
        obtain ⟨vA, vc, rfl⟩ := row_formN HO.out
        go_wp2_with fail
        go_ret
        exact ⟨by rw [Lot.slotV, if_pos HE.out]; rfl, g, by rw [Lot.slotS, if_pos HE.out]; exact HK.out, Fr.of_bel HW.out⟩
      · obtain ⟨m, hm⟩ : ∃ m, m = ps.length := ⟨_, rfl⟩
        have hm1 : 1 ≤ m := by omega
        have hm2 : m ≤ 1000000 := by omega
        have hmq : ((m : Int) == 0) = false := by simp; omega
        obtain ⟨gb, pcap, rfl, hpc1, hpc2⟩ : ∃ gb pcap, u5 = .slice (some ⟨gb, 0, none⟩) ps.length pcap ∧ ps.length ≤ pcap ∧ pcap ≤ maxLen := by
          rcases HO.out.2 with ⟨_, h0⟩ | ⟨gb, pcap, cur, e, _, _, h1, h2, _⟩
          · omega
          · exact ⟨gb, pcap, e, h1, h2⟩
        have hgb := HO.out.lt gb rfl
        have hgbw : w.heap.size ≤ gb := Nat.le_trans HB1.out.size hgb.1
        simp only [maxLen] at hpc2
        have HOC := Lib.hid HO.out
        rw [← hm] at hpc1 ⊢
        have HMM := Lib.hid hm
        have HGB := Lib.hid hgb.2
        clear hm hp0 hpk hgb
        go_wp2_with fail
        refine (H20.out wr m HK.out hm1 hm2).mono ?_
        rintro e w2 ⟨rfl, g', hmk, hfr⟩
        have hd := drV_bd c.kn.ws s.pos (m : Int) (by omega) (by omega)
        obtain ⟨d, hdd⟩ : ∃ d, d = Lot.rV c.kn m s := ⟨_, rfl⟩
        have hd' : 0 ≤ d ∧ d < (m : Int) := by rw [hdd]; exact hd
        obtain ⟨hd0, hd1⟩ := hd'
        obtain ⟨q, rfl⟩ : ∃ q : Nat, d = q := ⟨d.toNat, by omega⟩
        have hqm : q < m := by omega
        have hblk : w2.heap[gb]? = wr.heap[gb]? := (HK.out.kept hfr HGB.out (fun ho => by have := HM.out gb ho; omega)).1
        have hps : ps[q]? = some (Lot.slotV c.kn t s) := by
          have e1 : Lot.slotV c.kn t s = (Lot.places t (Lot.slots c.kn s)).getD (Lot.rV c.kn (Lot.places t (Lot.slots c.kn s)).length s).toNat 0 := by
            rw [Lot.slotV, if_neg (by rw [← HPL.out]; intro e; have := HMM.out; rw [e] at this; simp at this; omega)]
          rw [e1, ← HPL.out, ← HMM.out, ← hdd, Int.toNat_natCast, List.getD_eq_getElem?_getD, List.getElem?_eq_getElem (by have := HMM.out; omega)]
          rfl
        have hcell : w2.cell? ⟨gb, q, none⟩ = some (.int .i64 (Lot.slotV c.kn t s)) := by
          rw [World.cell?_of_block (a := ⟨gb, q, none⟩) hblk, HOC.out.cellAt q (by have := HMM.out; omega), List.getElem?_map, hps]
          rfl
        have HEND : Hid (MK c (Lot.slotS c.kn t s) g' w2 ∧ Fr c g g' w w2) := by
          refine Lib.hid ⟨?_, (Fr.of_bel HW.out).trans hfr⟩
          rw [Lot.slotS, if_neg (by rw [← HPL.out]; intro e; have := HMM.out; rw [e] at this; simp at this; omega), ← HPL.out, ← HMM.out]
          exact hmk
        rw [← hdd]
        clear hmk hfr hdd hd hblk hps
        obtain ⟨sv, hsv⟩ : ∃ x, x = Lot.slotV c.kn t s := ⟨_, rfl⟩
        rw [← hsv] at hcell
        have HSV := Lib.hid hsv
        clear hsv
        go_wp2_with fail
        go_ret
        exact ⟨by rw [← HSV.out]; rfl, g', HEND.out.1, HEND.out.2⟩
end Go.Proofs.Ythaniobijkdnoaa
