/- The program that lot makes of words. Conditions: words of 64 bits, heads of right types. -/
import Derived.Test.YthaniobijkdnoaaLYA
namespace Go.Proofs.Ythaniobijkdnoaa
open Go.RowKit

set_option maxRecDepth 100000 in
set_option maxHeartbeats 8000000 in
theorem program_mk (w : World) (la : Option Addr) (lc : Nat) (ws : List Int) (hiv : IV w (.slice la ws.length lc) ws) (hwl : ws.length ≤ 1000000) (hwr : ∀ x ∈ ws, -9223372036854775808 ≤ x ∧ x ≤ 9223372036854775807) (hT : HdT (headsV ws).1) (hNm : ∀ f ∈ (headsV ws).1, f.name.size ≤ maxLen) :
    Calls Try.prog 6 #[.slice la ws.length lc] w (ProgPost ws w) := by
  obtain ⟨j0, ji, jz0, jz1, jz2⟩ := info_parts inf34
  have HT := Lib.hid hT
  have HNM0 := Lib.hid hNm
  have hb0 : Below w.heap.size w (w.alloc (.cells #[.slice none 0 0] 26)) := (Below.refl _ _).alloc (Nat.le_refl _) _
  obtain ⟨D, hD⟩ : ∃ D, D = wdOf (w.alloc (.cells #[.slice none 0 0] 26)) la lc ws := ⟨_, rfl⟩
  have hs0 : (w.alloc (.cells #[.slice none 0 0] 26)).heap.size = w.heap.size + 1 := by simp
  have HDK : Hid (WdOk D) := by
    rw [hD]
    exact ⟨hiv.bel hb0, hwl, hwr, Nat.le_succ _, Nat.le_refl _, fun e => Nat.succ_ne_self _ e⟩
  have hBd : D.Bd = w.heap.size + 1 + 1 := by rw [hD]; show (w.alloc _).heap.size + 1 = _; omega
  have hBl : D.Bl = w.heap.size + 1 := by rw [hD]; exact hs0
  have hws : D.ws = ws := by rw [hD]; rfl
  have hw0 : D.w0 = w.alloc (.cells #[.slice none 0 0] 26) := by rw [hD]; rfl
  have H15 : Hid (Calls Try.prog 15 #[.slice la ws.length lc] (w.alloc (.cells #[.slice none 0 0] 26)) (WordsPost D (w.alloc (.cells #[.slice none 0 0] 26)))) := by
    rw [hD]; exact words_mk _ la lc ws
  have HBD := Lib.hid hBd
  have HBL := Lib.hid hBl
  have HWS := Lib.hid hws
  have HW0 := Lib.hid hw0
  obtain ⟨nw, hnw⟩ : ∃ n, n = ws.length := ⟨_, rfl⟩
  rw [← hnw] at H15 ⊢
  have HRB : Hid ((w.alloc (.cells #[.slice none 0 0] 26)).heap[w.heap.size]? = some (.cells #[.slice none 0 0] 26 (0, 0))) := Lib.hid (heap_new _ _)
  clear hNm hD hiv hwl hwr hT hBd hBl hws hw0 hnw hb0 hs0
  go_enter Try.func6, Try.ntmps6
  go_wp2_with fail
  refine H15.out.mono ?_
  rintro e w1 ⟨rfl, hd1, hb1⟩
  have H1 := Lib.hid hd1
  have HB1 := Lib.hid hb1
  clear hd1 hb1
  go_wp2_with fail
  refine (heads_dr HDK.out H1.out).mono ?_
  rintro e w3 ⟨av, hs, rfl, hfst, hd3, hh3, hc3⟩
  have H3 := Lib.hid hd3
  have HH := Lib.hid hh3
  have HF := Lib.hid hfst
  have C3 := Lib.hid hc3
  obtain ⟨n, hn⟩ : ∃ n, n = hs.length := ⟨_, rfl⟩
  have HN := Lib.hid hn
  have hn1 : 1 ≤ n ∧ n ≤ 40 := by
    have h1 := HT.out.n1
    have h2 := HT.out.n2
    rw [← HWS.out, ← hfst, List.length_map] at h1 h2
    omega
  obtain ⟨hn1, hn2⟩ := hn1
  obtain ⟨ga, cap, rfl, hga1, hga2⟩ : ∃ ga cap, av = .slice (some ⟨ga, 0, none⟩) n cap ∧ n ≤ cap ∧ cap ≤ 9223372036854775807 := by
    rcases hh3.row.2 with ⟨_, h0⟩ | ⟨ga, cap, cur, e, _, _, h1, h2, _⟩
    · omega
    · exact ⟨ga, cap, by rw [e, hn], by rw [hn]; exact h1, h2⟩
  clear hfst hd3 hh3 hc3 hn
  go_wp2_with fail
  have hz13 : w1.heap.size ≤ w3.heap.size := C3.out.size
  have hz01 : w.heap.size + 3 ≤ w1.heap.size := by have h1 := heap_lt H1.out.d; have h2 := HBD.out; omega
  obtain ⟨p0, hp0⟩ : ∃ x, x = (headsV D.ws).2 := ⟨_, rfl⟩
  obtain ⟨all, hall⟩ : ∃ x, x = (headsV D.ws).1 := ⟨_, rfl⟩
  have HP0 := Lib.hid hp0
  have HAL := Lib.hid hall
  have HPI0 : Hid (PI D w3 w3.heap.size hs all p0 0 p0 (.slice none 0 0) [] (w3.alloc (.cells #[.slice none 0 0] 26))) := by
    have hbl : Below w3.heap.size w3 (w3.alloc (.cells #[.slice none 0 0] 26)) := (Below.refl _ _).alloc (Nat.le_refl _) _
    refine Lib.hid ⟨by rw [hp0]; exact H3.out.bel hbl, Chg.of_below hbl, heap_new _ _, World.ownsRow_nil _ _ _ _, rfl, rfl, by simp [Value.ownBlock], fun j y h => by simp at h⟩
  clear hp0 hall
  go_loopw [15] (fun i wr => ∃ (k pos : Nat) (pv : Value) (done : List (Fn × HVal × Gh)), k ≤ n ∧ i = .int .i64 k ∧ Hid (PI D w3 w3.heap.size hs all p0 k pos pv done wr)) (fun i _ => n - (intOf i).toNat)
  case atStart => exact ⟨0, p0, _, _, Nat.zero_le _, rfl, HPI0⟩
  case round =>
    obtain ⟨k, pos, pv, done, hk, rfl, HI⟩ := hrel
    by_cases hlt : k < n
    · obtain ⟨x, hx⟩ : ∃ x, hs[k]? = some x := ⟨_, List.getElem?_eq_getElem (by rw [← HN.out]; exact hlt)⟩
      have hkl : k < hs.length := by rw [← HN.out]; exact hlt
      have hxe : hs[k] = x := by rw [List.getElem?_eq_getElem hkl] at hx; exact Option.some.inj hx
      have hxm : x ∈ hs := List.mem_of_getElem? hx
      have HXK := Lib.hid hx
      have hBB : D.Bd < w1.heap.size := heap_lt H1.out.d
      have st := HH.out.still (i := k) hBB
      have hgw : ga < w3.heap.size := (HH.out.row.lt ga rfl).2
      have hblk : wr.heap[ga]? = w3.heap[ga]? := HI.out.ch.block ga hgw (st.1 ga rfl)
      have cel : ∀ j, j < 11 → wr.cell? ⟨ga, k * 11 + j, none⟩ = (hCells x)[j]? := fun j hj => by
        rw [World.cell?_of_block (a := ⟨ga, k * 11 + j, none⟩) hblk, ← hxe]
        exact HH.out.cell k hkl j hj
      obtain ⟨ao, co, eo, -⟩ := (HH.out.rw_ x hxm).o
      obtain ⟨ap, cp, ep, -⟩ := (HH.out.rw_ x hxm).p
      obtain ⟨ar, cr, er, -⟩ := (HH.out.rw_ x hxm).r
      obtain ⟨al, cl, el⟩ := row_formN (HH.out.rw_ x hxm).l
      obtain ⟨no, hno⟩ : ∃ y, y = x.1.outer.length := ⟨_, rfl⟩
      obtain ⟨np, hnp⟩ : ∃ y, y = x.1.params.length := ⟨_, rfl⟩
      obtain ⟨nr, hnr⟩ : ∃ y, y = x.1.results.length := ⟨_, rfl⟩
      obtain ⟨nl, hnl⟩ : ∃ y, y = x.1.locals.length := ⟨_, rfl⟩
      obtain ⟨nm, hnm⟩ : ∃ y, y = x.1.name := ⟨_, rfl⟩
      obtain ⟨inn, hin⟩ : ∃ y, y = x.1.inner := ⟨_, rfl⟩
      rw [← hno] at eo
      rw [← hnp] at ep
      rw [← hnr] at er
      rw [← hnl] at el
      have x0 : wr.cell? ⟨ga, k * 11, none⟩ = some (.string nm) := by rw [hnm]; exact cel 0 (by omega)
      have x1 : wr.cell? ⟨ga, k * 11 + 1, none⟩ = some (.bool inn) := by rw [hin]; exact cel 1 (by omega)
      have x2 : wr.cell? ⟨ga, k * 11 + 2, none⟩ = some (.slice ao no co) := by rw [← eo]; exact cel 2 (by omega)
      have x3 : wr.cell? ⟨ga, k * 11 + 3, none⟩ = some (.slice ap np cp) := by rw [← ep]; exact cel 3 (by omega)
      have x4 : wr.cell? ⟨ga, k * 11 + 4, none⟩ = some (.slice ar nr cr) := by rw [← er]; exact cel 4 (by omega)
      have x5 : wr.cell? ⟨ga, k * 11 + 5, none⟩ = some (.slice al nl cl) := by rw [← el]; exact cel 5 (by omega)
      have x6 : wr.cell? ⟨ga, k * 11 + 6, none⟩ = some (.slice none 0 0) := cel 6 (by omega)
      have x7 : wr.cell? ⟨ga, k * 11 + 7, none⟩ = some (.slice none 0 0) := cel 7 (by omega)
      have x8 : wr.cell? ⟨ga, k * 11 + 8, none⟩ = some (.slice none 0 0) := cel 8 (by omega)
      have x9 : wr.cell? ⟨ga, k * 11 + 9, none⟩ = some (.slice none 0 0) := cel 9 (by omega)
      have x10 : wr.cell? ⟨ga, k * 11 + 10, none⟩ = some (.slice none 0 0) := cel 10 (by omega)
      have HEO := Lib.hid eo
      have HEP := Lib.hid ep
      have HER := Lib.hid er
      have HEL := Lib.hid el
      have HNL := Lib.hid hnl
      have HNM := Lib.hid hnm
      have HIN := Lib.hid hin
      obtain ⟨wM, hwM⟩ : ∃ y, y = (wr.alloc (.cells #[.string nm, .bool inn, .slice ao no co, .slice ap np cp, .slice ar nr cr, .slice al nl cl, .slice none 0 0, .slice none 0 0, .slice none 0 0, .slice none 0 0, .slice none 0 0] 34)).alloc (.cells #[.func (.func 20) #[] #[.pointer (some ⟨D.Bd, 0, none⟩), .pointer (some ⟨D.Bl, 0, none⟩)], .slice (some ⟨ga, 0, none⟩) n cap, .int .i64 k, .string nm, .bool inn, .slice ao no co, .slice ap np cp, .slice ar nr cr, .slice al nl cl, .slice none 0 0, .slice none 0 0, .slice none 0 0, .slice none 0 0, .slice none 0 0, .int .i64 0] 52) := ⟨_, rfl⟩
      have HWM := Lib.hid hwM
      have HDB : Hid (D.Bd < w3.heap.size) := Lib.hid (by omega)
      have HDB2 : Hid (D.Bd < w1.heap.size ∧ D.Bl < w1.heap.size ∧ w1.heap.size ≤ w3.heap.size) := Lib.hid ⟨hBB, heap_lt H1.out.l, hz13⟩
      clear cel hblk eo ep er el hno hnp hnr hnl hnm hin hx hxe hwM
      go_wp2_with fail
      rw [← HWM.out]
      have hT' : HdT (hs.map (·.1)) := by rw [HF.out, HWS.out]; exact HT.out
      have hxa : x.1 ∈ hs.map (·.1) := List.mem_map_of_mem hxm
      have hal : all = hs.map (·.1) := HAL.out.trans HF.out.symm
      have hsz := HI.out.ch.size
      have hbM : Below wr.heap.size wr wM := by rw [HWM.out]; exact ((Below.refl _ _).alloc (Nat.le_refl _) _).alloc (by simp) _
      have hlo := owns_of_block (HH.out.rw_ x hxm).l (fun j hj => HI.out.ch.block j ((HH.out.rw_ x hxm).l.lt j hj).2 (HH.out.loc hBB HXK.out (Nat.le_refl k) j hj))
      have hMK : MK (cxOf D (.slice (some ⟨ga, 0, none⟩) n cap) all k x wM (wr.heap.size + 1)) ⟨pos, [], [], x.1.locals, 0⟩ ⟨.slice none 0 0, .slice none 0 0, x.2.vl⟩ wM := mk_start _ (by
        show wM = (wr.alloc _).alloc (.cells #[dvOf D.Bd D.Bl, .slice (some ⟨ga, 0, none⟩) n cap, .int .i64 k, .string x.1.name, .bool x.1.inner, x.2.vo, x.2.vp, x.2.vr, x.2.vl, .slice none 0 0, .slice none 0 0, .slice none 0 0, .slice none 0 0, .slice none 0 0, .int .i64 0] 52)
        rw [HEO.out, HEP.out, HER.out, HEL.out, ← HNM.out, ← HIN.out]
        exact HWM.out) HI.out.dr hlo hBB (hT'.l _ hxa)
      have hCX : CxOk (cxOf D (.slice (some ⟨ga, 0, none⟩) n cap) (hs.map (·.1)) k x wM (wr.heap.size + 1)) := cxOk HDK.out HH.out (.inr trivial) H3.out.l H3.out.bl ⟨hBB, heap_lt H1.out.l⟩ hT' HXK.out (HI.out.ch.trans (Chg.of_below hbM)) (by omega)
      rw [← hal] at hCX
      have h17 := body_mk (c := cxOf D (.slice (some ⟨ga, 0, none⟩) n cap) all k x wM (wr.heap.size + 1)) (by show (0 : Int) ≤ (k : Int); omega) (by show (k : Int) ≤ 40; omega) hCX hMK (Nat.zero_le _) (Nat.zero_le _) (by have := (hT'.b _ hxa).2.2.2; show x.1.locals.length ≤ 1000; omega)
      have H17 := Lib.hid h17
      have HMK := Lib.hid hMK
      have HBM := Lib.hid hbM
      clear h17 hMK hbM hCX hlo hT' hxa x0 x1 x2 x3 x4 x5 x6 x7 x8 x9 x10
      refine H17.out.mono ?_
      rintro e w5 ⟨rfl, g5, hm5, hf5⟩
      have H5 := Lib.hid hm5
      have F5 := Lib.hid hf5
      clear hm5 hf5
      go_upto_region 9 with fail
      obtain ⟨g3, g4, g5', g6, g7, g8, g9, g10, g11, g12, g13⟩ := H5.out.f11
      obtain ⟨hp5, hr5, hl5⟩ := HI.out.at5 rfl (by have := HDB.out; omega) HH.out HXK.out HBM.out F5.out
      obtain ⟨ov, hov⟩ : ∃ y, y = g5.ov := ⟨_, rfl⟩
      obtain ⟨cv, hcv⟩ : ∃ y, y = g5.cv := ⟨_, rfl⟩
      obtain ⟨lv, hlv⟩ : ∃ y, y = g5.lv := ⟨_, rfl⟩
      have c3 : w5.cell? ⟨wr.heap.size + 1, 3, none⟩ = some (.string nm) := by rw [HNM.out]; exact g3
      have c4 : w5.cell? ⟨wr.heap.size + 1, 4, none⟩ = some (.bool inn) := by rw [HIN.out]; exact g4
      have c5 : w5.cell? ⟨wr.heap.size + 1, 5, none⟩ = some (.slice ao no co) := by rw [← HEO.out]; exact g5'
      have c6 : w5.cell? ⟨wr.heap.size + 1, 6, none⟩ = some (.slice ap np cp) := by rw [← HEP.out]; exact g6
      have c7 : w5.cell? ⟨wr.heap.size + 1, 7, none⟩ = some (.slice ar nr cr) := by rw [← HER.out]; exact g7
      have c8 : w5.cell? ⟨wr.heap.size + 1, 8, none⟩ = some ov := by rw [hov]; exact g8
      have c9 : w5.cell? ⟨wr.heap.size + 1, 9, none⟩ = some cv := by rw [hcv]; exact g9
      have c10 : w5.cell? ⟨wr.heap.size + 1, 10, none⟩ = some lv := by rw [hlv]; exact g10
      have c11 : w5.cell? ⟨wr.heap.size + 1, 11, none⟩ = some (.slice none 0 0) := g11
      have c12 : w5.cell? ⟨wr.heap.size + 1, 12, none⟩ = some (.slice none 0 0) := g12
      have c13 : w5.cell? ⟨wr.heap.size + 1, 13, none⟩ = some (.slice none 0 0) := g13
      have cp0 : w5.cell? ⟨w3.heap.size, 0, none⟩ = some pv := cell_of hp5 0
      have cf0 : w5.frozen? ⟨w3.heap.size, 0, none⟩ = false := frozen_of hp5 0
      have HP5 := Lib.hid hp5
      have H5B : Hid (MK (cxOf D (.slice (some ⟨ga, 0, none⟩) n cap) all k x wM (wr.heap.size + 1)) (bodyOf D.ws all k pos) g5 w5) := Lib.hid (by
        have hfx : all.getD k default = x.1 := by rw [HAL.out, ← HF.out, List.getD_eq_getElem?_getD, List.getElem?_map, HXK.out]; rfl
        rw [show bodyOf D.ws all k pos = Lot.body (knOf D.ws all k) ⟨pos, [], [], x.1.locals, 0⟩ by unfold bodyOf; rw [hfx]]
        exact H5.out)
      have HDC : Hid (dCells (funcOf D.ws all k pos, x.2, g5) = [.string nm, .bool inn, .slice ao no co, .slice ap np cp, .slice ar nr cr, ov, cv, lv, .slice none 0 0, .slice none 0 0, .slice none 0 0]) := Lib.hid (by
        have hfx : all.getD k default = x.1 := by rw [HAL.out, ← HF.out, List.getD_eq_getElem?_getD, List.getElem?_map, HXK.out]; rfl
        rw [HNM.out, HIN.out, ← HEO.out, ← HEP.out, ← HER.out, hov, hcv, hlv]
        show [Value.string (all.getD k default).name, .bool (all.getD k default).inner, _, _, _, _, _, _, _, _, _] = _
        rw [hfx])
      have HOV := Lib.hid hov
      have HCV := Lib.hid hcv
      have HLV := Lib.hid hlv
      have hbA : Below w5.heap.size w5 (w5.alloc (.cells #[.string nm, .bool inn, .slice ao no co, .slice ap np cp, .slice ar nr cr, ov, cv, lv, .slice none 0 0, .slice none 0 0, .slice none 0 0] 34)) := (Below.refl _ _).alloc (Nat.le_refl _) _
      have HBA := Lib.hid hbA
      have HOA : Hid ((w5.alloc (.cells #[.string nm, .bool inn, .slice ao no co, .slice ap np cp, .slice ar nr cr, ov, cv, lv, .slice none 0 0, .slice none 0 0, .slice none 0 0] 34)).ownsRow w3.heap.size 34 11 pv k (done.flatMap dCells)) := Lib.hid (owns_of_block hr5 (fun j hj => hbA.block j (hr5.lt j hj).2))
      have HRD : Hid (Reads (w5.alloc (.cells #[.string nm, .bool inn, .slice ao no co, .slice ap np cp, .slice ar nr cr, ov, cv, lv, .slice none 0 0, .slice none 0 0, .slice none 0 0] 34)) (w5.heap.size + 1) 11 (some ⟨w5.heap.size, 0, none⟩) 1 [.string nm, .bool inn, .slice ao no co, .slice ap np cp, .slice ar nr cr, ov, cv, lv, .slice none 0 0, .slice none 0 0, .slice none 0 0]) := Lib.hid (reads_newN w5 #[.string nm, .bool inn, .slice ao no co, .slice ap np cp, .slice ar nr cr, ov, cv, lv, .slice none 0 0, .slice none 0 0, .slice none 0 0] 34 rfl)
      have H1C : Hid (∀ u ∈ ([.string nm, .bool inn, .slice ao no co, .slice ap np cp, .slice ar nr cr, ov, cv, lv, .slice none 0 0, .slice none 0 0, .slice none 0 0] : List Value), u.oneCell' = true) := Lib.hid (by
        obtain ⟨q1, q2, q3⟩ := row_formN H5.out.lo
        obtain ⟨r1, r2, r3⟩ := row_formN H5.out.cd
        obtain ⟨s1, s2, s3⟩ := row_formN H5.out.ln
        rw [hov, hcv, hlv, q3, r3, s3]
        intro u hu
        simp only [List.mem_cons, List.not_mem_nil, or_false] at hu
        rcases hu with rfl | rfl | rfl | rfl | rfl | rfl | rfl | rfl | rfl | rfl | rfl <;> rfl)
      clear g3 g4 g5' g6 g7 g8 g9 g10 g11 g12 g13 hp5 hr5 hov hcv hlv hbA
      go_region_law
        ((refine step_append_any _ rfl (.tmp 29) (.tmp 34) 24 rfl w3.heap.size 34 j0 (.agg #[.string ⟨#[]⟩, .bool false, .slice none 0 0, .slice none 0 0, .slice none 0 0, .slice none 0 0, .slice none 0 0, .slice none 0 0, .slice none 0 0, .slice none 0 0, .slice none 0 0]) 11 240 Try.underlying24 ji jz0 jz1 jz2 rfl (by decide) pv k (done.flatMap dCells) (by rfl) (by exact HOA.out) _ (some ⟨w5.heap.size, 0, none⟩) 1 1 [.string nm, .bool inn, .slice ao no co, .slice ap np cp, .slice ar nr cr, ov, cv, lv, .slice none 0 0, .slice none 0 0, .slice none 0 0] (by rfl) (by exact HRD.out) (by exact H1C.out) (by unfold maxLen; omega) (by omega) (by simp; omega) ?_; intro v6 w6 hown6 hg6 hv6; obtain ⟨A6, c6', rfl⟩ := row_formN hown6; have hg6' := grown_undrew hg6; have q1 : w6.cell? ⟨w3.heap.size, 0, none⟩ = some pv := (far_cell rfl HP5.out hg6' HI.out.pn 0).trans cp0; have qf : w6.frozen? ⟨w3.heap.size, 0, none⟩ = false := (far_frozen rfl HP5.out hg6' HI.out.pn 0).trans cf0; have HO6 := Lib.hid hown6; have HG6 := Lib.hid hg6'; have HV6 := Lib.hid hv6; clear hown6 hg6 hg6' hv6))
      all_goals
        have hST := HI.out.step (pv := pv) (v' := .slice A6 (k + 1) c6') rfl HDK.out HH.out ⟨HDB2.out.1, HDB2.out.2.1⟩ HDB2.out.2.2 HXK.out (HAL.out.trans (HF.out.symm)) HBM.out H5B.out F5.out HBA.out (by
          rw [show dCells (funcOf D.ws all k pos, x.2, g5) = [.string nm, .bool inn, .slice ao no co, .slice ap np cp, .slice ar nr cr, ov, cv, lv, .slice none 0 0, .slice none 0 0, .slice none 0 0] from HDC.out]
          exact HO6.out) HG6.out (fun j hj => by
          rcases HV6.out with e | e
          · exact .inl (by rw [e] at hj; exact hj)
          · rw [e] at hj; exact .inr (by simp at hj ⊢; omega))
        have HST := Lib.hid hST
        clear hST q1 qf
        generalize w6.setCell ⟨w3.heap.size, 0, none⟩ (.slice A6 (k + 1) c6') = w7 at *
        go_wp2_with fail
        go_roundw
        case rel => exact ⟨k + 1, _, _, _, by omega, by go_num, HST⟩
        case measure => simp [intOf] <;> omega
    · obtain rfl : k = n := by omega
      obtain ⟨pA, pC, rfl⟩ := row_formN HI.out.row
      have hBB : D.Bd < w1.heap.size := heap_lt H1.out.d
      have hrb : wr.heap[w.heap.size]? = some (.cells #[.slice none 0 0] 26 (0, 0)) := by
        have hb1 := HBD.out
        rw [HI.out.ch.block _ (by omega) (fun e => ?_), C3.out.block _ (by omega) (by omega), HB1.out.block _ (by simp)]
        · exact HRB.out
        · rcases e with h1 | ⟨j, y, _, hy, h2⟩
          · omega
          · have := ((HH.out.rw_ y (List.mem_of_getElem? hy)).blk _ (.inr (.inr (.inr h2)))).1; omega
      have q0 : wr.cell? ⟨w.heap.size, 0, none⟩ = some (.slice none 0 0) := cell_of hrb 0
      have qf : wr.frozen? ⟨w.heap.size, 0, none⟩ = false := frozen_of hrb 0
      have q1 : wr.cell? ⟨w3.heap.size, 0, none⟩ = some (.slice pA k pC) := cell_of HI.out.pp 0
      have HPV : Hid (PV (wr.setCell ⟨w.heap.size, 0, none⟩ (.slice pA k pC)) (.agg #[.slice pA k pC]) (progV ws)) := Lib.hid (HI.out.exit (S := fun j => j = w.heap.size) HN.out hn1 HH.out hBB HWS.out (by rw [HAL.out, HWS.out]) (by rw [HF.out, HWS.out]) (by rw [HP0.out, HWS.out]) HNM0.out (Chg.setCell (S := fun j => j = w.heap.size) (p := ⟨w.heap.size, 0, none⟩) (Chg.refl _ _) (.inl rfl) _) (fun j hj => by have h0 := HBD.out; have h1 := hBB; have h2 : j = w.heap.size := hj; omega) hz13)
      have HRB2 := Lib.hid hrb
      clear hrb
      have HBE : Hid (Below w.heap.size w (wr.setCell ⟨w.heap.size, 0, none⟩ (.slice pA k pC))) := Lib.hid (by
        have h1 := HI.out.dr.bl
        rw [HW0.out] at h1
        exact (((Below.refl _ _).alloc (Nat.le_refl _) _).trans (h1.mono (by simp))).setCell (Nat.le_refl _) _)
      go_wp2_with fail
      exact bodyPost_ret (v := .agg #[.slice pA k pC]) (by simp [results, Try.results6, go_sem, q0, q1]) rfl ⟨_, rfl, HPV.out, HBE.out⟩
end Go.Proofs.Ythaniobijkdnoaa
