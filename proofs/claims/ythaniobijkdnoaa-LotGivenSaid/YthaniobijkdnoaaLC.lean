/- The draws of lot. Conditions: words of 64 bits, a bound from 1 on. -/
import Derived.Test.YthaniobijkdnoaaLB
namespace Go.Proofs.Ythaniobijkdnoaa
open Go.RowKit

def DrPost (ws : List Int) (pos Bd : Nat) (b : Int) (w : World) (e : Ending) (w' : World) : Prop := e = .returned (.int .i64 (drV ws pos b)) ∧ ((drP ws pos b = pos ∧ w' = w) ∨ (drP ws pos b = pos + 1 ∧ w' = w.setCell ⟨Bd, 0, none⟩ (.int .i64 ((pos : Int) + 1))))
theorem rem_bd (x b : Int) (h1 : 1 ≤ b) (h2 : b ≤ 1000000) : -1000000 < x.tmod b ∧ x.tmod b < 1000000 ∧ -b < x.tmod b ∧ x.tmod b < b := by
  have h3 := Int.tmod_lt_of_pos x (show 0 < b by omega)
  have h4 : -b < x.tmod b := by
    rcases Int.le_total 0 x with h | h
    · have := Int.tmod_nonneg b h; omega
    · have := Int.tmod_lt_of_pos (-x) (show 0 < b by omega)
      rw [Int.neg_tmod] at this
      omega
  omega
set_option maxHeartbeats 1000000 in
theorem draw_walk (w : World) (Bd Bl : Nat) (la : Option Addr) (lc : Nat) (ws : List Int) (pos : Nat) (b : Int) (hd : w.heap[Bd]? = some (.cells #[.int .i64 pos] 3 (0, 0))) (hl : w.heap[Bl]? = some (.cells #[.slice la ws.length lc] 22 (0, 0)))
    (hiv : IV w (.slice la ws.length lc) ws) (hws : ws.length ≤ 1000000) (hp : pos ≤ 1000000) (hr : ∀ x ∈ ws, -9223372036854775808 ≤ x ∧ x ≤ 9223372036854775807) (h1 : 1 ≤ b) (h2 : b ≤ 1000000) :
    Calls Try.prog 20 #[.int .i64 b, .pointer (some ⟨Bd, 0, none⟩), .pointer (some ⟨Bl, 0, none⟩)] w (DrPost ws pos Bd b w) := by
  have c1 := cell_of hd 0
  have c2 := cell_of hl 0
  have f1 := frozen_of hd 0
  simp only [List.getElem?_toArray, List.getElem?_cons_zero] at c1 c2
  obtain ⟨n, hn⟩ : ∃ n, n = ws.length := ⟨_, rfl⟩
  have HN := Lib.hid hn
  have HR := Lib.hid hr
  have HIV := Lib.hid hiv
  rw [← hn] at hws c2
  clear hd hl hiv hr hn
  by_cases hpos : pos < n
  · have hpl : pos < ws.length := by have := HN.out; omega
    obtain ⟨_, _, he, _, _, hc⟩ := HIV.out
    simp only [Value.slice.injEq] at he
    obtain ⟨rfl, _, rfl⟩ := he
    obtain ⟨g, off, rfl, hg, hcell⟩ := hc pos hpl
    have hx := HR.out _ (List.getElem_mem hpl)
    obtain ⟨x, hxx⟩ : ∃ x, x = ws[pos] := ⟨_, rfl⟩
    rw [← hxx] at hcell hx
    have HX : Hid (ws.getD pos 0 = x) := by
      have : ws.getD pos 0 = ws[pos] := by rw [List.getD_eq_getElem?_getD, List.getElem?_eq_getElem hpl]; rfl
      exact this.trans hxx.symm
    obtain ⟨hx1, hx2⟩ := hx
    obtain ⟨r, hrr⟩ : ∃ r, r = x.tmod b := ⟨_, rfl⟩
    obtain ⟨hb1, hb2, hb3, hb4⟩ := rem_bd x b h1 h2
    have HV : Hid (drV ws pos b = if x.tmod b < 0 then x.tmod b + b else x.tmod b) := by
      have e1 : ¬ (ws.length ≤ pos ∨ b < 1) := by omega
      show drV ws pos b = _
      rw [drV, if_neg e1, HX.out, remV]
    have HP : Hid (drP ws pos b = pos + 1) := by
      have e1 : ¬ (ws.length ≤ pos ∨ b < 1) := by omega
      show drP ws pos b = _
      rw [drP, if_neg e1]
    clear hc hxx HX hpl hrr
    by_cases hneg : x.tmod b < 0
    · have HV' : Hid (drV ws pos b = x.tmod b + b) := by have h := HV.out; rw [if_pos hneg] at h; exact h
      clear HV
      go_enter Try.func20, Try.ntmps20
      go_wp2
      go_ret
      exact ⟨by rw [HV'.out]; rfl, .inr ⟨HP.out, rfl⟩⟩
    · have HV' : Hid (drV ws pos b = x.tmod b) := by have h := HV.out; rw [if_neg hneg] at h; exact h
      clear HV
      go_enter Try.func20, Try.ntmps20
      go_wp2
      go_ret
      exact ⟨by rw [HV'.out]; rfl, .inr ⟨HP.out, rfl⟩⟩
  · have HV : Hid (drV ws pos b = 0 ∧ drP ws pos b = pos) := by
      have e1 : ws.length ≤ pos ∨ b < 1 := by have := HN.out; omega
      exact ⟨by rw [drV, if_pos e1], by rw [drP, if_pos e1]⟩
    go_enter Try.func20, Try.ntmps20
    go_wp2
    go_ret
    exact ⟨by rw [HV.out.1]; rfl, .inl ⟨HV.out.2, rfl⟩⟩
theorem drP_le (ws : List Int) (pos : Nat) (b : Int) (h : pos ≤ ws.length) : drP ws pos b ≤ ws.length := by
  unfold drP
  split <;> omega
theorem drV_bd (ws : List Int) (pos : Nat) (b : Int) (h1 : 1 ≤ b) (h2 : b ≤ 1000000) : 0 ≤ drV ws pos b ∧ drV ws pos b < b := by
  have h := rem_bd (ws.getD pos 0) b h1 h2
  unfold drV remV
  split
  · omega
  · split <;> omega
theorem draw_mk {c : Cx} {s : St} {g : Gh} {w : World} (hc : CxOk c) (h : MK c s g w) (b : Int) (h1 : 1 ≤ b) (h2 : b ≤ 1000000) :
    Calls Try.prog 20 #[.int .i64 b, .pointer (some ⟨c.Bd, 0, none⟩), .pointer (some ⟨c.Bl, 0, none⟩)] w (MP c (Lot.rS c.kn b s) g w (.int .i64 (Lot.rV c.kn b s))) := by
  refine (draw_walk w c.Bd c.Bl c.la c.lc c.kn.ws s.pos b h.d (hc.bl w h.ch) (hc.iv w h.ch) hc.wl (by have := h.pw; have := hc.wl; omega) hc.wr h1 h2).mono ?_
  rintro e w' ⟨rfl, ⟨hp, rfl⟩ | ⟨hp, rfl⟩⟩
  · refine ⟨rfl, g, ?_, Fr.refl _ _ _⟩
    show MK c { s with pos := drP c.kn.ws s.pos b } g _
    rw [hp]
    exact h
  · have hs := h.setPos (s.pos + 1) (by rw [← hp]; exact drP_le _ _ _ h.pw)
    refine ⟨rfl, g, ?_, hs.2⟩
    show MK c { s with pos := drP c.kn.ws s.pos b } g _
    rw [hp]
    exact hs.1
end Go.Proofs.Ythaniobijkdnoaa
