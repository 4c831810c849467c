/- told answers true where the row and the list hold the same frames. Conditions: at most 100 frames, each of a number from 1 on. -/
import Derived.Test.YtddchmkdmmobeaaF
import Derived.Deep.DeepCutAuto
namespace Go.Proofs.Ytddchmkdmmobeaa
open Go.RowKit

def Val (w : World) (v : Value) (ls : List L4) : Prop := ∃ a cap, v = .slice a ls.length cap ∧ ∀ i (hi : i < ls.length), ∃ g, a = some ⟨g, 0, none⟩ ∧ g < w.heap.size ∧ At w g i ls[i]
theorem Sl.val {w : World} {B : Nat} {v : Value} {ls : List L4} (h : Sl w B v ls) : Val w v ls := by
  rcases h.shape with ⟨rfl, a, cap, rfl⟩ | ⟨g, cap, rfl, hg, _⟩
  · exact ⟨a, cap, rfl, fun i hi => by simp at hi⟩
  · exact ⟨_, cap, rfl, fun i hi => ⟨g, rfl, hg, h.at i hi⟩⟩

def topOf (ls : List L4) : L4 := ls.getLast?.getD zero4
def hasTop (ls : List L4) : Bool := !ls.isEmpty
def TopPost (w : World) (t : L4) (ok : Bool) (e : Ending) (w' : World) : Prop := e = .returned (.tuple #[t.val, .bool ok]) ∧ Below w.heap.size w w'

theorem top_any (w : World) (b : Nat) (v : Value) (ls : List L4) (hb : b < w.heap.size) (h : w.cell? ⟨b, 0, none⟩ = some v) (hv : Val w v ls) (hl : ls.length ≤ 100) :
   Calls Try.prog 9 #[.pointer (some ⟨b, 0, none⟩)] w (TopPost w (topOf ls) (hasTop ls)) := by
  obtain ⟨a, cap, rfl, hc⟩ := hv
  rcases List.eq_nil_or_concat ls with rfl | ⟨l', x, rfl⟩
  · exact top_none b a cap w hb h
  · obtain ⟨g, rfl, hg, hx⟩ := hc l'.length (by simp)
    have h' : w.cell? ⟨b, 0, none⟩ = some (.slice (some ⟨g, 0, none⟩) (l'.length + 1) cap) := by simpa using h
    have hx' : At w g l'.length x := by simpa using hx
    refine (top_some b g l'.length cap x w (by simp at hl; omega) hb hg h' hx').mono fun e w' ⟨he, hbl⟩ => ⟨?_, hbl⟩
    simp [topOf, hasTop, he]

/-- the box of the call, and that nothing that was there has turned -/
def Box (w wc : World) (o0 o1 o2 o3 : Int) : Prop :=
  Below w.heap.size w wc ∧ w.heap.size < wc.heap.size ∧ wc.heap[w.heap.size]? = some (.cells #[.int .i64 o0, .int .i64 o1, .int .i64 o2, .int .i64 o3] 28 (0, 0))

theorem nil_or_snoc (ls : List L4) : ls = [] ∨ ∃ l x, ls = l ++ [x] := by
  rcases List.eq_nil_or_concat ls with h | ⟨l, x, h⟩
  · exact .inl h
  · exact .inr ⟨l, x, by rw [h, List.concat_eq_append]⟩
theorem Val.bel {w w1 : World} {v : Value} {ls : List L4} (h : Val w v ls) (hb : Below w.heap.size w w1) : Val w1 v ls := by
  obtain ⟨a, cap, rfl, hc⟩ := h
  refine ⟨a, cap, rfl, fun i hi => ?_⟩
  obtain ⟨g, rfl, hg, hx⟩ := hc i hi
  exact ⟨g, rfl, by have := hb.size; omega, hx.bel hb hg⟩

theorem Box.chg {w a b : World} {o0 o1 o2 o3 : Int} (h : Box w a o0 o1 o2 o3) (k : Chg (fun k => w.heap.size < k) a b) : Box w b o0 o1 o2 o3 := by
  obtain ⟨h1, h2, h3⟩ := h
  exact ⟨h1.trans (k.below h1.size (fun i hi => by omega)), Nat.lt_of_lt_of_le h2 k.size, (k.block _ h2 (by omega)).trans h3⟩
theorem Box.bel {w a b : World} {o0 o1 o2 o3 : Int} (h : Box w a o0 o1 o2 o3) (k : Below a.heap.size a b) : Box w b o0 o1 o2 o3 := h.chg (Chg.of_below k)
theorem owns_bel {w w' : World} {base : Nat} {e : TypeId} {size : Nat} {v : Value} {n : Nat} {xs : List Value} (h : w.ownsRow base e size v n xs)
    (hb : Below w.heap.size w w') : w'.ownsRow base e size v n xs := owns_of_block h fun k hk => hb.block k (h.lt k hk).2
theorem newsA {w : World} {H : Nat} (c : List Value) (t : TypeId) (h : H = w.heap.size) : ∀ j u, c[j]? = some u → (w.alloc (.cells c.toArray t)).cell? ((⟨H, 0, none⟩ : Addr).add j) = some u := news4 c t h
theorem RowAt.bel {B : Nat} {w wr : World} {b : Nat} {v : Value} {ls : List L4} {last : Nat} (h : RowAt w B b v ls last) (k : Below w.heap.size w wr) : RowAt wr B b v ls last := by
  obtain ⟨h1, h2, h3, h4⟩ := h
  exact ⟨(k.block b (heap_lt h1)).trans h1, owns_bel h2 k, h3, h4⟩

/-- what the inner loop has found: in the block that the round has made -/
def Want (wo wr : World) (x : L4) : Prop := Below wo.heap.size wo wr ∧ wr.heap[wo.heap.size]? = some (.cells #[.int .i64 x.a, .int .i64 x.b, .int .i64 x.c, .int .i64 x.d] 31 (0, 0))
theorem Want.set {wo wr : World} {x y : L4} (h : Want wo wr x) :
    Want wo ((((wr.setCell ⟨wo.heap.size, 0, none⟩ (.int .i64 y.a)).setCell ⟨wo.heap.size, 1, none⟩ (.int .i64 y.b)).setCell ⟨wo.heap.size, 2, none⟩ (.int .i64 y.c)).setCell ⟨wo.heap.size, 3, none⟩ (.int .i64 y.d)) y := by
  refine ⟨(((h.1.setCell (by simp) _).setCell (by simp) _).setCell (by simp) _).setCell (by simp) _, ?_⟩
  rw [heap_set (heap_set (heap_set (heap_set h.2 0 _) 1 _) 2 _) 3 _]
  simp
theorem lw_hit (id : Int) (ls : List L4) (k : Nat) (h : k < ls.length) (he : ls[k].a = id) : lw id (ls.take (k + 1)) = some ls[k] := by rw [lw_take _ _ _ h, if_pos he]
theorem lw_miss (id : Int) (ls : List L4) (k : Nat) (h : k < ls.length) (he : ¬ ls[k].a = id) : lw id (ls.take (k + 1)) = lw id (ls.take k) := by rw [lw_take _ _ _ h, if_neg he]

set_option maxRecDepth 1000000 in
set_option maxHeartbeats 1000000 in
theorem told_any (w : World) (B B' b : Nat) (vr vl : Value) (ls : List L4) (last0 last : Nat) (o0 o1 o2 o3 : Int) (hR : RowAt w B b vr ls last0) (hL : Sl w B' vl ls) (hl : ls.length ≤ 100) (hpos : ∀ x ∈ ls, 1 ≤ x.a) (hla : last ≤ 100) :
   Calls Try.prog 7 #[.pointer (some ⟨b, 0, none⟩), vl, .agg #[.int .i64 o0, .int .i64 o1, .int .i64 o2, .int .i64 o3], .int .i64 last] w fun e w' => e = .returned (.bool true) ∧ Below w.heap.size w w' := by
  obtain ⟨i0, hi, hz0, hz1, hz2⟩ := info_parts Try.info31
  have HR := Lib.hid hR
  have HL := Lib.hid hL
  have HP := Lib.hid hpos
  obtain ⟨hb, hown, hvb, hBb⟩ := hR
  have hvr : Val w vr ls := Sl.val hown
  have hvl : Val w vl ls := Sl.val hL
  have hlt := heap_lt hb
  have c0 : w.cell? ⟨b, 0, none⟩ = some vr := cell_of hb 0
  have HVR := Lib.hid hvr
  have HVL := Lib.hid hvl
  obtain ⟨al, capl, rfl, -⟩ := hvl
  obtain ⟨ar, capr, rfl, -⟩ := hvr
  obtain ⟨n, hn⟩ : ∃ n, n = ls.length := ⟨_, rfl⟩
  have hl' := hl
  rw [← hn] at hl
  rw [← hn] at c0
  rw [← hn]
  have HN := Lib.hid hn
  obtain ⟨t, ht⟩ : ∃ t, t = topOf ls := ⟨_, rfl⟩
  obtain ⟨ok, hok⟩ : ∃ ok, ok = hasTop ls := ⟨_, rfl⟩
  have hTop : ∀ o, Calls Try.prog 9 #[.pointer (some ⟨b, 0, none⟩)] (w.alloc o) (TopPost (w.alloc o) t ok) := fun o => by
    rw [ht, hok]
    exact top_any _ _ _ _ (by simp; omega) ((World.cell?_alloc_past _ _ _ hlt).trans (by rw [c0, hn])) (HVR.out.bel ((Below.refl _ _).alloc (Nat.le_refl _) _)) hl'
  have HTop := Lib.hid hTop
  have HT := Lib.hid ht
  have HOK := Lib.hid hok
  clear hb hpos hTop ht hok hn hl'
  go_enter Try.func7, Try.ntmps7
  go_wp2_with (go_at_call 9; refine (HTop.out _).mono ?_; rintro e w1 ⟨rfl, hbel⟩; obtain ⟨hc, hf⟩ := bcell hbel; have hz : w.heap.size < w1.heap.size := (by have := hbel.size; simp at this; omega); have hzb : b < w1.heap.size := (by omega);  have HB := Lib.hid hbel; clear hbel; simp only [L4.val])
  go_cut [57] (fun s wc => s = .bool false ∧ Box w wc o0 o1 o2 o3)
  case first =>
    rcases nil_or_snoc ls with rfl | ⟨l', x, rfl⟩
    · obtain rfl : t = zero4 := HT.out
      obtain rfl : ok = false := HOK.out
      obtain rfl : n = 0 := HN.out
      simp only [zero4]
      go_quiet ((go_at_call 11; exact quiet_left (count_some b ar 0 capr _ (by go_simp))))
      go_wp2
      go_meet
      case rel =>
        refine ⟨rfl, below_of_chg0 ?_, ?_, ?_⟩
        · repeat (first | with_reducible exact Chg.refl _ _ | with_reducible refine Chg.drewN ?_ | with_reducible refine Chg.drew ?_ | (with_reducible refine Chg.set' ?_ ?_; · (first | omega | (simp; done) | (simp; omega))) | with_reducible refine Chg.alloc' ?_ | with_reducible refine Chg.bel' HB.out ?_)
        · simp; omega
        · repeat (first | with_reducible refine rd_drewN ?_ | (with_reducible refine rd_bel HB.out ?_ ?_; · (first | omega | (simp; done) | (simp; omega))) | with_reducible refine rd_drew ?_ | (with_reducible refine rd_alloc ?_ ?_; · (first | omega | (simp; done) | (simp; omega))))
          exact heap_new _ _
    · have HT' : t = x := HT.out.trans (by simp [topOf])
      have HOK' : ok = true := HOK.out.trans (by simp [hasTop])
      subst HT'
      subst HOK'
      have HN' : n = l'.length + 1 := HN.out.trans (by simp)
      have hx : ∃ g, al = some ⟨g, 0, none⟩ ∧ g < w.heap.size ∧ At w g (n - 1) t := by
        obtain ⟨a, cap, hv, hc⟩ := HVL.out
        obtain ⟨rfl, _, _⟩ := hv
        obtain ⟨g, hg, h1, h2⟩ := hc (n - 1) (by simp; omega)
        have e : (l' ++ [t])[n - 1]'(by simp; omega) = t := by simp [HN']
        rw [e] at h2
        exact ⟨g, hg, h1, h2⟩
      obtain ⟨g, rfl, hg, h0, h1, h2, h3⟩ := hx
      have hn1 : 1 ≤ n := by omega
      have hlw : IntKind.i64.wrap ((n : Int) - 1) = (n : Int) - 1 := by rw [IntKind.wrap_i64]; omega
      have hli : (0 : Int) ≤ (n : Int) - 1 := by omega
      have hlj : (n : Int) - 1 < (n : Int) := by omega
      have hlt2 : ((n : Int) - 1).toNat = n - 1 := by omega
      have hlz : decide (0 < n) = true := by simp; omega
      clear HN'
      have hgz : g < w1.heap.size := by omega
      go_quiet ((go_at_call 11; exact quiet_left (count_some b ar n capr _ (by go_simp))))
      go_wp2
      go_meet
      case rel =>
        refine ⟨rfl, below_of_chg0 ?_, ?_, ?_⟩
        · repeat (first | with_reducible exact Chg.refl _ _ | with_reducible refine Chg.drewN ?_ | with_reducible refine Chg.drew ?_ | (with_reducible refine Chg.set' ?_ ?_; · (first | omega | (simp; done) | (simp; omega))) | with_reducible refine Chg.alloc' ?_ | with_reducible refine Chg.bel' HB.out ?_)
        · simp; omega
        · repeat (first | with_reducible refine rd_drewN ?_ | (with_reducible refine rd_bel HB.out ?_ ?_; · (first | omega | (simp; done) | (simp; omega))) | with_reducible refine rd_drew ?_ | (with_reducible refine rd_alloc ?_ ?_; · (first | omega | (simp; done) | (simp; omega))))
          exact heap_new _ _
  case rest =>
    obtain ⟨rfl, hbox⟩ := hcut
    have HBOX := Lib.hid hbox
    clear hbox
    clear HTop HT HOK hc hf
    go_wp2
    go_loopw [11, 12] (fun o i wr => ∃ k : Nat, k ≤ n ∧ i = .int .i64 k ∧ wr.ownsRow (w.heap.size + 1) 31 4 o (ofP o1 (ls.take k)).length (flat (ofP o1 (ls.take k))) ∧ Hid (Box w wr o0 o1 o2 o3)) (fun _ i _ => n - (intOf i).toNat)
    case atStart => exact ⟨0, Nat.zero_le _, rfl, World.ownsRow_nil _ _ _ _, HBOX.out⟩
    case round =>
      obtain ⟨k, hk, rfl, howr, HBR⟩ := hrel
      have hlen := ofP_le o1 ls k
      have hbs := HBR.out.2.1
      have cb1 : wr.cell? ⟨w.heap.size, 1, none⟩ = some (.int .i64 o1) := cell_of HBR.out.2.2 1
      by_cases hlt : k < n
      · have hx : ∃ g, al = some ⟨g, 0, none⟩ ∧ g < w.heap.size ∧ ∃ x, Hid (∃ h : k < ls.length, x = ls[k]) ∧ At w g k x := by
          obtain ⟨a, cap, hv, hc⟩ := HVL.out
          obtain ⟨rfl, _, _⟩ := hv
          obtain ⟨g, hg, h1, h2⟩ := hc k (by rw [← HN.out]; exact hlt)
          exact ⟨g, hg, h1, _, ⟨by rw [← HN.out]; exact hlt, rfl⟩, h2⟩
        obtain ⟨g, rfl, hg, x, HX, hat⟩ := hx
        obtain ⟨h0, h1, h2, h3⟩ := hat.bel HBR.out.1 hg
        have hki : (k : Int) < (n : Int) := by omega
        by_cases hid : x.b = o1
        · have HID := Lib.hid hid
          have hidb : (x.b == o1) = true := by simpa using hid
          clear hid
          go_wp2
          go_quiet (fail)
          have howr' : ∀ m, (wr.drewN m).ownsRow (w.heap.size + 1) 31 4 u11 (ofP o1 (ls.take k)).length (flat (ofP o1 (ls.take k))) := fun m => owns_of_block howr (fun _ _ => rfl)
          have HOW := Lib.hid howr'
          have HOL := Lib.hid (fun k => howr.lt k)
          clear howr' howr
          go_wp2_with (at_builtin; refine wpList_append_own _ rfl _ _ 24 rfl (w.heap.size + 1) 31 i0 (.agg #[.int .i64 0, .int .i64 0, .int .i64 0, .int .i64 0]) 4 32 Try.underlying24 hi hz0 hz1 hz2 rfl (by decide) _ _ _ rfl ((HOW.out _).alloc _) ⟨wr.heap.size, 0, none⟩ 1 1 [.int .i64 x.a, .int .i64 x.b, .int .i64 x.c, .int .i64 x.d] rfl rfl (newsA _ _ rfl) (by simp [Value.oneCell']) (by unfold maxLen; omega) (by omega) (by simp; omega) ?_)
          intro v' wq hown' hgrow _
          have hbq : Box w wq o0 o1 o2 o3 := HBR.out.chg (Chg.grown (Chg.alloc' (Chg.drewN (Chg.refl _ _))) hgrow (fun k hk => .inl (by have := (HOL.out k hk).1; omega)))
          have HO := Lib.hid hown'
          have HBQ := Lib.hid hbq
          clear hbq hown' hgrow
          go_wp2
          go_roundw
          case rel => exact ⟨k + 1, by omega, by go_num, by obtain ⟨hh, he⟩ := HX.out; rw [ofP_hit o1 ls k hh (by rw [← he]; exact HID.out), ← he]; exact of_snoc HO.out, HBQ.out⟩
          case measure => simp [intOf] <;> omega
        · have HID := Lib.hid hid
          have hidb : (x.b == o1) = false := by simpa using hid
          clear hid
          go_wp2
          go_quiet (fail)
          go_wp2
          go_roundw
          case rel => exact ⟨k + 1, by omega, by go_num, by obtain ⟨hh, he⟩ := HX.out; rw [ofP_miss o1 ls k hh (by rw [← he]; exact HID.out)]; exact howr, HBR.out.chg (Chg.drewN (Chg.refl _ _))⟩
          case measure => simp [intOf] <;> omega
      · have HK := Lib.hid (show k = n by omega)
        have HOF : Hid (wr.ownsRow (w.heap.size + 1) 31 4 u11 (ofP o1 ls).length (flat (ofP o1 ls))) := by have hh := HK.out.trans HN.out; rw [hh, List.take_length] at howr; exact howr
        clear howr hlen
        obtain ⟨wa, rfl⟩ : ∃ wa : World, wa = wr := ⟨_, rfl⟩
        have hsz := hbs
        have hbw : b < wa.heap.size := by omega
        have HRA : Hid (RowAt wa B b (.slice ar ls.length capr) ls last0) := HR.out.bel HBR.out.1
        have HVA : Hid (Val wa (.slice al ls.length capl) ls) := HVL.out.bel HBR.out.1
        go_wp2
        go_loopw [13] (fun i wr => ∃ k : Nat, k ≤ last + 2 ∧ i = .int .i64 k ∧ Hid (Below wa.heap.size wa wr)) (fun i _ => last + 2 - (intOf i).toNat)
        case atStart => exact ⟨0, Nat.zero_le _, rfl, Below.refl _ _⟩
        case round =>
          obtain ⟨q, hq, rfl, HBO⟩ := hrel
          by_cases hql : q < last + 2
          · obtain ⟨wo, rfl⟩ : ∃ wo : World, wo = wr := ⟨_, rfl⟩
            have hso := HBO.out.size
            go_wp2
            go_loopw [15, 16] (fun th i wr => ∃ (j : Nat) (x : L4), j ≤ n ∧ i = .int .i64 j ∧ th = .bool (lw q (ls.take j)).isSome ∧ Hid (x = (lw q (ls.take j)).getD zero4) ∧ Hid (Want wo wr x)) (fun _ i _ => n - (intOf i).toNat)
            case atStart => exact ⟨0, zero4, Nat.zero_le _, rfl, rfl, rfl, (Below.refl _ _).alloc (Nat.le_refl _) _, heap_new _ _⟩
            case round =>
              obtain ⟨j, x, hj, rfl, rfl, HX, HW⟩ := hrel
              by_cases hjn : j < n
              · have hx : ∃ g, al = some ⟨g, 0, none⟩ ∧ g < wa.heap.size ∧ ∃ x, Hid (∃ h : j < ls.length, x = ls[j]) ∧ At wa g j x := by
                  obtain ⟨a, cap, hv, hc⟩ := HVA.out
                  obtain ⟨rfl, _, _⟩ := hv
                  obtain ⟨g, hg, h1, h2⟩ := hc j (by rw [← HN.out]; exact hjn)
                  exact ⟨g, hg, h1, _, ⟨by rw [← HN.out]; exact hjn, rfl⟩, h2⟩
                obtain ⟨g, rfl, hg, y, HY, hat⟩ := hx
                obtain ⟨h0, h1, h2, h3⟩ := (hat.bel HBO.out hg).bel HW.out.1 (by omega)
                have e0 : wr.cell? ⟨wo.heap.size, 0, none⟩ = some (.int .i64 x.a) := cell_of HW.out.2 0
                have e1 : wr.cell? ⟨wo.heap.size, 1, none⟩ = some (.int .i64 x.b) := cell_of HW.out.2 1
                have e2 : wr.cell? ⟨wo.heap.size, 2, none⟩ = some (.int .i64 x.c) := cell_of HW.out.2 2
                have e3 : wr.cell? ⟨wo.heap.size, 3, none⟩ = some (.int .i64 x.d) := cell_of HW.out.2 3
                have f0 : wr.frozen? ⟨wo.heap.size, 0, none⟩ = false := frozen_of HW.out.2 0
                have f1 : wr.frozen? ⟨wo.heap.size, 1, none⟩ = false := frozen_of HW.out.2 1
                have f2 : wr.frozen? ⟨wo.heap.size, 2, none⟩ = false := frozen_of HW.out.2 2
                have f3 : wr.frozen? ⟨wo.heap.size, 3, none⟩ = false := frozen_of HW.out.2 3
                by_cases hid : y.a = q
                · have HID := Lib.hid hid
                  have hidb : (y.a == (q : Int)) = true := by simpa using hid
                  clear hid
                  go_wp2
                  go_roundw
                  case rel =>
                    obtain ⟨hh, he⟩ := HY.out
                    have hl2 : lw q (ls.take (j + 1)) = some y := by rw [lw_hit q ls j hh (by rw [← he]; exact HID.out), he]
                    exact ⟨j + 1, y, by omega, by go_num, by rw [hl2]; rfl, by show y = _; rw [hl2]; rfl, HW.out.set⟩
                  case measure => simp [intOf] <;> omega
                · have HID := Lib.hid hid
                  have hidb : (y.a == (q : Int)) = false := by simpa using hid
                  clear hid
                  go_wp2
                  go_roundw
                  case rel =>
                    obtain ⟨hh, he⟩ := HY.out
                    have hl2 : lw q (ls.take (j + 1)) = lw q (ls.take j) := lw_miss q ls j hh (by rw [← he]; exact HID.out)
                    exact ⟨j + 1, x, by omega, by go_num, by rw [hl2], by show x = _; rw [hl2]; exact HX.out, HW.out⟩
                  case measure => simp [intOf] <;> omega
              · have HJ : Hid (j = ls.length) := (show j = n by omega).trans HN.out
                have HX2 : Hid (x = (lw q ls).getD zero4) := by have h := HX.out; rw [HJ.out, List.take_length] at h; exact h
                obtain ⟨th, hth⟩ : ∃ th, th = (lw q (ls.take j)).isSome := ⟨_, rfl⟩
                rw [← hth]
                have HTH : Hid (th = (lw q ls).isSome) := by rw [HJ.out, List.take_length] at hth; exact hth
                clear hth
                have hFind : Calls Try.prog 10 #[.pointer (some ⟨b, 0, none⟩), .int .i64 q] wr (FindPost wr x th) := by
                  rw [HX2.out, HTH.out]
                  exact find_any wr B b _ ls last0 q ((HRA.out.bel HBO.out).bel HW.out.1) (by rw [← HN.out]; exact hl) HP.out
                have HF := Lib.hid hFind
                clear hFind
                have hsr := HW.out.1.size
                have e0 : wr.cell? ⟨wo.heap.size, 0, none⟩ = some (.int .i64 x.a) := cell_of HW.out.2 0
                have e1 : wr.cell? ⟨wo.heap.size, 1, none⟩ = some (.int .i64 x.b) := cell_of HW.out.2 1
                have e2 : wr.cell? ⟨wo.heap.size, 2, none⟩ = some (.int .i64 x.c) := cell_of HW.out.2 2
                have e3 : wr.cell? ⟨wo.heap.size, 3, none⟩ = some (.int .i64 x.d) := cell_of HW.out.2 3
                have hzw : wo.heap.size < wr.heap.size := heap_lt HW.out.2
                go_wp2_with (go_at_call 10; refine HF.out.mono ?_; rintro e w2 ⟨rfl, hbel⟩; obtain ⟨hc, hf⟩ := bcell hbel; have hz2 : wo.heap.size < w2.heap.size := (by have := hbel.size; omega); have HB2 := Lib.hid hbel; clear hbel hf; simp only [L4.val])
                go_roundw
                case rel => exact ⟨q + 1, by omega, by go_num, ((HBO.out.trans (HW.out.1.mono hso)).trans (HB2.out.mono (by omega))).alloc (by have := HB2.out.size; omega) _⟩
                case measure => simp [intOf] <;> omega
          · have hOf : Calls Try.prog 12 #[.pointer (some ⟨b, 0, none⟩), .int .i64 o1] wr (OfPost wr (ofP o1 ls)) :=
              of_any wr B b _ ls last0 o1 (HRA.out.bel HBO.out) (by rw [← HN.out]; exact hl)
            have HOFF := Lib.hid hOf
            have cbr : wr.cell? ⟨w.heap.size, 1, none⟩ = some (.int .i64 o1) := cell_of (HBR.out.bel HBO.out).2.2 1
            have hSame : ∀ w2 v, Below wr.heap.size wr w2 → Sl w2 wr.heap.size v (ofP o1 ls) → Calls Try.prog 13 #[v, u11] w2 fun e w' => e = .returned (.bool true) ∧ Below w2.heap.size w2 w' := fun w2 v hb2 hs2 =>
              same_true w2 _ (w.heap.size + 1) v u11 (ofP o1 ls) hs2 (owns_bel (owns_bel HOF.out HBO.out) hb2) (by have h := ofP_le o1 ls ls.length; rw [List.take_length] at h; have := HN.out; omega)
            have HS := Lib.hid hSame
            clear hOf hSame
            go_wp2_with (first | (go_at_call 12; refine HOFF.out.mono ?_; rintro e w2 ⟨v2, rfl, hs2, hbel⟩; have HB2 := Lib.hid hbel; have HS2 := Lib.hid hs2; clear hbel hs2) | (go_at_call 13; refine (HS.out w2 v2 HB2.out HS2.out).mono ?_; rintro e w3 ⟨rfl, hbel⟩; have HB3 := Lib.hid hbel; clear hbel))
            go_ret
            have hs1 := HBR.out.1.size
            have hs2 := HBO.out.size
            have hs3 := HB2.out.size
            exact ⟨rfl, ((HBR.out.1.trans (HBO.out.mono (by omega))).trans (HB2.out.mono (by omega))).trans (HB3.out.mono (by omega))⟩
end Go.Proofs.Ytddchmkdmmobeaa
