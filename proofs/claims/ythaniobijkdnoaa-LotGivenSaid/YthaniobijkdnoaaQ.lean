/- The walk of the reference's Reach. Conditions: code that is not too long, without the two instructions of tables. -/
import Derived.Test.YthaniobijkdnoaaP
import Derived.Outline
namespace Go.Proofs.Ythaniobijkdnoaa
open Go.RowKit

theorem madeB (n : Nat) : madeCells (Value.bool false).cells n = (List.replicate n (Value.bool false)).toArray := by
  apply Array.ext
  · simp [size_madeCells]
  · intro i h1 h2
    simp [madeCells, Value.cells, Nat.mod_one]
theorem mk_bools (n : Nat) (h : n ≤ 100000) (W : World) : (Instr.makeSlice 79 (.int .i64 n) (.int .i64 n)).run Try.prog W = .ok (.slice (some ⟨W.heap.size, 0, none⟩) n n) (W.alloc (.cells (List.replicate n (Value.bool false)).toArray 4)) := by
  obtain ⟨i0, hi, hz0, hz1, hz2⟩ := info_parts inf4
  have hr := run_makeSlice W 79 4 i0 (.bool false) Try.underlying79 hi hz0 .i64 .i64 n n (by omega) (Int.le_refl _) (by rw [hz1]; simp; omega) (by rw [hz2]; omega) (by omega)
  rw [hr, hz1, Nat.mul_one, madeB]
  simp
def ReachPost (n : Nat) (w : World) (e : Ending) (w' : World) : Prop := ∃ g cap, e = .returned (.slice (some ⟨g, 0, none⟩) n cap) ∧ (∀ j, j < n → w'.cell? ⟨g, 0 + j, none⟩ = some (.bool true)) ∧ Below w.heap.size w w'
/-- how many marks are missing, read off a block -/
def unmW (o : Option Obj) : Nat := match o with
  | some (.cells c _ _) => c.toList.countP (fun v => match v with | .bool false => true | _ => false)
  | _ => 0
theorem unmW_eq (O : List Bool) : unmW (some (.cells (O.map Value.bool).toArray 4 (0, 0))) = unm O := by
  simp only [unmW, unm, List.countP_map]
  congr 1
  funext x
  cases x <;> rfl
def lenV : Value → Nat
  | .slice _ n _ => n
  | _ => 0
theorem unm_rep (n : Nat) : unm (List.replicate n false) = n := by simp [unm, List.countP_replicate]

/-- what holds at the head of the loop -/
def RInv (w : World) (code : List (Int × Int)) (td : Value) (wr : World) (T : List Int) (O : List Bool) : Prop :=
  OwnQ wr (w.heap.size + 2) td T.length (T.map (Value.int .i64)) ∧ RI code T O ∧ wr.heap[w.heap.size + 1]? = some (.cells (O.map Value.bool).toArray 4 (0, 0)) ∧ T.length + 3 * unm O ≤ 3 * code.length + 1

theorem Box11.bel' {B : Nat} {w w' : World} {b : Nat} {c0 c1 c2 c3 c4 c5 c6 c7 c8 c9 c10 : Value} (h : Box11 w b c0 c1 c2 c3 c4 c5 c6 c7 c8 c9 c10) (hb : Below B w w') (hB : b < B) : Box11 w' b c0 c1 c2 c3 c4 c5 c6 c7 c8 c9 c10 := by
  have hh : ∀ o, w'.cell? ⟨b, o, none⟩ = w.cell? ⟨b, o, none⟩ := fun o => hb.cell (p := ⟨b, o, none⟩) hB
  exact ⟨Nat.lt_of_lt_of_le h.lt hb.size, (hh _).trans h.h0, (hh _).trans h.h1, (hh _).trans h.h2, (hh _).trans h.h3, (hh _).trans h.h4, (hh _).trans h.h5, (hh _).trans h.h6, (hh _).trans h.h7, (hh _).trans h.h8, (hh _).trans h.h9, (hh _).trans h.h10⟩

/-- what holds between the steps of a round -/
structure RMid (w W : World) (td : Value) (T : List Int) (O : List Bool) (c0 c1 c2 c3 c4 c5 c6 c7 c8 c9 c10 : Value) : Prop where
  own : OwnQ W (w.heap.size + 2) td T.length (T.map (Value.int .i64))
  blk : W.heap[w.heap.size + 1]? = some (.cells (O.map Value.bool).toArray 4 (0, 0))
  box : Box11 W w.heap.size c0 c1 c2 c3 c4 c5 c6 c7 c8 c9 c10
  bl : Below w.heap.size w W
theorem RMid.bel {w W W' : World} {td : Value} {T : List Int} {O : List Bool} {c0 c1 c2 c3 c4 c5 c6 c7 c8 c9 c10 : Value} (h : RMid w W td T O c0 c1 c2 c3 c4 c5 c6 c7 c8 c9 c10) (hb : Below W.heap.size W W') : RMid w W' td T O c0 c1 c2 c3 c4 c5 c6 c7 c8 c9 c10 :=
  ⟨h.own.keep hb.size (fun k hk => hb.block k (h.own.lt k hk).2), rd_bel hb (heap_lt h.blk) h.blk, h.box.bel hb, h.bl.trans (hb.mono h.bl.size)⟩
theorem RMid.set {w W : World} {td : Value} {T : List Int} {O : List Bool} {c0 c1 c2 c3 c4 c5 c6 c7 c8 c9 c10 : Value} (h : RMid w W td T O c0 c1 c2 c3 c4 c5 c6 c7 c8 c9 c10) (k : Nat) : RMid w (W.setCell ⟨w.heap.size + 1, k, none⟩ (.bool true)) td T (O.set k true) c0 c1 c2 c3 c4 c5 c6 c7 c8 c9 c10 := by
  have hbl : Below (w.heap.size + 1) W (W.setCell ⟨w.heap.size + 1, k, none⟩ (.bool true)) := (Below.refl (w.heap.size + 1) W).setCell (p := ⟨w.heap.size + 1, k, none⟩) (Nat.le_refl _) _
  refine ⟨h.own.keep (by simp) (fun g hg => Below.heap_setCell W _ _ g ?_), ?_, h.box.bel' hbl (by omega), h.bl.trans (hbl.mono (by omega))⟩
  · have := (h.own.lt g hg).1
    show g ≠ w.heap.size + 1
    omega
  · rw [heap_set h.blk k (.bool true)]
    simp [List.map_set]
theorem RMid.grown {w W W' : World} {td v' : Value} {T ys : List Int} {O : List Bool} {m : Nat} {c0 c1 c2 c3 c4 c5 c6 c7 c8 c9 c10 : Value} (h : RMid w W td T O c0 c1 c2 c3 c4 c5 c6 c7 c8 c9 c10) (hm : m = ys.length) (ho : OwnQ W' (w.heap.size + 2) v' (T.length + m) (T.map (Value.int .i64) ++ ys.map (Value.int .i64))) (hg : W.grownBy W' td.ownBlock) :
    RMid w W' v' (T ++ ys) O c0 c1 c2 c3 c4 c5 c6 c7 c8 c9 c10 := by
  subst hm
  have hne : ∀ k, k < w.heap.size + 2 → some k ≠ td.ownBlock := fun k hk e => by have := (h.own.lt k e.symm).1; omega
  have hb2 : w.heap.size + 1 < W.heap.size := heap_lt h.blk
  have hbl : Below (w.heap.size + 2) W W' := ⟨hg.os, hg.tape, hg.output, hg.size, fun k hk => hg.block k (by omega) (hne k hk)⟩
  refine ⟨by rw [List.length_append, List.map_append]; exact ho, (hbl.block _ (by omega)).trans h.blk, h.box.bel' hbl (by omega), h.bl.trans (hbl.mono (by omega))⟩
theorem RMid.lenV {w W : World} {td : Value} {T : List Int} {O : List Bool} {c0 c1 c2 c3 c4 c5 c6 c7 c8 c9 c10 : Value} (h : RMid w W td T O c0 c1 c2 c3 c4 c5 c6 c7 c8 c9 c10) : lenV td = T.length ∧ unmW W.heap[w.heap.size + 1]? = unm O := by
  obtain ⟨_, g, off, cap, rfl, _⟩ := h.own
  exact ⟨rfl, by rw [h.blk, unmW_eq]⟩
theorem row_form {w : World} {base : Nat} {e : TypeId} {v : Value} {n : Nat} {xs : List Value} (h : w.ownsRow base e 1 v n xs) : ∃ A c, v = .slice A n c := by
  rcases h.2 with ⟨rfl, rfl⟩ | ⟨g, cap, cur, rfl, _⟩
  · exact ⟨none, 0, rfl⟩
  · exact ⟨_, cap, rfl⟩

set_option maxRecDepth 100000 in
set_option maxHeartbeats 4000000 in
theorem reach_walk (w : World) (s : ByteArray) (inn : Bool) (vo vp vr vl vn : Value) (an aa al : Option Addr) (nc cc cn ca cl : Nat) (b off : Nat) (code : List (Int × Int)) (hnc : nc = code.length) (h1 : 1 ≤ nc) (h2 : nc ≤ 2000) (HR : Hid (∀ i, i < code.length → Rch code i))
    (H60 : Hid (∀ (k : Nat) W, k < nc → Below w.heap.size w W → Calls Try.prog 60 #[.agg #[.string s, .bool inn, vo, vp, vr, vl, .slice (some ⟨b, off, none⟩) nc cc, vn, .slice an 0 cn, .slice aa 0 ca, .slice al 0 cl], .int .i64 k] W (RowPost (nextOf (code[k]!).1 (code[k]!).2 k) W)))
    (H82 : Hid (∀ (k : Nat) W, k < nc → Below w.heap.size w W → Calls Try.prog 82 #[.agg #[.string s, .bool inn, vo, vp, vr, vl, .slice (some ⟨b, off, none⟩) nc cc, vn, .slice an 0 cn, .slice aa 0 ca, .slice al 0 cl], .int .i64 k] W (AnsB (.slice none 0 0) W)))
    (H61 : Hid (∀ (k : Nat) W, k < nc → Below w.heap.size w W → Calls Try.prog 61 #[.agg #[.string s, .bool inn, vo, vp, vr, vl, .slice (some ⟨b, off, none⟩) nc cc, vn, .slice an 0 cn, .slice aa 0 ca, .slice al 0 cl], .int .i64 k] W (AnsB (.slice none 0 0) W))) :
    Calls Try.prog 58 #[.agg #[.string s, .bool inn, vo, vp, vr, vl, .slice (some ⟨b, off, none⟩) nc cc, vn, .slice an 0 cn, .slice aa 0 ca, .slice al 0 cl]] w (ReachPost nc w) := by
  have hmk := mk_bools nc (by omega)
  obtain ⟨i0, hi, hz0, hz1, hz2⟩ := info_parts inf3
  have HN := Lib.hid hnc
  clear hnc
  go_enter Try.func58, Try.ntmps58
  go_wp2
  go_loopw [4, 5] (fun td _ wr => ∃ T O, Hid (RInv w code td wr T O) ∧ Hid (Box11 wr w.heap.size (.string s) (.bool inn) vo vp vr vl (.slice (some ⟨b, off, none⟩) nc cc) vn (.slice an 0 cn) (.slice aa 0 ca) (.slice al 0 cl)) ∧ Hid (Below w.heap.size w wr)) (fun td _ wr => lenV td + 3 * unmW (wr.heap[w.heap.size + 1]?))
  case atStart =>
    refine ⟨[0], List.replicate nc false, ⟨OwnQ.new [.int .i64 0] 3 (by simp) (by simp) (by simp [maxLen]), by rw [HN.out]; exact RI.start code, ?_, ?_⟩, ?_, ?_⟩
    · rw [heap_old _ _ _ (by simp)]
      have h := heap_new (w.alloc (.cells #[.string s, .bool inn, vo, vp, vr, vl, .slice (some ⟨b, off, none⟩) nc cc, vn, .slice an 0 cn, .slice aa 0 ca, .slice al 0 cl] 34)) (.cells (List.replicate nc (Value.bool false)).toArray 4)
      simpa using h
    · rw [unm_rep]; have := HN.out; simp; omega
    · exact (Box11.new w 34 (.string s) (.bool inn) vo vp vr vl (.slice (some ⟨b, off, none⟩) nc cc) vn (.slice an 0 cn) (.slice aa 0 ca) (.slice al 0 cl)).bel (((Below.refl _ _).alloc (Nat.le_refl _) _).alloc (by simp) _)
    · exact (((Below.refl _ _).alloc (Nat.le_refl _) _).alloc (by simp) _).alloc (by simp <;> omega) _
  case round =>
    obtain ⟨T, O, HI, HX, HB⟩ := hrel
    obtain ⟨hq, hri, hblk, hbd⟩ := HI.out
    obtain ⟨gl, g0, g1, g2, g3, g4, g5, g6, g7, g8, g9, g10⟩ := HX.out
    have hbs := HB.out.size
    cases T with
    | nil =>
      obtain ⟨_, g, go, cap, rfl, _⟩ := hq
      have hall : O = List.replicate nc true := by rw [HN.out]; exact hri.done HR.out
      subst hall
      have HBK := Lib.hid hblk
      clear hri hblk hbd g0 g1 g2 g3 g4 g5 g6 g7 g8 g9 g10
      go_wp2
      go_ret
      refine ⟨_, _, rfl, fun j hj => ?_, HB.out⟩
      rw [cell_of HBK.out]
      simp [hj]
    | cons x T =>
      have hcode := HN.out
      obtain ⟨hql, g, go, cap, rfl, hgb, hgl, hgn, hgm, hgx, hgc⟩ := hq
      have hx0 : wr.cell? ⟨g, go, none⟩ = some (.int .i64 x) := hgx 0 (by simp)
      have hq : OwnQ wr (w.heap.size + 2) (.slice (some ⟨g, go, none⟩) (T.length + 1) cap) (T.length + 1) ((x :: T).map (Value.int .i64)) := ⟨hql, g, go, cap, rfl, hgb, hgl, hgn, hgm, hgx, hgc⟩
      have HQ := Lib.hid (hq.cut (by omega) rfl)
      have HRI := Lib.hid hri
      have HBK := Lib.hid hblk
      have hbd' : T.length + 1 + 3 * unm O ≤ 3 * nc + 1 := by rw [HN.out]; simpa using hbd
      rw [List.length_cons] at hgn ⊢
      clear hq hri hblk hbd hgx hgc hql
      have HCODE := Lib.hid hcode
      clear hcode
      have HLEN : Hid (O.length = nc) := by have h1 := HRI.out.len; have h2 := HCODE.out; exact Lib.hid (h1.trans h2.symm)
      by_cases hxr : 0 ≤ x ∧ x < nc
      · obtain ⟨hx1, hx2⟩ := hxr
        obtain ⟨k, rfl⟩ : ∃ k : Nat, x = k := ⟨x.toNat, by omega⟩
        have hk : k < nc := by omega
        have hkO : k < O.length := by rw [HLEN.out]; exact hk
        obtain ⟨m, hm⟩ : ∃ m, O[k]? = some m := ⟨_, List.getElem?_eq_getElem hkO⟩
        have hck : wr.cell? ⟨w.heap.size + 1, k, none⟩ = some (.bool m) := by
          rw [cell_of HBK.out]; simp [hm]
        have HM := Lib.hid hm
        clear hm hkO
        cases m with
        | true =>
          have HSK : Hid (RI code T O) := HRI.out.skip (.inr (.inr ⟨k, rfl, HM.out⟩)) (by have := HCODE.out; omega)
          by_cases hcap : cap = 1
          · subst hcap
            obtain rfl : T = [] := List.eq_nil_of_length_eq_zero (by omega)
            have HQ1 : Hid (OwnQ wr (w.heap.size + 2) (.slice (some ⟨g, go, none⟩) 0 0) ([] : List Int).length (([] : List Int).map (Value.int .i64))) := HQ.out
            rw [List.length_nil] at hbd' hgn ⊢
            clear HQ
            go_wp2
            go_roundw
            case rel => exact ⟨_, O, ⟨HQ1.out, HSK.out, HBK.out, by have := HCODE.out; simp; omega⟩, HX.out, HB.out⟩
            case measure => simp [lenV]
          · have HQ1 : Hid (OwnQ wr (w.heap.size + 2) (.slice (some ⟨g, go + 1, none⟩) T.length (cap - 1)) T.length (T.map (Value.int .i64))) := by have h := HQ.out; rw [if_neg hcap] at h; exact h
            clear HQ
            go_wp2
            go_roundw
            case rel => exact ⟨_, O, ⟨HQ1.out, HSK.out, HBK.out, by have := HCODE.out; simp; omega⟩, HX.out, HB.out⟩
            case measure => simp [lenV]
        | false =>
          have hu := unm_set HM.out
          have hfk : wr.frozen? ⟨w.heap.size + 1, k, none⟩ = false := frozen_of HBK.out _
          by_cases hcap : cap = 1
          · subst hcap
            obtain rfl : T = [] := List.eq_nil_of_length_eq_zero (by omega)
            have HQ1 : Hid (OwnQ wr (w.heap.size + 2) (.slice (some ⟨g, go, none⟩) 0 0) ([] : List Int).length (([] : List Int).map (Value.int .i64))) := HQ.out
            rw [List.length_nil] at hbd' hgn ⊢
            clear HQ
            have HA : Hid (RMid w (wr.setCell ⟨w.heap.size + 1, k, none⟩ (.bool true)) (.slice (some ⟨g, go, none⟩) 0 0) ([] : List Int) (O.set k true) (.string s) (.bool inn) vo vp vr vl (.slice (some ⟨b, off, none⟩) nc cc) vn (.slice an 0 cn) (.slice aa 0 ca) (.slice al 0 cl)) := Lib.hid (RMid.set ⟨HQ1.out, HBK.out, HX.out, HB.out⟩ k)
            have HN2 := Lib.hid (HRI.out.mark (by have := HCODE.out; omega))
            have hnl := next_le (code[k]!).1 (code[k]!).2 k
            obtain ⟨ys, hys⟩ : ∃ ys, ys = nextOf (code[k]!).1 (code[k]!).2 k := ⟨_, rfl⟩
            rw [← hys] at HN2 hnl
            have HYS := Lib.hid hys
            clear hys
            go_wp2_with fail
            generalize wr.setCell ⟨w.heap.size + 1, k, none⟩ (.bool true) = wa at *
            clear hx0 gl g0 g1 g2 g3 g4 g5 g6 g7 g8 g9 g10 hck hfk hbs
            refine (H60.out k wa hk HA.out.bl).mono ?_
            rintro e w1 ⟨v1, rfl, hr1, hb1⟩
            rw [← HYS.out] at hr1
            obtain ⟨A1, c1, rfl⟩ := row_form hr1
            have HA1 := Lib.hid (HA.out.bel hb1)
            have HR1 := Lib.hid (Reads.of_own hr1)
            obtain ⟨gl, g0, g1, g2, g3, g4, g5, g6, g7, g8, g9, g10⟩ := HA1.out.box
            have hw1 : w.heap.size + 2 ≤ w1.heap.size := by have := heap_lt HA1.out.blk; omega
            clear hr1 hb1
            go_wp2_with ((at_builtin; refine wpList_append_q w1 rfl _ _ 22 rfl (w.heap.size + 2) 3 i0 (.int .i64 0) 8 Try.underlying22 hi hz0 hz1 hz2 rfl (.slice (some ⟨g, go, none⟩) 0 0) _ _ rfl HA1.out.own _ A1 _ c1 _ rfl HR1.out (ints_one _) (by unfold maxLen; first | omega | (simp; omega)) (by first | omega | (simp; omega)) hw1 ?_; intro v2 w2 hown2 hg2 _; have HA2 := Lib.hid (HA1.out.grown rfl hown2 hg2); clear hown2 hg2 HA1 HR1 hw1 gl g0 g1 g2 g3 g4 g5 g6 g7 g8 g9 g10; obtain ⟨gl, g0, g1, g2, g3, g4, g5, g6, g7, g8, g9, g10⟩ := HA2.out.box))
            refine (H82.out k w2 hk HA2.out.bl).mono ?_
            rintro e w3 ⟨rfl, hb3⟩
            have HA3 := Lib.hid (HA2.out.bel hb3)
            clear hb3 HA2 gl g0 g1 g2 g3 g4 g5 g6 g7 g8 g9 g10
            obtain ⟨gl, g0, g1, g2, g3, g4, g5, g6, g7, g8, g9, g10⟩ := HA3.out.box
            have hw3 : w.heap.size + 2 ≤ w3.heap.size := by have := heap_lt HA3.out.blk; omega
            go_wp2_with ((at_builtin; refine wpList_append_q w3 rfl _ _ 22 rfl (w.heap.size + 2) 3 i0 (.int .i64 0) 8 Try.underlying22 hi hz0 hz1 hz2 rfl v2 _ _ rfl HA3.out.own 0 none 0 0 [] rfl Reads.none_ (by simp) (by unfold maxLen; first | omega | (simp; omega)) (by first | omega | (simp; omega)) hw3 ?_; intro v4 w4 hown4 hg4 _; have HA4 := Lib.hid (HA3.out.grown (ys := []) rfl hown4 hg4); clear hown4 hg4 HA3 hw3 gl g0 g1 g2 g3 g4 g5 g6 g7 g8 g9 g10; obtain ⟨gl, g0, g1, g2, g3, g4, g5, g6, g7, g8, g9, g10⟩ := HA4.out.box))
            refine (H61.out k w4 hk HA4.out.bl).mono ?_
            rintro e w5 ⟨rfl, hb5⟩
            have HA5 := Lib.hid (HA4.out.bel hb5)
            clear hb5 HA4 gl g0 g1 g2 g3 g4 g5 g6 g7 g8 g9 g10
            obtain ⟨gl, g0, g1, g2, g3, g4, g5, g6, g7, g8, g9, g10⟩ := HA5.out.box
            have hw5 : w.heap.size + 2 ≤ w5.heap.size := by have := heap_lt HA5.out.blk; omega
            go_wp2_with ((at_builtin; refine wpList_append_q w5 rfl _ _ 22 rfl (w.heap.size + 2) 3 i0 (.int .i64 0) 8 Try.underlying22 hi hz0 hz1 hz2 rfl v4 _ _ rfl HA5.out.own 0 none 0 0 [] rfl Reads.none_ (by simp) (by unfold maxLen; first | omega | (simp; omega)) (by first | omega | (simp; omega)) hw5 ?_; intro v6 w6 hown6 hg6 _; have HA6 := Lib.hid (HA5.out.grown (ys := []) rfl hown6 hg6); clear hown6 hg6 HA5 hw5 gl g0 g1 g2 g3 g4 g5 g6 g7 g8 g9 g10))
            go_roundw
            case rel => exact ⟨_, _, ⟨HA6.out.own, by rw [List.append_nil, List.append_nil]; exact HN2.out, HA6.out.blk, by have := HCODE.out; simp; omega⟩, HA6.out.box, HA6.out.bl⟩
            case measure =>
              rw [HA6.out.lenV.1, HA6.out.lenV.2, HBK.out, unmW_eq]
              simp [lenV]
              omega
          · have HQ1 : Hid (OwnQ wr (w.heap.size + 2) (.slice (some ⟨g, go + 1, none⟩) T.length (cap - 1)) T.length (T.map (Value.int .i64))) := by have h := HQ.out; rw [if_neg hcap] at h; exact h
            clear HQ
            have HA : Hid (RMid w (wr.setCell ⟨w.heap.size + 1, k, none⟩ (.bool true)) (.slice (some ⟨g, go + 1, none⟩) T.length (cap - 1)) T (O.set k true) (.string s) (.bool inn) vo vp vr vl (.slice (some ⟨b, off, none⟩) nc cc) vn (.slice an 0 cn) (.slice aa 0 ca) (.slice al 0 cl)) := Lib.hid (RMid.set ⟨HQ1.out, HBK.out, HX.out, HB.out⟩ k)
            have HN2 := Lib.hid (HRI.out.mark (by have := HCODE.out; omega))
            have hnl := next_le (code[k]!).1 (code[k]!).2 k
            obtain ⟨ys, hys⟩ : ∃ ys, ys = nextOf (code[k]!).1 (code[k]!).2 k := ⟨_, rfl⟩
            rw [← hys] at HN2 hnl
            have HYS := Lib.hid hys
            clear hys
            go_wp2_with fail
            generalize wr.setCell ⟨w.heap.size + 1, k, none⟩ (.bool true) = wa at *
            clear hx0 gl g0 g1 g2 g3 g4 g5 g6 g7 g8 g9 g10 hck hfk hbs
            refine (H60.out k wa hk HA.out.bl).mono ?_
            rintro e w1 ⟨v1, rfl, hr1, hb1⟩
            rw [← HYS.out] at hr1
            obtain ⟨A1, c1, rfl⟩ := row_form hr1
            have HA1 := Lib.hid (HA.out.bel hb1)
            have HR1 := Lib.hid (Reads.of_own hr1)
            obtain ⟨gl, g0, g1, g2, g3, g4, g5, g6, g7, g8, g9, g10⟩ := HA1.out.box
            have hw1 : w.heap.size + 2 ≤ w1.heap.size := by have := heap_lt HA1.out.blk; omega
            clear hr1 hb1
            go_wp2_with ((at_builtin; refine wpList_append_q w1 rfl _ _ 22 rfl (w.heap.size + 2) 3 i0 (.int .i64 0) 8 Try.underlying22 hi hz0 hz1 hz2 rfl (.slice (some ⟨g, go + 1, none⟩) T.length (cap - 1)) _ _ rfl HA1.out.own _ A1 _ c1 _ rfl HR1.out (ints_one _) (by unfold maxLen; first | omega | (simp; omega)) (by first | omega | (simp; omega)) hw1 ?_; intro v2 w2 hown2 hg2 _; have HA2 := Lib.hid (HA1.out.grown rfl hown2 hg2); clear hown2 hg2 HA1 HR1 hw1 gl g0 g1 g2 g3 g4 g5 g6 g7 g8 g9 g10; obtain ⟨gl, g0, g1, g2, g3, g4, g5, g6, g7, g8, g9, g10⟩ := HA2.out.box))
            refine (H82.out k w2 hk HA2.out.bl).mono ?_
            rintro e w3 ⟨rfl, hb3⟩
            have HA3 := Lib.hid (HA2.out.bel hb3)
            clear hb3 HA2 gl g0 g1 g2 g3 g4 g5 g6 g7 g8 g9 g10
            obtain ⟨gl, g0, g1, g2, g3, g4, g5, g6, g7, g8, g9, g10⟩ := HA3.out.box
            have hw3 : w.heap.size + 2 ≤ w3.heap.size := by have := heap_lt HA3.out.blk; omega
            go_wp2_with ((at_builtin; refine wpList_append_q w3 rfl _ _ 22 rfl (w.heap.size + 2) 3 i0 (.int .i64 0) 8 Try.underlying22 hi hz0 hz1 hz2 rfl v2 _ _ rfl HA3.out.own 0 none 0 0 [] rfl Reads.none_ (by simp) (by unfold maxLen; first | omega | (simp; omega)) (by first | omega | (simp; omega)) hw3 ?_; intro v4 w4 hown4 hg4 _; have HA4 := Lib.hid (HA3.out.grown (ys := []) rfl hown4 hg4); clear hown4 hg4 HA3 hw3 gl g0 g1 g2 g3 g4 g5 g6 g7 g8 g9 g10; obtain ⟨gl, g0, g1, g2, g3, g4, g5, g6, g7, g8, g9, g10⟩ := HA4.out.box))
            refine (H61.out k w4 hk HA4.out.bl).mono ?_
            rintro e w5 ⟨rfl, hb5⟩
            have HA5 := Lib.hid (HA4.out.bel hb5)
            clear hb5 HA4 gl g0 g1 g2 g3 g4 g5 g6 g7 g8 g9 g10
            obtain ⟨gl, g0, g1, g2, g3, g4, g5, g6, g7, g8, g9, g10⟩ := HA5.out.box
            have hw5 : w.heap.size + 2 ≤ w5.heap.size := by have := heap_lt HA5.out.blk; omega
            go_wp2_with ((at_builtin; refine wpList_append_q w5 rfl _ _ 22 rfl (w.heap.size + 2) 3 i0 (.int .i64 0) 8 Try.underlying22 hi hz0 hz1 hz2 rfl v4 _ _ rfl HA5.out.own 0 none 0 0 [] rfl Reads.none_ (by simp) (by unfold maxLen; first | omega | (simp; omega)) (by first | omega | (simp; omega)) hw5 ?_; intro v6 w6 hown6 hg6 _; have HA6 := Lib.hid (HA5.out.grown (ys := []) rfl hown6 hg6); clear hown6 hg6 HA5 hw5 gl g0 g1 g2 g3 g4 g5 g6 g7 g8 g9 g10))
            go_roundw
            case rel => exact ⟨_, _, ⟨HA6.out.own, by rw [List.append_nil, List.append_nil]; exact HN2.out, HA6.out.blk, by have := HCODE.out; simp; omega⟩, HA6.out.box, HA6.out.bl⟩
            case measure =>
              rw [HA6.out.lenV.1, HA6.out.lenV.2, HBK.out, unmW_eq]
              simp [lenV]
              omega
      · have HSK : Hid (RI code T O) := HRI.out.skip (by have := HCODE.out; omega) (by have := HCODE.out; omega)
        rcases (show x < 0 ∨ (0 ≤ x ∧ (nc : Int) ≤ x) by omega) with hx1 | ⟨hx1, hx2⟩
        all_goals
          clear hxr
          by_cases hcap : cap = 1
          · subst hcap
            obtain rfl : T = [] := List.eq_nil_of_length_eq_zero (by omega)
            have HQ1 : Hid (OwnQ wr (w.heap.size + 2) (.slice (some ⟨g, go, none⟩) 0 0) ([] : List Int).length (([] : List Int).map (Value.int .i64))) := HQ.out
            rw [List.length_nil] at hbd' hgn ⊢
            clear HQ
            go_wp2
            go_roundw
            case rel => exact ⟨_, O, ⟨HQ1.out, HSK.out, HBK.out, by have := HCODE.out; simp; omega⟩, HX.out, HB.out⟩
            case measure => simp [lenV]
          · have HQ1 : Hid (OwnQ wr (w.heap.size + 2) (.slice (some ⟨g, go + 1, none⟩) T.length (cap - 1)) T.length (T.map (Value.int .i64))) := by have h := HQ.out; rw [if_neg hcap] at h; exact h
            clear HQ
            go_wp2
            go_roundw
            case rel => exact ⟨_, O, ⟨HQ1.out, HSK.out, HBK.out, by have := HCODE.out; simp; omega⟩, HX.out, HB.out⟩
            case measure => simp [lenV]
end Go.Proofs.Ythaniobijkdnoaa
