/- The walk of the reference's Stacks, where all instructions have their types. Conditions: a table of types that fits each instruction. -/
import Derived.Test.YthaniobijkdnoaaU
import Derived.Deep.DeepCutAuto
namespace Go.Proofs.Ythaniobijkdnoaa
open Go.RowKit

def StacksPost (w : World) (e : Ending) (w' : World) : Prop := ∃ A n c B m d, e = .returned (.tuple #[.agg #[.slice A n c, .slice B m d], .int .i64 0, .int .i64 0]) ∧ Below w.heap.size w w'
set_option maxRecDepth 100000 in
set_option maxHeartbeats 8000000 in
theorem stacks_walk (w : World) (b off np0 cap kf : Nat) (s : ByteArray) (inn : Bool) (ao ap ar al1 an1 an aa al : Option Addr) (no co np cp nr cr nl cl1 n cc nn cn1 cn ca cl cb coff : Nat) (code : List (Int × Int)) (T out : Nat → List Int)
    (hA : At11 w b (off + kf * 11) (.string s) (.bool inn) (.slice ao no co) (.slice ap np cp) (.slice ar nr cr) (.slice al1 nl cl1) (.slice (some ⟨cb, coff, none⟩) n cc) (.slice an1 nn cn1) (.slice an 0 cn) (.slice aa 0 ca) (.slice al 0 cl)) (hkf : kf < np0) (hcap : np0 ≤ cap) (hnp : np0 ≤ 40) (hn1 : 1 ≤ n) (hn2 : n ≤ 2000) (HT0 : Hid (T 0 = []))
    (H59 : Hid (∀ (k : Nat) (v3 : Value) W, k < n → Below w.heap.size w W → IV W v3 (T k) → Calls Try.prog 59 #[.agg #[.slice (some ⟨b, off, none⟩) np0 cap], .int .i64 kf, .int .i64 k, v3] W (StkPost (out k) W)))
    (HNX : Hid (∀ k, k < n → ∀ j ∈ nextOf (code[k]!).1 (code[k]!).2 k, ∃ i : Nat, j = i ∧ i < n ∧ T i = out k))
    (H26 : Hid (∀ (k : Nat) (v1 v2 : Value) W, k < n → IV W v1 (T k) → IV W v2 (T k) → Calls Try.prog 26 #[v1, v2] W (Ans (.bool true) W)))
    (H60 : Hid (∀ (k : Nat) W, k < n → Below w.heap.size w W → Calls Try.prog 60 #[.agg #[.string s, .bool inn, .slice ao no co, .slice ap np cp, .slice ar nr cr, .slice al1 nl cl1, .slice (some ⟨cb, coff, none⟩) n cc, .slice an1 nn cn1, .slice an 0 cn, .slice aa 0 ca, .slice al 0 cl], .int .i64 k] W (RowPost (nextOf (code[k]!).1 (code[k]!).2 k) W)))
    (H61 : Hid (∀ (k : Nat) W, k < n → Below w.heap.size w W → Calls Try.prog 61 #[.agg #[.string s, .bool inn, .slice ao no co, .slice ap np cp, .slice ar nr cr, .slice al1 nl cl1, .slice (some ⟨cb, coff, none⟩) n cc, .slice an1 nn cn1, .slice an 0 cn, .slice aa 0 ca, .slice al 0 cl], .int .i64 k] W (AnsB (.slice none 0 0) W))) :
    Calls Try.prog 40 #[.agg #[.slice (some ⟨b, off, none⟩) np0 cap], .int .i64 kf] w (StacksPost w) := by
  have hmk := mk_rows n (by omega)
  have hmb := mk_bools n (by omega)
  obtain ⟨i0, hi, hz0, hz1, hz2⟩ := info_parts inf3
  obtain ⟨hlt1, h0, h1, h2, h3, h4, h5, h6, h7, h8, h9, h10⟩ := hA
  go_enter Try.func40, Try.ntmps40
  go_upto_region 3 with fail
  go_cut [9] from 26 to 30 (fun s9 wx => ∃ bo br bt, s9 = .pointer (some ⟨bt, 0, none⟩) ∧ Hid (S0 w wx (.slice (some ⟨b, off, none⟩) np0 cap) (.string s) (.bool inn) (.slice ao no co) (.slice ap np cp) (.slice ar nr cr) (.slice al1 nl cl1) (.slice (some ⟨cb, coff, none⟩) n cc) (.slice an1 nn cn1) (.slice an 0 cn) (.slice aa 0 ca) (.slice al 0 cl) bo br bt n))
  case first =>
    go_region
    all_goals
      go_wp2_with fail
      go_meet
      obtain ⟨h1, h2, h3, h4, h5⟩ := S0.go w (.slice (some ⟨b, off, none⟩) np0 cap) (.string s) (.bool inn) (.slice ao no co) (.slice ap np cp) (.slice ar nr cr) (.slice al1 nl cl1) (.slice (some ⟨cb, coff, none⟩) n cc) (.slice an1 nn cn1) (.slice an 0 cn) (.slice aa 0 ca) (.slice al 0 cl)
      first
        | (obtain ⟨t0, t1, t2, f1, f2, f3, f4⟩ := S0.three _ (.cells (List.replicate n (Value.slice none 0 0)).toArray 29) (.cells (List.replicate n (Value.bool false)).toArray 4) (.cells #[.slice (some ⟨w.heap.size + 1 + 1 + 1, 0, none⟩) n n, .slice (some ⟨w.heap.size + 1 + 1 + 1 + 1, 0, none⟩) n n] 81) _ _ _ rfl rfl rfl h1 h2 h3 h4 h5; exact ⟨_, _, _, rfl, (⟨f1, f2, f3, t2, t0, t1, ⟨by omega, by omega, by omega⟩, ⟨by omega, by omega, by omega⟩, f4⟩ : S0 w _ (.slice (some ⟨b, off, none⟩) np0 cap) (.string s) (.bool inn) (.slice ao no co) (.slice ap np cp) (.slice ar nr cr) (.slice al1 nl cl1) (.slice (some ⟨cb, coff, none⟩) n cc) (.slice an1 nn cn1) (.slice an 0 cn) (.slice aa 0 ca) (.slice al 0 cl) (w.heap.size + 1 + 1 + 1) (w.heap.size + 1 + 1 + 1 + 1) (w.heap.size + 1 + 1 + 1 + 1 + 1) n)⟩)
        | (obtain ⟨t0, t1, t2, f1, f2, f3, f4⟩ := S0.three _ (.cells (List.replicate n (Value.slice none 0 0)).toArray 29) (.cells #[.slice (some ⟨w.heap.size + 1 + 1 + 1, 0, none⟩) n n, .slice (some ⟨w.heap.size + 1 + 1 + 1 + 1 + 1, 0, none⟩) n n] 81) (.cells (List.replicate n (Value.bool false)).toArray 4) _ _ _ rfl rfl rfl h1 h2 h3 h4 h5; exact ⟨_, _, _, rfl, (⟨f1, f2, f3, t1, t0, t2, ⟨by omega, by omega, by omega⟩, ⟨by omega, by omega, by omega⟩, f4⟩ : S0 w _ (.slice (some ⟨b, off, none⟩) np0 cap) (.string s) (.bool inn) (.slice ao no co) (.slice ap np cp) (.slice ar nr cr) (.slice al1 nl cl1) (.slice (some ⟨cb, coff, none⟩) n cc) (.slice an1 nn cn1) (.slice an 0 cn) (.slice aa 0 ca) (.slice al 0 cl) (w.heap.size + 1 + 1 + 1) (w.heap.size + 1 + 1 + 1 + 1 + 1) (w.heap.size + 1 + 1 + 1 + 1) n)⟩)
        | (obtain ⟨t0, t1, t2, f1, f2, f3, f4⟩ := S0.three _ (.cells (List.replicate n (Value.bool false)).toArray 4) (.cells (List.replicate n (Value.slice none 0 0)).toArray 29) (.cells #[.slice (some ⟨w.heap.size + 1 + 1 + 1 + 1, 0, none⟩) n n, .slice (some ⟨w.heap.size + 1 + 1 + 1, 0, none⟩) n n] 81) _ _ _ rfl rfl rfl h1 h2 h3 h4 h5; exact ⟨_, _, _, rfl, (⟨f1, f2, f3, t2, t1, t0, ⟨by omega, by omega, by omega⟩, ⟨by omega, by omega, by omega⟩, f4⟩ : S0 w _ (.slice (some ⟨b, off, none⟩) np0 cap) (.string s) (.bool inn) (.slice ao no co) (.slice ap np cp) (.slice ar nr cr) (.slice al1 nl cl1) (.slice (some ⟨cb, coff, none⟩) n cc) (.slice an1 nn cn1) (.slice an 0 cn) (.slice aa 0 ca) (.slice al 0 cl) (w.heap.size + 1 + 1 + 1 + 1) (w.heap.size + 1 + 1 + 1) (w.heap.size + 1 + 1 + 1 + 1 + 1) n)⟩)
        | (obtain ⟨t0, t1, t2, f1, f2, f3, f4⟩ := S0.three _ (.cells (List.replicate n (Value.bool false)).toArray 4) (.cells #[.slice (some ⟨w.heap.size + 1 + 1 + 1 + 1 + 1, 0, none⟩) n n, .slice (some ⟨w.heap.size + 1 + 1 + 1, 0, none⟩) n n] 81) (.cells (List.replicate n (Value.slice none 0 0)).toArray 29) _ _ _ rfl rfl rfl h1 h2 h3 h4 h5; exact ⟨_, _, _, rfl, (⟨f1, f2, f3, t1, t2, t0, ⟨by omega, by omega, by omega⟩, ⟨by omega, by omega, by omega⟩, f4⟩ : S0 w _ (.slice (some ⟨b, off, none⟩) np0 cap) (.string s) (.bool inn) (.slice ao no co) (.slice ap np cp) (.slice ar nr cr) (.slice al1 nl cl1) (.slice (some ⟨cb, coff, none⟩) n cc) (.slice an1 nn cn1) (.slice an 0 cn) (.slice aa 0 ca) (.slice al 0 cl) (w.heap.size + 1 + 1 + 1 + 1 + 1) (w.heap.size + 1 + 1 + 1) (w.heap.size + 1 + 1 + 1 + 1) n)⟩)
        | (obtain ⟨t0, t1, t2, f1, f2, f3, f4⟩ := S0.three _ (.cells #[.slice (some ⟨w.heap.size + 1 + 1 + 1 + 1, 0, none⟩) n n, .slice (some ⟨w.heap.size + 1 + 1 + 1 + 1 + 1, 0, none⟩) n n] 81) (.cells (List.replicate n (Value.slice none 0 0)).toArray 29) (.cells (List.replicate n (Value.bool false)).toArray 4) _ _ _ rfl rfl rfl h1 h2 h3 h4 h5; exact ⟨_, _, _, rfl, (⟨f1, f2, f3, t0, t1, t2, ⟨by omega, by omega, by omega⟩, ⟨by omega, by omega, by omega⟩, f4⟩ : S0 w _ (.slice (some ⟨b, off, none⟩) np0 cap) (.string s) (.bool inn) (.slice ao no co) (.slice ap np cp) (.slice ar nr cr) (.slice al1 nl cl1) (.slice (some ⟨cb, coff, none⟩) n cc) (.slice an1 nn cn1) (.slice an 0 cn) (.slice aa 0 ca) (.slice al 0 cl) (w.heap.size + 1 + 1 + 1 + 1) (w.heap.size + 1 + 1 + 1 + 1 + 1) (w.heap.size + 1 + 1 + 1) n)⟩)
        | (obtain ⟨t0, t1, t2, f1, f2, f3, f4⟩ := S0.three _ (.cells #[.slice (some ⟨w.heap.size + 1 + 1 + 1 + 1 + 1, 0, none⟩) n n, .slice (some ⟨w.heap.size + 1 + 1 + 1 + 1, 0, none⟩) n n] 81) (.cells (List.replicate n (Value.bool false)).toArray 4) (.cells (List.replicate n (Value.slice none 0 0)).toArray 29) _ _ _ rfl rfl rfl h1 h2 h3 h4 h5; exact ⟨_, _, _, rfl, (⟨f1, f2, f3, t0, t2, t1, ⟨by omega, by omega, by omega⟩, ⟨by omega, by omega, by omega⟩, f4⟩ : S0 w _ (.slice (some ⟨b, off, none⟩) np0 cap) (.string s) (.bool inn) (.slice ao no co) (.slice ap np cp) (.slice ar nr cr) (.slice al1 nl cl1) (.slice (some ⟨cb, coff, none⟩) n cc) (.slice an1 nn cn1) (.slice an 0 cn) (.slice aa 0 ca) (.slice al 0 cl) (w.heap.size + 1 + 1 + 1 + 1 + 1) (w.heap.size + 1 + 1 + 1 + 1) (w.heap.size + 1 + 1 + 1) n)⟩)
  case rest =>
    obtain ⟨bo, br, bt, rfl, HS0⟩ := hcut
    have HS := Lib.hid (HS0.out.start HT0.out hn1)
    have l1 := heap_lt HS0.out.hbt
    have l2 := heap_lt HS0.out.hr
    have n1 : ¬ bt = br := fun e => HS0.out.nes.2.2 e.symm
    have q1 : wc.cell? ⟨bt, 1, none⟩ = some (.slice (some ⟨br, 0, none⟩) n n) := by rw [cell_of HS0.out.hbt]; rfl
    have q2 : wc.cell? ⟨br, 0, none⟩ = some (.bool false) := by rw [cell_of HS0.out.hr, List.getElem?_toArray, List.getElem?_replicate, if_pos (by omega)]
    have q3 : wc.frozen? ⟨br, 0, none⟩ = false := frozen_of HS0.out.hr _
    clear hlt1 h0 h1 h2 h3 h4 h5 h6 h7 h8 h9 h10
    go_wp2_with fail
    obtain ⟨bd, hbd⟩ : ∃ bd, bd = wc.heap.size := ⟨_, rfl⟩
    rw [← hbd] at HS ⊢
    have HNE := Lib.hid HS.out.nes
    clear hbd HS0 l1 l2 n1 q1 q2 q3
    go_loopw [11] (fun i wr => ∃ (k : Nat) (ofs : List Value) (R D : List Bool), k ≤ n ∧ i = .int .i64 k ∧ Hid (SI w wr (.slice (some ⟨b, off, none⟩) np0 cap) (.string s) (.bool inn) (.slice ao no co) (.slice ap np cp) (.slice ar nr cr) (.slice al1 nl cl1) (.slice (some ⟨cb, coff, none⟩) n cc) (.slice an1 nn cn1) (.slice an 0 cn) (.slice aa 0 ca) (.slice al 0 cl) bo br bd bt n T ofs R D)) (fun i wr => unmW (wr.heap[bd]?) * (n + 1) + (n - (intOf i).toNat))
    case atStart => exact ⟨0, _, _, _, Nat.zero_le _, rfl, HS⟩
    case round =>
      obtain ⟨k, ofs, R, D, hk, rfl, HI⟩ := hrel
      have t0 : wr.cell? ⟨bt, 0, none⟩ = some (.slice (some ⟨bo, 0, none⟩) n n) := by rw [cell_of HI.out.hbt]; rfl
      have t1 : wr.cell? ⟨bt, 1, none⟩ = some (.slice (some ⟨br, 0, none⟩) n n) := by rw [cell_of HI.out.hbt]; rfl
      by_cases hlt : k < n
      · have hkR : k < R.length := by rw [HI.out.l2]; exact hlt
        have hkD : k < D.length := by rw [HI.out.l3]; exact hlt
        obtain ⟨rk, hrk⟩ : ∃ m, R[k]? = some m := ⟨_, List.getElem?_eq_getElem hkR⟩
        obtain ⟨dk, hdk⟩ : ∃ m, D[k]? = some m := ⟨_, List.getElem?_eq_getElem hkD⟩
        have cr : wr.cell? ⟨br, k, none⟩ = some (.bool rk) := by rw [cell_of HI.out.hr]; simp [hrk]
        have cd : wr.cell? ⟨bd, k, none⟩ = some (.bool dk) := by rw [cell_of HI.out.hd]; simp [hdk]
        have HRK := Lib.hid hrk
        have HDK := Lib.hid hdk
        clear hrk hdk hkR hkD
        cases rk with
        | false =>
          go_wp2_with fail
          go_roundw
          case rel => exact ⟨k + 1, _, _, _, by omega, by go_num, HI⟩
          case measure => simp [intOf] <;> omega
        | true =>
          cases dk with
          | true =>
            go_wp2_with fail
            go_roundw
            case rel => exact ⟨k + 1, _, _, _, by omega, by go_num, HI⟩
            case measure => simp [intOf] <;> omega
          | false =>
            have fd : wr.frozen? ⟨bd, k, none⟩ = false := frozen_of HI.out.hd _
            go_upto_region 11 with fail
            have HI1 := Lib.hid (HI.out.setD k)
            have HUN : Hid (unm (D.set k true) + 1 = unm D) := unm_set HDK.out
            generalize wr.setCell ⟨bd, k, none⟩ (.bool true) = w1 at *
            clear t0 t1 cr cd fd
            have a0 := HI1.out.pbx
            have a1 : w1.cell? ⟨bt, 0, none⟩ = some (.slice (some ⟨bo, 0, none⟩) n n) := by rw [cell_of HI1.out.hbt]; rfl
            obtain ⟨v3, hv3⟩ : ∃ m, ofs[k]? = some m := ⟨_, List.getElem?_eq_getElem (by rw [HI1.out.l1]; exact hlt)⟩
            have a2 : w1.cell? ⟨bo, k, none⟩ = some v3 := by rw [cell_of HI1.out.hof]; simpa using hv3
            have hiv : IV w1 v3 (T k) := HI1.out.iv k v3 HRK.out hv3
            have HIV := Lib.hid hiv
            have HKS : Hid (∀ W0 W1, Below W0.heap.size W0 W1 → Below w1.heap.size w1 W0 → W1.cell? ⟨w.heap.size, 0, none⟩ = some (.slice (some ⟨b, off, none⟩) np0 cap) ∧ W1.cell? ⟨bt, 0, none⟩ = some (.slice (some ⟨bo, 0, none⟩) n n) ∧ W1.cell? ⟨bo, k, none⟩ = some v3) := fun W0 W1 hb1 hb0 => by
              have h := (HI1.out.bel hb0).bel hb1
              exact ⟨h.pbx, by rw [cell_of h.hbt]; rfl, by rw [cell_of h.hof]; simpa using hv3⟩
            clear hv3 hiv
            go_cut [12, 13] from 56 to 67 (fun s12 s13 wx => s13 = .int .i64 0 ∧ Hid (IV wx s12 (out k)) ∧ Hid (SI w wx (.slice (some ⟨b, off, none⟩) np0 cap) (.string s) (.bool inn) (.slice ao no co) (.slice ap np cp) (.slice ar nr cr) (.slice al1 nl cl1) (.slice (some ⟨cb, coff, none⟩) n cc) (.slice an1 nn cn1) (.slice an 0 cn) (.slice aa 0 ca) (.slice al 0 cl) bo br bd bt n T ofs R (D.set k true)))
            case first =>
              go_region_held3 (fun w' => w'.cell? ⟨w.heap.size, 0, none⟩ = some (.slice (some ⟨b, off, none⟩) np0 cap) ∧ w'.cell? ⟨bt, 0, none⟩ = some (.slice (some ⟨bo, 0, none⟩) n n) ∧ w'.cell? ⟨bo, k, none⟩ = some v3) (first | exact ⟨a0, a1, a2⟩ | exact HKS.out _ _ HB2.out (by repeat (first | with_reducible exact Below.refl _ _ | with_reducible refine Below.drew ?_ | with_reducible refine Below.drewN ?_ _)) | go_keep)
                ((go_at_call 59; refine (H59.out k v3 _ hlt (Below.trans HI1.out.bl (by repeat (first | with_reducible exact Below.refl _ _ | with_reducible refine Below.drew ?_ | with_reducible refine Below.drewN ?_ _))) (HIV.out.bel (by repeat (first | with_reducible exact Below.refl _ _ | with_reducible refine Below.drew ?_ | with_reducible refine Below.drewN ?_ _)))).mono ?_; rintro e w2 ⟨v12, rfl, hi12, hb12⟩; have HI12 := Lib.hid hi12; have HB2 := Lib.hid hb12; clear hi12 hb12))
              all_goals
                go_wp2_with fail
                go_meet
                exact ⟨rfl, HI12.out, (HI1.out.bel (Below.drew (Below.refl _ _))).bel HB2.out⟩
            case rest =>
              obtain ⟨rfl, HI12, HI2⟩ := hcut
              obtain ⟨ys, hys⟩ : ∃ ys, ys = nextOf (code[k]!).1 (code[k]!).2 k := ⟨_, rfl⟩
              have HYS := Lib.hid hys
              have hyl : ys.length ≤ 2 := by rw [hys]; exact next_le _ _ _
              have H60k : Hid (∀ W, Below w.heap.size w W → Calls Try.prog 60 #[.agg #[.string s, .bool inn, .slice ao no co, .slice ap np cp, .slice ar nr cr, .slice al1 nl cl1, .slice (some ⟨cb, coff, none⟩) n cc, .slice an1 nn cn1, .slice an 0 cn, .slice aa 0 ca, .slice al 0 cl], .int .i64 k] W (RowPost ys W)) := by rw [hys]; exact fun W hb => H60.out k W hlt hb
              clear hys a0 a1 a2 HIV HKS
              go_upto_region 14 with fail
              obtain ⟨gl, g0, g1, g2, g3, g4, g5, g6, g7, g8, g9, g10⟩ := HI2.out.box
              have HKB : Hid (∀ W, Below wc.heap.size wc W → W.cell? ⟨w.heap.size + 1 + 1, 0, none⟩ = some (.string s) ∧ W.cell? ⟨w.heap.size + 1 + 1, 1, none⟩ = some (.bool inn) ∧ W.cell? ⟨w.heap.size + 1 + 1, 2, none⟩ = some (.slice ao no co) ∧ W.cell? ⟨w.heap.size + 1 + 1, 3, none⟩ = some (.slice ap np cp) ∧ W.cell? ⟨w.heap.size + 1 + 1, 4, none⟩ = some (.slice ar nr cr) ∧ W.cell? ⟨w.heap.size + 1 + 1, 5, none⟩ = some (.slice al1 nl cl1) ∧ W.cell? ⟨w.heap.size + 1 + 1, 6, none⟩ = some (.slice (some ⟨cb, coff, none⟩) n cc) ∧ W.cell? ⟨w.heap.size + 1 + 1, 7, none⟩ = some (.slice an1 nn cn1) ∧ W.cell? ⟨w.heap.size + 1 + 1, 8, none⟩ = some (.slice an 0 cn) ∧ W.cell? ⟨w.heap.size + 1 + 1, 9, none⟩ = some (.slice aa 0 ca) ∧ W.cell? ⟨w.heap.size + 1 + 1, 10, none⟩ = some (.slice al 0 cl)) := fun W hb => (HI2.out.box.bel hb).conj
              clear H60 gl
              go_cut [14] from 73 to 79 (fun s14 wx => ∃ A c, s14 = .slice A ys.length c ∧ Hid (IV wx (.slice A ys.length c) ys) ∧ Hid (IV wx u12 (out k)) ∧ Hid (SI w wx (.slice (some ⟨b, off, none⟩) np0 cap) (.string s) (.bool inn) (.slice ao no co) (.slice ap np cp) (.slice ar nr cr) (.slice al1 nl cl1) (.slice (some ⟨cb, coff, none⟩) n cc) (.slice an1 nn cn1) (.slice an 0 cn) (.slice aa 0 ca) (.slice al 0 cl) bo br bd bt n T ofs R (D.set k true)))
              case first =>
                go_region_held3 (fun W => W.cell? ⟨w.heap.size + 1 + 1, 0, none⟩ = some (.string s) ∧ W.cell? ⟨w.heap.size + 1 + 1, 1, none⟩ = some (.bool inn) ∧ W.cell? ⟨w.heap.size + 1 + 1, 2, none⟩ = some (.slice ao no co) ∧ W.cell? ⟨w.heap.size + 1 + 1, 3, none⟩ = some (.slice ap np cp) ∧ W.cell? ⟨w.heap.size + 1 + 1, 4, none⟩ = some (.slice ar nr cr) ∧ W.cell? ⟨w.heap.size + 1 + 1, 5, none⟩ = some (.slice al1 nl cl1) ∧ W.cell? ⟨w.heap.size + 1 + 1, 6, none⟩ = some (.slice (some ⟨cb, coff, none⟩) n cc) ∧ W.cell? ⟨w.heap.size + 1 + 1, 7, none⟩ = some (.slice an1 nn cn1) ∧ W.cell? ⟨w.heap.size + 1 + 1, 8, none⟩ = some (.slice an 0 cn) ∧ W.cell? ⟨w.heap.size + 1 + 1, 9, none⟩ = some (.slice aa 0 ca) ∧ W.cell? ⟨w.heap.size + 1 + 1, 10, none⟩ = some (.slice al 0 cl)) (first | exact ⟨g0, g1, g2, g3, g4, g5, g6, g7, g8, g9, g10⟩ | exact HKB.out _ HBC4.out | exact HKB.out _ HBC3.out | exact HKB.out _ HBC2.out | go_keep)
                  ((first
                    | (go_at_call 60; refine (H60k.out _ (Below.trans HI2.out.bl (Below.mono (by repeat (first | with_reducible exact Below.refl _ _ | with_reducible refine Below.drew ?_ | with_reducible refine Below.drewN ?_ _)) HI2.out.bl.size))).mono ?_; rintro e w2 ⟨v14, rfl, ho14, hb14⟩; have HO2 := Lib.hid ho14; have HBC2 : Hid (Below wc.heap.size wc w2) := Below.trans (by repeat (first | with_reducible exact Below.refl _ _ | with_reducible refine Below.drew ?_ | with_reducible refine Below.drewN ?_ _)) hb14; clear ho14 hb14)
                    | (go_at_call 61; refine (H61.out k _ hlt (Below.trans HI2.out.bl (Below.mono HBC2.out HI2.out.bl.size))).mono ?_; rintro e w3 ⟨rfl, hb15⟩; have HO3 := Lib.hid (owns_of_block HO2.out (fun j hj => hb15.block j (HO2.out.lt j hj).2)); have HBC3 : Hid (Below wc.heap.size wc w3) := HBC2.out.trans (hb15.mono HBC2.out.size); clear hb15)
                    | (refine step_append_any _ rfl (.tmp 75) (.tmp 78) 22 rfl wc.heap.size 3 i0 (.int .i64 0) 1 8 Try.underlying22 hi hz0 hz1 hz2 rfl (by decide) v14 ys.length _ (by rfl) (by exact HO3.out) 0 none 0 0 [] (by rfl) Reads.none_ (by simp) (by unfold maxLen; omega) (by omega) (by exact HBC3.out.size) ?_; intro v16 w4 hown4 hg4 _; have HO4 := Lib.hid hown4; have HBC4 : Hid (Below wc.heap.size wc w4) := HBC3.out.grown hg4 HBC3.out.size (fun j hj => (HO3.out.lt j hj).1); clear hown4 hg4)))
                all_goals
                  go_wp2_with fail
                  go_meet
                  have hiv4 : IV w4 v16 ys := iv_of_owned (base := wc.heap.size) (e := 3) (by simpa using HO4.out) (by simp only [maxLen]; omega)
                  obtain ⟨A, c, rfl, -⟩ := id hiv4
                  exact ⟨A, c, rfl, hiv4, HI12.out.bel HBC4.out, HI2.out.bel HBC4.out⟩
              case rest =>
                obtain ⟨Ay, cy, rfl, HIY, HI12', HI3⟩ := hcut
                go_wp2_with fail
                have HIS : Hid (IV wc (.slice Ay ys.length cy) ys) := HIY
                clear HIY HKB g0 g1 g2 g3 g4 g5 g6 g7 g8 g9 g10
                go_loopw [15, 16] (fun sa si wi => ∃ (j : Nat) (q : Int) (ofs' : List Value) (R' : List Bool), (-1 ≤ q ∧ q ≤ k) ∧ j ≤ ys.length ∧ sa = .int .i64 q ∧ si = .int .i64 j ∧ Hid (IV wi (.slice Ay ys.length cy) ys) ∧ Hid (IV wi u12 (out k)) ∧ Hid (SI w wi (.slice (some ⟨b, off, none⟩) np0 cap) (.string s) (.bool inn) (.slice ao no co) (.slice ap np cp) (.slice ar nr cr) (.slice al1 nl cl1) (.slice (some ⟨cb, coff, none⟩) n cc) (.slice an1 nn cn1) (.slice an 0 cn) (.slice aa 0 ca) (.slice al 0 cl) bo br bd bt n T ofs' R' (D.set k true))) (fun _ si _ => ys.length - (intOf si).toNat)
                case atStart => exact ⟨0, (k : Int), _, _, ⟨by omega, by omega⟩, Nat.zero_le _, rfl, rfl, HIS, HI12', HI3⟩
                case round =>
                  obtain ⟨j, q, ofs', R', ⟨hq1, hq2⟩, hj, rfl, rfl, HIY, HI12w, HI4⟩ := hrel
                  by_cases hjl : j < ys.length
                  · have hjc := HIY.out
                    obtain ⟨_, _, hje, _, _, hjc⟩ := hjc
                    simp only [Value.slice.injEq] at hje
                    obtain ⟨rfl, _, rfl⟩ := hje
                    obtain ⟨yb, yo, rfl, hyb, hyc⟩ := hjc j hjl
                    obtain ⟨i, hyi, hin, hTi⟩ := HNX.out k hlt ys[j] (by have h := HYS.out; rw [← h]; exact List.getElem_mem _)
                    rw [hyi] at hyc
                    have HTI := Lib.hid hTi
                    have hiR : i < R'.length := by rw [HI4.out.l2]; exact hin
                    obtain ⟨ri, hri⟩ : ∃ m, R'[i]? = some m := ⟨_, List.getElem?_eq_getElem hiR⟩
                    obtain ⟨v5, hv5⟩ : ∃ m, ofs'[i]? = some m := ⟨_, List.getElem?_eq_getElem (by rw [HI4.out.l1]; exact hin)⟩
                    have cr : wr.cell? ⟨br, i, none⟩ = some (.bool ri) := by rw [cell_of HI4.out.hr]; simp [hri]
                    have co : wr.cell? ⟨bo, i, none⟩ = some v5 := by rw [cell_of HI4.out.hof]; simpa using hv5
                    have t0 : wr.cell? ⟨bt, 0, none⟩ = some (.slice (some ⟨bo, 0, none⟩) n n) := by rw [cell_of HI4.out.hbt]; rfl
                    have t1 : wr.cell? ⟨bt, 1, none⟩ = some (.slice (some ⟨br, 0, none⟩) n n) := by rw [cell_of HI4.out.hbt]; rfl
                    have HV5 := Lib.hid hv5
                    have HRI := Lib.hid hri
                    clear hjc hyi hTi hiR hri hv5
                    cases ri with
                    | true =>
                      have HW5 : Hid (IV wr v5 (T i)) := HI4.out.iv i v5 HRI.out HV5.out
                      go_wp2_with (go_at_call 26; refine (H26.out i v5 u12 _ hin (by exact HW5.out) (by rw [HTI.out]; exact HI12w.out)).mono ?_; rintro e w5 ⟨rfl, m5, rfl⟩)
                      go_roundw
                      case rel => exact ⟨j + 1, q, _, _, ⟨hq1, hq2⟩, by omega, rfl, by go_num, HIY.out.bel (Below.drewN (Below.refl _ _) _), HI12w.out.bel (Below.drewN (Below.refl _ _) _), HI4.out.bel (Below.drewN (Below.refl _ _) _)⟩
                      case measure => simp [intOf] <;> omega
                    | false =>
                      have fr : wr.frozen? ⟨br, i, none⟩ = false := frozen_of HI4.out.hr _
                      go_upto_region 26 with fail
                      obtain ⟨wj, hwj⟩ : ∃ wj, wj = wr.setCell ⟨br, i, none⟩ (.bool true) := ⟨_, rfl⟩
                      rw [← hwj]
                      have hnb : bo ≠ br := HNE.out.1.1
                      have hnt : bt ≠ br := fun e => HNE.out.2.1.2 e.symm
                      have u0 : wj.cell? ⟨bt, 0, none⟩ = some (.slice (some ⟨bo, 0, none⟩) n n) := by rw [hwj, World.cell?_of_block (a := ⟨bt, 0, none⟩) (Below.heap_setCell _ _ _ bt hnt)]; exact t0
                      have u1 : wj.cell? ⟨bo, i, none⟩ = some v5 := by rw [hwj, World.cell?_of_block (a := ⟨bo, i, none⟩) (Below.heap_setCell _ _ _ bo hnb)]; exact co
                      have u2 : wj.frozen? ⟨bo, i, none⟩ = false := by rw [hwj, World.frozen?_of_block (a := ⟨bo, i, none⟩) (Below.heap_setCell _ _ _ bo hnb)]; exact frozen_of HI4.out.hof _
                      have HWJ := Lib.hid hwj
                      clear hwj t0 t1 cr co fr hnb hnt hyc
                      have HMK : Hid (SI w (wj.setCell ⟨bo, i, none⟩ u12) (.slice (some ⟨b, off, none⟩) np0 cap) (.string s) (.bool inn) (.slice ao no co) (.slice ap np cp) (.slice ar nr cr) (.slice al1 nl cl1) (.slice (some ⟨cb, coff, none⟩) n cc) (.slice an1 nn cn1) (.slice an 0 cn) (.slice aa 0 ca) (.slice al 0 cl) bo br bd bt n T (ofs'.set i u12) (R'.set i true) (D.set k true)) := by rw [HWJ.out]; exact HI4.out.mark i u12 (by rw [HTI.out]; exact HI12w.out)
                      have HMY : Hid (IV (wj.setCell ⟨bo, i, none⟩ u12) (.slice (some ⟨yb, yo, none⟩) ys.length cy) ys) := by rw [HWJ.out]; exact HI4.out.ivmark i u12 _ _ HIY.out
                      have HM12 : Hid (IV (wj.setCell ⟨bo, i, none⟩ u12) u12 (out k)) := by rw [HWJ.out]; exact HI4.out.ivmark i u12 _ _ HI12w.out
                      obtain ⟨A12, n12, c12, rfl⟩ : ∃ A m c, u12 = .slice A m c := by obtain ⟨a, c, h, _⟩ := HI12w.out; exact ⟨_, _, _, h⟩
                      by_cases hqi : (i : Int) - 1 < q
                      · go_wp2_with fail
                        go_roundw
                        case rel => exact ⟨j + 1, (i : Int) - 1, _, _, ⟨by omega, by omega⟩, by omega, rfl, by go_num, HMY, HM12, HMK⟩
                        case measure => simp [intOf] <;> omega
                      · go_wp2_with fail
                        go_roundw
                        case rel => exact ⟨j + 1, q, _, _, ⟨hq1, hq2⟩, by omega, rfl, by go_num, HMY, HM12, HMK⟩
                        case measure => simp [intOf] <;> omega
                  · go_wp2_with fail
                    go_roundw
                    case rel => exact ⟨(q + 1).toNat, _, _, _, by omega, by rw [Int.toNat_of_nonneg (by omega)], HI4⟩
                    case measure =>
                      rw [HI4.out.hd, HI.out.hd, unmW_eq, unmW_eq, ← HUN.out, Nat.add_mul, Nat.one_mul]
                      generalize unm (D.set k true) * (n + 1) = M
                      simp only [intOf]
                      omega
      · have r0 : wr.cell? ⟨w.heap.size + 1, 0, none⟩ = some (.slice none 0 0) := by rw [cell_of HI.out.rb]; rfl
        have r1 : wr.cell? ⟨w.heap.size + 1, 1, none⟩ = some (.slice none 0 0) := by rw [cell_of HI.out.rb]; rfl
        have r2 : wr.frozen? ⟨w.heap.size + 1, 0, none⟩ = false := frozen_of HI.out.rb _
        have r3 : wr.frozen? ⟨w.heap.size + 1, 1, none⟩ = false := frozen_of HI.out.rb _
        go_wp2_with fail
        exact bodyPost_ret (v := .tuple #[.agg #[.slice (some ⟨bo, 0, none⟩) n n, .slice (some ⟨br, 0, none⟩) n n], .int .i64 0, .int .i64 0]) (by simp [results, Try.results40, go_sem, r0, r1]) rfl ⟨_, _, _, _, _, _, rfl, (HI.out.bl.setCell (by simp) _).setCell (by simp) _⟩
end Go.Proofs.Ythaniobijkdnoaa
