/- Unlike answers whether no name stands twice. No condition but on lengths. -/
import Derived.Test.YtobcjliibahdeaaC
namespace Go.Proofs.Ytobcjliibahdeaa
open Go.RowKit Go.Maps

theorem drop_cn (ls : List ByteArray) (k : Nat) (hk : k < ls.length) (s : ByteArray) : cn (ls.drop k) s = if ls[k] = s then cn (ls.drop (k + 1)) s + 1 else cn (ls.drop (k + 1)) s := by
  rw [List.drop_eq_getElem_cons hk, cn_cons]
theorem unl_false_of {ls : List ByteArray} {k : Nat} (hk : k < ls.length) (h : 1 < cn (ls.drop k) ls[k]) : unl ls = false := by
  rw [drop_cn ls k hk, if_pos rfl] at h
  have hm : ls[k] ∈ ls.drop (k + 1) := cn_pos.1 (by omega)
  obtain ⟨j, hj, he⟩ := List.getElem_of_mem hm
  rw [unl, decide_eq_false_iff_not]
  intro hnd
  rw [List.Nodup, List.pairwise_iff_getElem] at hnd
  have hj' : k + 1 + j < ls.length := by simp at hj; omega
  refine hnd k (k + 1 + j) hk hj' (by omega) ?_
  rw [← he, List.getElem_drop]
theorem unl_true_of {ls : List ByteArray} (h : ∀ j (hj : j < ls.length), cn (ls.drop (j + 1)) ls[j] = 0) : unl ls = true := by
  rw [unl, decide_eq_true_eq, List.Nodup, List.pairwise_iff_getElem]
  intro i j hi hj hij e
  have h0 := h i hi
  have hm : ls[i] ∈ ls.drop (i + 1) := by
    rw [e]
    rw [List.mem_iff_getElem]
    exact ⟨j - (i + 1), by simp; omega, by rw [List.getElem_drop]; congr 1; omega⟩
  have := cn_pos.2 hm
  omega

def UnlP (ls : List ByteArray) (w : World) (e : Ending) (w' : World) : Prop := e = .returned (.bool (unl ls)) ∧ Below w.heap.size w w'
theorem ulp_no {ls : List ByteArray} {w w' : World} (h : unl ls = false) (hb : Below w.heap.size w w') : UnlP ls w (.returned (.bool false)) w' := ⟨by rw [h], hb⟩
theorem ulp_yes {ls : List ByteArray} {w w' : World} (h : unl ls = true) (hb : Below w.heap.size w w') : UnlP ls w (.returned (.bool true)) w' := ⟨by rw [h], hb⟩

set_option maxHeartbeats 1000000 in
theorem unlike_any (ls : List ByteArray) (v : Value) (w : World) (hv : SV w v ls) (hl : ls.length ≤ 1000000) : Calls Try.prog 11 #[v] w (UnlP ls w) := by
  have H18 := Lib.hid (met_any ls v w hv hl)
  obtain ⟨a, cap, rfl, hmx, hc⟩ := hv
  have HM := Lib.hid hmx
  have HC := Lib.hid hc
  obtain ⟨n, hn⟩ : ∃ n, n = ls.length := ⟨_, rfl⟩
  rw [← hn] at hl H18 ⊢
  have HN := Lib.hid hn
  clear hc hn hmx
  go_enter Try.func11, Try.ntmps11
  go_wp2_with fail
  refine H18.out.mono ?_
  rintro e wm ⟨B, rfl, hB, hom, hbm⟩
  have HOM := Lib.hid hom
  have HBM := Lib.hid hbm
  clear hom hbm
  go_wp2
  go_loopw [10] (fun i wr => ∃ k : Nat, k ≤ n ∧ i = .int .i64 k ∧ Hid (OM wr B ls.length (cn (ls.drop k))) ∧ Hid (Below w.heap.size w wr) ∧ Hid (∀ j (hj : j < ls.length), j < k → cn (ls.drop (j + 1)) ls[j] = 0)) (fun i _ => n - (intOf i).toNat)
  case atStart => exact ⟨0, Nat.zero_le _, rfl, HOM.out, HBM.out, fun j hj h => by omega⟩
  case round =>
    obtain ⟨k, hk, rfl, HO, HB, HK⟩ := hrel
    obtain ⟨D, hown, hcnt⟩ := HO.out
    by_cases hlt : k < n
    · have hkl : k < ls.length := by have := HN.out; omega
      obtain ⟨b, off, rfl, hb, hcell⟩ := HC.out k hkl
      have hcell' : ∃ x, Hid (x = ls[k]) ∧ x.size ≤ maxLen ∧ wr.cell? ⟨b, off + k, none⟩ = some (.string x) := ⟨_, rfl, HM.out _ (List.getElem_mem _), (HB.out.cell (p := ⟨b, off + k, none⟩) hb).trans hcell⟩
      obtain ⟨x, HX, hxm, hcellx⟩ := hcell'
      have HCN := Lib.hid hcnt
      obtain ⟨c0, hc0⟩ : ∃ c0, c0 = cn (ls.drop k) x := ⟨_, rfl⟩
      have hat0 : D.atKey (kl x) (.lit (.int .i64 0)) = .lit (.int .i64 (c0 : Int)) := by rw [hc0]; exact hcnt.1 x
      have HAT := Lib.hid hat0
      have HC0 := Lib.hid hc0
      clear hcell hcnt hat0 hc0
      by_cases hgt : 1 < c0
      · have hgt' : (1 : Int) < (c0 : Int) := by omega
        go_wp2_with (first
          | (at_lookup; refine wpList_lookup_own_int _ rfl _ _ 30 rfl 9 3 .i64 law Try.underlying30 Try.underlying3 (zero3 _) B ls.length _ rfl hown _ _ rfl (hkey hxm) ?_; intro c hat hwc; obtain rfl : c = (c0 : Int) := (by have h := hat.symm.trans HAT.out; injection h with h; injection h); clear hat hwc))
        go_ret
        exact ulp_no (unl_false_of hkl (by rw [← HX.out, ← HC0.out]; exact hgt)) HB.out
      · have hgt' : ¬ (1 : Int) < (c0 : Int) := by omega
        go_wp2_with (first
          | (at_lookup; refine wpList_lookup_own_int _ rfl _ _ 30 rfl 9 3 .i64 law Try.underlying30 Try.underlying3 (zero3 _) B ls.length _ rfl hown _ _ rfl (hkey hxm) ?_; intro c hat hwc; obtain rfl : c = (c0 : Int) := (by have h := hat.symm.trans HAT.out; injection h with h; injection h); clear hat hwc)
          | (at_delete; refine wpList_delete_own _ rfl _ _ 30 9 rfl 3 law Try.underlying30 _ B ls.length _ rfl hown _ _ rfl (hkey hxm) ?_; intro w1 hown1 hturn1; have HO1 := Lib.hid hown1; have HT1 := Lib.hid hturn1.grown; clear hown1 hturn1))
        go_roundw
        case rel =>
          have hz : cn (ls.drop (k + 1)) ls[k] = 0 := by
            have h := HC0.out
            rw [HX.out, drop_cn ls k hkl, if_pos rfl] at h
            omega
          refine ⟨k + 1, by omega, by go_num, ⟨_, HO1.out, ?_⟩, HB.out.grown HT1.out HB.out.size (fun j hj => by cases hj; exact hB), fun j hj hjk => ?_⟩
          · refine Cnt.congr (HCN.out.del x) (fun s => ?_)
            unfold upd
            by_cases e : s = x
            · rw [if_pos e, e, HX.out, hz]
            · rw [if_neg e, drop_cn ls k hkl, if_neg (by rw [← HX.out]; exact fun h => e h.symm)]
          · rcases Nat.lt_or_ge j k with h | h
            · exact HK.out j hj h
            · obtain rfl : j = k := by omega
              exact hz
        case measure => simp [intOf] <;> omega
    · have hkn : k = ls.length := by have := HN.out; omega
      have hs0 : Maps.size D = 0 := hcnt.size0 (fun s => by rw [hkn, List.drop_length]; rfl) (hown.entries law)
      have HS := Lib.hid hs0
      have HKN := Lib.hid hkn
      have hs1 : ((Maps.size D : Int) == 0) = true := by rw [hs0]; rfl
      clear hs0 hkn hcnt
      go_wp2_with (first | (at_len; refine wpList_len_own _ rfl _ 30 rfl 9 3 Try.underlying30 _ B ls.length _ rfl hown ?_))
      go_ret
      exact ulp_yes (unl_true_of (fun j hj => HK.out j hj (by have := HKN.out; omega))) HB.out
end Go.Proofs.Ytobcjliibahdeaa
