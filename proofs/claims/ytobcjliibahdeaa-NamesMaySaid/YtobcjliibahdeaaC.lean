/- met makes a map that counts each name; Unlike answers whether no name stands twice. No condition but on lengths. -/
import Derived.Test.YtobcjliibahdeaaB
import Derived.Maps.Range
namespace Go.Proofs.Ytobcjliibahdeaa
open Go.RowKit Go.Maps

theorem law : Keyed Try.prog 9 := string_keyed Try.underlying9
theorem zero3 (w : World) : (zeroValue 3).run Try.prog w = .ok (.int .i64 0) w := by kernel_rfl
def kl (s : ByteArray) : Lit := .string s.data.toList
theorem kl_ne {s t : ByteArray} (h : s ≠ t) : kl s ≠ kl t := by
  intro e
  injection e with e
  exact h (Go.WideShapes.bytes_inj e)
theorem hkey {s : ByteArray} (h : s.size ≤ maxLen) : keyOf Try.prog 9 (.string s) = some (kl s) := Go.WideMaps.keyOf_string_mk Try.underlying9 h

def Cnt (D : DataW Unit) (f : ByteArray → Nat) : Prop :=
  (∀ s, D.atKey (kl s) (.lit (.int .i64 0)) = .lit (.int .i64 (f s))) ∧ (∀ s, Maps.has D (kl s) = decide (0 < f s)) ∧ ∀ k, Maps.has D k = true → ∃ s, k = kl s
def upd (f : ByteArray → Nat) (s : ByteArray) (c : Nat) : ByteArray → Nat := fun x => if x = s then c else f x
theorem Cnt.new : Cnt (.map []) (fun _ => 0) := ⟨fun _ => rfl, fun _ => rfl, fun k h => by simp [Maps.has] at h⟩
theorem Cnt.put {D : DataW Unit} {f : ByteArray → Nat} (h : Cnt D f) (hD : IsMap D) (s : ByteArray) (c : Nat) (hc : 0 < c) : Cnt (D.put (kl s) (.lit (.int .i64 c))) (upd f s c) := by
  refine ⟨fun x => ?_, fun x => ?_, fun k hk => ?_⟩
  · by_cases e : x = s
    · subst e; rw [Maps.atKey_put_same hD (show WideAt.IsKeyLit (kl x) from trivial)]; simp [upd]
    · rw [Maps.atKey_put_other (kl_ne e)]; simp only [upd, if_neg e]; exact h.1 x
  · by_cases e : x = s
    · subst e; rw [Maps.has_put_same hD (show WideAt.IsKeyLit (kl x) from trivial)]; simp [upd, hc]
    · rw [Maps.has_put_other (kl_ne e)]; simp only [upd, if_neg e]; exact h.2.1 x
  · by_cases e : k = kl s
    · exact ⟨s, e⟩
    · rw [Maps.has_put_other e] at hk; exact h.2.2 k hk
theorem Cnt.del {D : DataW Unit} {f : ByteArray → Nat} (h : Cnt D f) (s : ByteArray) : Cnt (D.del (kl s)) (upd f s 0) := by
  refine ⟨fun x => ?_, fun x => ?_, fun k hk => ?_⟩
  · by_cases e : x = s
    · subst e; rw [Maps.atKey_del_same]; simp [upd]
    · rw [Maps.atKey_del_other (kl_ne e)]; simp only [upd, if_neg e]; exact h.1 x
  · by_cases e : x = s
    · subst e; rw [Maps.has_del_same]; simp [upd]
    · rw [Maps.has_del_other (kl_ne e)]; simp only [upd, if_neg e]; exact h.2.1 x
  · by_cases e : k = kl s
    · exact ⟨s, e⟩
    · rw [Maps.has_del_other e] at hk; exact h.2.2 k hk
theorem Cnt.size0 {D : DataW Unit} {f : ByteArray → Nat} (h : Cnt D f) (hf : ∀ s, f s = 0) (he : ∃ es, D = .map es ∧ es.Pairwise (fun p q => p.1 ≠ q.1) ∧ ∀ p ∈ es, WideAt.IsKeyLit p.1) : Maps.size D = 0 := by
  obtain ⟨es, rfl, _, hk⟩ := he
  cases es with
  | nil => rfl
  | cons p es =>
    exfalso
    have h1 : Maps.has (.map (p :: es)) p.1 = true := by
      rw [Maps.has_eq]
      have := hk p (by simp)
      simp only [List.any_cons, Bool.or_eq_true]
      left
      revert this
      cases p.1 <;> simp [WideAt.IsKeyLit, Lit.sameKey]
    obtain ⟨s, hs⟩ := h.2.2 _ h1
    rw [hs, h.2.1 s, hf s] at h1
    simp at h1
theorem Cnt.congr {D : DataW Unit} {f g : ByteArray → Nat} (h : Cnt D f) (e : ∀ s, f s = g s) : Cnt D g := by rwa [show f = g from funext e] at h

def cn (ls : List ByteArray) (s : ByteArray) : Nat := (ls.filter (fun x => decide (x = s))).length
theorem cn_snoc (ls : List ByteArray) (x s : ByteArray) : cn (ls ++ [x]) s = upd (cn ls) x (cn ls x + 1) s := by
  unfold cn upd
  rw [List.filter_append, List.length_append]
  by_cases e : s = x
  · subst e; simp
  · simp [e, Ne.symm e]
theorem cn_cons (ls : List ByteArray) (x s : ByteArray) : cn (x :: ls) s = if x = s then cn ls s + 1 else cn ls s := by
  unfold cn
  by_cases e : x = s <;> simp [e]
theorem cn_pos {ls : List ByteArray} {s : ByteArray} : 0 < cn ls s ↔ s ∈ ls := by
  unfold cn
  rw [List.length_pos_iff_exists_mem]
  constructor
  · rintro ⟨x, hx⟩; simp at hx; rw [← hx.2]; exact hx.1
  · intro h; exact ⟨s, by simpa using h⟩
theorem cn_le (ls : List ByteArray) (s : ByteArray) : cn ls s ≤ ls.length := List.length_filter_le _ _

def OM (w : World) (B n : Nat) (f : ByteArray → Nat) : Prop := ∃ D : DataW Unit, w.ownsMap Try.prog 9 (plainElem Try.prog 3) B n D ∧ Cnt D f
theorem OM.bel {w w' : World} {B n : Nat} {f : ByteArray → Nat} (h : OM w B n f) (hb : Below w.heap.size w w') : OM w' B n f := by
  obtain ⟨D, ⟨es, clock, hbb, r⟩, hc⟩ := h
  exact ⟨D, ⟨es, clock, (hb.block B (heap_lt hbb)).trans hbb, r⟩, hc⟩

def MetPost (ls : List ByteArray) (w : World) (e : Ending) (w' : World) : Prop := ∃ B, e = .returned (.map (some B)) ∧ w.heap.size ≤ B ∧ OM w' B ls.length (cn ls) ∧ Below w.heap.size w w'

theorem take_snoc {α : Type} (l : List α) (k : Nat) (h : k < l.length) : l.take (k + 1) = l.take k ++ [l[k]] := by
  rw [List.take_succ_eq_append_getElem h]

set_option maxHeartbeats 1000000 in
theorem met_any (ls : List ByteArray) (v : Value) (w : World) (hv : SV w v ls) (hl : ls.length ≤ 1000000) : Calls Try.prog 18 #[v] w (MetPost ls w) := by
  have HV : Hid (SV w v ls) := hv
  obtain ⟨a, cap, rfl, hmx, hc⟩ := hv
  have HM := Lib.hid hmx
  have HC := Lib.hid hc
  obtain ⟨n, hn⟩ : ∃ n, n = ls.length := ⟨_, rfl⟩
  rw [← hn] at hl ⊢
  have HN := Lib.hid hn
  clear hc hn hmx
  have hmm := @run_makeMap Try.prog
  go_enter Try.func18, Try.ntmps18
  go_wp2
  go_loopw [9] (fun i wr => ∃ k : Nat, k ≤ n ∧ i = .int .i64 k ∧ Hid (OM wr w.heap.size k (cn (ls.take k))) ∧ Hid (Below w.heap.size w wr)) (fun i _ => n - (intOf i).toNat)
  case atStart => exact ⟨0, Nat.zero_le _, rfl, ⟨_, World.ownsMap_made _ _ _ _, Cnt.new⟩, (Below.refl _ _).alloc (Nat.le_refl _) _⟩
  case round =>
    obtain ⟨k, hk, rfl, HO, HB⟩ := hrel
    by_cases hlt : k < n
    · have hkl : k < ls.length := by have := HN.out; omega
      obtain ⟨b, off, rfl, hb, hcell⟩ := HC.out k hkl
      have hcell' : ∃ x, Hid (x = ls[k]) ∧ x.size ≤ maxLen ∧ wr.cell? ⟨b, off + k, none⟩ = some (.string x) := ⟨_, rfl, HM.out _ (List.getElem_mem _), (HB.out.cell (p := ⟨b, off + k, none⟩) hb).trans hcell⟩
      obtain ⟨x, HX, hxm, hcellx⟩ := hcell'
      obtain ⟨D, hown, hcnt⟩ := HO.out
      have HCN := Lib.hid hcnt
      have hle := cn_le (ls.take k) x
      have hlek : cn (ls.take k) x ≤ k := Nat.le_trans hle (by simp; omega)
      have hat0 := hcnt.1 x
      have HAT := Lib.hid hat0
      clear hcell hcnt hle hat0 hmm
      go_wp2_with (first
        | (at_lookup; refine wpList_lookup_own_int _ rfl _ _ 30 rfl 9 3 .i64 law Try.underlying30 Try.underlying3 (zero3 _) w.heap.size k _ rfl hown _ _ rfl (hkey hxm) ?_; intro c hat hwc; obtain rfl : c = (cn (ls.take k) x : Int) := (by have h := hat.symm.trans HAT.out; injection h with h; injection h); clear hat hwc)
        | (at_mapUpdate; refine wpList_mapUpdate_own _ rfl _ _ _ 30 rfl 9 3 law Try.underlying30 _ w.heap.size k _ rfl hown (by unfold maxLen; omega) _ _ _ rfl rfl (hkey hxm) _ [] (plainElem_int Try.underlying3 (WalkArith.wf_i64 (by omega))) ?_; intro w1 hown1 hgrow1; have HO1 := Lib.hid hown1; have HG1 := Lib.hid hgrow1; clear hown1 hgrow1))
      go_roundw
      case rel =>
        have hput := HCN.out.put hown.isMap x (cn (ls.take k) x + 1) (by omega)
        refine ⟨k + 1, by omega, by go_num, ⟨_, HO1.out, ?_⟩, HB.out.grown HG1.out HB.out.size (fun j hj => by cases hj; exact Nat.le_refl _)⟩
        refine Cnt.congr (f := upd (cn (ls.take k)) x (cn (ls.take k) x + 1)) ?_ (fun s => by rw [take_snoc _ _ hkl, cn_snoc, HX.out])
        simpa using hput
      case measure => simp [intOf] <;> omega
    · go_wp2
      go_ret
      have hkn : k = ls.length := by have := HN.out; omega
      have h := HO.out
      rw [hkn, List.take_length] at h
      exact ⟨_, rfl, Nat.le_refl _, h, HB.out⟩
end Go.Proofs.Ytobcjliibahdeaa
