/- The slots of a function, as lot asks for them. Conditions: lists that are not too long. -/
import Derived.Test.YthaniobijkdnoaaLD
namespace Go.Proofs.Ythaniobijkdnoaa
open Go.RowKit

def cat3 (ps rs ls : List Int) : Nat → List Int
  | 0 => []
  | 1 => ps
  | 2 => ps ++ rs
  | _ => ps ++ rs ++ ls
set_option maxRecDepth 100000 in
set_option maxHeartbeats 2000000 in
theorem join_walk (w : World) (B : Nat) (ps rs ls : List Int) (hp : ps.length ≤ 100000) (hr : rs.length ≤ 100000) (hl : ls.length ≤ 100000)
    (HL : Hid (∀ k, k < 3 → ∃ A n c l, w.cell? ⟨B, k, none⟩ = some (.slice A n c) ∧ n = l.length ∧ cat3 ps rs ls (k + 1) = cat3 ps rs ls k ++ l ∧ l.length ≤ 100000 ∧ ∀ W, Below w.heap.size w W → Reads W W.heap.size 1 A n (l.map (Value.int .i64)))) (hB : B < w.heap.size) :
    Calls Try.prog 69 #[.slice (some ⟨B, 0, none⟩) 3 3] w (RowT 59 (ps ++ rs ++ ls) w) := by
  obtain ⟨i0, hi, hz0, hz1, hz2⟩ := info_parts inf59
  go_enter Try.func69, Try.ntmps69
  go_wp2
  go_loopw [3, 8] (fun v i wr => ∃ k : Nat, k ≤ 3 ∧ i = .int .i64 k ∧ Hid (wr.ownsRow w.heap.size 59 1 v (cat3 ps rs ls k).length ((cat3 ps rs ls k).map (Value.int .i64))) ∧ Hid (Below w.heap.size w wr)) (fun _ i _ => 3 - (intOf i).toNat)
  case atStart => exact ⟨0, by omega, rfl, World.ownsRow_nil _ _ _ _, Below.refl _ _⟩
  case round =>
    obtain ⟨k, hk, rfl, HO, HB⟩ := hrel
    by_cases hlt : k < 3
    · obtain ⟨A, n, cc, l, hc0, hn, hcat, hll, hrd⟩ := HL.out k hlt
      have hc : wr.cell? ⟨B, k, none⟩ = some (.slice A n cc) := (HB.out.cell (p := ⟨B, k, none⟩) hB).trans hc0
      have HRD := Lib.hid (hrd wr HB.out)
      have HCAT := Lib.hid hcat
      have hz : w.heap.size ≤ wr.heap.size := HB.out.size
      have hlen : (cat3 ps rs ls k).length ≤ 300000 := by
        match k, hlt with
        | 0, _ => simp [cat3]
        | 1, _ => simp only [cat3]; omega
        | 2, _ => simp only [cat3, List.length_append]; omega
      have HN := Lib.hid hn
      have hn2 : n ≤ 100000 := by omega
      obtain ⟨cs, hcs⟩ : ∃ cs, cs = cat3 ps rs ls k := ⟨_, rfl⟩
      rw [← hcs] at hlen HO HCAT
      clear hc0 hrd hcat hn hll hcs HL
      go_wp2_with ((at_builtin; refine wpList_append_any _ rfl _ _ 29 rfl w.heap.size 59 i0 (.int .i64 0) 1 8 Try.underlying29 hi hz0 hz1 hz2 rfl (by decide) _ _ _ rfl HO.out _ A n cc _ rfl HRD.out (ints_one _) (by unfold maxLen; omega) (by omega) hz ?_; intro v1 w1 hown1 hg1 _; have HO1 := Lib.hid hown1; have HB1 : Hid (Below w.heap.size w w1) := HB.out.grown hg1 hz (fun j hj => (HO.out.lt j hj).1); clear hown1 hg1))
      go_roundw
      case rel => exact ⟨k + 1, by omega, by go_num, by rw [HCAT.out, List.length_append, List.map_append, ← HN.out]; exact HO1.out, HB1.out⟩
      case measure => simp [intOf] <;> omega
    · obtain rfl : k = 3 := by omega
      go_wp2
      go_ret
      exact ⟨_, rfl, HO.out, HB.out⟩

set_option maxRecDepth 100000 in
set_option maxHeartbeats 2000000 in
theorem sigSlots_walk (w : World) (s : ByteArray) (inn : Bool) (vo vc vn c8 c9 c10 : Value) (ap ar al : Option Addr) (cp cr cl : Nat) (ps rs ls : List Int)
    (HP : Hid (∀ W, Below w.heap.size w W → Reads W W.heap.size 1 ap ps.length (ps.map (Value.int .i64)))) (HR : Hid (∀ W, Below w.heap.size w W → Reads W W.heap.size 1 ar rs.length (rs.map (Value.int .i64)))) (HL : Hid (∀ W, Below w.heap.size w W → Reads W W.heap.size 1 al ls.length (ls.map (Value.int .i64))))
    (hp : ps.length ≤ 100000) (hr : rs.length ≤ 100000) (hl : ls.length ≤ 100000) :
    Calls Try.prog 42 #[.agg #[.string s, .bool inn, vo, .slice ap ps.length cp, .slice ar rs.length cr, .slice al ls.length cl, vc, vn, c8, c9, c10]] w (RowT 59 (ps ++ rs ++ ls) w) := by
  have H69 : Hid (∀ W, Below w.heap.size w W → w.heap.size + 1 < W.heap.size → W.cell? ⟨w.heap.size + 1, 0, none⟩ = some (.slice ap ps.length cp) → W.cell? ⟨w.heap.size + 1, 1, none⟩ = some (.slice ar rs.length cr) → W.cell? ⟨w.heap.size + 1, 2, none⟩ = some (.slice al ls.length cl) →
      Calls Try.prog 69 #[.slice (some ⟨w.heap.size + 1, 0, none⟩) 3 3] W (RowT 59 (ps ++ rs ++ ls) W)) := fun W hb hz h0 h1 h2 => by
    refine join_walk W (w.heap.size + 1) ps rs ls hp hr hl (fun k hk => ?_) hz
    have tr : ∀ {W'}, Below W.heap.size W W' → Below w.heap.size w W' := fun h => hb.trans (h.mono hb.size)
    match k, hk with
    | 0, _ => exact ⟨ap, _, cp, ps, h0, rfl, rfl, hp, fun W' h => HP.out W' (tr h)⟩
    | 1, _ => exact ⟨ar, _, cr, rs, h1, rfl, rfl, hr, fun W' h => HR.out W' (tr h)⟩
    | 2, _ => exact ⟨al, _, cl, ls, h2, rfl, rfl, hl, fun W' h => HL.out W' (tr h)⟩
  go_enter Try.func42, Try.ntmps42
  go_wp2_with fail
  refine (H69.out _ (((Below.refl _ _).alloc (Nat.le_refl _) _).alloc (by simp) _) (by simp) (by go_simp) (by go_simp) (by go_simp)).mono ?_
  rintro e w1 ⟨v, rfl, ho, hb⟩
  have HO := Lib.hid ho
  have HB : Hid (Below w.heap.size w w1) := Below.trans (((Below.refl _ _).alloc (Nat.le_refl _) _).alloc (by simp) _) (hb.mono (by simp; omega))
  have hz : ∀ k, v.ownBlock = some k → w.heap.size ≤ k := fun k hk => by have := (ho.lt k hk).1; simp at this; omega
  have HZ := Lib.hid hz
  clear ho hb hz
  go_wp2_with fail
  go_ret
  exact ⟨_, rfl, owns_base HO.out HZ.out, HB.out⟩

theorem slots_mk {c : Cx} {s : St} {g : Gh} {w : World} (hc : CxOk c) (h : MK c s g w) (hl : s.locals.length ≤ 100000) :
    Calls Try.prog 42 #[.agg #[.string c.name, .bool c.inner, c.vo, c.vp, c.vr, g.ov, g.cv, g.lv, .slice none 0 0, .slice none 0 0, .slice none 0 0]] w (RowT 59 (Lot.slots c.kn s) w) := by
  have hp := hc.vp w h.ch
  have hr := hc.vr w h.ch
  have ho : IV w g.ov s.locals := iv_of_owned h.lo (by simp only [maxLen]; omega)
  obtain ⟨ap, cp, ep, -⟩ := reads_of_iv hp
  obtain ⟨ar, cr, er, -⟩ := reads_of_iv hr
  obtain ⟨al, cl, el, -⟩ := reads_of_iv ho
  rw [ep] at hp ⊢
  rw [er] at hr ⊢
  rw [el] at ho ⊢
  exact sigSlots_walk w c.name c.inner c.vo g.cv g.lv _ _ _ ap ar al cp cr cl c.kn.params c.kn.results s.locals (fun W hb => (reads_slice (hp.bel hb)).2) (fun W hb => (reads_slice (hr.bel hb)).2) (fun W hb => (reads_slice (ho.bel hb)).2) (by have := hc.lp; omega) (by have := hc.lr; omega) hl
end Go.Proofs.Ythaniobijkdnoaa
