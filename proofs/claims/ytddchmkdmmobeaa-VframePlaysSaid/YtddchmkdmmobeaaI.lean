/- VframePlays answers true over a slice that is not empty. Condition: the slice of calls reads as numbers. -/
import Derived.Test.YtddchmkdmmobeaaH
namespace Go.Proofs.Ytddchmkdmmobeaa
open Go.RowKit

/-- the model of the row and the law's own list, in world wr -/
structure Inv (w wr : World) (vr vl : Value) (ls : List L4) (last : Nat) : Prop where
  row : RowAt wr w.heap.size w.heap.size vr ls last
  lst : Sl wr (w.heap.size + 1) vl ls
  apart : ∀ k, vl.ownBlock = some k → vr.ownBlock ≠ some k
  pos : ∀ x ∈ ls, 1 ≤ x.a
  bel : Below w.heap.size w wr

def BoxAt (w : World) (g : Nat) (o0 o1 o2 o3 : Int) : Prop := w.heap[g]? = some (.cells #[.int .i64 o0, .int .i64 o1, .int .i64 o2, .int .i64 o3] 28 (0, 0))

theorem Inv.alloc {w wr : World} {vr vl : Value} {ls : List L4} {last : Nat} (h : Inv w wr vr vl ls last) (o : Obj) : Inv w (wr.alloc o) vr vl ls last := by
  have hb : Below wr.heap.size wr (wr.alloc o) := (Below.refl _ _).alloc (Nat.le_refl _) _
  exact ⟨h.row.bel hb, owns_bel h.lst hb, h.apart, h.pos, h.bel.trans (hb.mono h.bel.size)⟩
theorem Inv.belo {w wr w' : World} {vr vl : Value} {ls : List L4} {last : Nat} (h : Inv w wr vr vl ls last) (hb : Below wr.heap.size wr w') : Inv w w' vr vl ls last :=
  ⟨h.row.bel hb, owns_bel h.lst hb, h.apart, h.pos, h.bel.trans (hb.mono h.bel.size)⟩

theorem own_empty {X : World} {base H : Nat} (h : X.heap[H]? = some (.cells #[] 31 (0, 0))) (hb : base ≤ H) : X.ownsRow base 31 4 (.slice (some ⟨H, 0, none⟩) 0 0) 0 [] :=
  ⟨rfl, .inr ⟨H, 0, #[], rfl, hb, h, Nat.le_refl _, Nat.zero_le _, rfl, rfl⟩⟩
theorem heap_new1 (w : World) (a b : Obj) : ((w.alloc a).alloc b).heap[w.heap.size + 1]? = some b := by
  have h := heap_new (w.alloc a) b
  rw [World.size_alloc] at h
  exact h
theorem grown_keep {X X' : World} {row : Option Nat} (hg : X.grownBy X' row) : ∀ (E : Nat) (o : Obj), X.heap[E]? = some o → some E ≠ row → X'.heap[E]? = some o := fun E _ h hne => (hg.block E (heap_lt h) hne).trans h
theorem reads_blk {X : World} {E : Nat} {c : List Value} (h : X.heap[E]? = some (.cells c.toArray 31 (0, 0))) (hc : c.length = 1 * 4) : Reads X (E + 1) 4 (some ⟨E, 0, none⟩) 1 c :=
  ⟨hc, fun _ => ⟨_, rfl, Nat.lt_succ_self E, fun j u hu => by
    have hadd : (⟨E, 0, none⟩ : Addr).add j = ⟨E, j, none⟩ := by unfold Addr.add; split <;> simp_all
    rw [hadd, cell_of h]
    simpa using hu⟩⟩
theorem flat_one (ls : List L4) : ∀ u ∈ flat ls, u.oneCell' = true := by
  intro u hu
  obtain ⟨x, _, hx⟩ := List.mem_flatMap.1 hu
  simp [L4.cells] at hx
  rcases hx with rfl | rfl | rfl | rfl <;> rfl

theorem inv_open {w wr w2 X2 : World} {vr vl v5 vr5 : Value} {ls : List L4} {last : Nat} {o1 o2 o3 : Int} {o : Obj} (hI : Inv w wr vr vl ls last)
    (hch : Chg (fun k => k = w.heap.size ∨ vr.ownBlock = some k) (wr.alloc o) w2) (hR : RowAt w2 w.heap.size w.heap.size vr5 (ls ++ [⟨last + 1, o1, o2, o3⟩]) (last + 1)) (hb : Below w2.heap.size w2 X2)
    (ho : X2.ownsRow w2.heap.size 31 4 v5 (0 + ls.length + 1) ([] ++ flat ls ++ [.int .i64 (last + 1), .int .i64 o1, .int .i64 o2, .int .i64 o3])) :
    Inv w X2 vr5 v5 (ls ++ [⟨last + 1, o1, o2, o3⟩]) (last + 1) := by
  have hwr : w.heap.size < wr.heap.size := heap_lt hI.row.1
  have hw2 : wr.heap.size + 1 ≤ w2.heap.size := by have := hch.size; simpa using this
  refine ⟨hR.bel hb, ?_, fun k hk hk' => ?_, fun x hx => ?_, ?_⟩
  · have h2 : Sl X2 w2.heap.size v5 (ls ++ [⟨last + 1, o1, o2, o3⟩]) := Sl.snoc (by simpa using ho)
    exact owns_base h2 (fun k hk => by have := (h2.lt k hk).1; omega)
  · have h1 := (ho.lt k hk).1
    have h2 := (hR.2.1.lt k hk').2
    omega
  · rcases List.mem_append.1 hx with h | h
    · exact hI.pos x h
    · simp at h; subst h; simp; omega
  · refine Below.trans (hI.bel.trans ?_) (hb.mono (by omega))
    refine Below.trans (((Below.refl _ _).alloc (by omega) o)) (hch.below (by simp; omega) (fun k hk h => ?_))
    rcases h with h | h
    · omega
    · have := (hI.row.2.1.lt k h).1; omega
theorem inv_close {w wr w2 : World} {vr vr5 : Value} {ls : List L4} {last : Nat} {x : L4} {A : Option Addr} {n c : Nat} {o : Obj} (hI : Inv w wr vr (.slice A n c) (ls ++ [x]) last)
    (hch : Chg (fun k => k = w.heap.size) (wr.alloc o) w2) (hR : RowAt w2 w.heap.size w.heap.size vr5 ls last) (hv : vr5.ownBlock = vr.ownBlock) :
    Inv w w2 vr5 (.slice A ls.length c) ls last := by
  have hwr : w.heap.size < wr.heap.size := heap_lt hI.row.1
  have hw2 : wr.heap.size + 1 ≤ w2.heap.size := by have := hch.size; simpa using this
  obtain ⟨g, rfl⟩ : ∃ g, A = some ⟨g, 0, none⟩ := by
    rcases Sl.shape hI.lst with ⟨h, _⟩ | ⟨g, cap, h, _⟩
    · simp at h
    · injection h with h1 h2; exact ⟨g, h1⟩
  have htk := Sl.take hI.lst
  have hl2 := hI.lst.lt g rfl
  refine ⟨hR, ?_, fun k hk => ?_, fun y hy => hI.pos y (List.mem_append_left _ hy), ?_⟩
  · refine owns_of_block htk.1 (fun k hk => ?_)
    have hk' : k = g := by simp [Value.ownBlock] at hk; exact hk.symm
    subst hk'
    exact (hch.block k (by simp; omega) (by omega)).trans (heap_old _ _ _ hl2.2)
  · rw [hv]
    exact hI.apart k hk
  · refine hI.bel.trans (Below.trans (((Below.refl _ _).alloc (by omega) o)) (hch.below (by simp; omega) (fun k hk h => by omega)))

set_option maxRecDepth 1000000 in
set_option maxHeartbeats 4000000 in
theorem plays_any (b off n cap : Nat) (w : World) (hb : b < w.heap.size) (_hn : n ≤ cap) (_hcap : cap ≤ 9223372036854775807)
    (hc : ∀ k, k < n → ∃ o0 o1 o2 o3 : Int, w.cell? ⟨b, off + k * 4, none⟩ = some (.int .i64 o0) ∧ w.cell? ⟨b, off + k * 4 + 1, none⟩ = some (.int .i64 o1) ∧ w.cell? ⟨b, off + k * 4 + 2, none⟩ = some (.int .i64 o2) ∧ w.cell? ⟨b, off + k * 4 + 3, none⟩ = some (.int .i64 o3)) :
    Calls Try.prog 3 #[.slice (some ⟨b, off, none⟩) n cap] w fun e w' => e = .returned (.bool true) ∧ Below w.heap.size w w' := by
  obtain ⟨i0, hi, hz0, hz1, hz2⟩ := info_parts Try.info31
  have HC := Lib.hid hc
  clear hc
  go_enter Try.func3, Try.ntmps3
  go_wp2
  go_loopw [4, 5, 6] (fun l la i wr => ∃ (k : Nat) (vr : Value) (ls : List L4) (last : Nat), k ≤ n ∧ k ≤ 40 ∧ last ≤ k ∧ ls.length ≤ k ∧ i = .int .i64 k ∧ la = .int .i64 last ∧ Hid (Inv w wr vr l ls last)) (fun _ _ i _ => 40 - (intOf i).toNat)
  case atStart => exact ⟨0, _, [], 0, Nat.zero_le _, Nat.zero_le _, Nat.zero_le _, Nat.zero_le _, rfl, rfl, row_new w, World.ownsRow_nil _ _ _ _, by simp [Value.ownBlock], by simp, (Below.refl _ _).alloc (Nat.le_refl _) _⟩
  case round =>
    obtain ⟨k, vr, ls, last, hkn, hk4, hlak, hlsk, rfl, rfl, HI⟩ := hrel
    by_cases hlt : k < n ∧ k < 40
    · obtain ⟨hln, hl4⟩ := hlt
      obtain ⟨o0, o1, o2, o3, hcc⟩ := HC.out k hln
      have hcw : ∀ o, wr.cell? ⟨b, o, none⟩ = w.cell? ⟨b, o, none⟩ := fun o => HI.out.bel.cell (p := ⟨b, o, none⟩) hb
      rw [← hcw, ← hcw, ← hcw, ← hcw] at hcc
      obtain ⟨c0, c1, c2, c3⟩ := hcc
      clear hcw
      have H5 : Hid (∀ o, Calls Try.prog 5 #[.pointer (some ⟨w.heap.size, 0, none⟩), .int .i64 o1, .int .i64 o2, .int .i64 o3] (wr.alloc o) (Opened (wr.alloc o) w.heap.size w.heap.size vr ls last o1 o2 o3)) :=
        fun o => open_all (wr.alloc o) _ _ vr ls last o1 o2 o3 (HI.out.alloc o).row (by omega) (by omega)
      have hwz : w.heap.size < wr.heap.size := heap_lt HI.out.row.1
      by_cases hop : o0.tmod 3 = 0 ∨ o0.tmod 3 = 1
      · rcases hop with hop | hop
        case' inl => have hq0 : (o0.tmod 3 == 0) = true := by simpa using hop
        case' inr => have hq0 : (o0.tmod 3 == 0) = false := by rw [hop]; decide
        case' inr => have hq1 : (o0.tmod 3 == 1) = true := by simpa using hop
        all_goals clear hop
        all_goals (
          go_wp2_with fail
          refine (H5.out _).mono ?_
          rintro e w2 ⟨rfl, hop⟩
          obtain ⟨g5, cap5, hR5, hg5, hch5⟩ := hop
          have hw2 : wr.heap.size + 1 ≤ w2.heap.size := by have := hch5.size; simpa using this
          have hbx : BoxAt w2 wr.heap.size o0 o1 o2 o3 := (hch5.block _ (by simp) (by rintro (h | h); · omega
                                                                                      · have := (HI.out.row.2.1.lt _ h).2; omega)).trans (heap_new _ _)
          have b0 : w2.cell? ⟨wr.heap.size, 0, none⟩ = some (.int .i64 o0) := cell_of hbx 0
          have b1 : w2.cell? ⟨wr.heap.size, 1, none⟩ = some (.int .i64 o1) := cell_of hbx 1
          have b2 : w2.cell? ⟨wr.heap.size, 2, none⟩ = some (.int .i64 o2) := cell_of hbx 2
          have b3 : w2.cell? ⟨wr.heap.size, 3, none⟩ = some (.int .i64 o3) := cell_of hbx 3
          have hls2 : Sl w2 (w.heap.size + 1) u4 ls := owns_of_block HI.out.lst (fun k hk => by
            have hk2 := (HI.out.lst.lt k hk)
            refine (hch5.block k (by simp; omega) ?_).trans (heap_old _ _ _ hk2.2)
            rintro (h | h)
            · omega
            · exact HI.out.apart k hk h)
          obtain ⟨al, cl, hul⟩ := Sl.len hls2
          subst hul
          have HRD : Hid (Reads w2 w2.heap.size 4 al ls.length (flat ls)) := Reads.of_own hls2
          have HONE := Lib.hid (flat_one ls)
          have HR5 := Lib.hid hR5
          have HCH5 := Lib.hid hch5
          have HBX := Lib.hid hbx
          clear hR5 hg5 hch5 hls2 hbx
          have hbnd : 0 + ls.length ≤ 100 := by omega
          have hwz2 : wr.heap.size < w2.heap.size := by omega
          go_wp2_with fail
          go_region_held3 (fun w' => w'.cell? ⟨wr.heap.size, 1, none⟩ = some (.int .i64 o1) ∧ w'.cell? ⟨wr.heap.size, 2, none⟩ = some (.int .i64 o2) ∧ w'.cell? ⟨wr.heap.size, 3, none⟩ = some (.int .i64 o3)) (go_keep)
            (first
             | (refine step_append_any _ rfl (.tmp 48) (.tmp 49) 24 rfl w2.heap.size 31 i0 (.agg #[.int .i64 0, .int .i64 0, .int .i64 0, .int .i64 0]) 4 32 Try.underlying24 hi hz0 hz1 hz2 rfl (by decide) _ 0 [] rfl (own_empty (by first | exact heap_new w2 _ | exact heap_new1 w2 _ _ | exact (heap_old _ _ _ (by simp)).trans (heap_new w2 _)) (by simp)) w2.heap.size al ls.length cl (flat ls) rfl (by first | exact (HRD.out.alloc (Nat.le_refl _) _) | exact ((HRD.out.alloc (Nat.le_refl _) _).alloc (by simp) _)) HONE.out (by unfold maxLen; omega) (by omega) (by simp <;> omega) ?_
                intro v3 X1 hown1 hgrow1 hat1
                have hb1 : Below w2.heap.size w2 X1 := Below.grown (by repeat (first | with_reducible exact Below.refl _ _ | with_reducible exact HB1.out | with_reducible apply Below.drew | (with_reducible refine Below.alloc ?_ ?_ _; rotate_left; · (first | omega | (simp; done) | (simp; omega) | (have := HB1.out.size; omega))))) hgrow1 (by simp <;> omega) (fun k hk => by first | (have h : some w2.heap.size = some k := hk; injection h; omega) | (have h : some (w2.heap.size + 1) = some k := hk; injection h; omega))
                have s0 := (hb1.cell (p := ⟨wr.heap.size, 0, none⟩) hwz2).trans b0; have s1 := (hb1.cell (p := ⟨wr.heap.size, 1, none⟩) hwz2).trans b1; have s2 := (hb1.cell (p := ⟨wr.heap.size, 2, none⟩) hwz2).trans b2; have s3 := (hb1.cell (p := ⟨wr.heap.size, 3, none⟩) hwz2).trans b3
                have hx1 : wr.heap.size < X1.heap.size := Nat.lt_of_lt_of_le hwz2 hb1.size
                have HEL := Lib.hid (grown_keep hgrow1)
                have HB1 := Lib.hid hb1
                have HOWN1 := Lib.hid hown1
                clear hown1 hgrow1 hat1 hb1)
             | (refine step_append_any _ rfl (.tmp 50) (.tmp 59) 24 rfl w2.heap.size 31 i0 (.agg #[.int .i64 0, .int .i64 0, .int .i64 0, .int .i64 0]) 4 32 Try.underlying24 hi hz0 hz1 hz2 rfl (by decide) _ (0 + ls.length) ([] ++ flat ls) rfl (by first | exact HOWN1.out | exact HOWN1.out.alloc _) _ _ 1 1 [.int .i64 (last + 1), .int .i64 o1, .int .i64 o2, .int .i64 o3] rfl (by first | exact reads_blk (heap_new X1 _) rfl | exact reads_blk (HEL.out w2.heap.size _ ((heap_old _ _ _ (by simp)).trans (heap_new w2 _)) (by intro h; have h' : some w2.heap.size = some (w2.heap.size + 1) := h; injection h'; omega)) rfl | exact reads_blk (HEL.out (w2.heap.size + 1) _ (heap_new1 w2 _ _) (by intro h; have h' : some (w2.heap.size + 1) = some w2.heap.size := h; injection h'; omega)) rfl) (by simp [Value.oneCell']) (by unfold maxLen; omega) (by omega) (by have := HB1.out.size; simp <;> omega) ?_
                intro v5 X2 hown2 hgrow2 hat2
                have hb2 : Below w2.heap.size w2 X2 := Below.grown (by repeat (first | with_reducible exact Below.refl _ _ | with_reducible exact HB1.out | with_reducible apply Below.drew | (with_reducible refine Below.alloc ?_ ?_ _; rotate_left; · (first | omega | (simp; done) | (simp; omega) | (have := HB1.out.size; omega))))) hgrow2 (by have := HB1.out.size; simp <;> omega) (fun k hk => (HOWN1.out.lt k hk).1)
                have s0 := (hb2.cell (p := ⟨wr.heap.size, 0, none⟩) hwz2).trans b0; have s1 := (hb2.cell (p := ⟨wr.heap.size, 1, none⟩) hwz2).trans b1; have s2 := (hb2.cell (p := ⟨wr.heap.size, 2, none⟩) hwz2).trans b2; have s3 := (hb2.cell (p := ⟨wr.heap.size, 3, none⟩) hwz2).trans b3
                have HB2 := Lib.hid hb2
                have HOWN2 := Lib.hid hown2
                clear hown2 hgrow2 hat2 hb2))
          all_goals (
            have hinv := inv_open HI.out HCH5.out HR5.out HB2.out HOWN2.out
            have hT : Calls Try.prog 7 #[.pointer (some ⟨w.heap.size, 0, none⟩), v5, .agg #[.int .i64 o0, .int .i64 o1, .int .i64 o2, .int .i64 o3], .int .i64 ((last : Int) + 1)] X2 fun e w' => e = .returned (.bool true) ∧ Below X2.heap.size X2 w' :=
              told_any X2 _ _ _ _ _ _ (last + 1) (last + 1) o0 o1 o2 o3 hinv.row hinv.lst (by simp; omega) hinv.pos (by omega)
            have HINV := Lib.hid hinv
            have HT := Lib.hid hT
            clear hinv hT
            go_wp2_with (go_at_call 7; refine HT.out.mono ?_; rintro e w9 ⟨rfl, hb9⟩; have HB9 := Lib.hid hb9; clear hb9)
            go_roundw
            case rel => exact ⟨k + 1, _, _, last + 1, by omega, by omega, by omega, by simp; omega, by go_num, by go_num, HINV.out.belo HB9.out⟩
            case measure => simp [intOf] <;> omega)
        )
      · have hq0 : (o0.tmod 3 == 0) = false := by simp; omega
        have hq1 : (o0.tmod 3 == 1) = false := by simp; omega
        clear hop
        rcases nil_or_snoc ls with rfl | ⟨l', x, rfl⟩
        · obtain ⟨al, cl, hul⟩ := Sl.len HI.out.lst
          subst hul
          obtain ⟨ar, cr, hur⟩ := Sl.len (show Sl wr _ vr [] from HI.out.row.2.1)
          subst hur
          have h6 : ∀ o, Calls Try.prog 6 #[.pointer (some ⟨w.heap.size, 0, none⟩)] (wr.alloc o) fun e w' => e = .returned (.tuple #[.agg #[.int .i64 0, .int .i64 0, .int .i64 0, .int .i64 0], .bool false]) ∧ Below (wr.alloc o).heap.size (wr.alloc o) w' :=
            fun o => close_none w.heap.size ar cr (wr.alloc o) (by simp; omega) ((World.cell?_alloc_past _ _ _ hwz).trans (cell_of HI.out.row.1 0))
          have H6 := Lib.hid h6
          clear h6
          simp only [List.length_nil]
          go_wp2_with (go_at_call 6; refine (H6.out _).mono ?_; rintro e w2 ⟨rfl, hbel⟩; obtain ⟨hc, hf⟩ := bcell hbel; have hz6 : wr.heap.size < w2.heap.size := (by have := hbel.size; simp at this; omega); have HB6 := Lib.hid hbel; clear hbel hf)
          go_quiet (fail)
          go_wp2_with fail
          refine (Calls.mono (told_any _ _ _ _ _ _ [] last last o0 o1 o2 o3 (((HI.out.alloc _).belo HB6.out).belo ((Below.drewN (((Below.refl _ _).alloc (Nat.le_refl _) _)) _))).row (((HI.out.alloc _).belo HB6.out).belo ((Below.drewN (((Below.refl _ _).alloc (Nat.le_refl _) _)) _))).lst (by simp) (by simp) (by omega)) ?_)
          rintro e w9 ⟨rfl, hb9⟩
          have HB9 := Lib.hid hb9
          clear hb9
          go_wp2
          go_roundw
          case rel => exact ⟨k + 1, _, [], last, by omega, by omega, by omega, by simp, by go_num, by go_num, (((HI.out.alloc _).belo HB6.out).belo (Below.drewN ((Below.refl _ _).alloc (Nat.le_refl _) _) _)).belo HB9.out⟩
          case measure => simp [intOf] <;> omega
        · obtain ⟨al, cl, hul⟩ := Sl.len HI.out.lst
          subst hul
          obtain ⟨n2, hn2⟩ : ∃ n2, n2 = (l' ++ [x]).length := ⟨_, rfl⟩
          have hlsk2 : n2 ≤ k := by omega
          have hn1 : 1 ≤ n2 := by simp at hn2; omega
          have hx : ∃ g, al = some ⟨g, 0, none⟩ ∧ g < wr.heap.size ∧ w.heap.size < g ∧ At wr g (n2 - 1) x := by
            rcases Sl.shape HI.out.lst with ⟨h, _⟩ | ⟨g, c, h, hg, _⟩
            · simp at h
            · injection h with h1 h2
              subst h1
              have hat := Sl.at HI.out.lst (n2 - 1) (by omega)
              have e : (l' ++ [x])[n2 - 1]'(by omega) = x := by simp [hn2]
              rw [e] at hat
              exact ⟨g, rfl, hg, (HI.out.lst.lt g rfl).1, hat⟩
          obtain ⟨g, rfl, hg, hgw, hat⟩ := hx
          have h6 : ∀ o, Calls Try.prog 6 #[.pointer (some ⟨w.heap.size, 0, none⟩)] (wr.alloc o) (Closed (wr.alloc o) w.heap.size w.heap.size vr l' last x) := fun o => close_any _ _ _ _ _ _ _ (HI.out.alloc o).row (by simp at hlsk; omega)
          have H6 := Lib.hid h6
          rw [← hn2] at HI ⊢
          have HN2 := Lib.hid hn2
          have HAT := Lib.hid hat
          clear h6 hn2 hat hlsk
          have hcl : n2 ≤ cl := by
            have := (Sl.take HI.out.lst).2
            have e := HN2.out
            simp at e
            omega
          have hcl' : (n2 : Int) - 1 ≤ (cl : Int) := by omega
          have hlw : IntKind.i64.wrap ((n2 : Int) - 1) = (n2 : Int) - 1 := by rw [IntKind.wrap_i64]; omega
          have hli : (0 : Int) ≤ (n2 : Int) - 1 := by omega
          have hlj : (n2 : Int) - 1 < (n2 : Int) := by omega
          have hlt2 : ((n2 : Int) - 1).toNat = n2 - 1 := by omega
          have hlz : decide (0 < n2) = true := by simp; omega
          go_wp2_with fail
          refine (H6.out _).mono ?_
          rintro e w2 ⟨rfl, v6, hR6, hv6, hch6⟩
          have hinv := inv_close HI.out hch6 hR6 hv6
          have hat2 : At w2 g (n2 - 1) x := by
            have hh : ∀ o, w2.cell? ⟨g, o, none⟩ = wr.cell? ⟨g, o, none⟩ := fun o => World.cell?_of_block (w := wr) ((hch6.block g (by simp; omega) (by omega)).trans (heap_old _ _ _ hg))
            have h := HAT.out
            exact ⟨(hh _).trans h.a, (hh _).trans h.b, (hh _).trans h.c, (hh _).trans h.d⟩
          have hw2 : wr.heap.size + 1 ≤ w2.heap.size := by have := hch6.size; simpa using this
          have hbx : BoxAt w2 wr.heap.size o0 o1 o2 o3 := (hch6.block _ (by simp) (by omega)).trans (heap_new _ _)
          have b0 : w2.cell? ⟨wr.heap.size, 0, none⟩ = some (.int .i64 o0) := cell_of hbx 0
          have b1 : w2.cell? ⟨wr.heap.size, 1, none⟩ = some (.int .i64 o1) := cell_of hbx 1
          have b2 : w2.cell? ⟨wr.heap.size, 2, none⟩ = some (.int .i64 o2) := cell_of hbx 2
          have b3 : w2.cell? ⟨wr.heap.size, 3, none⟩ = some (.int .i64 o3) := cell_of hbx 3
          obtain ⟨a0, a1, a2, a3⟩ := hat2
          have hlen : l'.length = n2 - 1 := by have := HN2.out; simp at this; omega
          rw [hlen] at hinv
          have HINV := Lib.hid hinv
          have HLEN := Lib.hid hlen
          have hgz : g < w2.heap.size := by omega
          have hbz : wr.heap.size < w2.heap.size := by omega
          clear hinv hR6 hv6 hch6 hbx hlen
          simp only [L4.val]
          go_wp2_with fail
          go_quiet (fail)
          have hT : ∀ W9, Below w2.heap.size w2 W9 → Calls Try.prog 7 #[.pointer (some ⟨w.heap.size, 0, none⟩), .slice (some ⟨g, 0, none⟩) (n2 - 1) cl, .agg #[.int .i64 o0, .int .i64 o1, .int .i64 o2, .int .i64 o3], .int .i64 last] W9 fun e w' => e = .returned (.bool true) ∧ Below W9.heap.size W9 w' :=
            fun W9 h9 => told_any W9 _ _ _ _ _ _ last last o0 o1 o2 o3 (HINV.out.belo h9).row (HINV.out.belo h9).lst (by rw [HLEN.out]; omega) (HINV.out.belo h9).pos (by omega)
          have HT := Lib.hid hT
          clear hT
          go_wp2_with (go_at_call 7; refine (HT.out _ (Below.drewN ((Below.refl _ _).alloc (Nat.le_refl _) _) _)).mono ?_; rintro e w9 ⟨rfl, hb9⟩; have HB9 := Lib.hid hb9; clear hb9)
          go_roundw
          case rel => exact ⟨k + 1, _, l', last, by omega, by omega, by omega, by rw [HLEN.out]; omega, by go_num, by go_num, (HINV.out.belo (Below.drewN ((Below.refl _ _).alloc (Nat.le_refl _) _) _)).belo HB9.out⟩
          case measure => simp [intOf] <;> omega
    · have hL : ∀ W, Calls Try.prog 8 #[] W fun e w' => e = .returned (.bool true) ∧ Below W.heap.size W w' := lives_any
      have HL := Lib.hid hL
      have hex : ¬ k < n ∨ (k < n ∧ ¬ k < 40) := by omega
      clear hlt hL
      rcases hex with hex | ⟨hex, hex2⟩
      all_goals go_wp2_with (go_at_call 8; refine (HL.out _).mono ?_; rintro e w9 ⟨rfl, hb9⟩; have HB9 := Lib.hid hb9; clear hb9)
      all_goals go_ret
      all_goals exact ⟨rfl, HI.out.bel.trans (HB9.out.mono HI.out.bel.size)⟩
end Go.Proofs.Ytddchmkdmmobeaa
