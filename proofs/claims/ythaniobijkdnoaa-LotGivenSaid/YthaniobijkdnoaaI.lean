/- What an instruction takes and gives, in the reference: for those that always take and give the same. No condition but that there is such an instruction. -/
import Derived.Test.YthaniobijkdnoaaH
namespace Go.Proofs.Ythaniobijkdnoaa
open Go.RowKit

/-- a call that answers a new row of one cell each and turns nothing that was there -/
def RowT (t : TypeId) (xs : List Int) (w : World) (e : Ending) (w' : World) : Prop := ∃ v, e = .returned v ∧ w'.ownsRow w.heap.size t 1 v xs.length (xs.map (Value.int .i64)) ∧ Below w.heap.size w w'
theorem rep_snoc (k : Nat) (t : Int) : List.replicate k (Value.int .i64 t) ++ [Value.int .i64 t] = List.replicate (k + 1) (Value.int .i64 t) := by
  rw [List.replicate_succ', ]

set_option maxHeartbeats 1000000 in
theorem of_any (n : Nat) (t : Int) (w : World) (hn : n ≤ 1000) : Calls Try.prog 105 #[.int .i64 n, .int .i64 t] w (RowT 59 (List.replicate n t) w) := by
  obtain ⟨i0, hi, hz0, hz1, hz2⟩ := info_parts inf59
  go_enter Try.func105, Try.ntmps105
  go_wp2
  go_loopw [5, 6] (fun o i wr => ∃ k : Nat, k ≤ n ∧ i = .int .i64 k ∧ Hid (wr.ownsRow w.heap.size 59 1 o k (List.replicate k (Value.int .i64 t))) ∧ Hid (Below w.heap.size w wr)) (fun _ i _ => n - (intOf i).toNat)
  case atStart => exact ⟨0, Nat.zero_le _, rfl, World.ownsRow_nil _ _ _ _, Below.refl _ _⟩
  case round =>
    obtain ⟨k, hk, rfl, HO, HB⟩ := hrel
    by_cases hlt : k < n
    · go_wp2_with (at_builtin; refine wpList_append_own _ rfl _ _ 29 rfl w.heap.size 59 i0 (.int .i64 0) 1 8 Try.underlying29 hi hz0 hz1 hz2 rfl (by decide) _ k (List.replicate k (Value.int .i64 t)) rfl (HO.out.alloc _) ⟨wr.heap.size, 0, none⟩ 1 1 [.int .i64 t] rfl rfl (news _ _ rfl) (by simp [Value.oneCell']) (by unfold maxLen; omega) (by omega) (by have := HB.out.size; simp; omega) ?_)
      intro v' w1 hown' hgrow _
      have hbel : Below w.heap.size w w1 := (HB.out.alloc HB.out.size _).grown hgrow (by have := HB.out.size; simp; omega) (fun k hk => (HO.out.lt k hk).1)
      rw [rep_snoc] at hown'
      have HO1 := Lib.hid hown'
      have HB1 := Lib.hid hbel
      clear hbel hown' hgrow
      go_wp2
      go_roundw
      case rel => exact ⟨k + 1, by omega, by go_num, HO1.out, HB1.out⟩
      case measure => simp [intOf] <;> omega
    · have HK := Lib.hid (show k = n by omega)
      go_wp2
      go_ret
      have h := HO.out
      rw [HK.out] at h
      exact ⟨_, rfl, by rw [List.length_replicate, List.map_replicate]; exact h, HB.out⟩

/-- what an instruction takes, and gives -/
def takeOf (op : Int) : List Int := if op = 6 ∨ op = 7 ∨ op = 8 ∨ op = 9 ∨ op = 10 ∨ op = 12 ∨ op = 13 ∨ op = 15 then [1, 1] else if op = 11 ∨ op = 14 ∨ op = 22 ∨ op = 26 ∨ op = 30 then [1] else if op = 16 ∨ op = 17 ∨ op = 18 then [2, 2] else if op = 19 ∨ op = 20 then [2] else []
def giveOf (op : Int) : List Int := if op = 1 ∨ op = 32 ∨ op = 6 ∨ op = 7 ∨ op = 8 ∨ op = 9 ∨ op = 10 ∨ op = 12 ∨ op = 13 ∨ op = 11 ∨ op = 14 ∨ op = 19 ∨ op = 20 then [1] else if op = 15 ∨ op = 16 ∨ op = 17 ∨ op = 18 then [2] else if op = 27 then [1, 1] else []
def EffPost (a b : List Int) (w : World) (e : Ending) (w' : World) : Prop := ∃ v1 v2, e = .returned (.tuple #[v1, v2]) ∧ IV w' v1 a ∧ IV w' v2 b ∧ Below w.heap.size w w'
theorem iv_rowt {t : TypeId} {w w' : World} {v : Value} {xs : List Int} {B : Nat} (h : w.ownsRow B t 1 v xs.length (xs.map (Value.int .i64))) (hb : Below w.heap.size w w') (hn : xs.length ≤ maxLen) : IV w' v xs := (iv_of_owned h hn).bel hb
theorem eff_0 (w : World) : Calls Try.prog 101 #[.int .i64 0] w (EffPost [] [] w) := by
  go_enter Try.func101, Try.ntmps101
  go_wp2_with fail
  go_ret2
  exact ⟨_, _, rfl, IV.nil _ _ _ (Nat.zero_le _), IV.nil _ _ _ (Nat.zero_le _), Below.refl _ _⟩
theorem eff_1 (w : World) : Calls Try.prog 101 #[.int .i64 1] w (EffPost [] [1] w) := by
  have HB : Hid (∀ W, Calls Try.prog 105 #[.int .i64 1, .int .i64 1] W (RowT 59 [1] W)) := fun W => of_any 1 1 W (by decide)
  go_enter Try.func101, Try.ntmps101
  go_wp2_with fail
  refine (HB.out _).mono ?_
  rintro e w1 ⟨v1, rfl, ho, hb⟩
  have HO1 := Lib.hid ho
  have HB1 := Lib.hid hb
  clear ho hb
  go_wp2_with fail
  go_ret2
  exact ⟨_, _, rfl, IV.nil _ _ _ (Nat.zero_le _), iv_rowt HO1.out (Below.refl _ _) (by simp [maxLen]), HB1.out⟩
theorem eff_2 (w : World) : Calls Try.prog 101 #[.int .i64 2] w (EffPost [] [] w) := by
  go_enter Try.func101, Try.ntmps101
  go_wp2_with fail
  go_ret2
  exact ⟨_, _, rfl, IV.nil _ _ _ (Nat.zero_le _), IV.nil _ _ _ (Nat.zero_le _), Below.refl _ _⟩
theorem eff_3 (w : World) : Calls Try.prog 101 #[.int .i64 3] w (EffPost [] [] w) := by
  go_enter Try.func101, Try.ntmps101
  go_wp2_with fail
  go_ret2
  exact ⟨_, _, rfl, IV.nil _ _ _ (Nat.zero_le _), IV.nil _ _ _ (Nat.zero_le _), Below.refl _ _⟩
theorem eff_4 (w : World) : Calls Try.prog 101 #[.int .i64 4] w (EffPost [] [] w) := by
  go_enter Try.func101, Try.ntmps101
  go_wp2_with fail
  go_ret2
  exact ⟨_, _, rfl, IV.nil _ _ _ (Nat.zero_le _), IV.nil _ _ _ (Nat.zero_le _), Below.refl _ _⟩
theorem eff_5 (w : World) : Calls Try.prog 101 #[.int .i64 5] w (EffPost [] [] w) := by
  go_enter Try.func101, Try.ntmps101
  go_wp2_with fail
  go_ret2
  exact ⟨_, _, rfl, IV.nil _ _ _ (Nat.zero_le _), IV.nil _ _ _ (Nat.zero_le _), Below.refl _ _⟩
theorem eff_6 (w : World) : Calls Try.prog 101 #[.int .i64 6] w (EffPost [1, 1] [1] w) := by
  have HA : Hid (∀ W, Calls Try.prog 105 #[.int .i64 2, .int .i64 1] W (RowT 59 [1, 1] W)) := fun W => of_any 2 1 W (by decide)
  have HB : Hid (∀ W, Calls Try.prog 105 #[.int .i64 1, .int .i64 1] W (RowT 59 [1] W)) := fun W => of_any 1 1 W (by decide)
  go_enter Try.func101, Try.ntmps101
  go_wp2_with fail
  refine (HA.out _).mono ?_
  rintro e w1 ⟨v1, rfl, ho, hb⟩
  have HO1 := Lib.hid ho
  have HB1 := Lib.hid hb
  clear ho hb
  go_wp2_with fail
  refine (HB.out _).mono ?_
  rintro e w2 ⟨v2, rfl, ho, hb⟩
  have HO2 := Lib.hid ho
  have HB2 := Lib.hid hb
  clear ho hb
  go_wp2_with fail
  go_ret2
  exact ⟨_, _, rfl, iv_rowt HO1.out HB2.out (by simp [maxLen]), iv_rowt HO2.out (Below.refl _ _) (by simp [maxLen]), HB1.out.trans (HB2.out.mono HB1.out.size)⟩
theorem eff_7 (w : World) : Calls Try.prog 101 #[.int .i64 7] w (EffPost [1, 1] [1] w) := by
  have HA : Hid (∀ W, Calls Try.prog 105 #[.int .i64 2, .int .i64 1] W (RowT 59 [1, 1] W)) := fun W => of_any 2 1 W (by decide)
  have HB : Hid (∀ W, Calls Try.prog 105 #[.int .i64 1, .int .i64 1] W (RowT 59 [1] W)) := fun W => of_any 1 1 W (by decide)
  go_enter Try.func101, Try.ntmps101
  go_wp2_with fail
  refine (HA.out _).mono ?_
  rintro e w1 ⟨v1, rfl, ho, hb⟩
  have HO1 := Lib.hid ho
  have HB1 := Lib.hid hb
  clear ho hb
  go_wp2_with fail
  refine (HB.out _).mono ?_
  rintro e w2 ⟨v2, rfl, ho, hb⟩
  have HO2 := Lib.hid ho
  have HB2 := Lib.hid hb
  clear ho hb
  go_wp2_with fail
  go_ret2
  exact ⟨_, _, rfl, iv_rowt HO1.out HB2.out (by simp [maxLen]), iv_rowt HO2.out (Below.refl _ _) (by simp [maxLen]), HB1.out.trans (HB2.out.mono HB1.out.size)⟩
theorem eff_8 (w : World) : Calls Try.prog 101 #[.int .i64 8] w (EffPost [1, 1] [1] w) := by
  have HA : Hid (∀ W, Calls Try.prog 105 #[.int .i64 2, .int .i64 1] W (RowT 59 [1, 1] W)) := fun W => of_any 2 1 W (by decide)
  have HB : Hid (∀ W, Calls Try.prog 105 #[.int .i64 1, .int .i64 1] W (RowT 59 [1] W)) := fun W => of_any 1 1 W (by decide)
  go_enter Try.func101, Try.ntmps101
  go_wp2_with fail
  refine (HA.out _).mono ?_
  rintro e w1 ⟨v1, rfl, ho, hb⟩
  have HO1 := Lib.hid ho
  have HB1 := Lib.hid hb
  clear ho hb
  go_wp2_with fail
  refine (HB.out _).mono ?_
  rintro e w2 ⟨v2, rfl, ho, hb⟩
  have HO2 := Lib.hid ho
  have HB2 := Lib.hid hb
  clear ho hb
  go_wp2_with fail
  go_ret2
  exact ⟨_, _, rfl, iv_rowt HO1.out HB2.out (by simp [maxLen]), iv_rowt HO2.out (Below.refl _ _) (by simp [maxLen]), HB1.out.trans (HB2.out.mono HB1.out.size)⟩
theorem eff_9 (w : World) : Calls Try.prog 101 #[.int .i64 9] w (EffPost [1, 1] [1] w) := by
  have HA : Hid (∀ W, Calls Try.prog 105 #[.int .i64 2, .int .i64 1] W (RowT 59 [1, 1] W)) := fun W => of_any 2 1 W (by decide)
  have HB : Hid (∀ W, Calls Try.prog 105 #[.int .i64 1, .int .i64 1] W (RowT 59 [1] W)) := fun W => of_any 1 1 W (by decide)
  go_enter Try.func101, Try.ntmps101
  go_wp2_with fail
  refine (HA.out _).mono ?_
  rintro e w1 ⟨v1, rfl, ho, hb⟩
  have HO1 := Lib.hid ho
  have HB1 := Lib.hid hb
  clear ho hb
  go_wp2_with fail
  refine (HB.out _).mono ?_
  rintro e w2 ⟨v2, rfl, ho, hb⟩
  have HO2 := Lib.hid ho
  have HB2 := Lib.hid hb
  clear ho hb
  go_wp2_with fail
  go_ret2
  exact ⟨_, _, rfl, iv_rowt HO1.out HB2.out (by simp [maxLen]), iv_rowt HO2.out (Below.refl _ _) (by simp [maxLen]), HB1.out.trans (HB2.out.mono HB1.out.size)⟩
theorem eff_10 (w : World) : Calls Try.prog 101 #[.int .i64 10] w (EffPost [1, 1] [1] w) := by
  have HA : Hid (∀ W, Calls Try.prog 105 #[.int .i64 2, .int .i64 1] W (RowT 59 [1, 1] W)) := fun W => of_any 2 1 W (by decide)
  have HB : Hid (∀ W, Calls Try.prog 105 #[.int .i64 1, .int .i64 1] W (RowT 59 [1] W)) := fun W => of_any 1 1 W (by decide)
  go_enter Try.func101, Try.ntmps101
  go_wp2_with fail
  refine (HA.out _).mono ?_
  rintro e w1 ⟨v1, rfl, ho, hb⟩
  have HO1 := Lib.hid ho
  have HB1 := Lib.hid hb
  clear ho hb
  go_wp2_with fail
  refine (HB.out _).mono ?_
  rintro e w2 ⟨v2, rfl, ho, hb⟩
  have HO2 := Lib.hid ho
  have HB2 := Lib.hid hb
  clear ho hb
  go_wp2_with fail
  go_ret2
  exact ⟨_, _, rfl, iv_rowt HO1.out HB2.out (by simp [maxLen]), iv_rowt HO2.out (Below.refl _ _) (by simp [maxLen]), HB1.out.trans (HB2.out.mono HB1.out.size)⟩
theorem eff_11 (w : World) : Calls Try.prog 101 #[.int .i64 11] w (EffPost [1] [1] w) := by
  have HA : Hid (∀ W, Calls Try.prog 105 #[.int .i64 1, .int .i64 1] W (RowT 59 [1] W)) := fun W => of_any 1 1 W (by decide)
  have HB : Hid (∀ W, Calls Try.prog 105 #[.int .i64 1, .int .i64 1] W (RowT 59 [1] W)) := fun W => of_any 1 1 W (by decide)
  go_enter Try.func101, Try.ntmps101
  go_wp2_with fail
  refine (HA.out _).mono ?_
  rintro e w1 ⟨v1, rfl, ho, hb⟩
  have HO1 := Lib.hid ho
  have HB1 := Lib.hid hb
  clear ho hb
  go_wp2_with fail
  refine (HB.out _).mono ?_
  rintro e w2 ⟨v2, rfl, ho, hb⟩
  have HO2 := Lib.hid ho
  have HB2 := Lib.hid hb
  clear ho hb
  go_wp2_with fail
  go_ret2
  exact ⟨_, _, rfl, iv_rowt HO1.out HB2.out (by simp [maxLen]), iv_rowt HO2.out (Below.refl _ _) (by simp [maxLen]), HB1.out.trans (HB2.out.mono HB1.out.size)⟩
theorem eff_12 (w : World) : Calls Try.prog 101 #[.int .i64 12] w (EffPost [1, 1] [1] w) := by
  have HA : Hid (∀ W, Calls Try.prog 105 #[.int .i64 2, .int .i64 1] W (RowT 59 [1, 1] W)) := fun W => of_any 2 1 W (by decide)
  have HB : Hid (∀ W, Calls Try.prog 105 #[.int .i64 1, .int .i64 1] W (RowT 59 [1] W)) := fun W => of_any 1 1 W (by decide)
  go_enter Try.func101, Try.ntmps101
  go_wp2_with fail
  refine (HA.out _).mono ?_
  rintro e w1 ⟨v1, rfl, ho, hb⟩
  have HO1 := Lib.hid ho
  have HB1 := Lib.hid hb
  clear ho hb
  go_wp2_with fail
  refine (HB.out _).mono ?_
  rintro e w2 ⟨v2, rfl, ho, hb⟩
  have HO2 := Lib.hid ho
  have HB2 := Lib.hid hb
  clear ho hb
  go_wp2_with fail
  go_ret2
  exact ⟨_, _, rfl, iv_rowt HO1.out HB2.out (by simp [maxLen]), iv_rowt HO2.out (Below.refl _ _) (by simp [maxLen]), HB1.out.trans (HB2.out.mono HB1.out.size)⟩
theorem eff_13 (w : World) : Calls Try.prog 101 #[.int .i64 13] w (EffPost [1, 1] [1] w) := by
  have HA : Hid (∀ W, Calls Try.prog 105 #[.int .i64 2, .int .i64 1] W (RowT 59 [1, 1] W)) := fun W => of_any 2 1 W (by decide)
  have HB : Hid (∀ W, Calls Try.prog 105 #[.int .i64 1, .int .i64 1] W (RowT 59 [1] W)) := fun W => of_any 1 1 W (by decide)
  go_enter Try.func101, Try.ntmps101
  go_wp2_with fail
  refine (HA.out _).mono ?_
  rintro e w1 ⟨v1, rfl, ho, hb⟩
  have HO1 := Lib.hid ho
  have HB1 := Lib.hid hb
  clear ho hb
  go_wp2_with fail
  refine (HB.out _).mono ?_
  rintro e w2 ⟨v2, rfl, ho, hb⟩
  have HO2 := Lib.hid ho
  have HB2 := Lib.hid hb
  clear ho hb
  go_wp2_with fail
  go_ret2
  exact ⟨_, _, rfl, iv_rowt HO1.out HB2.out (by simp [maxLen]), iv_rowt HO2.out (Below.refl _ _) (by simp [maxLen]), HB1.out.trans (HB2.out.mono HB1.out.size)⟩
theorem eff_14 (w : World) : Calls Try.prog 101 #[.int .i64 14] w (EffPost [1] [1] w) := by
  have HA : Hid (∀ W, Calls Try.prog 105 #[.int .i64 1, .int .i64 1] W (RowT 59 [1] W)) := fun W => of_any 1 1 W (by decide)
  have HB : Hid (∀ W, Calls Try.prog 105 #[.int .i64 1, .int .i64 1] W (RowT 59 [1] W)) := fun W => of_any 1 1 W (by decide)
  go_enter Try.func101, Try.ntmps101
  go_wp2_with fail
  refine (HA.out _).mono ?_
  rintro e w1 ⟨v1, rfl, ho, hb⟩
  have HO1 := Lib.hid ho
  have HB1 := Lib.hid hb
  clear ho hb
  go_wp2_with fail
  refine (HB.out _).mono ?_
  rintro e w2 ⟨v2, rfl, ho, hb⟩
  have HO2 := Lib.hid ho
  have HB2 := Lib.hid hb
  clear ho hb
  go_wp2_with fail
  go_ret2
  exact ⟨_, _, rfl, iv_rowt HO1.out HB2.out (by simp [maxLen]), iv_rowt HO2.out (Below.refl _ _) (by simp [maxLen]), HB1.out.trans (HB2.out.mono HB1.out.size)⟩
theorem eff_15 (w : World) : Calls Try.prog 101 #[.int .i64 15] w (EffPost [1, 1] [2] w) := by
  have HA : Hid (∀ W, Calls Try.prog 105 #[.int .i64 2, .int .i64 1] W (RowT 59 [1, 1] W)) := fun W => of_any 2 1 W (by decide)
  have HB : Hid (∀ W, Calls Try.prog 105 #[.int .i64 1, .int .i64 2] W (RowT 59 [2] W)) := fun W => of_any 1 2 W (by decide)
  go_enter Try.func101, Try.ntmps101
  go_wp2_with fail
  refine (HA.out _).mono ?_
  rintro e w1 ⟨v1, rfl, ho, hb⟩
  have HO1 := Lib.hid ho
  have HB1 := Lib.hid hb
  clear ho hb
  go_wp2_with fail
  refine (HB.out _).mono ?_
  rintro e w2 ⟨v2, rfl, ho, hb⟩
  have HO2 := Lib.hid ho
  have HB2 := Lib.hid hb
  clear ho hb
  go_wp2_with fail
  go_ret2
  exact ⟨_, _, rfl, iv_rowt HO1.out HB2.out (by simp [maxLen]), iv_rowt HO2.out (Below.refl _ _) (by simp [maxLen]), HB1.out.trans (HB2.out.mono HB1.out.size)⟩
theorem eff_16 (w : World) : Calls Try.prog 101 #[.int .i64 16] w (EffPost [2, 2] [2] w) := by
  have HA : Hid (∀ W, Calls Try.prog 105 #[.int .i64 2, .int .i64 2] W (RowT 59 [2, 2] W)) := fun W => of_any 2 2 W (by decide)
  have HB : Hid (∀ W, Calls Try.prog 105 #[.int .i64 1, .int .i64 2] W (RowT 59 [2] W)) := fun W => of_any 1 2 W (by decide)
  go_enter Try.func101, Try.ntmps101
  go_wp2_with fail
  refine (HA.out _).mono ?_
  rintro e w1 ⟨v1, rfl, ho, hb⟩
  have HO1 := Lib.hid ho
  have HB1 := Lib.hid hb
  clear ho hb
  go_wp2_with fail
  refine (HB.out _).mono ?_
  rintro e w2 ⟨v2, rfl, ho, hb⟩
  have HO2 := Lib.hid ho
  have HB2 := Lib.hid hb
  clear ho hb
  go_wp2_with fail
  go_ret2
  exact ⟨_, _, rfl, iv_rowt HO1.out HB2.out (by simp [maxLen]), iv_rowt HO2.out (Below.refl _ _) (by simp [maxLen]), HB1.out.trans (HB2.out.mono HB1.out.size)⟩
theorem eff_17 (w : World) : Calls Try.prog 101 #[.int .i64 17] w (EffPost [2, 2] [2] w) := by
  have HA : Hid (∀ W, Calls Try.prog 105 #[.int .i64 2, .int .i64 2] W (RowT 59 [2, 2] W)) := fun W => of_any 2 2 W (by decide)
  have HB : Hid (∀ W, Calls Try.prog 105 #[.int .i64 1, .int .i64 2] W (RowT 59 [2] W)) := fun W => of_any 1 2 W (by decide)
  go_enter Try.func101, Try.ntmps101
  go_wp2_with fail
  refine (HA.out _).mono ?_
  rintro e w1 ⟨v1, rfl, ho, hb⟩
  have HO1 := Lib.hid ho
  have HB1 := Lib.hid hb
  clear ho hb
  go_wp2_with fail
  refine (HB.out _).mono ?_
  rintro e w2 ⟨v2, rfl, ho, hb⟩
  have HO2 := Lib.hid ho
  have HB2 := Lib.hid hb
  clear ho hb
  go_wp2_with fail
  go_ret2
  exact ⟨_, _, rfl, iv_rowt HO1.out HB2.out (by simp [maxLen]), iv_rowt HO2.out (Below.refl _ _) (by simp [maxLen]), HB1.out.trans (HB2.out.mono HB1.out.size)⟩
theorem eff_18 (w : World) : Calls Try.prog 101 #[.int .i64 18] w (EffPost [2, 2] [2] w) := by
  have HA : Hid (∀ W, Calls Try.prog 105 #[.int .i64 2, .int .i64 2] W (RowT 59 [2, 2] W)) := fun W => of_any 2 2 W (by decide)
  have HB : Hid (∀ W, Calls Try.prog 105 #[.int .i64 1, .int .i64 2] W (RowT 59 [2] W)) := fun W => of_any 1 2 W (by decide)
  go_enter Try.func101, Try.ntmps101
  go_wp2_with fail
  refine (HA.out _).mono ?_
  rintro e w1 ⟨v1, rfl, ho, hb⟩
  have HO1 := Lib.hid ho
  have HB1 := Lib.hid hb
  clear ho hb
  go_wp2_with fail
  refine (HB.out _).mono ?_
  rintro e w2 ⟨v2, rfl, ho, hb⟩
  have HO2 := Lib.hid ho
  have HB2 := Lib.hid hb
  clear ho hb
  go_wp2_with fail
  go_ret2
  exact ⟨_, _, rfl, iv_rowt HO1.out HB2.out (by simp [maxLen]), iv_rowt HO2.out (Below.refl _ _) (by simp [maxLen]), HB1.out.trans (HB2.out.mono HB1.out.size)⟩
theorem eff_19 (w : World) : Calls Try.prog 101 #[.int .i64 19] w (EffPost [2] [1] w) := by
  have HA : Hid (∀ W, Calls Try.prog 105 #[.int .i64 1, .int .i64 2] W (RowT 59 [2] W)) := fun W => of_any 1 2 W (by decide)
  have HB : Hid (∀ W, Calls Try.prog 105 #[.int .i64 1, .int .i64 1] W (RowT 59 [1] W)) := fun W => of_any 1 1 W (by decide)
  go_enter Try.func101, Try.ntmps101
  go_wp2_with fail
  refine (HA.out _).mono ?_
  rintro e w1 ⟨v1, rfl, ho, hb⟩
  have HO1 := Lib.hid ho
  have HB1 := Lib.hid hb
  clear ho hb
  go_wp2_with fail
  refine (HB.out _).mono ?_
  rintro e w2 ⟨v2, rfl, ho, hb⟩
  have HO2 := Lib.hid ho
  have HB2 := Lib.hid hb
  clear ho hb
  go_wp2_with fail
  go_ret2
  exact ⟨_, _, rfl, iv_rowt HO1.out HB2.out (by simp [maxLen]), iv_rowt HO2.out (Below.refl _ _) (by simp [maxLen]), HB1.out.trans (HB2.out.mono HB1.out.size)⟩
theorem eff_20 (w : World) : Calls Try.prog 101 #[.int .i64 20] w (EffPost [2] [1] w) := by
  have HA : Hid (∀ W, Calls Try.prog 105 #[.int .i64 1, .int .i64 2] W (RowT 59 [2] W)) := fun W => of_any 1 2 W (by decide)
  have HB : Hid (∀ W, Calls Try.prog 105 #[.int .i64 1, .int .i64 1] W (RowT 59 [1] W)) := fun W => of_any 1 1 W (by decide)
  go_enter Try.func101, Try.ntmps101
  go_wp2_with fail
  refine (HA.out _).mono ?_
  rintro e w1 ⟨v1, rfl, ho, hb⟩
  have HO1 := Lib.hid ho
  have HB1 := Lib.hid hb
  clear ho hb
  go_wp2_with fail
  refine (HB.out _).mono ?_
  rintro e w2 ⟨v2, rfl, ho, hb⟩
  have HO2 := Lib.hid ho
  have HB2 := Lib.hid hb
  clear ho hb
  go_wp2_with fail
  go_ret2
  exact ⟨_, _, rfl, iv_rowt HO1.out HB2.out (by simp [maxLen]), iv_rowt HO2.out (Below.refl _ _) (by simp [maxLen]), HB1.out.trans (HB2.out.mono HB1.out.size)⟩
theorem eff_21 (w : World) : Calls Try.prog 101 #[.int .i64 21] w (EffPost [] [] w) := by
  go_enter Try.func101, Try.ntmps101
  go_wp2_with fail
  go_ret2
  exact ⟨_, _, rfl, IV.nil _ _ _ (Nat.zero_le _), IV.nil _ _ _ (Nat.zero_le _), Below.refl _ _⟩
theorem eff_22 (w : World) : Calls Try.prog 101 #[.int .i64 22] w (EffPost [1] [] w) := by
  have HA : Hid (∀ W, Calls Try.prog 105 #[.int .i64 1, .int .i64 1] W (RowT 59 [1] W)) := fun W => of_any 1 1 W (by decide)
  go_enter Try.func101, Try.ntmps101
  go_wp2_with fail
  refine (HA.out _).mono ?_
  rintro e w1 ⟨v1, rfl, ho, hb⟩
  have HO1 := Lib.hid ho
  have HB1 := Lib.hid hb
  clear ho hb
  go_wp2_with fail
  go_ret2
  exact ⟨_, _, rfl, iv_rowt HO1.out (Below.refl _ _) (by simp [maxLen]), IV.nil _ _ _ (Nat.zero_le _), HB1.out⟩
theorem eff_23 (w : World) : Calls Try.prog 101 #[.int .i64 23] w (EffPost [] [] w) := by
  go_enter Try.func101, Try.ntmps101
  go_wp2_with fail
  go_ret2
  exact ⟨_, _, rfl, IV.nil _ _ _ (Nat.zero_le _), IV.nil _ _ _ (Nat.zero_le _), Below.refl _ _⟩
theorem eff_24 (w : World) : Calls Try.prog 101 #[.int .i64 24] w (EffPost [] [] w) := by
  go_enter Try.func101, Try.ntmps101
  go_wp2_with fail
  go_ret2
  exact ⟨_, _, rfl, IV.nil _ _ _ (Nat.zero_le _), IV.nil _ _ _ (Nat.zero_le _), Below.refl _ _⟩
theorem eff_25 (w : World) : Calls Try.prog 101 #[.int .i64 25] w (EffPost [] [] w) := by
  go_enter Try.func101, Try.ntmps101
  go_wp2_with fail
  go_ret2
  exact ⟨_, _, rfl, IV.nil _ _ _ (Nat.zero_le _), IV.nil _ _ _ (Nat.zero_le _), Below.refl _ _⟩
theorem eff_26 (w : World) : Calls Try.prog 101 #[.int .i64 26] w (EffPost [1] [] w) := by
  have HA : Hid (∀ W, Calls Try.prog 105 #[.int .i64 1, .int .i64 1] W (RowT 59 [1] W)) := fun W => of_any 1 1 W (by decide)
  go_enter Try.func101, Try.ntmps101
  go_wp2_with fail
  refine (HA.out _).mono ?_
  rintro e w1 ⟨v1, rfl, ho, hb⟩
  have HO1 := Lib.hid ho
  have HB1 := Lib.hid hb
  clear ho hb
  go_wp2_with fail
  go_ret2
  exact ⟨_, _, rfl, iv_rowt HO1.out (Below.refl _ _) (by simp [maxLen]), IV.nil _ _ _ (Nat.zero_le _), HB1.out⟩
theorem eff_27 (w : World) : Calls Try.prog 101 #[.int .i64 27] w (EffPost [] [1, 1] w) := by
  have HB : Hid (∀ W, Calls Try.prog 105 #[.int .i64 2, .int .i64 1] W (RowT 59 [1, 1] W)) := fun W => of_any 2 1 W (by decide)
  go_enter Try.func101, Try.ntmps101
  go_wp2_with fail
  refine (HB.out _).mono ?_
  rintro e w1 ⟨v1, rfl, ho, hb⟩
  have HO1 := Lib.hid ho
  have HB1 := Lib.hid hb
  clear ho hb
  go_wp2_with fail
  go_ret2
  exact ⟨_, _, rfl, IV.nil _ _ _ (Nat.zero_le _), iv_rowt HO1.out (Below.refl _ _) (by simp [maxLen]), HB1.out⟩
theorem eff_28 (w : World) : Calls Try.prog 101 #[.int .i64 28] w (EffPost [] [] w) := by
  go_enter Try.func101, Try.ntmps101
  go_wp2_with fail
  go_ret2
  exact ⟨_, _, rfl, IV.nil _ _ _ (Nat.zero_le _), IV.nil _ _ _ (Nat.zero_le _), Below.refl _ _⟩
theorem eff_29 (w : World) : Calls Try.prog 101 #[.int .i64 29] w (EffPost [] [] w) := by
  go_enter Try.func101, Try.ntmps101
  go_wp2_with fail
  go_ret2
  exact ⟨_, _, rfl, IV.nil _ _ _ (Nat.zero_le _), IV.nil _ _ _ (Nat.zero_le _), Below.refl _ _⟩
theorem eff_30 (w : World) : Calls Try.prog 101 #[.int .i64 30] w (EffPost [1] [] w) := by
  have HA : Hid (∀ W, Calls Try.prog 105 #[.int .i64 1, .int .i64 1] W (RowT 59 [1] W)) := fun W => of_any 1 1 W (by decide)
  go_enter Try.func101, Try.ntmps101
  go_wp2_with fail
  refine (HA.out _).mono ?_
  rintro e w1 ⟨v1, rfl, ho, hb⟩
  have HO1 := Lib.hid ho
  have HB1 := Lib.hid hb
  clear ho hb
  go_wp2_with fail
  go_ret2
  exact ⟨_, _, rfl, iv_rowt HO1.out (Below.refl _ _) (by simp [maxLen]), IV.nil _ _ _ (Nat.zero_le _), HB1.out⟩
theorem eff_31 (w : World) : Calls Try.prog 101 #[.int .i64 31] w (EffPost [] [] w) := by
  go_enter Try.func101, Try.ntmps101
  go_wp2_with fail
  go_ret2
  exact ⟨_, _, rfl, IV.nil _ _ _ (Nat.zero_le _), IV.nil _ _ _ (Nat.zero_le _), Below.refl _ _⟩
theorem eff_32 (w : World) : Calls Try.prog 101 #[.int .i64 32] w (EffPost [] [1] w) := by
  have HB : Hid (∀ W, Calls Try.prog 105 #[.int .i64 1, .int .i64 1] W (RowT 59 [1] W)) := fun W => of_any 1 1 W (by decide)
  go_enter Try.func101, Try.ntmps101
  go_wp2_with fail
  refine (HB.out _).mono ?_
  rintro e w1 ⟨v1, rfl, ho, hb⟩
  have HO1 := Lib.hid ho
  have HB1 := Lib.hid hb
  clear ho hb
  go_wp2_with fail
  go_ret2
  exact ⟨_, _, rfl, IV.nil _ _ _ (Nat.zero_le _), iv_rowt HO1.out (Below.refl _ _) (by simp [maxLen]), HB1.out⟩
theorem eff_33 (w : World) : Calls Try.prog 101 #[.int .i64 33] w (EffPost [] [] w) := by
  go_enter Try.func101, Try.ntmps101
  go_wp2_with fail
  go_ret2
  exact ⟨_, _, rfl, IV.nil _ _ _ (Nat.zero_le _), IV.nil _ _ _ (Nat.zero_le _), Below.refl _ _⟩
theorem eff_34 (w : World) : Calls Try.prog 101 #[.int .i64 34] w (EffPost [] [] w) := by
  go_enter Try.func101, Try.ntmps101
  go_wp2_with fail
  go_ret2
  exact ⟨_, _, rfl, IV.nil _ _ _ (Nat.zero_le _), IV.nil _ _ _ (Nat.zero_le _), Below.refl _ _⟩
theorem eff_any (op : Int) (w : World) (h : 0 ≤ op) (h' : op < 35) : Calls Try.prog 101 #[.int .i64 op] w (EffPost (takeOf op) (giveOf op) w) := by
  rcases op_cases op h h' with rfl | rfl | rfl | rfl | rfl | rfl | rfl | rfl | rfl | rfl | rfl | rfl | rfl | rfl | rfl | rfl | rfl | rfl | rfl | rfl | rfl | rfl | rfl | rfl | rfl | rfl | rfl | rfl | rfl | rfl | rfl | rfl | rfl | rfl | rfl
  · exact eff_0 w
  · exact eff_1 w
  · exact eff_2 w
  · exact eff_3 w
  · exact eff_4 w
  · exact eff_5 w
  · exact eff_6 w
  · exact eff_7 w
  · exact eff_8 w
  · exact eff_9 w
  · exact eff_10 w
  · exact eff_11 w
  · exact eff_12 w
  · exact eff_13 w
  · exact eff_14 w
  · exact eff_15 w
  · exact eff_16 w
  · exact eff_17 w
  · exact eff_18 w
  · exact eff_19 w
  · exact eff_20 w
  · exact eff_21 w
  · exact eff_22 w
  · exact eff_23 w
  · exact eff_24 w
  · exact eff_25 w
  · exact eff_26 w
  · exact eff_27 w
  · exact eff_28 w
  · exact eff_29 w
  · exact eff_30 w
  · exact eff_31 w
  · exact eff_32 w
  · exact eff_33 w
  · exact eff_34 w
end Go.Proofs.Ythaniobijkdnoaa
