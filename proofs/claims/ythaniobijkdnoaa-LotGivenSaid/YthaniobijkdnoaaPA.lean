/- THE PLAIN LAW: the program that lot makes is fine: heads, a judgement on pieces of code, statements, bodies. No condition beyond each theorem's premises. -/
import Derived.Test.YthaniobijkdnoaaLY

namespace Go.Proofs.Ythaniobijkdnoaa
open Go.RowKit

theorem dr_rng (ws : List Int) (p : Nat) (b : Int) (hb : 1 ≤ b) : 0 ≤ drV ws p b ∧ drV ws p b < b := by
  unfold drV
  split
  · omega
  · unfold remV
    have h1 := Int.tmod_lt_of_pos (ws.getD p 0) (show 0 < b by omega)
    have h2 : -b < (ws.getD p 0).tmod b := Int.neg_lt_of_neg_lt (by have := Int.lt_tmod_of_pos (ws.getD p 0) (show 0 < b by omega); omega)
    split <;> omega
theorem typesV_len (ws : List Int) (most : Int) (p : Nat) (h : 0 ≤ most) : ((typesV ws most p).1.length : Int) ≤ most := by
  have h1 := dr_rng ws p (most + 1) (by omega)
  rw [typesV, typesK_len]
  omega
theorem typesV_ty (ws : List Int) (most : Int) (p : Nat) : ∀ t ∈ (typesV ws most p).1, t = 1 ∨ t = 2 := typesK_ty _ _ _
/-- a head is right -/
structure HF (f : Fn) : Prop where
  o : ∀ t ∈ f.outer, t = 1 ∨ t = 2
  p : ∀ t ∈ f.params, t = 1 ∨ t = 2
  r : ∀ t ∈ f.results, t = 1 ∨ t = 2
  l : ∀ t ∈ f.locals, t = 1 ∨ t = 2
  bo : f.outer.length ≤ 2
  bp : f.params.length ≤ 2
  br : f.results.length ≤ 2
  bl : f.locals.length ≤ 3
  oi : f.outer.length = 0 ∨ f.inner = true
def nameAt (i : Nat) : ByteArray := if i = 0 then mainName else headName i
structure HL (out : List Fn) : Prop where
  n1 : 1 ≤ out.length
  f : ∀ x ∈ out, HF x
  nm : ∀ i (h : i < out.length), (out[i]).name = nameAt i
  m : (out[0]!).params = [1, 1] ∧ (out[0]!).results = [1] ∧ (out[0]!).inner = false
theorem headS_hf (ws : List Int) (out : List Fn) (p : Nat) (h : HL out) : HF (headS ws out out.length p).1 ∧ (headS ws out out.length p).1.name = headName out.length := by
  have hlen : ∀ p, (typesV ws 2 p).1.length ≤ 2 := fun p => by have := typesV_len ws 2 p (by omega); omega
  have hn := h.n1
  unfold headS
  simp only
  split
  · refine ⟨⟨?_, typesV_ty _ _ _, typesV_ty _ _ _, typesV_ty _ _ _, ?_, hlen _, hlen _, Nat.le_succ_of_le (hlen _), .inr rfl⟩, rfl⟩
    all_goals
      have hr := dr_rng ws (drP ws (typesV ws 2 (typesV ws 2 (typesV ws 2 p).2).2).2 3) out.length (by omega)
      obtain ⟨i, hi⟩ : ∃ i : Nat, i = (drV ws (drP ws (typesV ws 2 (typesV ws 2 (typesV ws 2 p).2).2).2 3) out.length).toNat := ⟨_, rfl⟩
      have hil : i < out.length := by omega
      simp only [← hi]
      rw [List.getD_eq_getElem?_getD, List.getElem?_eq_getElem hil]
    · exact (h.f _ (List.getElem_mem hil)).r
    · exact (h.f _ (List.getElem_mem hil)).br
  · exact ⟨⟨fun t ht => absurd ht (by simp), typesV_ty _ _ _, typesV_ty _ _ _, typesV_ty _ _ _, Nat.zero_le _, hlen _, hlen _, Nat.le_succ_of_le (hlen _), .inl rfl⟩, rfl⟩
theorem headsK_hl (ws : List Int) (k : Nat) : ∀ o : List Fn × Nat, HL o.1 → HL (headsK ws k o).1 ∧ (headsK ws k o).1.length = o.1.length + k := by
  induction k with
  | zero => intro o h; exact ⟨h, rfl⟩
  | succ k ih =>
    intro o h
    have hf := headS_hf ws o.1 o.2 h
    have hn := h.n1
    rw [headsK]
    have h2 : HL (o.1 ++ [(headS ws o.1 o.1.length o.2).1]) := by
      refine ⟨by simp, fun x hx => ?_, fun i hi => ?_, ?_⟩
      · rcases List.mem_append.1 hx with h1 | h1
        · exact h.f x h1
        · simp at h1; subst h1; exact hf.1
      · by_cases hio : i < o.1.length
        · rw [List.getElem_append_left hio]; exact h.nm i hio
        · have hie : i = o.1.length := by simp at hi; omega
          subst hie
          rw [List.getElem_append_right (Nat.le_refl _)]
          simp only [Nat.sub_self, List.getElem_cons_zero]
          rw [hf.2, nameAt, if_neg (by omega)]
      · have e : (o.1 ++ [(headS ws o.1 o.1.length o.2).1])[0]! = o.1[0]! := by
          rw [getElem!_pos _ 0 (by simp), getElem!_pos _ 0 (by omega), List.getElem_append_left (by omega)]
        rw [e]; exact h.m
    obtain ⟨q1, q2⟩ := ih (o.1 ++ [(headS ws o.1 o.1.length o.2).1], (headS ws o.1 o.1.length o.2).2) h2
    refine ⟨q1, ?_⟩
    rw [q2]
    simp
    omega
theorem headsV_hl (ws : List Int) : HL (headsV ws).1 ∧ (headsV ws).1.length ≤ 6 := by
  have h0 : HL (mainHd ws).1 := by
    refine ⟨by simp [mainHd], fun x hx => ?_, fun i hi => ?_, rfl, rfl, rfl⟩
    · simp only [mainHd, List.mem_singleton] at hx
      subst hx
      have h3 := typesV_len ws 3 (drP ws 0 6) (by omega)
      exact ⟨fun t ht => absurd ht (by simp), fun t ht => by simp at ht; exact .inl ht, fun t ht => by simp at ht; exact .inl ht, typesV_ty _ _ _, Nat.zero_le _, Nat.le_refl _, by simp, by simp only; omega, .inl rfl⟩
    · have hi0 : i = 0 := by simp [mainHd] at hi; exact hi
      subst hi0
      rfl
  have hr := dr_rng ws 0 6 (by omega)
  obtain ⟨q1, q2⟩ := headsK_hl ws (drV ws 0 6 + 1 - 1).toNat (mainHd ws) h0
  rw [headsV_eq]
  refine ⟨q1, ?_⟩
  rw [q2]
  have : (mainHd ws).1.length = 1 := rfl
  omega
theorem heads_hdT (ws : List Int) : HdT (headsV ws).1 := by
  obtain ⟨h, hl⟩ := headsV_hl ws
  refine ⟨h.n1, by omega, fun f hf => (h.f f hf).o, fun f hf => (h.f f hf).p, fun f hf => (h.f f hf).r, fun f hf => (h.f f hf).l, fun f hf => ?_⟩
  have q := h.f f hf
  have h1 := q.bo
  have h2 := q.bp
  have h3 := q.br
  have h4 := q.bl
  omega
theorem heads_names (ws : List Int) : ∀ f ∈ (headsV ws).1, f.name.size ≤ 12 := by
  obtain ⟨h, hl⟩ := headsV_hl ws
  intro f hf
  obtain ⟨i, hi, rfl⟩ := List.getElem_of_mem hf
  rw [h.nm i hi, nameAt]
  split
  · decide
  · exact (by decide : (2 : Nat) ≤ 12)
end Go.Proofs.Ythaniobijkdnoaa

namespace Go.Proofs.Ythaniobijkdnoaa
open Go.RowKit

/-- what an instruction takes and gives, told from the heads and a list of slots -/
inductive Nd (A : List Fn) (O R : List Int) (inn : Bool) (L : List Int) : Int × Int → List Int → List Int → List Int → Prop
  | other (x y : Int) (st : List Int) : 0 ≤ x → x < 35 → (x ≠ 2 ∧ x ≠ 3 ∧ x ≠ 4 ∧ x ≠ 5 ∧ x ≠ 23 ∧ x ≠ 24 ∧ x ≠ 25 ∧ x ≠ 28 ∧ x ≠ 29 ∧ x ≠ 33 ∧ x ≠ 34 ∧ x ≠ 21) → (x = 1 ∨ x = 22 ∨ y = 0) → Nd A O R inn L (x, y) st (takeOf x) (giveOf x)
  | load (i : Nat) (st : List Int) : i < L.length → Nd A O R inn L (2, (i : Int)) st [] [L[i]!]
  | store (i : Nat) (st : List Int) : i < L.length → Nd A O R inn L (3, (i : Int)) st [L[i]!] []
  | pop (t : Int) (st : List Int) : 0 < st.length → st[st.length - 1]! = t → Nd A O R inn L (4, 0) st [t] []
  | dup (t : Int) (st : List Int) : 0 < st.length → st[st.length - 1]! = t → Nd A O R inn L (5, 0) st [] [t]
  | call (g : Nat) (st : List Int) : g < A.length → (A[g]!).inner = false → Nd A O R inn L (23, (g : Int)) st (A[g]!).params (A[g]!).results
  | getres (i : Nat) (st : List Int) : i < O.length → inn = true → Nd A O R inn L (28, (i : Int)) st [] [O[i]!]
  | setres (i : Nat) (st : List Int) : i < O.length → inn = true → Nd A O R inn L (29, (i : Int)) st [O[i]!] []
  | defer (g : Nat) (st : List Int) : g < A.length → ((A[g]!).inner = false ∨ ((A[g]!).inner = true ∧ (A[g]!).outer = R)) → Nd A O R inn L (24, (g : Int)) st (A[g]!).params []
theorem get_prefix {L L' : List Int} (h : L <+: L') {i : Nat} (hi : i < L.length) : i < L'.length ∧ L'[i]! = L[i]! := by
  obtain ⟨t, rfl⟩ := h
  have h1 : i < (L ++ t).length := by rw [List.length_append]; omega
  refine ⟨h1, ?_⟩
  rw [getElem!_pos _ i h1, getElem!_pos _ i hi, List.getElem_append_left hi]
theorem Nd.mono {A : List Fn} {O R L L' : List Int} {inn : Bool} {x : Int × Int} {s a d : List Int} (h : Nd A O R inn L x s a d) (hp : L <+: L') : Nd A O R inn L' x s a d := by
  cases h with
  | other x y st h1 h2 h3 h4 => exact .other x y s h1 h2 h3 h4
  | load i st hi => rw [← (get_prefix hp hi).2]; exact .load i s (get_prefix hp hi).1
  | store i st hi => rw [← (get_prefix hp hi).2]; exact .store i s (get_prefix hp hi).1
  | pop t st h1 h2 => exact .pop t s h1 h2
  | dup t st h1 h2 => exact .dup t s h1 h2
  | call g st h1 h2 => exact .call g s h1 h2
  | getres i st h1 h2 => exact .getres i s h1 h2
  | setres i st h1 h2 => exact .setres i s h1 h2
  | defer g st h1 h2 => exact .defer g s h1 h2
/-- places that are reached from a piece's entry -/
inductive Rp (b : Nat) (C : List (Int × Int)) : Nat → Prop
  | zero : Rp b C 0
  | step (i k : Nat) : Rp b C i → i < C.length → (((b + k : Nat) : Int) ∈ nextOf (C[i]!).1 (C[i]!).2 ((b + i : Nat) : Int)) → Rp b C k
def Sem (N : Int × Int → List Int → List Int → List Int → Prop) (b : Nat) (C : List (Int × Int)) (s t : List Int) : Prop :=
  ∃ T out : Nat → List Int, T 0 = s ∧ T C.length = t ∧
    (∀ i, i < C.length → ∃ q a d, T i = q ++ a ∧ out i = q ++ d ∧ (q ++ a).length ≤ 60 ∧ (q ++ d).length ≤ 60 ∧ N C[i]! (q ++ a) a d) ∧
    (∀ i, i < C.length → ∀ j ∈ nextOf (C[i]!).1 (C[i]!).2 ((b + i : Nat) : Int), ∃ k : Nat, j = ((b + k : Nat) : Int) ∧ k ≤ C.length ∧ T k = out i) ∧
    ∀ i, i ≤ C.length → Rp b C i
section
variable {N : Int × Int → List Int → List Int → List Int → Prop}
theorem Sem.nil (b : Nat) (s : List Int) : Sem N b [] s s :=
  ⟨fun _ => s, fun _ => s, rfl, rfl, fun i hi => absurd hi (by simp), fun i hi => absurd hi (by simp), fun i hi => by
    have h0 : i = 0 := by simpa using hi
    rw [h0]; exact .zero⟩
theorem Sem.one (b : Nat) (x : Int × Int) (q a d : List Int) (h1 : (q ++ a).length ≤ 60) (h2 : (q ++ d).length ≤ 60) (hn : N x (q ++ a) a d) (hx : x.1 ≠ 21 ∧ x.1 ≠ 22 ∧ x.1 ≠ 25 ∧ x.1 ≠ 26) : Sem N b [x] (q ++ a) (q ++ d) := by
  have hnx : nextOf x.1 x.2 ((b + 0 : Nat) : Int) = [((b + 1 : Nat) : Int)] := by
    unfold nextOf
    rw [if_neg hx.1, if_neg (fun h => hx.2.1 h.1), if_neg (by omega)]
    simp
  refine ⟨fun i => if i = 0 then q ++ a else q ++ d, fun _ => q ++ d, rfl, rfl, fun i hi => ?_, fun i hi j hj => ?_, fun i hi => ?_⟩
  · have h0 : i = 0 := by simpa using hi
    subst h0
    exact ⟨q, a, d, rfl, rfl, h1, h2, hn⟩
  · have h0 : i = 0 := by simpa using hi
    subst h0
    have hj' : j ∈ nextOf x.1 x.2 ((b + 0 : Nat) : Int) := hj
    rw [hnx] at hj'
    simp at hj'
    exact ⟨1, by rw [hj']; simp, by simp, rfl⟩
  · have hi' : i = 0 ∨ i = 1 := by simp at hi; omega
    rcases hi' with rfl | rfl
    · exact .zero
    · exact .step 0 1 .zero (by simp) (by show ((b + 1 : Nat) : Int) ∈ nextOf x.1 x.2 ((b + 0 : Nat) : Int); rw [hnx]; simp)
theorem get_app_l {C D : List (Int × Int)} {i : Nat} (hi : i < C.length) : (C ++ D)[i]! = C[i]! := by
  rw [getElem!_pos _ i (by rw [List.length_append]; omega), getElem!_pos _ i hi, List.getElem_append_left hi]
theorem get_app_r {C D : List (Int × Int)} {i : Nat} (hi : i < D.length) : (C ++ D)[C.length + i]! = D[i]! := by
  rw [getElem!_pos _ _ (by rw [List.length_append]; omega), getElem!_pos _ i hi, List.getElem_append_right (by omega)]
  congr 1
  omega
theorem Rp.left {b : Nat} {C D : List (Int × Int)} {i : Nat} (h : Rp b C i) : Rp b (C ++ D) i := by
  induction h with
  | zero => exact .zero
  | step i k _ hi hk ih => exact .step i k ih (by rw [List.length_append]; omega) (by rw [get_app_l hi]; exact hk)
theorem Rp.right {b : Nat} {C D : List (Int × Int)} {i : Nat} (hC : Rp b (C ++ D) C.length) (h : Rp (b + C.length) D i) : Rp b (C ++ D) (C.length + i) := by
  induction h with
  | zero => exact hC
  | step i k _ hi hk ih => exact .step (C.length + i) (C.length + k) ih (by rw [List.length_append]; omega) (by rw [get_app_r hi, ← Nat.add_assoc, ← Nat.add_assoc]; exact hk)
theorem Sem.app {b : Nat} {C D : List (Int × Int)} {s t u : List Int} (h : Sem N b C s t) (g : Sem N (b + C.length) D t u) : Sem N b (C ++ D) s u := by
  obtain ⟨T, o, h0, h1, h2, h3, h4⟩ := h
  obtain ⟨T', o', g0, g1, g2, g3, g4⟩ := g
  have eT : ∀ i, (fun i => if i < C.length then T i else T' (i - C.length)) (C.length + i) = T' i := fun i => by
    show (if C.length + i < C.length then T (C.length + i) else T' (C.length + i - C.length)) = T' i
    rw [if_neg (by omega), Nat.add_sub_cancel_left]
  have eL : ∀ i, i ≤ C.length → (fun i => if i < C.length then T i else T' (i - C.length)) i = T i := fun i hi => by
    show (if i < C.length then T i else T' (i - C.length)) = T i
    by_cases h : i < C.length
    · rw [if_pos h]
    · have : i = C.length := by omega
      subst this
      rw [if_neg h, Nat.sub_self, g0, h1]
  have eO : ∀ i, (fun i => if i < C.length then o i else o' (i - C.length)) (C.length + i) = o' i := fun i => by
    show (if C.length + i < C.length then o (C.length + i) else o' (C.length + i - C.length)) = o' i
    rw [if_neg (by omega), Nat.add_sub_cancel_left]
  have eOL : ∀ i, i < C.length → (fun i => if i < C.length then o i else o' (i - C.length)) i = o i := fun i hi => if_pos hi
  refine ⟨fun i => if i < C.length then T i else T' (i - C.length), fun i => if i < C.length then o i else o' (i - C.length), (eL 0 (Nat.zero_le _)).trans h0, by rw [List.length_append]; exact (eT _).trans g1, fun i hi => ?_, fun i hi j hj => ?_, fun i hi => ?_⟩
  · by_cases hc : i < C.length
    · rw [get_app_l hc, eL i (by omega), eOL i hc]
      exact h2 i hc
    · obtain ⟨k, rfl⟩ : ∃ k, i = C.length + k := ⟨i - C.length, by omega⟩
      have hk : k < D.length := by rw [List.length_append] at hi; omega
      rw [get_app_r hk, eT, eO]
      exact g2 k hk
  · by_cases hc : i < C.length
    · rw [get_app_l hc] at hj
      obtain ⟨k, q1, q2, q3⟩ := h3 i hc j hj
      exact ⟨k, q1, by rw [List.length_append]; omega, by rw [eL k q2, eOL i hc]; exact q3⟩
    · obtain ⟨m, rfl⟩ : ∃ k, i = C.length + k := ⟨i - C.length, by omega⟩
      have hk : m < D.length := by rw [List.length_append] at hi; omega
      rw [get_app_r hk, ← Nat.add_assoc] at hj
      obtain ⟨k, q1, q2, q3⟩ := g3 m hk j hj
      exact ⟨C.length + k, by rw [q1, Nat.add_assoc], by rw [List.length_append]; omega, by rw [eT, eO]; exact q3⟩
  · by_cases hc : i ≤ C.length
    · exact (h4 i hc).left
    · obtain ⟨k, rfl⟩ : ∃ k, i = C.length + k := ⟨i - C.length, by omega⟩
      exact Rp.right (h4 _ (Nat.le_refl _)).left (g4 k (by rw [List.length_append] at hi; omega))
end
end Go.Proofs.Ythaniobijkdnoaa

namespace Go.Proofs.Ythaniobijkdnoaa
open Go.RowKit

section
variable {N : Int × Int → List Int → List Int → List Int → Prop}
theorem get_cons (x : Int × Int) (C : List (Int × Int)) (i : Nat) : (x :: C)[i + 1]! = C[i]! := by simp
theorem Rp.cons {b : Nat} {x : Int × Int} {C : List (Int × Int)} {i : Nat} (h1 : Rp b (x :: C) 1) (h : Rp (b + 1) C i) : Rp b (x :: C) (i + 1) := by
  induction h with
  | zero => exact h1
  | step i k _ hi hk ih => exact .step (i + 1) (k + 1) ih (by simpa using hi) (by rw [get_cons, show b + (k + 1) = b + 1 + k by omega, show b + (i + 1) = b + 1 + i by omega]; exact hk)
/-- an instruction ahead of a piece, that goes on there, or behind it -/
theorem Sem.cons {b : Nat} {x : Int × Int} {C : List (Int × Int)} {q a d u : List Int} (h : Sem N (b + 1) C (q ++ d) u) (l1 : (q ++ a).length ≤ 60) (l2 : (q ++ d).length ≤ 60) (hn : N x (q ++ a) a d)
    (hj : ∀ j ∈ nextOf x.1 x.2 ((b : Nat) : Int), j = ((b + 1 : Nat) : Int) ∨ (j = ((b + 1 + C.length : Nat) : Int) ∧ u = q ++ d)) (hm : ((b + 1 : Nat) : Int) ∈ nextOf x.1 x.2 ((b : Nat) : Int)) : Sem N b (x :: C) (q ++ a) u := by
  obtain ⟨T, o, h0, h1, h2, h3, h4⟩ := h
  have r1 : Rp b (x :: C) 1 := .step 0 1 .zero (by simp) hm
  refine ⟨fun i => match i with | 0 => q ++ a | i + 1 => T i, fun i => match i with | 0 => q ++ d | i + 1 => o i, rfl, h1, fun i hi => ?_, fun i hi j hj' => ?_, fun i hi => ?_⟩
  · cases i with
    | zero => exact ⟨q, a, d, rfl, rfl, l1, l2, hn⟩
    | succ i =>
      rw [get_cons]
      exact h2 i (by simpa using hi)
  · cases i with
    | zero =>
      rcases hj j hj' with h | ⟨h, e⟩
      · exact ⟨1, h, by simp, h0⟩
      · exact ⟨C.length + 1, by rw [h, Nat.add_assoc, Nat.add_comm 1], by simp, by show T _ = _; rw [h1, e]⟩
    | succ i =>
      rw [get_cons, show b + (i + 1) = b + 1 + i by omega] at hj'
      obtain ⟨k, q1, q2, q3⟩ := h3 i (by simpa using hi) j hj'
      exact ⟨k + 1, by rw [q1]; congr 1; omega, by simpa using q2, q3⟩
  · cases i with
    | zero => exact .zero
    | succ i => exact Rp.cons r1 (h4 i (by simpa using hi))
/-- a test that jumps over a piece -/
theorem Sem.branch {b : Nat} {C : List (Int × Int)} {s : List Int} (h : Sem N (b + 1) C s s) (hs : s.length < 60) (hn : N (22, ((b + 1 + C.length : Nat) : Int)) (s ++ [1]) [1] []) : Sem N b ((22, ((b + 1 + C.length : Nat) : Int)) :: C) (s ++ [1]) s := by
  have hs' : s ++ [] = s := List.append_nil s
  refine Sem.cons (d := []) (by rw [hs']; exact h) (by simp; omega) (by simp; omega) hn (fun j hj => ?_) ?_
  · unfold nextOf at hj
    rw [if_neg (by simp)] at hj
    split at hj
    · simp at hj
      rcases hj with h | h
      · exact .inl (by rw [h]; simp)
      · exact .inr ⟨by rw [h]; simp, hs'.symm⟩
    · simp at hj
      exact .inl (by rw [hj]; simp)
  · unfold nextOf
    rw [if_neg (by simp)]
    split <;> simp
/-- as Sem, where the exit need not be reached -/
def SemX (N : Int × Int → List Int → List Int → List Int → Prop) (b : Nat) (C : List (Int × Int)) (s t : List Int) : Prop :=
  ∃ T out : Nat → List Int, T 0 = s ∧ T C.length = t ∧
    (∀ i, i < C.length → ∃ q a d, T i = q ++ a ∧ out i = q ++ d ∧ (q ++ a).length ≤ 60 ∧ (q ++ d).length ≤ 60 ∧ N C[i]! (q ++ a) a d) ∧
    (∀ i, i < C.length → ∀ j ∈ nextOf (C[i]!).1 (C[i]!).2 ((b + i : Nat) : Int), ∃ k : Nat, j = ((b + k : Nat) : Int) ∧ k ≤ C.length ∧ T k = out i) ∧
    ∀ i, i < C.length → Rp b C i
theorem SemX.snoc {b : Nat} {x : Int × Int} {C : List (Int × Int)} {s q a d u : List Int} (h : Sem N b C s (q ++ a)) (l1 : (q ++ a).length ≤ 60) (l2 : (q ++ d).length ≤ 60) (hn : N x (q ++ a) a d) (h0C : 1 ≤ C.length)
    (hj : ∀ j ∈ nextOf x.1 x.2 ((b + C.length : Nat) : Int), (j = ((b + C.length + 1 : Nat) : Int) ∧ u = q ++ d) ∨ (j = (b : Int) ∧ s = q ++ d)) : SemX N b (C ++ [x]) s u := by
  obtain ⟨T, o, h0, h1, h2, h3, h4⟩ := h
  have hx : (C ++ [x])[C.length]! = x := by rw [getElem!_pos _ _ (by simp)]; simp
  have eT : ∀ i, i ≤ C.length → (fun i => if i ≤ C.length then T i else u) i = T i := fun i hi => if_pos hi
  have eO : ∀ i, i < C.length → (fun i => if i < C.length then o i else q ++ d) i = o i := fun i hi => if_pos hi
  refine ⟨fun i => if i ≤ C.length then T i else u, fun i => if i < C.length then o i else q ++ d, (eT 0 (Nat.zero_le _)).trans h0, by rw [List.length_append]; exact if_neg (by simp), fun i hi => ?_, fun i hi j hj' => ?_, fun i hi => ?_⟩
  · by_cases hc : i < C.length
    · rw [get_app_l hc, eT i (by omega), eO i hc]
      exact h2 i hc
    · have : i = C.length := by simp at hi; omega
      subst this
      rw [hx, eT _ (Nat.le_refl _)]
      exact ⟨q, a, d, h1, if_neg hc, l1, l2, hn⟩
  · by_cases hc : i < C.length
    · rw [get_app_l hc] at hj'
      obtain ⟨k, q1, q2, q3⟩ := h3 i hc j hj'
      exact ⟨k, q1, by simp; omega, by rw [eT k q2, eO i hc]; exact q3⟩
    · have : i = C.length := by simp at hi; omega
      subst this
      rw [hx] at hj'
      rcases hj j hj' with ⟨e1, e2⟩ | ⟨e1, e2⟩
      · exact ⟨C.length + 1, by rw [e1, Nat.add_assoc], by simp, by simp only []; rw [if_neg (by omega), if_neg (by omega), e2]⟩
      · exact ⟨0, by rw [e1]; simp, by simp, by rw [eT 0 (Nat.zero_le _), h0, e2]; simp⟩
  · exact (h4 i (by simp at hi; omega)).left
theorem SemX.sem {b : Nat} {C : List (Int × Int)} {s t : List Int} (h : SemX N b C s t) (hr : Rp b C C.length) : Sem N b C s t := by
  obtain ⟨T, o, h0, h1, h2, h3, h4⟩ := h
  refine ⟨T, o, h0, h1, h2, h3, fun i hi => ?_⟩
  by_cases hc : i < C.length
  · exact h4 i hc
  · have : i = C.length := by omega
    rw [this]; exact hr
/-- a jump back to the entry -/
theorem Sem.loop {b : Nat} {C : List (Int × Int)} {s : List Int} (h : Sem N b C s (s ++ [1])) (hs : s.length < 60) (hn : N (22, (b : Int)) (s ++ [1]) [1] []) (h0C : 1 ≤ C.length) : Sem N b (C ++ [(22, (b : Int))]) s s := by
  have hs' : s ++ [] = s := List.append_nil s
  have hnx : nextOf 22 (b : Int) ((b + C.length : Nat) : Int) = [((b + C.length : Nat) : Int) + 1, (b : Int)] := by
    unfold nextOf
    rw [if_neg (by simp), if_pos ⟨rfl, by omega⟩]
  have hl : Rp b (C ++ [(22, (b : Int))]) C.length := by obtain ⟨T, o, _, _, _, _, h4⟩ := h; exact (h4 _ (Nat.le_refl _)).left
  refine SemX.sem (SemX.snoc (q := s) (a := [1]) (d := []) h (by simp; omega) (by simp; omega) hn h0C (fun j hj => ?_)) ?_
  · have hj' : j ∈ nextOf 22 (b : Int) ((b + C.length : Nat) : Int) := hj
    rw [hnx] at hj'
    simp at hj'
    rcases hj' with h | h
    · exact .inl ⟨by rw [h]; simp, hs'.symm⟩
    · exact .inr ⟨h, hs'.symm⟩
  · refine .step C.length _ hl (by simp) ?_
    rw [show (C ++ [(22, (b : Int))])[C.length]! = (22, (b : Int)) by rw [getElem!_pos _ _ (by simp)]; simp]
    show _ ∈ nextOf 22 (b : Int) ((b + C.length : Nat) : Int)
    rw [hnx]
    simp
    omega
/-- a piece that ends a run -/
theorem Sem.halt {b : Nat} {C : List (Int × Int)} {s : List Int} (h : Sem N b C s (s ++ [1])) (hs : s.length < 60) (hn : N (26, 0) (s ++ [1]) [1] []) (h0C : 1 ≤ C.length) : SemX N b (C ++ [(26, 0)]) s s := by
  have hs' : s ++ [] = s := List.append_nil s
  refine SemX.snoc (q := s) (a := [1]) (d := []) h (by simp; omega) (by simp; omega) hn h0C (fun j hj => ?_)
  have hj' : j ∈ nextOf 26 0 ((b + C.length : Nat) : Int) := hj
  simp [nextOf] at hj'
/-- a test that jumps over a piece whose end need not be reached -/
theorem SemX.branch {b : Nat} {C : List (Int × Int)} {s : List Int} (h : SemX N (b + 1) C s s) (hs : s.length < 60) (h0C : 1 ≤ C.length) (hn : N (22, ((b + 1 + C.length : Nat) : Int)) (s ++ [1]) [1] []) : Sem N b ((22, ((b + 1 + C.length : Nat) : Int)) :: C) (s ++ [1]) s := by
  obtain ⟨T, o, h0, h1, h2, h3, h4⟩ := h
  have hnx : nextOf 22 ((b + 1 + C.length : Nat) : Int) (b : Int) = [(b : Int) + 1, ((b + 1 + C.length : Nat) : Int)] := by
    unfold nextOf
    rw [if_neg (by simp), if_pos ⟨rfl, by omega⟩]
  have r1 : Rp b ((22, ((b + 1 + C.length : Nat) : Int)) :: C) 1 := .step 0 1 .zero (by simp) (by
    show _ ∈ nextOf 22 ((b + 1 + C.length : Nat) : Int) (b : Int)
    rw [hnx]; simp)
  refine ⟨fun i => match i with | 0 => s ++ [1] | i + 1 => T i, fun i => match i with | 0 => s | i + 1 => o i, rfl, h1, fun i hi => ?_, fun i hi j hj' => ?_, fun i hi => ?_⟩
  · cases i with
    | zero => exact ⟨s, [1], [], rfl, (List.append_nil s).symm, by simp; omega, by simp; omega, hn⟩
    | succ i =>
      rw [get_cons]
      exact h2 i (by simpa using hi)
  · cases i with
    | zero =>
      have hj : j ∈ nextOf 22 ((b + 1 + C.length : Nat) : Int) (b : Int) := hj'
      rw [hnx] at hj
      simp at hj
      rcases hj with h | h
      · exact ⟨1, by rw [h]; simp, by simp, h0⟩
      · exact ⟨C.length + 1, by rw [h]; simp; omega, by simp, h1⟩
    | succ i =>
      rw [get_cons, show b + (i + 1) = b + 1 + i by omega] at hj'
      obtain ⟨k, q1, q2, q3⟩ := h3 i (by simpa using hi) j hj'
      exact ⟨k + 1, by rw [q1]; congr 1; omega, by simpa using q2, q3⟩
  · by_cases hc : i = C.length + 1
    · subst hc
      refine .step 0 _ .zero (by simp) ?_
      show _ ∈ nextOf 22 ((b + 1 + C.length : Nat) : Int) (b : Int)
      rw [hnx]
      simp
      omega
    · cases i with
      | zero => exact .zero
      | succ i => exact Rp.cons r1 (h4 i (by simp at hi; omega))
end
end Go.Proofs.Ythaniobijkdnoaa

namespace Go.Proofs.Ythaniobijkdnoaa
open Go.RowKit

theorem Sem.mono {N M : Int × Int → List Int → List Int → List Int → Prop} (hNM : ∀ x s a d, N x s a d → M x s a d) {b : Nat} {C : List (Int × Int)} {s t : List Int} (h : Sem N b C s t) : Sem M b C s t := by
  obtain ⟨T, o, h0, h1, h2, h3, h4⟩ := h
  refine ⟨T, o, h0, h1, fun i hi => ?_, h3, h4⟩
  obtain ⟨q, a, d, e1, e2, e3, e4, e5⟩ := h2 i hi
  exact ⟨q, a, d, e1, e2, e3, e4, hNM _ _ _ _ e5⟩
/-- what a step adds -/
structure Lc (S S' : St) (K : List Int) : Prop where
  pre : S.locals <+: S'.locals
  ty : ∀ t ∈ S'.locals, t ∈ S.locals ∨ t = 1
  ln : S.line ≤ S'.line
  lk : ∀ k ∈ K, S.line ≤ k ∧ k ≤ S'.line
theorem Lc.refl (S : St) : Lc S S [] := ⟨List.prefix_refl _, fun _ h => .inl h, Int.le_refl _, fun k hk => absurd hk (by simp)⟩
theorem Lc.trans {S S' S'' : St} {K J : List Int} (h : Lc S S' K) (g : Lc S' S'' J) : Lc S S'' (K ++ J) := by
  refine ⟨h.pre.trans g.pre, fun t ht => ?_, Int.le_trans h.ln g.ln, fun k hk => ?_⟩
  · rcases g.ty t ht with h1 | h1
    · exact h.ty t h1
    · exact .inr h1
  · have e1 := h.ln
    have e2 := g.ln
    rcases List.mem_append.1 hk with h1 | h1
    · have := h.lk k h1; omega
    · have := g.lk k h1; omega
def Pg (c : Kn) (inn : Bool) (s t : List Int) (S S' : St) : Prop :=
  ∃ C K, S'.code = S.code ++ C ∧ S'.lines = S.lines ++ K ∧ K.length = C.length ∧ Lc S S' K ∧ Sem (Nd c.all c.outer c.results inn (Lot.slots c S')) S.code.length C s t
theorem slots_pre {c : Kn} {S S' : St} (h : S.locals <+: S'.locals) : Lot.slots c S <+: Lot.slots c S' := by
  obtain ⟨t, ht⟩ := h
  exact ⟨t, by simp [Lot.slots, ← ht]⟩
theorem Pg.trans {c : Kn} {inn : Bool} {s t u : List Int} {S S' S'' : St} (h : Pg c inn s t S S') (g : Pg c inn t u S' S'') : Pg c inn s u S S'' := by
  obtain ⟨C, K, h1, h2, h3, h4, h5⟩ := h
  obtain ⟨D, J, g1, g2, g3, g4, g5⟩ := g
  refine ⟨C ++ D, K ++ J, by rw [g1, h1, List.append_assoc], by rw [g2, h2, List.append_assoc], by simp [h3, g3], h4.trans g4, (h5.mono fun x s a d hn => hn.mono (slots_pre g4.pre)).app ?_⟩
  rw [h1, List.length_append] at g5
  exact g5
theorem Pg.rS {c : Kn} {inn : Bool} {s : List Int} (b : Int) (S : St) : Pg c inn s s S (Lot.rS c b S) :=
  ⟨[], [], (List.append_nil _).symm, (List.append_nil _).symm, rfl, ⟨List.prefix_refl _, fun _ h => .inl h, Int.le_refl _, fun k hk => absurd hk (by simp)⟩, Sem.nil _ _⟩
theorem Pg.put {c : Kn} {inn : Bool} (q a d : List Int) (x y : Int) (S : St) (h1 : (q ++ a).length ≤ 60) (h2 : (q ++ d).length ≤ 60) (hn : Nd c.all c.outer c.results inn (Lot.slots c S) (x, y) (q ++ a) a d) (hx : x ≠ 21 ∧ x ≠ 22 ∧ x ≠ 25 ∧ x ≠ 26) : Pg c inn (q ++ a) (q ++ d) S (Lot.put x y S) :=
  ⟨[(x, y)], [S.line], rfl, rfl, rfl, ⟨List.prefix_refl _, fun _ h => .inl h, Int.le_refl _, fun k hk => by rw [List.mem_singleton.1 hk]; exact ⟨Int.le_refl _, Int.le_refl _⟩⟩, Sem.one _ _ q a d h1 h2 hn hx⟩
/-- pushes one of a kind without operand -/
theorem Pg.op {c : Kn} {inn : Bool} (q : List Int) (x y : Int) (S : St) (h1 : (q ++ takeOf x).length ≤ 60) (h2 : (q ++ giveOf x).length ≤ 60) (hx : 0 ≤ x ∧ x < 35 ∧ (x ≠ 2 ∧ x ≠ 3 ∧ x ≠ 4 ∧ x ≠ 5 ∧ x ≠ 23 ∧ x ≠ 24 ∧ x ≠ 25 ∧ x ≠ 28 ∧ x ≠ 29 ∧ x ≠ 33 ∧ x ≠ 34 ∧ x ≠ 21) ∧ x ≠ 22 ∧ x ≠ 26) (hy : x = 1 ∨ y = 0) : Pg c inn (q ++ takeOf x) (q ++ giveOf x) S (Lot.put x y S) :=
  Pg.put q _ _ x y S h1 h2 (.other x y _ hx.1 hx.2.1 hx.2.2.1 (hy.elim .inl (fun h => .inr (.inr h)))) ⟨by omega, hx.2.2.2.1, by omega, hx.2.2.2.2⟩
theorem Pg.push {c : Kn} {inn : Bool} (s : List Int) (y : Int) (S : St) (h : s.length < 60) : Pg c inn s (s ++ [1]) S (Lot.put 1 y S) := by
  have := Pg.op (c := c) (inn := inn) s 1 y S (by simp [takeOf]; omega) (by simp [giveOf]; omega) (by decide) (.inl rfl)
  simpa [takeOf, giveOf] using this
theorem Pg.pushS {c : Kn} {inn : Bool} (s : List Int) (S : St) (h : s.length < 60) : Pg c inn s (s ++ [1]) S (Lot.pushS c S) := (Pg.rS 9 S).trans (Pg.push s _ _ h)
theorem Pg.lit {c : Kn} {inn : Bool} (t : Int) (ht : t = 1 ∨ t = 2) (s : List Int) (S : St) (h : s.length < 59) : Pg c inn s (s ++ [t]) S (Lot.lit c t S) := by
  rcases ht with rfl | rfl
  · rw [Lot.lit, if_neg (by decide)]
    exact Pg.pushS s S (by omega)
  · rw [Lot.lit, if_pos rfl]
    have h1 := (Pg.pushS (c := c) (inn := inn) s S (by omega)).trans (Pg.pushS (s ++ [1]) _ (by simp; omega))
    have h2 := Pg.op (c := c) (inn := inn) s 15 0 (Lot.pushS c (Lot.pushS c S)) (by simp [takeOf]; omega) (by simp [giveOf]; omega) (by decide) (.inr rfl)
    refine h1.trans ?_
    simpa [takeOf, giveOf] using h2
theorem places_ok (t : Int) (l : List Int) : ∀ y ∈ Lot.places t l, ∃ i : Nat, y = i ∧ i < l.length ∧ l[i]! = t := by
  intro y hy
  simp only [Lot.places, List.mem_map, List.mem_filter, List.mem_range, beq_iff_eq] at hy
  obtain ⟨i, ⟨h1, h2⟩, rfl⟩ := hy
  refine ⟨i, rfl, h1, ?_⟩
  rw [getElem!_pos _ i h1]
  rw [List.getD_eq_getElem?_getD, List.getElem?_eq_getElem h1] at h2
  exact h2
theorem slotV_ok (c : Kn) (t : Int) (S : St) (h : 0 ≤ Lot.slotV c t S) : ∃ i : Nat, Lot.slotV c t S = i ∧ i < (Lot.slots c S).length ∧ (Lot.slots c S)[i]! = t := by
  unfold Lot.slotV at h ⊢
  by_cases h0 : Lot.places t (Lot.slots c S) = []
  · rw [if_pos h0] at h; omega
  · rw [if_neg h0]
    have hl : 1 ≤ (Lot.places t (Lot.slots c S)).length := List.length_pos_iff.2 h0
    have hr := dr_rng c.ws S.pos (Lot.places t (Lot.slots c S)).length (by omega)
    have hi : (Lot.rV c (Lot.places t (Lot.slots c S)).length S).toNat < (Lot.places t (Lot.slots c S)).length := by
      show (drV c.ws S.pos (Lot.places t (Lot.slots c S)).length).toNat < _
      omega
    rw [List.getD_eq_getElem?_getD, List.getElem?_eq_getElem hi]
    exact places_ok t _ _ (List.getElem_mem hi)
theorem Pg.slotS {c : Kn} {inn : Bool} (t : Int) (s : List Int) (S : St) : Pg c inn s s S (Lot.slotS c t S) := by
  unfold Lot.slotS
  split
  · exact ⟨[], [], (List.append_nil _).symm, (List.append_nil _).symm, rfl, Lc.refl _, Sem.nil _ _⟩
  · exact Pg.rS _ _
theorem slots_slotS (c : Kn) (t : Int) (S : St) : Lot.slots c (Lot.slotS c t S) = Lot.slots c S := by
  unfold Lot.slotS
  split <;> rfl
theorem Pg.leaf {c : Kn} {inn : Bool} (t : Int) (ht : t = 1 ∨ t = 2) (s : List Int) (S : St) (h : s.length < 59) : Pg c inn s (s ++ [t]) S (Lot.leaf c t S) := by
  unfold Lot.leaf
  split
  · rename_i hs
    obtain ⟨i, h1, h2, h3⟩ := slotV_ok c t S hs
    split
    · refine ((Pg.slotS t s S).trans (Pg.rS 3 _)).trans ?_
      rw [h1]
      have hn : Nd c.all c.outer c.results inn (Lot.slots c (Lot.rS c 3 (Lot.slotS c t S))) (2, (i : Int)) (s ++ []) [] [t] := by
        have e : Lot.slots c (Lot.rS c 3 (Lot.slotS c t S)) = Lot.slots c S := slots_slotS c t S
        rw [e, ← h3]
        exact .load i _ h2
      have := Pg.put (c := c) (inn := inn) s [] [t] 2 i (Lot.rS c 3 (Lot.slotS c t S)) (by simp; omega) (by simp; omega) hn (by decide)
      simpa using this
    · exact ((Pg.slotS t s S).trans (Pg.rS 3 _)).trans (Pg.lit t ht s _ h)
  · exact (Pg.slotS t s S).trans (Pg.lit t ht s _ h)
theorem Pg.op2 {c : Kn} {inn : Bool} (s a d : List Int) (x : Int) (S : St) (ha : takeOf x = a) (hd : giveOf x = d) (h1 : (s ++ a).length ≤ 60) (h2 : (s ++ d).length ≤ 60) (hx : 0 ≤ x ∧ x < 35 ∧ (x ≠ 2 ∧ x ≠ 3 ∧ x ≠ 4 ∧ x ≠ 5 ∧ x ≠ 23 ∧ x ≠ 24 ∧ x ≠ 25 ∧ x ≠ 28 ∧ x ≠ 29 ∧ x ≠ 33 ∧ x ≠ 34 ∧ x ≠ 21) ∧ x ≠ 22 ∧ x ≠ 26) : Pg c inn (s ++ a) (s ++ d) S (Lot.put x 0 S) := by
  subst ha hd
  exact Pg.op s x 0 S h1 h2 hx (.inr rfl)
theorem Pg.putN {c : Kn} {inn : Bool} (s : List Int) (S : St) (h : s.length < 60) : Pg c inn (s ++ [1]) (s ++ [1]) S (Lot.putN c S) := by
  unfold Lot.putN
  refine (Pg.rS 2 S).trans ?_
  have hr := dr_rng c.ws S.pos 2 (by omega)
  have e : (Lot.rV c 2 S).toNat = 0 ∨ (Lot.rV c 2 S).toNat = 1 := by
    show (drV c.ws S.pos 2).toNat = 0 ∨ (drV c.ws S.pos 2).toNat = 1
    omega
  rcases e with e | e <;> rw [e] <;> exact Pg.op2 s [1] [1] _ _ rfl rfl (by simp; omega) (by simp; omega) (by decide)
theorem Pg.putB {c : Kn} {inn : Bool} (s : List Int) (S : St) (h : s.length < 59) : Pg c inn (s ++ [1, 1]) (s ++ [1]) S (Lot.putB c S) := by
  unfold Lot.putB
  refine (Pg.rS 7 S).trans ?_
  have hr := dr_rng c.ws S.pos 7 (by omega)
  obtain ⟨k, hk⟩ : ∃ k, k = (Lot.rV c 7 S).toNat := ⟨_, rfl⟩
  have hk7 : k < 7 := by
    rw [hk]
    show (drV c.ws S.pos 7).toNat < 7
    omega
  rw [← hk]
  have e : k = 0 ∨ k = 1 ∨ k = 2 ∨ k = 3 ∨ k = 4 ∨ k = 5 ∨ k = 6 := by omega
  rcases e with e | e | e | e | e | e | e <;> rw [e] <;> exact Pg.op2 s [1, 1] [1] _ _ rfl rfl (by simp; omega) (by simp; omega) (by decide)
theorem Pg.put2 {c : Kn} {inn : Bool} (s a d : List Int) (o b : Int) (S : St) (hb : 1 ≤ b) (h1 : (s ++ a).length ≤ 60) (h2 : (s ++ d).length ≤ 60)
    (ho : ∀ k, 0 ≤ k → k < b → takeOf (o + k) = a ∧ giveOf (o + k) = d ∧ 0 ≤ o + k ∧ o + k < 35 ∧ (o + k ≠ 2 ∧ o + k ≠ 3 ∧ o + k ≠ 4 ∧ o + k ≠ 5 ∧ o + k ≠ 23 ∧ o + k ≠ 24 ∧ o + k ≠ 25 ∧ o + k ≠ 28 ∧ o + k ≠ 29 ∧ o + k ≠ 33 ∧ o + k ≠ 34 ∧ o + k ≠ 21) ∧ o + k ≠ 22 ∧ o + k ≠ 26) : Pg c inn (s ++ a) (s ++ d) S (Lot.put2 c o 0 b S) := by
  unfold Lot.put2
  refine (Pg.rS b S).trans ?_
  have hr := dr_rng c.ws S.pos b hb
  obtain ⟨q1, q2, q3⟩ := ho (Lot.rV c b S) hr.1 hr.2
  exact Pg.op2 s a d _ _ q1 q2 h1 h2 q3
theorem Pg.value {c : Kn} {inn : Bool} (n : Nat) : ∀ (t : Int) (s : List Int) (S : St), (t = 1 ∨ t = 2) → s.length + n < 59 → Pg c inn s (s ++ [t]) S (Lot.value c n t S) := by
  induction n with
  | zero =>
    intro t s S ht h
    rw [Lot.value]
    split
    · rename_i h1; subst h1
      exact (Pg.rS 8 S).trans (Pg.leaf 1 (.inl rfl) s _ (by omega))
    · exact Pg.leaf t ht s _ (by omega)
  | succ n ih =>
    intro t s S ht h
    have two : ∀ (t : Int) (S : St), (t = 1 ∨ t = 2) → Pg c inn s (s ++ [t, t]) S (Lot.value c n t (Lot.value c n t S)) := fun t S ht => by
      have h2 := (ih t s S ht (by omega)).trans (ih t (s ++ [t]) _ ht (by simp; omega))
      simpa using h2
    rw [Lot.value]
    split
    · rename_i h1; subst h1
      refine (Pg.rS 8 S).trans ?_
      split
      · exact Pg.leaf 1 (.inl rfl) s _ (by omega)
      split
      · have := Pg.op2 (c := c) (inn := inn) s [] [1] 32 (Lot.rS c 8 S) rfl rfl (by simp; omega) (by simp; omega) (by decide)
        simpa using this
      split
      · refine (ih 2 s _ (.inr rfl) (by omega)).trans (Pg.put2 s [2] [1] 19 2 _ (by omega) (by simp; omega) (by simp; omega) (fun k h1 h2 => ?_))
        have e : k = 0 ∨ k = 1 := by omega
        rcases e with rfl | rfl <;> decide
      split
      · exact (ih 1 s _ (.inl rfl) (by omega)).trans (Pg.putN s _ (by omega))
      · exact (two 1 _ (.inl rfl)).trans (Pg.putB s _ (by omega))
    · rename_i h1
      have h2 : t = 2 := by omega
      subst h2
      refine (Pg.rS 2 S).trans ?_
      split
      · exact Pg.leaf 2 (.inr rfl) s _ (by omega)
      refine (Pg.rS 2 _).trans ?_
      split
      · exact (two 1 _ (.inl rfl)).trans (Pg.op2 s [1, 1] [2] 15 _ rfl rfl (by simp; omega) (by simp; omega) (by decide))
      · refine (two 2 _ (.inr rfl)).trans (Pg.put2 s [2, 2] [2] 16 3 _ (by omega) (by simp; omega) (by simp; omega) (fun k h1 h2 => ?_))
        have e : k = 0 ∨ k = 1 ∨ k = 2 := by omega
        rcases e with rfl | rfl | rfl <;> decide
theorem Pg.values {c : Kn} {inn : Bool} (l : List Int) : ∀ (s : List Int) (S : St), (∀ t ∈ l, t = 1 ∨ t = 2) → s.length + l.length < 59 → Pg c inn s (s ++ l) S (Lot.values c l S) := by
  induction l with
  | nil => intro s S _ _; rw [List.append_nil, Lot.values]; exact ⟨[], [], (List.append_nil _).symm, (List.append_nil _).symm, rfl, Lc.refl _, Sem.nil _ _⟩
  | cons t l ih =>
    intro s S ht h
    rw [List.length_cons] at h
    rw [Lot.values]
    have h1 := Pg.value (c := c) (inn := inn) 1 t s S (ht t (List.mem_cons_self ..)) (by omega)
    have h2 := ih (s ++ [t]) (Lot.value c 1 t S) (fun u hu => ht u (List.mem_cons_of_mem _ hu)) (by simp; omega)
    have h3 := h1.trans h2
    simpa using h3
theorem Pg.drop {c : Kn} {inn : Bool} (t : Int) (s : List Int) (S : St) (h : s.length < 59) : Pg c inn (s ++ [t]) s S (Lot.drop c t S) := by
  have e : Lot.slots c (Lot.slotS c t S) = Lot.slots c S := slots_slotS c t S
  have hs : s ++ [] = s := List.append_nil s
  unfold Lot.drop
  split
  · rename_i h0
    obtain ⟨i, h1, h2, h3⟩ := slotV_ok c t S h0
    refine (Pg.slotS t _ S).trans ?_
    rw [h1]
    have hn : Nd c.all c.outer c.results inn (Lot.slots c (Lot.slotS c t S)) (3, (i : Int)) (s ++ [t]) [t] [] := by
      rw [e, ← h3]
      exact .store i _ h2
    have := Pg.put (c := c) (inn := inn) s [t] [] 3 i (Lot.slotS c t S) (by simp; omega) (by simp; omega) hn (by decide)
    rwa [hs] at this
  · refine (Pg.slotS t _ S).trans ?_
    have := Pg.put (c := c) (inn := inn) s [t] [] 4 0 (Lot.slotS c t S) (by simp; omega) (by simp; omega) (.pop t _ (by simp) (by simp)) (by decide)
    rwa [hs] at this
theorem Pg.drops {c : Kn} {inn : Bool} (l : List Int) : ∀ (s : List Int) (S : St), s.length + l.length < 59 → Pg c inn (s ++ l.reverse) s S (Lot.drops c l S) := by
  induction l with
  | nil => intro s S _; rw [List.reverse_nil, List.append_nil, Lot.drops]; exact ⟨[], [], (List.append_nil _).symm, (List.append_nil _).symm, rfl, Lc.refl _, Sem.nil _ _⟩
  | cons t l ih =>
    intro s S h
    rw [List.length_cons] at h
    rw [Lot.drops, List.reverse_cons, ← List.append_assoc]
    exact (Pg.drop t (s ++ l.reverse) S (by simp; omega)).trans (ih s _ (by omega))
/-- what the judgement asks of a maker's fixed data -/
structure KG (c : Kn) (inn : Bool) : Prop where
  n : 1 ≤ c.all.length
  f : ∀ f ∈ c.all, HF f
  o : ∀ t ∈ c.outer, t = 1 ∨ t = 2
  oi : c.outer = [] ∨ inn = true
  p : ∀ t ∈ c.params, t = 1 ∨ t = 2
  r : ∀ t ∈ c.results, t = 1 ∨ t = 2
theorem KG.callee {c : Kn} {inn : Bool} (h : KG c inn) (S : St) : ∃ g : Nat, Lot.rV c c.all.length S = g ∧ g < c.all.length ∧ Lot.callee c S = c.all[g]! ∧ HF (Lot.callee c S) := by
  have hn := h.n
  have hr := dr_rng c.ws S.pos c.all.length (by omega)
  refine ⟨(Lot.rV c c.all.length S).toNat, (Int.toNat_of_nonneg hr.1).symm, ?_, ?_, ?_⟩
  · show (drV c.ws S.pos c.all.length).toNat < _
    omega
  · have hg : (Lot.rV c c.all.length S).toNat < c.all.length := by show (drV c.ws S.pos c.all.length).toNat < _; omega
    rw [Lot.callee, List.getD_eq_getElem?_getD, List.getElem?_eq_getElem hg, getElem!_pos c.all _ hg]
    rfl
  · have hg : (Lot.rV c c.all.length S).toNat < c.all.length := by show (drV c.ws S.pos c.all.length).toNat < _; omega
    rw [Lot.callee, List.getD_eq_getElem?_getD, List.getElem?_eq_getElem hg]
    exact h.f _ (List.getElem_mem hg)
theorem Pg.call {c : Kn} {inn : Bool} (hk : KG c inn) (op : Int) (hop : op = 23 ∨ op = 24) (S : St) : Pg c inn [] [] S (Lot.call c op S) := by
  obtain ⟨g, h1, h2, h3, h4⟩ := hk.callee S
  unfold Lot.call
  split
  · exact Pg.rS _ _
  rename_i hb
  rw [Lot.bars, h3] at hb
  rw [h3] at h4
  rw [h1, h3]
  have hv := (Pg.rS (c := c) (inn := inn) (s := []) c.all.length S).trans (Pg.values (c.all[g]!).params [] _ h4.p (by have := h4.bp; simp only [List.length_nil]; omega))
  rw [List.nil_append] at hv
  have hp := h4.bp
  have hr := h4.br
  rcases hop with rfl | rfl
  · rw [if_neg (by decide)]
    have hi : (c.all[g]!).inner = false := by
      cases hin : (c.all[g]!).inner with
      | false => rfl
      | true => rw [hin] at hb; simp at hb
    refine (hv.trans (Pg.put (c := c) (inn := inn) [] (c.all[g]!).params (c.all[g]!).results 23 g _ (by simp only [List.length_append, List.length_nil, List.length_reverse]; omega) (by simp only [List.length_append, List.length_nil, List.length_reverse]; omega) (.call g _ h2 hi) (by decide))).trans ?_
    have := Pg.drops (c := c) (inn := inn) (c.all[g]!).results.reverse [] (Lot.put 23 (g : Int) (Lot.values c (c.all[g]!).params (Lot.rS c c.all.length S))) (by simp only [List.length_append, List.length_nil, List.length_reverse]; omega)
    rw [List.reverse_reverse] at this
    exact this
  · rw [if_pos rfl]
    have hi : (c.all[g]!).inner = false ∨ ((c.all[g]!).inner = true ∧ (c.all[g]!).outer = c.results) := by
      cases hin : (c.all[g]!).inner with
      | false => exact .inl rfl
      | true => rw [hin] at hb; exact .inr ⟨rfl, by simpa using hb⟩
    have := Pg.put (c := c) (inn := inn) [] (c.all[g]!).params [] 24 g (Lot.values c (c.all[g]!).params (Lot.rS c c.all.length S)) (by simp only [List.length_append, List.length_nil, List.length_reverse]; omega) (by simp) (.defer g _ h2 hi) (by decide)
    exact hv.trans this
theorem Pg.recover {c : Kn} {inn : Bool} (S : St) : Pg c inn [] [] S (Lot.recover S) := by
  unfold Lot.recover
  exact ((Pg.op2 [] [] [1, 1] 27 _ rfl rfl (by decide) (by decide) (by decide)).trans (Pg.op2 [1] [1] [] 30 _ rfl rfl (by decide) (by decide) (by decide))).trans (Pg.op2 [] [1] [] 30 _ rfl rfl (by decide) (by decide) (by decide))
theorem Pg.outer {c : Kn} {inn : Bool} (hk : KG c inn) (S : St) : Pg c inn [] [] S (Lot.outer c S) := by
  unfold Lot.outer
  split
  · exact ⟨[], [], (List.append_nil _).symm, (List.append_nil _).symm, rfl, Lc.refl _, Sem.nil _ _⟩
  rename_i h0
  have hin : inn = true := hk.oi.resolve_left h0
  have hl : 1 ≤ c.outer.length := List.length_pos_iff.2 h0
  have hr := dr_rng c.ws S.pos c.outer.length (by omega)
  obtain ⟨y, hy⟩ : ∃ y, y = (Lot.rV c c.outer.length S).toNat := ⟨_, rfl⟩
  have hyl : y < c.outer.length := by rw [hy]; show (drV c.ws S.pos c.outer.length).toNat < _; omega
  have e : Lot.rV c c.outer.length S = (y : Int) := by rw [hy]; exact (Int.toNat_of_nonneg hr.1).symm
  have eg : c.outer.getD y 0 = c.outer[y]! := by rw [List.getD_eq_getElem?_getD, List.getElem?_eq_getElem hyl, getElem!_pos c.outer y hyl]; rfl
  have hty : c.outer[y]! = 1 ∨ c.outer[y]! = 2 := by rw [getElem!_pos c.outer y hyl]; exact hk.o _ (List.getElem_mem hyl)
  rw [← hy, e, eg]
  have h2 := (Pg.rS (c := c) (inn := inn) (s := []) c.outer.length S).trans (Pg.rS 2 _)
  split
  · refine h2.trans ((Pg.put (c := c) (inn := inn) [] [] [c.outer[y]!] 28 y _ (by decide) (by simp) (.getres y _ hyl hin) (by decide)).trans (Pg.drop _ [] _ (by decide)))
  · refine h2.trans ((Pg.value 1 _ [] _ hty (by decide)).trans (Pg.put (c := c) (inn := inn) [] [c.outer[y]!] [] 29 y _ (by simp) (by decide) (.setres y _ hyl hin) (by decide)))
end Go.Proofs.Ythaniobijkdnoaa

namespace Go.Proofs.Ythaniobijkdnoaa
open Go.RowKit

def Lq (s s' : St) : Prop := s'.locals = s.locals
theorem Lq.trans {a b c : St} (h : Lq a b) (k : Lq b c) : Lq a c := Eq.trans k h
theorem lq_put (op a : Int) (s : St) : Lq s (Lot.put op a s) := rfl
theorem Lq.refl (s : St) : Lq s s := rfl
theorem lq_rS (k : Kn) (b : Int) (s : St) : Lq s (Lot.rS k b s) := rfl
theorem lq_slotS (k : Kn) (t : Int) (s : St) : Lq s (Lot.slotS k t s) := by
  unfold Lot.slotS
  split
  · exact Lq.refl _
  · exact lq_rS _ _ _
theorem lq_pushS (k : Kn) (s : St) : Lq s (Lot.pushS k s) := (lq_rS _ _ _).trans (lq_put _ _ _)
theorem lq_lit (k : Kn) (t : Int) (s : St) : Lq s (Lot.lit k t s) := by
  unfold Lot.lit
  split
  · exact (lq_pushS _ _).trans ((lq_pushS _ _).trans (lq_put _ _ _))
  · exact lq_pushS _ _
theorem lq_leaf (k : Kn) (t : Int) (s : St) : Lq s (Lot.leaf k t s) := by
  unfold Lot.leaf
  split
  · split
    · exact (lq_slotS _ _ _).trans ((lq_rS _ _ _).trans (lq_put _ _ _))
    · exact (lq_slotS _ _ _).trans ((lq_rS _ _ _).trans (lq_lit _ _ _))
  · exact (lq_slotS _ _ _).trans (lq_lit _ _ _)
theorem lq_put2 (k : Kn) (o n b : Int) (s : St) : Lq s (Lot.put2 k o n b s) := (lq_rS _ _ _).trans (lq_put _ _ _)
theorem lq_putN (k : Kn) (s : St) : Lq s (Lot.putN k s) := (lq_rS _ _ _).trans (lq_put _ _ _)
theorem lq_putB (k : Kn) (s : St) : Lq s (Lot.putB k s) := (lq_rS _ _ _).trans (lq_put _ _ _)
theorem lq_value (k : Kn) (n : Nat) : ∀ (t : Int) (s : St), Lq s (Lot.value k n t s) := by
  induction n with
  | zero =>
    intro t s
    rw [Lot.value]
    split
    · exact (lq_rS _ _ _).trans (lq_leaf _ _ _)
    · exact lq_leaf _ _ _
  | succ n ih =>
    intro t s
    rw [Lot.value]
    split
    · split
      · exact (lq_rS _ _ _).trans (lq_leaf _ _ _)
      · split
        · exact (lq_rS _ _ _).trans (lq_put _ _ _)
        · split
          · exact (lq_rS _ _ _).trans ((ih _ _).trans (lq_put2 _ _ _ _ _))
          · split
            · exact (lq_rS _ _ _).trans ((ih _ _).trans (lq_putN _ _))
            · exact (lq_rS _ _ _).trans ((ih _ _).trans ((ih _ _).trans (lq_putB _ _)))
    · split
      · exact (lq_rS _ _ _).trans (lq_leaf _ _ _)
      · split
        · exact (lq_rS _ _ _).trans ((lq_rS _ _ _).trans ((ih _ _).trans ((ih _ _).trans (lq_put _ _ _))))
        · exact (lq_rS _ _ _).trans ((lq_rS _ _ _).trans ((ih _ _).trans ((ih _ _).trans (lq_put2 _ _ _ _ _))))
theorem lq_values (k : Kn) (l : List Int) : ∀ s, Lq s (Lot.values k l s) := by
  induction l with
  | nil => exact fun s => Lq.refl s
  | cons x l ih => exact fun s => (lq_value k 1 x s).trans (ih _)
theorem lq_drop (k : Kn) (t : Int) (s : St) : Lq s (Lot.drop k t s) := by
  unfold Lot.drop
  split
  · exact (lq_slotS _ _ _).trans (lq_put _ _ _)
  · exact (lq_slotS _ _ _).trans (lq_put _ _ _)
theorem lq_drops (k : Kn) (l : List Int) : ∀ s, Lq s (Lot.drops k l s) := by
  induction l with
  | nil => exact fun s => Lq.refl s
  | cons x l ih => exact fun s => (lq_drop k x s).trans (ih _)
theorem lq_call (k : Kn) (op : Int) (s : St) : Lq s (Lot.call k op s) := by
  unfold Lot.call
  split
  · exact lq_rS _ _ _
  · split
    · exact (lq_rS _ _ _).trans ((lq_values _ _ _).trans (lq_put _ _ _))
    · exact (lq_rS _ _ _).trans ((lq_values _ _ _).trans ((lq_put _ _ _).trans (lq_drops _ _ _)))
theorem lq_recover (s : St) : Lq s (Lot.recover s) := (lq_put _ _ _).trans ((lq_put _ _ _).trans (lq_put _ _ _))
theorem lq_outer (k : Kn) (s : St) : Lq s (Lot.outer k s) := by
  unfold Lot.outer
  split
  · exact Lq.refl _
  · split
    · exact (lq_rS _ _ _).trans ((lq_rS _ _ _).trans ((lq_put _ _ _).trans (lq_drop _ _ _)))
    · exact (lq_rS _ _ _).trans ((lq_rS _ _ _).trans ((lq_value _ 1 _ _).trans (lq_put _ _ _)))
theorem lq_plain (k : Kn) (kind : Int) (s : St) : Lq s (Lot.plain k kind s) := by
  unfold Lot.plain
  split
  · exact (lq_value _ 2 _ _).trans (lq_put _ _ _)
  · split
    · split
      · exact Lq.refl _
      · exact (lq_rS _ _ _).trans ((lq_value _ 2 _ _).trans (lq_put _ _ _))
    · split
      · exact lq_call _ _ _
      · split
        · exact lq_call _ _ _
        · split
          · exact lq_put _ _ _
          · split
            · exact lq_recover _
            · exact lq_outer _ _

def LT (S : St) : Prop := ∀ t ∈ S.locals, t = 1 ∨ t = 2
theorem Pg.nil {c : Kn} {inn : Bool} {s : List Int} (S : St) : Pg c inn s s S S :=
  ⟨[], [], (List.append_nil _).symm, (List.append_nil _).symm, rfl, Lc.refl _, Sem.nil _ _⟩
theorem Pg.lt {c : Kn} {inn : Bool} {s t : List Int} {S S' : St} (h : Pg c inn s t S S') (hl : LT S) : LT S' := by
  obtain ⟨C, K, _, _, _, h4, _⟩ := h
  intro t ht
  rcases h4.ty t ht with h1 | h1
  · exact hl t h1
  · exact .inl h1
theorem Pg.pre {c : Kn} {inn : Bool} {s t : List Int} {S S' : St} (h : Pg c inn s t S S') : Lot.slots c S <+: Lot.slots c S' := by
  obtain ⟨C, K, _, _, _, h4, _⟩ := h
  exact slots_pre h4.pre
theorem slots_tys {c : Kn} {inn : Bool} (hk : KG c inn) {S : St} (hl : LT S) : ∀ t ∈ Lot.slots c S, t = 1 ∨ t = 2 := by
  intro t ht
  rcases List.mem_append.1 ht with h1 | h1
  · rcases List.mem_append.1 h1 with h2 | h2
    · exact hk.p t h2
    · exact hk.r t h2
  · exact hl t h1
/-- a store to a slot -/
theorem Pg.storeAt {c : Kn} {inn : Bool} (q : List Int) (k : Nat) (S : St) (hq : q.length < 60) (h : k < (Lot.slots c S).length) : Pg c inn (q ++ [(Lot.slots c S)[k]!]) q S (Lot.put 3 k S) := by
  have := Pg.put (c := c) (inn := inn) q [(Lot.slots c S)[k]!] [] 3 k S (by simp; omega) (by simp; omega) (.store k _ h) (by decide)
  rwa [List.append_nil] at this
theorem Pg.loadAt {c : Kn} {inn : Bool} (q : List Int) (k : Nat) (S : St) (hq : q.length < 60) (h : k < (Lot.slots c S).length) : Pg c inn q (q ++ [(Lot.slots c S)[k]!]) S (Lot.put 2 k S) := by
  have := Pg.put (c := c) (inn := inn) q [] [(Lot.slots c S)[k]!] 2 k S (by simp; omega) (by simp; omega) (.load k _ h) (by decide)
  rwa [List.append_nil] at this
theorem Pg.plain {c : Kn} {inn : Bool} (hk : KG c inn) (kind : Int) (S : St) (hl : LT S) : Pg c inn [] [] S (Lot.plain c kind S) := by
  unfold Lot.plain
  split
  · exact (Pg.value 2 1 [] S (.inl rfl) (by decide)).trans (Pg.op2 [] [1] [] 30 _ rfl rfl (by decide) (by decide) (by decide))
  split
  · split
    · exact Pg.nil S
    · rename_i h0
      have hlen : 1 ≤ (Lot.slots c S).length := List.length_pos_iff.2 h0
      have hr := dr_rng c.ws S.pos (Lot.slots c S).length (by omega)
      obtain ⟨y, hy⟩ : ∃ y, y = (Lot.rV c (Lot.slots c S).length S).toNat := ⟨_, rfl⟩
      have hyl : y < (Lot.slots c S).length := by rw [hy]; show (drV c.ws S.pos (Lot.slots c S).length).toNat < _; omega
      have e : Lot.rV c (Lot.slots c S).length S = (y : Int) := by rw [hy]; exact (Int.toNat_of_nonneg hr.1).symm
      have eg : (Lot.slots c S).getD y 0 = (Lot.slots c S)[y]! := by rw [List.getD_eq_getElem?_getD, List.getElem?_eq_getElem hyl, getElem!_pos _ y hyl]; rfl
      have hty : (Lot.slots c S)[y]! = 1 ∨ (Lot.slots c S)[y]! = 2 := by rw [getElem!_pos _ y hyl]; exact slots_tys hk hl _ (List.getElem_mem hyl)
      rw [← hy, e, eg]
      have hv := (Pg.rS (c := c) (inn := inn) (s := []) (Lot.slots c S).length S).trans (Pg.value 2 _ [] _ hty (by decide))
      have hg := get_prefix hv.pre hyl
      refine hv.trans ?_
      have := Pg.storeAt (c := c) (inn := inn) [] y _ (by decide) hg.1
      rw [hg.2] at this
      exact this
  split
  · exact Pg.call hk 23 (.inl rfl) S
  split
  · exact Pg.call hk 24 (.inr rfl) S
  split
  · exact Pg.op2 [] [] [] 31 S rfl rfl (by decide) (by decide) (by decide)
  split
  · exact Pg.recover S
  · exact Pg.outer hk S
/-- what is done behind a test -/
def Jp (c : Kn) (inn : Bool) (S S' : St) : Prop :=
  ∃ C K, S'.code = S.code ++ C ∧ S'.lines = S.lines ++ K ∧ K.length = C.length ∧ Lc S S' K ∧
    (Sem (Nd c.all c.outer c.results inn (Lot.slots c S')) S.code.length C [] [] ∨ (1 ≤ C.length ∧ SemX (Nd c.all c.outer c.results inn (Lot.slots c S')) S.code.length C [] []))
theorem Pg.jp {c : Kn} {inn : Bool} {S S' : St} (h : Pg c inn [] [] S S') : Jp c inn S S' := by
  obtain ⟨C, K, h1, h2, h3, h4, h5⟩ := h
  exact ⟨C, K, h1, h2, h3, h4, .inl h5⟩
theorem here_set (A C : List (Int × Int)) (x y : Int) (n : Int) : (A ++ (x, y) :: C).set A.length (((A ++ (x, y) :: C).getD A.length (0, 0)).1, n) = A ++ (x, n) :: C := by
  rw [List.getD_eq_getElem?_getD, List.getElem?_append_right (Nat.le_refl _), List.set_append_right _ _ (Nat.le_refl _), Nat.sub_self]
  rfl
theorem Pg.skip {c : Kn} {inn : Bool} (S S' : St) (h : Jp c inn (Lot.put 22 0 S) S') : Pg c inn [1] [] S (Lot.here S.code.length S') := by
  obtain ⟨C, K, h1, h2, h3, h4, h5⟩ := h
  have e1 : S'.code = S.code ++ (22, 0) :: C := by rw [h1]; simp [Lot.put]
  have e2 : S'.lines = S.lines ++ S.line :: K := by rw [h2]; simp [Lot.put]
  have e3 : (Lot.here S.code.length S').code = S.code ++ (22, ((S.code.length + 1 + C.length : Nat) : Int)) :: C := by
    unfold Lot.here
    simp only
    rw [e1, here_set]
    congr 3
    simp
    omega
  have hb : (Lot.put 22 0 S).code.length = S.code.length + 1 := by simp [Lot.put]
  rw [hb] at h5
  have hs : Lot.slots c (Lot.here S.code.length S') = Lot.slots c S' := rfl
  have hn : Nd c.all c.outer c.results inn (Lot.slots c S') (22, ((S.code.length + 1 + C.length : Nat) : Int)) ([] ++ [1]) [1] [] := .other 22 _ _ (by decide) (by decide) (by decide) (.inr (.inl rfl))
  refine ⟨_, S.line :: K, e3, e2, by simp [h3], ⟨h4.pre, h4.ty, h4.ln, fun k hk => ?_⟩, ?_⟩
  · rcases List.mem_cons.1 hk with h | h
    · rw [h]; exact ⟨Int.le_refl _, h4.ln⟩
    · exact h4.lk k h
  · rw [hs]
    rcases h5 with h5 | ⟨h0, h5⟩
    · exact Sem.branch (s := []) h5 (by decide) hn
    · exact SemX.branch (s := []) h5 (by decide) h0 hn
theorem Pg.branch {c : Kn} {inn : Bool} (f : St → St) (S : St) (hf : ∀ S', LT S' → Jp c inn S' (f S')) (hl : LT S) : Pg c inn [] [] S (Lot.branch c f S) := by
  unfold Lot.branch
  have hv := (Pg.value (c := c) (inn := inn) 1 1 [] S (.inl rfl) (by decide)).trans (Pg.op2 [] [1] [1] 14 _ rfl rfl (by decide) (by decide) (by decide))
  have hlv := hv.lt hl
  have hj := Pg.skip _ _ (hf (Lot.put 22 0 (Lot.put 14 0 (Lot.value c 1 1 S))) hlv)
  have he : (Lot.put 14 0 (Lot.value c 1 1 S)).code.length = (Lot.value c 1 1 S).code.length.succ := by simp [Lot.put]
  rw [he] at hj
  exact (hv.trans hj).trans (Pg.op2 [] [] [] 0 _ rfl rfl (by decide) (by decide) (by decide))
theorem Jp.give {c : Kn} {inn : Bool} (S : St) : Jp c inn S (Lot.put 26 0 (Lot.value c 1 1 S)) := by
  obtain ⟨C, K, h1, h2, h3, h4, h5⟩ := Pg.value (c := c) (inn := inn) 1 1 [] S (.inl rfl) (by decide)
  have h0C : 1 ≤ C.length := by
    obtain ⟨T, o, q0, q1, _⟩ := h5
    cases C with
    | nil => rw [List.length_nil, q0] at q1; exact absurd q1 (by simp)
    | cons => simp
  refine ⟨C ++ [(26, 0)], K ++ [(Lot.value c 1 1 S).line], by simp [Lot.put, h1], by simp [Lot.put, h2], by simp [h3], ⟨h4.pre, h4.ty, h4.ln, fun k hk => ?_⟩, .inr ⟨by simp, ?_⟩⟩
  · rcases List.mem_append.1 hk with h | h
    · exact h4.lk k h
    · rw [List.mem_singleton.1 h]; exact ⟨h4.ln, Int.le_refl _⟩
  · exact Sem.halt (s := []) h5 (by decide) (.other 26 0 _ (by decide) (by decide) (by decide) (.inr (.inr rfl))) h0C
/-- a jump back -/
theorem Pg.back {c : Kn} {inn : Bool} {S S' : St} (h : Pg c inn [] [1] S S') : Pg c inn [] [] S (Lot.put 22 S.code.length S') := by
  obtain ⟨C, K, h1, h2, h3, h4, h5⟩ := h
  have h0C : 1 ≤ C.length := by
    obtain ⟨T, o, q0, q1, _⟩ := h5
    cases C with
    | nil => rw [List.length_nil, q0] at q1; exact absurd q1 (by simp)
    | cons => simp
  refine ⟨C ++ [(22, (S.code.length : Int))], K ++ [S'.line], by simp [Lot.put, h1], by simp [Lot.put, h2], by simp [h3], ⟨h4.pre, h4.ty, h4.ln, fun k hk => ?_⟩, ?_⟩
  · rcases List.mem_append.1 hk with h | h
    · exact h4.lk k h
    · rw [List.mem_singleton.1 h]; exact ⟨h4.ln, Int.le_refl _⟩
  · exact Sem.loop (s := []) h5 (by decide) (.other 22 _ _ (by decide) (by decide) (by decide) (.inr (.inl rfl))) h0C
theorem Pg.addLocal {c : Kn} {inn : Bool} (S : St) : Pg c inn [] [] S (Lot.addLocal S) :=
  ⟨[], [], (List.append_nil _).symm, (List.append_nil _).symm, rfl, ⟨⟨[1], rfl⟩, fun t ht => by
    rcases List.mem_append.1 ht with h | h
    · exact .inl h
    · exact .inr (List.mem_singleton.1 h), Int.le_refl _, fun k hk => absurd hk (by simp)⟩, Sem.nil _ _⟩
theorem Pg.tail {c : Kn} {inn : Bool} (k : Nat) (S : St) (h : k < (Lot.slots c S).length) (h1 : (Lot.slots c S)[k]! = 1) : Pg c inn [] [1] S (Lot.put 8 0 (Lot.put 2 k (Lot.put 14 0 (Lot.put 12 0 (Lot.put 1 0 (Lot.put 3 k (Lot.put 5 0 (Lot.put 7 0 (Lot.put 1 1 (Lot.put 2 k S)))))))))) := by
  have ld : ∀ (q : List Int) (S' : St), q.length < 60 → Lot.slots c S' = Lot.slots c S → Pg c inn q (q ++ [1]) S' (Lot.put 2 k S') := fun q S' hq he => by
    have := Pg.loadAt (c := c) (inn := inn) q k S' hq (by rw [he]; exact h)
    rwa [he, h1] at this
  have st : ∀ (q : List Int) (S' : St), q.length < 60 → Lot.slots c S' = Lot.slots c S → Pg c inn (q ++ [1]) q S' (Lot.put 3 k S') := fun q S' hq he => by
    have := Pg.storeAt (c := c) (inn := inn) q k S' hq (by rw [he]; exact h)
    rwa [he, h1] at this
  have p1 := ld [] S (by decide) rfl
  have p2 := p1.trans (Pg.push [1] 1 _ (by decide))
  have p3 := p2.trans (Pg.op2 [] [1, 1] [1] 7 _ rfl rfl (by decide) (by decide) (by decide))
  have p4 := p3.trans (Pg.put (c := c) (inn := inn) [1] [] [1] 5 0 _ (by decide) (by decide) (.dup 1 _ (by decide) (by decide)) (by decide))
  have p5 := p4.trans (st [1] _ (by decide) rfl)
  have p6 := p5.trans (Pg.push [1] 0 _ (by decide))
  have p7 := p6.trans (Pg.op2 [] [1, 1] [1] 12 _ rfl rfl (by decide) (by decide) (by decide))
  have p8 := p7.trans (Pg.op2 [] [1] [1] 14 _ rfl rfl (by decide) (by decide) (by decide))
  have p9 := p8.trans (ld [1] _ (by decide) rfl)
  exact p9.trans (Pg.op2 [] [1, 1] [1] 8 _ rfl rfl (by decide) (by decide) (by decide))
theorem Pg.loop {c : Kn} {inn : Bool} (f : St → St) (S : St) (hf : ∀ S', LT S' → Pg c inn [] [] S' (f S')) (hl : LT S) : Pg c inn [] [] S (Lot.loop c f S) := by
  have hk : (Lot.slots c S).length < (Lot.slots c (Lot.addLocal S)).length := by simp [Lot.slots, Lot.addLocal]
  have hk1 : (Lot.slots c (Lot.addLocal S))[(Lot.slots c S).length]! = 1 := by
    have e : Lot.slots c (Lot.addLocal S) = Lot.slots c S ++ [1] := by simp [Lot.slots, Lot.addLocal]
    rw [e, getElem!_pos _ _ (by simp)]
    simp
  unfold Lot.loop
  generalize (Lot.slots c S).length = k at *
  have a0 := Pg.addLocal (c := c) (inn := inn) S
  have a1 := (a0.trans (Pg.rS 3 _)).trans (Pg.push [] (Lot.rV c 3 (Lot.addLocal S) + 1) _ (by decide))
  have a2 : Pg c inn [] [] S (Lot.put 3 k (Lot.put 1 (Lot.rV c 3 (Lot.addLocal S) + 1) (Lot.rS c 3 (Lot.addLocal S)))) := by
    have := Pg.storeAt (c := c) (inn := inn) [] k (Lot.put 1 (Lot.rV c 3 (Lot.addLocal S) + 1) (Lot.rS c 3 (Lot.addLocal S))) (by decide) hk
    have e : (Lot.slots c (Lot.put 1 (Lot.rV c 3 (Lot.addLocal S) + 1) (Lot.rS c 3 (Lot.addLocal S))))[k]! = 1 := hk1
    rw [e] at this
    exact a1.trans this
  unfold Lot.loopHead
  have hs2 : Lot.slots c (Lot.put 3 k (Lot.put 1 (Lot.rV c 3 (Lot.addLocal S) + 1) (Lot.rS c 3 (Lot.addLocal S)))) = Lot.slots c (Lot.addLocal S) := rfl
  generalize Lot.put 3 k (Lot.put 1 (Lot.rV c 3 (Lot.addLocal S) + 1) (Lot.rS c 3 (Lot.addLocal S))) = S2 at *
  have hf3 : ((Lot.put 0 0 S2).code.length - 1 : Nat) = S2.code.length := by simp [Lot.put]
  rw [hf3]
  have p0 := Pg.op2 (c := c) (inn := inn) [] [] [] 0 S2 rfl rfl (by decide) (by decide) (by decide)
  have p1 := p0.trans (hf (Lot.put 0 0 S2) (p0.lt (a2.lt hl)))
  have hg := get_prefix p1.pre (i := k) (by rw [hs2]; exact hk)
  rw [hs2, hk1] at hg
  have p2 := p1.trans (Pg.tail k _ hg.1 hg.2)
  exact a2.trans p2.back
theorem Pg.tick {c : Kn} {inn : Bool} (S : St) : Pg c inn [] [] S (Lot.tick c S) := by
  have hr := dr_rng c.ws S.pos 3 (by omega)
  have h2 : 0 ≤ Lot.rV c 3 S := hr.1
  exact ⟨[], [], (List.append_nil _).symm, (List.append_nil _).symm, rfl, ⟨List.prefix_refl _, fun _ h => .inl h, by show S.line ≤ S.line + Lot.rV c 3 S; omega, fun k hk => absurd hk (by simp)⟩, Sem.nil _ _⟩
theorem Pg.stmt {c : Kn} {inn : Bool} (hk : KG c inn) (n : Nat) : ∀ S, LT S → Pg c inn [] [] S (Lot.stmt c n S) := by
  induction n with
  | zero =>
    intro S hl
    have h0 := (Pg.tick (c := c) (inn := inn) S).trans (Pg.rS 15 _)
    have hl1 := h0.lt hl
    unfold Lot.stmt
    dsimp only
    split
    · exact h0
    · split
      · omega
      · split
        · omega
        · split
          · exact h0.trans (Pg.branch _ _ (fun S' _ => Jp.give S') hl1)
          · exact h0.trans (Pg.plain hk _ _ hl1)
  | succ n ih =>
    intro S hl
    have h0 := (Pg.tick (c := c) (inn := inn) S).trans (Pg.rS 15 _)
    have hl1 := h0.lt hl
    unfold Lot.stmt
    dsimp only
    split
    · exact h0
    · split
      · exact h0.trans (Pg.loop _ _ ih hl1)
      · split
        · exact h0.trans (Pg.branch _ _ (fun S' h => (ih S' h).jp) hl1)
        · split
          · exact h0.trans (Pg.branch _ _ (fun S' _ => Jp.give S') hl1)
          · exact h0.trans (Pg.plain hk _ _ hl1)
theorem Pg.stmts {c : Kn} {inn : Bool} (hk : KG c inn) (n : Nat) : ∀ S, LT S → Pg c inn [] [] S (Lot.stmts c n S) := by
  induction n with
  | zero => intro S _; exact Pg.nil S
  | succ n ih => intro S hl; exact (Pg.stmt hk 3 S hl).trans (ih _ ((Pg.stmt hk 3 S hl).lt hl))
end Go.Proofs.Ythaniobijkdnoaa

namespace Go.Proofs.Ythaniobijkdnoaa
open Go.RowKit

def KnB2 (k : Kn) : Prop := ∀ f ∈ k.all, f.params.length ≤ 2 ∧ f.results.length ≤ 2
theorem callee_bd2 {k : Kn} (h : KnB2 k) (s : St) : (Lot.callee k s).params.length ≤ 2 ∧ (Lot.callee k s).results.length ≤ 2 := by
  unfold Lot.callee
  rw [List.getD_eq_getElem?_getD]
  cases hi : k.all[(Lot.rV k k.all.length s).toNat]? with
  | none => exact ⟨Nat.zero_le _, Nat.zero_le _⟩
  | some f => exact h f (List.mem_of_getElem? hi)
theorem gr_call2 {k : Kn} (h : KnB2 k) (op : Int) (s : St) : Gr 17 s (Lot.call k op s) := by
  have hb := callee_bd2 h s
  unfold Lot.call
  split
  · exact (gr_rS _ _ _).more (by omega)
  · split
    · exact ((gr_rS _ _ _).trans ((gr_values _ _ _).trans (gr_put _ _ _))).more (by omega)
    · exact ((gr_rS _ _ _).trans ((gr_values _ _ _).trans ((gr_put _ _ _).trans (gr_drops _ _ _)))).more (by rw [List.length_reverse]; omega)
theorem gr_plain2 {k : Kn} (h : KnB2 k) (kind : Int) (s : St) : Gr 17 s (Lot.plain k kind s) := by
  unfold Lot.plain
  split
  · exact ((gr_value _ 2 _ _).trans (gr_put _ _ _)).more (by simp [vc])
  · split
    · split
      · exact (Gr.refl _).more (by omega)
      · exact ((gr_rS _ _ _).trans ((gr_value _ 2 _ _).trans (gr_put _ _ _))).more (by simp [vc])
    · split
      · exact gr_call2 h _ _
      · split
        · exact gr_call2 h _ _
        · split
          · exact (gr_put _ _ _).more (by omega)
          · split
            · exact (gr_recover _).more (by omega)
            · exact (gr_outer _ _).more (by omega)
/-- how a statement adds: code up to a bound, locals -/
def Up (m n : Nat) (s s' : St) : Prop := (s'.code.length ≤ s.code.length ∨ s'.code.length ≤ m) ∧ s'.locals.length ≤ s.locals.length + n
theorem up_branch (k : Kn) (f : St → St) (m n : Nat) (s : St) (hs : s.code.length ≤ 320) (hm : 329 ≤ m) (hf : ∀ s, Up m n s (f s)) : Up (m + 1) n s (Lot.branch k f s) := by
  have h1 := gr_value k 1 1 s
  have h2 : (Lot.value k 1 1 s).locals = s.locals := lq_value k 1 1 s
  have h3 := hf (Lot.put 22 0 (Lot.put 14 0 (Lot.value k 1 1 s)))
  have e1 : (Lot.put 22 0 (Lot.put 14 0 (Lot.value k 1 1 s))).code.length = (Lot.value k 1 1 s).code.length + 2 := by simp [Lot.put]
  have e2 : (Lot.put 22 0 (Lot.put 14 0 (Lot.value k 1 1 s))).locals = s.locals := h2
  have h4 := h1.1
  rw [show vc 1 = 7 from rfl] at h4
  unfold Lot.branch
  generalize f (Lot.put 22 0 (Lot.put 14 0 (Lot.value k 1 1 s))) = u at *
  obtain ⟨h5, h6⟩ := h3
  rw [e1] at h5
  rw [e2] at h6
  have e3 : (Lot.put 0 0 (Lot.here (Lot.value k 1 1 s).code.length.succ u)).code.length = u.code.length + 1 := by simp [Lot.put, Lot.here]
  have e4 : (Lot.put 0 0 (Lot.here (Lot.value k 1 1 s).code.length.succ u)).locals = u.locals := rfl
  unfold Up
  rw [e3, e4]
  omega
theorem up_loop (k : Kn) (f : St → St) (m n : Nat) (s : St) (hs : s.code.length ≤ 320) (hm : 323 ≤ m) (hf : ∀ s, Up m n s (f s)) : Up (m + 11) (n + 1) s (Lot.loop k f s) := by
  unfold Lot.loop
  have h3 := hf (Lot.loopHead k (Lot.slots k s).length (Lot.addLocal s))
  have e1 : (Lot.loopHead k (Lot.slots k s).length (Lot.addLocal s)).code.length = s.code.length + 3 := by simp [Lot.loopHead, Lot.put, Lot.rS, Lot.addLocal]
  have e2 : (Lot.loopHead k (Lot.slots k s).length (Lot.addLocal s)).locals.length = s.locals.length + 1 := by simp [Lot.loopHead, Lot.put, Lot.rS, Lot.addLocal]
  generalize ((Lot.loopHead k (Lot.slots k s).length (Lot.addLocal s)).code.length - 1 : Nat) = fr
  generalize f (Lot.loopHead k (Lot.slots k s).length (Lot.addLocal s)) = u at *
  obtain ⟨h5, h6⟩ := h3
  rw [e1] at h5
  rw [e2] at h6
  have h7 := (gr_loopTail (Lot.slots k s).length fr u).1
  have e4 : (Lot.loopTail (Lot.slots k s).length fr u).locals = u.locals := rfl
  unfold Up
  rw [e4]
  omega
theorem up_give (k : Kn) (s : St) : s.code.length ≤ 329 → Up 337 0 s (Lot.put 26 0 (Lot.value k 1 1 s)) := fun h => by
  have h1 := (gr_value k 1 1 s).1
  rw [show vc 1 = 7 from rfl] at h1
  have h2 : (Lot.put 26 0 (Lot.value k 1 1 s)).locals = s.locals := lq_value k 1 1 s
  have e1 : (Lot.put 26 0 (Lot.value k 1 1 s)).code.length = (Lot.value k 1 1 s).code.length + 1 := by simp [Lot.put]
  unfold Up
  rw [h2, e1]
  omega
theorem up_branch2 (k : Kn) (s : St) (hs : s.code.length ≤ 320) : Up 338 0 s (Lot.branch k (fun s => Lot.put 26 0 (Lot.value k 1 1 s)) s) := by
  have h1 := gr_value k 1 1 s
  have h2 : (Lot.value k 1 1 s).locals = s.locals := lq_value k 1 1 s
  have e1 : (Lot.put 22 0 (Lot.put 14 0 (Lot.value k 1 1 s))).code.length = (Lot.value k 1 1 s).code.length + 2 := by simp [Lot.put]
  have h4 := h1.1
  rw [show vc 1 = 7 from rfl] at h4
  have h3 := up_give k (Lot.put 22 0 (Lot.put 14 0 (Lot.value k 1 1 s))) (by omega)
  have e2 : (Lot.put 22 0 (Lot.put 14 0 (Lot.value k 1 1 s))).locals = s.locals := h2
  unfold Lot.branch
  dsimp only
  generalize Lot.put 26 0 (Lot.value k 1 1 (Lot.put 22 0 (Lot.put 14 0 (Lot.value k 1 1 s)))) = u at *
  obtain ⟨h5, h6⟩ := h3
  rw [e1] at h5
  rw [e2] at h6
  have e3 : (Lot.put 0 0 (Lot.here (Lot.value k 1 1 s).code.length.succ u)).code.length = u.code.length + 1 := by simp [Lot.put, Lot.here]
  have e4 : (Lot.put 0 0 (Lot.here (Lot.value k 1 1 s).code.length.succ u)).locals = u.locals := rfl
  unfold Up
  rw [e3, e4]
  omega
theorem up_plain {k : Kn} (h : KnB2 k) (kind : Int) (s : St) (hs : s.code.length ≤ 320) : Up 338 0 s (Lot.plain k kind s) := by
  have h1 := (gr_plain2 h kind s).1
  have h2 : (Lot.plain k kind s).locals = s.locals := lq_plain k kind s
  unfold Up
  rw [h2]
  omega
theorem Up.more {m n m' n' : Nat} {s s' : St} (h : Up m n s s') (h1 : m ≤ m') (h2 : n ≤ n') : Up m' n' s s' := by unfold Up at *; omega
theorem up_stmt {k : Kn} (h : KnB2 k) (n : Nat) : ∀ s, Up (338 + 11 * n) n s (Lot.stmt k n s) := by
  induction n with
  | zero =>
    intro s
    have ec : (Lot.rS k 15 (Lot.tick k s)).code = s.code := rfl
    have el : (Lot.rS k 15 (Lot.tick k s)).locals = s.locals := rfl
    have back : ∀ u, Up 338 0 (Lot.rS k 15 (Lot.tick k s)) u → Up 338 0 s u := fun u hu => by unfold Up at *; rw [ec, el] at hu; exact hu
    unfold Lot.stmt
    dsimp only
    split
    · exact back _ ⟨.inl (Nat.le_refl _), Nat.le_refl _⟩
    · rename_i hs
      have hs' : (Lot.rS k 15 (Lot.tick k s)).code.length ≤ 320 := by omega
      split
      · omega
      · split
        · omega
        · split
          · exact back _ (up_branch2 k _ hs')
          · exact back _ (up_plain h _ _ hs')
  | succ n ih =>
    intro s
    have ec : (Lot.rS k 15 (Lot.tick k s)).code = s.code := rfl
    have el : (Lot.rS k 15 (Lot.tick k s)).locals = s.locals := rfl
    have back : ∀ u, Up (338 + 11 * (n + 1)) (n + 1) (Lot.rS k 15 (Lot.tick k s)) u → Up (338 + 11 * (n + 1)) (n + 1) s u := fun u hu => by unfold Up at *; rw [ec, el] at hu; exact hu
    unfold Lot.stmt
    dsimp only
    split
    · exact back _ ⟨.inl (Nat.le_refl _), Nat.le_add_right _ _⟩
    · rename_i hs
      have hs' : (Lot.rS k 15 (Lot.tick k s)).code.length ≤ 320 := by omega
      split
      · exact back _ ((up_loop k _ _ n _ hs' (by omega) ih).more (by omega) (by omega))
      · split
        · exact back _ ((up_branch k _ _ n _ hs' (by omega) ih).more (by omega) (by omega))
        · split
          · exact back _ ((up_branch2 k _ hs').more (by omega) (by omega))
          · exact back _ ((up_plain h _ _ hs').more (by omega) (by omega))
theorem up_stmts {k : Kn} (h : KnB2 k) (m : Nat) : ∀ s, Up 371 (3 * m) s (Lot.stmts k m s) := by
  induction m with
  | zero => intro s; exact ⟨.inl (Nat.le_refl _), Nat.le_refl _⟩
  | succ m ih =>
    intro s
    have h1 := up_stmt h 3 s
    have h2 := ih (Lot.stmt k 3 s)
    rw [Lot.stmts]
    unfold Up at *
    omega
/-- what a body is -/
structure BodyOk (c : Kn) (inn : Bool) (s s' : St) (C : List (Int × Int)) : Prop where
  code : s'.code = C ++ [(25, 0)]
  ll : s'.lines.length = s'.code.length
  len : C.length ≤ 371
  ln : ∀ k ∈ s'.lines, 0 ≤ k ∧ k ≤ 65535
  lt : LT s'
  nl : s'.locals.length ≤ s.locals.length + 21
  sem : Sem (Nd c.all c.outer c.results inn (Lot.slots c s')) 0 C [] []
theorem body_ok {c : Kn} {inn : Bool} (hk : KG c inn) (hB : KnB2 c) (s : St) (hc : s.code = []) (hl : s.lines = []) (hlt : LT s) (hme : 0 ≤ c.me ∧ c.me ≤ 40) : ∃ C, BodyOk c inn s (Lot.body c s) C := by
  have hB8 : KnB c := fun f hf => by have := hB f hf; omega
  have hr := dr_rng c.ws s.pos 7 (by omega)
  have e0 : Lot.rV c 7 { s with line := 10 * c.me + 1 } = drV c.ws s.pos 7 := rfl
  unfold Lot.body
  simp only
  rw [e0]
  obtain ⟨m, hm⟩ : ∃ m, m = (drV c.ws s.pos 7 + 1).toNat := ⟨_, rfl⟩
  have hm7 : m ≤ 7 := by omega
  rw [← hm]
  obtain ⟨s0, hs0⟩ : ∃ s0, s0 = Lot.rS c 7 { s with line := 10 * c.me + 1 } := ⟨_, rfl⟩
  rw [← hs0]
  have a1 : s0.code = [] := by rw [hs0]; exact hc
  have a2 : s0.lines = [] := by rw [hs0]; exact hl
  have a3 : s0.locals = s.locals := by rw [hs0]; rfl
  have a4 : s0.line = 10 * c.me + 1 := by rw [hs0]; rfl
  have hP := Pg.stmts (inn := inn) hk m s0 (by unfold LT; rw [a3]; exact hlt)
  have hlt1 := hP.lt (by unfold LT; rw [a3]; exact hlt)
  have hU := up_stmts hB m s0
  have hG := gr_stmts hB8 m s0
  generalize Lot.stmts c m s0 = s1 at *
  obtain ⟨C, K, h1, h2, h3, h4, h5⟩ := hP
  rw [a1, List.nil_append] at h1
  rw [a2, List.nil_append] at h2
  obtain ⟨u1, u2⟩ := hU
  rw [a1, List.length_nil] at u1
  rw [a3] at u2
  have g4 := hG.2.2.2.1
  rw [a1] at h5
  rw [a4] at g4
  refine ⟨C, ⟨by simp [Lot.put, h1], by simp [Lot.put, h1, h2, h3], by rw [h1] at u1; omega, fun k hk' => ?_, hlt1, by show s1.locals.length ≤ _; omega, h5⟩⟩
  have hk2 : k ∈ s1.lines ++ [s1.line + 1] := hk'
  have q1 := h4.ln
  rw [a4] at q1
  rcases List.mem_append.1 hk2 with h | h
  · rw [h2] at h
    have := h4.lk k h
    rw [a4] at this
    omega
  · have := List.mem_singleton.1 h
    omega
end Go.Proofs.Ythaniobijkdnoaa

namespace Go.Proofs.Ythaniobijkdnoaa
open Go.RowKit

/-- heads and functions agree -/
def Agree (p A : List Fn) : Prop := ∀ g, g < A.length → g < p.length ∧ (p[g]!).params = (A[g]!).params ∧ (p[g]!).results = (A[g]!).results ∧ (p[g]!).inner = (A[g]!).inner ∧ (p[g]!).outer = (A[g]!).outer
section
variable {p A : List Fn} {O R L : List Int} {inn : Bool} {x : Int × Int} {s a d : List Int}
theorem nd_need {f : Fn} (hp : Agree p A) (hL : slotsOf f = L) (hO : f.outer = O) (hi : f.inner = inn) (h : Nd A O R inn L x s a d) : Need p f x s a d := by
  subst hL hO hi
  cases h with
  | other x y st h1 h2 h3 h4 => exact .other x y _ h1 h2 ⟨h3.1, h3.2.1, h3.2.2.1, h3.2.2.2.1, h3.2.2.2.2.1, h3.2.2.2.2.2.1, h3.2.2.2.2.2.2.1, h3.2.2.2.2.2.2.2.1, h3.2.2.2.2.2.2.2.2.1, h3.2.2.2.2.2.2.2.2.2.1, h3.2.2.2.2.2.2.2.2.2.2.1⟩
  | load i st hi => exact .load i _ hi
  | store i st hi => exact .store i _ hi
  | pop t st h1 h2 => exact .pop 0 t _ h1 h2
  | dup t st h1 h2 => exact .dup 0 t _ h1 h2
  | call g st h1 h2 => rw [← (hp g h1).2.1, ← (hp g h1).2.2.1]; exact .call g _ (hp g h1).1
  | getres i st h1 h2 => exact .getres i _ h1 h2
  | setres i st h1 h2 => exact .setres i _ h1 h2
  | defer g st h1 h2 => rw [← (hp g h1).2.1]; exact .defer g _ (hp g h1).1
theorem nd_call {k : Nat} (hp : Agree p A) (hR : (p[k]!).results = R) (h : Nd A O R inn L x s a d) : CallOk p k x := by
  intro hx
  cases h with
  | other x y st h1 h2 h3 h4 => exfalso; rcases hx with h | h <;> simp only at h <;> omega
  | load i st hi => exact absurd hx (by simp)
  | store i st hi => exact absurd hx (by simp)
  | pop t st h1 h2 => exact absurd hx (by simp)
  | dup t st h1 h2 => exact absurd hx (by simp)
  | call g st h1 h2 => exact ⟨g, rfl, (hp g h1).1, .inl ((hp g h1).2.2.2.1.trans h2)⟩
  | getres i st h1 h2 => exact absurd hx (by simp)
  | setres i st h1 h2 => exact absurd hx (by simp)
  | defer g st h1 h2 =>
    refine ⟨g, rfl, (hp g h1).1, ?_⟩
    rcases h2 with h2 | ⟨h2, h3⟩
    · exact .inl ((hp g h1).2.2.2.1.trans h2)
    · exact .inr ⟨rfl, (hp g h1).2.2.2.1.trans h2, (hp g h1).2.2.2.2.trans (h3.trans hR.symm)⟩
theorem nd_place {k : Nat} (hO : (p[k]!).outer = O) (hi : (p[k]!).inner = inn) (h : Nd A O R inn L x s a d) : PlaceOk p k x := by
  subst hO hi
  cases h with
  | other x y st h1 h2 h3 h4 => exact ⟨by simp only; omega, by simp only; omega, fun h => by exfalso; rcases h with h | h <;> simp only at h <;> omega⟩
  | load i st hi => exact ⟨by simp, by simp, fun h => absurd h (by simp)⟩
  | store i st hi => exact ⟨by simp, by simp, fun h => absurd h (by simp)⟩
  | pop t st h1 h2 => exact ⟨by simp, by simp, fun h => absurd h (by simp)⟩
  | dup t st h1 h2 => exact ⟨by simp, by simp, fun h => absurd h (by simp)⟩
  | call g st h1 h2 => exact ⟨by simp, by simp, fun h => absurd h (by simp)⟩
  | getres i st h1 h2 => exact ⟨by simp, by simp, fun _ => ⟨i, rfl, h2, h1⟩⟩
  | setres i st h1 h2 => exact ⟨by simp, by simp, fun _ => ⟨i, rfl, h2, h1⟩⟩
  | defer g st h1 h2 => exact ⟨by simp, by simp, fun h => absurd h (by simp)⟩
theorem nd_inr (hA : A.length ≤ 40) (hO : O.length ≤ 4) (hL : L.length ≤ 256) (hj : x.1 = 22 → 0 ≤ x.2 ∧ x.2 ≤ 1999) (h : Nd A O R inn L x s a d) : InR x := by
  cases h with
  | other x y st h1 h2 h3 h4 =>
    refine ⟨h1, h2, ?_⟩
    simp only at hj ⊢
    by_cases e1 : x = 1
    · subst e1; exact .inl rfl
    by_cases e2 : x = 22
    · subst e2; exact .inr (hj rfl)
    · have e : kindOf x = 0 := by
        unfold kindOf
        rw [if_neg e1, if_neg (by omega), if_neg (by omega), if_neg (by omega), if_neg (by omega), if_neg (by omega)]
      have hy : y = 0 := by omega
      subst hy
      rw [e]
      exact .inr ⟨by decide, by decide⟩
  | load i st hi => exact ⟨by simp, by simp, .inr ⟨by simp, by show (i : Int) ≤ 255; omega⟩⟩
  | store i st hi => exact ⟨by simp, by simp, .inr ⟨by simp, by show (i : Int) ≤ 255; omega⟩⟩
  | pop t st h1 h2 => exact ⟨by simp, by simp, .inr ⟨by decide, by decide⟩⟩
  | dup t st h1 h2 => exact ⟨by simp, by simp, .inr ⟨by decide, by decide⟩⟩
  | call g st h1 h2 => exact ⟨by simp, by simp, .inr ⟨by simp, by show (g : Int) ≤ 39; omega⟩⟩
  | getres i st h1 h2 => exact ⟨by simp, by simp, .inr ⟨by simp, by show (i : Int) ≤ 3; omega⟩⟩
  | setres i st h1 h2 => exact ⟨by simp, by simp, .inr ⟨by simp, by show (i : Int) ≤ 3; omega⟩⟩
  | defer g st h1 h2 => exact ⟨by simp, by simp, .inr ⟨by simp, by show (g : Int) ≤ 39; omega⟩⟩
end
theorem headAt (A : List Fn) (g : Nat) (hg : g < A.length) : A.getD g default = A[g]! ∧ A[g]! ∈ A := by
  rw [List.getD_eq_getElem?_getD, List.getElem?_eq_getElem hg, getElem!_pos A g hg]
  exact ⟨rfl, List.getElem_mem hg⟩
theorem prog_at (ws : List Int) (g : Nat) (hg : g < (headsV ws).1.length) : ∃ q, (progV ws)[g]! = funcOf ws (headsV ws).1 g q := by
  have h := progK_get ws (headsV ws).1 (headsV ws).1.length 0 (headsV ws).2 g hg
  rw [Nat.zero_add] at h
  refine ⟨posF ws (headsV ws).1 0 (headsV ws).2 g, ?_⟩
  have h' : (progV ws)[g]? = some (funcOf ws (headsV ws).1 g (posF ws (headsV ws).1 0 (headsV ws).2 g)) := h
  rw [getElem!_def, h']
theorem prog_len (ws : List Int) : (progV ws).length = (headsV ws).1.length := progK_len _ _ _ _ _
theorem prog_agree (ws : List Int) : Agree (progV ws) (headsV ws).1 := by
  intro g hg
  obtain ⟨q, e⟩ := prog_at ws g hg
  rw [e, prog_len]
  unfold funcOf
  rw [(headAt _ g hg).1]
  exact ⟨hg, rfl, rfl, rfl, rfl⟩
theorem kg_of (ws : List Int) (g : Nat) (hg : g < (headsV ws).1.length) : KG (knOf ws (headsV ws).1 g) ((headsV ws).1[g]!).inner ∧ KnB2 (knOf ws (headsV ws).1 g) := by
  obtain ⟨hL, h6⟩ := headsV_hl ws
  obtain ⟨e1, e2⟩ := headAt _ g hg
  have hf := hL.f _ e2
  refine ⟨⟨hL.n1, hL.f, ?_, ?_, ?_, ?_⟩, fun f hf => ⟨(hL.f f hf).bp, (hL.f f hf).br⟩⟩
  · show ∀ t ∈ ((headsV ws).1.getD g default).outer, _
    rw [e1]; exact hf.o
  · show ((headsV ws).1.getD g default).outer = [] ∨ _
    rw [e1]
    rcases hf.oi with h | h
    · exact .inl (List.length_eq_zero_iff.1 h)
    · exact .inr h
  · show ∀ t ∈ ((headsV ws).1.getD g default).params, _
    rw [e1]; exact hf.p
  · show ∀ t ∈ ((headsV ws).1.getD g default).results, _
    rw [e1]; exact hf.r
/-- what is known of each function -/
structure FnOk (p : List Fn) (k : Nat) : Prop where
  fr : FnR p[k]!
  good : GoodFn p k
  le : (p[k]!).code.length ≤ 372
theorem fn_ok (ws : List Int) (g : Nat) (hg : g < (headsV ws).1.length) (hmay : mayB (nameAt g) = true) : FnOk (progV ws) g := by
  obtain ⟨hL, h6⟩ := headsV_hl ws
  obtain ⟨e1, e2⟩ := headAt _ g hg
  have hf := hL.f _ e2
  have hnm : ((headsV ws).1[g]!).name = nameAt g := by rw [getElem!_pos _ g hg]; exact hL.nm g hg
  obtain ⟨q, ep⟩ := prog_at ws g hg
  obtain ⟨hk, hB⟩ := kg_of ws g hg
  have hAg := prog_agree ws
  have hg' := hAg g hg
  obtain ⟨C, hb⟩ := body_ok (inn := ((headsV ws).1[g]!).inner) hk hB ⟨q, [], [], ((headsV ws).1.getD g default).locals, 0⟩ rfl rfl (by unfold LT; rw [e1]; exact hf.l) ⟨Int.natCast_nonneg g, by show (g : Int) ≤ 40; omega⟩
  have eb : Lot.body (knOf ws (headsV ws).1 g) ⟨q, [], [], ((headsV ws).1.getD g default).locals, 0⟩ = bodyOf ws (headsV ws).1 g q := rfl
  rw [eb] at hb
  have ec : ((progV ws)[g]!).code = C ++ [(25, 0)] := by rw [ep]; exact hb.code
  have el : ((progV ws)[g]!).lines = (bodyOf ws (headsV ws).1 g q).lines := by rw [ep]; rfl
  have elo : ((progV ws)[g]!).locals = (bodyOf ws (headsV ws).1 g q).locals := by rw [ep]; rfl
  have hsl : slotsOf (progV ws)[g]! = Lot.slots (knOf ws (headsV ws).1 g) (bodyOf ws (headsV ws).1 g q) := by
    rw [ep]; rfl
  have hkp : (knOf ws (headsV ws).1 g).params = ((headsV ws).1[g]!).params := by show ((headsV ws).1.getD g default).params = _; rw [e1]
  have hkr : (knOf ws (headsV ws).1 g).results = ((headsV ws).1[g]!).results := by show ((headsV ws).1.getD g default).results = _; rw [e1]
  have hko : (knOf ws (headsV ws).1 g).outer = ((headsV ws).1[g]!).outer := by show ((headsV ws).1.getD g default).outer = _; rw [e1]
  have hnl := hb.nl
  have hnl' : (bodyOf ws (headsV ws).1 g q).locals.length ≤ ((headsV ws).1.getD g default).locals.length + 21 := hnl
  rw [e1] at hnl'
  have bp := hf.bp
  have br := hf.br
  have bl := hf.bl
  have bo := hf.bo
  have hlen := hb.len
  have hSl : (slotsOf (progV ws)[g]!).length ≤ 256 := by
    rw [hsl]
    unfold Lot.slots
    rw [List.length_append, List.length_append, hkp, hkr]
    omega
  have hkall : (knOf ws (headsV ws).1 g).all = (headsV ws).1 := rfl
  have hsem := hb.sem
  rw [hko, hkr, hkall, ← hsl] at hsem
  obtain ⟨T, out, t0, t1, t2, t3, t4⟩ := hsem
  have cl : ((progV ws)[g]!).code.length = C.length + 1 := by rw [ec]; simp
  have cget : ∀ i, i < C.length → ((progV ws)[g]!).code[i]! = C[i]! := fun i hi => by rw [ec, get_app_l hi]
  have clast : ((progV ws)[g]!).code[C.length]! = (25, 0) := by rw [ec, getElem!_pos _ _ (by simp)]; simp
  have hin : ∀ i, i < C.length → InR C[i]! := fun i hi => by
    obtain ⟨q', a, d, _, _, _, _, hn⟩ := t2 i hi
    refine nd_inr (by omega) (by omega) hSl (fun h22 => ?_) hn
    by_cases hy : (C[i]!).2 = ((0 + i : Nat) : Int) + 1
    · omega
    · have hm : (C[i]!).2 ∈ nextOf (C[i]!).1 (C[i]!).2 ((0 + i : Nat) : Int) := by
        unfold nextOf
        rw [if_neg (by omega), if_pos ⟨h22, hy⟩]
        simp
      obtain ⟨k, q1, q2, _⟩ := t3 i hi _ hm
      omega
  refine ⟨⟨?_, ?_, ?_, ?_, ?_, ?_, ?_, ?_, ?_, ?_, ?_, ?_, ?_⟩, ⟨?_, ?_, ?_, ?_⟩, by omega⟩
  · rw [show ((progV ws)[g]!).name = ((headsV ws).1[g]!).name by rw [ep]; unfold funcOf; rw [e1], hnm]; exact hmay
  · rw [show ((progV ws)[g]!).name = ((headsV ws).1[g]!).name by rw [ep]; unfold funcOf; rw [e1]]
    have := heads_names ws _ e2
    omega
  · rw [hg'.2.2.2.2]; exact ⟨hf.o, by omega⟩
  · rw [hg'.2.1]; exact ⟨hf.p, by omega⟩
  · rw [hg'.2.2.1]; exact ⟨hf.r, by omega⟩
  · rw [elo]; exact ⟨hb.lt, by omega⟩
  · rw [hg'.2.2.2.2, hg'.2.2.2.1]; exact hf.oi
  · have := hSl
    unfold slotsOf at this
    rw [List.length_append, List.length_append] at this
    exact this
  · omega
  · omega
  · intro x hx
    rw [ec] at hx
    rcases List.mem_append.1 hx with h | h
    · obtain ⟨i, hi, rfl⟩ := List.getElem_of_mem h
      have := hin i hi
      rwa [getElem!_pos C i hi] at this
    · rw [List.mem_singleton.1 h]
      exact ⟨by decide, by decide, .inr ⟨by decide, by decide⟩⟩
  · rw [el, hb.ll, cl, hb.code]; simp
  · rw [el]; exact hb.ln
  · intro pc hpc
    by_cases hc : pc < C.length
    · obtain ⟨q', a, d, _, _, _, _, hn⟩ := t2 pc hc
      rw [cget pc hc]
      exact nd_call hAg hg'.2.2.1 hn
    · have : pc = C.length := by omega
      subst this
      rw [clast]
      exact fun h => absurd h (by decide)
  · intro pc hpc
    by_cases hc : pc < C.length
    · obtain ⟨q', a, d, _, _, _, _, hn⟩ := t2 pc hc
      rw [cget pc hc]
      exact nd_place hg'.2.2.2.2 hg'.2.2.2.1 hn
    · have : pc = C.length := by omega
      subst this
      rw [clast]
      exact ⟨by decide, by decide, fun h => absurd h (by decide)⟩
  · intro i hi
    have hr : ∀ i, Rp 0 C i → Rch ((progV ws)[g]!).code i := fun i h => by
      induction h with
      | zero => exact .zero
      | step i k _ h1 h2 ih =>
        refine .step i k ih (by omega) ?_
        rw [cget i h1]
        rw [Nat.zero_add, Nat.zero_add] at h2
        exact h2
    exact hr i (t4 i (by omega))
  · have ol : ∀ i, i < C.length → (fun i => if i < C.length then out i else []) i = out i := fun i hi => if_pos hi
    refine ⟨T, fun i => if i < C.length then out i else [], t0, fun pc hpc => ?_, fun pc hpc j hj => ?_⟩
    · by_cases hc : pc < C.length
      · obtain ⟨q', a, d, r1, r2, r3, r4, hn⟩ := t2 pc hc
        rw [cget pc hc, ol pc hc]
        exact ⟨q', a, d, r1, r2, r3, r4, nd_need hAg rfl hg'.2.2.2.2 hg'.2.2.2.1 hn⟩
      · have : pc = C.length := by omega
        subst this
        rw [clast]
        exact ⟨[], [], [], by rw [t1]; rfl, if_neg hc, by decide, by decide, .ret 0⟩
    · by_cases hc : pc < C.length
      · rw [cget pc hc] at hj
        obtain ⟨k, r1, r2, r3⟩ := t3 pc hc j (by rw [Nat.zero_add]; exact hj)
        exact ⟨k, by rw [r1, Nat.zero_add], by omega, by rw [ol pc hc]; exact r3⟩
      · have : pc = C.length := by omega
        subst this
        rw [clast] at hj
        exact absurd hj (by simp [nextOf])
theorem may_names : ∀ i, i < 6 → mayB (nameAt i) = true := by
  intro i hi
  have : i = 0 ∨ i = 1 ∨ i = 2 ∨ i = 3 ∨ i = 4 ∨ i = 5 := by omega
  have h0 : mayB (nameAt 0) = true := by decide +kernel
  have h1 : mayB (nameAt 1) = true := by decide +kernel
  have h2 : mayB (nameAt 2) = true := by decide +kernel
  have h3 : mayB (nameAt 3) = true := by decide +kernel
  have h4 : mayB (nameAt 4) = true := by decide +kernel
  have h5 : mayB (nameAt 5) = true := by decide +kernel
  rcases this with rfl | rfl | rfl | rfl | rfl | rfl <;> assumption
theorem names_unl : ∀ n, n ≤ 6 → unl ((List.range n).map nameAt) = true := by
  intro n hn
  have : n = 0 ∨ n = 1 ∨ n = 2 ∨ n = 3 ∨ n = 4 ∨ n = 5 ∨ n = 6 := by omega
  rcases this with rfl | rfl | rfl | rfl | rfl | rfl | rfl <;> (rw [unl, decide_eq_true_eq]; decide)
/-- the program is fine -/
theorem prog_good (ws : List Int) : GoodP (progV ws) ∧ (progV ws).length ≤ 6 ∧ ∀ k, k < (progV ws).length → ((progV ws)[k]!).code.length ≤ 372 := by
  obtain ⟨hL, h6⟩ := headsV_hl ws
  have hl := prog_len ws
  have h1 := hL.n1
  have hok : ∀ k, k < (progV ws).length → FnOk (progV ws) k := fun k hk => fn_ok ws k (by omega) (may_names k (by omega))
  have hA := prog_agree ws 0 (by omega)
  refine ⟨⟨⟨by omega, by omega, fun f hf => ?_, ?_⟩, ?_, ?_, ?_, fun k hk => (hok k hk).good⟩, by omega, fun k hk => (hok k hk).le⟩
  · obtain ⟨k, hk, rfl⟩ := List.getElem_of_mem hf
    have := (hok k hk).fr
    rwa [getElem!_pos _ k hk] at this
  · have e : (progV ws).map (·.name) = (List.range (headsV ws).1.length).map nameAt := by
      apply List.ext_getElem
      · simp [hl]
      · intro i hi hi'
        rw [List.length_map] at hi
        rw [List.getElem_map, List.getElem_map, List.getElem_range, ← hL.nm i (by omega)]
        obtain ⟨q, ep⟩ := prog_at ws i (by omega)
        rw [getElem!_pos _ i hi] at ep
        rw [ep]
        unfold funcOf
        rw [(headAt _ i (by omega)).1, getElem!_pos _ i (by omega)]
    rw [e]
    exact names_unl _ h6
  · rw [hA.2.1, hL.m.1]; intro t ht; simp at ht; exact ht
  · rw [hA.2.2.1, hL.m.2.1]; intro t ht; simp at ht; exact ht
  · rw [hA.2.2.2.1]; exact hL.m.2.2
end Go.Proofs.Ythaniobijkdnoaa
