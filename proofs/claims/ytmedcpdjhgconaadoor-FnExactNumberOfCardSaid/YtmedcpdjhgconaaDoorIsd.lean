/- Which exact numbers the reference and the program take: they take the same; and what such a number is, in plain numbers. -/
import Derived.Test.YtmedcpdjhgconaaDoorDig
namespace Go.Proofs.YtmedcpdjhgconaaDoor.Pure
open Go.RowKit Go.Proofs.YtmedcpdjhgconaaDoorW.PrintWords Go.Proofs.YtmedcpdjhgconaaDoorW.PrintLast Go.Proofs.YtmedcpdjhgconaaDoorW.PrintMore Go.Proofs.YtmedcpdjhgconaaDoor.PFnExactFloatOf
set_option linter.unusedVariables false

theorem whole_same (l : List Int) (n s : Int) : ∀ (k : Nat) (i : Int), impl_IsWhole.l0 k n l n i s l = spec_l02Is.l0 k n i s l
  | 0, _ => rfl
  | k + 1, i => by
    unfold impl_IsWhole.l0 spec_l02Is.l0
    have e : ∀ a b c : Int, impl_between.f a b c = spec_l01In.f a b c := fun _ _ _ => rfl
    simp only [e, whole_same l n s k]

theorem dyadic_j (s e : Int) (l : List Int) (b : Bool) : ∀ k, impl_IsDyadic.j0 k b s l e = spec_l03Is.j0 k b s l e
  | 0 => rfl
  | k + 1 => rfl

theorem dyadic_same (k : Nat) (s e : Int) (l : List Int) : impl_IsDyadic.f k s l e = spec_l03Is.f k s l e := by
  unfold impl_IsDyadic.f spec_l03Is.f impl_IsWhole.f spec_l02Is.f
  have e1 : ∀ a b c : Int, impl_between.f a b c = spec_l01In.f a b c := fun _ _ _ => rfl
  simp only [whole_same, dyadic_j, e1]

def Digits (l : List Int) : Prop := ∀ j : Nat, j < l.length → 0 ≤ rd l (j : Int) ∧ rd l (j : Int) ≤ 16777215

theorem is_l0 (s : Int) (l : List Int) (hl : l.length < 2 ^ 60) : ∀ (d i k : Nat), i + d = l.length → d + 1 ≤ k → (∀ j : Nat, j < i → 0 ≤ rd l (j : Int) ∧ rd l (j : Int) ≤ 16777215) →
    ∃ b, spec_l02Is.l0 k (l.length : Int) (i : Int) s l = some b ∧ (b = true → Digits l ∧ ((l.length = 0 ∧ s = 0) ∨ (0 < l.length ∧ l.length ≤ 200 ∧ rd l ((l.length - 1 : Nat) : Int) ≠ 0 ∧ (s = 1 ∨ s = -1)))) := by
  intro d
  induction d with
  | zero =>
    intro i k hi hk hd
    obtain ⟨k, rfl⟩ : ∃ m, k = m + 1 := ⟨k - 1, by omega⟩
    unfold spec_l02Is.l0
    rw [if_neg (by omega)]
    have hD : Digits l := fun j hj => hd j (by omega)
    by_cases h0 : l.length = 0
    · rw [if_pos (by omega)]
      exact ⟨_, rfl, fun h => ⟨hD, Or.inl ⟨h0, by simpa using h⟩⟩⟩
    · rw [if_neg (by omega)]
      by_cases h2 : l.length ≤ 200
      · have e1 : wrap64 ((l.length : Int) - 1) = ((l.length - 1 : Nat) : Int) := by rw [w64 (by omega) (by omega)]; omega
        rw [if_pos (by omega), e1, if_pos (by omega), if_pos (by omega)]
        by_cases hz : rd l ((l.length - 1 : Nat) : Int) = 0
        · rw [if_pos hz]
          exact ⟨_, rfl, fun h => by cases h⟩
        · rw [if_neg hz]
          by_cases hs : s = 1
          · rw [if_pos hs]
            exact ⟨_, rfl, fun _ => ⟨hD, Or.inr ⟨by omega, h2, hz, Or.inl hs⟩⟩⟩
          · rw [if_neg hs]
            exact ⟨_, rfl, fun h => ⟨hD, Or.inr ⟨by omega, h2, hz, Or.inr (by simpa using h)⟩⟩⟩
      · rw [if_neg (by omega)]
        exact ⟨_, rfl, fun h => by cases h⟩
  | succ d ih =>
    intro i k hi hk hd
    obtain ⟨k, rfl⟩ : ∃ m, k = m + 1 := ⟨k - 1, by omega⟩
    unfold spec_l02Is.l0
    rw [if_pos (by omega), if_pos (by omega), if_pos (by omega)]
    unfold spec_l01In.f
    by_cases h0 : rd l (i : Int) ≥ 0
    · rw [if_pos h0, Option.bind_some]
      by_cases h1 : rd l (i : Int) ≤ 16777215
      · have e1 : wrap64 ((i : Int) + 1) = ((i + 1 : Nat) : Int) := by rw [w64 (by omega) (by omega)]; omega
        rw [decide_eq_true h1, if_pos rfl, e1]
        exact ih (i + 1) k (by omega) (by omega) (fun j hj => by
          by_cases hj' : j = i
          · subst hj'; exact ⟨h0, h1⟩
          · exact hd j (by omega))
      · rw [decide_eq_false h1, if_neg (by simp)]
        exact ⟨_, rfl, fun h => by cases h⟩
    · rw [if_neg h0, Option.bind_some, if_neg (by simp)]
      exact ⟨_, rfl, fun h => by cases h⟩

/-- A list of digits is a number's. -/
theorem digits_num (l : List Int) (hd : Digits l) : ∀ n : Nat, n ≤ l.length → ∃ X, X < 16777216 ^ n ∧ ∀ i : Nat, i < n → dgt X i = rd l (i : Int) := by
  intro n
  induction n with
  | zero => intro _; exact ⟨0, by simp, fun i hi => absurd hi (by omega)⟩
  | succ n ih =>
    intro hn
    obtain ⟨X, hX, hi⟩ := ih (by omega)
    obtain ⟨h1, h2⟩ := hd n (by omega)
    obtain ⟨D, hD⟩ : ∃ D : Nat, rd l (n : Int) = D := ⟨(rd l (n : Int)).toNat, by omega⟩
    rw [hD] at h1 h2
    have hp := B_pos n
    refine ⟨X + D * 16777216 ^ n, ?_, fun i hin => ?_⟩
    · rw [Nat.pow_succ]
      have : D * 16777216 ^ n ≤ 16777215 * 16777216 ^ n := Nat.mul_le_mul_right _ (by omega)
      omega
    · by_cases h : i = n
      · subst h
        rw [hD]
        unfold dgt
        rw [Nat.add_mul_div_right _ _ hp, Nat.div_eq_of_lt hX, Nat.zero_add, Nat.mod_eq_of_lt (by omega)]
      · rw [← hi i (by omega)]
        unfold dgt
        obtain ⟨u, hu⟩ : ∃ u, n = i + 1 + u := ⟨n - i - 1, by omega⟩
        have e : D * 16777216 ^ n = 16777216 ^ i * (16777216 * (D * 16777216 ^ u)) := by
          rw [hu, Nat.pow_add, Nat.pow_succ]
          simp only [Nat.mul_assoc, Nat.mul_comm, Nat.mul_left_comm]
        rw [e, Nat.add_mul_div_left _ _ (B_pos i), Nat.add_mul_mod_self_left]

theorem digits_dg (l : List Int) (hd : Digits l) (h0 : 0 < l.length) (hz : rd l ((l.length - 1 : Nat) : Int) ≠ 0) : ∃ X, X ≠ 0 ∧ ln X = l.length ∧ dg X = l := by
  obtain ⟨X, hX, hi⟩ := digits_num l hd l.length (Nat.le_refl _)
  have hlast := hi (l.length - 1) (by omega)
  have hX0 : X ≠ 0 := by
    intro h
    subst h
    rw [← hlast] at hz
    exact hz (by unfold dgt; rw [Nat.zero_div]; rfl)
  have hln : ln X = l.length := by
    have h1 := ln_le hX
    have h2 : ¬ ln X < l.length := by
      intro h
      have h3 : X < 16777216 ^ (l.length - 1) := Nat.lt_of_lt_of_le (lt_ln X) (Nat.pow_le_pow_right (by decide) (by omega))
      rw [dgt_big h3] at hlast
      exact hz hlast.symm
    omega
  refine ⟨X, hX0, hln, ?_⟩
  apply List.ext_getElem
  · rw [dg_length, hln]
  · intro i h1 h2
    have e1 := rd_dg (X := X) (i := i) (by rw [hln]; exact h2)
    have e2 := hi i h2
    have e3 : rd (dg X) (i : Int) = (dg X)[i] := by simp [rd, h1]
    have e4 : rd l (i : Int) = l[i] := by simp [rd, h2]
    rw [← e3, ← e4, e1, e2]

/-- What l03Is says of a number: an answer, and if it is yes: a zero, or an odd whole number of at most 200 limbs with a sign, at a place between -5000 and 5000. -/
theorem is_f (s e : Int) (l : List Int) (k : Nat) (hl : l.length < 2 ^ 60) (hk : l.length + 2 ≤ k) :
    ∃ b, spec_l03Is.f k s l e = some b ∧ (b = true → (s = 0 ∧ l = [] ∧ e = 0) ∨ ∃ X, X % 2 = 1 ∧ ln X ≤ 200 ∧ dg X = l ∧ (s = 1 ∨ s = -1) ∧ -5000 ≤ e ∧ e ≤ 5000) := by
  obtain ⟨b, hb, hB⟩ := is_l0 s l hl l.length 0 k (by omega) (by omega) (fun j hj => absurd hj (by omega))
  have hb' : spec_l02Is.f k s l = some b := hb
  unfold spec_l03Is.f
  rw [hb', Option.bind_some]
  obtain ⟨k, rfl⟩ : ∃ m, k = m + 1 := ⟨k - 1, by omega⟩
  cases b with
  | false =>
    rw [if_neg (by simp)]
    exact ⟨false, by simp [spec_l03Is.j0], fun h => by cases h⟩
  | true =>
    rw [if_pos rfl]
    obtain ⟨hD, hw⟩ := hB rfl
    unfold spec_l01In.f
    by_cases h1 : e ≥ -5000 ∧ e ≤ 5000
    · rw [if_pos h1.1, Option.bind_some, decide_eq_true h1.2]
      simp only [spec_l03Is.j0, Bool.not_true, Bool.false_eq_true, if_false]
      rcases hw with ⟨h0, hs⟩ | ⟨h0, h200, hz, hs⟩
      · rw [if_pos hs]
        exact ⟨_, rfl, fun h => Or.inl ⟨hs, List.length_eq_zero_iff.1 h0, by simpa using h⟩⟩
      · rw [if_neg (by omega), if_pos (by omega)]
        refine ⟨_, rfl, fun h => Or.inr ?_⟩
        obtain ⟨X, hX0, hln, hdg⟩ := digits_dg l hD h0 hz
        refine ⟨X, ?_, by omega, hdg, hs, h1.1, h1.2⟩
        have e0 : rd l 0 = dgt X 0 := by rw [← hdg]; exact rd_dg (i := 0) (by omega)
        have hh : Int.tmod (rd l 0) 2 = 1 := by simpa using h
        rw [e0] at hh
        unfold dgt at hh
        rw [Nat.pow_zero, Nat.div_one, show (2 : Int) = ((2 : Nat) : Int) from rfl, tmodN] at hh
        omega
    · by_cases h2 : e ≥ -5000
      · rw [if_pos h2, Option.bind_some, decide_eq_false (by omega)]
        exact ⟨false, by simp [spec_l03Is.j0], fun h => by cases h⟩
      · rw [if_neg h2, Option.bind_some]
        exact ⟨false, by simp [spec_l03Is.j0], fun h => by cases h⟩
end Go.Proofs.YtmedcpdjhgconaaDoor.Pure
