/- Plain facts on whole numbers in limbs: the root and the product of the reference, at the limbs of numbers. No memory, no Go. -/
import Derived.Test.YtmedcpdjhgconaaDig
namespace Go.Proofs.Ytmedcpdjhgconaa.Pure
open Go.RowKit Go.Proofs.YtmedcpdjhgconaaW.PrintWords Go.Proofs.YtmedcpdjhgconaaW.PrintLast Go.Proofs.YtmedcpdjhgconaaW.PrintMore Go.Proofs.Ytmedcpdjhgconaa.PFnExactRootOfFloat

/-! ### Roots -/
theorem ln_shift (X n : Nat) : ln (X * 2 ^ n) ≤ ln X + n / 24 + 1 := by
  refine ln_le ?_
  have h1 : X * 2 ^ n < 16777216 ^ ln X * 2 ^ n := Nat.mul_lt_mul_of_pos_right (lt_ln X) (Nat.two_pow_pos n)
  have h2 : 2 ^ n ≤ 16777216 ^ (n / 24 + 1) := by rw [B_pow]; exact Nat.pow_le_pow_right (by decide) (by omega)
  have h3 := Nat.mul_le_mul_left (16777216 ^ ln X) h2
  rw [← Nat.pow_add, ← Nat.add_assoc] at h3
  omega

theorem ln_add (X Y M : Nat) (hX : ln X ≤ M) (hY : ln Y ≤ M) : ln (X + Y) ≤ M + 1 := by
  refine ln_le ?_
  have h1 : X < 16777216 ^ M := Nat.lt_of_lt_of_le (lt_ln X) (Nat.pow_le_pow_right (by decide) hX)
  have h2 : Y < 16777216 ^ M := Nat.lt_of_lt_of_le (lt_ln Y) (Nat.pow_le_pow_right (by decide) hY)
  rw [Nat.pow_succ]
  omega

theorem sg_shift (R n : Nat) : sg (sg 1 R) (R * 2 ^ n) = sg 1 (R * 2 ^ n) := by
  unfold sg
  by_cases h : R = 0
  · subst h; simp
  · rw [if_neg h]

theorem sq_next (R j : Nat) : R * R + R * 2 ^ (j + 1) + 1 * 2 ^ (2 * j) = (R + 2 ^ j) * (R + 2 ^ j) := by
  rw [Nat.pow_succ, Nat.two_mul j, Nat.pow_add, Nat.add_mul, Nat.mul_add, Nat.mul_add, Nat.mul_comm (2 ^ j) R]
  generalize 2 ^ j = t
  have : R * (t * 2) = R * t + R * t := by rw [← Nat.mul_assoc]; omega
  omega

theorem root_l0 (X w : Nat) (h0 : X ≠ 0) (hr : w * w ≤ X ∧ X < (w + 1) * (w + 1)) (hX : ln X ≤ 1000) : ∀ (j k R : Nat), j ≤ 20000 → R * R ≤ X → X < (R + 2 ^ j) * (R + 2 ^ j) → j + 100000 ≤ k →
    spec_l02Root.l0 k ((j : Int) - 1) 1 (dg X) (sg 1 R) (dg R) (sg 1 (R * R)) (dg (R * R)) 1 (dg 1) = some (sg 1 w, dg w) := by
  intro j
  induction j with
  | zero =>
    intro k R _ h1 h2 hk
    obtain ⟨k, rfl⟩ : ∃ m, k = m + 1 := ⟨k - 1, by omega⟩
    unfold spec_l02Root.l0
    rw [if_neg (by omega)]
    have : R = w := by
      rcases Nat.lt_trichotomy R w with h | h | h
      · have := Nat.mul_le_mul (show R + 1 ≤ w from h) (show R + 1 ≤ w from h); simp at h2; omega
      · exact h
      · have := Nat.mul_le_mul (show w + 1 ≤ R from h) (show w + 1 ≤ R from h); omega
    subst this
    rfl
  | succ j ih =>
    intro k R hj h1 h2 hk
    obtain ⟨k, rfl⟩ : ∃ m, k = m + 1 := ⟨k - 1, by omega⟩
    have hRX : R ≤ X := by
      rcases Nat.eq_zero_or_pos R with h | h
      · omega
      · exact Nat.le_trans (Nat.le_mul_of_pos_right R h) h1
    have l1 : ln R ≤ 1000 := Nat.le_trans (ln_mono hRX) hX
    have l2 : ln (R * R) ≤ 1000 := Nat.le_trans (ln_mono h1) hX
    have l3 := ln_shift R (j + 1)
    have l4 := ln_add (R * R) (R * 2 ^ (j + 1)) 2000 (by omega) (by omega)
    have l5 := ln_shift 1 (2 * j)
    have l6 : ln 1 = 1 := by decide
    have l7 := ln_add (R * R + R * 2 ^ (j + 1)) (1 * 2 ^ (2 * j)) 3000 (by omega) (by omega)
    have hone : sg 1 (1 * 2 ^ (2 * j)) = sg 1 (1 * 2 ^ (2 * j)) := rfl
    unfold spec_l02Root.l0
    rw [show (((j + 1 : Nat) : Int) - 1) = (j : Int) by omega, if_pos (by omega), wS j (by omega), left_f (sg 1 R) R (j + 1) k (by omega) (by omega) (by omega), sg_shift]
    rw [Option.bind_some]
    rw [add_f (R * R) (R * 2 ^ (j + 1)) k (by omega) (by omega) (by omega)]
    rw [Option.bind_some]
    rw [show wrap64 (2 * (j : Int)) = ((2 * j : Nat) : Int) by rw [w64 (by omega) (by omega)]; omega, left_f 1 1 (2 * j) k (by omega) (by omega) (by omega)]
    rw [Option.bind_some]
    rw [add_f (R * R + R * 2 ^ (j + 1)) (1 * 2 ^ (2 * j)) k (by omega) (by omega) (by omega)]
    rw [Option.bind_some]
    rw [sq_next] at l7 ⊢
    have hs1 : (1 : Int) = sg 1 X := by unfold sg; rw [if_neg h0]
    have hcmp : spec_l02Compare.f k (sg 1 ((R + 2 ^ j) * (R + 2 ^ j))) (dg ((R + 2 ^ j) * (R + 2 ^ j))) 1 (dg X) = some (cmp ((R + 2 ^ j) * (R + 2 ^ j)) X) := by
      conv => lhs; arg 4; rw [hs1]
      exact compare_f _ _ k (by omega) (by omega) (by omega)
    rw [hcmp]
    rw [Option.bind_some]
    have hw : wrap64 ((j : Int) - 1) = (j : Int) - 1 := w64 (by omega) (by omega)
    rw [hw]
    clear hw
    by_cases hle : (R + 2 ^ j) * (R + 2 ^ j) ≤ X
    · have hc : cmp ((R + 2 ^ j) * (R + 2 ^ j)) X ≤ 0 := by unfold cmp; split; decide; split; decide; omega
      rw [if_pos hc, left_f 1 1 j k (by omega) (by omega) (by omega)]
      rw [Option.bind_some]
      have l8 := ln_shift 1 j
      rw [add_f R (1 * 2 ^ j) k (by omega) (by omega) (by omega)]
      rw [Option.bind_some]
      rw [Nat.one_mul]
      exact ih k (R + 2 ^ j) (by omega) hle (by rw [Nat.add_assoc, ← Nat.two_mul, ← Nat.pow_succ']; exact h2) (by omega)
    · have hc : ¬ cmp ((R + 2 ^ j) * (R + 2 ^ j)) X ≤ 0 := by unfold cmp; rw [if_neg (by omega), if_neg (by omega)]; decide
      rw [if_neg hc]
      exact ih k R (by omega) h1 (by omega) (by omega)

theorem root_f (X w k : Nat) (h0 : X ≠ 0) (hr : w * w ≤ X ∧ X < (w + 1) * (w + 1)) (hX : ln X ≤ 1000) (hk : 200000 ≤ k) :
    spec_l02Root.f k 1 (dg X) = some (sg 1 w, dg w) := by
  unfold spec_l02Root.f
  have h1 : spec_l02Of.f k 1 = some (sg 1 1, dg 1) := of_f 1 k (by decide) (by omega)
  rw [h1]
  simp only [Option.bind_some]
  rw [length_f 1 X k (by omega) (by omega)]
  simp only [Option.bind_some]
  have hb : bl X ≤ 24 * ln X := by unfold bl ln; rw [if_neg h0, if_neg h0]; omega
  rw [wS _ (by omega), tdiv2, wN _ (by omega)]
  have h := root_l0 X w h0 hr hX ((bl X + 1) / 2 + 1) k 0 (by omega) (by omega) ?_ (by omega)
  · rw [show ((((bl X + 1) / 2 + 1 : Nat) : Int) - 1) = (((bl X + 1) / 2 : Nat) : Int) by omega] at h
    exact h
  · rw [Nat.zero_add, ← Nat.pow_add]
    have h2 := Nat.lt_log2_self (n := X)
    have h3 : bl X = X.log2 + 1 := by unfold bl; rw [if_neg h0]
    have h4 := Nat.pow_le_pow_right (n := 2) (by decide) (show X.log2 + 1 ≤ (bl X + 1) / 2 + 1 + ((bl X + 1) / 2 + 1) by omega)
    omega

/-! ### Products -/
theorem dgt_add (A T p q : Nat) (h : p < q) : dgt (A + T * 16777216 ^ q) p = dgt A p := by
  unfold dgt
  obtain ⟨d, rfl⟩ : ∃ d, q = p + 1 + d := ⟨q - (p + 1), by omega⟩
  have e : T * 16777216 ^ (p + 1 + d) = 16777216 ^ p * (16777216 * (T * 16777216 ^ d)) := by
    rw [Nat.pow_add, Nat.pow_succ]
    rw [Nat.mul_left_comm, Nat.mul_assoc]
  rw [e, Nat.add_mul_div_left _ _ (B_pos p), Nat.add_mul_mod_self_left]

/-- What stands below the carry in row i behind j products. -/
def mulA (X Y i j : Nat) : Nat := (X % 16777216 ^ i * Y) % 16777216 ^ (i + j) + X / 16777216 ^ i % 16777216 * (Y % 16777216 ^ j) * 16777216 ^ i
def mulG (X Y i j p : Nat) : Int := if p < i + j then dgt (mulA X Y i j) p else dgt (X % 16777216 ^ i * Y) p

theorem mulA_next (X Y i j : Nat) : mulA X Y i (j + 1) = mulA X Y i j + ((X % 16777216 ^ i * Y) / 16777216 ^ (i + j) % 16777216 + X / 16777216 ^ i % 16777216 * (Y / 16777216 ^ j % 16777216)) * 16777216 ^ (i + j) := by
  unfold mulA
  rw [show i + (j + 1) = i + j + 1 by omega, Nat.pow_succ 16777216 (i + j), Nat.mod_mul, Nat.pow_succ 16777216 j, Nat.mod_mul, Nat.mul_add, Nat.add_mul, Nat.add_mul, Nat.pow_add 16777216 i j]
  generalize X % 16777216 ^ i * Y = T
  generalize X / 16777216 ^ i % 16777216 = a
  generalize Y % 16777216 ^ j = y
  generalize Y / 16777216 ^ j % 16777216 = b
  generalize 16777216 ^ i = u
  generalize 16777216 ^ j = v
  generalize T % (u * v) = r
  generalize T / (u * v) % 16777216 = s
  have e1 : a * (v * b) * u = a * b * (u * v) := by
    rw [Nat.mul_comm v b, ← Nat.mul_assoc, Nat.mul_assoc, Nat.mul_comm v u]
  have e2 : u * v * s = s * (u * v) := Nat.mul_comm _ _
  rw [e1, e2]
  omega

theorem mulA_carry (X Y i j : Nat) : mulA X Y i j / 16777216 ^ (i + j) ≤ 16777216 := by
  have h1 : (X % 16777216 ^ i * Y) % 16777216 ^ (i + j) < 16777216 ^ (i + j) := Nat.mod_lt _ (B_pos _)
  have h2 : X / 16777216 ^ i % 16777216 * (Y % 16777216 ^ j) * 16777216 ^ i ≤ 16777216 * 16777216 ^ (i + j) := by
    have a : X / 16777216 ^ i % 16777216 * (Y % 16777216 ^ j) ≤ 16777216 * 16777216 ^ j := Nat.mul_le_mul (Nat.le_of_lt (dgt_lt X i)) (Nat.le_of_lt (Nat.mod_lt _ (B_pos j)))
    have b := Nat.mul_le_mul_right (16777216 ^ i) a
    rw [Nat.mul_assoc 16777216, ← Nat.pow_add, Nat.add_comm j i] at b
    exact b
  have h3 : mulA X Y i j < (16777216 + 1) * 16777216 ^ (i + j) := by
    unfold mulA
    rw [Nat.add_mul, Nat.one_mul]
    omega
  have := (Nat.div_lt_iff_lt_mul (B_pos (i + j))).2 h3
  omega

theorem mul_l (s1 s2 : Int) (X Y : Nat) (hs : wrap64 (s1 * s2) = s1 * s2) (hX : ln X ≤ 10000) (hY : ln Y ≤ 10000) : ∀ (d i k : Nat), i + d = ln X → d * (ln Y + 3) + ln X + ln Y + 20 ≤ k →
    spec_l02Mul.l0 k (dl (ln X + ln Y + 1) (X % 16777216 ^ i * Y)) (i : Int) s1 (dg X) s2 (dg Y) = some (sg (s1 * s2) (X * Y), dg (X * Y)) := by
  intro d
  induction d with
  | zero =>
    intro i k hi hk
    obtain ⟨k, rfl⟩ : ∃ m, k = m + 1 := ⟨k - 1, by omega⟩
    have hi' : i = ln X := by omega
    subst hi'
    unfold spec_l02Mul.l0
    rw [dg_length, if_neg (by omega), hs, Nat.mod_eq_of_lt (lt_ln X)]
    rw [make_f (s1 * s2) (ln X + ln Y + 1) _ k (by omega) ?_ (by omega)]
    · rfl
    · have h1 : X * Y < 16777216 ^ ln X * 16777216 ^ ln Y := Nat.mul_lt_mul'' (lt_ln X) (lt_ln Y)
      rw [← Nat.pow_add] at h1
      exact Nat.lt_of_lt_of_le h1 (Nat.pow_le_pow_right (by decide) (by omega))
  | succ d ih =>
    intro i k hi hk
    rw [Nat.add_mul, Nat.one_mul] at hk
    obtain ⟨k, rfl⟩ : ∃ m, k = m + 1 := ⟨k - 1, by omega⟩
    unfold spec_l02Mul.l0
    rw [dg_length, if_pos (by omega)]
    have inner : ∀ (r j k : Nat), j + r = ln Y → r + d * (ln Y + 3) + ln X + ln Y + 22 ≤ k →
        spec_l02Mul.l1 k (lst (ln X + ln Y + 1) (mulG X Y i j)) (i : Int) ((mulA X Y i j / 16777216 ^ (i + j) : Nat) : Int) (j : Int) s1 (dg X) s2 (dg Y) = some (sg (s1 * s2) (X * Y), dg (X * Y)) := by
      intro r
      induction r with
      | zero =>
        intro j k hj hk
        obtain ⟨k, rfl⟩ : ∃ m, k = m + 1 := ⟨k - 1, by omega⟩
        have hj' : j = ln Y := by omega
        subst hj'
        have hT : X % 16777216 ^ i * Y < 16777216 ^ (i + ln Y) := by
          rw [Nat.pow_add]; exact Nat.mul_lt_mul'' (Nat.mod_lt _ (B_pos i)) (lt_ln Y)
        have hA : mulA X Y i (ln Y) = X % 16777216 ^ (i + 1) * Y := by
          unfold mulA
          rw [Nat.mod_eq_of_lt hT, Nat.mod_eq_of_lt (lt_ln Y), Nat.pow_succ, Nat.mod_mul, Nat.add_mul]
          congr 1
          rw [Nat.mul_right_comm, Nat.mul_comm (X / 16777216 ^ i % 16777216)]
        have hT' : X % 16777216 ^ (i + 1) * Y < 16777216 ^ (i + ln Y + 1) := by
          rw [show i + ln Y + 1 = i + 1 + ln Y by omega, Nat.pow_add 16777216 (i + 1)]; exact Nat.mul_lt_mul'' (Nat.mod_lt _ (B_pos (i + 1))) (lt_ln Y)
        have hfin := ih (i + 1) k (by omega) (by omega)
        have hl : (lst (ln X + ln Y + 1) (mulG X Y i (ln Y))).set (i + ln Y) ((mulA X Y i (ln Y) / 16777216 ^ (i + ln Y) : Nat) : Int) = dl (ln X + ln Y + 1) (X % 16777216 ^ (i + 1) * Y) := by
          rw [lst_set]
          refine lst_ext fun p hp => ?_
          rw [hA]
          by_cases h1 : p = i + ln Y
          · subst h1
            simp only [if_true]
            unfold dgt
            have : X % 16777216 ^ (i + 1) * Y / 16777216 ^ (i + ln Y) < 16777216 := by
              rw [Nat.div_lt_iff_lt_mul (B_pos _), Nat.mul_comm 16777216, ← Nat.pow_succ]; exact hT'
            rw [Nat.mod_eq_of_lt this]
          · simp only [if_neg h1]
            unfold mulG
            by_cases h2 : p < i + ln Y
            · rw [if_pos h2, hA]
            · rw [if_neg h2, dgt_big (Nat.lt_of_lt_of_le hT (Nat.pow_le_pow_right (by decide) (by omega))), dgt_big (Nat.lt_of_lt_of_le hT' (Nat.pow_le_pow_right (by decide) (by omega)))]
        clear ih hA hT hT'
        unfold spec_l02Mul.l1
        rw [dg_length, if_neg (by omega), wA _ _ (by omega), if_pos (by omega), lst_length, if_pos (by omega), Int.toNat_natCast, hl, wS i (by omega)]
        exact hfin
      | succ r ihr =>
        intro j k hj hk
        obtain ⟨k, rfl⟩ : ∃ m, k = m + 1 := ⟨k - 1, by omega⟩
        have hfin := ihr (j + 1) k (by omega) (by omega)
        have hn := mulA_next X Y i j
        have hcar := mulA_carry X Y i j
        have hl : (lst (ln X + ln Y + 1) (mulG X Y i j)).set (i + j) (((mulA X Y i j / 16777216 ^ (i + j) + (X % 16777216 ^ i * Y) / 16777216 ^ (i + j) % 16777216 + X / 16777216 ^ i % 16777216 * (Y / 16777216 ^ j % 16777216)) % 16777216 : Nat) : Int) = lst (ln X + ln Y + 1) (mulG X Y i (j + 1)) := by
          rw [lst_set]
          refine lst_ext fun p hp => ?_
          unfold mulG
          by_cases h1 : p = i + j
          · subst h1
            simp only [if_true]
            rw [if_pos (by omega)]
            unfold dgt
            rw [hn, Nat.add_mul_div_right _ _ (B_pos _), Nat.add_assoc]
          · simp only [if_neg h1]
            by_cases h2 : p < i + j
            · rw [if_pos h2, if_pos (by omega), hn, dgt_add _ _ _ _ h2]
            · rw [if_neg h2, if_neg (by omega)]
        have hc : mulA X Y i (j + 1) / 16777216 ^ (i + (j + 1)) = (mulA X Y i j / 16777216 ^ (i + j) + (X % 16777216 ^ i * Y) / 16777216 ^ (i + j) % 16777216 + X / 16777216 ^ i % 16777216 * (Y / 16777216 ^ j % 16777216)) / 16777216 := by
          rw [show i + (j + 1) = i + j + 1 by omega, ← div_div_B, hn, Nat.add_mul_div_right _ _ (B_pos _), Nat.add_assoc]
        rw [hc] at hfin
        clear hn hc ihr ih
        unfold spec_l02Mul.l1
        rw [dg_length, if_pos (by omega), wA _ _ (by omega), if_pos (by omega), lst_length, if_pos (by omega), if_pos (by omega), dg_length, if_pos (by omega), if_pos (by omega)]
        rw [rd_lst _ (show i + j < ln X + ln Y + 1 by omega), rd_dg (show i < ln X by omega), rd_dg (show j < ln Y by omega)]
        have hg : mulG X Y i j (i + j) = (((X % 16777216 ^ i * Y) / 16777216 ^ (i + j) % 16777216 : Nat) : Int) := by unfold mulG; rw [if_neg (by omega)]; rfl
        rw [hg, dgt_eq, dgt_eq, wA _ _ (by have := dgt_lt (X % 16777216 ^ i * Y) (i + j); omega)]
        have hprod : X / 16777216 ^ i % 16777216 * (Y / 16777216 ^ j % 16777216) ≤ 16777216 * 16777216 := Nat.mul_le_mul (Nat.le_of_lt (dgt_lt X i)) (Nat.le_of_lt (dgt_lt Y j))
        have hdig := dgt_lt (X % 16777216 ^ i * Y) (i + j)
        rw [← Int.natCast_mul]
        generalize X / 16777216 ^ i % 16777216 * (Y / 16777216 ^ j % 16777216) = P at *
        generalize (X % 16777216 ^ i * Y) / 16777216 ^ (i + j) % 16777216 = D at *
        generalize mulA X Y i j / 16777216 ^ (i + j) = C at *
        have hdiv := Nat.div_le_self (C + D + P) 16777216
        rw [wN P (by omega), wA (C + D) P (by omega), tmodB, tdivB, wN _ (by omega), Int.toNat_natCast, hl, wS j (by omega)]
        exact hfin
    have h := inner (ln Y) 0 k (by omega) (by omega)
    have e1 : mulA X Y i 0 / 16777216 ^ (i + 0) = 0 := by
      unfold mulA
      rw [Nat.pow_zero, Nat.mod_one, Nat.mul_zero, Nat.zero_mul, Nat.add_zero]
      exact Nat.div_eq_of_lt (Nat.mod_lt _ (B_pos _))
    have e2 : lst (ln X + ln Y + 1) (mulG X Y i 0) = dl (ln X + ln Y + 1) (X % 16777216 ^ i * Y) := by
      refine lst_ext fun p _ => ?_
      unfold mulG
      split
      · rename_i hp
        have : mulA X Y i 0 + X % 16777216 ^ i * Y / 16777216 ^ i * 16777216 ^ i = X % 16777216 ^ i * Y := by
          unfold mulA
          rw [Nat.pow_zero, Nat.mod_one, Nat.mul_zero, Nat.zero_mul, Nat.add_zero, Nat.add_zero, Nat.mul_comm _ (16777216 ^ i)]
          exact Nat.mod_add_div _ _
        rw [← this, dgt_add _ _ _ _ (by omega)]
      · rfl
    rw [e1, e2] at h
    exact h

theorem mul_f (s1 s2 : Int) (X Y k : Nat) (hs : wrap64 (s1 * s2) = s1 * s2) (hX : ln X ≤ 1000) (hY : ln Y ≤ 1000) (hk : 2000000 ≤ k) :
    spec_l02Mul.f k s1 (dg X) s2 (dg Y) = some (sg (s1 * s2) (X * Y), dg (X * Y)) := by
  unfold spec_l02Mul.f
  rw [dg_length, dg_length, wA _ _ (by omega), wS _ (by omega), if_pos (by omega), Int.toNat_natCast, if_pos (by omega), lst_zero]
  have hm : ln X * (ln Y + 3) ≤ 1000 * 1003 := Nat.mul_le_mul hX (by omega)
  have h := mul_l s1 s2 X Y hs (by omega) (by omega) (ln X) 0 k (by omega) (by omega)
  have e : lst (ln X + ln Y + 1) (fun _ => 0) = dl (ln X + ln Y + 1) (X % 16777216 ^ 0 * Y) := by
    refine lst_ext fun p _ => ?_
    unfold dgt
    rw [Nat.pow_zero, Nat.mod_one, Nat.zero_mul, Nat.zero_div]
    rfl
  rw [e]
  exact h

end Go.Proofs.Ytmedcpdjhgconaa.Pure
