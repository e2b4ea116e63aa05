/- Plain facts on doubles: what the nearest double of a number times a power of two is, how products, halves, sums, orders, cuts and square roots of doubles are such. No program in sight. No condition. -/
import Derived.Laws.FloatArith
namespace Go.Proofs.YtmedcpdjhgconaaDoor.Fp

def rne (n d : Nat) : Nat := n / 2 ^ d + (decide (2 ^ d < 2 * (n % 2 ^ d)) || (2 ^ d == 2 * (n % 2 ^ d) && n / 2 ^ d % 2 == 1)).toNat

theorem rne_zero (n : Nat) : rne n 0 = n := by
  unfold rne; simp [Nat.mod_one]

theorem lt_two_pow_log2 (n : Nat) : n < 2 ^ (n.log2 + 1) := Nat.lt_log2_self

theorem rne_small {n d : Nat} (h : 2 * n < 2 ^ d) : rne n d = 0 := by
  have hlt : n < 2 ^ d := by omega
  unfold rne
  rw [Nat.div_eq_of_lt hlt, Nat.mod_eq_of_lt hlt]
  have h1 : decide (2 ^ d < 2 * n) = false := by simp; omega
  have h2 : (2 ^ d == 2 * n) = false := by simp; omega
  simp [h1]

theorem cut_even (neg : Bool) (n drop : Nat) : Ieee.Toward.even.cut neg n drop = rne n drop := by
  unfold Ieee.Toward.cut
  simp only [Nat.one_shiftLeft]
  by_cases h : drop ≤ n.log2 + 2
  · rw [Nat.min_eq_left h]; rfl
  · have hn := lt_two_pow_log2 n
    have hb : 2 * n < 2 ^ (n.log2 + 2) := by
      have : 2 ^ (n.log2 + 2) = 2 * 2 ^ (n.log2 + 1) := by rw [Nat.pow_succ 2 (n.log2 + 1)]; omega
      omega
    rw [Nat.min_eq_right (by omega)]
    have e : rne n (n.log2 + 2) = 0 := rne_small hb
    have : 2 ^ (n.log2 + 2) ≤ 2 ^ drop := Nat.pow_le_pow_right (by omega) (by omega)
    rw [rne_small (d := drop) (by omega)]
    exact e

/-- The nearest double of 'M * 2 ^ P'. -/
abbrev near (s : Bool) (M : Nat) (P : Int) : Nat := Ieee.double.nearest s M P

def lastOf (M : Nat) (P : Int) : Int := max (P + M.log2 - 52) (-1074)
def keptOf (M : Nat) (P : Int) : Nat := rne (M <<< (P - lastOf M P).toNat) (lastOf M P - P).toNat
def rungOf (M : Nat) (P : Int) : Nat := if M = 0 then 0 else min ((lastOf M P + 1074).toNat * 2 ^ 52 + keptOf M P) (2047 * 2 ^ 52)

theorem near_eq (s : Bool) (M : Nat) (P : Int) : near s M P = Ieee.double.word s (rungOf M P) := by
  unfold near Ieee.Format.nearest rungOf keptOf lastOf
  have e1 : Ieee.double.leastPlace = -1074 := by decide
  have e2 : Ieee.double.binade = 2 ^ 52 := by decide
  have e3 : Ieee.double.infRung = 2047 * 2 ^ 52 := by decide
  have e4 : (Ieee.double.fractionBits : Int) = 52 := by decide
  rw [e1, e2, e3, e4]
  by_cases h : M = 0
  · simp [h]
  · simp only [h, if_false, cut_even]
    congr 2

theorem log2_mul_pow {M : Nat} (h : M ≠ 0) (t : Nat) : (M * 2 ^ t).log2 = M.log2 + t := by
  have h1 := Nat.log2_self_le h
  have h2 := lt_two_pow_log2 M
  have hp := Nat.two_pow_pos t
  have hne : M * 2 ^ t ≠ 0 := Nat.mul_ne_zero h (by omega)
  have a : 2 ^ (M.log2 + t) ≤ M * 2 ^ t := by rw [Nat.pow_add]; exact Nat.mul_le_mul_right _ h1
  have b : M * 2 ^ t < 2 ^ (M.log2 + t + 1) := by
    rw [show M.log2 + t + 1 = M.log2 + 1 + t by omega, Nat.pow_add]; exact Nat.mul_lt_mul_of_pos_right h2 hp
  have c := (Nat.le_log2 hne).2 a
  have d := (Nat.log2_lt hne).2 b
  omega

theorem rne_scale (n d t : Nat) : rne (n * 2 ^ t) (d + t) = rne n d := by
  unfold rne
  have hp : 0 < 2 ^ t := Nat.two_pow_pos t
  have e1 : n * 2 ^ t / 2 ^ (d + t) = n / 2 ^ d := by
    rw [Nat.pow_add, Nat.mul_div_mul_right _ _ hp]
  have e2 : n * 2 ^ t % 2 ^ (d + t) = n % 2 ^ d * 2 ^ t := by
    rw [Nat.pow_add, Nat.mul_mod_mul_right]
  rw [e1, e2, Nat.pow_add]
  have e3 : decide (2 ^ d * 2 ^ t < 2 * (n % 2 ^ d * 2 ^ t)) = decide (2 ^ d < 2 * (n % 2 ^ d)) := by
    rw [decide_eq_decide, ← Nat.mul_assoc]
    exact Nat.mul_lt_mul_right hp
  have e4 : (2 ^ d * 2 ^ t == 2 * (n % 2 ^ d * 2 ^ t)) = (2 ^ d == 2 * (n % 2 ^ d)) := by
    rw [Bool.eq_iff_iff, beq_iff_eq, beq_iff_eq, ← Nat.mul_assoc]
    exact Nat.mul_left_inj (by omega)
  rw [e3, e4]

/-- The same value, the same double. -/
theorem near_scale (s : Bool) (M : Nat) (P : Int) (t : Nat) : near s (M * 2 ^ t) (P - t) = near s M P := by
  rw [near_eq, near_eq]
  congr 1
  unfold rungOf
  by_cases h : M = 0
  · simp [h]
  · have h' : M * 2 ^ t ≠ 0 := by have := Nat.two_pow_pos t; exact Nat.mul_ne_zero h (by omega)
    have hl : lastOf (M * 2 ^ t) (P - t) = lastOf M P := by
      unfold lastOf; rw [log2_mul_pow h]; congr 1; omega
    have hk : keptOf (M * 2 ^ t) (P - t) = keptOf M P := by
      unfold keptOf
      rw [hl]
      generalize lastOf M P = L
      simp only [Nat.shiftLeft_eq]
      by_cases h1 : L ≤ P - t
      · have a1 : (L - (P - t)).toNat = 0 := by omega
        have a2 : (L - P).toNat = 0 := by omega
        have a3 : (P - L).toNat = t + (P - t - L).toNat := by omega
        rw [a1, a2, a3, rne_zero, rne_zero, Nat.mul_assoc, ← Nat.pow_add]
      · by_cases h2 : L ≤ P
        · have a1 : (P - t - L).toNat = 0 := by omega
          have a2 : (L - P).toNat = 0 := by omega
          have a4 : t = (L - (P - t)).toNat + (P - L).toNat := by omega
          rw [a1, a2, rne_zero, Nat.pow_zero, Nat.mul_one]
          conv => lhs; arg 1; rw [a4]
          rw [Nat.pow_add, Nat.mul_comm (2 ^ _), ← Nat.mul_assoc]
          have := rne_scale (M * 2 ^ (P - L).toNat) 0 (L - (P - t)).toNat
          rwa [Nat.zero_add, rne_zero] at this
        · have a1 : (P - t - L).toNat = 0 := by omega
          have a2 : (P - L).toNat = 0 := by omega
          have a3 : (L - (P - t)).toNat = (L - P).toNat + t := by omega
          rw [a1, a2, a3, Nat.pow_zero, Nat.mul_one, Nat.mul_one]
          exact rne_scale _ _ _
    simp only [h, h', if_false, hl, hk]

/-- Two ways to write one value. -/
def SameV (M : Nat) (P : Int) (N : Nat) (Q : Int) : Prop := ∃ a b : Nat, M * 2 ^ a = N * 2 ^ b ∧ P - a = Q - b

theorem near_same {M N : Nat} {P Q : Int} (s : Bool) (h : SameV M P N Q) : near s M P = near s N Q := by
  obtain ⟨a, b, h1, h2⟩ := h
  rw [← near_scale s M P a, ← near_scale s N Q b, h1, h2]

theorem SameV.refl (M : Nat) (P : Int) : SameV M P M P := ⟨0, 0, rfl, rfl⟩
theorem SameV.symm {M N : Nat} {P Q : Int} (h : SameV M P N Q) : SameV N Q M P := by
  obtain ⟨a, b, h1, h2⟩ := h; exact ⟨b, a, h1.symm, h2.symm⟩
theorem SameV.trans {M N K : Nat} {P Q R : Int} (h : SameV M P N Q) (h' : SameV N Q K R) : SameV M P K R := by
  obtain ⟨a, b, h1, h2⟩ := h
  obtain ⟨c, d, h3, h4⟩ := h'
  refine ⟨a + c, b + d, ?_, by omega⟩
  rw [Nat.pow_add, ← Nat.mul_assoc, h1, Nat.mul_assoc, Nat.mul_comm (2 ^ b), ← Nat.mul_assoc, h3, Nat.mul_assoc, ← Nat.pow_add, Nat.add_comm d b]
theorem SameV.shift {M N : Nat} {P Q : Int} (h : SameV M P N Q) (k : Int) : SameV M (P + k) N (Q + k) := by
  obtain ⟨a, b, h1, h2⟩ := h; exact ⟨a, b, h1, by omega⟩
theorem SameV.mulPow (M : Nat) (P : Int) (t : Nat) : SameV (M * 2 ^ t) (P - t) M P := ⟨0, t, by simp, by omega⟩
theorem SameV.mul {M N M' N' : Nat} {P Q P' Q' : Int} (h : SameV M P N Q) (h' : SameV M' P' N' Q') : SameV (M * M') (P + P') (N * N') (Q + Q') := by
  obtain ⟨a, b, h1, h2⟩ := h
  obtain ⟨c, d, h3, h4⟩ := h'
  refine ⟨a + c, b + d, ?_, by omega⟩
  rw [Nat.pow_add, Nat.pow_add, Nat.mul_mul_mul_comm, h1, h3, Nat.mul_mul_mul_comm]

/-- A double's own significand and place. -/
structure Canon (m : Nat) (q : Int) : Prop where
  lt : m < 2 ^ 53
  lo : -1074 ≤ q
  hi : q ≤ 971
  top : 2 ^ 52 ≤ m ∨ q = -1074

def mk (s : Bool) (m : Nat) (q : Int) : Nat := Ieee.double.word s ((q + 1074).toNat * 2 ^ 52 + m)

theorem log2_of {m k : Nat} (h1 : 2 ^ k ≤ m) (h2 : m < 2 ^ (k + 1)) : m.log2 = k := by
  have hm : m ≠ 0 := by have := Nat.two_pow_pos k; omega
  have a := (Nat.le_log2 hm).2 h1
  have b := (Nat.log2_lt hm).2 h2
  omega

theorem log2_le {m k : Nat} (h2 : m < 2 ^ (k + 1)) : m.log2 ≤ k := by
  by_cases hm : m = 0
  · subst hm; simp
  · have b := (Nat.log2_lt hm).2 h2
    omega

theorem near_canon {m : Nat} {q : Int} (s : Bool) (h : Canon m q) : near s m q = mk s m q := by
  obtain ⟨h1, h2, h3, h4⟩ := h
  rw [near_eq]
  unfold mk
  congr 1
  unfold rungOf
  by_cases hm : m = 0
  · subst hm
    have : q = -1074 := by rcases h4 with h | h; exact absurd h (by decide); exact h
    subst this; simp
  · have hl : lastOf m q = q := by
      unfold lastOf
      rcases h4 with h | h
      · rw [log2_of h h1]; omega
      · subst h; have := log2_le (k := 52) h1; omega
    have hk : keptOf m q = m := by unfold keptOf; rw [hl]; simp [rne_zero]
    rw [if_neg hm, hl, hk]
    have : (q + 1074).toNat ≤ 2045 := by omega
    have : (q + 1074).toNat * 2 ^ 52 ≤ 2045 * 2 ^ 52 := Nat.mul_le_mul_right _ this
    omega

theorem read_double (x : Nat) : Ieee.double.read x = (if x % 9223372036854775808 < 4503599627370496 then .number (x / 9223372036854775808 % 2 == 1) (x % 9223372036854775808) (-1074)
    else if x % 9223372036854775808 < 9218868437227405312 then .number (x / 9223372036854775808 % 2 == 1) (4503599627370496 + x % 9223372036854775808 % 4503599627370496) (-1074 + (x % 9223372036854775808 / 4503599627370496 - 1 : Nat))
    else if x % 9223372036854775808 = 9218868437227405312 then .infinity (x / 9223372036854775808 % 2 == 1) else .nan (x / 9223372036854775808 % 2 == 1) (x % 9223372036854775808 - 9218868437227405312)) := by
  have e : Ieee.double.signWeight = 9223372036854775808 := by decide
  have e1 : Ieee.double.leastPlace = -1074 := by decide
  have e2 : Ieee.double.binade = 4503599627370496 := by decide
  have e3 : Ieee.double.infRung = 9218868437227405312 := by decide
  unfold Ieee.Format.read
  rw [e, e1, e2, e3]

theorem word_double (s : Bool) (r : Nat) : Ieee.double.word s r = (if s then 9223372036854775808 + r else r) := by
  have e : Ieee.double.signWeight = 9223372036854775808 := by decide
  unfold Ieee.Format.word
  rw [e]

theorem read_word (s : Bool) (r : Nat) (h : r < 9223372036854775808) : (Ieee.double.word s r / 9223372036854775808 % 2 == 1) = s ∧ Ieee.double.word s r % 9223372036854775808 = r := by
  rw [word_double]
  cases s
  · simp only [Bool.false_eq_true, if_false]
    have h1 : r / 9223372036854775808 = 0 := by omega
    rw [h1]; exact ⟨rfl, by omega⟩
  · simp only [if_true]
    have h1 : (9223372036854775808 + r) / 9223372036854775808 = 1 := by omega
    rw [h1]; exact ⟨rfl, by omega⟩

theorem mk_rung {m : Nat} {q : Int} (h : Canon m q) : (q + 1074).toNat * 2 ^ 52 + m < 9218868437227405312 := by
  obtain ⟨h1, h2, h3, h4⟩ := h
  omega

theorem read_mk {m : Nat} {q : Int} (s : Bool) (h : Canon m q) : Ieee.double.read (mk s m q) = .number s m q := by
  have hr := mk_rung h
  obtain ⟨h1, h2, h3, h4⟩ := h
  unfold mk
  obtain ⟨r, hrr⟩ : ∃ r, r = (q + 1074).toNat * 2 ^ 52 + m := ⟨_, rfl⟩
  rw [← hrr] at hr ⊢
  obtain ⟨r1, r2⟩ := read_word s r (by omega)
  rw [read_double, r1, r2]
  rcases h4 with h | h
  · have hd : r / 4503599627370496 = (q + 1074).toNat + 1 := by omega
    have hm : r % 4503599627370496 = m - 4503599627370496 := by omega
    rw [if_neg (by omega), if_pos (by omega), hd, hm]
    rw [show 4503599627370496 + (m - 4503599627370496) = m by omega, show (-1074 : Int) + ((q + 1074).toNat + 1 - 1 : Nat) = q by omega]
  · subst h
    have hrm : r = m := by omega
    subst hrm
    by_cases hb : r < 4503599627370496
    · rw [if_pos hb]
    · rw [if_neg hb, if_pos (by omega)]
      have hd : r / 4503599627370496 = 1 := by omega
      have hm : r % 4503599627370496 = r - 4503599627370496 := by omega
      rw [hd, hm, show 4503599627370496 + (r - 4503599627370496) = r by omega]
      rfl

/-- Every word that reads as a number is such a one. -/
theorem mk_of_read {x : Nat} (hx : x < 18446744073709551616) {s : Bool} {m : Nat} {q : Int} (h : Ieee.double.read x = .number s m q) : Canon m q ∧ x = mk s m q := by
  rw [read_double] at h
  have hsx : x = Ieee.double.word (x / 9223372036854775808 % 2 == 1) (x % 9223372036854775808) := by
    rw [word_double]
    by_cases hb : x / 9223372036854775808 % 2 = 1
    · rw [hb]; simp only [beq_self_eq_true, if_true]; omega
    · have : x / 9223372036854775808 % 2 = 0 := by omega
      rw [this]; simp only [show ((0 : Nat) == 1) = false from rfl, Bool.false_eq_true, if_false]; omega
  by_cases c1 : x % 9223372036854775808 < 4503599627370496
  · rw [if_pos c1] at h
    cases h
    refine ⟨⟨by omega, by omega, by omega, Or.inr rfl⟩, ?_⟩
    unfold mk
    rw [show ((-1074 : Int) + 1074).toNat * 2 ^ 52 + x % 9223372036854775808 = x % 9223372036854775808 by omega]
    exact hsx
  · rw [if_neg c1] at h
    by_cases c2 : x % 9223372036854775808 < 9218868437227405312
    · rw [if_pos c2] at h
      cases h
      refine ⟨⟨by omega, by omega, by omega, Or.inl (by omega)⟩, ?_⟩
      unfold mk
      rw [show ((-1074 : Int) + (x % 9223372036854775808 / 4503599627370496 - 1 : Nat) + 1074).toNat * 2 ^ 52 + (4503599627370496 + x % 9223372036854775808 % 4503599627370496) = x % 9223372036854775808 by omega]
      exact hsx
    · rw [if_neg c2] at h
      split at h <;> cases h

def Good (M : Nat) (P : Int) : Prop := ∃ m q, Canon m q ∧ SameV M P m q

theorem Good.same {M N : Nat} {P Q : Int} (h : Good M P) (hs : SameV N Q M P) : Good N Q := by
  obtain ⟨m, q, hc, hv⟩ := h; exact ⟨m, q, hc, hs.trans hv⟩

theorem Canon.good {m : Nat} {q : Int} (h : Canon m q) : Good m q := ⟨m, q, h, SameV.refl _ _⟩

theorem good_zero (P : Int) : Good 0 P := by
  refine ⟨0, -1074, ⟨by omega, by omega, by omega, Or.inr rfl⟩, (P + 1074).toNat, (-1074 - P).toNat, by simp, by omega⟩

theorem good_of {M : Nat} {P : Int} (hM : M < 2 ^ 53) (lo : -1074 ≤ P) (hi : P ≤ 971) : Good M P := by
  by_cases h0 : M = 0
  · subst h0; exact good_zero P
  · have h1 := Nat.log2_self_le h0
    have h2 := lt_two_pow_log2 M
    have h3 := log2_le (k := 52) hM
    obtain ⟨t, ht⟩ : ∃ t, t = min (52 - M.log2) (P + 1074).toNat := ⟨_, rfl⟩
    refine ⟨M * 2 ^ t, P - t, ⟨?_, by omega, by omega, ?_⟩, (SameV.mulPow M P t).symm⟩
    · have a : M * 2 ^ t < 2 ^ (M.log2 + 1) * 2 ^ t := Nat.mul_lt_mul_of_pos_right h2 (Nat.two_pow_pos t)
      rw [← Nat.pow_add] at a
      have b : 2 ^ (M.log2 + 1 + t) ≤ 2 ^ 53 := Nat.pow_le_pow_right (by omega) (by omega)
      omega
    · by_cases hc : t = 52 - M.log2
      · left
        have a : 2 ^ M.log2 * 2 ^ t ≤ M * 2 ^ t := Nat.mul_le_mul_right _ h1
        rw [← Nat.pow_add, show M.log2 + t = 52 by omega] at a
        exact a
      · right; omega

theorem good_top {P : Int} (lo : -1075 ≤ P) (hi : P ≤ 970) : Good (2 ^ 53) P :=
  (good_of (M := 2 ^ 52) (P := P + 1) (by omega) (by omega) (by omega)).same ⟨0, 1, by decide, by omega⟩

theorem read_near {M : Nat} {P : Int} (s : Bool) (h : Good M P) : ∃ m q, Canon m q ∧ SameV M P m q ∧ Ieee.double.read (near s M P) = .number s m q := by
  obtain ⟨m, q, hc, hv⟩ := h
  exact ⟨m, q, hc, hv, by rw [near_same s hv, near_canon s hc]; exact read_mk s hc⟩

theorem near_finite {M : Nat} {P : Int} (s : Bool) (h : Good M P) : ∃ m q, Canon m q ∧ near s M P = mk s m q := by
  obtain ⟨m, q, hc, hv⟩ := h
  exact ⟨m, q, hc, by rw [near_same s hv, near_canon s hc]⟩

theorem mul_near {M N : Nat} {P Q : Int} (s t : Bool) (h : Good M P) (h' : Good N Q) :
    floatBits .mul .f64 (near s M P) (near t N Q) = some (near (s ^^ t) (M * N) (P + Q)) := by
  obtain ⟨m, q, hc, hv, hr⟩ := read_near s h
  obtain ⟨n, r, hc', hv', hr'⟩ := read_near t h'
  show Ieee.double.mul _ _ = _
  unfold Ieee.Format.mul
  rw [hr, hr']
  show some (near (s ^^ t) (m * n) (q + r)) = _
  rw [near_same (s ^^ t) (hv.mul hv')]

theorem two_eq : (4611686018427387904 : Nat) = near false 1 1 := by decide +kernel
theorem base_eq : (4715268809856909312 : Nat) = near false 1 24 := by decide +kernel
theorem most_eq : (4845873199050653696 : Nat) = near false 1 53 := by decide +kernel
theorem minus_eq : (13830554455654793216 : Nat) = near true 1 0 := by decide +kernel

theorem good_one {P : Int} (lo : -1074 ≤ P) (hi : P ≤ 971) : Good 1 P := good_of (by omega) lo hi

theorem dbl_near {M : Nat} {P : Int} (s : Bool) (h : Good M P) : floatBits .mul .f64 (near s M P) 4611686018427387904 = some (near s M (P + 1)) := by
  rw [two_eq, mul_near s false h (good_one (by omega) (by omega))]; simp

theorem base_near {M : Nat} {P : Int} (s : Bool) (h : Good M P) : floatBits .mul .f64 (near s M P) 4715268809856909312 = some (near s (M * 2 ^ 24) P) := by
  rw [base_eq, mul_near s false h (good_one (by omega) (by omega))]
  have := SameV.mulPow M (P + 24) 24
  rw [show P + 24 - (24 : Nat) = P by omega] at this
  rw [near_same s this]; simp

theorem turn_near {M : Nat} {P : Int} (s : Bool) (h : Good M P) : floatBits .mul .f64 (near s M P) 13830554455654793216 = some (near (!s) M P) := by
  rw [minus_eq, mul_near s true h (good_one (by omega) (by omega))]; simp

theorem quot_number (digits : Nat) (s : Bool) (m : Nat) (i : Int) (t : Bool) (n : Nat) (j : Int) (h : n ≠ 0) : Ieee.Datum.quotient digits (.number s m i) (.number t n j) =
    some (.number (s ^^ t) (2 * ((m <<< (digits + n.log2 - m.log2)) / n) + ((m <<< (digits + n.log2 - m.log2)) % n != 0).toNat) (i - j - (digits + n.log2 - m.log2 : Nat) - 1)) := by
  simp [Ieee.Datum.quotient, h]

theorem mul_pow_add (m a b : Nat) : m * 2 ^ a * 2 ^ b = m * 2 ^ (a + b) := by rw [Nat.mul_assoc, ← Nat.pow_add]
theorem eq_pow {M m a b : Nat} (h : M * 2 ^ a = m * 2 ^ b) (x : Nat) : M * 2 ^ (a + x) = m * 2 ^ (b + x) := by
  rw [← mul_pow_add, h, mul_pow_add]

theorem hlv_near {M : Nat} {P : Int} (s : Bool) (h : Good M P) : floatBits .quo .f64 (near s M P) 4611686018427387904 = some (near s M (P - 1)) := by
  obtain ⟨m, q, hc, hv, hr⟩ := read_near s h
  have hr' : Ieee.double.read 4611686018427387904 = .number false (2 ^ 52) (-51) := by decide +kernel
  show Ieee.double.div _ _ = _
  unfold Ieee.Format.div
  rw [hr, hr']
  have e4 : Ieee.double.fractionBits + 2 = 54 := by decide
  have hl : (2 ^ 52 : Nat).log2 = 52 := by decide +kernel
  rw [e4, quot_number _ _ _ _ _ _ _ (by decide), hl]
  have hl2 := log2_le (k := 52) hc.lt
  obtain ⟨k, hk⟩ : ∃ k, 54 + 52 - m.log2 = k + 52 := ⟨54 - m.log2, by omega⟩
  rw [hk]
  rw [Nat.shiftLeft_eq]
  have h1 : m * 2 ^ (k + 52) / 2 ^ 52 = m * 2 ^ k := by rw [Nat.pow_add, ← Nat.mul_assoc]; exact Nat.mul_div_cancel _ (by decide)
  have h2 : m * 2 ^ (k + 52) % 2 ^ 52 = 0 := by rw [Nat.pow_add, ← Nat.mul_assoc]; exact Nat.mul_mod_left _ _
  rw [h1, h2]
  show some (near (s ^^ false) (2 * (m * 2 ^ k) + (0 != 0).toNat) (q - -51 - ((k + 52 : Nat) : Int) - 1)) = _
  have hs := (SameV.mulPow m (q - 1) (k + 1)).trans ((hv.symm).shift (-1))
  rw [show 2 * (m * 2 ^ k) + (0 != 0).toNat = m * 2 ^ (k + 1) by rw [Nat.pow_succ]; simp; rw [Nat.mul_comm 2, Nat.mul_assoc], show q - -51 - ((k + 52 : Nat) : Int) - 1 = q - 1 - ((k + 1 : Nat) : Int) by omega]
  rw [near_same _ hs]; simp
  rfl

theorem add_near {M N : Nat} {P : Int} (h : Good M P) (h' : Good N P) :
    floatBits .add .f64 (near false M P) (near false N P) = some (near false (M + N) P) := by
  obtain ⟨m, q, hc, ⟨a, b, h1, h2⟩, hr⟩ := read_near false h
  obtain ⟨n, r, hc', ⟨c, d, h3, h4⟩, hr'⟩ := read_near false h'
  show Ieee.double.add _ _ = _
  unfold Ieee.Format.add
  rw [hr, hr']
  unfold Ieee.Datum.sum
  obtain ⟨base, hbase⟩ : ∃ base, base = min q r := ⟨_, rfl⟩
  obtain ⟨u, hu⟩ : ∃ u : Nat, (q - base).toNat = u := ⟨_, rfl⟩
  obtain ⟨v, hv⟩ : ∃ v : Nat, (r - base).toNat = v := ⟨_, rfl⟩
  simp only [← hbase, hu, hv, Ieee.signed, Bool.false_eq_true, if_false, Nat.shiftLeft_eq]
  rw [show ((m * 2 ^ u : Nat) : Int) + ((n * 2 ^ v : Nat) : Int) = ((m * 2 ^ u + n * 2 ^ v : Nat) : Int) by omega]
  rw [show (if (((m * 2 ^ u + n * 2 ^ v : Nat) : Int)) = 0 then (false && false) else decide (((m * 2 ^ u + n * 2 ^ v : Nat) : Int) < 0)) = false by split <;> first | rfl | (rw [decide_eq_false]; exact Int.not_lt.2 (Int.natCast_nonneg _))]
  show some (near false (m * 2 ^ u + n * 2 ^ v) base) = _
  rw [near_same false (M := M + N) (P := P) (N := m * 2 ^ u + n * 2 ^ v) (Q := base)]
  refine ⟨a + c + u + v, (base - P + (a + c + u + v)).toNat, ?_, by omega⟩
  rw [Nat.add_mul, Nat.add_mul]
  congr 1
  · rw [mul_pow_add, show u + (base - P + (a + c + u + v)).toNat = b + (c + u + v) by omega, show a + c + u + v = a + (c + u + v) by omega, eq_pow h1]
  · rw [mul_pow_add, show v + (base - P + (a + c + u + v)).toNat = d + (a + u + v) by omega, show a + c + u + v = c + (a + u + v) by omega, eq_pow h3]

theorem int_near (n : Nat) : floatOfInt .f64 (n : Int) = near false n 0 := by
  unfold floatOfInt FloatKind.nearest FloatKind.encode
  have : decide ((n : Int) < 0) = false := by simp
  rw [this]
  rfl

/-! ### Too great: an infinity. -/
theorem near_big {M : Nat} {P : Int} (s : Bool) (h0 : M ≠ 0) (h : 1024 ≤ P + M.log2) : near s M P = Ieee.double.word s 9218868437227405312 := by
  rw [near_eq]
  congr 1
  unfold rungOf
  rw [if_neg h0]
  have hl : lastOf M P = P + M.log2 - 52 := by unfold lastOf; omega
  have hk : 2 ^ 52 ≤ keptOf M P := by
    unfold keptOf
    rw [hl]
    have h1 := Nat.log2_self_le h0
    by_cases hc : M.log2 ≤ 52
    · rw [show (P + M.log2 - 52 - P).toNat = 0 by omega, rne_zero, Nat.shiftLeft_eq]
      have : 2 ^ M.log2 * 2 ^ (P - (P + M.log2 - 52)).toNat ≤ M * 2 ^ (P - (P + M.log2 - 52)).toNat := Nat.mul_le_mul_right _ h1
      rw [← Nat.pow_add, show M.log2 + (P - (P + M.log2 - 52)).toNat = 52 by omega] at this
      exact this
    · rw [show (P - (P + M.log2 - 52)).toNat = 0 by omega, Nat.shiftLeft_eq, Nat.pow_zero, Nat.mul_one]
      unfold rne
      have : 2 ^ 52 ≤ M / 2 ^ (P + M.log2 - 52 - P).toNat := by
        rw [Nat.le_div_iff_mul_le (Nat.two_pow_pos _), ← Nat.pow_add, show 52 + (P + M.log2 - 52 - P).toNat = M.log2 by omega]
        exact h1
      omega
  rw [hl]
  omega

theorem dbl_inf (s : Bool) : floatBits .mul .f64 (Ieee.double.word s 9218868437227405312) 4611686018427387904 = some (Ieee.double.word s 9218868437227405312) := by
  cases s <;> decide +kernel
theorem turn_inf (s : Bool) : floatBits .mul .f64 (Ieee.double.word s 9218868437227405312) 13830554455654793216 = some (Ieee.double.word (!s) 9218868437227405312) := by
  cases s <;> decide +kernel

/-! ### Orders of numbers of one sign and one place. -/
theorem order_near {M N : Nat} {P : Int} (h : Good M P) (h' : Good N P) : FloatKind.f64.format.order (near false M P) (near false N P) = some (compare M N) := by
  obtain ⟨m, q, hc, ⟨a, b, h1, h2⟩, hr⟩ := read_near false h
  obtain ⟨n, r, hc', ⟨c, d, h3, h4⟩, hr'⟩ := read_near false h'
  show Ieee.double.order _ _ = _
  unfold Ieee.Format.order
  rw [hr, hr']
  unfold Ieee.Datum.order
  obtain ⟨base, hbase⟩ : ∃ base, base = min q r := ⟨_, rfl⟩
  obtain ⟨u, hu⟩ : ∃ u : Nat, (q - base).toNat = u := ⟨_, rfl⟩
  obtain ⟨v, hv⟩ : ∃ v : Nat, (r - base).toNat = v := ⟨_, rfl⟩
  simp only [← hbase, hu, hv, Ieee.signed, Bool.false_eq_true, if_false, Nat.shiftLeft_eq]
  congr 1
  obtain ⟨B, hB⟩ : ∃ B : Nat, B = (base - P + (a + c + u + v)).toNat := ⟨_, rfl⟩
  have e1 : m * 2 ^ u * 2 ^ B = M * 2 ^ (a + c + u + v) := by
    rw [mul_pow_add, show u + B = b + (c + u + v) by omega, show a + c + u + v = a + (c + u + v) by omega, eq_pow h1]
  have e2 : n * 2 ^ v * 2 ^ B = N * 2 ^ (a + c + u + v) := by
    rw [mul_pow_add, show v + B = d + (a + u + v) by omega, show a + c + u + v = c + (a + u + v) by omega, eq_pow h3]
  have p1 := Nat.two_pow_pos B
  have p2 := Nat.two_pow_pos (a + c + u + v)
  generalize 2 ^ B = X at *
  generalize 2 ^ (a + c + u + v) = Y at *
  generalize m * 2 ^ u = A at *
  generalize n * 2 ^ v = D at *
  have hlt : A < D ↔ M < N := by
    rw [← Nat.mul_lt_mul_right p1, e1, e2, Nat.mul_lt_mul_right p2]
  have heq : A = D ↔ M = N := by
    rw [← Nat.mul_left_inj (Nat.pos_iff_ne_zero.1 p1), e1, e2, Nat.mul_left_inj (Nat.pos_iff_ne_zero.1 p2)]
  rw [show compare (A : Int) (D : Int) = compare A D by simp only [compare, compareOfLessAndEq, Int.ofNat_lt, Int.natCast_inj]]
  simp only [compare, compareOfLessAndEq, hlt, heq]

/-! ### Rounding to 53 bits, as the reference writes it. -/
def qOf (a : Nat) (e : Int) : Int := max ((a.log2 : Int) + 1 + e - 53) (-1074)
def mOf (a : Nat) (e : Int) : Nat := if 0 < qOf a e - e then rne a (qOf a e - e).toNat else a * 2 ^ (e - qOf a e).toNat

theorem rne_le (n d : Nat) : n / 2 ^ d ≤ rne n d ∧ rne n d ≤ n / 2 ^ d + 1 := by
  unfold rne
  constructor
  · omega
  · have := Bool.toNat_le (decide (2 ^ d < 2 * (n % 2 ^ d)) || (2 ^ d == 2 * (n % 2 ^ d) && n / 2 ^ d % 2 == 1))
    omega

theorem round_facts (s : Bool) {a : Nat} (h0 : a ≠ 0) (e : Int) : near s a e = near s (mOf a e) (qOf a e) ∧ mOf a e ≤ 2 ^ 53 ∧ -1074 ≤ qOf a e ∧ (2 ^ 52 ≤ mOf a e ∨ qOf a e = -1074) := by
  have hL : lastOf a e = qOf a e := by unfold lastOf qOf; omega
  have hK : keptOf a e = mOf a e := by
    unfold keptOf mOf
    rw [hL]
    split
    · rename_i hp
      rw [show (e - qOf a e).toNat = 0 by omega]; simp
    · rename_i hp
      rw [show (qOf a e - e).toNat = 0 by omega, rne_zero, Nat.shiftLeft_eq]
  have h1 := Nat.log2_self_le h0
  have h2 := lt_two_pow_log2 a
  have hq : -1074 ≤ qOf a e := by unfold qOf; omega
  have hq2 : (a.log2 : Int) + 1 + e - 53 ≤ qOf a e := by unfold qOf; omega
  have hq3 : qOf a e = (a.log2 : Int) + 1 + e - 53 ∨ qOf a e = -1074 := by unfold qOf; omega
  have hm : mOf a e ≤ 2 ^ 53 ∧ (2 ^ 52 ≤ mOf a e ∨ qOf a e = -1074) := by
    unfold mOf
    generalize qOf a e = q at *
    split
    · rename_i hp
      obtain ⟨r1, r2⟩ := rne_le a (q - e).toNat
      generalize rne a (q - e).toNat = r at *
      constructor
      · have : a / 2 ^ (q - e).toNat < 2 ^ 53 := by
          rw [Nat.div_lt_iff_lt_mul (Nat.two_pow_pos _), ← Nat.pow_add]
          have := Nat.pow_le_pow_right (n := 2) (by omega) (show a.log2 + 1 ≤ 53 + (q - e).toNat by omega)
          omega
        omega
      · rcases hq3 with h | h
        · left
          have : 2 ^ 52 ≤ a / 2 ^ (q - e).toNat := by
            rw [Nat.le_div_iff_mul_le (Nat.two_pow_pos _), ← Nat.pow_add, show 52 + (q - e).toNat = a.log2 by omega]
            exact h1
          omega
        · right; exact h
    · rename_i hp
      constructor
      · have : a * 2 ^ (e - q).toNat < 2 ^ (a.log2 + 1) * 2 ^ (e - q).toNat := Nat.mul_lt_mul_of_pos_right h2 (Nat.two_pow_pos _)
        rw [← Nat.pow_add] at this
        have := Nat.pow_le_pow_right (n := 2) (by omega) (show a.log2 + 1 + (e - q).toNat ≤ 53 by omega)
        omega
      · rcases hq3 with h | h
        · left
          have : 2 ^ a.log2 * 2 ^ (e - q).toNat ≤ a * 2 ^ (e - q).toNat := Nat.mul_le_mul_right _ h1
          rw [← Nat.pow_add, show a.log2 + (e - q).toNat = 52 by omega] at this
          exact this
        · right; exact h
  refine ⟨?_, hm.1, hq, hm.2⟩
  rw [near_eq, near_eq]
  congr 1
  unfold rungOf
  rw [if_neg h0, hL, hK]
  obtain ⟨hm1, hm2⟩ := hm
  clear hK hL
  generalize qOf a e = q at *
  generalize mOf a e = m at *
  by_cases hz : m = 0
  · subst hz
    rcases hm2 with h | h
    · exact absurd h (by decide)
    · subst h; rfl
  · rw [if_neg hz]
    by_cases ht : m = 2 ^ 53
    · have hlog : (2 ^ 53 : Nat).log2 = 53 := by decide +kernel
      have hl : lastOf m q = q + 1 := by unfold lastOf; rw [ht, hlog]; omega
      have hk : keptOf m q = 2 ^ 52 := by
        unfold keptOf
        rw [hl, ht, show (q - (q + 1)).toNat = 0 by omega, show (q + 1 - q).toNat = 1 by omega]
        decide
      rw [hl, hk, ht]
      clear hlog hl hk
      have e53 : (2 : Nat) ^ 53 = 9007199254740992 := by decide
      have e52 : (2 : Nat) ^ 52 = 4503599627370496 := by decide
      rw [e53, e52]
      omega
    · have hl : lastOf m q = q := by
        unfold lastOf
        rcases hm2 with h | h
        · rw [log2_of (k := 52) h (by omega)]; omega
        · have := log2_le (k := 52) (m := m) (by omega); omega
      have hk : keptOf m q = m := by unfold keptOf; rw [hl]; simp [rne_zero]
      rw [hl, hk]

/-! ### A last bit that tells of what is left out. -/
def jam (B t : Nat) : Nat := 2 * (B / 2 ^ (t + 1)) + (B % 2 ^ (t + 1) != 0).toNat

theorem rne_jam (B t D : Nat) (hD : 2 ≤ D) : rne (jam B t) D = rne B (D + t) := by
  obtain ⟨d, rfl⟩ : ∃ d, D = d + 2 := ⟨D - 2, by omega⟩
  obtain ⟨K, hK⟩ : ∃ K, 2 ^ (t + 1) = K := ⟨_, rfl⟩
  obtain ⟨h, hh⟩ : ∃ h, 2 ^ d = h := ⟨_, rfl⟩
  have hKp : 0 < K := by rw [← hK]; exact Nat.two_pow_pos _
  have hhp : 0 < h := by rw [← hh]; exact Nat.two_pow_pos _
  have e1 : 2 ^ (d + 2 + t) = K * (2 * h) := by
    rw [← hK, ← hh, show d + 2 + t = (t + 1) + (1 + d) by omega, Nat.pow_add, Nat.pow_add 2 1 d]
  have e2 : 2 ^ (d + 2) = 4 * h := by rw [← hh, show d + 2 = 2 + d by omega, Nat.pow_add]
  unfold rne jam
  rw [hK, e1, e2]
  have b1 : B / (K * (2 * h)) = B / K / (2 * h) := (Nat.div_div_eq_div_mul _ _ _).symm
  have b2 : B % (K * (2 * h)) = B % K + K * (B / K % (2 * h)) := Nat.mod_mul
  rw [b1, b2]
  have hz : B % K < K := Nat.mod_lt _ hKp
  generalize B % K = z at *
  generalize B / K = Y at *
  obtain ⟨s, hs⟩ : ∃ s, (z != 0).toNat = s := ⟨_, rfl⟩
  have hs1 : (z = 0 ∧ s = 0) ∨ (z ≠ 0 ∧ s = 1) := by
    by_cases hz0 : z = 0
    · left; subst hz0; exact ⟨rfl, by rw [← hs]; rfl⟩
    · right; refine ⟨hz0, ?_⟩; rw [← hs]; simp [hz0]
  rw [hs]
  have a1 : (2 * Y + s) / (4 * h) = Y / (2 * h) := by
    rw [show 4 * h = 2 * (2 * h) by omega, ← Nat.div_div_eq_div_mul, show (2 * Y + s) / 2 = Y by omega]
  have a2 : (2 * Y + s) % (4 * h) = 2 * (Y % (2 * h)) + s := by
    rw [show 4 * h = 2 * (2 * h) by omega, Nat.mod_mul, show (2 * Y + s) / 2 = Y by omega, show (2 * Y + s) % 2 = s by omega]
    omega
  rw [a1, a2]
  have hy : Y % (2 * h) < 2 * h := Nat.mod_lt _ (by omega)
  generalize Y % (2 * h) = y at *
  generalize Y / (2 * h) = X at *
  have c1 : (4 * h < 2 * (2 * y + s)) ↔ (K * (2 * h) < 2 * (z + K * y)) := by
    constructor
    · intro hlt
      by_cases hyh : h < y
      · have : K * (h + 1) ≤ K * y := Nat.mul_le_mul_left _ hyh
        rw [Nat.mul_add] at this
        have e : K * (2 * h) = 2 * (K * h) := by rw [Nat.mul_left_comm]
        omega
      · have hy2 : y = h := by omega
        subst hy2
        have e : K * (2 * y) = 2 * (K * y) := by rw [Nat.mul_left_comm]
        omega
    · intro hlt
      have e : K * (2 * h) = 2 * (K * h) := by rw [Nat.mul_left_comm]
      by_cases hyh : h < y
      · omega
      · by_cases hy2 : y = h
        · subst hy2; omega
        · have : K * (y + 1) ≤ K * h := Nat.mul_le_mul_left _ (by omega)
          rw [Nat.mul_add] at this
          omega
  have c2 : (4 * h = 2 * (2 * y + s)) ↔ (K * (2 * h) = 2 * (z + K * y)) := by
    have e : K * (2 * h) = 2 * (K * h) := by rw [Nat.mul_left_comm]
    constructor
    · intro heq
      have hy2 : y = h := by omega
      subst hy2
      omega
    · intro heq
      by_cases hyh : h < y
      · have : K * (h + 1) ≤ K * y := Nat.mul_le_mul_left _ hyh
        rw [Nat.mul_add] at this
        omega
      · by_cases hy2 : y = h
        · subst hy2; omega
        · have : K * (y + 1) ≤ K * h := Nat.mul_le_mul_left _ (by omega)
          rw [Nat.mul_add] at this
          omega
  have d1 : decide (4 * h < 2 * (2 * y + s)) = decide (K * (2 * h) < 2 * (z + K * y)) := by rw [decide_eq_decide]; exact c1
  have d2 : (4 * h == 2 * (2 * y + s)) = (K * (2 * h) == 2 * (z + K * y)) := by rw [Bool.eq_iff_iff, beq_iff_eq, beq_iff_eq]; exact c2
  rw [d1, d2]

theorem near_jam (s : Bool) (B t : Nat) (P : Int) (h : t + 54 ≤ B.log2) : near s (jam B t) (P + t) = near s B P := by
  have h0 : B ≠ 0 := by intro hb; subst hb; simp at h
  have h1 := Nat.log2_self_le h0
  have h2 := lt_two_pow_log2 B
  have g1 : 2 ^ (B.log2 - t) ≤ jam B t := by
    unfold jam
    have : 2 ^ (B.log2 - t - 1) ≤ B / 2 ^ (t + 1) := by
      rw [Nat.le_div_iff_mul_le (Nat.two_pow_pos _), ← Nat.pow_add, show B.log2 - t - 1 + (t + 1) = B.log2 by omega]; exact h1
    have e : 2 ^ (B.log2 - t) = 2 * 2 ^ (B.log2 - t - 1) := by rw [show B.log2 - t = B.log2 - t - 1 + 1 by omega, Nat.pow_succ, Nat.add_sub_cancel]; omega
    omega
  have g2 : jam B t < 2 ^ (B.log2 - t + 1) := by
    unfold jam
    have : B / 2 ^ (t + 1) < 2 ^ (B.log2 - t) := by
      rw [Nat.div_lt_iff_lt_mul (Nat.two_pow_pos _), ← Nat.pow_add, show B.log2 - t + (t + 1) = B.log2 + 1 by omega]; exact h2
    have hb := Bool.toNat_le (B % 2 ^ (t + 1) != 0)
    have e : 2 ^ (B.log2 - t + 1) = 2 * 2 ^ (B.log2 - t) := by rw [Nat.pow_succ]; omega
    omega
  have hlog := log2_of g1 g2
  rw [near_eq, near_eq]
  congr 1
  unfold rungOf
  have hj : jam B t ≠ 0 := by have := Nat.two_pow_pos (B.log2 - t); omega
  rw [if_neg h0, if_neg hj]
  have hl : lastOf (jam B t) (P + t) = lastOf B P := by unfold lastOf; rw [hlog]; omega
  have hL : P + t + 2 ≤ lastOf B P := by unfold lastOf; omega
  have hk : keptOf (jam B t) (P + t) = keptOf B P := by
    unfold keptOf
    rw [hl]
    generalize lastOf B P = L at *
    rw [show (P + t - L).toNat = 0 by omega, show (P - L).toNat = 0 by omega, show (L - P).toNat = (L - (P + t)).toNat + t by omega]
    simp only [Nat.shiftLeft_zero]
    exact rne_jam B t _ (by omega)
  rw [hl, hk]

/-! ### Square roots -/
def IsRoot (n w : Nat) : Prop := w * w ≤ n ∧ n < (w + 1) * (w + 1)

theorem IsRoot.unique {n v w : Nat} (h : IsRoot n v) (h' : IsRoot n w) : v = w := by
  rcases Nat.lt_trichotomy v w with hlt | heq | hgt
  · have := Nat.mul_le_mul (show v + 1 ≤ w from hlt) (show v + 1 ≤ w from hlt); have := h.2; have := h'.1; omega
  · exact heq
  · have := Nat.mul_le_mul (show w + 1 ≤ v from hgt) (show w + 1 ≤ v from hgt); have := h.1; have := h'.2; omega

theorem rootFrom_is (n : Nat) : ∀ todo root : Nat, root * root ≤ n → n < (root + 2 ^ todo) * (root + 2 ^ todo) → IsRoot n (Ieee.Datum.rootFrom n todo root)
  | 0, root, h1, h2 => by
    unfold Ieee.Datum.rootFrom
    exact ⟨h1, by simpa using h2⟩
  | todo + 1, root, h1, h2 => by
    unfold Ieee.Datum.rootFrom
    rw [Nat.one_shiftLeft]
    by_cases hc : (root + 2 ^ todo) * (root + 2 ^ todo) ≤ n
    · simp only [hc, if_true]
      exact rootFrom_is n todo _ hc (by rw [Nat.add_assoc, ← Nat.two_mul, Nat.mul_comm 2, ← Nat.pow_succ]; exact h2)
    · simp only [hc, if_false]
      exact rootFrom_is n todo _ h1 (by omega)

theorem root_is (n : Nat) : IsRoot n (Ieee.Datum.rootFrom n (n.log2 / 2 + 1) 0) := by
  refine rootFrom_is n _ 0 (by simp) ?_
  rw [Nat.zero_add, ← Nat.pow_add]
  have h := lt_two_pow_log2 n
  have := Nat.pow_le_pow_right (n := 2) (by omega) (show n.log2 + 1 ≤ n.log2 / 2 + 1 + (n.log2 / 2 + 1) by omega)
  omega

/-- A root with a last bit that tells whether it is more than that. -/
def rootBit (n w : Nat) : Nat := 2 * w + (w * w != n).toNat

/-- What the square root of a double is: of some even place and some number of 109 or 110 bits. -/
theorem sqrt_near {m : Nat} {q : Int} (hc : Canon m q) (h0 : m ≠ 0) : ∃ (n : Nat) (c : Int) (w : Nat), SameV n (2 * c) m q ∧ 2 ^ 108 ≤ n ∧ n < 2 ^ 110 ∧ IsRoot n w ∧
    Ieee.double.sqrt (mk false m q) = some (near false (rootBit n w) (c - 1)) := by
  have hl2 := log2_le (k := 52) hc.lt
  obtain ⟨more, hmore⟩ : ∃ more : Nat, more = 2 * 54 - m.log2 + ((q - ((2 * 54 - m.log2 : Nat) : Int)) % 2).toNat := ⟨_, rfl⟩
  obtain ⟨c, hcc⟩ : ∃ c : Int, q - more = 2 * c := ⟨(q - more) / 2, by omega⟩
  have hs : SameV (m * 2 ^ more) (2 * c) m q := by rw [← hcc]; exact SameV.mulPow m q more
  have hlog := log2_mul_pow h0 more
  have hne : m * 2 ^ more ≠ 0 := Nat.mul_ne_zero h0 (by have := Nat.two_pow_pos more; omega)
  refine ⟨m * 2 ^ more, c, _, hs, ?_, ?_, root_is _, ?_⟩
  · have := Nat.log2_self_le hne
    rw [hlog] at this
    have h2 := Nat.pow_le_pow_right (n := 2) (by omega) (show 108 ≤ m.log2 + more by omega)
    exact Nat.le_trans h2 this
  · have := lt_two_pow_log2 (m * 2 ^ more)
    rw [hlog] at this
    have h2 := Nat.pow_le_pow_right (n := 2) (by omega) (show m.log2 + more + 1 ≤ 110 by omega)
    exact Nat.lt_of_lt_of_le this h2
  · unfold Ieee.Format.sqrt
    rw [read_mk false hc]
    have e4 : Ieee.double.fractionBits + 2 = 54 := by decide
    rw [e4]
    unfold Ieee.Datum.root
    simp only [h0, if_false, Bool.false_eq_true, Nat.shiftLeft_eq]
    rw [← hmore, show (q - (more : Int)) / 2 - 1 = c - 1 by omega]
    rfl

/-- The root of a double, by any larger number of an even place. -/
theorem sqrt_law {M : Nat} {P : Int} {n2 w2 : Nat} {c2 : Int} (hM : M ≠ 0) (hg : Good M P) (hs : SameV n2 (2 * c2) M P) (hb : 2 ^ 112 ≤ n2) (hr : IsRoot n2 w2) :
    Ieee.double.sqrt (near false M P) = some (near false (rootBit n2 w2) (c2 - 1)) := by
  obtain ⟨m, q, hc, hv⟩ := hg
  have hm0 : m ≠ 0 := by
    intro h; subst h
    obtain ⟨a, b, h1, h2⟩ := hv
    rw [Nat.zero_mul] at h1
    rcases Nat.mul_eq_zero.1 h1 with h | h
    · exact hM h
    · have := Nat.two_pow_pos a; omega
  rw [near_same false hv, near_canon false hc]
  obtain ⟨n1, c1, w1, hs1, hlo, hhi, hr1, heq⟩ := sqrt_near hc hm0
  rw [heq]
  obtain ⟨a, b, h1, h2⟩ := (hs1.trans hv.symm).trans hs.symm
  have hcc : c2 ≤ c1 := by
    refine Int.not_lt.1 fun hlt => ?_
    have hba : b = a + 2 * (c2 - c1).toNat := by omega
    rw [hba, Nat.pow_add, Nat.mul_comm (2 ^ a), ← Nat.mul_assoc] at h1
    have h3 := Nat.eq_of_mul_eq_mul_right (Nat.two_pow_pos a) h1
    have : n2 * 1 ≤ n2 * 2 ^ (2 * (c2 - c1).toNat) := Nat.mul_le_mul_left _ (Nat.two_pow_pos _)
    have h4 : (2 : Nat) ^ 110 < 2 ^ 112 := by decide
    omega
  obtain ⟨t, ht⟩ : ∃ t : Nat, (t : Int) = c1 - c2 := ⟨(c1 - c2).toNat, by omega⟩
  have hn : n2 = n1 * (2 ^ t * 2 ^ t) := by
    have hab : a = b + 2 * t := by omega
    rw [hab, Nat.pow_add, Nat.mul_comm (2 ^ b), ← Nat.mul_assoc] at h1
    have h3 := Nat.eq_of_mul_eq_mul_right (Nat.two_pow_pos b) h1
    rw [← h3, ← Nat.pow_add, show t + t = 2 * t by omega]
  obtain ⟨T, hT⟩ : ∃ T, 2 ^ t = T := ⟨_, rfl⟩
  have hTp : 0 < T := by rw [← hT]; exact Nat.two_pow_pos t
  rw [hT] at hn
  have hw : w2 / T = w1 := by
    refine IsRoot.unique ⟨?_, ?_⟩ hr1
    · have h3 : w2 / T * T ≤ w2 := Nat.div_mul_le_self _ _
      have h4 := Nat.mul_le_mul h3 h3
      have h5 := hr.1
      rw [hn] at h5
      refine Nat.le_of_mul_le_mul_right (c := T * T) ?_ (Nat.mul_pos hTp hTp)
      rw [Nat.mul_mul_mul_comm] at h4
      omega
    · have h3 : w2 + 1 ≤ (w2 / T + 1) * T := by
        have := Nat.lt_mul_div_succ w2 hTp
        rw [Nat.mul_comm]; omega
      have h4 := Nat.mul_le_mul h3 h3
      have h5 := hr.2
      rw [hn] at h5
      refine Nat.lt_of_mul_lt_mul_right (a := T * T) ?_
      rw [Nat.mul_mul_mul_comm] at h4
      omega
  have hj : jam (rootBit n2 w2) t = rootBit n1 w1 := by
    unfold jam rootBit
    obtain ⟨s2, hs2⟩ : ∃ s, (w2 * w2 != n2).toNat = s := ⟨_, rfl⟩
    have hs2' : (w2 * w2 = n2 ∧ s2 = 0) ∨ (w2 * w2 ≠ n2 ∧ s2 = 1) := by
      by_cases he : w2 * w2 = n2
      · left; refine ⟨he, ?_⟩; rw [← hs2, he]; simp
      · right; refine ⟨he, ?_⟩; rw [← hs2]; simp [he]
    rw [hs2, show 2 ^ (t + 1) = 2 * T by rw [Nat.pow_succ, hT]; omega]
    have d1 : (2 * w2 + s2) / (2 * T) = w1 := by
      rw [← Nat.div_div_eq_div_mul, show (2 * w2 + s2) / 2 = w2 by omega, hw]
    have d2 : (2 * w2 + s2) % (2 * T) = s2 + 2 * (w2 % T) := by
      rw [Nat.mod_mul, show (2 * w2 + s2) / 2 = w2 by omega, show (2 * w2 + s2) % 2 = s2 by omega]
    rw [d1, d2]
    congr 1
    have key : (s2 + 2 * (w2 % T) ≠ 0) ↔ (w1 * w1 ≠ n1) := by
      constructor
      · intro hne he
        apply hne
        have h3 : IsRoot n2 (w1 * T) := by
          refine ⟨by rw [hn, ← he, Nat.mul_mul_mul_comm]; exact Nat.le_refl _, ?_⟩
          have : w1 * T * (w1 * T) = n2 := by rw [hn, ← he, Nat.mul_mul_mul_comm]
          rw [Nat.add_mul, Nat.mul_add]; omega
        have h4 := hr.unique h3
        rw [h4, Nat.mul_mod_left]
        rcases hs2' with ⟨_, h⟩ | ⟨h, _⟩
        · omega
        · exact absurd (by rw [h4, hn, ← he, Nat.mul_mul_mul_comm]) h
      · intro hne he
        apply hne
        have h3 : w2 % T = 0 := by omega
        rcases hs2' with ⟨h, _⟩ | ⟨_, h⟩
        · have h5 : w2 = w1 * T := by rw [← hw]; exact (Nat.div_mul_cancel (Nat.dvd_of_mod_eq_zero h3)).symm
          rw [h5, hn, Nat.mul_mul_mul_comm] at h
          exact Nat.eq_of_mul_eq_mul_right (Nat.mul_pos hTp hTp) h
        · omega
    by_cases he : w1 * w1 = n1
    · have : s2 + 2 * (w2 % T) = 0 := by
        refine Nat.eq_zero_of_not_pos fun hp => ?_
        exact key.1 (by omega) he
      rw [this, he]; simp
    · have h3 := key.2 he
      have e1 : (s2 + 2 * (w2 % T) != 0) = true := by simpa using h3
      have e2 : (w1 * w1 != n1) = true := by simpa using he
      rw [e1, e2]
  rw [← hj, show c1 - 1 = c2 - 1 + t by omega]
  congr 1
  refine near_jam false _ t _ ?_
  have hw54 : 2 ^ 54 ≤ w1 := by
    refine Nat.not_lt.1 fun hlt => ?_
    have h3 := Nat.mul_le_mul (show w1 + 1 ≤ 2 ^ 54 from hlt) (show w1 + 1 ≤ 2 ^ 54 from hlt)
    have h4 := hr1.2
    have h5 : (2 : Nat) ^ 54 * 2 ^ 54 = 2 ^ 108 := by decide
    omega
  have hW : 2 ^ (t + 54) ≤ rootBit n2 w2 := by
    unfold rootBit
    have h3 : w1 * T ≤ w2 := by rw [← hw]; exact Nat.div_mul_le_self _ _
    have h4 : 2 ^ 54 * T ≤ w1 * T := Nat.mul_le_mul_right _ hw54
    rw [Nat.pow_add, hT, Nat.mul_comm T]
    omega
  exact (Nat.le_log2 (by have := Nat.two_pow_pos (t + 54); omega)).2 hW


/-! ### Tests of the reference's loops over a float -/
theorem near_shift (s : Bool) (M : Nat) (P Q : Int) (h : Q ≤ P) : near s M P = near s (M * 2 ^ (P - Q).toNat) Q := by
  have := near_scale s M P (P - Q).toNat
  rw [show P - ((P - Q).toNat : Int) = Q by omega] at this
  exact this.symm

theorem compare_gt {a b : Nat} (h : b < a) : compare a b = .gt := by
  rw [Nat.compare_eq_gt]; exact h
theorem compare_eq (a : Nat) : compare a a = .eq := by rw [Nat.compare_eq_eq]
theorem compare_lt {a b : Nat} (h : a < b) : compare a b = .lt := by
  rw [Nat.compare_eq_lt]; exact h

theorem ge_most {m : Nat} {q : Int} (hc : Canon m q) (hq : 1 ≤ q) : (FloatKind.f64.format.order (near false m q) 4845873199050653696 == some .gt || FloatKind.f64.format.order (near false m q) 4845873199050653696 == some .eq) = true := by
  have hm : 2 ^ 52 ≤ m := by rcases hc.top with h | h; exact h; omega
  rw [most_eq, near_shift false m q 1 hq, near_shift false 1 53 1 (by omega)]
  have g1 : Good (m * 2 ^ (q - 1).toNat) 1 := hc.good.same (by have := SameV.mulPow m q (q - 1).toNat; rwa [show q - ((q - 1).toNat : Int) = 1 by omega] at this)
  have g2 : Good (1 * 2 ^ (53 - 1 : Int).toNat) 1 := good_of (by decide) (by omega) (by omega)
  rw [order_near g1 g2]
  have h1 : 1 * 2 ^ (53 - 1 : Int).toNat ≤ m * 2 ^ (q - 1).toNat := by
    have : 1 * 2 ^ (53 - 1 : Int).toNat = 2 ^ 52 := by decide
    rw [this]
    exact Nat.le_trans hm (Nat.le_mul_of_pos_right m (Nat.two_pow_pos _))
  rcases Nat.lt_or_eq_of_le h1 with h | h
  · rw [compare_gt h]; rfl
  · rw [h, compare_eq]; rfl

theorem lt_most {m : Nat} {p : Int} (hm : m < 2 ^ 53) (lo : -1074 ≤ p) (hi : p ≤ 0) : (FloatKind.f64.format.order (near false m p) 4845873199050653696 == some .gt || FloatKind.f64.format.order (near false m p) 4845873199050653696 == some .eq) = false := by
  rw [most_eq, near_shift false 1 53 p (by omega)]
  have g2 : Good (1 * 2 ^ (53 - p).toNat) p := (good_one (P := 53) (by omega) (by omega)).same (by have := SameV.mulPow 1 53 (53 - p).toNat; rwa [show (53 : Int) - ((53 - p).toNat : Int) = p by omega] at this)
  rw [order_near (good_of hm lo (by omega)) g2]
  have h1 : m < 1 * 2 ^ (53 - p).toNat := by
    have := Nat.pow_le_pow_right (n := 2) (by omega) (show 53 ≤ (53 - p).toNat by omega)
    omega
  rw [compare_lt h1]; rfl

theorem pos_neg {M N : Nat} {P Q : Int} (h : Good M P) (h' : Good N Q) (hM : M ≠ 0) : FloatKind.f64.format.order (near false M P) (near true N Q) = some .gt := by
  obtain ⟨m, q, hc, ⟨a, b, h1, h2⟩, hr⟩ := read_near false h
  obtain ⟨n, r, hc', hv', hr'⟩ := read_near true h'
  show Ieee.double.order _ _ = _
  unfold Ieee.Format.order
  rw [hr, hr']
  unfold Ieee.Datum.order
  have hm : m ≠ 0 := by
    intro h; subst h
    rw [Nat.zero_mul] at h1
    rcases Nat.mul_eq_zero.1 h1 with h | h
    · exact hM h
    · have := Nat.two_pow_pos a; omega
  simp only [Ieee.signed, Bool.false_eq_true, if_false, if_true, Nat.shiftLeft_eq]
  congr 1
  have p1 := Nat.mul_pos (Nat.pos_of_ne_zero hm) (Nat.two_pow_pos (q - min q r).toNat)
  have p2 : 0 ≤ n * 2 ^ (r - min q r).toNat := Nat.zero_le _
  generalize m * 2 ^ (q - min q r).toNat = A at *
  generalize n * 2 ^ (r - min q r).toNat = C at *
  simp only [compare, compareOfLessAndEq]
  rw [if_neg (by omega), if_neg (by omega)]

theorem not_le_neg {m : Nat} {p : Int} (h0 : m ≠ 0) (hg : Good m p) : (FloatKind.f64.format.order (near false m p) (near true 1 53) == some .lt || FloatKind.f64.format.order (near false m p) (near true 1 53) == some .eq) = false := by
  rw [pos_neg hg (good_one (by omega) (by omega)) h0]; rfl

theorem neg_most : Op.negFloat .f64 4845873199050653696 = near true 1 53 := by decide +kernel

theorem cut_zero (neg : Bool) (n drop : Nat) : Ieee.Toward.zero.cut neg n drop = n / 2 ^ drop := by
  unfold Ieee.Toward.cut
  simp only [Nat.one_shiftLeft, Bool.toNat_false, Nat.add_zero]
  by_cases h : drop ≤ n.log2 + 2
  · rw [Nat.min_eq_left h]
  · have hn := lt_two_pow_log2 n
    have h1 := Nat.pow_le_pow_right (n := 2) (by omega) (show n.log2 + 1 ≤ n.log2 + 2 by omega)
    have h2 := Nat.pow_le_pow_right (n := 2) (by omega) (show n.log2 + 1 ≤ drop by omega)
    rw [Nat.min_eq_right (by omega), Nat.div_eq_of_lt (by omega), Nat.div_eq_of_lt (by omega)]

theorem fl_shift (m b : Nat) (q : Int) : m * 2 ^ b * 2 ^ (q - b).toNat / 2 ^ (-(q - b)).toNat = m * 2 ^ q.toNat / 2 ^ (-q).toNat := by
  by_cases h : 0 ≤ q - b
  · rw [show (-(q - b)).toNat = 0 by omega, show (-q).toNat = 0 by omega, mul_pow_add, show b + (q - b).toNat = q.toNat by omega]
  · rw [show (q - b).toNat = 0 by omega, Nat.pow_zero, Nat.mul_one]
    by_cases h2 : 0 ≤ q
    · rw [show (-q).toNat = 0 by omega, Nat.pow_zero, Nat.div_one, show b = q.toNat + (-(q - b)).toNat by omega, Nat.pow_add, ← Nat.mul_assoc]
      have : (-(q - ((q.toNat + (-(q - b)).toNat : Nat) : Int))).toNat = (-(q - b)).toNat := by omega
      rw [this]
      exact Nat.mul_div_cancel _ (Nat.two_pow_pos _)
    · rw [show q.toNat = 0 by omega, Nat.pow_zero, Nat.mul_one, show (-(q - b)).toNat = (-q).toNat + b by omega, Nat.pow_add]
      exact Nat.mul_div_mul_right _ _ (Nat.two_pow_pos b)

/-- A float cut to an integer. -/
theorem int_of {M t : Nat} (hM : M < 2 ^ 53) (ht : t ≤ 1074) : floatToIntVal .f64 (near false M (-(t : Int))) .i64 = some ((M / 2 ^ t : Nat) : Int) := by
  obtain ⟨m, q, hc, ⟨a, b, h1, h2⟩, hr⟩ := read_near false (good_of (P := -(t : Int)) hM (by omega) (by omega))
  unfold floatToIntVal
  have hd : FloatKind.f64.decode (near false M (-(t : Int))) = .number false m q := hr
  rw [hd]
  have e1 : m * 2 ^ q.toNat / 2 ^ (-q).toNat = M / 2 ^ t := by
    rw [← fl_shift m b q, ← h1, ← h2, fl_shift M a (-(t : Int)), show (-(t : Int)).toNat = 0 by omega, show (-(-(t : Int))).toNat = t by omega, Nat.pow_zero, Nat.mul_one]
  have e2 : Ieee.Datum.toInt .zero (.number false m q) = some ((M / 2 ^ t : Nat) : Int) := by
    unfold Ieee.Datum.toInt Ieee.Datum.integral
    simp only [cut_zero, Nat.shiftLeft_eq, e1, Ieee.signed, Bool.false_eq_true, if_false, Nat.pow_zero, Nat.mul_one]
  rw [e2]
  have h3 : M / 2 ^ t ≤ M := Nat.div_le_self _ _
  have h4 : IntKind.i64.min = -9223372036854775808 := by decide
  have h5 : IntKind.i64.max = 9223372036854775807 := by decide
  simp only [h4, h5]
  clear e1 e2
  generalize M / 2 ^ t = F at *
  rw [if_pos (by omega)]

/-- Is it whole? -/
theorem whole_test {M t : Nat} (hM : M < 2 ^ 53) (ht : t ≤ 1074) : (FloatKind.f64.format.order (near false (M / 2 ^ t) 0) (near false M (-(t : Int))) != some .eq) = decide (M % 2 ^ t ≠ 0) := by
  rw [near_shift false (M / 2 ^ t) 0 (-(t : Int)) (by omega), show (0 - -(t : Int)).toNat = t by omega]
  have h3 : M / 2 ^ t * 2 ^ t ≤ M := Nat.div_mul_le_self _ _
  rw [order_near (good_of (by omega) (by omega) (by omega)) (good_of hM (by omega) (by omega))]
  have h4 := Nat.mod_add_div M (2 ^ t)
  rw [Nat.mul_comm] at h4
  by_cases h : M % 2 ^ t = 0
  · have : M / 2 ^ t * 2 ^ t = M := by omega
    rw [this, compare_eq, h]; rfl
  · rw [compare_lt (show M / 2 ^ t * 2 ^ t < M by omega)]
    simp [h]

theorem order_zero {M : Nat} {P : Int} (h0 : M ≠ 0) (hg : Good M P) : FloatKind.f64.format.order (near false M P) 0 = some .gt := by
  have e : (0 : Nat) = near false 0 P := by rw [near_eq]; rfl
  conv => lhs; rw [e]
  rw [order_near hg (good_zero P), compare_gt (Nat.pos_of_ne_zero h0)]


/-! ### Scaling -/
theorem up_or_inf {M : Nat} {P : Int} (hM : M ≤ 2 ^ 53) (lo : -1074 ≤ P) : Good M P ∨ (M ≠ 0 ∧ 1024 ≤ P + M.log2) := by
  by_cases h0 : M = 0
  · left; subst h0; exact good_zero P
  · by_cases hb : 1024 ≤ P + M.log2
    · right; exact ⟨h0, hb⟩
    · left
      by_cases hP : P ≤ 970
      · by_cases h53 : M = 2 ^ 53
        · subst h53; exact good_top (by omega) hP
        · exact good_of (by omega) lo (by omega)
      · have h2 := lt_two_pow_log2 M
        have h3 : M * 2 ^ (P - 971).toNat < 2 ^ 53 := by
          have a := Nat.mul_lt_mul_of_pos_right h2 (Nat.two_pow_pos (P - 971).toNat)
          rw [← Nat.pow_add] at a
          have b := Nat.pow_le_pow_right (n := 2) (by omega) (show M.log2 + 1 + (P - 971).toNat ≤ 53 by omega)
          omega
        refine (good_of (P := 971) h3 (by omega) (by omega)).same ?_
        have := SameV.mulPow M P (P - 971).toNat
        rw [show P - ((P - 971).toNat : Int) = 971 by omega] at this
        exact this.symm

theorem dbl_any {M : Nat} {P : Int} (hM : M ≤ 2 ^ 53) (lo : -1074 ≤ P) : floatBits .mul .f64 (near false M P) 4611686018427387904 = some (near false M (P + 1)) := by
  rcases up_or_inf hM lo with h | ⟨h0, hb⟩
  · exact dbl_near false h
  · rw [near_big false h0 hb, near_big false h0 (show 1024 ≤ P + 1 + M.log2 by omega)]
    exact dbl_inf false

theorem turn_any {M : Nat} {P : Int} (hM : M ≤ 2 ^ 53) (lo : -1074 ≤ P) : floatBits .mul .f64 (near false M P) 13830554455654793216 = some (near true M P) := by
  rcases up_or_inf hM lo with h | ⟨h0, hb⟩
  · exact turn_near false h
  · rw [near_big false h0 hb, near_big true h0 hb]
    exact turn_inf false

theorem good_down {M : Nat} {i : Nat} (hM : M ≤ 2 ^ 53) (hi : i ≤ 1074) : Good M (-(i : Int)) := by
  by_cases h53 : M = 2 ^ 53
  · subst h53; exact good_top (by omega) (by omega)
  · exact good_of (by omega) (by omega) (by omega)
end Go.Proofs.YtmedcpdjhgconaaDoor.Fp
