/- Narrow floats: what a float32 reads as, and that a number that is not too great converts to a float32 that is a number. -/
import Derived.Test.YtmedcpdjhgconaaFloat
namespace Go.Proofs.Ytmedcpdjhgconaa
open Go.RowKit Go.Proofs.Ytmedcpdjhgconaa.Fp

theorem read_single (x : Nat) : Ieee.single.read x = (if x % 2147483648 < 8388608 then .number (x / 2147483648 % 2 == 1) (x % 2147483648) (-149)
    else if x % 2147483648 < 2139095040 then .number (x / 2147483648 % 2 == 1) (8388608 + x % 2147483648 % 8388608) (-149 + (x % 2147483648 / 8388608 - 1 : Nat))
    else if x % 2147483648 = 2139095040 then .infinity (x / 2147483648 % 2 == 1) else .nan (x / 2147483648 % 2 == 1) (x % 2147483648 - 2139095040)) := by
  have e : Ieee.single.signWeight = 2147483648 := by decide
  have e1 : Ieee.single.leastPlace = -149 := by decide
  have e2 : Ieee.single.binade = 8388608 := by decide
  have e3 : Ieee.single.infRung = 2139095040 := by decide
  unfold Ieee.Format.read
  rw [e, e1, e2, e3]

theorem single_number {x : Nat} {s : Bool} {m : Nat} {e : Int} (h : Ieee.single.read x = .number s m e) : m < 2 ^ 24 ∧ -149 ≤ e ∧ e ≤ 104 := by
  rw [read_single] at h
  have hx : x % 2147483648 < 2147483648 := Nat.mod_lt _ (by decide)
  generalize x % 2147483648 = y at *
  split at h
  · cases h; omega
  · split at h
    · cases h; omega
    · split at h <;> cases h

/-- A number of the narrow format's range stays a number there. -/
theorem narrow_number (s : Bool) (M : Nat) (P : Int) (h : M = 0 ∨ P + M.log2 ≤ 100) : ∃ m q, Ieee.single.read (Ieee.single.nearest s M P) = .number s m q ∧ Ieee.single.nearest s M P < 4294967296 := by
  have word (r : Nat) (hr : r < 2139095040) : ∃ m q, Ieee.single.read (Ieee.single.word s r) = .number s m q ∧ Ieee.single.word s r < 4294967296 := by
    have e : Ieee.single.signWeight = 2147483648 := by decide
    unfold Ieee.Format.word
    rw [e, read_single]
    cases s
    · simp only [Bool.false_eq_true, if_false]
      rw [show r % 2147483648 = r by omega, show r / 2147483648 = 0 by omega]
      split
      · exact ⟨_, _, rfl, by omega⟩
      · exact ⟨_, _, rfl, by omega⟩
    · simp only [if_true]
      rw [show (2147483648 + r) % 2147483648 = r by omega, show (2147483648 + r) / 2147483648 = 1 by omega]
      split
      · exact ⟨_, _, rfl, by omega⟩
      · exact ⟨_, _, rfl, by omega⟩
  by_cases h0 : M = 0
  · subst h0
    exact word 0 (by decide)
  · have hp : P + M.log2 ≤ 100 := by rcases h with h | h; exact absurd h h0; exact h
    unfold Ieee.Format.nearest
    have e1 : Ieee.single.leastPlace = -149 := by decide
    have e2 : Ieee.single.binade = 8388608 := by decide
    have e3 : Ieee.single.infRung = 2139095040 := by decide
    have e4 : (Ieee.single.fractionBits : Int) = 23 := by decide
    rw [if_neg h0, e1, e2, e3, e4]
    obtain ⟨L, hL⟩ : ∃ L, L = max (P + (M.log2 : Int) - 23) (-149) := ⟨_, rfl⟩
    rw [← hL]
    simp only [cut_even]
    have hL1 : -149 ≤ L ∧ L ≤ 77 ∧ P + (M.log2 : Int) - 23 ≤ L := by omega
    have hk : rne (M <<< (P - L).toNat) (L - P).toNat ≤ 2 ^ 24 := by
      have h2 := (rne_le (M <<< (P - L).toNat) (L - P).toNat).2
      have h3 : M <<< (P - L).toNat / 2 ^ (L - P).toNat < 2 ^ 24 := by
        rw [Nat.shiftLeft_eq, Nat.div_lt_iff_lt_mul (Nat.two_pow_pos _), ← Nat.pow_add]
        have h4 : M * 2 ^ (P - L).toNat < 2 ^ (M.log2 + 1) * 2 ^ (P - L).toNat := Nat.mul_lt_mul_of_pos_right (lt_two_pow_log2 M) (Nat.two_pow_pos _)
        rw [← Nat.pow_add] at h4
        exact Nat.lt_of_lt_of_le h4 (Nat.pow_le_pow_right (by decide) (by omega))
      omega
    generalize rne (M <<< (P - L).toNat) (L - P).toNat = K at *
    exact word _ (by omega)

/-- A zero against zero. -/
theorem order_sign (f : Ieee.Format) {x : Nat} {s : Bool} {m : Nat} {e p : Int} (h : f.read x = .number s m e) (h0 : f.read 0 = .number false 0 p) :
    f.order x 0 = some (if m = 0 then .eq else if s then .lt else .gt) := by
  unfold Ieee.Format.order
  rw [h, h0]
  unfold Ieee.Datum.order
  simp only [Ieee.signed, Bool.false_eq_true, if_false, Nat.shiftLeft_eq, Nat.zero_mul]
  congr 1
  by_cases hm : m = 0
  · subst hm
    rw [if_pos rfl, Nat.zero_mul]
    cases s <;> rfl
  · rw [if_neg hm]
    have p1 := Nat.mul_pos (Nat.pos_of_ne_zero hm) (Nat.two_pow_pos (e - min e p).toNat)
    generalize m * 2 ^ (e - min e p).toNat = A at *
    cases s
    · simp only [Bool.false_eq_true, if_false, compare, compareOfLessAndEq]
      rw [if_neg (by omega), if_neg (by omega)]
    · simp only [if_true, compare, compareOfLessAndEq]
      rw [if_pos (by omega)]

theorem single_zero : FloatKind.f32.format.read 0 = .number false 0 (-149) := by decide +kernel
theorem double_zero : FloatKind.f64.format.read 0 = .number false 0 (-1074) := by decide +kernel

/-- A narrow number, made wide. -/
theorem widen {x : Nat} {s : Bool} {m : Nat} {e : Int} (h : FloatKind.f32.format.read x = .number s m e) :
    floatToFloatBits .f32 x .f64 = some (near s m e) ∧ Fp.Good m e := by
  have hs := single_number (x := x) h
  have hg : Fp.Good m e := good_of (by omega) (by omega) (by omega)
  obtain ⟨m', q', hc, hv, hr⟩ := read_near s hg
  refine ⟨?_, hg⟩
  unfold floatToFloatBits
  have e1 : FloatKind.f32.decode x = .number s m e := h
  have e2 : FloatKind.f64.encode (.number s m e) = near s m e := rfl
  have e3 : FloatKind.f64.decode (near s m e) = .number s m' q' := hr
  rw [if_neg (by decide), e1]
  simp only [e2, e3]
  rfl

/-- A wide number that is not too great, made narrow: a number. -/
theorem narrowed {x : Nat} {s : Bool} {m : Nat} {e : Int} (h : FloatKind.f64.format.read x = .number s m e) (hb : m = 0 ∨ e + m.log2 ≤ 100) :
    ∃ z, floatToFloatBits .f64 x .f32 = some z ∧ ∃ m' q', FloatKind.f32.format.read z = .number s m' q' := by
  obtain ⟨m', q', hr, _⟩ := narrow_number s m e hb
  refine ⟨Ieee.single.nearest s m e, ?_, m', q', hr⟩
  unfold floatToFloatBits
  have e1 : FloatKind.f64.decode x = .number s m e := h
  have e2 : FloatKind.f32.encode (.number s m e) = Ieee.single.nearest s m e := rfl
  have e3 : FloatKind.f32.decode (Ieee.single.nearest s m e) = .number s m' q' := hr
  rw [if_neg (by decide), e1]
  simp only [e2, e3]
  rfl

theorem log2_same {M N : Nat} {P Q : Int} (hM : M ≠ 0) (hN : N ≠ 0) (h : SameV M P N Q) : P + (M.log2 : Int) = Q + N.log2 := by
  obtain ⟨a, b, h1, h2⟩ := h
  have h3 := log2_mul_pow hM a
  have h4 := log2_mul_pow hN b
  rw [h1, h4] at h3
  omega

/-- The root of a number of the narrow range is of it too. -/
theorem root_small {m : Nat} {q : Int} (hc : Canon m q) (h0 : m ≠ 0) (hs : q + m.log2 ≤ 130) {r : Nat} (hr : Ieee.double.sqrt (near false m q) = some r) :
    ∃ m' q', Ieee.double.read r = .number false m' q' ∧ (m' = 0 ∨ q' + m'.log2 ≤ 100) := by
  obtain ⟨n, c, w, hv, h1, h2, hroot, hq⟩ := sqrt_near hc h0
  rw [← near_canon false hc, hr] at hq
  cases hq
  have hn0 : n ≠ 0 := by intro h; subst h; exact absurd h1 (Nat.not_le.2 (Nat.two_pow_pos 108))
  have hl := log2_same hn0 h0 hv
  have hn : 108 ≤ n.log2 := (Nat.le_log2 hn0).2 h1
  have hc9 : c ≤ 11 := by omega
  have hw : w < 2 ^ 55 := by
    refine Nat.lt_of_not_le fun hge => ?_
    have h3 : 2 ^ 55 * 2 ^ 55 ≤ w * w := Nat.mul_le_mul hge hge
    have h4 := hroot.1
    have h5 : (2 : Nat) ^ 55 * 2 ^ 55 = 2 ^ 110 := by rw [← Nat.pow_add]
    omega
  have hX : rootBit n w < 2 ^ 57 := by
    unfold rootBit
    have := Bool.toNat_le (w * w != n)
    omega
  by_cases hX0 : rootBit n w = 0
  · rw [hX0]
    obtain ⟨m', q', hc', ⟨a, b, e1, e2⟩, hr'⟩ := read_near false (good_zero (c - 1))
    refine ⟨m', q', hr', Or.inl ?_⟩
    rw [Nat.zero_mul] at e1
    rcases Nat.mul_eq_zero.1 e1.symm with h | h
    · exact h
    · have := Nat.two_pow_pos b; omega
  · obtain ⟨f1, f2, f3, f4⟩ := round_facts false hX0 (c - 1)
    have hlX : (rootBit n w).log2 ≤ 56 := log2_le (k := 56) hX
    have hq' : qOf (rootBit n w) (c - 1) ≤ 20 := by unfold qOf; omega
    generalize qOf (rootBit n w) (c - 1) = Q at *
    generalize mOf (rootBit n w) (c - 1) = M at *
    rw [f1]
    have hg : Fp.Good M Q := by
      by_cases hM : M < 2 ^ 53
      · exact good_of hM f3 (by omega)
      · have : M = 2 ^ 53 := by omega
        subst this
        exact good_top (by omega) (by omega)
    obtain ⟨m', q', hc', hv', hr'⟩ := read_near false hg
    refine ⟨m', q', hr', ?_⟩
    by_cases hm' : m' = 0
    · exact Or.inl hm'
    · right
      have hM0 : M ≠ 0 := by
        intro h
        subst h
        obtain ⟨a, b, e1, e2⟩ := hv'
        rw [Nat.zero_mul] at e1
        rcases Nat.mul_eq_zero.1 e1.symm with h | h
        · exact hm' h
        · have := Nat.two_pow_pos b; omega
      have hl' := log2_same hM0 hm' hv'
      have : M.log2 ≤ 53 := log2_le (k := 53) (by omega)
      omega

open Go.Proofs.YtmedcpdjhgconaaW.PrintWords Go.Proofs.YtmedcpdjhgconaaW.PrintLast Go.Proofs.YtmedcpdjhgconaaW.PrintMore Go.Proofs.Ytmedcpdjhgconaa.PFnExactRootOfFloat Go.Proofs.Ytmedcpdjhgconaa.Pure

/-- Of a narrow float that is no number, what it is made wide to is none; its bits may be drawn. -/
theorem widen_no (x : Nat) (h : ∀ s m e, FloatKind.f32.format.read x ≠ .number s m e) (w : World) :
    ∃ y w1, (convert 27 22 (.float .f32 x)).run Try.prog w = .ok (.float .f64 y) w1 ∧ NoNumber y ∧ Below w.heap.size w w1 := by
  have hu := Try.underlying27
  have hv := Try.underlying22
  have e : FloatKind.f32.decode x = FloatKind.f32.format.read x := rfl
  cases hr : FloatKind.f32.format.read x with
  | number s m e => exact absurd hr (h s m e)
  | infinity s =>
    refine ⟨FloatKind.f64.encode (.infinity s), w, run_convert_float_float w 27 22 .f32 .f64 x _ (by rw [hu]; rfl) hv ?_, ?_, Below.refl _ _⟩
    · unfold floatToFloatBits
      rw [if_neg (by decide), e, hr]
    · intro a b c hh
      cases s
      · have h1 : FloatKind.f64.format.read (FloatKind.f64.encode (.infinity false)) = .infinity false := by decide +kernel
        rw [h1] at hh; cases hh
      · have h1 : FloatKind.f64.format.read (FloatKind.f64.encode (.infinity true)) = .infinity true := by decide +kernel
        rw [h1] at hh; cases hh
  | nan s t =>
    refine ⟨(Question.nanConv .f64 x).cut (w.tape w.drawn (.nanConv .f64 x)), w.drew, ?_, ?_, (Below.refl _ _).drew⟩
    · simp [convert, run_underlying hu, run_underlying hv, Conv.floatToFloat, e, hr]
      intro hf
      exact absurd (show false = true from hf) (by decide)
    · intro a b c hh
      obtain ⟨s', f', hn⟩ := nan_read (w.tape w.drawn (.nanConv .f64 x))
      have e2 : FloatKind.f64.format.read ((Question.nanConv .f64 x).cut (w.tape w.drawn (.nanConv .f64 x))) = .nan s' f' := hn
      rw [e2] at hh
      cases hh
end Go.Proofs.Ytmedcpdjhgconaa
