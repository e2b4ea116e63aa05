/- The library's Ldexp at a whole number of at most 53 bits: the nearest double, where it is a number. -/
import Derived.Test.YtmedcpdjhgconaaDoorSpf
import Derived.Test.YtmedcpdjhgconaaDoorArit
import Derived.Laws.Externs

/-! ### The library's Ldexp at a whole number of at most 53 bits, where the answer is a double. -/
namespace Go.Proofs.YtmedcpdjhgconaaDoor
set_option linter.unusedVariables false
open Go.RowKit Go.Proofs.YtmedcpdjhgconaaDoorW.PrintWords Go.Proofs.YtmedcpdjhgconaaDoorW.PrintLast Go.Proofs.YtmedcpdjhgconaaDoorW.PrintMore Go.Proofs.YtmedcpdjhgconaaDoor.PFnExactFloatOf Go.Proofs.YtmedcpdjhgconaaDoor.Pure Go.Proofs.YtmedcpdjhgconaaDoor.Fp

theorem bits_run (b : Nat) (w : World) : (callFunc 88 #[.float .f64 b]).run Tryd.prog w = .ok (.value (.int .u64 (b : Int))) w := by
  rw [run_callFunc_extern (e := Extern.MathFloatBits.float64bits) Tryd.func88 (by kernel_rfl) (by kernel_rfl) (by kernel_rfl) (by kernel_rfl)]
  rfl

theorem frombits_run (b : Nat) (w : World) : (callFunc 91 #[.int .u64 (b : Int)]).run Tryd.prog w = .ok (.value (.float .f64 b)) w := by
  rw [run_callFunc_extern (e := Extern.MathFloatBits.float64frombits) Tryd.func91 (by kernel_rfl) (by kernel_rfl) (by kernel_rfl) (by kernel_rfl)]
  rfl

theorem andnot_top {b : Nat} (h : b < 9223372036854775808) : Go.bits .andNot .u64 (b : Int) 9223372036854775808 = (b : Int) := by
  show IntKind.u64.wrap ((BitVec.ofInt 64 (b : Int) &&& ~~~ BitVec.ofInt 64 9223372036854775808).toNat : Int) = _
  have e1 : (~~~ BitVec.ofInt 64 9223372036854775808).toNat = 2 ^ 63 - 1 := by decide
  rw [BitVec.toNat_and, e1, BitVec.toNat_ofInt, show ((b : Int) % ((2 ^ 64 : Nat) : Int)).toNat = b by omega, Nat.and_two_pow_sub_one_eq_mod, Nat.mod_eq_of_lt (by omega), IntKind.wrap_u64]
  omega

theorem andnot_field {b : Nat} (h : b < 9223372036854775808) : Go.bits .andNot .u64 (b : Int) 9218868437227405312 = ((b % 4503599627370496 : Nat) : Int) := by
  show IntKind.u64.wrap ((BitVec.ofInt 64 (b : Int) &&& ~~~ BitVec.ofInt 64 9218868437227405312).toNat : Int) = _
  have e1 : (~~~ BitVec.ofInt 64 9218868437227405312).toNat = 2 ^ 63 ||| (2 ^ 52 - 1) := by decide
  have e2 : b &&& 2 ^ 63 = 0 := by
    refine Nat.eq_of_testBit_eq fun i => ?_
    rw [Nat.testBit_and, Nat.testBit_two_pow, Nat.zero_testBit]
    by_cases hi : 63 = i
    · subst hi
      rw [Nat.testBit_lt_two_pow (by omega)]
      rfl
    · simp [hi]
  rw [BitVec.toNat_and, e1, BitVec.toNat_ofInt, show ((b : Int) % ((2 ^ 64 : Nat) : Int)).toNat = b by omega, Nat.and_or_distrib_left, e2, Nat.zero_or, Nat.and_two_pow_sub_one_eq_mod, show (2 : Nat) ^ 52 = 4503599627370496 by decide, IntKind.wrap_u64]
  omega

theorem and_field {a : Nat} (h : a < 2048) : Go.bits .and .i64 (a : Int) 2047 = (a : Int) := by
  show IntKind.i64.wrap ((BitVec.ofInt 64 (a : Int) &&& BitVec.ofInt 64 2047).toNat : Int) = _
  have e1 : (BitVec.ofInt 64 2047).toNat = 2 ^ 11 - 1 := by decide
  rw [BitVec.toNat_and, e1, BitVec.toNat_ofInt, show ((a : Int) % ((2 ^ 64 : Nat) : Int)).toNat = a by omega, Nat.and_two_pow_sub_one_eq_mod, Nat.mod_eq_of_lt (by omega)]
  exact IntWalk.i64_in _ (by omega)

theorem or_field {f e : Nat} (hf : f < 4503599627370496) (he : e < 2048) : Go.bits .or .u64 (f : Int) ((e : Int) * 4503599627370496) = ((e * 4503599627370496 + f : Nat) : Int) := by
  have h := Nat.two_pow_add_eq_or_of_lt (i := 52) (b := f) (by omega) e
  rw [show (2 : Nat) ^ 52 = 4503599627370496 by decide] at h
  rw [show ((e : Int) * 4503599627370496) = ((e * 4503599627370496 : Nat) : Int) by rw [Int.natCast_mul]; rfl, or_u64 _ _ (by omega) (by omega), Nat.or_comm, Nat.mul_comm e, ← h]

set_option maxHeartbeats 400000 in
theorem abs_run (b : Nat) (h : b < 9223372036854775808) (w : World) : Calls Tryd.prog 93 #[.float .f64 b] w fun e w' => e = .returned (.float .f64 b) ∧ w = w' := by
  have h1 := andnot_top h
  go_enter Tryd.func93, Tryd.ntmps93
  go_wp2_with (first | simp only [bits_run] | simp only [frombits_run])
  go_ret
  exact ⟨rfl, rfl⟩

set_option maxHeartbeats 400000 in
theorem inf_run (b : Nat) (h : b < 9223372036854775808) (ho : FloatKind.f64.format.order b 9218868437227405311 = some .lt) (w : World) : Calls Tryd.prog 85 #[.float .f64 b, .int .i64 0] w fun e w' => e = .returned (.bool false) ∧ w = w' := by
  go_enter Tryd.func85, Tryd.ntmps85
  go_wp2_with (first | (go_at_call 93; refine (abs_run b h _).mono ?_; rintro e w1 ⟨rfl, rfl⟩))
  go_ret
  exact ⟨rfl, rfl⟩

set_option maxHeartbeats 400000 in
theorem nan_run (b : Nat) (ho : FloatKind.f64.format.order b b = some .eq) (w : World) : Calls Tryd.prog 86 #[.float .f64 b] w fun e w' => e = .returned (.bool false) ∧ w = w' := by
  go_enter Tryd.func86, Tryd.ntmps86
  go_wp2_with fail
  go_ret
  exact ⟨rfl, rfl⟩

set_option maxHeartbeats 400000 in
theorem norm_run (b : Nat) (h : b < 9223372036854775808) (ho : FloatKind.f64.format.order b 4503599627370496 = some .gt) (w : World) : Calls Tryd.prog 87 #[.float .f64 b] w fun e w' => e = .returned (.tuple #[.float .f64 b, .int .i64 0]) ∧ w = w' := by
  go_enter Tryd.func87, Tryd.ntmps87
  go_wp2_with (first | (go_at_call 93; refine (abs_run b h _).mono ?_; rintro e w1 ⟨rfl, rfl⟩))
  go_ret2
  exact ⟨rfl, rfl⟩

set_option maxRecDepth 100000 in
set_option maxHeartbeats 1000000 in
theorem ldexp_norm (b F f G r : Nat) (q : Int) (hb : b = F * 4503599627370496 + f) (hF : F < 2047) (hf : f < 4503599627370496) (hq : -2000 ≤ q) (hG : q + F = G) (h1 : 1 ≤ G) (h2 : G ≤ 2046)
    (ho0 : FloatKind.f64.format.order b 0 = some .gt) (hoM : FloatKind.f64.format.order b 9218868437227405311 = some .lt) (hoS : FloatKind.f64.format.order b b = some .eq) (hom : FloatKind.f64.format.order b 4503599627370496 = some .gt)
    (hr : floatBits .mul .f64 4607182418800017408 (G * 4503599627370496 + f) = some r) (w : World) :
    Calls Tryd.prog 78 #[.float .f64 b, .int .i64 q] w fun e w' => e = .returned (.float .f64 r) ∧ w = w' := by
  have hbl : b < 9223372036854775808 := by omega
  have hdiv : (b : Int) / 4503599627370496 = (F : Int) := by omega
  have hand := and_field (a := F) (by omega)
  have hnot := andnot_field hbl
  have hmod : b % 4503599627370496 = f := by omega
  rw [hmod] at hnot
  have hop : ∀ t w, (binOp .mul t (.float .f64 4607182418800017408) (.float .f64 (G * 4503599627370496 + f))).run Tryd.prog w = .ok (.float .f64 r) w := fun t w => run_float_arith w .mul t .f64 _ _ _ hr
  have hor : bits BinOp.or IntKind.u64 (f : Int) ((q + ((F : Int) - 1023) + 1023) * 4503599627370496) = ((G * 4503599627370496 + f : Nat) : Int) := by
    rw [show (q + ((F : Int) - 1023) + 1023) = (G : Int) by omega]
    exact or_field hf (by omega)
  obtain ⟨Z, hZ⟩ : ∃ Z, Z = G * 4503599627370496 + f := ⟨_, rfl⟩
  rw [← hZ] at hor hop
  have HOR := Lib.hid hor
  have HOP := Lib.hid hop
  have HB := Lib.hid hb
  have HM := Lib.hid hmod
  clear hb hmod hr hor hop hZ
  go_enter Tryd.func78, Tryd.ntmps78
  go_wp2_with (first | (go_at_call 85; refine (inf_run b hbl hoM _).mono ?_; rintro e w1 ⟨rfl, rfl⟩) | (go_at_call 86; refine (nan_run b hoS _).mono ?_; rintro e w1 ⟨rfl, rfl⟩) | (go_at_call 87; refine (norm_run b hbl hom _).mono ?_; rintro e w1 ⟨rfl, rfl⟩) | simp only [bits_run] | simp only [HOR.out, frombits_run] | simp only [HOP.out])
  go_ret
  exact ⟨rfl, rfl⟩

set_option maxRecDepth 100000 in
set_option maxHeartbeats 1000000 in
theorem ldexp_sub (b F f G r : Nat) (q : Int) (hb : b = F * 4503599627370496 + f) (hF : F < 2047) (hf : f < 4503599627370496) (hq : -2000 ≤ q) (hG : q + F + 53 = G) (hsub : q + F < 1) (h1 : 1 ≤ G) (h2 : G ≤ 2046)
    (ho0 : FloatKind.f64.format.order b 0 = some .gt) (hoM : FloatKind.f64.format.order b 9218868437227405311 = some .lt) (hoS : FloatKind.f64.format.order b b = some .eq) (hom : FloatKind.f64.format.order b 4503599627370496 = some .gt)
    (hr : floatBits .mul .f64 4368491638549381120 (G * 4503599627370496 + f) = some r) (w : World) :
    Calls Tryd.prog 78 #[.float .f64 b, .int .i64 q] w fun e w' => e = .returned (.float .f64 r) ∧ w = w' := by
  have hbl : b < 9223372036854775808 := by omega
  have hdiv : (b : Int) / 4503599627370496 = (F : Int) := by omega
  have hand := and_field (a := F) (by omega)
  have hnot := andnot_field hbl
  have hmod : b % 4503599627370496 = f := by omega
  rw [hmod] at hnot
  have hop : ∀ t w, (binOp .mul t (.float .f64 4368491638549381120) (.float .f64 (G * 4503599627370496 + f))).run Tryd.prog w = .ok (.float .f64 r) w := fun t w => run_float_arith w .mul t .f64 _ _ _ hr
  have hor : bits BinOp.or IntKind.u64 (f : Int) ((q + ((F : Int) - 1023) + 53 + 1023) * 4503599627370496) = ((G * 4503599627370496 + f : Nat) : Int) := by
    rw [show (q + ((F : Int) - 1023) + 53 + 1023) = (G : Int) by omega]
    exact or_field hf (by omega)
  obtain ⟨Z, hZ⟩ : ∃ Z, Z = G * 4503599627370496 + f := ⟨_, rfl⟩
  rw [← hZ] at hor hop
  have HOR := Lib.hid hor
  have HOP := Lib.hid hop
  have HB := Lib.hid hb
  have HM := Lib.hid hmod
  clear hb hmod hr hor hop hZ
  go_enter Tryd.func78, Tryd.ntmps78
  go_wp2_with (first | (go_at_call 85; refine (inf_run b hbl hoM _).mono ?_; rintro e w1 ⟨rfl, rfl⟩) | (go_at_call 86; refine (nan_run b hoS _).mono ?_; rintro e w1 ⟨rfl, rfl⟩) | (go_at_call 87; refine (norm_run b hbl hom _).mono ?_; rintro e w1 ⟨rfl, rfl⟩) | simp only [bits_run] | simp only [HOR.out, frombits_run] | simp only [HOP.out])
  go_ret
  exact ⟨rfl, rfl⟩
end Go.Proofs.YtmedcpdjhgconaaDoor

/-! ### The library's Ldexp at a whole number of at most 53 bits: the nearest double, where it is a number. -/
namespace Go.Proofs.YtmedcpdjhgconaaDoor
set_option linter.unusedVariables false
open Go.RowKit Go.Proofs.YtmedcpdjhgconaaDoorW.PrintWords Go.Proofs.YtmedcpdjhgconaaDoorW.PrintLast Go.Proofs.YtmedcpdjhgconaaDoorW.PrintMore Go.Proofs.YtmedcpdjhgconaaDoor.PFnExactFloatOf Go.Proofs.YtmedcpdjhgconaaDoor.Pure Go.Proofs.YtmedcpdjhgconaaDoor.Fp

theorem one0_eq : (4607182418800017408 : Nat) = near false 1 0 := by decide +kernel
theorem one53_eq : (4368491638549381120 : Nat) = near false 1 (-53) := by decide +kernel
theorem most2_eq : (9218868437227405311 : Nat) = near false (2 ^ 53 - 1) 971 := by decide +kernel
theorem least2_eq : (4503599627370496 : Nat) = near false 1 (-1022) := by decide +kernel

theorem order_most {M : Nat} (hM : M ≤ 2 ^ 53) : FloatKind.f64.format.order (near false M 0) 9218868437227405311 = some .lt := by
  rw [most2_eq, near_shift false (2 ^ 53 - 1) 971 0 (by omega)]
  have g2 : Fp.Good ((2 ^ 53 - 1) * 2 ^ (971 - 0 : Int).toNat) 0 := (good_of (M := 2 ^ 53 - 1) (P := 971) (by decide) (by omega) (by omega)).same (by have := SameV.mulPow (2 ^ 53 - 1) 971 (971 - 0 : Int).toNat; rwa [show (971 : Int) - ((971 - 0 : Int).toNat : Int) = 0 by omega] at this)
  rw [order_near (good0 hM) g2, compare_lt]
  have h1 : (2 : Nat) ^ 54 ≤ 2 ^ (971 - 0 : Int).toNat := Nat.pow_le_pow_right (by decide) (by decide)
  have h2 := Nat.mul_le_mul_left (2 ^ 53 - 1) h1
  refine Nat.lt_of_le_of_lt hM (Nat.lt_of_lt_of_le ?_ h2)
  decide

theorem order_least {M : Nat} (h0 : M ≠ 0) (hM : M ≤ 2 ^ 53) : FloatKind.f64.format.order (near false M 0) 4503599627370496 = some .gt := by
  rw [least2_eq, near_shift false M 0 (-1022) (by omega)]
  have g1 : Fp.Good (M * 2 ^ (0 - -1022 : Int).toNat) (-1022) := (good0 hM).same (by have := SameV.mulPow M 0 (0 - -1022 : Int).toNat; rwa [show (0 : Int) - ((0 - -1022 : Int).toNat : Int) = -1022 by omega] at this)
  rw [order_near g1 (good_one (by omega) (by omega)), compare_gt]
  have h1 : (2 : Nat) ^ 1 ≤ 2 ^ (0 - -1022 : Int).toNat := Nat.pow_le_pow_right (by decide) (by decide)
  have h2 := Nat.mul_le_mul (show 1 ≤ M by omega) h1
  omega

theorem order_same {M : Nat} (h0 : M ≠ 0) (hM : M ≤ 2 ^ 53) : FloatKind.f64.format.order (near false M 0) (near false M 0) = some .eq := by
  rw [order_near (good0 hM) (good0 hM), compare_eq]

/-- The double of a whole number of at most 53 bits. -/
theorem whole_mk {M : Nat} (h0 : M ≠ 0) (hM : M ≤ 2 ^ 53) : ∃ m p, Canon m p ∧ SameV M 0 m p ∧ 2 ^ 52 ≤ m ∧ -52 ≤ p ∧ p ≤ 1 := by
  obtain ⟨m, p, hc, hv⟩ := good0 hM
  refine ⟨m, p, hc, hv, ?_⟩
  obtain ⟨a, c, h1, h2⟩ := hv
  have hlow : -52 ≤ p := by
    refine Int.not_lt.1 fun hlt => ?_
    obtain ⟨d, hd⟩ : ∃ d : Nat, a = c + 53 + d := ⟨a - c - 53, by omega⟩
    rw [hd, show c + 53 + d = (53 + d) + c by omega, Nat.pow_add 2 (53 + d), ← Nat.mul_assoc] at h1
    have h3 := Nat.eq_of_mul_eq_mul_right (Nat.two_pow_pos c) h1
    have h4 : (2 : Nat) ^ 53 ≤ 2 ^ (53 + d) := Nat.pow_le_pow_right (by decide) (by omega)
    have h5 := Nat.mul_le_mul (show 1 ≤ M by omega) h4
    have := hc.lt
    omega
  refine ⟨by rcases hc.top with h | h; exact h; omega, hlow, ?_⟩
  refine Int.not_lt.1 fun hlt => ?_
  have hm : 2 ^ 52 ≤ m := by rcases hc.top with h | h; exact h; omega
  obtain ⟨d, hd⟩ : ∃ d : Nat, c = a + 2 + d := ⟨c - a - 2, by omega⟩
  rw [hd, show a + 2 + d = (2 + d) + a by omega, Nat.pow_add 2 (2 + d), ← Nat.mul_assoc] at h1
  have h3 := Nat.eq_of_mul_eq_mul_right (Nat.two_pow_pos a) h1
  have h4 : (2 : Nat) ^ 2 ≤ 2 ^ (2 + d) := Nat.pow_le_pow_right (by decide) (by omega)
  have h5 := Nat.mul_le_mul hm h4
  omega

theorem good_hi {m : Nat} {p q : Int} (hm : 2 ^ 52 ≤ m) (hg : Fp.Good m (p + q)) : p + q ≤ 971 := by
  obtain ⟨m', q', hc, a, c, h1, h2⟩ := hg
  refine Int.not_lt.1 fun hlt => ?_
  have := hc.hi
  obtain ⟨d, hd⟩ : ∃ d : Nat, a = c + 1 + d := ⟨a - c - 1, by omega⟩
  rw [hd, show c + 1 + d = (1 + d) + c by omega, Nat.pow_add 2 (1 + d), ← Nat.mul_assoc] at h1
  have h3 := Nat.eq_of_mul_eq_mul_right (Nat.two_pow_pos c) h1
  have h4 : (2 : Nat) ^ 1 ≤ 2 ^ (1 + d) := Nat.pow_le_pow_right (by decide) (by omega)
  have h5 := Nat.mul_le_mul hm h4
  have := hc.lt
  omega

theorem mk_word {m : Nat} {p : Int} (hm : 2 ^ 52 ≤ m) (hp : -1074 ≤ p) : mk false m p = (p + 1075).toNat * 4503599627370496 + (m - 4503599627370496) := by
  unfold mk
  rw [word_double, if_neg (by simp), show (2 : Nat) ^ 52 = 4503599627370496 by decide, show (p + 1075).toNat = (p + 1074).toNat + 1 by omega, Nat.add_mul]
  omega

set_option maxHeartbeats 1000000 in
theorem ldexp_calls (M : Nat) (q : Int) (h0 : M ≠ 0) (hM : M ≤ 2 ^ 53) (hq : -1074 ≤ q) (hg : Fp.Good M q) (w : World) :
    Calls Tryd.prog 59 #[.float .f64 (near false M 0), .int .i64 q] w fun e w' => e = .returned (.float .f64 (near false M q)) ∧ w = w' := by
  obtain ⟨m, p, hc, hv, hm, hp1, hp2⟩ := whole_mk h0 hM
  have hvq : SameV M q m (p + q) := by have := hv.shift q; rwa [Int.zero_add] at this
  have hhi := good_hi hm (hg.same hvq.symm)
  have hb : near false M 0 = (p + 1075).toNat * 4503599627370496 + (m - 4503599627370496) := by rw [near_same false hv, near_canon false hc, mk_word hm hc.lo]
  have hml := hc.lt
  have hcalls : Calls Tryd.prog 78 #[.float .f64 (near false M 0), .int .i64 q] w fun e w' => e = .returned (.float .f64 (near false M q)) ∧ w = w' := by
    by_cases hn : 1 ≤ q + (p + 1075)
    · have hcq : Canon m (p + q) := ⟨hml, by omega, by omega, Or.inl hm⟩
      refine ldexp_norm _ (p + 1075).toNat (m - 4503599627370496) (p + q + 1075).toNat _ q hb (by omega) (by omega) (by omega) (by omega) (by omega) (by omega) (order_zero h0 (good0 hM)) (order_most hM) (order_same h0 hM) (order_least h0 hM) ?_ w
      rw [← mk_word hm (by omega), ← near_canon false hcq, one0_eq, mul_near false false (good_one (by omega) (by omega)) hcq.good, Nat.one_mul, Int.zero_add, near_same false hvq]
      rfl
    · have hcq : Canon m (p + q + 53) := ⟨hml, by omega, by omega, Or.inl hm⟩
      refine ldexp_sub _ (p + 1075).toNat (m - 4503599627370496) (p + q + 53 + 1075).toNat _ q hb (by omega) (by omega) (by omega) (by omega) (by omega) (by omega) (by omega) (order_zero h0 (good0 hM)) (order_most hM) (order_same h0 hM) (order_least h0 hM) ?_ w
      rw [← mk_word hm (by omega), ← near_canon false hcq, one53_eq, mul_near false false (good_one (by omega) (by omega)) hcq.good, Nat.one_mul, near_same false hvq, show (-53 : Int) + (p + q + 53) = p + q by omega]
      rfl
  have HC := Lib.hid hcalls
  generalize near false M q = r at *
  generalize near false M 0 = b at *
  clear hcalls hb hv hvq hc hg
  go_enter Tryd.func59, Tryd.ntmps59
  go_wp2_with (first | (go_at_call 78; refine HC.out.mono ?_; rintro e w1 ⟨rfl, rfl⟩))
  go_ret
  exact ⟨rfl, rfl⟩

theorem near_zero (q : Int) : near false 0 q = 0 := by rw [near_eq]; rfl

set_option maxHeartbeats 1000000 in
theorem ldexp_zero (q : Int) (w : World) :
    Calls Tryd.prog 59 #[.float .f64 0, .int .i64 q] w fun e w' => e = .returned (.float .f64 0) ∧ w = w' := by
  have hz := order_zeros
  have hcalls : Calls Tryd.prog 78 #[.float .f64 0, .int .i64 q] w fun e w' => e = .returned (.float .f64 0) ∧ w = w' := by
    go_enter Tryd.func78, Tryd.ntmps78
    go_wp2_with fail
    go_ret
    exact ⟨rfl, rfl⟩
  have HC := Lib.hid hcalls
  clear hcalls
  go_enter Tryd.func59, Tryd.ntmps59
  go_wp2_with (first | (go_at_call 78; refine HC.out.mono ?_; rintro e w1 ⟨rfl, rfl⟩))
  go_ret
  exact ⟨rfl, rfl⟩
end Go.Proofs.YtmedcpdjhgconaaDoor
