/- The program's FloatOf walked, and that it answers what the reference's answers, at every exact number. -/
import Derived.Test.YtmedcpdjhgconaaDoorLdex
import Derived.Test.YtmedcpdjhgconaaDoorVals
import Derived.Test.YtmedcpdjhgconaaDoorNums
import Derived.Test.YtmedcpdjhgconaaDoorSame

/-! ### What the program's rounding reckons, in plain numbers: the nearest double's significand; and where it is too great. -/
namespace Go.Proofs.YtmedcpdjhgconaaDoor
set_option linter.unusedVariables false
open Go.Proofs.YtmedcpdjhgconaaDoor.Pure Go.Proofs.YtmedcpdjhgconaaDoor.Fp

theorem shift_zero (X : Nat) : shiftN X 0 = X := by unfold shiftN; rw [if_pos (by omega)]; simp
theorem shift_up (X n : Nat) : shiftN X (n : Int) = X * 2 ^ n := by unfold shiftN; rw [if_pos (by omega), Int.toNat_natCast]
theorem shift_down (X n : Nat) : shiftN X (-(n : Int)) = X / 2 ^ n := by
  by_cases h : n = 0
  · subst h; rw [show (-((0 : Nat) : Int)) = 0 by omega, shift_zero]; simp
  · unfold shiftN
    rw [if_neg (by omega), show (- -(n : Int)).toNat = n by omega]

/-- The number rounded down to a multiple of 2^q, over 2^q. -/
def lowOf (X : Nat) (E : Int) : Nat := shiftN X (E - qOf X E)
/-- What was cut off. -/
def leftOf (X : Nat) (E : Int) : Nat := shiftN X (E - min E (qOf X E)) - shiftN (lowOf X E) (qOf X E - min E (qOf X E))
/-- How it compares with half of 2^q. -/
def halfOf (X : Nat) (E : Int) : Int := cmpN (shiftN (leftOf X E) (min E (qOf X E) - min (min E (qOf X E)) (qOf X E - 1))) (shiftN 1 (qOf X E - 1 - min (min E (qOf X E)) (qOf X E - 1)))

theorem left_le (X : Nat) (E : Int) : shiftN (lowOf X E) (qOf X E - min E (qOf X E)) ≤ shiftN X (E - min E (qOf X E)) := by
  unfold lowOf
  generalize qOf X E = q
  by_cases h : q ≤ E
  · obtain ⟨n, rfl⟩ : ∃ n : Nat, E = q + n := ⟨(E - q).toNat, by omega⟩
    rw [show min (q + (n : Int)) q = q by omega, show q + (n : Int) - q = n by omega, show q - q = 0 by omega, shift_zero]
    exact Nat.le_refl _
  · obtain ⟨n, rfl⟩ : ∃ n : Nat, q = E + n := ⟨(q - E).toNat, by omega⟩
    rw [show min E (E + (n : Int)) = E by omega, show E - (E + (n : Int)) = -(n : Int) by omega, show E + (n : Int) - E = n by omega, show E - E = 0 by omega, shift_zero, shift_down, shift_up]
    exact Nat.div_mul_le_self _ _

theorem round_case (X : Nat) (E : Int) : mOf X E = if halfOf X E = 1 ∨ (halfOf X E = 0 ∧ lowOf X E % 2 = 1) then lowOf X E + 1 else lowOf X E := by
  unfold halfOf leftOf lowOf mOf
  generalize qOf X E = q
  by_cases h : q ≤ E
  · obtain ⟨n, rfl⟩ : ∃ n : Nat, E = q + n := ⟨(E - q).toNat, by omega⟩
    rw [show min (q + (n : Int)) q = q by omega, show q + (n : Int) - q = n by omega, show q - q = 0 by omega, show min q (q - 1) = q - 1 by omega, show q - (q - 1) = ((1 : Nat) : Int) by omega, show q - 1 - (q - 1) = 0 by omega]
    simp only [shift_zero, shift_up, Nat.sub_self, Nat.zero_mul, Int.toNat_natCast]
    rw [if_neg (show ¬ 0 < q - (q + (n : Int)) by omega), cmp_lt (by decide), if_neg (by omega)]
  · obtain ⟨n, rfl⟩ : ∃ n : Nat, q = E + n + 1 := ⟨(q - E - 1).toNat, by omega⟩
    rw [show min E (E + (n : Int) + 1) = E by omega, show E - (E + (n : Int) + 1) = -((n + 1 : Nat) : Int) by omega, show E + (n : Int) + 1 - E = ((n + 1 : Nat) : Int) by omega, show E - E = 0 by omega, show min E (E + (n : Int) + 1 - 1) = E by omega, show E + (n : Int) + 1 - 1 - E = (n : Int) by omega, show E - E = 0 by omega]
    rw [if_pos (by omega), Int.toNat_natCast]
    simp only [shift_zero, shift_up, shift_down, Nat.one_mul]
    have hm : X - X / 2 ^ (n + 1) * 2 ^ (n + 1) = X % 2 ^ (n + 1) := by
      have := Nat.div_add_mod X (2 ^ (n + 1))
      rw [Nat.mul_comm] at this
      omega
    rw [hm]
    unfold rne cmpN
    have hp : 2 ^ (n + 1) = 2 * 2 ^ n := by rw [Nat.pow_succ, Nat.mul_comm]
    generalize X / 2 ^ (n + 1) = L
    generalize X % 2 ^ (n + 1) = R
    rw [hp]
    generalize 2 ^ n = H
    by_cases h1 : R < H
    · rw [if_pos h1, if_neg (by omega)]
      simp
      exact ⟨by omega, fun h => absurd h (by omega)⟩
    · rw [if_neg h1]
      by_cases h2 : R = H
      · subst h2
        rw [if_pos rfl]
        by_cases h3 : L % 2 = 1
        · simp [h3]
        · simp [h3]
      · rw [if_neg h2, if_pos (Or.inl rfl)]
        have h4 : decide (2 * H < 2 * R) = true := by simp; omega
        rw [h4]
        rfl

theorem bit_log {X : Nat} (h0 : X ≠ 0) : bitN X = X.log2 + 1 := by unfold bitN; rw [if_neg h0]

theorem low_lw (X : Nat) (E : Int) : lw (lowOf X E) ≤ lw X + (E - qOf X E).toNat := lw_shift _ _

/-- Too great, or a number. -/
theorem fit_case {neg : Bool} {X : Nat} {E : Int} (h0 : X ≠ 0) :
    (1024 < (bitN (mOf X E) : Int) + qOf X E ∧ NoNumber (near neg X E)) ∨ ((bitN (mOf X E) : Int) + qOf X E ≤ 1024 ∧ Fp.Good (mOf X E) (qOf X E) ∧ (∃ m q, FloatKind.f64.format.read (near neg X E) = .number neg m q) ∧ near neg X E = near neg (mOf X E) (qOf X E)) := by
  obtain ⟨h1, h2, h3, h4⟩ := round_facts neg h0 E
  by_cases hM : mOf X E = 0
  · right
    refine ⟨?_, by rw [hM]; exact good_zero _, ?_, h1⟩
    · rw [hM]
      rcases h4 with h | h
      · rw [hM] at h; omega
      · rw [h]; decide
    · rw [h1, hM]
      obtain ⟨m, q, _, _, hr⟩ := read_near neg (good_zero (qOf X E))
      exact ⟨m, q, hr⟩
  · rw [bit_log hM]
    by_cases hb : 1024 ≤ qOf X E + (mOf X E).log2
    · left
      refine ⟨by omega, ?_⟩
      rw [h1, near_big neg hM hb]
      intro s m q h
      have h5 : Ieee.double.read (Ieee.double.word neg 9218868437227405312) = .infinity neg := by
        obtain ⟨r1, r2⟩ := read_word neg 9218868437227405312 (by decide)
        rw [read_double, r1, r2]
        rfl
      have h' : Ieee.double.read (Ieee.double.word neg 9218868437227405312) = .number s m q := h
      rw [h5] at h'
      cases h'
    · right
      have hg : Fp.Good (mOf X E) (qOf X E) := by
        rcases up_or_inf h2 h3 with h | ⟨_, h⟩
        · exact h
        · exact absurd h hb
      refine ⟨by omega, hg, ?_, h1⟩
      rw [h1]
      obtain ⟨m, q, _, _, hr⟩ := read_near neg hg
      exact ⟨m, q, hr⟩
end Go.Proofs.YtmedcpdjhgconaaDoor

/-! ### The program's rounding of a value to a double, walked. -/
namespace Go.Proofs.YtmedcpdjhgconaaDoor
set_option linter.unusedVariables false
open Go.RowKit Go.Proofs.YtmedcpdjhgconaaDoorW.PrintWords Go.Proofs.YtmedcpdjhgconaaDoorW.PrintLast Go.Proofs.YtmedcpdjhgconaaDoorW.PrintMore Go.Proofs.YtmedcpdjhgconaaDoor.PFnExactFloatOf Go.Proofs.YtmedcpdjhgconaaDoor.Pure Go.Proofs.YtmedcpdjhgconaaDoor.Fp

/-- What rounding answers. -/
def RAns (neg : Bool) (X : Nat) (E : Int) (r : Nat) (ok : Bool) : Prop :=
  ((∃ m q, FloatKind.f64.format.read (near neg X E) = .number neg m q) ∧ r = near neg X E ∧ ok = true) ∨ (NoNumber (near neg X E) ∧ r = 0 ∧ ok = false)

set_option maxHeartbeats 1000000 in
theorem rounded_zero (x : Nat) (neg : Bool) (E : Int) (w : World) (hx : Big w x neg 0) :
    Calls Tryd.prog 27 #[.agg #[.pointer (some ⟨x, 0, none⟩), .int .i64 E], .int .i64 53, .int .i64 (-1074), .int .i64 1024] w fun e w' => e = .returned (.tuple #[.float .f64 0, .bool true]) ∧ Below w.heap.size w w' := by
  have hB0 := below_alloc (Below.refl w.heap.size w) (.cells #[.pointer (some ⟨x, 0, none⟩), .int .i64 E] 61)
  have HB := Lib.hid hB0
  have HX := Lib.hid (hx.below hB0)
  clear hx hB0
  go_enter Tryd.func27, Tryd.ntmps27
  go_wp2_with (first | (go_at_call 50; refine (sign_zero x neg _ HX.out).mono ?_; rintro e w1 ⟨rfl, rfl⟩))
  go_ret2
  exact ⟨rfl, HB.out⟩

/-- A value's block written. -/
theorem pair_store {base g z X : Nat} {neg : Bool} {w0 w3 : World} {a b : Value} (hg : w3.heap[g]? = some (.cells #[a, b] 61 (0, 0))) (hz : Big w3 z neg X) (hb : Below base w0 w3) (hge : base ≤ g) (p e : Value) :
    ((w3.setCell ⟨g, 0, none⟩ p).setCell ⟨g, 1, none⟩ e).heap[g]? = some (.cells #[p, e] 61 (0, 0)) ∧ Big ((w3.setCell ⟨g, 0, none⟩ p).setCell ⟨g, 1, none⟩ e) z neg X ∧ Below base w0 ((w3.setCell ⟨g, 0, none⟩ p).setCell ⟨g, 1, none⟩ e) := by
  have hne : z ≠ g := by
    intro h
    subst h
    obtain ⟨A, c, h1, _⟩ := hz
    rw [h1] at hg
    injection hg with hg
    injection hg with _ hg
    exact absurd hg (by decide)
  have k1 := blk_put hg 0 p rfl
  exact ⟨blk_put k1 1 e rfl, (hz.set hg (by decide) hne).set k1 (by decide) hne, (hb.setCell hge _).setCell hge _⟩

theorem half_cases (X : Nat) (E : Int) : halfOf X E = -1 ∨ halfOf X E = 0 ∨ halfOf X E = 1 := by
  unfold halfOf cmpN
  split
  · exact Or.inl rfl
  · split
    · exact Or.inr (Or.inl rfl)
    · exact Or.inr (Or.inr rfl)

theorem xor_top {b : Nat} (h : b < 2 ^ 63) : b ^^^ 2 ^ 63 = 2 ^ 63 + b := by
  have h1 := Nat.two_pow_add_eq_or_of_lt (i := 63) (b := b) h 1
  rw [Nat.mul_one] at h1
  rw [h1]
  refine Nat.eq_of_testBit_eq fun i => ?_
  rw [Nat.testBit_xor, Nat.testBit_or, Nat.testBit_two_pow]
  by_cases hi : 63 = i
  · subst hi
    rw [Nat.testBit_lt_two_pow h]
    rfl
  · simp [hi]

theorem neg_near (M : Nat) (q : Int) : Op.negFloat .f64 (near false M q) = near true M q := by
  have e : FloatKind.f64.format.exponentBits + FloatKind.f64.format.fractionBits = 63 := rfl
  unfold Op.negFloat
  rw [e, near_eq, near_eq, word_double, word_double, if_neg (by simp), if_pos rfl]
  have hr : rungOf M q ≤ 2047 * 2 ^ 52 := by unfold rungOf; split <;> omega
  rw [xor_top (by omega)]

theorem IsBig.drew {w : World} {z : Nat} (h : IsBig w z) : IsBig w.drew z := h

theorem sign_some (x X : Nat) (neg : Bool) (w : World) (hx : Big w x neg X) (h : X ≠ 0) :
    Calls Tryd.prog 50 #[.pointer (some ⟨x, 0, none⟩)] w fun e w' => ∃ v : Int, e = .returned (.int .i64 v) ∧ (v == 0) = false ∧ decide (v < 0) = neg ∧ w = w' := by
  refine (sign_not x X neg w hx h).mono ?_
  rintro e w1 ⟨rfl, rfl⟩
  cases neg
  · exact ⟨1, rfl, rfl, rfl, rfl⟩
  · exact ⟨-1, rfl, rfl, rfl, rfl⟩

set_option maxRecDepth 100000 in
set_option maxHeartbeats 4000000 in
theorem rounded_calls (x X : Nat) (neg : Bool) (E : Int) (w : World) (hx : Big w x neg X) (h0 : X ≠ 0) (hl : lw X ≤ 1000) (hE : -6000 ≤ E ∧ E ≤ 6000) :
    Calls Tryd.prog 27 #[.agg #[.pointer (some ⟨x, 0, none⟩), .int .i64 E], .int .i64 53, .int .i64 (-1074), .int .i64 1024] w fun e w' => ∃ r ok, e = .returned (.tuple #[.float .f64 r, .bool ok]) ∧ RAns neg X E r ok ∧ Below w.heap.size w w' := by
  have hbn : bitN X ≤ 32000 := by
    have h1 := lt_lw X
    unfold bitN
    rw [if_neg h0]
    rw [W_pow] at h1
    have := (Nat.log2_lt h0).2 h1
    omega
  obtain ⟨q, hq⟩ : ∃ q, q = qOf X E := ⟨_, rfl⟩
  have hqm : q = max ((bitN X : Int) + E - 53) (-1074) := by
    rw [hq, bit_log h0]
    unfold qOf
    congr 1
  have hq1 : -1074 ≤ q := by omega
  have hq2 : q ≤ 40000 := by omega
  have HQ := Lib.hid hq
  have HQM := Lib.hid hqm
  have hlow : lw (lowOf X E) ≤ 100000 := by
    have := low_lw X E
    omega
  have hleft : lw (leftOf X E) ≤ 100000 := by
    have h1 := lw_mono (show leftOf X E ≤ shiftN X (E - min E (qOf X E)) from Nat.sub_le _ _)
    have h2 := lw_shift X (E - min E (qOf X E))
    omega
  have HLW := Lib.hid hlow
  have HLL := Lib.hid hleft
  have H0 := Lib.hid h0
  clear hq hqm hlow hleft
  have hB0 := below_alloc (Below.refl w.heap.size w) (.cells #[.pointer (some ⟨x, 0, none⟩), .int .i64 E] 61)
  have HB0 := Lib.hid hB0
  have HX := Lib.hid (hx.below hB0)
  have HK0 := Lib.hid (blk_new w (.cells #[.pointer (some ⟨x, 0, none⟩), .int .i64 E] 61))
  clear hx hB0 h0
  go_enter Tryd.func27, Tryd.ntmps27
  go_wp2_with (first | (go_at_call 50; refine (sign_some x X neg _ HX.out H0.out).mono ?_; rintro e w1 ⟨sv, rfl, hsv, hsn, rfl⟩; clear hsn))
  generalize w.alloc (.cells #[.pointer (some ⟨x, 0, none⟩), .int .i64 E] 61) = W1 at *
  have hl0 := blk_lt HK0.out
  have d0 : W1.cell? ⟨w.heap.size, 0, none⟩ = some (.pointer (some ⟨x, 0, none⟩)) := (blk_cell HK0.out 0).trans rfl
  have d1 : W1.cell? ⟨w.heap.size, 1, none⟩ = some (.int .i64 E) := (blk_cell HK0.out 1).trans rfl
  go_cut [10] (fun v10 wx => v10 = .int .i64 q ∧ wx = W1.drew)
  case first =>
    go_region_held3 (fun w' => w'.cell? ⟨w.heap.size, 0, none⟩ = some (.pointer (some ⟨x, 0, none⟩)) ∧ w'.cell? ⟨w.heap.size, 1, none⟩ = some (.int .i64 E)) (go_keep) (first | (go_at_call 51; refine (bitlen_calls x X neg _ (HX.out.below (Below.refl _ _).drew) (by omega)).mono ?_; rintro e w3 ⟨rfl, rfl⟩))
    go_wp2_with fail
    all_goals go_meet
    all_goals have h9 := HQM.out
    all_goals have e1 : IntKind.i64.wrap ((bitN X : Int) + E) = (bitN X : Int) + E := IntWalk.i64_in _ (by omega)
    all_goals have e2 : IntKind.i64.wrap ((bitN X : Int) + E - 53) = (bitN X : Int) + E - 53 := IntWalk.i64_in _ (by omega)
    all_goals rw [e1, e2] at h
    all_goals refine ⟨?_, rfl⟩
    · congr 1
      omega
    · rw [e1, e2]
      congr 1
      omega
  case rest =>
    obtain ⟨rfl, rfl⟩ := hcut
    go_upto_region 4 with (fail)
    go_cut [11] (fun v11 wx => ∃ g z, v11 = .pointer (some ⟨g, 0, none⟩) ∧ Hid (wx.heap[g]? = some (.cells #[.pointer (some ⟨z, 0, none⟩), .int .i64 E] 61 (0, 0))) ∧ Hid (Big wx z false X) ∧ Hid (Below W1.heap.size W1 wx) ∧ W1.heap.size ≤ g ∧ W1.heap.size ≤ z)
    case first =>
      have HN1 : ((W1.alloc (.cells #[.bool false, .slice none 0 0] 85)).alloc (.cells #[.pointer none, .int .i64 0] 61)).heap[W1.heap.size + 1]? = some (.cells #[.pointer none, .int .i64 0] 61 (0, 0)) := by
        rw [show W1.heap.size + 1 = (W1.alloc (.cells #[.bool false, .slice none 0 0] 85)).heap.size by simp]
        exact blk_new _ _
      have HN2 : ((W1.alloc (.cells #[.pointer none, .int .i64 0] 61)).alloc (.cells #[.bool false, .slice none 0 0] 85)).heap[W1.heap.size]? = some (.cells #[.pointer none, .int .i64 0] 61 (0, 0)) := blk_alloc (blk_new _ _) _
      have HZ2 : IsBig ((W1.alloc (.cells #[.pointer none, .int .i64 0] 61)).alloc (.cells #[.bool false, .slice none 0 0] 85)) (W1.heap.size + 1) := by
        rw [show W1.heap.size + 1 = (W1.alloc (.cells #[.pointer none, .int .i64 0] 61)).heap.size by simp]
        exact big_zero _
      have hn1 : w.heap.size ≠ W1.heap.size := by omega
      have hn2 : w.heap.size ≠ W1.heap.size + 1 := by omega
      have hn3 : W1.heap.size ≠ w.heap.size := by omega
      have hn4 : W1.heap.size + 1 ≠ w.heap.size := by omega
      have HNN1 := Lib.hid HN1
      have HNN2 := Lib.hid HN2
      have HZZ2 := Lib.hid HZ2
      clear HN1 HN2 HZ2
      go_region_held3 (fun w' => w'.cell? ⟨w.heap.size, 0, none⟩ = some (.pointer (some ⟨x, 0, none⟩)) ∧ w'.cell? ⟨w.heap.size, 1, none⟩ = some (.int .i64 E)) (go_keep) (first | (go_at_call 52; (with_reducible change Calls Tryd.prog 52 _ (World.drew (World.drew (World.alloc W1 _))) _); refine Calls.mono (abs_calls (W1.heap.size) x W1.heap.size X neg _ (IsBig.drew (IsBig.drew (big_zero W1))) (HX.out.below (Below.drew (Below.drew (below_alloc (Below.refl W1.heap.size W1) (.cells #[.bool false, .slice none 0 0] 85))))) (by omega) (by omega)) ?_; rintro e w3 ⟨rfl, hp, hB3, hK3⟩; have HP3 := Lib.hid hp; have HB3 := Lib.hid ((Below.drew (Below.drew (below_alloc (Below.refl W1.heap.size W1) (.cells #[.bool false, .slice none 0 0] 85)))).trans hB3); clear hp hB3 hK3; have q0 := (HB3.out.cell (p := ⟨w.heap.size, 0, none⟩) hl0).trans d0; have q1 := (HB3.out.cell (p := ⟨w.heap.size, 1, none⟩) hl0).trans d1; have hn5 : w.heap.size ≠ w3.heap.size := Nat.ne_of_lt (Nat.lt_of_lt_of_le hl0 HB3.out.size); have hn6 : w3.heap.size ≠ w.heap.size := Nat.ne_of_gt (Nat.lt_of_lt_of_le hl0 HB3.out.size)) | (go_at_call 52; (with_reducible change Calls Tryd.prog 52 #[Value.pointer (some ⟨W1.heap.size, 0, none⟩), _] (World.drew (World.drew (World.alloc (World.alloc W1 _) _))) _); refine Calls.mono (abs_calls (W1.heap.size) x W1.heap.size X neg _ (IsBig.drew (IsBig.drew ((big_zero W1).alloc (.cells #[.pointer none, .int .i64 0] 61)))) (HX.out.below (Below.drew (Below.drew (below_alloc (below_alloc (Below.refl W1.heap.size W1) (.cells #[.bool false, .slice none 0 0] 85)) (.cells #[.pointer none, .int .i64 0] 61))))) (by omega) (by omega)) ?_; rintro e w3 ⟨rfl, hp, hB3, hK3⟩; have HG3 := Lib.hid (hK3.blk (g' := W1.heap.size + 1) (blk_drew (blk_drew (HNN1.out))) (by omega) (by simp)); have g0 : w3.cell? ⟨W1.heap.size + 1, 0, none⟩ = some (.pointer none) := (blk_cell HG3.out 0).trans rfl; have g1 : w3.cell? ⟨W1.heap.size + 1, 1, none⟩ = some (.int .i64 0) := (blk_cell HG3.out 1).trans rfl; have f0 := blk_frozen HG3.out 0; have f1 := blk_frozen HG3.out 1; have HP3 := Lib.hid hp; have HB3 := Lib.hid ((Below.drew (Below.drew (below_alloc (below_alloc (Below.refl W1.heap.size W1) (.cells #[.bool false, .slice none 0 0] 85)) (.cells #[.pointer none, .int .i64 0] 61)))).trans hB3); clear hp hB3 hK3; have q0 := (HB3.out.cell (p := ⟨w.heap.size, 0, none⟩) hl0).trans d0; have q1 := (HB3.out.cell (p := ⟨w.heap.size, 1, none⟩) hl0).trans d1) | (go_at_call 52; (with_reducible change Calls Tryd.prog 52 #[Value.pointer (some ⟨W1.heap.size + 1, 0, none⟩), _] (World.drew (World.drew (World.alloc (World.alloc W1 _) _))) _); refine Calls.mono (abs_calls (W1.heap.size + 1) x W1.heap.size X neg _ (IsBig.drew (IsBig.drew (HZZ2.out))) (HX.out.below (Below.drew (Below.drew (below_alloc (below_alloc (Below.refl W1.heap.size W1) (.cells #[.pointer none, .int .i64 0] 61)) (.cells #[.bool false, .slice none 0 0] 85))))) (by omega) (by omega)) ?_; rintro e w3 ⟨rfl, hp, hB3, hK3⟩; have HG3 := Lib.hid (hK3.blk (g' := W1.heap.size) (blk_drew (blk_drew (HNN2.out))) (by omega) (by simp)); have g0 : w3.cell? ⟨W1.heap.size, 0, none⟩ = some (.pointer none) := (blk_cell HG3.out 0).trans rfl; have g1 : w3.cell? ⟨W1.heap.size, 1, none⟩ = some (.int .i64 0) := (blk_cell HG3.out 1).trans rfl; have f0 := blk_frozen HG3.out 0; have f1 := blk_frozen HG3.out 1; have HP3 := Lib.hid hp; have HB3 := Lib.hid ((Below.drew (Below.drew (below_alloc (below_alloc (Below.refl W1.heap.size W1) (.cells #[.pointer none, .int .i64 0] 61)) (.cells #[.bool false, .slice none 0 0] 85)))).trans hB3); clear hp hB3 hK3; have q0 := (HB3.out.cell (p := ⟨w.heap.size, 0, none⟩) hl0).trans d0; have q1 := (HB3.out.cell (p := ⟨w.heap.size, 1, none⟩) hl0).trans d1))
      all_goals go_wp2_with fail
      all_goals go_meet
      · exact ⟨w3.heap.size, W1.heap.size, rfl, Lib.hid (blk_new _ _), Lib.hid (HP3.out.below (below_alloc (Below.refl _ _) _)), Lib.hid (HB3.out.alloc HB3.out.size _), HB3.out.size, Nat.le_refl _⟩
      · obtain ⟨r1, r2, r3⟩ := pair_store HG3.out HP3.out HB3.out (by omega) (.pointer (some ⟨W1.heap.size, 0, none⟩)) (.int .i64 E)
        exact ⟨W1.heap.size + 1, W1.heap.size, rfl, Lib.hid r1, Lib.hid r2, Lib.hid r3, by omega, by omega⟩
      · obtain ⟨r1, r2, r3⟩ := pair_store HG3.out HP3.out HB3.out (by omega) (.pointer (some ⟨W1.heap.size + 1, 0, none⟩)) (.int .i64 E)
        exact ⟨W1.heap.size, W1.heap.size + 1, rfl, Lib.hid r1, Lib.hid r2, Lib.hid r3, by omega, by omega⟩
    case rest =>
      obtain ⟨g, z, rfl, HG, HZ, HB1, hgl, hzl⟩ := hcut
      have HXC := Lib.hid (HX.out.below HB1.out)
      have HKC := Lib.hid (blk_below HK0.out HB1.out)
      have HBC := Lib.hid (HB0.out.trans (HB1.out.mono HB0.out.size))
      have hkl := blk_lt HKC.out
      have hge : w.heap.size < g := Nat.lt_of_lt_of_le hl0 hgl
      clear HX HK0 HB0 HB1 hgl hzl d0 d1 hl0 W1
      have g0 : wc.cell? ⟨g, 0, none⟩ = some (.pointer (some ⟨z, 0, none⟩)) := (blk_cell HG.out 0).trans rfl
      have g1 : wc.cell? ⟨g, 1, none⟩ = some (.int .i64 E) := (blk_cell HG.out 1).trans rfl
      go_upto_region 7 with (first | (go_at_call 53; refine (floor_calls z X E (-q) _ HZ.out (by omega) (by omega) (by omega) (by omega) (by omega)).mono ?_; rintro e w3 ⟨l, rfl, hp, hll, hB3⟩; have hp2 : Big w3 l false (lowOf X E) := (by rw [← Int.sub_eq_add_neg, HQ.out] at hp; exact hp); have HL3 := Lib.hid hp2; have HB3 := Lib.hid hB3; have HG3 := Lib.hid (blk_below HG.out hB3); have HZ3 := Lib.hid (HZ.out.below hB3); have hlx : x ≠ l := Nat.ne_of_lt (Nat.lt_of_lt_of_le HXC.out.lt hll); have hlw : w.heap.size < l := Nat.lt_of_lt_of_le hkl hll; clear hp hp2 hll hB3; have p0 : w3.cell? ⟨g, 0, none⟩ = some (.pointer (some ⟨z, 0, none⟩)) := (blk_cell HG3.out 0).trans rfl; have p1 : w3.cell? ⟨g, 1, none⟩ = some (.int .i64 E) := (blk_cell HG3.out 1).trans rfl) | (go_at_call 54; refine (minus_calls z l X (lowOf X E) E q _ HZ3.out HL3.out (by omega) HLW.out (by omega) (by omega) (by omega) (by omega) (by rw [HQ.out]; exact left_le X E)).mono ?_; rintro e w4 ⟨t, rfl, ht, htl, hB4⟩; have ht2 : Big w4 t false (leftOf X E) := (by rw [HQ.out] at ht; exact ht); have HT4 := Lib.hid ht2; have HL4 := Lib.hid (HL3.out.below hB4); have HB4 := Lib.hid (HB3.out.trans (hB4.mono HB3.out.size)); clear ht ht2 htl hB4))
      have HB5 := Lib.hid (HB4.out.alloc HB4.out.size (.cells #[.pointer (some ⟨t, 0, none⟩), .int .i64 (min E q)] 61))
      have HT5 := Lib.hid (HT4.out.below (below_alloc (Below.refl _ _) (.cells #[.pointer (some ⟨t, 0, none⟩), .int .i64 (min E q)] 61)))
      have HL5 := Lib.hid (HL4.out.below (below_alloc (Below.refl _ _) (.cells #[.pointer (some ⟨t, 0, none⟩), .int .i64 (min E q)] 61)))
      have HK5 := Lib.hid (blk_new w4 (.cells #[.pointer (some ⟨t, 0, none⟩), .int .i64 (min E q)] 61))
      have HX5 := Lib.hid (HXC.out.below HB5.out)
      have HKX5 := Lib.hid (blk_below HKC.out HB5.out)
      have HBW5 := Lib.hid (HBC.out.trans (HB5.out.mono HBC.out.size))
      obtain ⟨b, hb⟩ : ∃ b, b = w4.heap.size := ⟨_, rfl⟩
      rw [← hb] at HK5 ⊢
      generalize hmn : min E q = mn at *
      have hmn1 : mn ≤ 50000 := by omega
      have hmn2 : -50000 ≤ mn := by omega
      have HMN := Lib.hid hmn
      clear hb hmn HG HZ HXC HKC HBC HL3 HB3 HG3 HZ3 HT4 HL4 HB4 p0 p1 g0 g1
      generalize w4.alloc (.cells #[.pointer (some ⟨t, 0, none⟩), .int .i64 mn] 61) = W5 at *
      have b0 : W5.cell? ⟨b, 0, none⟩ = some (.pointer (some ⟨t, 0, none⟩)) := (blk_cell HK5.out 0).trans rfl
      have b1 : W5.cell? ⟨b, 1, none⟩ = some (.int .i64 mn) := (blk_cell HK5.out 1).trans rfl
      have hbl := blk_lt HK5.out
      go_cut [14] (fun v14 wx => v14 = .int .i64 (halfOf X E) ∧ Hid (Below W5.heap.size W5 wx))
      case first =>
        have HN1 : Hid (∀ W, Calls Tryd.prog 56 #[.int .i64 1] W (Makes false 1 W)) := Lib.hid (fun W => new_calls 1 W (by decide))
        go_region_held3 (fun w' => w'.cell? ⟨b, 0, none⟩ = some (.pointer (some ⟨t, 0, none⟩)) ∧ w'.cell? ⟨b, 1, none⟩ = some (.int .i64 mn)) (go_keep) (first | (go_at_call 56; refine (HN1.out _).mono ?_; rintro e w6 ⟨y, rfl, hy, hyl, hB6⟩; have HY6 := Lib.hid hy; have HB6 := Lib.hid ((Below.refl W5.heap.size W5).drew.trans hB6); have c0 := (HB6.out.cell (p := ⟨b, 0, none⟩) hbl).trans b0; have c1 := (HB6.out.cell (p := ⟨b, 1, none⟩) hbl).trans b1; clear hy hyl hB6) | (go_at_call 55; rw [IntWalk.i64_in (q - 1) (by omega)]; refine (compare_calls t y (leftOf X E) 1 mn (q - 1) _ (HT5.out.below HB6.out) HY6.out HLL.out (by decide) hmn1 hmn2 (by omega) (by omega)).mono ?_; rintro e w7 ⟨rfl, hB7⟩; have HB7 := Lib.hid (HB6.out.trans (hB7.mono HB6.out.size)); clear hB7; have e0 := (HB7.out.cell (p := ⟨b, 0, none⟩) hbl).trans b0; have e1 := (HB7.out.cell (p := ⟨b, 1, none⟩) hbl).trans b1))
        all_goals go_wp2_with fail
        all_goals go_meet
        all_goals exact ⟨by rw [← HMN.out, HQ.out]; rfl, HB7⟩
      case rest =>
        obtain ⟨rfl, HB8⟩ := hcut
        have HX8 := Lib.hid (HX5.out.below HB8.out)
        have HL8 := Lib.hid (HL5.out.below HB8.out)
        have HKX8 := Lib.hid (blk_below HKX5.out HB8.out)
        have HBW8 := Lib.hid (HBW5.out.trans (HB8.out.mono HBW5.out.size))
        have HRC := Lib.hid (round_case X E)
        have hC := half_cases X E
        clear HT5 HL5 HX5 HKX5 HBW5 HK5 b0 b1 hbl HB5 HB8 HMN hmn1 hmn2
        generalize halfOf X E = C at *
        go_upto_block 0 with (fail)
        go_cut [52] (fun v52 wx => Hid (Big wx l false (mOf X E)) ∧ Hid (Big wx x neg X) ∧ Hid (wx.heap[w.heap.size]? = some (.cells #[.pointer (some ⟨x, 0, none⟩), .int .i64 E] 61 (0, 0))) ∧ Hid (Below w.heap.size w wx))
        case first =>
          have HN1 : Hid (∀ W, Calls Tryd.prog 56 #[.int .i64 1] W (Makes false 1 W)) := Lib.hid (fun W => new_calls 1 W (by decide))
          rcases hC with rfl | rfl | rfl
          · have HM : Hid (mOf X E = lowOf X E) := Lib.hid (by rw [HRC.out, if_neg (by omega)])
            go_wp2_with fail
            go_meet
            rw [HM.out]
            exact ⟨HL8, HX8, HKX8, HBW8⟩
          · by_cases hL : lowOf X E % 2 = 1
            · have HM : Hid (mOf X E = lowOf X E + 1) := Lib.hid (by rw [HRC.out, if_pos (Or.inr ⟨rfl, hL⟩)])
              have HBT : Hid (∀ W, Big W l false (lowOf X E) → Calls Tryd.prog 57 #[.pointer (some ⟨l, 0, none⟩), .int .i64 0] W fun e w' => e = .returned (.int .u64 1) ∧ W = w') := Lib.hid (fun W h => by have := bit0_any l (lowOf X E) false W h; rw [hL] at this; exact this)
              clear hL
              go_wp2_with (first | (go_at_call 57; refine (HBT.out _ HL8.out).mono ?_; rintro e w5 ⟨rfl, rfl⟩) | (go_at_call 56; refine (HN1.out _).mono ?_; rintro e w6 ⟨y, rfl, hy, hyl, hB6⟩; have HY6 := Lib.hid hy; have HB6 := Lib.hid hB6; have HL6 := Lib.hid (HL8.out.below hB6); have HX6 := Lib.hid (HX8.out.below hB6); have HK6 := Lib.hid (blk_below HKX8.out hB6); clear hy hyl hB6) | (go_at_call 58; refine (add_calls l l y w.heap.size (lowOf X E) 1 _ HL6.out.isBig HL6.out HY6.out (Nat.le_of_lt hlw) (Nat.le_trans HLW.out (by decide)) (by decide)).mono ?_; rintro e w7 ⟨rfl, hp, hB7, hK7⟩; have HL7 := Lib.hid hp; have HX7 := Lib.hid (HX6.out.keep HL6.out.isBig hK7 hlx); have HK7 := Lib.hid (hK7.blk HK6.out (Nat.ne_of_lt hlw) (by simp)); have HB7 := Lib.hid ((HBW8.out.trans (HB6.out.mono HBW8.out.size)).trans hB7); clear hp hB7 hK7))
              go_meet
              rw [HM.out]
              exact ⟨HL7, HX7, HK7, HB7⟩
            · have HM : Hid (mOf X E = lowOf X E) := Lib.hid (by rw [HRC.out, if_neg (by omega)])
              have HBT : Hid (∀ W, Big W l false (lowOf X E) → Calls Tryd.prog 57 #[.pointer (some ⟨l, 0, none⟩), .int .i64 0] W fun e w' => e = .returned (.int .u64 0) ∧ W = w') := Lib.hid (fun W h => by have := bit0_any l (lowOf X E) false W h; rw [show lowOf X E % 2 = 0 by omega] at this; exact this)
              clear hL
              go_wp2_with (first | (go_at_call 57; refine (HBT.out _ HL8.out).mono ?_; rintro e w5 ⟨rfl, rfl⟩))
              go_meet
              rw [HM.out]
              exact ⟨HL8, HX8, HKX8, HBW8⟩
          · have HM : Hid (mOf X E = lowOf X E + 1) := Lib.hid (by rw [HRC.out, if_pos (Or.inl rfl)])
            go_wp2_with (first | (go_at_call 56; refine (HN1.out _).mono ?_; rintro e w6 ⟨y, rfl, hy, hyl, hB6⟩; have HY6 := Lib.hid hy; have HB6 := Lib.hid hB6; have HL6 := Lib.hid (HL8.out.below hB6); have HX6 := Lib.hid (HX8.out.below hB6); have HK6 := Lib.hid (blk_below HKX8.out hB6); clear hy hyl hB6) | (go_at_call 58; refine (add_calls l l y w.heap.size (lowOf X E) 1 _ HL6.out.isBig HL6.out HY6.out (Nat.le_of_lt hlw) (Nat.le_trans HLW.out (by decide)) (by decide)).mono ?_; rintro e w7 ⟨rfl, hp, hB7, hK7⟩; have HL7 := Lib.hid hp; have HX7 := Lib.hid (HX6.out.keep HL6.out.isBig hK7 hlx); have HK7 := Lib.hid (hK7.blk HK6.out (Nat.ne_of_lt hlw) (by simp)); have HB7 := Lib.hid ((HBW8.out.trans (HB6.out.mono HBW8.out.size)).trans hB7); clear hp hB7 hK7))
            go_meet
            rw [HM.out]
            exact ⟨HL7, HX7, HK7, HB7⟩
        case rest =>
          obtain ⟨HL9, HX9, HK9, HB9⟩ := hcut
          obtain ⟨hm1, hm2, hm3, hm4⟩ := round_facts neg H0.out E
          have hfit := fit_case (neg := neg) (X := X) (E := E) H0.out
          rw [← HQ.out] at hfit
          have hbm : bitN (mOf X E) ≤ 54 := by
            unfold bitN
            split
            · omega
            · have := Fp.log2_le (k := 53) (m := mOf X E) (by omega); omega
          have hml : lw (mOf X E) ≤ 2 := lw_le (by have : (4294967296 : Nat) ^ 2 = 18446744073709551616 := by decide
                                                   omega)
          clear hm1 hm3 hm4 HX8 HL8 HKX8 HBW8 hC HRC
          generalize mOf X E = M at *
          have hk0 : wc.cell? ⟨w.heap.size, 0, none⟩ = some (.pointer (some ⟨x, 0, none⟩)) := (blk_cell HK9.out 0).trans rfl
          have hk1 : wc.cell? ⟨w.heap.size, 1, none⟩ = some (.int .i64 E) := (blk_cell HK9.out 1).trans rfl
          rcases hfit with ⟨hbig, hno⟩ | ⟨hsm, hgood, hread, heq⟩
          · have HNO := Lib.hid hno
            clear hno
            go_wp2_with (first | (go_at_call 51; refine (bitlen_calls l M false _ HL9.out (by omega)).mono ?_; rintro e w9 ⟨rfl, rfl⟩))
            go_ret2
            exact ⟨0, false, rfl, Or.inr ⟨HNO.out, rfl, rfl⟩, HB9.out⟩
          · have HGOOD := Lib.hid hgood
            have HREAD := Lib.hid hread
            have HEQ := Lib.hid heq
            clear hgood hread heq
            have hin : floatOfInt .f64 (M : Int) = near false M 0 := int_near _
            have HLD : Hid (∀ W, Calls Tryd.prog 59 #[.float .f64 (near false M 0), .int .i64 q] W fun e w' => e = .returned (.float .f64 (near false M q)) ∧ W = w') := Lib.hid (fun W => by
              by_cases hM0 : M = 0
              · subst hM0
                rw [near_zero, near_zero]
                exact ldexp_zero q W
              · exact ldexp_calls M q hM0 hm2 hq1 HGOOD.out W)
            go_upto_if 80 with (first | (go_at_call 51; refine (bitlen_calls l M false _ HL9.out (by omega)).mono ?_; rintro e w9 ⟨rfl, rfl⟩) | (go_at_call 60; refine (int64_calls l M _ HL9.out (by omega)).mono ?_; rintro e w9 ⟨rfl, rfl⟩) | (go_at_call 59; refine (HLD.out _).mono ?_; rintro e w9 ⟨rfl, rfl⟩) | (go_at_call 50; refine (sign_some x X neg _ HX9.out H0.out).mono ?_; rintro e w9 ⟨sv2, rfl, hsv2, hsn2, rfl⟩))
            cases neg with
            | false =>
              go_wp2_with fail
              go_ret2
              exact ⟨near false M q, true, rfl, Or.inl ⟨HREAD.out, HEQ.out.symm, rfl⟩, HB9.out⟩
            | true =>
              have hng : ∀ w, (Op.unary .neg (.float .f64 (near false M q))).run Tryd.prog w = .ok (.float .f64 (near true M q)) w := fun w => by rw [← neg_near]; rfl
              go_wp2_with (simp only [hng])
              go_ret2
              exact ⟨near true M q, true, rfl, Or.inl ⟨HREAD.out, HEQ.out.symm, rfl⟩, HB9.out⟩
end Go.Proofs.YtmedcpdjhgconaaDoor

/-! ### The program's FloatOf, walked: at a number that it takes, the nearest double, or ErrLimit where that is no number. -/
namespace Go.Proofs.YtmedcpdjhgconaaDoor
set_option linter.unusedVariables false
open Go.RowKit Go.Proofs.YtmedcpdjhgconaaDoorW.PrintWords Go.Proofs.YtmedcpdjhgconaaDoorW.PrintLast Go.Proofs.YtmedcpdjhgconaaDoorW.PrintMore Go.Proofs.YtmedcpdjhgconaaDoor.PFnExactFloatOf Go.Proofs.YtmedcpdjhgconaaDoor.Pure Go.Proofs.YtmedcpdjhgconaaDoor.Fp

set_option maxHeartbeats 1000000 in
theorem float_zero (x : Nat) (neg : Bool) (E : Int) (w : World) (hx : Big w x neg 0) :
    Calls Tryd.prog 30 #[.agg #[.pointer (some ⟨x, 0, none⟩), .int .i64 E]] w fun e w' => e = .returned (.tuple #[.float .f64 0, .bool true]) ∧ Below w.heap.size w w' := by
  have hB0 := below_alloc (Below.refl w.heap.size w) (.cells #[.pointer (some ⟨x, 0, none⟩), .int .i64 E] 61)
  have HB := Lib.hid hB0
  have HX := Lib.hid (hx.below hB0)
  clear hx hB0
  go_enter Tryd.func30, Tryd.ntmps30
  go_wp2_with (first | (go_at_call 27; refine (rounded_zero x neg E _ HX.out).mono ?_; rintro e w1 ⟨rfl, hB1⟩; have HB1 := Lib.hid hB1; clear hB1))
  go_ret2
  exact ⟨rfl, HB.out.trans (HB1.out.mono HB.out.size)⟩

set_option maxHeartbeats 1000000 in
theorem float_calls (x X : Nat) (neg : Bool) (E : Int) (w : World) (hx : Big w x neg X) (h0 : X ≠ 0) (hl : lw X ≤ 1000) (hE : -6000 ≤ E ∧ E ≤ 6000) :
    Calls Tryd.prog 30 #[.agg #[.pointer (some ⟨x, 0, none⟩), .int .i64 E]] w fun e w' => ∃ r ok, e = .returned (.tuple #[.float .f64 r, .bool ok]) ∧ RAns neg X E r ok ∧ Below w.heap.size w w' := by
  have hB0 := below_alloc (Below.refl w.heap.size w) (.cells #[.pointer (some ⟨x, 0, none⟩), .int .i64 E] 61)
  have HB := Lib.hid hB0
  have HX := Lib.hid (hx.below hB0)
  have H0 := Lib.hid h0
  clear hx hB0 h0
  go_enter Tryd.func30, Tryd.ntmps30
  go_wp2_with (first | (go_at_call 27; refine (rounded_calls x X neg E _ HX.out H0.out hl hE).mono ?_; rintro e w1 ⟨r, ok, rfl, ha, hB1⟩; have HA := Lib.hid ha; have HB1 := Lib.hid hB1; clear ha hB1))
  go_ret2
  exact ⟨r, ok, rfl, HA.out, HB.out.trans (HB1.out.mono HB.out.size)⟩

set_option maxHeartbeats 1000000 in
theorem impl_bad (s e : Int) (l : List Int) (k : Nat) (h : impl_IsDyadic.f k s l e = some false) (A : Option Addr) (c : Nat) (w : World) (hC : Kd.C (Kd.int .i64) w A l.length l) (hc : l.length ≤ c) :
    Calls Tryd.prog 13 #[.agg #[.int .i64 s, .slice A l.length c, .int .i64 e]] w fun e w' => e = .returned (.tuple #[.float .f64 0, .int .i64 1]) ∧ Below w.heap.size w w' := by
  have HC := Lib.hid hC
  have HL := Lib.hid hc
  have HI := Lib.hid h
  have hb := below_alloc (Below.refl w.heap.size w) (.cells #[.int .i64 s, .slice A l.length c, .int .i64 e] 33)
  have HB := Lib.hid hb
  clear hC hc hb h
  go_enter Tryd.func13, Tryd.ntmps13
  go_wp2_with (first | (go_at_call 25; refine (impl_IsDyadic.calls k s A c l e _ _ (Kd.C_alloc HC.out _) HL.out HI.out).mono ?_; rintro e w1 ⟨rfl, hB1⟩; have HB1 := Lib.hid hB1; clear hB1))
  go_ret2
  exact ⟨rfl, HB.out.trans (HB1.out.mono HB.out.size)⟩

set_option maxHeartbeats 1000000 in
theorem impl_zero (k : Nat) (h : impl_IsDyadic.f k 0 [] 0 = some true) (A : Option Addr) (c : Nat) (w : World) (hC : Kd.C (Kd.int .i64) w A ([] : List Int).length []) (hc : ([] : List Int).length ≤ c) :
    Calls Tryd.prog 13 #[.agg #[.int .i64 0, .slice A ([] : List Int).length c, .int .i64 0]] w fun e w' => e = .returned (.tuple #[.float .f64 0, .int .i64 0]) ∧ Below w.heap.size w w' := by
  have HC := Lib.hid hC
  have HL := Lib.hid hc
  have HI := Lib.hid h
  have hb := below_alloc (Below.refl w.heap.size w) (.cells #[.int .i64 0, .slice A ([] : List Int).length c, .int .i64 0] 33)
  have hk := blk_new w (.cells #[.int .i64 0, .slice A ([] : List Int).length c, .int .i64 0] 33)
  have HB := Lib.hid hb
  have HK := Lib.hid hk
  clear hC hc hb h hk
  generalize hn : ([] : List Int).length = n at *
  go_enter Tryd.func13, Tryd.ntmps13
  go_wp2_with (first | (go_at_call 25; subst hn; refine (impl_IsDyadic.calls k 0 A c [] 0 _ _ (Kd.C_alloc HC.out _) HL.out HI.out).mono ?_; rintro e w1 ⟨rfl, hB1⟩; have HB1 := Lib.hid hB1; have HC1 := Lib.hid (Kd.C_below (Kd.C_alloc HC.out (.cells #[.int .i64 0, .slice A ([] : List Int).length c, .int .i64 0] 33)) hB1); have HK1 := Lib.hid (blk_below HK.out hB1); have d0 : w1.cell? ⟨w.heap.size, 0, none⟩ = some (.int .i64 0) := (blk_cell HK1.out 0).trans rfl; have d1 : w1.cell? ⟨w.heap.size, 1, none⟩ = some (.slice A ([] : List Int).length c) := (blk_cell HK1.out 1).trans rfl; have d2 : w1.cell? ⟨w.heap.size, 2, none⟩ = some (.int .i64 0) := (blk_cell HK1.out 2).trans rfl; clear hB1) | (go_at_call 26; refine (dvalue_calls 0 0 0 A c _ HC1.out (by decide)).mono ?_; rintro e w2 ⟨z, rfl, hz, hzl, hB2⟩; have HZ := Lib.hid hz; have HB2 := Lib.hid hB2; clear hz hzl hB2) | (go_at_call 30; refine (float_zero z _ 0 _ HZ.out).mono ?_; rintro e w3 ⟨rfl, hB3⟩; have HB3 := Lib.hid hB3; clear hB3))
  go_ret2
  exact ⟨rfl, ((HB.out.trans (HB1.out.mono HB.out.size)).trans (HB2.out.mono (Nat.le_trans HB.out.size HB1.out.size))).trans (HB3.out.mono (Nat.le_trans (Nat.le_trans HB.out.size HB1.out.size) HB2.out.size))⟩

theorem rans_answer {s E : Int} {X r : Nat} {ok : Bool} (h : RAns (decide (s < 0)) X E r ok) : (ok = true ∧ Answer s X E r 0) ∨ (ok = false ∧ Answer s X E 0 3) := by
  rcases h with ⟨h1, h2, h3⟩ | ⟨h1, h2, h3⟩
  · exact Or.inl ⟨h3, Or.inl ⟨h1, h2, rfl⟩⟩
  · exact Or.inr ⟨h3, Or.inr ⟨h1, rfl, rfl⟩⟩

set_option maxHeartbeats 1000000 in
theorem impl_num (k : Nat) (s E : Int) (X : Nat) (h : impl_IsDyadic.f k s (dg X) E = some true) (hs : s = 1 ∨ s = -1) (ho : X % 2 = 1) (hl : ln X ≤ 200) (hE : -5000 ≤ E ∧ E ≤ 5000) (A : Option Addr) (c : Nat) (w : World)
    (hC : Kd.C (Kd.int .i64) w A (dg X).length (dg X)) (hc : (dg X).length ≤ c) :
    Calls Tryd.prog 13 #[.agg #[.int .i64 s, .slice A (dg X).length c, .int .i64 E]] w fun e w' => ∃ r c, e = .returned (.tuple #[.float .f64 r, .int .i64 c]) ∧ Answer s X E r c ∧ Below w.heap.size w w' := by
  have h0 : X ≠ 0 := by intro h; subst h; simp at ho
  have hneg : (decide (s < 0) && (X != 0)) = decide (s < 0) := by
    rw [show (X != 0) = true by simpa using h0, Bool.and_true]
  have hlw := lw_ln X
  have HC := Lib.hid hC
  have HL := Lib.hid hc
  have HI := Lib.hid h
  have H0 := Lib.hid h0
  have HNG := Lib.hid hneg
  have hb := below_alloc (Below.refl w.heap.size w) (.cells #[.int .i64 s, .slice A (dg X).length c, .int .i64 E] 33)
  have hk := blk_new w (.cells #[.int .i64 s, .slice A (dg X).length c, .int .i64 E] 33)
  have HB := Lib.hid hb
  have HK := Lib.hid hk
  clear hC hc hb h hk h0 hneg
  go_enter Tryd.func13, Tryd.ntmps13
  go_wp2_with (first | (go_at_call 25; refine (impl_IsDyadic.calls k s A c (dg X) E _ _ (Kd.C_alloc HC.out _) HL.out HI.out).mono ?_; rintro e w1 ⟨rfl, hB1⟩; have HB1 := Lib.hid hB1; have HC1 := Lib.hid (Kd.C_below (Kd.C_alloc HC.out (.cells #[.int .i64 s, .slice A (dg X).length c, .int .i64 E] 33)) hB1); have HK1 := Lib.hid (blk_below HK.out hB1); have d0 : w1.cell? ⟨w.heap.size, 0, none⟩ = some (.int .i64 s) := (blk_cell HK1.out 0).trans rfl; have d1 : w1.cell? ⟨w.heap.size, 1, none⟩ = some (.slice A (dg X).length c) := (blk_cell HK1.out 1).trans rfl; have d2 : w1.cell? ⟨w.heap.size, 2, none⟩ = some (.int .i64 E) := (blk_cell HK1.out 2).trans rfl; clear hB1) | (go_at_call 26; refine (dvalue_calls s E X A c _ HC1.out (by omega)).mono ?_; rintro e w2 ⟨z, rfl, hz, hzl, hB2⟩; rw [HNG.out] at hz; have HZ := Lib.hid hz; have HB2 := Lib.hid hB2; clear hz hzl hB2) | (go_at_call 30; refine (float_calls z X _ E _ HZ.out H0.out (by omega) (by omega)).mono ?_; rintro e w3 ⟨r, ok, rfl, ha, hB3⟩; have HB3 := Lib.hid hB3; clear hB3; rcases rans_answer ha with ⟨rfl, hans⟩ | ⟨rfl, hans⟩ <;> (have HA := Lib.hid hans; clear hans ha)))
  all_goals go_ret2
  all_goals exact ⟨_, _, rfl, HA.out, ((HB.out.trans (HB1.out.mono HB.out.size)).trans (HB2.out.mono (Nat.le_trans HB.out.size HB1.out.size))).trans (HB3.out.mono (Nat.le_trans (Nat.le_trans HB.out.size HB1.out.size) HB2.out.size))⟩
end Go.Proofs.YtmedcpdjhgconaaDoor

/-! ### The reference's and the program's FloatOf answer the same, at every exact number; and what the laws' own helpers answer. -/
namespace Go.Proofs.YtmedcpdjhgconaaDoor
set_option linter.unusedVariables false
open Go.RowKit Go.Proofs.YtmedcpdjhgconaaDoorW.PrintWords Go.Proofs.YtmedcpdjhgconaaDoorW.PrintLast Go.Proofs.YtmedcpdjhgconaaDoorW.PrintMore Go.Proofs.YtmedcpdjhgconaaDoor.PFnExactFloatOf Go.Proofs.YtmedcpdjhgconaaDoor.Pure Go.Proofs.YtmedcpdjhgconaaDoor.Fp

/-! ### The laws' helpers -/
theorem set_next (l : List Int) (i d : Nat) (h : i + (d + 1) = l.length) : (l.take i ++ List.replicate (d + 1) (0 : Int)).set i (rd l (i : Int)) = l.take (i + 1) ++ List.replicate d 0 := by
  have hi : i < l.length := by omega
  have hr : rd l (i : Int) = l[i] := by simp [rd, hi]
  rw [List.set_append_right i _ (by rw [List.length_take]; omega), List.length_take, Nat.min_eq_left (by omega), Nat.sub_self, List.replicate_succ, List.set_cons_zero, hr, List.take_succ_eq_append_getElem hi, List.append_assoc]
  rfl

theorem to_l0 (l : List Int) (hl : l.length ≤ 1048576) : ∀ (d i k : Nat), i + d = l.length → d + 1 ≤ k → laws_toInt64S.l0 k l (l.take i ++ List.replicate d 0) (i : Int) = some l := by
  intro d
  induction d with
  | zero =>
    intro i k hi hk
    obtain ⟨k, rfl⟩ : ∃ m, k = m + 1 := ⟨k - 1, by omega⟩
    unfold laws_toInt64S.l0
    rw [if_neg (by omega), List.take_of_length_le (by omega)]
    simp
  | succ d ih =>
    intro i k hi hk
    obtain ⟨k, rfl⟩ : ∃ m, k = m + 1 := ⟨k - 1, by omega⟩
    unfold laws_toInt64S.l0
    rw [if_pos (by omega), if_pos (by omega), if_pos (by simp; omega), Int.toNat_natCast, set_next l i d hi, wS i (by omega)]
    exact ih (i + 1) k (by omega) (by omega)

theorem to_f (s E : Int) (l : List Int) (hl : l.length ≤ 1048576) (k : Nat) (hk : l.length + 1 ≤ k) : laws_toDyadic.f k s l E = some (s, l, E) := by
  unfold laws_toDyadic.f laws_toWhole.f laws_toInt64S.f
  rw [if_pos (by omega), Int.toNat_natCast, if_pos (by omega)]
  have h := to_l0 l hl l.length 0 k (by omega) hk
  rw [List.take_zero, List.nil_append] at h
  rw [show (0 : Int) = ((0 : Nat) : Int) from rfl] at *
  rw [h]
  rfl

theorem eq_l0 (l : List Int) (hl : l.length ≤ 1048576) : ∀ (d i k : Nat), i + d = l.length → d + 1 ≤ k → laws_eqInt64S.l0 k l l (i : Int) = some true := by
  intro d
  induction d with
  | zero =>
    intro i k hi hk
    obtain ⟨k, rfl⟩ : ∃ m, k = m + 1 := ⟨k - 1, by omega⟩
    unfold laws_eqInt64S.l0
    rw [if_neg (by omega)]
  | succ d ih =>
    intro i k hi hk
    obtain ⟨k, rfl⟩ : ∃ m, k = m + 1 := ⟨k - 1, by omega⟩
    unfold laws_eqInt64S.l0
    rw [if_pos (by omega), if_pos (by omega), if_pos (by omega), if_pos rfl, wS i (by omega)]
    exact ih (i + 1) k (by omega) (by omega)

theorem eq_f (s E : Int) (l : List Int) (hl : l.length ≤ 1048576) (k : Nat) (hk : l.length + 1 ≤ k) : laws_eqDyadic.f k s l E s l E = some true := by
  unfold laws_eqDyadic.f laws_eqWhole.f laws_eqInt64S.f
  rw [if_pos rfl, if_pos rfl]
  have h := eq_l0 l hl l.length 0 k (by omega) hk
  rw [show (0 : Int) = ((0 : Nat) : Int) from rfl, h]
  simp

theorem sz_few (s E : Int) (l : List Int) (hl : l.length ≤ 1048576) : laws_szDyadic.f s l E 1048576 = some ((1048576 - l.length : Nat) : Int) := by
  unfold laws_szDyadic.f laws_szWhole.f laws_szInt64S.f
  have e : wrap64 (1048576 - (l.length : Int)) = ((1048576 - l.length : Nat) : Int) := by rw [w64 (by omega) (by omega)]; omega
  rw [e, if_neg (by omega), Option.bind_some, if_neg (by omega), Option.bind_some, if_neg (by omega)]

theorem sz_many (s E : Int) (l : List Int) (hl : 1048576 < l.length) (h2 : l.length ≤ 9223372036854775807) : laws_szDyadic.f s l E 1048576 = some (-1) := by
  unfold laws_szDyadic.f laws_szWhole.f laws_szInt64S.f
  have e : wrap64 (1048576 - (l.length : Int)) = 1048576 - (l.length : Int) := w64 (by omega) (by omega)
  rw [e, if_pos (by omega), Option.bind_some, if_pos (by omega), Option.bind_some, if_pos (by omega)]

/-! ### Both answer the same -/
theorem answer_one {s E : Int} {X r r' : Nat} {c c' : Int} (h : Answer s X E r c) (h' : Answer s X E r' c') : r = r' ∧ c = c' := by
  rcases h with ⟨⟨m, q, h1⟩, h2, h3⟩ | ⟨h1, h2, h3⟩
  · rcases h' with ⟨_, k2, k3⟩ | ⟨k1, _, _⟩
    · exact ⟨h2.trans k2.symm, h3.trans k3.symm⟩
    · exact absurd h1 (k1 _ _ _)
  · rcases h' with ⟨⟨m, q, k1⟩, _, _⟩ | ⟨_, k2, k3⟩
    · exact absurd k1 (h1 _ _ _)
    · exact ⟨h2.trans k2.symm, h3.trans k3.symm⟩

theorem answer_some (s E : Int) {X : Nat} (h0 : X ≠ 0) : ∃ r c, Answer s X E r c := by
  rcases fit_case (neg := decide (s < 0)) (E := E) h0 with ⟨_, h⟩ | ⟨_, _, h, _⟩
  · exact ⟨0, 3, Or.inr ⟨h, rfl, rfl⟩⟩
  · exact ⟨_, 0, Or.inl ⟨h, rfl, rfl⟩⟩

/-- A function of an exact number that answers these two. -/
def Gives (f : Nat) (s E : Int) (l : List Int) (r : Nat) (co : Int) : Prop :=
  ∀ (A : Option Addr) (c : Nat) (w : World), Kd.C (Kd.int .i64) w A l.length l → l.length ≤ c → Calls Tryd.prog f #[.agg #[.int .i64 s, .slice A l.length c, .int .i64 E]] w fun e w' => e = .returned (.tuple #[.float .f64 r, .int .i64 co]) ∧ Below w.heap.size w w'

theorem both (s E : Int) (l : List Int) (hl : l.length ≤ 1048576) : ∃ r c, Gives 12 s E l r c ∧ Gives 13 s E l r c := by
  obtain ⟨b, hb, hB⟩ := is_f s E l (l.length + 2) (by omega) (Nat.le_refl _)
  have hb2 := hb
  rw [← dyadic_same] at hb2
  cases b with
  | false => exact ⟨0, 1, fun A c w hC hc => spec_bad s E l _ hb A c w hC hc, fun A c w hC hc => impl_bad s E l _ hb2 A c w hC hc⟩
  | true =>
    rcases hB rfl with ⟨rfl, rfl, rfl⟩ | ⟨X, ho, hln, rfl, hs, hE1, hE2⟩
    · exact ⟨0, 0, fun A c w hC hc => spec_zero _ hb A c w hC hc, fun A c w hC hc => impl_zero _ hb2 A c w hC hc⟩
    · obtain ⟨r, c, ha⟩ := answer_some s E (show X ≠ 0 by intro h; subst h; simp at ho)
      refine ⟨r, c, fun A c' w hC hc => ?_, fun A c' w hC hc => ?_⟩
      · refine (spec_num _ s E X hb hs ho hln ⟨hE1, hE2⟩ A c' w hC hc).mono ?_
        rintro e w' ⟨r', co, rfl, ha', hw⟩
        obtain ⟨rfl, rfl⟩ := answer_one ha ha'
        exact ⟨rfl, hw⟩
      · refine (impl_num _ s E X hb2 hs ho hln ⟨hE1, hE2⟩ A c' w hC hc).mono ?_
        rintro e w' ⟨r', co, rfl, ha', hw⟩
        obtain ⟨rfl, rfl⟩ := answer_one ha ha'
        exact ⟨rfl, hw⟩
end Go.Proofs.YtmedcpdjhgconaaDoor
