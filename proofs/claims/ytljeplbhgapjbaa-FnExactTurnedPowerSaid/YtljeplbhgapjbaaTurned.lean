/- The statement on TurnedPower, proved: the program and the reference take the same product of floats as often as k says; at each k from 0 to 100 no operation gives a NaN. No condition. -/
import Derived.Test.YtljeplbhgapjbaaSame
import Derived.Laws.ComplexArith
import Derived.Lib.Hide
import Derived.ProofKit
import Derived.OpenShut
namespace Go.Proofs.Ytljeplbhgapjbaa
open Go.RowKit

/-- The powers of 0.8 + 0.6 i, as both texts multiply them. -/
def pw : Nat → Option (Nat × Nat)
  | 0 => some (4607182418800017408, 0)
  | k + 1 => (pw k).bind fun x => cMulBits x.1 x.2 4605380978949069210 4603579539098121011

theorem pw100 : (pw 100).isSome = true := by decide +kernel

theorem pw_some : ∀ k j : Nat, j + k = 100 → (pw j).isSome = true
  | 0, j, h => by have : j = 100 := by omega
                  subst this; exact pw100
  | k + 1, j, h => by
    have := pw_some k (j + 1) (by omega)
    cases hj : pw j with
    | none => simp [pw, hj] at this
    | some x => rfl

theorem pw_next {j : Nat} (hj : j < 100) {a b : Nat} (h : pw j = some (a, b)) : ∃ re im, cMulBits a b 4605380978949069210 4603579539098121011 = some (re, im) ∧ pw (j + 1) = some (re, im) := by
  have := pw_some (100 - (j + 1)) (j + 1) (by omega)
  obtain ⟨⟨re, im⟩, hx⟩ := Option.isSome_iff_exists.1 this
  refine ⟨re, im, ?_, hx⟩
  rw [pw, h] at hx
  exact hx

set_option maxHeartbeats 400000 in
theorem times_spec (a b c d re im : Nat) (w : World) (h : cMulBits a b c d = some (re, im)) :
    Calls Try.prog 12 #[.complex .f64 a b, .complex .f64 c d] w fun e w' => e = .returned (.complex .f64 re im) ∧ w = w' := by
  unfold cMulBits at h
  obtain ⟨ac, h1, h⟩ := bind_some h
  obtain ⟨bd, h2, h⟩ := bind_some h
  obtain ⟨x, h3, h⟩ := bind_some h
  obtain ⟨ad, h4, h⟩ := bind_some h
  obtain ⟨bc, h5, h⟩ := bind_some h
  obtain ⟨y, h6, h⟩ := bind_some h
  cases h
  have e1 := fun t w => run_float_arith (P := Try.prog) w .mul t .f64 a c ac h1
  have e2 := fun t w => run_float_arith (P := Try.prog) w .mul t .f64 b d bd h2
  have e3 := fun t w => run_float_arith (P := Try.prog) w .sub t .f64 ac bd re h3
  have e4 := fun t w => run_float_arith (P := Try.prog) w .mul t .f64 a d ad h4
  have e5 := fun t w => run_float_arith (P := Try.prog) w .mul t .f64 b c bc h5
  have e6 := fun t w => run_float_arith (P := Try.prog) w .add t .f64 ad bc im h6
  clear h1 h2 h3 h4 h5 h6
  go_enter Try.func12, Try.ntmps12
  go_wp2_with (simp only [e1, e2, e3, e4, e5, e6])
  go_ret
  exact ⟨rfl, rfl⟩

set_option maxHeartbeats 400000 in
theorem times_impl (a b c d re im : Nat) (w : World) (h : cMulBits a b c d = some (re, im)) :
    Calls Try.prog 13 #[.complex .f64 a b, .complex .f64 c d] w fun e w' => e = .returned (.complex .f64 re im) ∧ w = w' := by
  unfold cMulBits at h
  obtain ⟨ac, h1, h⟩ := bind_some h
  obtain ⟨bd, h2, h⟩ := bind_some h
  obtain ⟨x, h3, h⟩ := bind_some h
  obtain ⟨ad, h4, h⟩ := bind_some h
  obtain ⟨bc, h5, h⟩ := bind_some h
  obtain ⟨y, h6, h⟩ := bind_some h
  cases h
  have e1 := fun t w => run_float_arith (P := Try.prog) w .mul t .f64 a c ac h1
  have e2 := fun t w => run_float_arith (P := Try.prog) w .mul t .f64 b d bd h2
  have e3 := fun t w => run_float_arith (P := Try.prog) w .sub t .f64 ac bd re h3
  have e4 := fun t w => run_float_arith (P := Try.prog) w .mul t .f64 a d ad h4
  have e5 := fun t w => run_float_arith (P := Try.prog) w .mul t .f64 b c bc h5
  have e6 := fun t w => run_float_arith (P := Try.prog) w .add t .f64 ad bc im h6
  clear h1 h2 h3 h4 h5 h6
  go_enter Try.func13, Try.ntmps13
  go_wp2_with (simp only [e1, e2, e3, e4, e5, e6])
  go_ret
  exact ⟨rfl, rfl⟩

set_option maxHeartbeats 400000 in
theorem turned_spec (n : Nat) (hn : n ≤ 100) (w : World) :
    Calls Try.prog 8 #[.int .i64 n] w fun e w' => (∃ a b, pw n = some (a, b) ∧ e = .returned (.complex .f64 a b)) ∧ w = w' := by
  go_enter Try.func8, Try.ntmps8
  go_wp2
  go_loop [0, 3] (fun i z => ∃ j a b : Nat, j ≤ n ∧ i = .int .i64 ((n - j : Nat) : Int) ∧ pw j = some (a, b) ∧ z = .complex .f64 a b) (fun i _ => (intOf i).toNat)
  case atStart => exact ⟨0, _, _, Nat.zero_le _, rfl, rfl, rfl⟩
  case round =>
    obtain ⟨j, a, b, hj, rfl, hp, rfl⟩ := hrel
    by_cases hlt : j < n
    · obtain ⟨re, im, hm, hq⟩ := pw_next (show j < 100 by omega) hp
      obtain ⟨m, hm2⟩ : ∃ m, n - j = m + 1 := ⟨n - j - 1, by omega⟩
      rw [hm2]
      have hmb : m ≤ 100 := by omega
      have HQ : Hid (pw (j + 1) = some (re, im)) := Lib.hid hq
      have HM : Hid (n - j = m + 1) := Lib.hid hm2
      clear hq hp hm2
      go_wp2_with (go_at_call 12; refine (times_spec a b _ _ re im _ hm).mono ?_; rintro e w' ⟨rfl, rfl⟩)
      go_round
      case rel => exact ⟨j + 1, re, im, by omega, by have := HM.out; rw [show n - (j + 1) = m by omega], HQ.out, rfl⟩
      case measure => simp [intOf]
    · have : n - j = 0 := by omega
      rw [this]
      have : j = n := by omega
      subst this
      have HP : Hid (pw j = some (a, b)) := Lib.hid hp
      clear hp
      go_wp2
      go_ret
      exact ⟨⟨a, b, HP.out, rfl⟩, rfl⟩

set_option maxHeartbeats 400000 in
theorem turned_impl (n : Nat) (hn : n ≤ 100) (w : World) :
    Calls Try.prog 10 #[.int .i64 n] w fun e w' => (∃ a b, pw n = some (a, b) ∧ e = .returned (.complex .f64 a b)) ∧ w = w' := by
  go_enter Try.func10, Try.ntmps10
  go_wp2
  go_loop [3, 5] (fun z i => ∃ j a b : Nat, j ≤ n ∧ i = .int .i64 (j : Int) ∧ pw j = some (a, b) ∧ z = .complex .f64 a b) (fun _ i => n - (intOf i).toNat)
  case atStart => exact ⟨0, _, _, Nat.zero_le _, rfl, rfl, rfl⟩
  case round =>
    obtain ⟨j, a, b, hj, rfl, hp, rfl⟩ := hrel
    by_cases hlt : j < n
    · obtain ⟨re, im, hm, hq⟩ := pw_next (show j < 100 by omega) hp
      have HQ : Hid (pw (j + 1) = some (re, im)) := Lib.hid hq
      clear hq hp
      go_wp2_with (go_at_call 13; refine (times_impl a b _ _ re im _ hm).mono ?_; rintro e w' ⟨rfl, rfl⟩)
      go_round
      case rel => exact ⟨j + 1, re, im, by omega, by go_num, HQ.out, rfl⟩
      case measure => simp [intOf]; omega
    · have : j = n := by omega
      subst this
      have HP : Hid (pw j = some (a, b)) := Lib.hid hp
      clear hp
      go_wp2
      go_ret
      exact ⟨⟨a, b, HP.out, rfl⟩, rfl⟩

theorem in_spec_yes (n lo hi : Int) (h0 : lo ≤ n) (h1 : n ≤ hi) (w : World) :
    Calls Try.prog 7 #[.int .i64 n, .int .i64 lo, .int .i64 hi] w fun e w' => e = .returned (.bool true) ∧ w = w' := by
  have g0 : decide (lo ≤ n) = true := by simpa using h0
  have g1 : decide (n ≤ hi) = true := by simpa using h1
  go_enter Try.func7, Try.ntmps7
  go_wp2
  go_ret
  exact ⟨rfl, rfl⟩

theorem in_spec_no (n lo hi : Int) (h : n < lo ∨ hi < n) (w : World) :
    Calls Try.prog 7 #[.int .i64 n, .int .i64 lo, .int .i64 hi] w fun e w' => e = .returned (.bool false) ∧ w = w' := by
  by_cases h0 : lo ≤ n
  · have g0 : decide (lo ≤ n) = true := by simpa using h0
    have g1 : decide (n ≤ hi) = false := by simp; omega
    clear h
    go_enter Try.func7, Try.ntmps7
    go_wp2
    go_ret
    exact ⟨rfl, rfl⟩
  · have g0 : decide (lo ≤ n) = false := by simpa using h0
    clear h
    go_enter Try.func7, Try.ntmps7
    go_wp2
    go_ret
    exact ⟨rfl, rfl⟩

theorem in_impl_yes (n lo hi : Int) (h0 : lo ≤ n) (h1 : n ≤ hi) (w : World) :
    Calls Try.prog 9 #[.int .i64 n, .int .i64 lo, .int .i64 hi] w fun e w' => e = .returned (.bool true) ∧ w = w' := by
  have g0 : decide (lo ≤ n) = true := by simpa using h0
  have g1 : decide (n ≤ hi) = true := by simpa using h1
  go_enter Try.func9, Try.ntmps9
  go_wp2
  go_ret
  exact ⟨rfl, rfl⟩

theorem in_impl_no (n lo hi : Int) (h : n < lo ∨ hi < n) (w : World) :
    Calls Try.prog 9 #[.int .i64 n, .int .i64 lo, .int .i64 hi] w fun e w' => e = .returned (.bool false) ∧ w = w' := by
  by_cases h0 : lo ≤ n
  · have g0 : decide (lo ≤ n) = true := by simpa using h0
    have g1 : decide (n ≤ hi) = false := by simp; omega
    clear h
    go_enter Try.func9, Try.ntmps9
    go_wp2
    go_ret
    exact ⟨rfl, rfl⟩
  · have g0 : decide (lo ≤ n) = false := by simpa using h0
    clear h
    go_enter Try.func9, Try.ntmps9
    go_wp2
    go_ret
    exact ⟨rfl, rfl⟩

set_option maxHeartbeats 400000 in
theorem power_spec_in (n : Nat) (hn : n ≤ 100) (a b : Nat) (hab : pw n = some (a, b)) (w : World) :
    Calls Try.prog 4 #[.int .i64 n] w fun e w' => e = .returned (.tuple #[.complex .f64 a b, .int .i64 0]) ∧ w = w' := by
  have hc : ∀ w, Calls Try.prog 8 #[.int .i64 n] w fun e w' => e = .returned (.complex .f64 a b) ∧ w = w' := fun w => (turned_spec n hn w).mono fun e w' ⟨⟨x, y, hx, hy⟩, hw⟩ => ⟨by rw [hab] at hx; cases hx; exact hy, hw⟩
  clear hab
  go_enter Try.func4, Try.ntmps4
  go_wp2_with (first | (go_at_call 7; refine (in_spec_yes _ _ _ (by omega) (by omega) _).mono ?_; rintro e w' ⟨rfl, rfl⟩) | (go_at_call 8; refine (hc _).mono ?_; rintro e w' ⟨rfl, rfl⟩))
  go_ret2
  exact ⟨rfl, rfl⟩

set_option maxHeartbeats 400000 in
theorem power_spec_out (k : Int) (h : k < 0 ∨ 100 < k) (w : World) :
    Calls Try.prog 4 #[.int .i64 k] w fun e w' => e = .returned (.tuple #[.complex .f64 0 0, .int .i64 2]) ∧ w = w' := by
  go_enter Try.func4, Try.ntmps4
  go_wp2_with (go_at_call 7; refine (in_spec_no _ _ _ h _).mono ?_; rintro e w' ⟨rfl, rfl⟩)
  go_ret2
  exact ⟨rfl, rfl⟩

set_option maxHeartbeats 400000 in
theorem power_impl_in (n : Nat) (hn : n ≤ 100) (a b : Nat) (hab : pw n = some (a, b)) (w : World) :
    Calls Try.prog 5 #[.int .i64 n] w fun e w' => e = .returned (.tuple #[.complex .f64 a b, .int .i64 0]) ∧ w = w' := by
  have hc : ∀ w, Calls Try.prog 10 #[.int .i64 n] w fun e w' => e = .returned (.complex .f64 a b) ∧ w = w' := fun w => (turned_impl n hn w).mono fun e w' ⟨⟨x, y, hx, hy⟩, hw⟩ => ⟨by rw [hab] at hx; cases hx; exact hy, hw⟩
  clear hab
  go_enter Try.func5, Try.ntmps5
  go_wp2_with (first | (go_at_call 9; refine (in_impl_yes _ _ _ (by omega) (by omega) _).mono ?_; rintro e w' ⟨rfl, rfl⟩) | (go_at_call 10; refine (hc _).mono ?_; rintro e w' ⟨rfl, rfl⟩))
  go_ret2
  exact ⟨rfl, rfl⟩

set_option maxHeartbeats 400000 in
theorem power_impl_out (k : Int) (h : k < 0 ∨ 100 < k) (w : World) :
    Calls Try.prog 5 #[.int .i64 k] w fun e w' => e = .returned (.tuple #[.complex .f64 0 0, .int .i64 2]) ∧ w = w' := by
  go_enter Try.func5, Try.ntmps5
  go_wp2_with (go_at_call 9; refine (in_impl_no _ _ _ h _).mono ?_; rintro e w' ⟨rfl, rfl⟩)
  go_ret2
  exact ⟨rfl, rfl⟩

set_option maxHeartbeats 400000 in
theorem same_complex (a b : Nat) (w : World) :
    Calls Try.prog 6 #[.complex .f64 a b, .complex .f64 a b] w fun e w' => e = .returned (.bool true) ∧ w = w' := by
  go_enter Try.func6, Try.ntmps6
  go_wp2_with (go_at_call 11; refine (same_self _ _).mono ?_; rintro e w' ⟨rfl, rfl⟩)
  go_ret
  exact ⟨rfl, rfl⟩

set_option maxHeartbeats 400000 in
theorem walk_law (a0 : Int) (w : World) :
    Calls Try.prog 3 #[.int .i64 a0] w fun e w' => e = .returned (.bool true) ∧ Grown w w' := by
  by_cases h : 0 ≤ a0 ∧ a0 ≤ 100
  · obtain ⟨n, rfl⟩ : ∃ n : Nat, a0 = n := ⟨a0.toNat, by omega⟩
    have hn : n ≤ 100 := by omega
    obtain ⟨⟨a, b⟩, hp⟩ := Option.isSome_iff_exists.1 (pw_some (100 - n) n (by omega))
    have hc := power_spec_in n hn a b hp
    have hd := power_impl_in n hn a b hp
    clear hp h
    go_enter Try.func3, Try.ntmps3
    go_wp2_with (first | (go_at_call 4; refine (hc _).mono ?_; rintro e w' ⟨rfl, rfl⟩) | (go_at_call 5; refine (hd _).mono ?_; rintro e w' ⟨rfl, rfl⟩) | (go_at_call 6; refine (same_complex _ _ _).mono ?_; rintro e w' ⟨rfl, rfl⟩))
    go_ret
    exact ⟨rfl, Grown.refl _⟩
  · have hc := power_spec_out a0 (by omega)
    have hd := power_impl_out a0 (by omega)
    clear h
    go_enter Try.func3, Try.ntmps3
    go_wp2_with (first | (go_at_call 4; refine (hc _).mono ?_; rintro e w' ⟨rfl, rfl⟩) | (go_at_call 5; refine (hd _).mono ?_; rintro e w' ⟨rfl, rfl⟩) | (go_at_call 6; refine (same_complex _ _ _).mono ?_; rintro e w' ⟨rfl, rfl⟩))
    go_ret
    exact ⟨rfl, Grown.refl _⟩
end Go.Proofs.Ytljeplbhgapjbaa
