/- The law's two sides, walked: the reference's RootOfFloat and the program's, at every double. -/
import Derived.Test.YtmedcpdjhgconaaL08
import Derived.Test.YtmedcpdjhgconaaSame
import Derived.Laws.Externs
namespace Go.Proofs.Ytmedcpdjhgconaa
open Go.RowKit Go.Proofs.YtmedcpdjhgconaaW.PrintWords Go.Proofs.YtmedcpdjhgconaaW.PrintLast Go.Proofs.YtmedcpdjhgconaaW.PrintMore Go.Proofs.Ytmedcpdjhgconaa.PFnExactRootOfFloat Go.Proofs.Ytmedcpdjhgconaa.Pure Go.Proofs.Ytmedcpdjhgconaa.Fp

theorem run_sqrt (x r : Nat) (h : Ieee.double.sqrt x = some r) (w : World) : (callFunc 16 #[.float .f64 x]).run Try.prog w = .ok (.value (.float .f64 r)) w := by
  rw [run_callFunc_extern Try.func16 (by kernel_rfl) rfl (e := Go.Extern.MathSqrt.sqrt) (by kernel_rfl) (by kernel_rfl)]
  have e : (Go.Extern.MathSqrt.sqrt #[.float .f64 x]).run Try.prog w = .ok (.float .f64 r) w := by
    show ((match FloatKind.f64.format.sqrt x with | some r => pure (.float .f64 r) | none => _ : Sem Value)).run Try.prog w = _
    rw [show FloatKind.f64.format.sqrt x = some r from h]
    rfl
  rw [e]
  rfl

theorem sqrt_calls (x r : Nat) (h : Ieee.double.sqrt x = some r) (w : World) : Calls Try.prog 13 #[.float .f64 x] w fun e w' => e = .returned (.float .f64 r) ∧ w = w' := by
  have hs := run_sqrt x r h
  clear h
  go_enter Try.func13, Try.ntmps13
  go_wp2_with (simp only [hs])
  go_ret
  exact ⟨rfl, rfl⟩

/-- A double that is no number. -/
def NoNumber (x : Nat) : Prop := ∀ s m q, FloatKind.f64.format.read x ≠ .number s m q

set_option maxHeartbeats 400000 in
theorem impl_no (x : Nat) (h : NoNumber x) (w : World) : Calls Try.prog 6 #[.float .f64 x] w fun e w' => e = .returned (.tuple #[.float .f64 0, .int .i64 1]) ∧ w.drew = w' := by
  go_enter Try.func6, Try.ntmps6
  go_wp2_with (first | (go_at_call 12; refine (isreal_no x h _).mono ?_; rintro e w1 ⟨rfl, rfl⟩))
  go_ret2
  exact ⟨rfl, rfl⟩

set_option maxHeartbeats 400000 in
theorem spec_no (x : Nat) (h : NoNumber x) (w : World) : Calls Try.prog 5 #[.float .f64 x] w fun e w' => e = .returned (.tuple #[.float .f64 0, .int .i64 1]) ∧ w.drew = w' := by
  go_enter Try.func5, Try.ntmps5
  go_wp2_with (first | (go_at_call 10; refine (real_no x h _).mono ?_; rintro e w1 ⟨rfl, rfl⟩))
  go_ret2
  exact ⟨rfl, rfl⟩

set_option maxHeartbeats 400000 in
theorem impl_neg (x : Nat) {s : Bool} {m : Nat} {q : Int} (h : FloatKind.f64.format.read x = .number s m q) (hl : FloatKind.f64.format.order x 0 = some .lt) (w : World) : Calls Try.prog 6 #[.float .f64 x] w fun e w' => e = .returned (.tuple #[.float .f64 0, .int .i64 2]) ∧ w = w' := by
  go_enter Try.func6, Try.ntmps6
  go_wp2_with (first | (go_at_call 12; refine (isreal_yes x s m q h _).mono ?_; rintro e w1 ⟨rfl, rfl⟩))
  go_ret2
  exact ⟨rfl, rfl⟩

set_option maxHeartbeats 400000 in
theorem spec_neg (x : Nat) {s : Bool} {m : Nat} {q : Int} (h : FloatKind.f64.format.read x = .number s m q) (hl : FloatKind.f64.format.order x 0 = some .lt) (w : World) : Calls Try.prog 5 #[.float .f64 x] w fun e w' => e = .returned (.tuple #[.float .f64 0, .int .i64 2]) ∧ w = w' := by
  go_enter Try.func5, Try.ntmps5
  go_wp2_with (first | (go_at_call 10; refine (real_yes x s m q h _).mono ?_; rintro e w1 ⟨rfl, rfl⟩))
  go_ret2
  exact ⟨rfl, rfl⟩

set_option maxHeartbeats 400000 in
theorem impl_root (x r : Nat) {s : Bool} {m : Nat} {q : Int} (h : FloatKind.f64.format.read x = .number s m q) (hl : (FloatKind.f64.format.order x 0 == some .lt) = false) (hr : Ieee.double.sqrt x = some r) (w : World) : Calls Try.prog 6 #[.float .f64 x] w fun e w' => e = .returned (.tuple #[.float .f64 r, .int .i64 0]) ∧ w = w' := by
  go_enter Try.func6, Try.ntmps6
  go_wp2_with (first | (go_at_call 12; refine (isreal_yes x s m q h _).mono ?_; rintro e w1 ⟨rfl, rfl⟩) | (go_at_call 13; refine (sqrt_calls x r hr _).mono ?_; rintro e w2 ⟨rfl, rfl⟩))
  go_ret2
  exact ⟨rfl, rfl⟩

/-- At a zero, the reference gives it back. -/
theorem float_zero (x : Nat) (hz : FloatKind.f64.format.order x 0 = some .eq) (w : World) : Calls Try.prog 11 #[.float .f64 x] w fun e w' => e = .returned (.float .f64 x) ∧ w = w' := by
  go_enter Try.func11, Try.ntmps11
  go_wp2_with fail
  go_ret
  exact ⟨rfl, rfl⟩

set_option maxHeartbeats 1000000 in
theorem float_pos (m : Nat) (q : Int) (hc : Canon m q) (h0 : m ≠ 0) (w : World) : Calls Try.prog 11 #[.float .f64 (near false m q)] w fun e w' => ∃ r, e = .returned (.float .f64 r) ∧ Ieee.double.sqrt (near false m q) = some r ∧ Below w.heap.size w w' := by
  have hz := order_zero h0 hc.good
  have hz2 : (FloatKind.f64.format.order (near false m q) 0 == some .eq) = false := by rw [hz]; rfl
  clear hz
  go_enter Try.func11, Try.ntmps11
  go_wp2_with (first | (go_at_call 15; refine (of_calls m q hc h0 _).mono ?_; rintro e w1 ⟨a, E, v1, rfl, hR1, hB1, ho, hsv, h53, hE1, hE2⟩; obtain ⟨A1, c1, rfl⟩ := Kd.R_slice hR1; have HSV := Lib.hid hsv; have HB1 := Lib.hid hB1; have HR1 := Lib.hid hR1; clear hR1 hB1 hsv) | (go_at_call 14; refine (l08_calls a E ho h53 ⟨hE1, hE2⟩ (Fp.Good.same hc.good HSV.out) A1 c1 _ (Kd.R_reads' HR1.out).2.2 (Kd.R_reads' HR1.out).2.1).mono ?_; rintro e w2 ⟨r, b, rfl, hr, hB2⟩; have HR := Lib.hid hr; have HB2 := Lib.hid hB2; clear hr hB2))
  go_ret
  refine ⟨r, rfl, ?_, HB1.out.trans (HB2.out.mono HB1.out.size)⟩
  rw [near_same false HSV.out.symm]
  exact HR.out

set_option maxHeartbeats 400000 in
theorem spec_pos (m : Nat) (q : Int) (hc : Canon m q) (h0 : m ≠ 0) (w : World) : Calls Try.prog 5 #[.float .f64 (near false m q)] w fun e w' => ∃ r, e = .returned (.tuple #[.float .f64 r, .int .i64 0]) ∧ Ieee.double.sqrt (near false m q) = some r ∧ Below w.heap.size w w' := by
  have hrd : FloatKind.f64.format.read (near false m q) = .number false m q := by rw [near_canon false hc]; exact read_mk false hc
  have hz := order_zero h0 hc.good
  have hz2 : (FloatKind.f64.format.order (near false m q) 0 == some .lt) = false := by rw [hz]; rfl
  clear hz
  go_enter Try.func5, Try.ntmps5
  go_wp2_with (first | (go_at_call 10; refine (real_yes _ false m q hrd _).mono ?_; rintro e w1 ⟨rfl, rfl⟩) | (go_at_call 11; refine (float_pos m q hc h0 _).mono ?_; rintro e w2 ⟨r, rfl, hr, hB2⟩; have HR := Lib.hid hr; have HB2 := Lib.hid hB2; clear hr hB2))
  go_ret2
  exact ⟨r, rfl, HR.out, HB2.out⟩

set_option maxHeartbeats 400000 in
theorem spec_zero (x : Nat) {s : Bool} {m : Nat} {q : Int} (h : FloatKind.f64.format.read x = .number s m q) (hz : FloatKind.f64.format.order x 0 = some .eq) (w : World) : Calls Try.prog 5 #[.float .f64 x] w fun e w' => e = .returned (.tuple #[.float .f64 x, .int .i64 0]) ∧ w = w' := by
  go_enter Try.func5, Try.ntmps5
  go_wp2_with (first | (go_at_call 10; refine (real_yes _ s m q h _).mono ?_; rintro e w1 ⟨rfl, rfl⟩) | (go_at_call 11; refine (float_zero x hz _).mono ?_; rintro e w2 ⟨rfl, rfl⟩))
  go_ret2
  exact ⟨rfl, rfl⟩

/-- Every double: no number, below zero, a zero, or greater than zero. -/
theorem kinds (x : Nat) (hx : x < 18446744073709551616) : NoNumber x ∨ (∃ s m q, FloatKind.f64.format.read x = .number s m q ∧ FloatKind.f64.format.order x 0 = some .lt) ∨
    (∃ s m q, FloatKind.f64.format.read x = .number s m q ∧ FloatKind.f64.format.order x 0 = some .eq ∧ Ieee.double.sqrt x = some x) ∨ ∃ m q, Canon m q ∧ m ≠ 0 ∧ x = near false m q := by
  cases h : FloatKind.f64.format.read x with
  | nan s t => exact Or.inl (fun a b c hh => by rw [h] at hh; cases hh)
  | infinity s => exact Or.inl (fun a b c hh => by rw [h] at hh; cases hh)
  | number s m q =>
    obtain ⟨hc, he⟩ := mk_of_read hx (s := s) (m := m) (q := q) h
    refine Or.inr ?_
    by_cases hm : m = 0
    · subst hm
      have hq : q = -1074 := by
        rcases hc.top with h1 | h1
        · exact absurd h1 (Nat.not_le.2 (Nat.two_pow_pos 52))
        · exact h1
      subst hq
      right; left
      refine ⟨s, 0, -1074, rfl, ?_⟩
      cases s
      · have e : x = 0 := by rw [he]; decide
        subst e
        exact ⟨by decide +kernel, by decide +kernel⟩
      · have e : x = 9223372036854775808 := by rw [he]; decide
        subst e
        exact ⟨by decide +kernel, by decide +kernel⟩
    · cases s
      · exact Or.inr (Or.inr ⟨m, q, hc, hm, by rw [near_canon false hc]; exact he⟩)
      · left
        refine ⟨true, m, q, rfl, ?_⟩
        have e0 : FloatKind.f64.format.read 0 = .number false 0 (-1074) := by decide +kernel
        unfold Ieee.Format.order
        rw [h, e0]
        unfold Ieee.Datum.order
        simp only [Ieee.signed, Bool.false_eq_true, if_false, if_true, Nat.shiftLeft_eq]
        congr 1
        have p1 := Nat.mul_pos (Nat.pos_of_ne_zero hm) (Nat.two_pow_pos (q - min q (-1074)).toNat)
        generalize m * 2 ^ (q - min q (-1074)).toNat = A at *
        rw [Nat.zero_mul]
        simp only [compare, compareOfLessAndEq]
        rw [if_pos (by omega)]

set_option maxHeartbeats 400000 in
theorem law_calls (x : Nat) (hx : x < 18446744073709551616) (w : World) : Calls Try.prog 3 #[.float .f64 x] w fun e w' => e = .returned (.bool true) ∧ Below w.heap.size w w' := by
  rcases kinds x hx with hn | ⟨s, m, q, hrd, hl⟩ | ⟨s, m, q, hrd, hz, hr⟩ | ⟨m, q, hc, h0, rfl⟩
  · go_enter Try.func3, Try.ntmps3
    go_wp2_with (first | (go_at_call 5; refine (spec_no x hn _).mono ?_; rintro e w1 ⟨rfl, rfl⟩) | (go_at_call 6; refine (impl_no x hn _).mono ?_; rintro e w2 ⟨rfl, rfl⟩) | (go_at_call 7; refine (same_self 0 _).mono ?_; rintro e w3 ⟨rfl, rfl⟩))
    go_ret
    exact ⟨rfl, (Below.refl _ _).drew.drew⟩
  · go_enter Try.func3, Try.ntmps3
    go_wp2_with (first | (go_at_call 5; refine (spec_neg x hrd hl _).mono ?_; rintro e w1 ⟨rfl, rfl⟩) | (go_at_call 6; refine (impl_neg x hrd hl _).mono ?_; rintro e w2 ⟨rfl, rfl⟩) | (go_at_call 7; refine (same_self 0 _).mono ?_; rintro e w3 ⟨rfl, rfl⟩))
    go_ret
    exact ⟨rfl, Below.refl _ _⟩
  · have hl : (FloatKind.f64.format.order x 0 == some .lt) = false := by rw [hz]; rfl
    go_enter Try.func3, Try.ntmps3
    go_wp2_with (first | (go_at_call 5; refine (spec_zero x hrd hz _).mono ?_; rintro e w1 ⟨rfl, rfl⟩) | (go_at_call 6; refine (impl_root x x hrd hl hr _).mono ?_; rintro e w2 ⟨rfl, rfl⟩) | (go_at_call 7; refine (same_self x _).mono ?_; rintro e w3 ⟨rfl, rfl⟩))
    go_ret
    exact ⟨rfl, Below.refl _ _⟩
  · have hrd : FloatKind.f64.format.read (near false m q) = .number false m q := by rw [near_canon false hc]; exact read_mk false hc
    have hl : (FloatKind.f64.format.order (near false m q) 0 == some .lt) = false := by rw [order_zero h0 hc.good]; rfl
    go_enter Try.func3, Try.ntmps3
    go_wp2_with (first | (go_at_call 5; refine (spec_pos m q hc h0 _).mono ?_; rintro e w1 ⟨r, rfl, hr, hB⟩; have HR := Lib.hid hr; have HB := Lib.hid hB; clear hr hB) | (go_at_call 6; refine (impl_root _ r hrd hl HR.out _).mono ?_; rintro e w2 ⟨rfl, rfl⟩) | (go_at_call 7; refine (same_self r _).mono ?_; rintro e w3 ⟨rfl, rfl⟩))
    go_ret
    exact ⟨rfl, HB.out⟩
end Go.Proofs.Ytmedcpdjhgconaa
