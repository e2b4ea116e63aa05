/- What sameFloat of the laws answers at two floats of the same bits: true, with the world as it was. No condition. -/
import Derived.Test.YtmedcpdjhgconaaDoorRows
import Derived.WalkKit
import Derived.WalkSpells
import Derived.WalkLawsBesides
import Derived.Laws.FloatArith
namespace Go.Proofs.YtmedcpdjhgconaaDoor
open Go.RowKit

/-- A float stands to itself as equal, or it is a NaN. -/
theorem order_self (k : FloatKind) (a : Nat) : k.format.order a a = some .eq ∨ k.format.order a a = none := by
  unfold Ieee.Format.order
  cases k.format.read a with
  | nan s t => right; rfl
  | infinity s => left; simp [Ieee.Datum.order]
  | number s m i => left; simp [Ieee.Datum.order]

theorem order_nan {a : Nat} (h : FloatKind.f64.format.order a a = none) : FloatKind.f64.format.order a 0 = none := by
  unfold Ieee.Format.order at *
  cases hr : FloatKind.f64.format.read a with
  | nan s t => rfl
  | infinity s => simp [hr, Ieee.Datum.order] at h
  | number s m i => simp [hr, Ieee.Datum.order] at h

/-- One divided by a zero is an infinity: the operation is valid. -/
theorem quo_zero {a : Nat} (h : FloatKind.f64.format.order a 0 = some .eq) : ∃ r, floatBits .quo .f64 4607182418800017408 a = some r := by
  have e0 : FloatKind.f64.format.read 0 = .number false 0 (-1074) := by decide +kernel
  have e1 : FloatKind.f64.format.read 4607182418800017408 = .number false 4503599627370496 (-52) := by decide +kernel
  unfold Ieee.Format.order at h
  simp only [floatBits, Ieee.Format.div, e1]
  rw [e0] at h
  cases hr : FloatKind.f64.format.read a with
  | nan s t => simp [hr, Ieee.Datum.order] at h
  | infinity s => cases s <;> simp [hr, Ieee.Datum.order] at h
  | number s m i =>
    by_cases hm : m = 0
    · subst hm; exact ⟨_, by simp [Ieee.Datum.quotient]; rfl⟩
    · exact ⟨_, by simp [Ieee.Datum.quotient, hm]; rfl⟩

set_option maxHeartbeats 400000 in
theorem same_self (a : Nat) (w : World) :
    Calls Tryd.prog 10 #[.float .f64 a, .float .f64 a] w fun e w' => e = .returned (.bool true) ∧ w = w' := by
  rcases order_self .f64 a with h1 | h1
  · by_cases h2 : FloatKind.f64.format.order a 0 = some .eq
    · obtain ⟨r, hr⟩ := quo_zero h2
      have hop : ∀ t w, (binOp .quo t (.float .f64 4607182418800017408) (.float .f64 a)).run Tryd.prog w = .ok (.float .f64 r) w := fun t w => run_float_arith w .quo t .f64 _ a r hr
      clear hr
      go_enter Tryd.func10, Tryd.ntmps10
      go_wp2_with (simp only [hop])
      go_ret
      exact ⟨by simp, rfl⟩
    · have h3 : (FloatKind.f64.format.order a 0 == some .eq) = false := by simpa using h2
      clear h2
      go_enter Tryd.func10, Tryd.ntmps10
      go_wp2
      go_ret
      exact ⟨by simp, rfl⟩
  · have h2 := order_nan h1
    go_enter Tryd.func10, Tryd.ntmps10
    go_wp2
    go_ret
    exact ⟨by simp, rfl⟩
end Go.Proofs.YtmedcpdjhgconaaDoor
