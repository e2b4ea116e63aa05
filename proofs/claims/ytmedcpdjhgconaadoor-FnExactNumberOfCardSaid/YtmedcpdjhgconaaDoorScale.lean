/- The reference's l01Scale, l01Turned and l01Real, and the program's isReal, at doubles: what they answer, with the world as it was but for draws. -/
import Derived.Test.YtmedcpdjhgconaaDoorRows
import Derived.Test.YtmedcpdjhgconaaDoorFp
import Derived.WalkKit
import Derived.WalkSpells
import Derived.WalkLawsBesides
import Derived.Lib.Hide
namespace Go.Proofs.YtmedcpdjhgconaaDoor
open Go.RowKit Go.Proofs.YtmedcpdjhgconaaDoor.Fp

set_option maxHeartbeats 400000 in
theorem scale_up (M : Nat) (hM : M ≤ 2 ^ 53) (n : Nat) (hn : n ≤ 100000) (w : World) :
    Calls Tryd.prog 44 #[.float .f64 (near false M 0), .int .i64 n] w fun e w' => e = .returned (.float .f64 (near false M n)) ∧ w = w' := by
  go_enter Tryd.func44, Tryd.ntmps44
  go_wp2
  go_loop [0, 1] (fun x k => ∃ i : Nat, i ≤ n ∧ x = .float .f64 (near false M (i : Int)) ∧ k = .int .i64 ((n - i : Nat) : Int)) (fun _ k => (intOf k).toNat)
  case atStart => exact ⟨0, by omega, rfl, rfl⟩
  case round =>
    obtain ⟨i, hi, rfl, rfl⟩ := hrel
    by_cases hlt : i < n
    · obtain ⟨r, hr⟩ : ∃ r, n - i = r + 1 := ⟨n - i - 1, by omega⟩
      rw [hr]
      have hrb : r ≤ 100000 := by omega
      have HR := Lib.hid hr
      clear hr
      have hop : ∀ k w, (binOp .mul k (.float .f64 (near false M (i : Int))) (.float .f64 4611686018427387904)).run Tryd.prog w = .ok (.float .f64 (near false M ((i : Int) + 1))) w := fun k w => run_float_arith w .mul k .f64 _ _ _ (dbl_any hM (by omega))
      go_wp2_with (simp only [hop])
      go_round
      case rel => exact ⟨i + 1, by omega, by rw [show ((i + 1 : Nat) : Int) = (i : Int) + 1 by omega], by have := HR.out; rw [show n - (i + 1) = r by omega]⟩
      case measure => simp [intOf]
    · have hz : n - i = 0 := by omega
      have hin : i = n := by omega
      subst hin
      rw [hz]
      clear hz
      go_wp2
      go_loop [0, 1] (fun x k => x = .float .f64 (near false M (i : Int)) ∧ k = .int .i64 0) (fun _ _ => 0)
      case atStart => exact ⟨rfl, rfl⟩
      case round =>
        obtain ⟨rfl, rfl⟩ := hrel
        go_wp2
        go_ret
        exact ⟨rfl, rfl⟩

set_option maxHeartbeats 400000 in
theorem scale_down (M : Nat) (hM : M ≤ 2 ^ 53) (n : Nat) (hn : n ≤ 1074) (h0 : 0 < n) (w : World) :
    Calls Tryd.prog 44 #[.float .f64 (near false M 0), .int .i64 (-(n : Int))] w fun e w' => e = .returned (.float .f64 (near false M (-(n : Int)))) ∧ w = w' := by
  go_enter Tryd.func44, Tryd.ntmps44
  go_wp2
  go_loop [0, 1] (fun x k => x = .float .f64 (near false M 0) ∧ k = .int .i64 (-(n : Int))) (fun _ _ => 0)
  case atStart => exact ⟨rfl, rfl⟩
  case round =>
    obtain ⟨rfl, rfl⟩ := hrel
    go_wp2
    go_loop [0, 1] (fun x k => ∃ i : Nat, i ≤ n ∧ x = .float .f64 (near false M (-(i : Int))) ∧ k = .int .i64 (-((n - i : Nat) : Int))) (fun _ k => (-(intOf k)).toNat)
    case atStart => exact ⟨0, by omega, rfl, rfl⟩
    case round =>
      obtain ⟨i, hi, rfl, rfl⟩ := hrel
      by_cases hlt : i < n
      · obtain ⟨r, hr⟩ : ∃ r, n - i = r + 1 := ⟨n - i - 1, by omega⟩
        rw [hr]
        have hrb : r ≤ 100000 := by omega
        have HR := Lib.hid hr
        clear hr
        have hop : ∀ k w, (binOp .quo k (.float .f64 (near false M (-(i : Int)))) (.float .f64 4611686018427387904)).run Tryd.prog w = .ok (.float .f64 (near false M (-(i : Int) - 1))) w := fun k w => run_float_arith w .quo k .f64 _ _ _ (hlv_near false (good_down hM (by omega)))
        go_wp2_with (simp only [hop])
        go_round
        case rel => exact ⟨i + 1, by omega, by rw [show -((i + 1 : Nat) : Int) = -(i : Int) - 1 by omega], by have := HR.out; rw [show n - (i + 1) = r by omega]; congr 1; omega⟩
        case measure => simp [intOf]; omega
      · have hz : n - i = 0 := by omega
        have hin : i = n := by omega
        subst hin
        rw [hz]
        clear hz
        go_wp2
        go_ret
        exact ⟨rfl, rfl⟩

theorem scale_any (M : Nat) (hM : M ≤ 2 ^ 53) (k : Int) (lo : -1074 ≤ k) (hi : k ≤ 100000) (w : World) :
    Calls Tryd.prog 44 #[.float .f64 (near false M 0), .int .i64 k] w fun e w' => e = .returned (.float .f64 (near false M k)) ∧ w = w' := by
  by_cases h : 0 ≤ k
  · obtain ⟨n, rfl⟩ : ∃ n : Nat, k = n := ⟨k.toNat, by omega⟩
    exact scale_up M hM n (by omega) w
  · obtain ⟨n, rfl⟩ : ∃ n : Nat, k = -(n : Int) := ⟨(-k).toNat, by omega⟩
    exact scale_down M hM n (by omega) (by omega) w

set_option maxHeartbeats 400000 in
theorem turned_any (M : Nat) (hM : M ≤ 2 ^ 53) (P : Int) (lo : -1074 ≤ P) (w : World) :
    Calls Tryd.prog 45 #[.float .f64 (near false M P)] w fun e w' => e = .returned (.float .f64 (near true M P)) ∧ w = w' := by
  have hop : ∀ k w, (binOp .mul k (.float .f64 (near false M P)) (.float .f64 13830554455654793216)).run Tryd.prog w = .ok (.float .f64 (near true M P)) w := fun k w => run_float_arith w .mul k .f64 _ _ _ (turn_any hM lo)
  go_enter Tryd.func45, Tryd.ntmps45
  go_wp2_with (simp only [hop])
  go_ret
  exact ⟨rfl, rfl⟩

/-- A difference of a number with itself. -/
theorem sub_self {x : Nat} {s : Bool} {m : Nat} {q : Int} (h : FloatKind.f64.format.read x = .number s m q) : floatBits .sub .f64 x x = some 0 := by
  show Ieee.double.sub x x = _
  unfold Ieee.Format.sub
  have h' : Ieee.double.read x = .number s m q := h
  rw [h']
  have key : (Ieee.Datum.number s m q).sum (Ieee.Datum.number s m q).opposite = some (.number false 0 (min q q)) := by
    unfold Ieee.Datum.opposite Ieee.Datum.sum
    have e : Ieee.signed s m (q - min q q).toNat + Ieee.signed (!s) m (q - min q q).toNat = 0 := by cases s <;> simp [Ieee.signed] <;> omega
    simp only [e]
    cases s <;> rfl
  rw [key]
  rfl

theorem sub_none {x : Nat} (h : ∀ s m q, FloatKind.f64.format.read x ≠ .number s m q) : FloatKind.f64.format.sub x x = none := by
  show Ieee.double.sub x x = _
  unfold Ieee.Format.sub
  have h' : ∀ s m q, Ieee.double.read x ≠ .number s m q := h
  cases hr : Ieee.double.read x with
  | number s m q => exact absurd hr (h' s m q)
  | infinity s => cases s <;> rfl
  | nan s t => cases s <;> rfl

/-- The bits of a NaN that the model draws. -/
theorem nan_read (t : Nat) : ∃ s f, Ieee.double.read ((t % 2) * 2 ^ 63 + 0x7ff0000000000000 + 1 + (t / 2) % (2 ^ 52 - 1)) = .nan s f := by
  rw [read_double]
  have h1 : t % 2 < 2 := Nat.mod_lt _ (by decide)
  have h2 : t / 2 % 4503599627370495 < 4503599627370495 := Nat.mod_lt _ (by decide)
  have e : t % 2 * 2 ^ 63 + 0x7ff0000000000000 + 1 + t / 2 % (2 ^ 52 - 1) = t % 2 * 9223372036854775808 + 9218868437227405313 + t / 2 % 4503599627370495 := by omega
  rw [e]
  generalize t / 2 % 4503599627370495 = u at *
  have h3 : (t % 2 * 9223372036854775808 + 9218868437227405313 + u) % 9223372036854775808 = 9218868437227405313 + u := by omega
  rw [h3, if_neg (by omega), if_neg (by omega), if_neg (by omega)]
  exact ⟨_, _, rfl⟩

/-- A difference without an answer: a NaN is drawn. -/
theorem run_sub_nan (P : Program) (k : TypeId) (x : Nat) (h : FloatKind.f64.format.sub x x = none) (w : World) :
    ∃ r, (binOp .sub k (.float .f64 x) (.float .f64 x)).run P w = .ok (.float .f64 r) w.drew ∧ FloatKind.f64.format.order r 0 = none := by
  refine ⟨(Question.nanBits .f64 x x).cut (w.tape w.drawn (.nanBits .f64 x x)), ?_, ?_⟩
  · simp [binOp, Op.floatArith, h]
    intro hf
    exact absurd (show false = true from hf) (by decide)
  · obtain ⟨s, f, hn⟩ := nan_read (w.tape w.drawn (.nanBits .f64 x x))
    show Ieee.double.order _ 0 = none
    unfold Ieee.Format.order
    have e : (Question.nanBits .f64 x x).cut (w.tape w.drawn (.nanBits .f64 x x)) = (w.tape w.drawn (.nanBits .f64 x x) % 2) * 2 ^ 63 + 0x7ff0000000000000 + 1 + (w.tape w.drawn (.nanBits .f64 x x) / 2) % (2 ^ 52 - 1) := rfl
    rw [e, hn]
    rfl

theorem order_zeros : FloatKind.f64.format.order 0 0 = some .eq := by decide +kernel

set_option maxHeartbeats 400000 in
theorem real_yes (x : Nat) (s : Bool) (m : Nat) (q : Int) (h : FloatKind.f64.format.read x = .number s m q) (w : World) :
    Calls Tryd.prog 23 #[.float .f64 x] w fun e w' => e = .returned (.bool true) ∧ w = w' := by
  have hop : ∀ k w, (binOp .sub k (.float .f64 x) (.float .f64 x)).run Tryd.prog w = .ok (.float .f64 0) w := fun k w => run_float_arith w .sub k .f64 _ _ _ (sub_self h)
  have hz := order_zeros
  clear h
  go_enter Tryd.func23, Tryd.ntmps23
  go_wp2_with (simp only [hop])
  go_ret
  exact ⟨rfl, rfl⟩

set_option maxHeartbeats 400000 in
theorem real_no (x : Nat) (h : ∀ s m q, FloatKind.f64.format.read x ≠ .number s m q) (w : World) :
    Calls Tryd.prog 23 #[.float .f64 x] w fun e w' => e = .returned (.bool false) ∧ w.drew = w' := by
  have hs := sub_none h
  clear h
  obtain ⟨r, hop, hr⟩ := run_sub_nan Tryd.prog 36 x hs w
  clear hs
  go_enter Tryd.func23, Tryd.ntmps23
  go_wp2_with (simp only [hop])
  go_ret
  exact ⟨rfl, rfl⟩

end Go.Proofs.YtmedcpdjhgconaaDoor
