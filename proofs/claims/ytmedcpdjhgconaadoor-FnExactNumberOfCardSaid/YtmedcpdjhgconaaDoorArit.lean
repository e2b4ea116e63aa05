/- The program's big numbers added, subtracted, compared, counted in bits, read, shifted; values brought to one power. -/
import Derived.Test.YtmedcpdjhgconaaDoorNums
import Derived.Deep.DeepCutAuto
import Derived.Deep.RegionHeld3
import Derived.Test.YtmedcpdjhgconaaDoorSpf

/-! ### Rounds of addDigits, subDigits, Rsh and cmpDigits, in plain numbers. -/
namespace Go.Proofs.YtmedcpdjhgconaaDoor
set_option linter.unusedVariables false
open Go.Proofs.YtmedcpdjhgconaaDoor.Pure

/-- The lowest i digits, and then one more. -/
theorem ds_grow {n i : Nat} (S : Nat) (hi : i < n) : (ds n (S % 4294967296 ^ i)).set i (dwt S i) = ds n (S % 4294967296 ^ (i + 1)) := by
  rw [ds_set]
  refine lst_ext fun j hj => ?_
  have hm : ∀ k j, j < k → dwt (S % 4294967296 ^ k) j = dwt S j := by
    intro k j h
    unfold dwt
    obtain ⟨v, hv⟩ : ∃ v, k = j + 1 + v := ⟨k - j - 1, by omega⟩
    rw [hv, Nat.pow_add, Nat.pow_succ, Nat.mul_assoc, Nat.mod_mul_right_div_self, Nat.mod_mul_right_mod]
  have hz : ∀ k j, k ≤ j → dwt (S % 4294967296 ^ k) j = 0 := by
    intro k j h
    exact dwt_big (Nat.lt_of_lt_of_le (Nat.mod_lt _ (W_pos k)) (Nat.pow_le_pow_right (by decide) h))
  by_cases h1 : j = i
  · rw [if_pos h1, h1, hm (i + 1) i (by omega)]
  · rw [if_neg h1]
    by_cases h2 : j < i
    · rw [hm i j h2, hm (i + 1) j (by omega)]
    · rw [hz i j (by omega), hz (i + 1) j (by omega)]

theorem mod_next (X i : Nat) : X % 4294967296 ^ (i + 1) = X % 4294967296 ^ i + 4294967296 ^ i * (X / 4294967296 ^ i % 4294967296) := by
  rw [Nat.pow_succ, Nat.mod_mul]

/-- The carry behind i digits of a sum. -/
def carry (X Y i : Nat) : Nat := (X % 4294967296 ^ i + Y % 4294967296 ^ i) / 4294967296 ^ i

theorem carry_le (X Y i : Nat) : carry X Y i ≤ 1 := by
  unfold carry
  have h1 := Nat.mod_lt X (W_pos i)
  have h2 := Nat.mod_lt Y (W_pos i)
  have : (X % 4294967296 ^ i + Y % 4294967296 ^ i) / 4294967296 ^ i < 2 := by
    rw [Nat.div_lt_iff_lt_mul (W_pos i)]
    omega
  omega

theorem carry_round (X Y i : Nat) : carry X Y i + X / 4294967296 ^ i % 4294967296 + Y / 4294967296 ^ i % 4294967296 = (X + Y) / 4294967296 ^ i % 4294967296 + 4294967296 * carry X Y (i + 1) := by
  have e : (X + Y) / 4294967296 ^ i = carry X Y i + (X / 4294967296 ^ i + Y / 4294967296 ^ i) := by
    unfold carry
    have h1 := Nat.div_add_mod X (4294967296 ^ i)
    have h2 := Nat.div_add_mod Y (4294967296 ^ i)
    rw [← Nat.add_mul_div_left _ _ (W_pos i)]
    congr 1
    rw [Nat.mul_add]
    omega
  have f : carry X Y (i + 1) = (carry X Y i + X / 4294967296 ^ i % 4294967296 + Y / 4294967296 ^ i % 4294967296) / 4294967296 := by
    unfold carry
    rw [mod_next, mod_next, Nat.pow_succ, ← Nat.div_div_eq_div_mul]
    congr 1
    rw [show X % 4294967296 ^ i + 4294967296 ^ i * (X / 4294967296 ^ i % 4294967296) + (Y % 4294967296 ^ i + 4294967296 ^ i * (Y / 4294967296 ^ i % 4294967296)) = (X % 4294967296 ^ i + Y % 4294967296 ^ i) + 4294967296 ^ i * (X / 4294967296 ^ i % 4294967296 + Y / 4294967296 ^ i % 4294967296) by rw [Nat.mul_add]; omega]
    rw [Nat.add_mul_div_left _ _ (W_pos i)]
    omega
  rw [f, e]
  have hd := Nat.div_add_mod (carry X Y i + X / 4294967296 ^ i % 4294967296 + Y / 4294967296 ^ i % 4294967296) 4294967296
  have hm : (carry X Y i + (X / 4294967296 ^ i + Y / 4294967296 ^ i)) % 4294967296 = (carry X Y i + X / 4294967296 ^ i % 4294967296 + Y / 4294967296 ^ i % 4294967296) % 4294967296 := by omega
  rw [hm]
  omega

theorem carry_zero (X Y : Nat) : carry X Y 0 = 0 := by
  unfold carry
  simp [Nat.mod_one]

theorem carry_top {X Y n : Nat} (hX : X < 4294967296 ^ n) (hY : Y < 4294967296 ^ n) : carry X Y n = (X + Y) / 4294967296 ^ n % 4294967296 := by
  have h := carry_le X Y n
  unfold carry at *
  rw [Nat.mod_eq_of_lt hX, Nat.mod_eq_of_lt hY] at *
  rw [Nat.mod_eq_of_lt (by omega)]

/-- What is lent behind i digits of a difference. -/
def lent (X Y i : Nat) : Nat := if X % 4294967296 ^ i < Y % 4294967296 ^ i then 1 else 0

theorem lent_le (X Y i : Nat) : lent X Y i ≤ 1 := by unfold lent; split <;> omega
theorem lent_zero (X Y : Nat) : lent X Y 0 = 0 := by unfold lent; simp [Nat.mod_one]

theorem lent_round {X Y i : Nat} (h : Y ≤ X) : (X / 4294967296 ^ i % 4294967296 : Nat) + 4294967296 * lent X Y (i + 1) = lent X Y i + (Y / 4294967296 ^ i % 4294967296) + (X - Y) / 4294967296 ^ i % 4294967296 := by
  obtain ⟨D, rfl⟩ : ∃ D, X = Y + D := ⟨X - Y, by omega⟩
  have hD : Y + D - Y = D := by omega
  rw [hD]
  have key : ∀ i, lent (Y + D) Y i = carry Y D i := by
    intro i
    unfold lent carry
    have hp := W_pos i
    have h1 := Nat.mod_lt Y hp
    have h2 := Nat.mod_lt D hp
    rw [Nat.add_mod]
    by_cases hc : Y % 4294967296 ^ i + D % 4294967296 ^ i < 4294967296 ^ i
    · rw [Nat.mod_eq_of_lt hc, Nat.div_eq_of_lt hc, if_neg (by omega)]
    · have e1 : (Y % 4294967296 ^ i + D % 4294967296 ^ i) % 4294967296 ^ i = Y % 4294967296 ^ i + D % 4294967296 ^ i - 4294967296 ^ i := by
        rw [Nat.mod_eq_sub_mod (by omega), Nat.mod_eq_of_lt (by omega)]
      have e2 : (Y % 4294967296 ^ i + D % 4294967296 ^ i) / 4294967296 ^ i = 1 := by
        refine Nat.div_eq_of_lt_le (by omega) (by omega)
      rw [e1, e2, if_pos (by omega)]
  rw [key, key]
  have := carry_round Y D i
  omega

/-- A digit of a number that was moved down. -/
theorem down_digit (X q r j : Nat) (hr : r < 32) : (X / 4294967296 ^ (q + j) % 4294967296 + 4294967296 * (X / 4294967296 ^ (q + j + 1) % 4294967296)) / 2 ^ r % 4294967296 = X / 2 ^ (32 * q + r) / 4294967296 ^ j % 4294967296 := by
  have e : X / 2 ^ (32 * q + r) / 4294967296 ^ j = X / 4294967296 ^ (q + j) / 2 ^ r := by
    rw [Nat.div_div_eq_div_mul, Nat.div_div_eq_div_mul]
    congr 1
    rw [Nat.pow_add, ← W_pow, Nat.pow_add]
    simp only [Nat.mul_assoc, Nat.mul_comm]
  rw [e, show q + j + 1 = (q + j) + 1 from rfl, Nat.pow_succ, ← Nat.div_div_eq_div_mul]
  generalize X / 4294967296 ^ (q + j) = Z
  have hp := Nat.two_pow_pos r
  have hpp : 4294967296 = 2 ^ r * 2 ^ (32 - r) := by rw [← Nat.pow_add, show r + (32 - r) = 32 by omega]
  have hz : Z = (Z % 4294967296 + 4294967296 * (Z / 4294967296 % 4294967296)) + 4294967296 * 4294967296 * (Z / 4294967296 / 4294967296) := by omega
  conv => rhs; rw [hz]
  have e2 : 4294967296 * 4294967296 * (Z / 4294967296 / 4294967296) = 2 ^ r * (4294967296 * (2 ^ (32 - r) * (Z / 4294967296 / 4294967296))) := by
    conv => lhs; arg 1; arg 1; rw [hpp]
    simp only [Nat.mul_assoc, Nat.mul_comm, Nat.mul_left_comm]
  rw [e2, Nat.add_mul_div_left _ _ hp, Nat.add_mul_mod_self_left]

theorem down_lt {X k : Nat} : X / 2 ^ k < 4294967296 ^ (lw X - k / 32) := by
  rw [Nat.div_lt_iff_lt_mul (Nat.two_pow_pos k)]
  have h := lt_lw X
  by_cases hq : k / 32 ≤ lw X
  · obtain ⟨u, hu⟩ : ∃ u, lw X = u + k / 32 := ⟨lw X - k / 32, by omega⟩
    rw [hu, Nat.pow_add] at h
    rw [hu, Nat.add_sub_cancel]
    refine Nat.lt_of_lt_of_le h (Nat.mul_le_mul_left _ ?_)
    rw [W_pow]
    exact Nat.pow_le_pow_right (by decide) (by omega)
  · rw [show lw X - k / 32 = 0 by omega, Nat.pow_zero, Nat.one_mul]
    refine Nat.lt_of_lt_of_le h ?_
    rw [W_pow]
    exact Nat.pow_le_pow_right (by decide) (by omega)
end Go.Proofs.YtmedcpdjhgconaaDoor

/-! ### The program's big numbers: digits added and subtracted. -/
namespace Go.Proofs.YtmedcpdjhgconaaDoor
set_option linter.unusedVariables false
open Go.RowKit Go.Proofs.YtmedcpdjhgconaaDoorW.PrintWords Go.Proofs.YtmedcpdjhgconaaDoorW.PrintLast Go.Proofs.YtmedcpdjhgconaaDoorW.PrintMore Go.Proofs.YtmedcpdjhgconaaDoor.PFnExactFloatOf Go.Proofs.YtmedcpdjhgconaaDoor.Pure

/-- make([]uint32, n) -/
theorem make_row (n : Nat) (hn : n ≤ 1000001) (w : World) : (Instr.makeSlice 83 (.int .i64 (n : Int)) (.int .i64 (n : Int))).run Tryd.prog w = .ok (.slice (some ⟨w.heap.size, 0, none⟩) n n) (w.alloc (.cells (nums .u32 (ds n 0)).toArray 103)) := by
  obtain ⟨i, hi, hiz, his, hib⟩ := info103
  have h := run_make w 83 103 i (.int .u32 0) Tryd.underlying83 hi hiz .i64 .i64 (n : Int) (n : Int) (by omega) (Int.le_refl _) (by rw [hib]; omega) (by omega)
  rw [his, Nat.mul_one, Int.toNat_natCast, ← made_ds] at h
  exact h

theorem set_row (l : List Int) (p : Nat) (v : Int) : (nums .u32 l).toArray.setIfInBounds p (.int .u32 v) = (nums .u32 (l.set p v)).toArray := by
  simp [nums, List.map_set]

theorem mag_row {W : World} {g n X : Nat} (h : W.heap[g]? = some (.cells (nums .u32 (ds n X)).toArray 103 (0, 0))) (hn : n ≤ 1000001) : Mag W (some ⟨g, 0, none⟩) (ds n X) := by
  refine mag_at h (by rw [ds_length]; omega) fun j hj => ?_
  rw [ds_length] at hj
  rw [rd_ds hj]
  simp [nums, ds, lst, hj]

/-- A digit of a row that can be read. -/
theorem Mag.digit {w : World} {A : Option Addr} {n X i : Nat} (h : Mag w A (ds n X)) (hi : i < n) : ∃ ad, A = some ad ∧ w.cell? (ad.add i) = some (.int .u32 ((X / 4294967296 ^ i % 4294967296 : Nat) : Int)) := by
  obtain ⟨ad, hA, hc⟩ := Kd.at_int h.reads (i : Int) (by omega) (by rw [ds_length]; omega)
  rw [rd_ds hi, Int.toNat_natCast] at hc
  exact ⟨ad, hA, hc⟩

/-- What addDigits and subDigits answer: a fresh row with the digits of a number. -/
def Digs (N X : Nat) (w : World) (e : Ending) (w' : World) : Prop := ∃ A, e = .returned (.slice A N N) ∧ Mag w' A (ds N X) ∧ X < 4294967296 ^ N ∧ Below w.heap.size w w'

set_option maxRecDepth 100000 in
set_option maxHeartbeats 1000000 in
theorem add_digits (A B : Option Addr) (cA cB n m X Y : Nat) (w : World) (hA : Mag w A (ds n X)) (hB : Mag w B (ds m Y)) (hX : X < 4294967296 ^ n) (hY : Y < 4294967296 ^ m) (hn : n ≤ 1000000) (hm : m ≤ 1000000) :
    Calls Tryd.prog 83 #[.slice A n cA, .slice B m cB] w (Digs (max n m + 1) (X + Y) w) := by
  have HA := Lib.hid hA
  have HB := Lib.hid hB
  have HX := Lib.hid hX
  have HY := Lib.hid hY
  clear hA hB hX hY
  go_enter Tryd.func83, Tryd.ntmps83
  go_upto_if 12 with (fail)
  go_cut [0, 1] (fun v0 v1 wx => wx = w ∧ ∃ P Q n0 n1 c0 c1 X0 Y0, v0 = .slice P n0 c0 ∧ v1 = .slice Q n1 c1 ∧ Hid (Mag w P (ds n0 X0)) ∧ Hid (Mag w Q (ds n1 Y0)) ∧ Hid (X0 < 4294967296 ^ n0) ∧ Hid (Y0 < 4294967296 ^ n1) ∧ n1 ≤ n0 ∧ n0 = max n m ∧ X0 + Y0 = X + Y)
  case first =>
    by_cases h : n < m
    · go_wp2
      go_meet
      exact ⟨rfl, B, A, m, n, cB, cA, Y, X, rfl, rfl, HB, HA, HY, HX, by omega, by omega, by omega⟩
    · go_wp2
      go_meet
      exact ⟨rfl, A, B, n, m, cA, cB, X, Y, rfl, rfl, HA, HB, HX, HY, by omega, by omega, by omega⟩
  case rest =>
    obtain ⟨rfl, P, Q, n0, n1, c0, c1, X0, Y0, rfl, rfl, HP, HQ, HX0, HY0, hle, hmax, hsum⟩ := hcut
    have hn0 : n0 ≤ 1000000 := by omega
    have HMX := Lib.hid hmax
    have HSUM := Lib.hid hsum
    clear HA HB HX HY hsum hmax hn hm
    go_wp2_with (first | (rw [show ((n0 : Int) + 1) = ((n0 + 1 : Nat) : Int) by omega]; simp only [make_row (n0 + 1) (by omega)]))
    have HB0 := Lib.hid (below_alloc (Below.refl wc.heap.size wc) (.cells (nums .u32 (ds (n0 + 1) 0)).toArray 103))
    go_loopg [6, 7, 21] n0 (fun kq v6 v7 v21 w' => ∃ i : Nat, kq + i = n0 ∧ v21 = .int .i64 (i : Int) ∧ v6 = .int .u64 (carry X0 Y0 i : Int) ∧ Hid (w'.heap[wc.heap.size]? = some (.cells (nums .u32 (ds (n0 + 1) ((X0 + Y0) % 4294967296 ^ i))).toArray 103 (0, 0))) ∧ Hid (Below wc.heap.size wc w'))
    case atStart => exact ⟨0, rfl, rfl, by rw [carry_zero]; rfl, Lib.hid (by rw [Nat.pow_zero, Nat.mod_one]; exact blk_new _ _), HB0⟩
    case round =>
      obtain ⟨i, hi, rfl, rfl, HC, HBB⟩ := hrel
      have hcl := carry_le X0 Y0 i
      cases gk with
      | zero =>
        have him : i = n0 := by omega
        subst him
        have hcn := carry_top HX0.out (Nat.lt_of_lt_of_le HY0.out (Nat.pow_le_pow_right (by decide) hle))
        have hf0 := blk_frozen HC.out i
        obtain ⟨c, hc⟩ : ∃ c, c = carry X0 Y0 i := ⟨_, rfl⟩
        rw [← hc] at hcl hcn ⊢
        have HCN := Lib.hid hcn
        clear hcn hc
        have hcc : wr.cell? ⟨wc.heap.size, i, none⟩ = some (.int .u32 (dwt ((X0 + Y0) % 4294967296 ^ i) i)) := cell_ds HC.out (by omega)
        go_wp2_with fail
        go_ret
        have hlt : X0 + Y0 < 4294967296 ^ (i + 1) := by
          have h1 := HX0.out
          have h2 : Y0 < 4294967296 ^ i := Nat.lt_of_lt_of_le HY0.out (Nat.pow_le_pow_right (by decide) hle)
          rw [Nat.pow_succ]
          omega
        have e : (nums .u32 (ds (i + 1) ((X0 + Y0) % 4294967296 ^ i))).toArray.setIfInBounds i (.int .u32 (c : Int)) = (nums .u32 (ds (i + 1) (X0 + Y0))).toArray := by
          rw [set_row, show (c : Int) = dwt (X0 + Y0) i by rw [HCN.out]; rfl, ds_grow _ (by omega), Nat.mod_eq_of_lt hlt]
        have hk := blk_put HC.out i (.int .u32 (c : Int)) e
        rw [← HMX.out, ← HSUM.out]
        exact ⟨_, rfl, mag_row hk (by omega), hlt, HBB.out.setCell (Nat.le_refl _) _⟩
      | succ gk =>
        have hil : i < n0 := by omega
        obtain ⟨ad, hAd, hcell⟩ := (HP.out.below HBB.out).digit hil
        subst hAd
        have hrd := carry_round X0 Y0 i
        have hDl := dwt_lt X0 i
        have hEl := dwt_lt Y0 i
        have hcl' := carry_le X0 Y0 (i + 1)
        have hSl := dwt_lt (X0 + Y0) i
        obtain ⟨c, hc⟩ : ∃ c, c = carry X0 Y0 i := ⟨_, rfl⟩
        obtain ⟨c', hc'⟩ : ∃ c, c = carry X0 Y0 (i + 1) := ⟨_, rfl⟩
        obtain ⟨D, hD⟩ : ∃ D, D = X0 / 4294967296 ^ i % 4294967296 := ⟨_, rfl⟩
        obtain ⟨E, hE⟩ : ∃ D, D = Y0 / 4294967296 ^ i % 4294967296 := ⟨_, rfl⟩
        obtain ⟨S, hS⟩ : ∃ D, D = (X0 + Y0) / 4294967296 ^ i % 4294967296 := ⟨_, rfl⟩
        rw [← hc] at hcl hrd ⊢
        rw [← hc'] at hcl' hrd
        rw [← hD] at hDl hrd hcell
        rw [← hE] at hEl hrd
        rw [← hS] at hSl hrd
        have HCN := Lib.hid hc'
        have HSN := Lib.hid hS
        have HEN := Lib.hid hE
        clear hc hc' hD hE hS
        have hf0 := blk_frozen HC.out i
        have hcc : wr.cell? ⟨wc.heap.size, i, none⟩ = some (.int .u32 (dwt ((X0 + Y0) % 4294967296 ^ i) i)) := cell_ds HC.out (by omega)
        by_cases hm : i < n1
        · obtain ⟨bd, hBd, hcell2⟩ := (HQ.out.below HBB.out).digit hm
          subst hBd
          rw [← HEN.out] at hcell2
          go_wp2_with fail
          go_roundg gk
          case measure => omega
          case rel =>
            rw [show (((c : Int) + D + E) / 4294967296) = (c' : Int) by omega, show (((c : Int) + D + E) % 4294967296) = (S : Int) by omega]
            refine ⟨i + 1, by omega, by push_cast; rfl, by rw [HCN.out], Lib.hid ?_, Lib.hid (HBB.out.setCell (Nat.le_refl _) _)⟩
            refine blk_put HC.out i (.int .u32 (S : Int)) ?_
            rw [set_row, show (S : Int) = dwt (X0 + Y0) i by rw [HSN.out]; rfl, ds_grow _ (by omega)]
        · go_wp2_with fail
          go_roundg gk
          case measure => omega
          case rel =>
            have hE0 : E = 0 := by
              rw [HEN.out, Nat.div_eq_of_lt (Nat.lt_of_lt_of_le HY0.out (Nat.pow_le_pow_right (by decide) (by omega)))]
            subst hE0
            rw [show (((c : Int) + D) / 4294967296) = (c' : Int) by omega, show (((c : Int) + D) % 4294967296) = (S : Int) by omega]
            refine ⟨i + 1, by omega, by push_cast; rfl, by rw [HCN.out], Lib.hid ?_, Lib.hid (HBB.out.setCell (Nat.le_refl _) _)⟩
            refine blk_put HC.out i (.int .u32 (S : Int)) ?_
            rw [set_row, show (S : Int) = dwt (X0 + Y0) i by rw [HSN.out]; rfl, ds_grow _ (by omega)]

theorem sub_word {D E c c' S : Nat} (h : D + 4294967296 * c' = c + E + S) (hc : c' ≤ 1) (hS : S < 4294967296) :
    IntKind.u64.wrap (IntKind.u64.wrap ((D : Int) - c) - E) / 9223372036854775808 = (c' : Int) ∧ IntKind.u64.wrap (IntKind.u64.wrap ((D : Int) - c) - E) % 4294967296 = (S : Int) := by
  rw [IntKind.wrap_u64, IntKind.wrap_u64]
  constructor <;> omega
theorem sub_word0 {D c c' S : Nat} (h : D + 4294967296 * c' = c + 0 + S) (hc : c' ≤ 1) (hS : S < 4294967296) :
    IntKind.u64.wrap ((D : Int) - c) / 9223372036854775808 = (c' : Int) ∧ IntKind.u64.wrap ((D : Int) - c) % 4294967296 = (S : Int) := by
  rw [IntKind.wrap_u64]
  constructor <;> omega

set_option maxRecDepth 100000 in
set_option maxHeartbeats 1000000 in
theorem sub_digits (A B : Option Addr) (cA cB n m X Y : Nat) (w : World) (hA : Mag w A (ds n X)) (hB : Mag w B (ds m Y)) (hX : X < 4294967296 ^ n) (hY : Y < 4294967296 ^ m) (hle : Y ≤ X) (hn : n ≤ 1000000) (hm : m ≤ 1000000) :
    Calls Tryd.prog 84 #[.slice A n cA, .slice B m cB] w (Digs n (X - Y) w) := by
  have HP := Lib.hid hA
  have HQ := Lib.hid hB
  have HX := Lib.hid hX
  have HY := Lib.hid hY
  clear hA hB hX hY
  go_enter Tryd.func84, Tryd.ntmps84
  go_wp2_with (simp only [make_row n (by omega)])
  have HB0 := Lib.hid (below_alloc (Below.refl w.heap.size w) (.cells (nums .u32 (ds n 0)).toArray 103))
  go_loopg [6, 7, 8, 14] n (fun kq v6 v7 v8 v14 w' => ∃ i : Nat, kq + i = n ∧ v14 = .int .i64 (i : Int) ∧ v6 = .int .u64 (lent X Y i : Int) ∧ Hid (w'.heap[w.heap.size]? = some (.cells (nums .u32 (ds n ((X - Y) % 4294967296 ^ i))).toArray 103 (0, 0))) ∧ Hid (Below w.heap.size w w'))
  case atStart => exact ⟨0, rfl, rfl, by rw [lent_zero]; rfl, Lib.hid (by rw [Nat.pow_zero, Nat.mod_one]; exact blk_new _ _), HB0⟩
  case round =>
    obtain ⟨i, hi, rfl, rfl, HC, HBB⟩ := hrel
    cases gk with
    | zero =>
      have him : i = n := by omega
      subst him
      go_wp2_with fail
      go_ret
      have hlt : X - Y < 4294967296 ^ i := Nat.lt_of_le_of_lt (Nat.sub_le _ _) HX.out
      have hk := HC.out
      rw [Nat.mod_eq_of_lt hlt] at hk
      exact ⟨_, rfl, mag_row hk (by omega), hlt, HBB.out⟩
    | succ gk =>
      have hil : i < n := by omega
      obtain ⟨ad, hAd, hcell⟩ := (HP.out.below HBB.out).digit hil
      subst hAd
      have hrd := lent_round (i := i) hle
      have hDl := dwt_lt X i
      have hEl := dwt_lt Y i
      have hcl := lent_le X Y i
      have hcl' := lent_le X Y (i + 1)
      have hSl := dwt_lt (X - Y) i
      obtain ⟨c, hc⟩ : ∃ c, c = lent X Y i := ⟨_, rfl⟩
      obtain ⟨c', hc'⟩ : ∃ c, c = lent X Y (i + 1) := ⟨_, rfl⟩
      obtain ⟨D, hD⟩ : ∃ D, D = X / 4294967296 ^ i % 4294967296 := ⟨_, rfl⟩
      obtain ⟨E, hE⟩ : ∃ D, D = Y / 4294967296 ^ i % 4294967296 := ⟨_, rfl⟩
      obtain ⟨S, hS⟩ : ∃ D, D = (X - Y) / 4294967296 ^ i % 4294967296 := ⟨_, rfl⟩
      rw [← hc] at hcl hrd ⊢
      rw [← hc'] at hcl' hrd
      rw [← hD] at hDl hrd hcell
      rw [← hE] at hEl hrd
      rw [← hS] at hSl hrd
      have HCN := Lib.hid hc'
      have HSN := Lib.hid hS
      have HEN := Lib.hid hE
      have HLE := Lib.hid hle
      clear hc hc' hD hE hS hle
      have hf0 := blk_frozen HC.out i
      have hcc : wr.cell? ⟨w.heap.size, i, none⟩ = some (.int .u32 (dwt ((X - Y) % 4294967296 ^ i) i)) := cell_ds HC.out (by omega)
      by_cases hm : i < m
      · obtain ⟨bd, hBd, hcell2⟩ := (HQ.out.below HBB.out).digit hm
        subst hBd
        rw [← HEN.out] at hcell2
        go_wp2_with fail
        go_roundg gk
        case measure => omega
        case rel =>
          obtain ⟨e1, e2⟩ := sub_word hrd hcl' hSl
          rw [e1, e2]
          refine ⟨i + 1, by omega, by push_cast; rfl, by rw [HCN.out], Lib.hid ?_, Lib.hid (HBB.out.setCell (Nat.le_refl _) _)⟩
          refine blk_put HC.out i (.int .u32 (S : Int)) ?_
          rw [set_row, show (S : Int) = dwt (X - Y) i by rw [HSN.out]; rfl, ds_grow _ (by omega)]
      · go_wp2_with fail
        go_roundg gk
        case measure => omega
        case rel =>
          have hE0 : E = 0 := by
            rw [HEN.out, Nat.div_eq_of_lt (Nat.lt_of_lt_of_le HY.out (Nat.pow_le_pow_right (by decide) (by omega)))]
          subst hE0
          obtain ⟨e1, e2⟩ := sub_word0 hrd hcl' hSl
          rw [e1, e2]
          refine ⟨i + 1, by omega, by push_cast; rfl, by rw [HCN.out], Lib.hid ?_, Lib.hid (HBB.out.setCell (Nat.le_refl _) _)⟩
          refine blk_put HC.out i (.int .u32 (S : Int)) ?_
          rw [set_row, show (S : Int) = dwt (X - Y) i by rw [HSN.out]; rfl, ds_grow _ (by omega)]
end Go.Proofs.YtmedcpdjhgconaaDoor

/-! ### The program's big numbers: digits compared; numbers compared. -/
namespace Go.Proofs.YtmedcpdjhgconaaDoor
set_option linter.unusedVariables false
open Go.RowKit Go.Proofs.YtmedcpdjhgconaaDoorW.PrintWords Go.Proofs.YtmedcpdjhgconaaDoorW.PrintLast Go.Proofs.YtmedcpdjhgconaaDoorW.PrintMore Go.Proofs.YtmedcpdjhgconaaDoor.PFnExactFloatOf Go.Proofs.YtmedcpdjhgconaaDoor.Pure

/-- How two numbers compare. -/
def cmpN (X Y : Nat) : Int := if X < Y then -1 else if X = Y then 0 else 1

theorem cmp_lt {X Y : Nat} (h : X < Y) : cmpN X Y = -1 := by unfold cmpN; rw [if_pos h]
theorem cmp_gt {X Y : Nat} (h : Y < X) : cmpN X Y = 1 := by unfold cmpN; rw [if_neg (by omega), if_neg (by omega)]
theorem cmp_self (X : Nat) : cmpN X X = 0 := by unfold cmpN; rw [if_neg (by omega), if_pos rfl]

theorem lt_of_lw {X Y : Nat} (h : lw X < lw Y) : X < Y := by
  have h0 : Y ≠ 0 := by intro h0; subst h0; simp [lw] at h
  exact Nat.lt_of_lt_of_le (lt_lw X) (Nat.le_trans (Nat.pow_le_pow_right (by decide) (by omega)) (lw_lo h0))

theorem lt_of_digit {X Y i : Nat} (h : X / 4294967296 ^ (i + 1) = Y / 4294967296 ^ (i + 1)) (hd : X / 4294967296 ^ i % 4294967296 < Y / 4294967296 ^ i % 4294967296) : X < Y := by
  rw [Nat.pow_succ, ← Nat.div_div_eq_div_mul, ← Nat.div_div_eq_div_mul] at h
  refine Nat.not_le.1 fun hle => ?_
  have := Nat.div_le_div_right (c := 4294967296 ^ i) hle
  omega

theorem eq_digit {X Y i : Nat} (h : X / 4294967296 ^ (i + 1) = Y / 4294967296 ^ (i + 1)) (hd : X / 4294967296 ^ i % 4294967296 = Y / 4294967296 ^ i % 4294967296) : X / 4294967296 ^ i = Y / 4294967296 ^ i := by
  rw [Nat.pow_succ, ← Nat.div_div_eq_div_mul, ← Nat.div_div_eq_div_mul] at h
  omega

set_option maxRecDepth 100000 in
set_option maxHeartbeats 1000000 in
theorem cmp_digits (A B : Option Addr) (cA cB X Y : Nat) (w : World) (hA : Mag w A (dw X)) (hB : Mag w B (dw Y)) (hX : lw X ≤ 1000000) (hY : lw Y ≤ 1000000) :
    Calls Tryd.prog 82 #[.slice A (lw X) cA, .slice B (lw Y) cB] w fun e w' => e = .returned (.int .i64 (cmpN X Y)) ∧ Drawn0 w w' := by
  have HA := Lib.hid hA
  have HB := Lib.hid hB
  clear hA hB
  by_cases h1 : lw X < lw Y
  · have hc := cmp_lt (lt_of_lw h1)
    rw [hc]
    have h2 : ¬ lw X = lw Y := by omega
    go_enter Tryd.func82, Tryd.ntmps82
    go_wp2
    go_ret
    exact ⟨rfl, Drawn0.refl _⟩
  · by_cases h2 : lw X = lw Y
    · clear h1
      obtain ⟨n, hn⟩ : ∃ n, lw X = n := ⟨_, rfl⟩
      have hm : lw Y = n := h2 ▸ hn
      rw [hn, hm]
      have HN := Lib.hid hn
      have HM := Lib.hid hm
      have hnl : n ≤ 1000000 := by omega
      clear h2 hn hm hX hY
      go_enter Tryd.func82, Tryd.ntmps82
      go_wp2
      go_loopg [5] n (fun kq v5 w' => kq ≤ n ∧ v5 = .int .i64 ((kq : Int) - 1) ∧ Hid (X / 4294967296 ^ kq = Y / 4294967296 ^ kq) ∧ Drawn0 w w')
      case atStart =>
        refine ⟨Nat.le_refl _, rfl, Lib.hid ?_, Drawn0.refl _⟩
        have e1 := lt_lw X
        have e2 := lt_lw Y
        rw [HN.out] at e1
        rw [HM.out] at e2
        rw [Nat.div_eq_of_lt e1, Nat.div_eq_of_lt e2]
      case round =>
        obtain ⟨hle, rfl, HE, ⟨m, rfl⟩⟩ := hrel
        cases gk with
        | zero =>
          have hXY : X = Y := by have := HE.out; simpa using this
          subst hXY
          go_wp2
          go_ret
          exact ⟨by rw [cmp_self]; rfl, ⟨_, rfl⟩⟩
        | succ gk =>
          have hgn : gk < n := by omega
          obtain ⟨ad, hAd, hcell⟩ := HA.out.digit (show gk < lw X by rw [HN.out]; exact hgn)
          obtain ⟨bd, hBd, hcell2⟩ := HB.out.digit (show gk < lw Y by rw [HM.out]; exact hgn)
          subst hAd
          subst hBd
          rw [show (((gk + 1 : Nat) : Int) - 1) = (gk : Int) by omega]
          have hDl := dwt_lt X gk
          have hEl := dwt_lt Y gk
          by_cases hne : X / 4294967296 ^ gk % 4294967296 = Y / 4294967296 ^ gk % 4294967296
          · have HEQ := Lib.hid (eq_digit HE.out hne)
            rw [← hne] at hcell2
            obtain ⟨D, hD⟩ : ∃ D, D = X / 4294967296 ^ gk % 4294967296 := ⟨_, rfl⟩
            rw [← hD] at hcell hcell2
            clear hne hD hDl hEl
            go_wp2
            repeat (go_quiet (fail); try go_wp2)
            go_roundg gk
            case measure => omega
            case rel => exact ⟨by omega, rfl, HEQ, by repeat (first | exact Drawn0.refl _ | apply Drawn0.step)⟩
          · have hres : cmpN X Y = if X / 4294967296 ^ gk % 4294967296 < Y / 4294967296 ^ gk % 4294967296 then -1 else 1 := by
              by_cases hl : X / 4294967296 ^ gk % 4294967296 < Y / 4294967296 ^ gk % 4294967296
              · rw [if_pos hl, cmp_lt (lt_of_digit HE.out hl)]
              · rw [if_neg hl, cmp_gt (lt_of_digit HE.out.symm (by omega))]
            obtain ⟨D, hD⟩ : ∃ D, D = X / 4294967296 ^ gk % 4294967296 := ⟨_, rfl⟩
            obtain ⟨E, hE⟩ : ∃ D, D = Y / 4294967296 ^ gk % 4294967296 := ⟨_, rfl⟩
            rw [← hD, ← hE] at hne hres
            rw [← hD] at hcell
            rw [← hE] at hcell2
            have HRES := Lib.hid hres
            clear hD hE hDl hEl hres
            by_cases hl : D < E
            · go_wp2
              repeat (go_quiet (fail); try go_wp2)
              go_ret
              exact ⟨by rw [HRES.out, if_pos hl]; rfl, by repeat (first | exact Drawn0.refl _ | apply Drawn0.step)⟩
            · go_wp2
              repeat (go_quiet (fail); try go_wp2)
              go_ret
              exact ⟨by rw [HRES.out, if_neg hl]; rfl, by repeat (first | exact Drawn0.refl _ | apply Drawn0.step)⟩
    · have h3 : lw Y < lw X := by omega
      have hc := cmp_gt (lt_of_lw h3)
      rw [hc]
      go_enter Tryd.func82, Tryd.ntmps82
      go_wp2
      go_ret
      exact ⟨rfl, Drawn0.refl _⟩
end Go.Proofs.YtmedcpdjhgconaaDoor

/-! ### The program's big numbers compared. -/
namespace Go.Proofs.YtmedcpdjhgconaaDoor
set_option linter.unusedVariables false
open Go.RowKit Go.Proofs.YtmedcpdjhgconaaDoorW.PrintWords Go.Proofs.YtmedcpdjhgconaaDoorW.PrintLast Go.Proofs.YtmedcpdjhgconaaDoorW.PrintMore Go.Proofs.YtmedcpdjhgconaaDoor.PFnExactFloatOf Go.Proofs.YtmedcpdjhgconaaDoor.Pure

/-- A number's block, with its digits' count told. -/
theorem Big.open_ {w : World} {g X : Nat} {neg : Bool} (h : Big w g neg X) : ∃ A c, w.heap[g]? = some (.cells #[.bool neg, .slice A (lw X) c] 85 (0, 0)) ∧ lw X ≤ c ∧ Mag w A (dw X) := by
  obtain ⟨A, c, h1, h2, h3⟩ := h
  rw [show (dw X).length = lw X from ds_length _ _] at h1 h2
  exact ⟨A, c, h1, h2, h3⟩

theorem Drawn0.mag {w w' : World} {A : Option Addr} {l : List Int} (h : Drawn0 w w') (hm : Mag w A l) : Mag w' A l := hm.below h.below

set_option maxRecDepth 100000 in
set_option maxHeartbeats 1000000 in
theorem cmp_calls (x y X Y : Nat) (w : World) (hx : Big w x false X) (hy : Big w y false Y) (hX : lw X ≤ 1000000) (hY : lw Y ≤ 1000000) :
    Calls Tryd.prog 74 #[.pointer (some ⟨x, 0, none⟩), .pointer (some ⟨y, 0, none⟩)] w fun e w' => e = .returned (.int .i64 (cmpN X Y)) ∧ Below w.heap.size w w' := by
  obtain ⟨A, c, hk, hc, hm⟩ := hx.open_
  obtain ⟨B, d, hk2, hd, hm2⟩ := hy.open_
  have h0 : w.cell? ⟨x, 0, none⟩ = some (.bool false) := (blk_cell hk 0).trans rfl
  have h1 : w.cell? ⟨x, 1, none⟩ = some (.slice A (lw X) c) := (blk_cell hk 1).trans rfl
  have h2 : w.cell? ⟨y, 0, none⟩ = some (.bool false) := (blk_cell hk2 0).trans rfl
  have h3 : w.cell? ⟨y, 1, none⟩ = some (.slice B (lw Y) d) := (blk_cell hk2 1).trans rfl
  have HM := Lib.hid hm
  have HM2 := Lib.hid hm2
  have hxl := hx.lt
  have hyl := hy.lt
  clear hk hk2 hm hm2 hx hy hc hd
  go_enter Tryd.func74, Tryd.ntmps74
  go_wp2
  go_region_held3 (fun w' => w'.cell? ⟨x, 1, none⟩ = some (.slice A (lw X) c) ∧ w'.cell? ⟨y, 1, none⟩ = some (.slice B (lw Y) d)) (go_keep) (first | (go_at_call 82; refine (cmp_digits A B c d X Y _ (HM.out.below (Below.refl _ _).drew) (HM2.out.below (Below.refl _ _).drew) hX hY).mono ?_; rintro e w3 ⟨rfl, hB3⟩; have q0 := (hB3.below.cell (p := ⟨x, 1, none⟩) hxl).trans h1; have q1 := (hB3.below.cell (p := ⟨y, 1, none⟩) hyl).trans h3; have HB3 := Lib.hid hB3; clear hB3))
  go_wp2
  go_ret
  exact ⟨rfl, (Below.refl w.heap.size w).drew.trans (HB3.out.below)⟩
end Go.Proofs.YtmedcpdjhgconaaDoor

/-! ### The program's big numbers added and subtracted. -/
namespace Go.Proofs.YtmedcpdjhgconaaDoor
set_option linter.unusedVariables false
open Go.RowKit Go.Proofs.YtmedcpdjhgconaaDoorW.PrintWords Go.Proofs.YtmedcpdjhgconaaDoorW.PrintLast Go.Proofs.YtmedcpdjhgconaaDoorW.PrintMore Go.Proofs.YtmedcpdjhgconaaDoor.PFnExactFloatOf Go.Proofs.YtmedcpdjhgconaaDoor.Pure

set_option maxRecDepth 100000 in
set_option maxHeartbeats 1000000 in
theorem sum_add (z x y base X Y : Nat) (w : World) (hz : IsBig w z) (hx : Big w x false X) (hy : Big w y false Y) (hb : base ≤ z) (hX : lw X ≤ 900000) (hY : lw Y ≤ 900000) :
    Calls Tryd.prog 76 #[.pointer (some ⟨z, 0, none⟩), .pointer (some ⟨x, 0, none⟩), .pointer (some ⟨y, 0, none⟩), .bool false] w (Puts base z false (X + Y) w) := by
  obtain ⟨A, c, hk, hc, hm⟩ := hx.open_
  obtain ⟨B, d, hk2, hd, hm2⟩ := hy.open_
  have h0 : w.cell? ⟨x, 0, none⟩ = some (.bool false) := (blk_cell hk 0).trans rfl
  have h1 : w.cell? ⟨x, 1, none⟩ = some (.slice A (lw X) c) := (blk_cell hk 1).trans rfl
  have h2 : w.cell? ⟨y, 0, none⟩ = some (.bool false) := (blk_cell hk2 0).trans rfl
  have h3 : w.cell? ⟨y, 1, none⟩ = some (.slice B (lw Y) d) := (blk_cell hk2 1).trans rfl
  have HM := Lib.hid hm
  have HM2 := Lib.hid hm2
  have HK := Lib.hid hk
  have HK2 := Lib.hid hk2
  have HX := Lib.hid (lt_lw X)
  have HY := Lib.hid (lt_lw Y)
  have hxl := hx.lt
  have hyl := hy.lt
  have hzl := hz.lt
  have HZ := Lib.hid hz
  clear hk hk2 hm hm2 hx hy hc hd hz
  go_enter Tryd.func76, Tryd.ntmps76
  go_wp2
  refine start_ (n := 13) (S := (fun w' => w'.cell? ⟨x, 0, none⟩ = some (.bool false) ∧ w'.cell? ⟨x, 1, none⟩ = some (.slice A (lw X) c) ∧ w'.cell? ⟨y, 1, none⟩ = some (.slice B (lw Y) d))) (ds := [11]) #[false, false, false, false, false, false, false, false, false, false, false, false, false] (by kernel_rfl) rfl rfl ⟨h0, h1, h3⟩ (fun hHeld => ?_)
  refine pure_ (i := 0) (N := some 16) (v := ?_) (a' := ?_) #[true, false, false, false, false, false, false, false, false, false, false, false, false] rfl rfl (by kernel_rfl) (fun _ _ _ h => h) (Or.inl ⟨by rfl, ?_⟩) ?_ ?_
  rotate_left
  · intro w'
    go_simp
    with_reducible rfl
  rotate_left
  · simp only [Act.put, List.setIfInBounds_toArray, List.set_cons_zero, List.set_cons_succ]
    rfl
  refine pure_ (i := 1) (N := some 17) (v := ?_) (a' := ?_) #[true, true, false, false, false, false, false, false, false, false, false, false, false] rfl rfl (by kernel_rfl) (fun _ _ _ h => h) (Or.inl ⟨by rfl, ?_⟩) ?_ ?_
  rotate_left
  · intro w'
    go_simp
    with_reducible rfl
  rotate_left
  · simp only [Act.put, List.setIfInBounds_toArray, List.set_cons_zero, List.set_cons_succ]
    rfl
  refine pure_ (i := 2) (N := some 18) (v := ?_) (a' := ?_) #[true, true, true, false, false, false, false, false, false, false, false, false, false] rfl rfl (by kernel_rfl) (fun _ _ _ h => h) (Or.inl ⟨by rfl, ?_⟩) ?_ ?_
  rotate_left
  · intro w'
    go_simp
    with_reducible rfl
  rotate_left
  · simp only [Act.put, List.setIfInBounds_toArray, List.set_cons_zero, List.set_cons_succ]
    rfl
  refine pure_ (i := 3) (N := some 19) (v := ?_) (a' := ?_) #[true, true, true, true, false, false, false, false, false, false, false, false, false] rfl rfl (by kernel_rfl) (fun _ _ _ h => h) (Or.inl ⟨by rfl, ?_⟩) ?_ ?_
  rotate_left
  · intro w'
    go_simp
    with_reducible rfl
  rotate_left
  · simp only [Act.put, List.setIfInBounds_toArray, List.set_cons_zero, List.set_cons_succ]
    rfl
  refine pure_ (i := 4) (N := some 20) (v := ?_) (a' := ?_) #[true, true, true, true, true, false, false, false, false, false, false, false, false] rfl rfl (by kernel_rfl) (fun _ _ _ h => h) (Or.inl ⟨by rfl, ?_⟩) ?_ ?_
  rotate_left
  · intro w'
    go_simp
    with_reducible rfl
  rotate_left
  · simp only [Act.put, List.setIfInBounds_toArray, List.set_cons_zero, List.set_cons_succ]
    rfl
  refine take_ (i := 5) (N := some 21) (v := ?_) (a' := ?_) #[true, true, true, true, true, true, false, false, false, false, false, false, false] rfl rfl (by kernel_rfl) (fun _ _ _ h => h) (Or.inl ⟨by rfl, ?_⟩) hHeld ?_ ?_
  rotate_left
  · rintro w' ⟨s0, s1, s2⟩
    go_simp
    with_reducible rfl
  rotate_left
  · simp only [Act.put, List.setIfInBounds_toArray, List.set_cons_zero, List.set_cons_succ]
    rfl
  refine pure_ (i := 6) (N := some 22) (v := ?_) (a' := ?_) #[true, true, true, true, true, true, true, false, false, false, false, false, false] rfl rfl (by kernel_rfl) (fun _ _ _ h => h) (Or.inl ⟨by rfl, ?_⟩) ?_ ?_
  rotate_left
  · intro w'
    go_simp
    with_reducible rfl
  rotate_left
  · simp only [Act.put, List.setIfInBounds_toArray, List.set_cons_zero, List.set_cons_succ]
    rfl
  refine pure_ (i := 7) (N := some 23) (v := ?_) (a' := ?_) #[true, true, true, true, true, true, true, true, false, false, false, false, false] rfl rfl (by kernel_rfl) (fun _ _ _ h => h) (Or.inl ⟨by rfl, ?_⟩) ?_ ?_
  rotate_left
  · intro w'
    go_simp
    with_reducible rfl
  rotate_left
  · simp only [Act.put, List.setIfInBounds_toArray, List.set_cons_zero, List.set_cons_succ]
    rfl
  refine pure_ (i := 8) (N := some 24) (v := ?_) (a' := ?_) #[true, true, true, true, true, true, true, true, true, false, false, false, false] rfl rfl (by kernel_rfl) (fun _ _ _ h => h) (Or.inl ⟨by rfl, ?_⟩) ?_ ?_
  rotate_left
  · intro w'
    go_simp
    with_reducible rfl
  rotate_left
  · simp only [Act.put, List.setIfInBounds_toArray, List.set_cons_zero, List.set_cons_succ]
    rfl
  refine take_ (i := 9) (N := some 25) (v := ?_) (a' := ?_) #[true, true, true, true, true, true, true, true, true, true, false, false, false] rfl rfl (by kernel_rfl) (fun _ _ _ h => h) (Or.inl ⟨by rfl, ?_⟩) hHeld ?_ ?_
  rotate_left
  · rintro w' ⟨s0, s1, s2⟩
    go_simp
    with_reducible rfl
  rotate_left
  · simp only [Act.put, List.setIfInBounds_toArray, List.set_cons_zero, List.set_cons_succ]
    rfl
  refine one_ (i := 10) (N := some 26) #[true, true, true, true, true, true, true, true, true, true, true, false, false] rfl rfl (by kernel_rfl) (by decide) (fun K hK => ?_)
  refine goes_ Tryd.func83 (by kernel_rfl) rfl #[.slice A (lw X) c, .slice B (lw Y) d] (by rfl) rfl rfl (by (try simp only [List.map_toArray, List.map_cons, List.map_nil]); first | done | rfl) ?_
  refine (add_digits A B c d (lw X) (lw Y) X Y _ (HM.out.below (Below.refl _ _).drew) (HM2.out.below (Below.refl _ _).drew) HX.out HY.out (by omega) (by omega)).mono ?_
  rintro e w1 ⟨R, rfl, hR, hL, hBB⟩
  have HR := Lib.hid hR
  have HL := Lib.hid hL
  have HW := Lib.hid ((Below.refl w.heap.size w).drew.trans hBB)
  clear hR hL hBB
  refine ⟨_, rfl, ?_⟩
  refine hK.out _ _ ⟨(HW.out.cell (p := ⟨x, 0, none⟩) hxl).trans h0, (HW.out.cell (p := ⟨x, 1, none⟩) hxl).trans h1, (HW.out.cell (p := ⟨y, 1, none⟩) hyl).trans h3⟩ (fun hHeld => ?_)
  clear hK K
  refine norm_ (a' := ?_) ?_ ?_
  rotate_left
  · show Act.put _ (some 26) _ = _
    simp only [Act.put, List.setIfInBounds_toArray, List.set_cons_zero, List.set_cons_succ]
    rfl
  refine last_ (i := 11) (N := some 27) #[true, true, true, true, true, true, true, true, true, true, true, true, false] rfl rfl (by kernel_rfl) (by decide) (fun K hK => ?_)
  refine goes_ Tryd.func70 (by kernel_rfl) rfl #[.pointer (some ⟨z, 0, none⟩), .bool false, .slice R (max (lw X) (lw Y) + 1) (max (lw X) (lw Y) + 1)] (by rfl) rfl rfl (by (try simp only [List.map_toArray, List.map_cons, List.map_nil]); first | done | rfl) ?_
  refine (put_calls z base false R (max (lw X) (lw Y) + 1) (max (lw X) (lw Y) + 1) (X + Y) _ (HZ.out.below HW.out) hb (by omega) HL.out HR.out (Nat.le_refl _)).mono ?_
  rintro e w2 ⟨rfl, hp⟩
  have HP := Lib.hid hp
  clear hp
  refine ⟨_, rfl, ?_⟩
  refine hK.out _ _ ?_
  clear hK K
  refine norm_ (a' := ?_) ?_ ?_
  rotate_left
  · show Act.put _ (some 27) _ = _
    simp only [Act.put, List.setIfInBounds_toArray, List.set_cons_zero, List.set_cons_succ]
    rfl
  refine pure_ (i := 12) (N := some 8) (v := ?_) (a' := ?_) #[true, true, true, true, true, true, true, true, true, true, true, true, true] rfl rfl (by kernel_rfl) (fun _ _ _ h => h) (Or.inl ⟨by rfl, ?_⟩) ?_ ?_
  rotate_left
  · intro w'
    go_simp
    with_reducible rfl
  rotate_left
  · simp only [Act.put, List.setIfInBounds_toArray, List.set_cons_zero, List.set_cons_succ]
    rfl
  refine done_ (by kernel_rfl) ?_
  go_wp2_with fail
  go_ret
  exact Puts.from ⟨rfl, HP.out⟩ (by omega) HW.out

set_option maxRecDepth 100000 in
set_option maxHeartbeats 1000000 in
theorem sum_sub (z x y base X Y : Nat) (w : World) (hz : IsBig w z) (hx : Big w x false X) (hy : Big w y false Y) (hb : base ≤ z) (hX : lw X ≤ 900000) (hY : lw Y ≤ 900000) (hle : Y ≤ X) :
    Calls Tryd.prog 76 #[.pointer (some ⟨z, 0, none⟩), .pointer (some ⟨x, 0, none⟩), .pointer (some ⟨y, 0, none⟩), .bool true] w (Puts base z false (X - Y) w) := by
  obtain ⟨A, c, hk, hc, hm⟩ := hx.open_
  obtain ⟨B, d, hk2, hd, hm2⟩ := hy.open_
  have h0 : w.cell? ⟨x, 0, none⟩ = some (.bool false) := (blk_cell hk 0).trans rfl
  have h1 : w.cell? ⟨x, 1, none⟩ = some (.slice A (lw X) c) := (blk_cell hk 1).trans rfl
  have h2 : w.cell? ⟨y, 0, none⟩ = some (.bool false) := (blk_cell hk2 0).trans rfl
  have h3 : w.cell? ⟨y, 1, none⟩ = some (.slice B (lw Y) d) := (blk_cell hk2 1).trans rfl
  have HM := Lib.hid hm
  have HM2 := Lib.hid hm2
  have HK := Lib.hid hk
  have HK2 := Lib.hid hk2
  have HX := Lib.hid (lt_lw X)
  have HY := Lib.hid (lt_lw Y)
  have hxl := hx.lt
  have hyl := hy.lt
  have hzl := hz.lt
  have HZ := Lib.hid hz
  clear hk hk2 hm hm2 hx hy hc hd hz
  have hc0 : decide (0 ≤ cmpN X Y) = true := by
    unfold cmpN
    rw [if_neg (by omega)]
    split <;> rfl
  go_enter Tryd.func76, Tryd.ntmps76
  go_wp2
  go_region_held3 (fun w' => w'.cell? ⟨x, 0, none⟩ = some (.bool false) ∧ w'.cell? ⟨x, 1, none⟩ = some (.slice A (lw X) c) ∧ w'.cell? ⟨y, 1, none⟩ = some (.slice B (lw Y) d)) (go_keep) (first | (go_at_call 82; refine (cmp_digits A B c d X Y _ (HM.out.below (Below.refl _ _).drew) (HM2.out.below (Below.refl _ _).drew) (by omega) (by omega)).mono ?_; rintro e w3 ⟨rfl, hB3⟩; have q0 := (hB3.below.cell (p := ⟨x, 0, none⟩) hxl).trans h0; have q1 := (hB3.below.cell (p := ⟨x, 1, none⟩) hxl).trans h1; have q2 := (hB3.below.cell (p := ⟨y, 1, none⟩) hyl).trans h3; have HB3 := Lib.hid ((Below.refl w.heap.size w).drew.trans hB3.below); clear hB3))
  go_wp2
  refine start_ (n := 16) (S := (fun w' => w'.cell? ⟨x, 0, none⟩ = some (.bool false) ∧ w'.cell? ⟨x, 1, none⟩ = some (.slice A (lw X) c) ∧ w'.cell? ⟨y, 1, none⟩ = some (.slice B (lw Y) d))) (ds := [14]) #[false, false, false, false, false, false, false, false, false, false, false, false, false, false, false, false] (by kernel_rfl) rfl rfl ⟨q0, q1, q2⟩ (fun hHeld => ?_)
  refine pure_ (i := 0) (N := some 39) (v := ?_) (a' := ?_) #[true, false, false, false, false, false, false, false, false, false, false, false, false, false, false, false] rfl rfl (by kernel_rfl) (fun _ _ _ h => h) (Or.inl ⟨by rfl, ?_⟩) ?_ ?_
  rotate_left
  · intro w'
    go_simp
    with_reducible rfl
  rotate_left
  · simp only [Act.put, List.setIfInBounds_toArray, List.set_cons_zero, List.set_cons_succ]
    rfl
  refine pure_ (i := 1) (N := some 40) (v := ?_) (a' := ?_) #[true, true, false, false, false, false, false, false, false, false, false, false, false, false, false, false] rfl rfl (by kernel_rfl) (fun _ _ _ h => h) (Or.inl ⟨by rfl, ?_⟩) ?_ ?_
  rotate_left
  · intro w'
    go_simp
    with_reducible rfl
  rotate_left
  · simp only [Act.put, List.setIfInBounds_toArray, List.set_cons_zero, List.set_cons_succ]
    rfl
  refine pure_ (i := 2) (N := some 41) (v := ?_) (a' := ?_) #[true, true, true, false, false, false, false, false, false, false, false, false, false, false, false, false] rfl rfl (by kernel_rfl) (fun _ _ _ h => h) (Or.inl ⟨by rfl, ?_⟩) ?_ ?_
  rotate_left
  · intro w'
    go_simp
    with_reducible rfl
  rotate_left
  · simp only [Act.put, List.setIfInBounds_toArray, List.set_cons_zero, List.set_cons_succ]
    rfl
  refine pure_ (i := 3) (N := some 42) (v := ?_) (a' := ?_) #[true, true, true, true, false, false, false, false, false, false, false, false, false, false, false, false] rfl rfl (by kernel_rfl) (fun _ _ _ h => h) (Or.inl ⟨by rfl, ?_⟩) ?_ ?_
  rotate_left
  · intro w'
    go_simp
    with_reducible rfl
  rotate_left
  · simp only [Act.put, List.setIfInBounds_toArray, List.set_cons_zero, List.set_cons_succ]
    rfl
  refine take_ (i := 4) (N := some 43) (v := ?_) (a' := ?_) #[true, true, true, true, true, false, false, false, false, false, false, false, false, false, false, false] rfl rfl (by kernel_rfl) (fun _ _ _ h => h) (Or.inl ⟨by rfl, ?_⟩) hHeld ?_ ?_
  rotate_left
  · rintro w' ⟨s0, s1, s2⟩
    go_simp
    with_reducible rfl
  rotate_left
  · simp only [Act.put, List.setIfInBounds_toArray, List.set_cons_zero, List.set_cons_succ]
    rfl
  refine pure_ (i := 5) (N := some 44) (v := ?_) (a' := ?_) #[true, true, true, true, true, true, false, false, false, false, false, false, false, false, false, false] rfl rfl (by kernel_rfl) (fun _ _ _ h => h) (Or.inl ⟨by rfl, ?_⟩) ?_ ?_
  rotate_left
  · intro w'
    go_simp
    with_reducible rfl
  rotate_left
  · simp only [Act.put, List.setIfInBounds_toArray, List.set_cons_zero, List.set_cons_succ]
    rfl
  refine pure_ (i := 6) (N := some 45) (v := ?_) (a' := ?_) #[true, true, true, true, true, true, true, false, false, false, false, false, false, false, false, false] rfl rfl (by kernel_rfl) (fun _ _ _ h => h) (Or.inl ⟨by rfl, ?_⟩) ?_ ?_
  rotate_left
  · intro w'
    go_simp
    with_reducible rfl
  rotate_left
  · simp only [Act.put, List.setIfInBounds_toArray, List.set_cons_zero, List.set_cons_succ]
    rfl
  refine pure_ (i := 7) (N := some 46) (v := ?_) (a' := ?_) #[true, true, true, true, true, true, true, true, false, false, false, false, false, false, false, false] rfl rfl (by kernel_rfl) (fun _ _ _ h => h) (Or.inl ⟨by rfl, ?_⟩) ?_ ?_
  rotate_left
  · intro w'
    go_simp
    with_reducible rfl
  rotate_left
  · simp only [Act.put, List.setIfInBounds_toArray, List.set_cons_zero, List.set_cons_succ]
    rfl
  refine take_ (i := 8) (N := some 47) (v := ?_) (a' := ?_) #[true, true, true, true, true, true, true, true, true, false, false, false, false, false, false, false] rfl rfl (by kernel_rfl) (fun _ _ _ h => h) (Or.inl ⟨by rfl, ?_⟩) hHeld ?_ ?_
  rotate_left
  · rintro w' ⟨s0, s1, s2⟩
    go_simp
    with_reducible rfl
  rotate_left
  · simp only [Act.put, List.setIfInBounds_toArray, List.set_cons_zero, List.set_cons_succ]
    rfl
  refine pure_ (i := 9) (N := some 48) (v := ?_) (a' := ?_) #[true, true, true, true, true, true, true, true, true, true, false, false, false, false, false, false] rfl rfl (by kernel_rfl) (fun _ _ _ h => h) (Or.inl ⟨by rfl, ?_⟩) ?_ ?_
  rotate_left
  · intro w'
    go_simp
    with_reducible rfl
  rotate_left
  · simp only [Act.put, List.setIfInBounds_toArray, List.set_cons_zero, List.set_cons_succ]
    rfl
  refine pure_ (i := 10) (N := some 49) (v := ?_) (a' := ?_) #[true, true, true, true, true, true, true, true, true, true, true, false, false, false, false, false] rfl rfl (by kernel_rfl) (fun _ _ _ h => h) (Or.inl ⟨by rfl, ?_⟩) ?_ ?_
  rotate_left
  · intro w'
    go_simp
    with_reducible rfl
  rotate_left
  · simp only [Act.put, List.setIfInBounds_toArray, List.set_cons_zero, List.set_cons_succ]
    rfl
  refine pure_ (i := 11) (N := some 50) (v := ?_) (a' := ?_) #[true, true, true, true, true, true, true, true, true, true, true, true, false, false, false, false] rfl rfl (by kernel_rfl) (fun _ _ _ h => h) (Or.inl ⟨by rfl, ?_⟩) ?_ ?_
  rotate_left
  · intro w'
    go_simp
    with_reducible rfl
  rotate_left
  · simp only [Act.put, List.setIfInBounds_toArray, List.set_cons_zero, List.set_cons_succ]
    rfl
  refine take_ (i := 12) (N := some 51) (v := ?_) (a' := ?_) #[true, true, true, true, true, true, true, true, true, true, true, true, true, false, false, false] rfl rfl (by kernel_rfl) (fun _ _ _ h => h) (Or.inl ⟨by rfl, ?_⟩) hHeld ?_ ?_
  rotate_left
  · rintro w' ⟨s0, s1, s2⟩
    go_simp
    with_reducible rfl
  rotate_left
  · simp only [Act.put, List.setIfInBounds_toArray, List.set_cons_zero, List.set_cons_succ]
    rfl
  refine one_ (i := 13) (N := some 52) #[true, true, true, true, true, true, true, true, true, true, true, true, true, true, false, false] rfl rfl (by kernel_rfl) (by decide) (fun K hK => ?_)
  refine goes_ Tryd.func84 (by kernel_rfl) rfl #[.slice A (lw X) c, .slice B (lw Y) d] (by rfl) rfl rfl (by (try simp only [List.map_toArray, List.map_cons, List.map_nil]); first | done | rfl) ?_
  refine (sub_digits A B c d (lw X) (lw Y) X Y _ (HM.out.below HB3.out.drew) (HM2.out.below HB3.out.drew) HX.out HY.out hle (by omega) (by omega)).mono ?_
  rintro e w1 ⟨R, rfl, hR, hL, hBB⟩
  have HR := Lib.hid hR
  have HL := Lib.hid hL
  have HW := Lib.hid (HB3.out.drew.trans (hBB.mono HB3.out.size))
  clear hR hL hBB
  refine ⟨_, rfl, ?_⟩
  refine hK.out _ _ ⟨(HW.out.cell (p := ⟨x, 0, none⟩) hxl).trans h0, (HW.out.cell (p := ⟨x, 1, none⟩) hxl).trans h1, (HW.out.cell (p := ⟨y, 1, none⟩) hyl).trans h3⟩ (fun hHeld => ?_)
  clear hK K
  refine norm_ (a' := ?_) ?_ ?_
  rotate_left
  · show Act.put _ (some 52) _ = _
    simp only [Act.put, List.setIfInBounds_toArray, List.set_cons_zero, List.set_cons_succ]
    rfl
  refine last_ (i := 14) (N := some 53) #[true, true, true, true, true, true, true, true, true, true, true, true, true, true, true, false] rfl rfl (by kernel_rfl) (by decide) (fun K hK => ?_)
  refine goes_ Tryd.func70 (by kernel_rfl) rfl #[.pointer (some ⟨z, 0, none⟩), .bool false, .slice R (lw X) (lw X)] (by rfl) rfl rfl (by (try simp only [List.map_toArray, List.map_cons, List.map_nil]); first | done | rfl) ?_
  refine (put_calls z base false R (lw X) (lw X) (X - Y) _ (HZ.out.below HW.out) hb (by omega) HL.out HR.out (Nat.le_refl _)).mono ?_
  rintro e w2 ⟨rfl, hp⟩
  have HP := Lib.hid hp
  clear hp
  refine ⟨_, rfl, ?_⟩
  refine hK.out _ _ ?_
  clear hK K
  refine norm_ (a' := ?_) ?_ ?_
  rotate_left
  · show Act.put _ (some 53) _ = _
    simp only [Act.put, List.setIfInBounds_toArray, List.set_cons_zero, List.set_cons_succ]
    rfl
  refine pure_ (i := 15) (N := some 8) (v := ?_) (a' := ?_) #[true, true, true, true, true, true, true, true, true, true, true, true, true, true, true, true] rfl rfl (by kernel_rfl) (fun _ _ _ h => h) (Or.inl ⟨by rfl, ?_⟩) ?_ ?_
  rotate_left
  · intro w'
    go_simp
    with_reducible rfl
  rotate_left
  · simp only [Act.put, List.setIfInBounds_toArray, List.set_cons_zero, List.set_cons_succ]
    rfl
  refine done_ (by kernel_rfl) ?_
  go_wp2_with fail
  go_ret
  exact Puts.from ⟨rfl, HP.out⟩ (by omega) HW.out

set_option maxHeartbeats 400000 in
theorem add_calls (z x y base X Y : Nat) (w : World) (hz : IsBig w z) (hx : Big w x false X) (hy : Big w y false Y) (hb : base ≤ z) (hX : lw X ≤ 900000) (hY : lw Y ≤ 900000) :
    Calls Tryd.prog 58 #[.pointer (some ⟨z, 0, none⟩), .pointer (some ⟨x, 0, none⟩), .pointer (some ⟨y, 0, none⟩)] w (Puts base z false (X + Y) w) := by
  obtain ⟨B, d, hk2, hd, hm2⟩ := hy.open_
  have h2 : w.cell? ⟨y, 0, none⟩ = some (.bool false) := (blk_cell hk2 0).trans rfl
  have HZ := Lib.hid hz
  have HX := Lib.hid hx
  have HY := Lib.hid hy
  clear hk2 hd hm2 hz hx hy
  go_enter Tryd.func58, Tryd.ntmps58
  go_wp2_with (first | (go_at_call 76; refine (sum_add z x y base X Y _ HZ.out HX.out HY.out hb hX hY).mono ?_; rintro e w1 ⟨rfl, hp⟩; have HP := Lib.hid hp; clear hp))
  go_ret
  exact ⟨rfl, HP.out⟩

set_option maxHeartbeats 400000 in
theorem sub_calls (z x y base X Y : Nat) (w : World) (hz : IsBig w z) (hx : Big w x false X) (hy : Big w y false Y) (hb : base ≤ z) (hX : lw X ≤ 900000) (hY : lw Y ≤ 900000) (hle : Y ≤ X) :
    Calls Tryd.prog 73 #[.pointer (some ⟨z, 0, none⟩), .pointer (some ⟨x, 0, none⟩), .pointer (some ⟨y, 0, none⟩)] w (Puts base z false (X - Y) w) := by
  obtain ⟨B, d, hk2, hd, hm2⟩ := hy.open_
  have h2 : w.cell? ⟨y, 0, none⟩ = some (.bool false) := (blk_cell hk2 0).trans rfl
  have HZ := Lib.hid hz
  have HX := Lib.hid hx
  have HY := Lib.hid hy
  clear hk2 hd hm2 hz hx hy
  go_enter Tryd.func73, Tryd.ntmps73
  go_wp2_with (first | (go_at_call 76; refine (sum_sub z x y base X Y _ HZ.out HX.out HY.out hb hX hY hle).mono ?_; rintro e w1 ⟨rfl, hp⟩; have HP := Lib.hid hp; clear hp))
  go_ret
  exact ⟨rfl, HP.out⟩
end Go.Proofs.YtmedcpdjhgconaaDoor

/-! ### The program's big numbers: how many bits they have. -/
namespace Go.Proofs.YtmedcpdjhgconaaDoor
set_option linter.unusedVariables false
open Go.RowKit Go.Proofs.YtmedcpdjhgconaaDoorW.PrintWords Go.Proofs.YtmedcpdjhgconaaDoorW.PrintLast Go.Proofs.YtmedcpdjhgconaaDoorW.PrintMore Go.Proofs.YtmedcpdjhgconaaDoor.PFnExactFloatOf Go.Proofs.YtmedcpdjhgconaaDoor.Pure

/-- The program's table of bit lengths. -/
def tab8 : ByteArray := { data := (([0, 1, 2, 2, 3, 3, 3, 3, 4, 4, 4, 4, 4, 4, 4, 4, 5, 5, 5, 5, 5, 5, 5, 5, 5, 5, 5, 5, 5, 5, 5, 5, 6, 6, 6, 6, 6, 6, 6, 6, 6, 6, 6, 6, 6, 6, 6, 6, 6, 6, 6, 6, 6, 6, 6, 6, 6, 6, 6, 6, 6, 6, 6, 6].append [7, 7, 7, 7, 7, 7, 7, 7, 7, 7, 7, 7, 7, 7, 7, 7, 7, 7, 7, 7, 7, 7, 7, 7, 7, 7, 7, 7, 7, 7, 7, 7, 7, 7, 7, 7, 7, 7, 7, 7, 7, 7, 7, 7, 7, 7, 7, 7, 7, 7, 7, 7, 7, 7, 7, 7, 7, 7, 7, 7, 7, 7, 7, 7]).append ([8, 8, 8, 8, 8, 8, 8, 8, 8, 8, 8, 8, 8, 8, 8, 8, 8, 8, 8, 8, 8, 8, 8, 8, 8, 8, 8, 8, 8, 8, 8, 8, 8, 8, 8, 8, 8, 8, 8, 8, 8, 8, 8, 8, 8, 8, 8, 8, 8, 8, 8, 8, 8, 8, 8, 8, 8, 8, 8, 8, 8, 8, 8, 8].append [8, 8, 8, 8, 8, 8, 8, 8, 8, 8, 8, 8, 8, 8, 8, 8, 8, 8, 8, 8, 8, 8, 8, 8, 8, 8, 8, 8, 8, 8, 8, 8, 8, 8, 8, 8, 8, 8, 8, 8, 8, 8, 8, 8, 8, 8, 8, 8, 8, 8, 8, 8, 8, 8, 8, 8, 8, 8, 8, 8, 8, 8, 8, 8])).toArray }

/-- How many bits. -/
def bitN (D : Nat) : Nat := if D = 0 then 0 else D.log2 + 1

set_option maxRecDepth 100000 in
theorem tab_facts : tab8.size = 256 ∧ ∀ j : Nat, j < 256 → bt tab8 (j : Int) = ((bitN j : Nat) : Int) := by decide +kernel

theorem bit_up {D s : Nat} (h : 0 < D / 2 ^ s) : bitN D = bitN (D / 2 ^ s) + s := by
  have h0 : D ≠ 0 := by intro h0; subst h0; simp at h
  have h1 : D / 2 ^ s ≠ 0 := by omega
  unfold bitN
  rw [if_neg h0, if_neg h1]
  have e1 := Nat.log2_self_le h1
  have e2 := Nat.lt_log2_self (n := D / 2 ^ s)
  have e3 := (Nat.le_div_iff_mul_le (Nat.two_pow_pos s)).1 e1
  have e4 := (Nat.div_lt_iff_lt_mul (Nat.two_pow_pos s)).1 e2
  rw [← Nat.pow_add] at e3 e4
  have := Fp.log2_of e3 (show D < 2 ^ ((D / 2 ^ s).log2 + s + 1) by rw [show (D / 2 ^ s).log2 + s + 1 = (D / 2 ^ s).log2 + 1 + s by omega]; exact e4)
  omega

theorem tab_get {tab : ByteArray} {j : Nat} (hb : bt tab (j : Int) = ((bitN j : Nat) : Int)) (h : j < tab.size) : ((tab[j]'h).toNat : Int) = ((bitN j : Nat) : Int) := by
  have e := bt_at tab (j : Int) (by rw [Int.toNat_natCast]; exact h)
  rw [hb] at e
  exact e

theorem bit_small {j : Nat} (h : j < 256) : bitN j ≤ 8 := by
  unfold bitN
  split
  · omega
  · have := Fp.log2_le (k := 7) h; omega

theorem len_end {tab : ByteArray} (n D : Nat) {j : Nat} (hb : bt tab (j : Int) = ((bitN j : Nat) : Int)) (hj : j < 256) (h : j < tab.size) (hn : n ≤ 24) (hD : bitN D = bitN j + n) : wrap64 ((n : Int) + wrap64 ((tab[j]'h).toNat : Int)) = ((bitN D : Nat) : Int) := by
  have hs := bit_small hj
  rw [tab_get hb h, w64 (e := ((bitN j : Nat) : Int)) (by omega) (by omega), w64 (by omega) (by omega)]
  omega

theorem len_end0 {tab : ByteArray} {j : Nat} (hb : bt tab (j : Int) = ((bitN j : Nat) : Int)) (hj : j < 256) (h : j < tab.size) : wrap64 (wrap64 ((tab[j]'h).toNat : Int)) = ((bitN j : Nat) : Int) := by
  have hs := bit_small hj
  rw [tab_get hb h, w64 (e := ((bitN j : Nat) : Int)) (by omega) (by omega), w64 (by omega) (by omega)]

set_option maxRecDepth 100000 in
set_option maxHeartbeats 1000000 in
theorem len32_calls (D : Nat) (h0 : D < 4294967296) (w : World) : Calls Tryd.prog 69 #[.int .u32 (D : Int)] w fun e w' => e = .returned (.int .i64 ((bitN D : Nat) : Int)) ∧ w = w' := by
  obtain ⟨hsz, hat⟩ := tab_facts
  go_enter Tryd.func69, Tryd.ntmps69
  rw [show ({ data := (([0, 1, 2, 2, 3, 3, 3, 3, 4, 4, 4, 4, 4, 4, 4, 4, 5, 5, 5, 5, 5, 5, 5, 5, 5, 5, 5, 5, 5, 5, 5, 5, 6, 6, 6, 6, 6, 6, 6, 6, 6, 6, 6, 6, 6, 6, 6, 6, 6, 6, 6, 6, 6, 6, 6, 6, 6, 6, 6, 6, 6, 6, 6, 6].append [7, 7, 7, 7, 7, 7, 7, 7, 7, 7, 7, 7, 7, 7, 7, 7, 7, 7, 7, 7, 7, 7, 7, 7, 7, 7, 7, 7, 7, 7, 7, 7, 7, 7, 7, 7, 7, 7, 7, 7, 7, 7, 7, 7, 7, 7, 7, 7, 7, 7, 7, 7, 7, 7, 7, 7, 7, 7, 7, 7, 7, 7, 7, 7]).append ([8, 8, 8, 8, 8, 8, 8, 8, 8, 8, 8, 8, 8, 8, 8, 8, 8, 8, 8, 8, 8, 8, 8, 8, 8, 8, 8, 8, 8, 8, 8, 8, 8, 8, 8, 8, 8, 8, 8, 8, 8, 8, 8, 8, 8, 8, 8, 8, 8, 8, 8, 8, 8, 8, 8, 8, 8, 8, 8, 8, 8, 8, 8, 8].append [8, 8, 8, 8, 8, 8, 8, 8, 8, 8, 8, 8, 8, 8, 8, 8, 8, 8, 8, 8, 8, 8, 8, 8, 8, 8, 8, 8, 8, 8, 8, 8, 8, 8, 8, 8, 8, 8, 8, 8, 8, 8, 8, 8, 8, 8, 8, 8, 8, 8, 8, 8, 8, 8, 8, 8, 8, 8, 8, 8, 8, 8, 8, 8])).toArray } : ByteArray) = tab8 from rfl]
  generalize tab8 = tab at *
  have HAT := Lib.hid hat
  have HSZ := Lib.hid hsz
  clear hat hsz
  by_cases c1 : D < 65536
  · have e : decide (65536 ≤ (D : Int)) = false := by simp; omega
    go_upto_if 4 with (fail)
    by_cases c2 : D < 256
    · have e : decide (256 ≤ (D : Int)) = false := by simp; omega
      go_upto_if 8 with (fail)
      go_wp2_with fail
      · go_ret
        exact ⟨congrArg (fun x => Ending.returned (Value.int .i64 x)) (len_end0 (HAT.out D c2) c2 (by assumption)), rfl⟩
      · exact absurd HSZ.out (by omega)
    · have e : decide (256 ≤ (D : Int)) = true := by simp; omega
      have hu := bit_up (D := D) (s := 8) (by omega)
      have hd : D / 2 ^ 8 < 256 := by omega
      have HU := Lib.hid hu
      clear hu
      go_upto_if 8 with (fail)
      go_wp2_with fail
      · go_ret
        exact ⟨congrArg (fun x => Ending.returned (Value.int .i64 x)) (len_end 8 D (HAT.out (D / 256) hd) hd (by omega) (by omega) HU.out), rfl⟩
      · exact absurd HSZ.out (by omega)
  · have e : decide (65536 ≤ (D : Int)) = true := by simp; omega
    have hu := bit_up (D := D) (s := 16) (by omega)
    have HU := Lib.hid hu
    clear hu
    go_upto_if 4 with (fail)
    by_cases c2 : D / 65536 < 256
    · have e : decide (256 ≤ (D : Int) / 65536) = false := by simp; omega
      go_upto_if 8 with (fail)
      go_wp2_with fail
      · go_ret
        exact ⟨congrArg (fun x => Ending.returned (Value.int .i64 x)) (len_end 16 D (HAT.out (D / 65536) c2) c2 (by omega) (by omega) HU.out), rfl⟩
      · exact absurd HSZ.out (by omega)
    · have e : decide (256 ≤ (D : Int) / 65536) = true := by simp; omega
      go_upto_if 8 with (fail)
      go_wp2_with fail
      · go_ret
        exact ⟨congrArg (fun x => Ending.returned (Value.int .i64 x)) (len_end 24 D (HAT.out (D / 65536 / 256) (by omega)) (by omega) (by omega) (by omega) (by have h1 := HU.out; have h2 := bit_up (D := D / 65536) (s := 8) (by omega); have e1 : D / 2 ^ 16 = D / 65536 := rfl; have e2 : D / 65536 / 2 ^ 8 = D / 65536 / 256 := rfl; rw [e1] at h1; rw [e2] at h2; omega)), rfl⟩
      · exact absurd HSZ.out (by omega)

/-- The highest digit. -/
theorem top_bits {X : Nat} (h0 : X ≠ 0) : bitN X = 32 * (lw X - 1) + bitN (X / 4294967296 ^ (lw X - 1) % 4294967296) ∧ X / 4294967296 ^ (lw X - 1) % 4294967296 < 4294967296 := by
  have h1 := lw_lo h0
  have h2 := lt_lw X
  have h3 : 1 ≤ X / 4294967296 ^ (lw X - 1) := (Nat.le_div_iff_mul_le (W_pos _)).2 (by omega)
  have h4 : X / 4294967296 ^ (lw X - 1) < 4294967296 := by
    rw [Nat.div_lt_iff_lt_mul (W_pos _), Nat.mul_comm, ← Nat.pow_succ]
    have := lw_pos h0
    rw [show (lw X - 1).succ = lw X by omega]
    exact h2
  rw [Nat.mod_eq_of_lt h4]
  refine ⟨?_, h4⟩
  have := bit_up (D := X) (s := 32 * (lw X - 1)) (by rw [← W_pow]; omega)
  rw [← W_pow] at this
  omega

set_option maxRecDepth 100000 in
set_option maxHeartbeats 1000000 in
theorem bitlen_calls (x X : Nat) (neg : Bool) (w : World) (hx : Big w x neg X) (hl : lw X ≤ 1000000) :
    Calls Tryd.prog 51 #[.pointer (some ⟨x, 0, none⟩)] w fun e w' => e = .returned (.int .i64 ((bitN X : Nat) : Int)) ∧ w = w' := by
  obtain ⟨A, c, hk, hc, hm⟩ := hx.open_
  have h1 : w.cell? ⟨x, 1, none⟩ = some (.slice A (lw X) c) := (blk_cell hk 1).trans rfl
  by_cases h0 : X = 0
  · subst h0
    have h2 : lw 0 = 0 := rfl
    rw [h2] at h1
    clear hk hc hm h2
    go_enter Tryd.func51, Tryd.ntmps51
    go_wp2_with fail
    go_ret
    exact ⟨rfl, rfl⟩
  · obtain ⟨hb, hlt⟩ := top_bits h0
    obtain ⟨n, hn⟩ : ∃ n, lw X = n + 1 := ⟨lw X - 1, by have := lw_pos h0; omega⟩
    obtain ⟨ad, hA, hcell⟩ := hm.digit (n := lw X) (i := n) (by omega)
    subst hA
    rw [hn, Nat.add_sub_cancel] at hb hlt
    obtain ⟨D, hD⟩ : ∃ D, D = X / 4294967296 ^ n % 4294967296 := ⟨_, rfl⟩
    rw [← hD] at hb hlt hcell
    rw [hn] at h1
    have hnl : n ≤ 1000000 := by omega
    have HB := Lib.hid hb
    have hbl : bitN D ≤ 32 := by
      unfold bitN
      split
      · omega
      · have := Fp.log2_le (k := 31) (show D < 2 ^ 32 by omega); omega
    have hz : (((n + 1 : Nat) : Int) == 0) = false := by simp; omega
    clear hk hc hm hb hD hn h0
    go_enter Tryd.func51, Tryd.ntmps51
    go_wp2_with (first | (go_at_call 69; refine (len32_calls D hlt _).mono ?_; rintro e w1 ⟨rfl, rfl⟩))
    go_ret
    exact ⟨congrArg (fun x => Ending.returned (Value.int .i64 x)) (show (32 * (n : Int) + ((bitN D : Nat) : Int)) = ((bitN X : Nat) : Int) by rw [HB.out]; omega), rfl⟩

theorem or_u64 (a b : Nat) (ha : a < 18446744073709551616) (hb : b < 18446744073709551616) : Go.bits .or .u64 (a : Int) (b : Int) = ((a ||| b : Nat) : Int) := by
  show IntKind.u64.wrap ((BitVec.ofInt 64 (a : Int) ||| BitVec.ofInt 64 (b : Int)).toNat : Int) = _
  have h := Nat.or_lt_two_pow (n := 64) (x := a) (y := b) (by omega) (by omega)
  rw [BitVec.toNat_or, BitVec.toNat_ofInt, BitVec.toNat_ofInt, show ((a : Int) % ((2 ^ 64 : Nat) : Int)).toNat = a by omega, show ((b : Int) % ((2 ^ 64 : Nat) : Int)).toNat = b by omega, IntKind.wrap_u64]
  omega

theorem or_next {X i : Nat} (hi : i < 2) : (X % 4294967296 ^ i) ||| (X / 4294967296 ^ i % 4294967296 * 2 ^ (32 * i)) = X % 4294967296 ^ (i + 1) ∧ X / 4294967296 ^ i % 4294967296 * 2 ^ (32 * i) < 18446744073709551616 ∧ X % 4294967296 ^ i < 18446744073709551616 := by
  have h := Nat.two_pow_add_eq_or_of_lt (i := 32 * i) (b := X % 4294967296 ^ i) (by rw [← W_pow]; exact Nat.mod_lt _ (W_pos i)) (X / 4294967296 ^ i % 4294967296)
  have hd := dwt_lt X i
  refine ⟨?_, ?_, ?_⟩
  · rw [mod_next, ← W_pow, Nat.or_comm]
    rw [← W_pow] at h
    rw [Nat.mul_comm (X / 4294967296 ^ i % 4294967296), ← h, Nat.add_comm]
  · rw [← W_pow]
    have h1 : 4294967296 ^ i ≤ 4294967296 ^ 1 := Nat.pow_le_pow_right (by decide) (by omega)
    rw [Nat.pow_one] at h1
    have := Nat.mul_le_mul (show X / 4294967296 ^ i % 4294967296 ≤ 4294967295 by omega) h1
    omega
  · have h1 : 4294967296 ^ i ≤ 4294967296 ^ 1 := Nat.pow_le_pow_right (by decide) (by omega)
    have := Nat.mod_lt X (W_pos i)
    omega

set_option maxRecDepth 100000 in
set_option maxHeartbeats 1000000 in
theorem int64_calls (x X : Nat) (w : World) (hx : Big w x false X) (hl : X < 9223372036854775808) :
    Calls Tryd.prog 60 #[.pointer (some ⟨x, 0, none⟩)] w fun e w' => e = .returned (.int .i64 (X : Int)) ∧ w = w' := by
  obtain ⟨A, c, hk, hc, hm⟩ := hx.open_
  have h0 : w.cell? ⟨x, 0, none⟩ = some (.bool false) := (blk_cell hk 0).trans rfl
  have h1 : w.cell? ⟨x, 1, none⟩ = some (.slice A (lw X) c) := (blk_cell hk 1).trans rfl
  have hn : lw X ≤ 2 := lw_le (by have : (4294967296 : Nat) ^ 2 = 18446744073709551616 := by decide
                                  omega)
  have HM := Lib.hid hm
  have HX := Lib.hid (lt_lw X)
  have HL := Lib.hid hl
  clear hk hc hm hl
  go_enter Tryd.func60, Tryd.ntmps60
  go_wp2
  go_loopg [3, 4, 5, 11] (lw X) (fun kq v3 v4 v5 v11 w' => ∃ i : Nat, kq + i = lw X ∧ v11 = .int .i64 (i : Int) ∧ v3 = .int .u64 ((X % 4294967296 ^ i : Nat) : Int) ∧ w = w')
  case atStart => exact ⟨0, rfl, rfl, by rw [Nat.pow_zero, Nat.mod_one]; rfl, rfl⟩
  case round =>
    obtain ⟨i, hi, rfl, rfl, rfl⟩ := hrel
    cases gk with
    | zero =>
      have him : i = lw X := by omega
      subst him
      have hX := HX.out
      rw [Nat.mod_eq_of_lt hX]
      have hl := HL.out
      clear hX hi
      go_wp2_with fail
      go_ret
      exact ⟨rfl, rfl⟩
    | succ gk =>
      obtain ⟨ad, hA, hcell⟩ := HM.out.digit (n := lw X) (i := i) (by omega)
      subst hA
      obtain ⟨ho, hs, hs2⟩ := or_next (X := X) (i := i) (by omega)
      have hd := dwt_lt X i
      have HO := Lib.hid ho
      have hi2 : i < 2 := by omega
      obtain ⟨D, hD⟩ : ∃ D, D = X / 4294967296 ^ i % 4294967296 := ⟨_, rfl⟩
      obtain ⟨U, hU⟩ : ∃ D, D = X % 4294967296 ^ i := ⟨_, rfl⟩
      rw [← hD] at hcell hd hs
      rw [← hU] at hs2 ⊢
      have HD := Lib.hid hD
      have HU := Lib.hid hU
      have HS := Lib.hid hs
      clear ho hD hU hs
      go_wp2_with fail
      go_roundg gk
      case measure => omega
      case rel =>
        have e : bits BinOp.or IntKind.u64 (U : Int) (IntKind.u64.wrap ((D : Int) * 2 ^ (32 * i))) = ((X % 4294967296 ^ (i + 1) : Nat) : Int) := by
          have h9 : ((D * 2 ^ (32 * i) : Nat) : Int) = (D : Int) * 2 ^ (32 * i) := by push_cast; rfl
          have hs := HS.out
          have h8 : IntKind.u64.wrap ((D * 2 ^ (32 * i) : Nat) : Int) = ((D * 2 ^ (32 * i) : Nat) : Int) := by
            rw [IntKind.wrap_u64]
            generalize D * 2 ^ (32 * i) = Y at *
            omega
          rw [← h9, h8, or_u64 _ _ hs2 hs, HU.out, HD.out, HO.out]
        rw [e]
        exact ⟨i + 1, by omega, by push_cast; rfl, rfl, rfl⟩
end Go.Proofs.YtmedcpdjhgconaaDoor

/-! ### The program's big numbers: a number divided by a power of two, rounded down. -/
namespace Go.Proofs.YtmedcpdjhgconaaDoor
set_option linter.unusedVariables false
open Go.RowKit Go.Proofs.YtmedcpdjhgconaaDoorW.PrintWords Go.Proofs.YtmedcpdjhgconaaDoorW.PrintLast Go.Proofs.YtmedcpdjhgconaaDoorW.PrintMore Go.Proofs.YtmedcpdjhgconaaDoor.PFnExactFloatOf Go.Proofs.YtmedcpdjhgconaaDoor.Pure

theorem own_empty (w : World) (e : TypeId) (cs : Array Value) (hcs : cs = #[]) : (w.alloc (.cells cs e)).ownsRow w.heap.size e 1 (.slice (some ⟨w.heap.size, 0, none⟩) 0 0) (ds 0 0).length (nums .u32 (ds 0 0)) := by
  subst hcs
  exact ⟨rfl, .inr ⟨w.heap.size, 0, #[], rfl, Nat.le_refl _, blk_new w _, Nat.le_refl _, by decide, rfl, rfl⟩⟩

theorem ds_snoc (j Y : Nat) : ds j Y ++ [dwt Y j] = ds (j + 1) Y := lst_snoc j (dwt Y)

theorem down_val {X k i j D E : Nat} (hi : i = k / 32 + j) (hD : D = X / 4294967296 ^ i % 4294967296) (hE : E = X / 4294967296 ^ (i + 1) % 4294967296) :
    bits BinOp.or IntKind.u64 (D : Int) ((E : Int) * 4294967296) / 2 ^ (k % 32) % 4294967296 = dwt (X / 2 ^ k) j := by
  have h := down_digit X (k / 32) (k % 32) j (Nat.mod_lt _ (by decide))
  rw [← hi, ← hD, ← hE, show 32 * (k / 32) + k % 32 = k by omega] at h
  have hDl : D < 4294967296 := by rw [hD]; exact Nat.mod_lt _ (by decide)
  have hEl : E < 4294967296 := by rw [hE]; exact Nat.mod_lt _ (by decide)
  have ho : D ||| E * 4294967296 = D + 4294967296 * E := by
    have h1 := Nat.two_pow_add_eq_or_of_lt (i := 32) (b := D) (by omega) E
    rw [show (2 : Nat) ^ 32 = 4294967296 by decide] at h1
    rw [Nat.or_comm, Nat.mul_comm E, ← h1, Nat.add_comm]
  have e : ((E : Int) * 4294967296) = ((E * 4294967296 : Nat) : Int) := by rw [Int.natCast_mul]; rfl
  rw [e, or_u64 _ _ (by omega) (by omega), ho]
  unfold dwt
  rw [← h, Int.natCast_emod, Int.natCast_ediv, Int.natCast_pow]
  rfl

theorem down_val0 {X k i j D : Nat} (hi : i = k / 32 + j) (hD : D = X / 4294967296 ^ i % 4294967296) (hX : X < 4294967296 ^ (i + 1)) :
    (D : Int) / 2 ^ (k % 32) % 4294967296 = dwt (X / 2 ^ k) j := by
  have h := down_digit X (k / 32) (k % 32) j (Nat.mod_lt _ (by decide))
  rw [← hi, ← hD, Nat.div_eq_of_lt hX, show 32 * (k / 32) + k % 32 = k by omega, Nat.zero_mod, Nat.mul_zero, Nat.add_zero] at h
  unfold dwt
  rw [← h, Int.natCast_emod, Int.natCast_ediv, Int.natCast_pow]
  rfl

theorem info103' : (Tryd.prog.info? 103).map (fun i => (i.zero, i.size, i.bytes)) = some (some (.int .u32 0), 1, 4) := by kernel_rfl

theorem own_mag {w : World} {base n X : Nat} {v : Value} (h : w.ownsRow base 103 1 v (ds n X).length (nums .u32 (ds n X))) : ∃ A c, v = .slice A n c ∧ n ≤ c ∧ Mag w A (ds n X) := by
  have h0 := h
  obtain ⟨A, c, hv, hr⟩ := own_reads h
  rw [ds_length] at hv
  refine ⟨A, c, hv, ?_, Kd.C_of_reads (d := (0 : Int)) ?_, ?_⟩
  · rcases h0.2 with ⟨h1, h2⟩ | ⟨g, cap, cur, h1, _, _, h2, _⟩
    · rw [h1] at hv; cases hv; omega
    · rw [h1] at hv
      rw [ds_length] at h2
      injection hv with _ _ hv
      omega
  · rw [ds_length] at hr ⊢
    exact hr
  · intro ad he
    subst he
    rcases h0.2 with ⟨h1, _⟩ | ⟨g, cap, cur, h1, _, h2, _⟩
    · rw [h1] at hv; cases hv
    · rw [h1] at hv
      injection hv with hv
      injection hv with hv
      subst hv
      exact ⟨_, h2⟩

set_option maxRecDepth 100000 in
set_option maxHeartbeats 1000000 in
theorem rsh_calls (z x base X k : Nat) (w : World) (hz : IsBig w z) (hx : Big w x false X) (hb : base ≤ z) (hl : lw X ≤ 900000) (hk : k ≤ 900000) :
    Calls Tryd.prog 81 #[.pointer (some ⟨z, 0, none⟩), .pointer (some ⟨x, 0, none⟩), .int .u64 (k : Int)] w (Puts base z false (X / 2 ^ k) w) := by
  obtain ⟨A, c, hkk, hc, hm⟩ := hx.open_
  have h0 : w.cell? ⟨x, 0, none⟩ = some (.bool false) := (blk_cell hkk 0).trans rfl
  have h1 : w.cell? ⟨x, 1, none⟩ = some (.slice A (lw X) c) := (blk_cell hkk 1).trans rfl
  have HM := Lib.hid hm
  have HZ := Lib.hid hz
  have hxl := hx.lt
  have hzl := hz.lt
  have HLT := Lib.hid (down_lt (X := X) (k := k))
  clear hkk hc hm hx hz
  have HO := Lib.hid (own_empty w 103 #[] rfl)
  have HB0 := Lib.hid (below_alloc (Below.refl w.heap.size w) (.cells #[] 103))
  go_enter Tryd.func81, Tryd.ntmps81
  go_wp2_with fail
  go_loopg [8, 10, 11] (lw X - k / 32) (fun kq v8 v10 v11 w' => ∃ j i : Nat, Hid (kq + j = lw X - k / 32) ∧ Hid (i = k / 32 + j) ∧ v10 = .int .i64 (i : Int) ∧ Hid (w'.ownsRow w.heap.size 103 1 v8 (ds j (X / 2 ^ k)).length (nums .u32 (ds j (X / 2 ^ k)))) ∧ Hid (Below w.heap.size w w'))
  case atStart =>
    refine ⟨0, k / 32, Lib.hid rfl, Lib.hid rfl, rfl, Lib.hid ?_, HB0⟩
    exact HO.out
  case round =>
    obtain ⟨j, i, HJ, HI, rfl, HOW, HB⟩ := hrel
    have hx0 : wr.cell? ⟨x, 0, none⟩ = some (.bool false) := (HB.out.cell (p := ⟨x, 0, none⟩) hxl).trans h0
    have hx1 : wr.cell? ⟨x, 1, none⟩ = some (.slice A (lw X) c) := (HB.out.cell (p := ⟨x, 1, none⟩) hxl).trans h1
    cases gk with
    | zero =>
      obtain ⟨R, cR, rfl, hcR, hR⟩ := own_mag HOW.out
      have HR := Lib.hid hR
      have hd : decide ((i : Int) < (lw X : Int)) = false := by have := HJ.out; have := HI.out; simp; omega
      have hd' : decide (i < lw X) = false := by have := HJ.out; have := HI.out; simp; omega
      have HL : Hid (X / 2 ^ k < 4294967296 ^ j) := Lib.hid (by rw [show j = lw X - k / 32 by have := HJ.out; omega]; exact HLT.out)
      have hjb : j ≤ 900000 := by have := HJ.out; omega
      clear hR HOW
      go_wp2_with (first | (go_at_call 70; refine (put_calls z base false R cR j (X / 2 ^ k) _ (HZ.out.below HB.out) hb (by omega) HL.out HR.out hcR).mono ?_; rintro e w1 ⟨rfl, hp⟩; have HP := Lib.hid hp; clear hp))
      go_ret
      exact Puts.from ⟨rfl, HP.out⟩ (by omega) HB.out
    | succ gk =>
      have hil : i < lw X := by have := HJ.out; have := HI.out; omega
      obtain ⟨ad, hA, hcell⟩ := (HM.out.below HB.out).digit (n := lw X) (i := i) hil
      subst hA
      have hjb : j ≤ 900000 := by have := HJ.out; omega
      have hDl := dwt_lt X i
      obtain ⟨D, hD⟩ : ∃ D, D = X / 4294967296 ^ i % 4294967296 := ⟨_, rfl⟩
      rw [← hD] at hcell hDl
      have HDD := Lib.hid hD
      clear hD
      by_cases hnx : i + 1 < lw X
      · obtain ⟨ad', hA', hcell2⟩ := (HM.out.below HB.out).digit (n := lw X) (i := i + 1) hnx
        cases hA'
        rw [Addr.add_succ'] at hcell2
        have hEl := dwt_lt X (i + 1)
        obtain ⟨E, hE⟩ : ∃ D, D = X / 4294967296 ^ (i + 1) % 4294967296 := ⟨_, rfl⟩
        rw [← hE] at hcell2 hEl
        have HEE := Lib.hid hE
        clear hE
        go_wp2_with (first | (at_builtin; refine print_append_num (w0 := w) w.heap.size rfl (.tmp 65) (.tmp 71) 83 103 .u32 4 rfl Tryd.underlying83 info103' (by decide) _ (ds j (X / 2 ^ k)) _ (by rfl) (by rfl) HOW.out HB.out HB.out.size (by rw [ds_length]; omega) ?_; intro v1 w1 ho hB1 hg hat; have HO1 := Lib.hid ho; have HB1 := Lib.hid hB1; clear ho hB1 hg hat))
        go_roundg gk
        case measure => omega
        case rel =>
          have ho := HO1.out
          rw [down_val HI.out HDD.out HEE.out, ds_snoc] at ho
          exact ⟨j + 1, i + 1, Lib.hid (by have := HJ.out; omega), Lib.hid (by have := HI.out; omega), by push_cast; rfl, Lib.hid ho, HB1⟩
      · go_wp2_with (first | (at_builtin; refine print_append_num (w0 := w) w.heap.size rfl (.tmp 65) (.tmp 71) 83 103 .u32 4 rfl Tryd.underlying83 info103' (by decide) _ (ds j (X / 2 ^ k)) _ (by rfl) (by rfl) HOW.out HB.out HB.out.size (by rw [ds_length]; omega) ?_; intro v1 w1 ho hB1 hg hat; have HO1 := Lib.hid ho; have HB1 := Lib.hid hB1; clear ho hB1 hg hat))
        go_roundg gk
        case measure => omega
        case rel =>
          have ho := HO1.out
          rw [down_val0 HI.out HDD.out (Nat.lt_of_lt_of_le (lt_lw X) (Nat.pow_le_pow_right (by decide) (by omega))), ds_snoc] at ho
          exact ⟨j + 1, i + 1, Lib.hid (by have := HJ.out; omega), Lib.hid (by have := HI.out; omega), by push_cast; rfl, Lib.hid ho, HB1⟩
end Go.Proofs.YtmedcpdjhgconaaDoor

/-! ### The program's big numbers: shifted by any count; the lowest bit; values brought to one power, subtracted, compared. -/
namespace Go.Proofs.YtmedcpdjhgconaaDoor
set_option linter.unusedVariables false
open Go.RowKit Go.Proofs.YtmedcpdjhgconaaDoorW.PrintWords Go.Proofs.YtmedcpdjhgconaaDoorW.PrintLast Go.Proofs.YtmedcpdjhgconaaDoorW.PrintMore Go.Proofs.YtmedcpdjhgconaaDoor.PFnExactFloatOf Go.Proofs.YtmedcpdjhgconaaDoor.Pure

/-- A number times 2^k, rounded down. -/
def shiftN (X : Nat) (k : Int) : Nat := if 0 ≤ k then X * 2 ^ k.toNat else X / 2 ^ (-k).toNat

theorem shifted_down (x X k : Nat) (h0 : 0 < k) (w : World) (hx : Big w x false X) (hl : lw X ≤ 100000) (hk : k ≤ 100000) :
    Calls Tryd.prog 71 #[.pointer (some ⟨x, 0, none⟩), .int .i64 (-(k : Int))] w (Makes false (X / 2 ^ k) w) := by
  have HX := Lib.hid (hx.below (below_alloc (Below.refl w.heap.size w) (.cells #[.bool false, .slice none 0 0] 85)))
  have HZ := Lib.hid (big_zero w)
  clear hx
  go_enter Tryd.func71, Tryd.ntmps71
  go_wp2_with (first | (go_at_call 81; refine (rsh_calls w.heap.size x w.heap.size X k _ HZ.out HX.out (Nat.le_refl _) (by omega) (by omega)).mono ?_; rintro e w1 ⟨rfl, hp⟩; have HP := Lib.hid hp; clear hp))
  go_ret
  exact Puts.makes ⟨rfl, HP.out⟩

theorem shifted_any (x X : Nat) (k : Int) (w : World) (hx : Big w x false X) (hl : lw X ≤ 100000) (hk : k ≤ 100000) (hk' : -100000 ≤ k) :
    Calls Tryd.prog 71 #[.pointer (some ⟨x, 0, none⟩), .int .i64 k] w (Makes false (shiftN X k) w) := by
  unfold shiftN
  by_cases h : 0 ≤ k
  · rw [if_pos h]
    obtain ⟨n, rfl⟩ : ∃ n : Nat, k = n := ⟨k.toNat, by omega⟩
    exact shifted_up x X n false w hx hl (by omega)
  · rw [if_neg h]
    obtain ⟨n, rfl⟩ : ∃ n : Nat, k = -(n : Int) := ⟨(-k).toNat, by omega⟩
    rw [show (- -(n : Int)).toNat = n by omega]
    exact shifted_down x X n (by omega) w hx hl (by omega)

theorem bit0_any (x X : Nat) (neg : Bool) (w : World) (hx : Big w x neg X) :
    Calls Tryd.prog 57 #[.pointer (some ⟨x, 0, none⟩), .int .i64 0] w fun e w' => e = .returned (.int .u64 ((X % 2 : Nat) : Int)) ∧ w = w' := by
  by_cases h0 : X = 0
  · subst h0
    obtain ⟨A, c, hk, hc, hm⟩ := hx.open_
    have h1 : w.cell? ⟨x, 1, none⟩ = some (.slice A 0 c) := (blk_cell hk 1).trans rfl
    clear hk hc hm
    go_enter Tryd.func57, Tryd.ntmps57
    go_wp2_with fail
    go_ret
    exact ⟨rfl, rfl⟩
  · exact bit0_calls x X neg w hx h0

theorem floor_calls (x X : Nat) (P k : Int) (w : World) (hx : Big w x false X) (hl : lw X ≤ 100000) (h1 : P ≤ 50000) (h2 : -50000 ≤ P) (h3 : k ≤ 50000) (h4 : -50000 ≤ k) :
    Calls Tryd.prog 53 #[.agg #[.pointer (some ⟨x, 0, none⟩), .int .i64 P], .int .i64 k] w (Makes false (shiftN X (P + k)) w) := by
  have hB0 := below_alloc (Below.refl w.heap.size w) (.cells #[.pointer (some ⟨x, 0, none⟩), .int .i64 P] 61)
  have HB := Lib.hid hB0
  have HX := Lib.hid (hx.below hB0)
  clear hx hB0
  go_enter Tryd.func53, Tryd.ntmps53
  go_wp2_with (first | (go_at_call 71; refine (shifted_any x X (P + k) _ HX.out hl (by omega) (by omega)).mono ?_; rintro e w1 ⟨z, rfl, hp⟩; have HP := Lib.hid hp; clear hp))
  go_ret
  obtain ⟨h5, h6, h7⟩ := HP.out
  exact ⟨z, rfl, h5, Nat.le_trans HB.out.size h6, HB.out.trans (h7.mono HB.out.size)⟩
end Go.Proofs.YtmedcpdjhgconaaDoor

/-! ### The program's values: brought to one power, subtracted, compared. -/
namespace Go.Proofs.YtmedcpdjhgconaaDoor
set_option linter.unusedVariables false
open Go.RowKit Go.Proofs.YtmedcpdjhgconaaDoorW.PrintWords Go.Proofs.YtmedcpdjhgconaaDoorW.PrintLast Go.Proofs.YtmedcpdjhgconaaDoorW.PrintMore Go.Proofs.YtmedcpdjhgconaaDoor.PFnExactFloatOf Go.Proofs.YtmedcpdjhgconaaDoor.Pure

set_option maxRecDepth 100000 in
set_option maxHeartbeats 1000000 in
theorem aligned_calls (x y X Y : Nat) (P Q : Int) (w : World) (hx : Big w x false X) (hy : Big w y false Y) (hX : lw X ≤ 100000) (hY : lw Y ≤ 100000) (h1 : P ≤ 50000) (h2 : -50000 ≤ P) (h3 : Q ≤ 50000) (h4 : -50000 ≤ Q) :
    Calls Tryd.prog 72 #[.agg #[.pointer (some ⟨x, 0, none⟩), .int .i64 P], .agg #[.pointer (some ⟨y, 0, none⟩), .int .i64 Q]] w fun e w' => ∃ u v, e = .returned (.tuple #[.pointer (some ⟨u, 0, none⟩), .pointer (some ⟨v, 0, none⟩), .int .i64 (min P Q)]) ∧ Big w' u false (shiftN X (P - min P Q)) ∧ Big w' v false (shiftN Y (Q - min P Q)) ∧ w.heap.size ≤ u ∧ w.heap.size ≤ v ∧ u ≠ v ∧ Below w.heap.size w w' := by
  have HX := Lib.hid hx
  have HY := Lib.hid hy
  clear hx hy
  obtain ⟨m, hm⟩ : ∃ m, m = min P Q := ⟨_, rfl⟩
  have hm1 : m ≤ P := by omega
  have hm2 : m ≤ Q := by omega
  have hm3 : -50000 ≤ m := by omega
  have hmin : (if P < Q then P else Q) = m := by split <;> omega
  rw [← hm]
  have HMM := Lib.hid hmin
  clear hm hmin
  go_enter Tryd.func72, Tryd.ntmps72
  go_upto_region 1 with (fail)
  go_cut [7] (fun v7 wx => v7 = .int .i64 m ∧ Hid (wx.heap[w.heap.size]? = some (.cells #[.pointer (some ⟨x, 0, none⟩), .int .i64 P] 61 (0, 0))) ∧ Hid (wx.heap[w.heap.size + 1]? = some (.cells #[.pointer (some ⟨y, 0, none⟩), .int .i64 Q] 61 (0, 0))) ∧ Hid (Below w.heap.size w wx))
  case first =>
    go_wp2_with fail
    all_goals go_meet
    all_goals (have h9 := HMM.out; refine ⟨?_, Lib.hid (blk_alloc (blk_new w _) _), Lib.hid (by rw [show w.heap.size + 1 = (w.alloc (.cells #[.pointer (some ⟨x, 0, none⟩), .int .i64 P] 61)).heap.size by simp]; exact blk_new _ _), Lib.hid (below_alloc (below_alloc (Below.refl _ _) _) _)⟩; rw [← h9])
    · rw [if_neg (by omega)]
    · by_cases e : P < Q
      · rw [if_pos e]
      · rw [if_neg e, show P = Q by omega]
  case rest =>
    obtain ⟨rfl, HKA, HKB, HB⟩ := hcut
    have ha0 : wc.cell? ⟨w.heap.size, 0, none⟩ = some (.pointer (some ⟨x, 0, none⟩)) := (blk_cell HKA.out 0).trans rfl
    have ha1 : wc.cell? ⟨w.heap.size, 1, none⟩ = some (.int .i64 P) := (blk_cell HKA.out 1).trans rfl
    have hb0 : wc.cell? ⟨w.heap.size + 1, 0, none⟩ = some (.pointer (some ⟨y, 0, none⟩)) := (blk_cell HKB.out 0).trans rfl
    have hb1 : wc.cell? ⟨w.heap.size + 1, 1, none⟩ = some (.int .i64 Q) := (blk_cell HKB.out 1).trans rfl
    have hla := blk_lt HKA.out
    have hlb := blk_lt HKB.out
    go_wp2_with fail
    go_region_held3 (fun w' => w'.cell? ⟨w.heap.size, 0, none⟩ = some (.pointer (some ⟨x, 0, none⟩)) ∧ w'.cell? ⟨w.heap.size, 1, none⟩ = some (.int .i64 P) ∧ w'.cell? ⟨w.heap.size + 1, 0, none⟩ = some (.pointer (some ⟨y, 0, none⟩)) ∧ w'.cell? ⟨w.heap.size + 1, 1, none⟩ = some (.int .i64 Q)) (go_keep) (first | (go_at_call 71; have hgd := HU; clear hgd; rw [IntWalk.i64_in (Q - m) (by omega)]; refine (shifted_any y Y (Q - m) _ ((HY.out.below HB.out.drew).below HB3.out) hY (by omega) (by omega)).mono ?_; rintro e w4 ⟨v, rfl, hv, hvl, hB4⟩; have p0 := (hB4.cell (p := ⟨w.heap.size, 0, none⟩) (Nat.lt_of_lt_of_le hla HB3.out.size)).trans q0; have p1 := (hB4.cell (p := ⟨w.heap.size, 1, none⟩) (Nat.lt_of_lt_of_le hla HB3.out.size)).trans q1; have p2 := (hB4.cell (p := ⟨w.heap.size + 1, 0, none⟩) (Nat.lt_of_lt_of_le hlb HB3.out.size)).trans q2; have p3 := (hB4.cell (p := ⟨w.heap.size + 1, 1, none⟩) (Nat.lt_of_lt_of_le hlb HB3.out.size)).trans q3; have HV := Lib.hid hv; have HVL := Lib.hid hvl; have HB4 := Lib.hid hB4; clear hv hvl hB4) | (go_at_call 71; rw [IntWalk.i64_in (P - m) (by omega)]; refine (shifted_any x X (P - m) _ (HX.out.below HB.out.drew) hX (by omega) (by omega)).mono ?_; rintro e w3 ⟨u, rfl, hu, hul, hB3⟩; have q0 := (hB3.cell (p := ⟨w.heap.size, 0, none⟩) hla).trans ha0; have q1 := (hB3.cell (p := ⟨w.heap.size, 1, none⟩) hla).trans ha1; have q2 := (hB3.cell (p := ⟨w.heap.size + 1, 0, none⟩) hlb).trans hb0; have q3 := (hB3.cell (p := ⟨w.heap.size + 1, 1, none⟩) hlb).trans hb1; have HU := Lib.hid hu; have HUL := Lib.hid hul; have HB3 := Lib.hid hB3; clear hu hul hB3))
    go_wp2_with fail
    go_ret3
    have hz := HB.out.size
    have hz3 : wc.heap.size ≤ w3.heap.size := HB3.out.size
    have hul : wc.heap.size ≤ u := HUL.out
    have hvl := HVL.out
    refine ⟨u, v, rfl, HU.out.below HB4.out, HV.out, by omega, by omega, ?_, ?_⟩
    · have := HU.out.lt
      omega
    · exact (HB.out.drew.trans (HB3.out.mono hz)).trans (HB4.out.mono (by omega))

theorem lw_mono {X Y : Nat} (h : X ≤ Y) : lw X ≤ lw Y := lw_le (Nat.lt_of_le_of_lt h (lt_lw Y))

theorem lw_shift (X : Nat) (k : Int) : lw (shiftN X k) ≤ lw X + k.toNat := by
  unfold shiftN
  split
  · refine lw_le ?_
    rw [Nat.pow_add]
    have h1 : (2 : Nat) ^ k.toNat ≤ 4294967296 ^ k.toNat := Nat.pow_le_pow_left (by decide) _
    exact Nat.lt_of_lt_of_le (Nat.mul_lt_mul_of_pos_right (lt_lw X) (Nat.two_pow_pos _)) (Nat.mul_le_mul_left _ h1)
  · exact Nat.le_trans (lw_mono (Nat.div_le_self _ _)) (Nat.le_add_right _ _)

set_option maxRecDepth 100000 in
set_option maxHeartbeats 1000000 in
theorem compare_calls (x y X Y : Nat) (P Q : Int) (w : World) (hx : Big w x false X) (hy : Big w y false Y) (hX : lw X ≤ 100000) (hY : lw Y ≤ 100000) (h1 : P ≤ 50000) (h2 : -50000 ≤ P) (h3 : Q ≤ 50000) (h4 : -50000 ≤ Q) :
    Calls Tryd.prog 55 #[.agg #[.pointer (some ⟨x, 0, none⟩), .int .i64 P], .agg #[.pointer (some ⟨y, 0, none⟩), .int .i64 Q]] w fun e w' => e = .returned (.int .i64 (cmpN (shiftN X (P - min P Q)) (shiftN Y (Q - min P Q)))) ∧ Below w.heap.size w w' := by
  have hs1 := lw_shift X (P - min P Q)
  have hs2 := lw_shift Y (Q - min P Q)
  obtain ⟨m, hm⟩ : ∃ m, m = min P Q := ⟨_, rfl⟩
  have hb1 : lw (shiftN X (P - min P Q)) ≤ 900000 := by omega
  have hb2 : lw (shiftN Y (Q - min P Q)) ≤ 900000 := by omega
  have hB0 := below_alloc (below_alloc (Below.refl w.heap.size w) (.cells #[.pointer (some ⟨x, 0, none⟩), .int .i64 P] 61)) (.cells #[.pointer (some ⟨y, 0, none⟩), .int .i64 Q] 61)
  have HB := Lib.hid hB0
  have HX := Lib.hid (hx.below hB0)
  have HY := Lib.hid (hy.below hB0)
  have H1 := Lib.hid hb1
  have H2 := Lib.hid hb2
  clear hx hy hB0 hs1 hs2 hb1 hb2 hm m
  go_enter Tryd.func55, Tryd.ntmps55
  go_wp2_with (first | (go_at_call 72; refine (aligned_calls x y X Y P Q _ HX.out HY.out hX hY h1 h2 h3 h4).mono ?_; rintro e w1 ⟨u, v, rfl, hu, hv, hul, hvl, huv, hB1⟩; have HU := Lib.hid hu; have HV := Lib.hid hv; have HB1 := Lib.hid hB1; clear hu hv hul hvl huv hB1) | (go_at_call 74; refine (cmp_calls u v _ _ _ HU.out HV.out (Nat.le_trans H1.out (by decide)) (Nat.le_trans H2.out (by decide))).mono ?_; rintro e w2 ⟨rfl, hB2⟩; have HB2 := Lib.hid hB2; clear hB2))
  go_ret
  exact ⟨rfl, (HB.out.trans (HB1.out.mono HB.out.size)).trans (HB2.out.mono (Nat.le_trans HB.out.size HB1.out.size))⟩

theorem Big.set {w : World} {g X k j : Nat} {neg : Bool} {u : Value} (h : Big w g neg X) {cells : Array Value} {t : TypeId} (hk : w.heap[k]? = some (.cells cells t (0, 0))) (ht : t ≠ 103) (hne : g ≠ k) : Big (w.setCell ⟨k, j, none⟩ u) g neg X := by
  obtain ⟨A, c, h1, h2, h3⟩ := h
  refine ⟨A, c, (heap_setCell_other _ _ _ _ hne).trans h1, h2, h3.step fun ad cs _ hc => heap_setCell_other _ _ _ _ ?_⟩
  intro e
  rw [e, hk] at hc
  injection hc with hc
  injection hc with _ hc
  exact ht hc

/-- What a function answers that makes a value. -/
def MakesNum (X : Nat) (P : Int) (w : World) (e : Ending) (w' : World) : Prop := ∃ z, e = .returned (.agg #[.pointer (some ⟨z, 0, none⟩), .int .i64 P]) ∧ Big w' z false X ∧ w.heap.size ≤ z ∧ Below w.heap.size w w'

set_option maxRecDepth 100000 in
set_option maxHeartbeats 1000000 in
theorem minus_calls (x y X Y : Nat) (P Q : Int) (w : World) (hx : Big w x false X) (hy : Big w y false Y) (hX : lw X ≤ 100000) (hY : lw Y ≤ 100000) (h1 : P ≤ 50000) (h2 : -50000 ≤ P) (h3 : Q ≤ 50000) (h4 : -50000 ≤ Q) (hle : shiftN Y (Q - min P Q) ≤ shiftN X (P - min P Q)) :
    Calls Tryd.prog 54 #[.agg #[.pointer (some ⟨x, 0, none⟩), .int .i64 P], .agg #[.pointer (some ⟨y, 0, none⟩), .int .i64 Q]] w (MakesNum (shiftN X (P - min P Q) - shiftN Y (Q - min P Q)) (min P Q) w) := by
  have hs1 := lw_shift X (P - min P Q)
  have hs2 := lw_shift Y (Q - min P Q)
  have hb1 : lw (shiftN X (P - min P Q)) ≤ 900000 := by omega
  have hb2 : lw (shiftN Y (Q - min P Q)) ≤ 900000 := by omega
  have hB0 := below_alloc (below_alloc (below_alloc (Below.refl w.heap.size w) (.cells #[.pointer (some ⟨x, 0, none⟩), .int .i64 P] 61)) (.cells #[.pointer (some ⟨y, 0, none⟩), .int .i64 Q] 61)) (.cells #[.pointer none, .int .i64 0] 61)
  have HB := Lib.hid hB0
  have HX := Lib.hid (hx.below hB0)
  have HY := Lib.hid (hy.below hB0)
  have H1 := Lib.hid hb1
  have H2 := Lib.hid hb2
  have HLE := Lib.hid hle
  clear hx hy hB0 hs1 hs2 hb1 hb2 hle
  have hkc := (blk_new ((w.alloc (.cells #[.pointer (some ⟨x, 0, none⟩), .int .i64 P] 61)).alloc (.cells #[.pointer (some ⟨y, 0, none⟩), .int .i64 Q] 61)) (.cells #[.pointer none, .int .i64 0] 61))
  rw [show ((w.alloc (.cells #[.pointer (some ⟨x, 0, none⟩), .int .i64 P] 61)).alloc (.cells #[.pointer (some ⟨y, 0, none⟩), .int .i64 Q] 61)).heap.size = w.heap.size + 1 + 1 by simp] at hkc
  have HKC := Lib.hid hkc
  clear hkc
  go_enter Tryd.func54, Tryd.ntmps54
  go_wp2_with (first | (go_at_call 72; refine (aligned_calls x y X Y P Q _ HX.out HY.out hX hY h1 h2 h3 h4).mono ?_; rintro e w1 ⟨u, v, rfl, hu, hv, hul, hvl, huv, hB1⟩; have HU := Lib.hid hu; have HV := Lib.hid hv; have HUL := Lib.hid hul; have HB1 := Lib.hid hB1; clear hu hv hul hvl huv hB1) | (go_at_call 73; refine (sub_calls u u v _ _ _ _ HU.out.isBig HU.out HV.out HUL.out H1.out H2.out HLE.out).mono ?_; rintro e w2 ⟨rfl, hp, hB2, hK2⟩; have HP := Lib.hid hp; have HB2 := Lib.hid hB2; have HKD := Lib.hid ((hB2.block (w.heap.size + 1 + 1) (by simp)).trans (blk_below HKC.out HB1.out)); clear hp hB2 hK2; have c0 : w2.cell? ⟨w.heap.size + 1 + 1, 0, none⟩ = some (.pointer none) := (blk_cell HKD.out 0).trans rfl; have c1 : w2.cell? ⟨w.heap.size + 1 + 1, 1, none⟩ = some (.int .i64 0) := (blk_cell HKD.out 1).trans rfl; have f0 := blk_frozen HKD.out 0; have f1 := blk_frozen HKD.out 1))
  have k1 := blk_put HKD.out 0 (.pointer (some ⟨u, 0, none⟩)) rfl
  have k2 := blk_put k1 1 (.int .i64 (min P Q)) rfl
  have q0 := (blk_cell k2 0).trans rfl
  have q1 := (blk_cell k2 1).trans rfl
  have hsz : w.heap.size + 1 + 1 + 1 ≤ u := by have := HUL.out; simpa using this
  have hbb : Below w.heap.size w ((w2.setCell ⟨w.heap.size + 1 + 1, 0, none⟩ (.pointer (some ⟨u, 0, none⟩))).setCell ⟨w.heap.size + 1 + 1, 1, none⟩ (.int .i64 (min P Q))) := (((HB.out.trans (HB1.out.mono HB.out.size)).trans (HB2.out.mono (by simp; omega))).setCell (show w.heap.size ≤ w.heap.size + 1 + 1 by omega) _).setCell (show w.heap.size ≤ w.heap.size + 1 + 1 by omega) _
  have hbig : Big ((w2.setCell ⟨w.heap.size + 1 + 1, 0, none⟩ (.pointer (some ⟨u, 0, none⟩))).setCell ⟨w.heap.size + 1 + 1, 1, none⟩ (.int .i64 (min P Q))) u false (shiftN X (P - min P Q) - shiftN Y (Q - min P Q)) := (HP.out.set HKD.out (by decide) (by omega)).set k1 (by decide) (by omega)
  refine bodyPost_ret (v := .agg #[.pointer (some ⟨u, 0, none⟩), .int .i64 (min P Q)]) (by simp [results, Tryd.results54, go_sem, q0, q1]) rfl ⟨u, rfl, hbig, by omega, hbb⟩
end Go.Proofs.YtmedcpdjhgconaaDoor
