/- Plain facts on whole numbers in limbs: what the printed functions of the reference (make, of, length, left, compare, plus, add, cut, bit, twos, abs, and the odd part) answer at the limbs of a number. No memory, no Go. -/
import Derived.Test.YtmedcpdjhgconaaDoorPFnExactFloatOfx2
import Derived.Test.YtmedcpdjhgconaaDoorPFnExactFloatOfx3
import Derived.Test.YtmedcpdjhgconaaDoorPFnExactFloatOfx4
import Derived.Test.YtmedcpdjhgconaaDoorPFnExactFloatOfx5
namespace Go.Proofs.YtmedcpdjhgconaaDoor.Pure
open Go.RowKit Go.Proofs.YtmedcpdjhgconaaDoorW.PrintWords Go.Proofs.YtmedcpdjhgconaaDoorW.PrintLast Go.Proofs.YtmedcpdjhgconaaDoorW.PrintMore Go.Proofs.YtmedcpdjhgconaaDoor.PFnExactFloatOf
/-- A list of n numbers, each told by its place. -/
def lst (n : Nat) (f : Nat → Int) : List Int := (List.range n).map f

theorem lst_length (n : Nat) (f : Nat → Int) : (lst n f).length = n := by simp [lst]
theorem lst_get (n : Nat) (f : Nat → Int) {i : Nat} (h : i < n) : (lst n f)[i]? = some (f i) := by simp [lst, h]
theorem lst_ext {n : Nat} {f g : Nat → Int} (h : ∀ i, i < n → f i = g i) : lst n f = lst n g := by
  unfold lst; exact List.map_congr_left fun i hi => h i (List.mem_range.1 hi)
theorem lst_snoc (n : Nat) (f : Nat → Int) : lst n f ++ [f n] = lst (n + 1) f := by
  unfold lst; rw [List.range_succ, List.map_append]; rfl
theorem lst_take {n m : Nat} (f : Nat → Int) (h : m ≤ n) : (lst n f).take m = lst m f := by
  unfold lst; rw [← List.map_take, List.take_range, Nat.min_eq_left h]
theorem lst_zero (n : Nat) : List.replicate n (0 : Int) = lst n (fun _ => 0) := by
  unfold lst; apply List.ext_getElem?; intro i; by_cases h : i < n <;> simp [h]
theorem lst_set (n : Nat) (f : Nat → Int) (p : Nat) (v : Int) : (lst n f).set p v = lst n (fun i => if i = p then v else f i) := by
  apply List.ext_getElem?
  intro i
  by_cases hi : i < n
  · rw [lst_get n _ hi, List.getElem?_set]
    by_cases hp : p = i
    · subst hp; simp [lst_length, hi]
    · rw [if_neg hp, lst_get n _ hi, if_neg (by omega)]
  · rw [List.getElem?_eq_none (by simp [lst_length]; omega), List.getElem?_eq_none (by simp [lst_length]; omega)]
theorem rd_lst {n : Nat} (f : Nat → Int) {i : Nat} (h : i < n) : rd (lst n f) (i : Int) = f i := by
  unfold rd; rw [List.getD_eq_getElem?_getD, Int.toNat_natCast, lst_get n f h]; rfl

/-- The digit of X at place i. -/
def dgt (X i : Nat) : Int := ((X / 16777216 ^ i % 16777216 : Nat) : Int)
theorem dgt_range (X i : Nat) : 0 ≤ dgt X i ∧ dgt X i ≤ 16777215 := by
  unfold dgt; have := Nat.mod_lt (X / 16777216 ^ i) (show 0 < 16777216 by decide); omega

/-- The number of digits. -/
def ln (X : Nat) : Nat := if X = 0 then 0 else X.log2 / 24 + 1
/-- The limbs of X. -/
def dg (X : Nat) : List Int := lst (ln X) (dgt X)

theorem B_pow (i : Nat) : 16777216 ^ i = 2 ^ (24 * i) := by rw [Nat.pow_mul]
theorem B_pos (i : Nat) : 0 < 16777216 ^ i := Nat.pow_pos (by decide)

theorem lt_ln (X : Nat) : X < 16777216 ^ ln X := by
  unfold ln
  by_cases h : X = 0
  · subst h; simp
  · rw [if_neg h, B_pow]
    have h1 := Nat.lt_log2_self (n := X)
    have h2 := Nat.pow_le_pow_right (n := 2) (by omega) (show X.log2 + 1 ≤ 24 * (X.log2 / 24 + 1) by omega)
    omega

theorem ln_le {X n : Nat} (h : X < 16777216 ^ n) : ln X ≤ n := by
  unfold ln
  by_cases h0 : X = 0
  · simp [h0]
  · rw [if_neg h0]
    rw [B_pow] at h
    have := (Nat.log2_lt h0).2 h
    omega

theorem ln_lo {X : Nat} (h0 : X ≠ 0) : 16777216 ^ (ln X - 1) ≤ X := by
  unfold ln
  rw [if_neg h0, B_pow]
  have h1 := Nat.log2_self_le h0
  have h2 := Nat.pow_le_pow_right (n := 2) (by omega) (show 24 * (X.log2 / 24 + 1 - 1) ≤ X.log2 by omega)
  omega

theorem ln_pos {X : Nat} (h0 : X ≠ 0) : 0 < ln X := by unfold ln; rw [if_neg h0]; omega
theorem ln_zero : ln 0 = 0 := rfl
theorem dg_zero : dg 0 = [] := rfl
theorem dg_length (X : Nat) : (dg X).length = ln X := lst_length _ _
theorem rd_dg {X i : Nat} (h : i < ln X) : rd (dg X) (i : Int) = dgt X i := rd_lst _ h

theorem ln_mono {X Y : Nat} (h : X ≤ Y) : ln X ≤ ln Y := ln_le (Nat.lt_of_le_of_lt h (lt_ln Y))

theorem dgt_big {X i : Nat} (h : X < 16777216 ^ i) : dgt X i = 0 := by
  unfold dgt; rw [Nat.div_eq_of_lt h]; rfl

theorem div_div_B (X i : Nat) : X / 16777216 ^ i / 16777216 = X / 16777216 ^ (i + 1) := by rw [Nat.div_div_eq_div_mul, ← Nat.pow_succ]

theorem w64 {e : Int} (h1 : -9223372036854775808 ≤ e) (h2 : e ≤ 9223372036854775807) : wrap64 e = e := IntWalk.wrap64_in e ⟨h1, h2⟩

theorem tdivN (a b : Nat) : Int.tdiv (a : Int) (b : Int) = ((a / b : Nat) : Int) := by
  rw [Int.tdiv_eq_ediv_of_nonneg (by omega)]; rfl
theorem tmodN (a b : Nat) : Int.tmod (a : Int) (b : Int) = ((a % b : Nat) : Int) := by
  rw [Int.tmod_eq_emod_of_nonneg (by omega)]; rfl
theorem tdiv24 (a : Nat) : Int.tdiv (a : Int) 24 = ((a / 24 : Nat) : Int) := tdivN a 24
theorem tmod24 (a : Nat) : Int.tmod (a : Int) 24 = ((a % 24 : Nat) : Int) := tmodN a 24
theorem tdivB (a : Nat) : Int.tdiv (a : Int) 16777216 = ((a / 16777216 : Nat) : Int) := tdivN a 16777216
theorem tmodB (a : Nat) : Int.tmod (a : Int) 16777216 = ((a % 16777216 : Nat) : Int) := tmodN a 16777216
theorem tdiv2 (a : Nat) : Int.tdiv (a : Int) 2 = ((a / 2 : Nat) : Int) := tdivN a 2

theorem u64w (a : Nat) (h : a < 64) : IntKind.u64.wrap (a : Int) = a := by
  unfold IntKind.wrap; simp [IntKind.bits, IntKind.signed]; omega

theorem shlN (a c : Nat) (ha : a < 16777216) (hc : c ≤ 24) : shl .i64 (a : Int) (c : Int) = ((a * 2 ^ c : Nat) : Int) := by
  unfold shl
  have h1 : (2 : Nat) ^ c ≤ 2 ^ 24 := Nat.pow_le_pow_right (by omega) hc
  have h2 : a * 2 ^ c ≤ 16777216 * 2 ^ 24 := Nat.mul_le_mul (Nat.le_of_lt ha) h1
  have hb : IntKind.i64.bits = 64 := rfl
  rw [hb, Int.toNat_natCast, Nat.min_eq_left (by omega), i64_w]
  have e : (a : Int) * 2 ^ c = ((a * 2 ^ c : Nat) : Int) := by rw [Int.natCast_mul, Int.natCast_pow]; rfl
  rw [e]
  exact w64 (by omega) (by omega)

theorem shrN (a c : Nat) (hc : c ≤ 24) : shr .i64 (a : Int) (c : Int) = ((a / 2 ^ c : Nat) : Int) := by
  unfold shr
  have hb : IntKind.i64.bits = 64 := rfl
  rw [hb, Int.toNat_natCast, Nat.min_eq_left (by omega)]
  have e : (2 : Int) ^ c = ((2 ^ c : Nat) : Int) := by rw [Int.natCast_pow]; rfl
  rw [e]; rfl

/-- The limbs below place n. -/
abbrev dl (n X : Nat) : List Int := lst n (dgt X)
theorem dl_snoc (n X : Nat) : dl n X ++ [((X / 16777216 ^ n % 16777216 : Nat) : Int)] = dl (n + 1) X := lst_snoc n (dgt X)
theorem dl_snoc' (n X : Nat) : dl n X ++ [dgt X n] = dl (n + 1) X := lst_snoc n (dgt X)

theorem wN (a : Nat) (h : a ≤ 9223372036854775807) : wrap64 (a : Int) = (a : Int) := w64 (by omega) (by omega)
theorem wA (a b : Nat) (h : a + b ≤ 9223372036854775807) : wrap64 ((a : Int) + (b : Int)) = ((a + b : Nat) : Int) := by rw [w64 (by omega) (by omega)]; omega
theorem wS (a : Nat) (h : a < 9223372036854775807) : wrap64 ((a : Int) + 1) = ((a + 1 : Nat) : Int) := by rw [w64 (by omega) (by omega)]; omega
theorem wP (a : Nat) (h : a < 9223372036854775807) : wrap64 (((a + 1 : Nat) : Int) - 1) = (a : Int) := by rw [w64 (by omega) (by omega)]; omega
theorem dgt_eq (X i : Nat) : dgt X i = ((X / 16777216 ^ i % 16777216 : Nat) : Int) := rfl
theorem dgt_lt (X i : Nat) : X / 16777216 ^ i % 16777216 < 16777216 := Nat.mod_lt _ (by decide)

/-- The sign of a whole number of size X. -/
def sg (s : Int) (X : Nat) : Int := if X = 0 then 0 else s


theorem make_l0 (s : Int) (n X : Nat) (hn : n < 17592186044416) : ∀ (j k : Nat), j ≤ n → X < 16777216 ^ j → j + 1 ≤ k →
    spec_l02Make.l0 k s (dl n X) (j : Int) = some (sg s X, dg X) := by
  intro j
  induction j with
  | zero =>
    intro k _ hX hk
    obtain ⟨k, rfl⟩ : ∃ m, k = m + 1 := ⟨k - 1, by omega⟩
    have h0 : X = 0 := by simp at hX; exact hX
    subst h0
    unfold spec_l02Make.l0
    rw [if_neg (by omega), if_pos (by omega)]
    rfl
  | succ j ih =>
    intro k hj hX hk
    obtain ⟨k, rfl⟩ : ∃ m, k = m + 1 := ⟨k - 1, by omega⟩
    unfold spec_l02Make.l0
    have e1 : wrap64 (((j + 1 : Nat) : Int) - 1) = (j : Int) := by rw [w64 (by omega) (by omega)]; omega
    rw [if_pos (by omega), e1, if_pos (by omega), lst_length, if_pos (by omega), rd_lst _ (show j < n by omega)]
    by_cases hz : dgt X j = 0
    · rw [if_pos hz]
      have hlt : X < 16777216 ^ j := by
        unfold dgt at hz
        have h1 : X / 16777216 ^ j < 16777216 := by rw [Nat.div_lt_iff_lt_mul (B_pos j), Nat.mul_comm, ← Nat.pow_succ]; exact hX
        rw [Nat.mod_eq_of_lt h1] at hz
        have h2 : X / 16777216 ^ j = 0 := by omega
        rcases Nat.div_eq_zero_iff.1 h2 with h | h
        · have := B_pos j; omega
        · exact h
      exact ih k (by omega) hlt (by omega)
    · rw [if_neg hz, if_neg (by omega), if_pos (by omega), if_pos (by omega), Int.toNat_natCast, lst_take _ (by omega)]
      have hx0 : X ≠ 0 := by
        intro h; subst h; apply hz; unfold dgt; simp
      have hln : ln X = j + 1 := by
        have h1 := ln_le hX
        have h2 : j < ln X := by
          refine Nat.not_le.1 fun hle => hz ?_
          exact dgt_big (Nat.lt_of_lt_of_le (lt_ln X) (Nat.pow_le_pow_right (by decide) hle))
        omega
      unfold spec_l01Own.f
      simp only [Option.bind_some, List.nil_append, List.length_nil, lst_length, Nat.zero_add]
      rw [if_pos (by omega)]
      simp only [Option.bind_some]
      unfold sg dg
      rw [if_neg hx0, hln]

theorem make_f (s : Int) (n X k : Nat) (hn : n < 17592186044416) (hX : X < 16777216 ^ n) (hk : n + 1 ≤ k) :
    spec_l02Make.f k s (dl n X) = some (sg s X, dg X) := by
  unfold spec_l02Make.f
  rw [lst_length]
  exact make_l0 s n X hn n k (Nat.le_refl _) hX hk

theorem make_dg (s : Int) (X k : Nat) (hn : ln X < 17592186044416) (hk : ln X + 1 ≤ k) : spec_l02Make.f k s (dg X) = some (sg s X, dg X) :=
  make_f s (ln X) X k hn (lt_ln X) hk

theorem of_l0 (s : Int) (X : Nat) (hX : X < 9223372036854775808) : ∀ (r j k : Nat), X / 16777216 ^ j < 2 ^ r → j + r ≤ 100 → j + 2 * r + 200 ≤ k →
    spec_l02Of.l0 k ((X / 16777216 ^ j : Nat) : Int) s (dl j X) = some (sg s X, dg X) := by
  intro r
  induction r with
  | zero =>
    intro j k hlt hj hk
    obtain ⟨k, rfl⟩ : ∃ m, k = m + 1 := ⟨k - 1, by omega⟩
    unfold spec_l02Of.l0
    have h0 : X / 16777216 ^ j = 0 := by simpa using hlt
    rw [h0, if_pos (by omega)]
    have hx : X < 16777216 ^ j := by
      rcases Nat.div_eq_zero_iff.1 h0 with h | h
      · have := B_pos j; omega
      · exact h
    rw [make_f s j X k (by omega) hx (by omega)]
    rfl
  | succ r ih =>
    intro j k hlt hj hk
    by_cases h0 : X / 16777216 ^ j = 0
    · obtain ⟨k, rfl⟩ : ∃ m, k = m + 1 := ⟨k - 1, by omega⟩
      unfold spec_l02Of.l0
      rw [h0, if_pos (by omega)]
      have hx : X < 16777216 ^ j := by
        rcases Nat.div_eq_zero_iff.1 h0 with h | h
        · have := B_pos j; omega
        · exact h
      rw [make_f s j X k (by omega) hx (by omega)]
      rfl
    · obtain ⟨k, rfl⟩ : ∃ m, k = m + 1 := ⟨k - 1, by omega⟩
      unfold spec_l02Of.l0
      have hle : X / 16777216 ^ j ≤ X := Nat.div_le_self _ _
      have hle2 : X / 16777216 ^ j / 16777216 ≤ X / 16777216 ^ j := Nat.div_le_self _ _
      rw [if_neg (by omega), tmodB, if_neg (by omega), lst_length, if_pos (by omega), tdivB, w64 (by omega) (by omega), div_div_B]
      rw [dl_snoc]
      exact ih (j + 1) k (by
        rw [← div_div_B]
        have h1 : X / 16777216 ^ j / 16777216 ≤ X / 16777216 ^ j / 2 := Nat.div_le_div_left (by decide) (by decide)
        have h2 : X / 16777216 ^ j / 2 < 2 ^ r := by rw [Nat.div_lt_iff_lt_mul (by decide), ← Nat.pow_succ]; exact hlt
        omega) (by omega) (by omega)

theorem of_f (X k : Nat) (hX : X < 9223372036854775808) (hk : 400 ≤ k) : spec_l02Of.f k (X : Int) = some (sg 1 X, dg X) := by
  unfold spec_l02Of.f
  simp only [Option.bind_some]
  rw [if_neg (by omega)]
  obtain ⟨k, rfl⟩ : ∃ m, k = m + 1 := ⟨k - 1, by omega⟩
  unfold spec_l02Of.j0
  have := of_l0 1 X hX 63 0 k (by simpa using hX) (by omega) (by omega)
  simpa [dl, lst] using this

/-- The number of bits. -/
def bl (X : Nat) : Nat := if X = 0 then 0 else X.log2 + 1

theorem bl_half {X : Nat} (h : X ≠ 0) : bl X = bl (X / 2) + 1 := by
  unfold bl
  rw [if_neg h]
  by_cases h2 : X / 2 = 0
  · have : X = 1 := by omega
    subst this; decide
  · rw [if_neg h2]
    have : X.log2 = (X / 2).log2 + 1 := by
      have a := Nat.log2_def X
      rw [if_pos (by omega)] at a
      exact a
    omega

theorem length_l0 : ∀ (t : Nat) (acc k : Nat), t < 9223372036854775808 → acc + bl t < 9000000000000000000 → bl t + 1 ≤ k → spec_l02Length.l0 k (acc : Int) (t : Int) = some ((acc + bl t : Nat) : Int) := by
  intro t
  induction t using Nat.strongRecOn with
  | ind t ih =>
    intro acc k ht hacc hk
    by_cases h0 : t = 0
    · subst h0
      obtain ⟨k, rfl⟩ : ∃ m, k = m + 1 := ⟨k - 1, by omega⟩
      unfold spec_l02Length.l0
      rw [if_neg (by omega)]
      rfl
    · have hb := bl_half h0
      obtain ⟨k, rfl⟩ : ∃ m, k = m + 1 := ⟨k - 1, by omega⟩
      unfold spec_l02Length.l0
      rw [if_pos (by omega), tdiv2, w64 (by omega) (by omega), w64 (by omega) (by omega)]
      have := ih (t / 2) (by omega) (acc + 1) k (by omega) (by omega) (by omega)
      rw [show ((acc : Int) + 1) = ((acc + 1 : Nat) : Int) by omega, this]
      congr 2; omega

theorem bl_top {X : Nat} (h : X ≠ 0) : bl X = (ln X - 1) * 24 + bl (X / 16777216 ^ (ln X - 1)) := by
  have h1 := ln_lo h
  have h2 : X / 16777216 ^ (ln X - 1) ≠ 0 := by
    intro h0
    rcases Nat.div_eq_zero_iff.1 h0 with h | h
    · have := B_pos (ln X - 1); omega
    · omega
  unfold bl
  rw [if_neg h, if_neg h2, B_pow, ← Nat.shiftRight_eq_div_pow]
  have h3 : (X >>> (24 * (ln X - 1))).log2 = X.log2 - 24 * (ln X - 1) := by
    rw [Nat.shiftRight_eq_div_pow]
    have a := Nat.log2_self_le h
    have b := Nat.lt_log2_self (n := X)
    have c : 24 * (ln X - 1) ≤ X.log2 := by unfold ln; rw [if_neg h]; omega
    have hne : X / 2 ^ (24 * (ln X - 1)) ≠ 0 := by rw [← B_pow]; exact h2
    have d1 : 2 ^ (X.log2 - 24 * (ln X - 1)) ≤ X / 2 ^ (24 * (ln X - 1)) := by
      rw [Nat.le_div_iff_mul_le (Nat.two_pow_pos _), ← Nat.pow_add, show X.log2 - 24 * (ln X - 1) + 24 * (ln X - 1) = X.log2 by omega]; exact a
    have d2 : X / 2 ^ (24 * (ln X - 1)) < 2 ^ (X.log2 - 24 * (ln X - 1) + 1) := by
      rw [Nat.div_lt_iff_lt_mul (Nat.two_pow_pos _), ← Nat.pow_add, show X.log2 - 24 * (ln X - 1) + 1 + 24 * (ln X - 1) = X.log2 + 1 by omega]; exact b
    have e1 := (Nat.le_log2 hne).2 d1
    have e2 := (Nat.log2_lt hne).2 d2
    omega
  rw [h3]
  have c : 24 * (ln X - 1) ≤ X.log2 := by unfold ln; rw [if_neg h]; omega
  omega

theorem length_f (s : Int) (X k : Nat) (hn : ln X ≤ 100000) (hk : 100 ≤ k) : spec_l02Length.f k s (dg X) = some ((bl X : Nat) : Int) := by
  unfold spec_l02Length.f
  rw [dg_length]
  by_cases h0 : X = 0
  · subst h0; rw [if_pos (by rfl)]; rfl
  · have hp := ln_pos h0
    rw [if_neg (by omega)]
    have e1 : wrap64 ((ln X : Int) - 1) = ((ln X - 1 : Nat) : Int) := by rw [w64 (by omega) (by omega)]; omega
    rw [e1, if_pos (by omega), if_pos (by omega), rd_dg (by omega)]
    have e2 : wrap64 (((ln X - 1 : Nat) : Int) * 24) = (((ln X - 1) * 24 : Nat) : Int) := by rw [w64 (by omega) (by omega)]; omega
    rw [e2]
    have hlt : X / 16777216 ^ (ln X - 1) < 16777216 := by
      rw [Nat.div_lt_iff_lt_mul (B_pos _), Nat.mul_comm, ← Nat.pow_succ, Nat.succ_eq_add_one, show ln X - 1 + 1 = ln X by omega]; exact lt_ln X
    have hd : dgt X (ln X - 1) = ((X / 16777216 ^ (ln X - 1) : Nat) : Int) := by unfold dgt; rw [Nat.mod_eq_of_lt hlt]
    rw [hd]
    have hb : bl (X / 16777216 ^ (ln X - 1)) ≤ 24 := by
      unfold bl
      split
      · omega
      · rename_i hne
        have := (Nat.log2_lt hne).2 (show X / 16777216 ^ (ln X - 1) < 2 ^ 24 from hlt)
        omega
    rw [length_l0 _ _ k (by omega) (by omega) (by omega), ← bl_top h0]

theorem left_digit (X i r c : Nat) : (X % 16777216 ^ i * 2 ^ r / 16777216 ^ i + X / 16777216 ^ i % 16777216 * 2 ^ r) % 16777216 = X * 2 ^ (24 * c + r) / 16777216 ^ (c + i) % 16777216
    ∧ (X % 16777216 ^ i * 2 ^ r / 16777216 ^ i + X / 16777216 ^ i % 16777216 * 2 ^ r) / 16777216 = X % 16777216 ^ (i + 1) * 2 ^ r / 16777216 ^ (i + 1) := by
  have hp := B_pos i
  constructor
  · have e1 : X * 2 ^ (24 * c + r) / 16777216 ^ (c + i) = X * 2 ^ r / 16777216 ^ i := by
      rw [Nat.pow_add 2, ← B_pow, Nat.pow_add 16777216, Nat.mul_comm (16777216 ^ c) (2 ^ r), ← Nat.mul_assoc, Nat.mul_comm (16777216 ^ c) (16777216 ^ i)]
      exact Nat.mul_div_mul_right _ _ (B_pos c)
    have e2 : X * 2 ^ r / 16777216 ^ i = X % 16777216 ^ i * 2 ^ r / 16777216 ^ i + X / 16777216 ^ i * 2 ^ r := by
      conv => lhs; rw [← Nat.mod_add_div X (16777216 ^ i), Nat.add_mul, Nat.mul_assoc]
      rw [Nat.add_mul_div_left _ _ hp]
    rw [e1, e2, Nat.add_mod, Nat.mod_mul_mod, ← Nat.add_mod]
  · rw [Nat.pow_succ, Nat.mod_mul, Nat.add_mul, Nat.mul_assoc, ← Nat.div_div_eq_div_mul, Nat.add_mul_div_left _ _ hp]

theorem left_l0 (s : Int) (X r c : Nat) (hr : r < 24) (hc : c ≤ 100000) (hX : ln X ≤ 100000) : ∀ (d i k : Nat), i + d = ln X → d + c + ln X + 10 ≤ k →
    spec_l02Left.l0 k ((24 * c + r : Nat) : Int) (dl (c + i) (X * 2 ^ (24 * c + r))) ((X % 16777216 ^ i * 2 ^ r / 16777216 ^ i : Nat) : Int) (i : Int) s (dg X)
      = some (sg s (X * 2 ^ (24 * c + r)), dg (X * 2 ^ (24 * c + r))) := by
  intro d
  have hsmall : ∀ i, X % 16777216 ^ i * 2 ^ r / 16777216 ^ i < 2 ^ r := by
    intro i
    rw [Nat.div_lt_iff_lt_mul (B_pos i), Nat.mul_comm]
    exact Nat.mul_lt_mul_of_pos_left (Nat.mod_lt _ (B_pos i)) (Nat.two_pow_pos r)
  have h24 : (2 : Nat) ^ r ≤ 2 ^ 24 := Nat.pow_le_pow_right (by omega) (by omega)
  induction d with
  | zero =>
    intro i k hi hk
    obtain ⟨k, rfl⟩ : ∃ m, k = m + 1 := ⟨k - 1, by omega⟩
    have hi' : i = ln X := by omega
    subst hi'
    have hs := hsmall (ln X)
    unfold spec_l02Left.l0
    rw [dg_length, if_neg (by omega), lst_length, if_pos (by omega)]
    have hd : ((X % 16777216 ^ ln X * 2 ^ r / 16777216 ^ ln X : Nat) : Int) = dgt (X * 2 ^ (24 * c + r)) (c + ln X) := by
      unfold dgt
      rw [← (left_digit X (ln X) r c).1, Nat.div_eq_of_lt (lt_ln X)]
      rw [Nat.zero_mod, Nat.zero_mul, Nat.add_zero, Nat.mod_eq_of_lt (show X % 16777216 ^ ln X * 2 ^ r / 16777216 ^ ln X < 16777216 by omega)]
    rw [hd, dl_snoc']
    rw [make_f s (c + ln X + 1) _ k (by omega) ?_ (by omega)]
    · rfl
    · have h1 : X * 2 ^ (24 * c + r) < 16777216 ^ ln X * 2 ^ (24 * c + r) := Nat.mul_lt_mul_of_pos_right (lt_ln X) (Nat.two_pow_pos _)
      have h2 : 2 ^ (24 * c + r) ≤ 16777216 ^ (c + 1) := by rw [B_pow]; exact Nat.pow_le_pow_right (by omega) (by omega)
      have h3 : 16777216 ^ ln X * 2 ^ (24 * c + r) ≤ 16777216 ^ ln X * 16777216 ^ (c + 1) := Nat.mul_le_mul_left _ h2
      rw [← Nat.pow_add, show ln X + (c + 1) = c + ln X + 1 by omega] at h3
      omega
  | succ d ih =>
    intro i k hi hk
    obtain ⟨k, rfl⟩ : ∃ m, k = m + 1 := ⟨k - 1, by omega⟩
    have hfin := ih (i + 1) k (by omega) (by omega)
    have hd := left_digit X i r c
    unfold spec_l02Left.l0
    rw [dg_length, if_pos (by omega), if_pos (by omega), tmod24, show (24 * c + r) % 24 = r by omega, u64w r (by omega), if_pos (by omega), lst_length, if_pos (by omega), rd_dg (by omega), dgt_eq, shlN _ _ (dgt_lt X i) (by omega)]
    have hs := hsmall i
    have hm : X / 16777216 ^ i % 16777216 * 2 ^ r ≤ 16777216 * 2 ^ 24 := Nat.mul_le_mul (Nat.le_of_lt (dgt_lt X i)) h24
    generalize X / 16777216 ^ i % 16777216 * 2 ^ r = b at *
    generalize X % 16777216 ^ i * 2 ^ r / 16777216 ^ i = a at *
    clear ih hsmall
    have hv := Nat.div_le_self (a + b) 16777216
    rw [wA a b (by omega), tmodB, tdivB, wN _ (by omega), wS i (by omega), hd.1, hd.2, dl_snoc]
    exact hfin

theorem left_f (s : Int) (X n k : Nat) (hn : n ≤ 1000000) (hX : ln X ≤ 100000) (hk : n + 2 * ln X + 20 ≤ k) :
    spec_l02Left.f k s (dg X) (n : Int) = some (sg s (X * 2 ^ n), dg (X * 2 ^ n)) := by
  unfold spec_l02Left.f
  have e0 : n = 24 * (n / 24) + n % 24 := (Nat.div_add_mod n 24).symm
  rw [tdiv24, w64 (by omega) (by omega), if_pos (by omega), Int.toNat_natCast, if_pos (by omega)]
  have h := left_l0 s X (n % 24) (n / 24) (Nat.mod_lt _ (by decide)) (by omega) hX (ln X) 0 k (by omega) (by omega)
  rw [← e0] at h
  have hz : List.replicate (n / 24) (0 : Int) = dl (n / 24 + 0) (X * 2 ^ n) := by
    rw [lst_zero]
    refine lst_ext fun i hi => ?_
    unfold dgt
    have e1 : X * 2 ^ n = X * 2 ^ (n % 24) * 16777216 ^ (n / 24 - i - 1) * 16777216 * 16777216 ^ i := by
      conv => lhs; rw [e0]
      rw [Nat.mul_assoc _ 16777216, ← Nat.pow_succ', Nat.mul_assoc _ _ (16777216 ^ (i + 1)), ← Nat.pow_add, show n / 24 - i - 1 + (i + 1) = n / 24 by omega, B_pow, Nat.mul_assoc, ← Nat.pow_add, Nat.add_comm (n % 24)]
    rw [e1, Nat.mul_div_cancel _ (B_pos i), Nat.mul_mod_left]
    rfl
  rw [hz]
  have hc : ((X % 16777216 ^ 0 * 2 ^ (n % 24) / 16777216 ^ 0 : Nat) : Int) = 0 := by simp [Nat.mod_one]
  rw [hc] at h
  exact h

/-- How two sizes stand to each other. -/
def cmp (X Y : Nat) : Int := if X < Y then -1 else if X = Y then 0 else 1

theorem cmp_l0 (X Y : Nat) (hl : ln X = ln Y) (hX : ln X ≤ 100000) : ∀ (j k : Nat), j ≤ ln X → X / 16777216 ^ j = Y / 16777216 ^ j → j + 1 ≤ k →
    spec_l02CompareLimbs.l0 k (dg X) (dg Y) ((j : Int) - 1) = some (cmp X Y) := by
  intro j
  induction j with
  | zero =>
    intro k _ he hk
    obtain ⟨k, rfl⟩ : ∃ m, k = m + 1 := ⟨k - 1, by omega⟩
    unfold spec_l02CompareLimbs.l0
    rw [if_neg (by omega)]
    have : X = Y := by simpa using he
    subst this
    simp [cmp]
  | succ j ih =>
    intro k hj he hk
    obtain ⟨k, rfl⟩ : ∃ m, k = m + 1 := ⟨k - 1, by omega⟩
    unfold spec_l02CompareLimbs.l0
    rw [show (((j + 1 : Nat) : Int) - 1) = (j : Int) by omega, if_pos (by omega), if_pos (by omega), dg_length, dg_length, if_pos (by omega), if_pos (by omega), rd_dg (by omega), rd_dg (by omega)]
    have hx := Nat.div_add_mod (X / 16777216 ^ j) 16777216
    have hy := Nat.div_add_mod (Y / 16777216 ^ j) 16777216
    rw [div_div_B] at hx hy
    rw [he] at hx
    unfold dgt
    by_cases h1 : X / 16777216 ^ j % 16777216 = Y / 16777216 ^ j % 16777216
    · rw [if_pos (by omega), w64 (by omega) (by omega)]
      exact ih k (by omega) (by omega) (by omega)
    · rw [if_neg (by omega)]
      by_cases h2 : X / 16777216 ^ j % 16777216 < Y / 16777216 ^ j % 16777216
      · rw [if_pos (by omega)]
        have h3 : X < Y := by
          refine Nat.not_le.1 fun hle => ?_
          have := Nat.div_le_div_right (c := 16777216 ^ j) hle
          omega
        unfold cmp; rw [if_pos h3]
      · rw [if_neg (by omega)]
        have h3 : Y < X := by
          refine Nat.not_le.1 fun hle => ?_
          have := Nat.div_le_div_right (c := 16777216 ^ j) hle
          omega
        unfold cmp; rw [if_neg (by omega), if_neg (by omega)]

theorem cmpl_f (X Y k : Nat) (hX : ln X ≤ 100000) (_hY : ln Y ≤ 100000) (hk : ln X + 1 ≤ k) : spec_l02CompareLimbs.f k (dg X) (dg Y) = some (cmp X Y) := by
  unfold spec_l02CompareLimbs.f
  rw [dg_length, dg_length]
  by_cases he : ln X = ln Y
  · rw [if_pos (by omega), w64 (by omega) (by omega)]
    refine cmp_l0 X Y he hX _ k (Nat.le_refl _) ?_ hk
    rw [Nat.div_eq_of_lt (lt_ln X), he, Nat.div_eq_of_lt (lt_ln Y)]
  · rw [if_neg (by omega)]
    by_cases hlt : ln X < ln Y
    · rw [if_pos (by omega)]
      have : X < Y := by
        refine Nat.not_le.1 fun hle => ?_
        have := ln_mono hle; omega
      unfold cmp; rw [if_pos this]
    · rw [if_neg (by omega)]
      have : Y < X := by
        refine Nat.not_le.1 fun hle => ?_
        have := ln_mono hle; omega
      unfold cmp; rw [if_neg (by omega), if_neg (by omega)]

theorem plus_digit (X Y i : Nat) : ((X % 16777216 ^ i + Y % 16777216 ^ i) / 16777216 ^ i + X / 16777216 ^ i % 16777216 + Y / 16777216 ^ i % 16777216) % 16777216 = (X + Y) / 16777216 ^ i % 16777216
    ∧ ((X % 16777216 ^ i + Y % 16777216 ^ i) / 16777216 ^ i + X / 16777216 ^ i % 16777216 + Y / 16777216 ^ i % 16777216) / 16777216 = (X % 16777216 ^ (i + 1) + Y % 16777216 ^ (i + 1)) / 16777216 ^ (i + 1)
    ∧ (X % 16777216 ^ i + Y % 16777216 ^ i) / 16777216 ^ i ≤ 1 := by
  have hp := B_pos i
  refine ⟨?_, ?_, ?_⟩
  · have e : (X + Y) / 16777216 ^ i = (X % 16777216 ^ i + Y % 16777216 ^ i) / 16777216 ^ i + (X / 16777216 ^ i + Y / 16777216 ^ i) := by
      conv => lhs; rw [← Nat.mod_add_div X (16777216 ^ i), ← Nat.mod_add_div Y (16777216 ^ i)]
      rw [show X % 16777216 ^ i + 16777216 ^ i * (X / 16777216 ^ i) + (Y % 16777216 ^ i + 16777216 ^ i * (Y / 16777216 ^ i)) = X % 16777216 ^ i + Y % 16777216 ^ i + 16777216 ^ i * (X / 16777216 ^ i + Y / 16777216 ^ i) by rw [Nat.mul_add]; omega]
      rw [Nat.add_mul_div_left _ _ hp]
    rw [e]
    generalize (X % 16777216 ^ i + Y % 16777216 ^ i) / 16777216 ^ i = a
    omega
  · rw [Nat.pow_succ, Nat.mod_mul, Nat.mod_mul, ← Nat.div_div_eq_div_mul]
    rw [show X % 16777216 ^ i + 16777216 ^ i * (X / 16777216 ^ i % 16777216) + (Y % 16777216 ^ i + 16777216 ^ i * (Y / 16777216 ^ i % 16777216)) = X % 16777216 ^ i + Y % 16777216 ^ i + 16777216 ^ i * (X / 16777216 ^ i % 16777216 + Y / 16777216 ^ i % 16777216) by rw [Nat.mul_add]; omega]
    rw [Nat.add_mul_div_left _ _ hp, Nat.add_assoc]
  · have h1 := Nat.mod_lt X hp
    have h2 := Nat.mod_lt Y hp
    have : (X % 16777216 ^ i + Y % 16777216 ^ i) / 16777216 ^ i < 2 := by rw [Nat.div_lt_iff_lt_mul hp]; omega
    omega

theorem plus_l0 (X Y M : Nat) (hx : ln X ≤ M) (hy : ln Y ≤ M) (hM : M ≤ 100000) : ∀ (d i k : Nat), i + d = M + 1 → 2 * d + 2 ≤ k →
    ∃ n, n ≤ M + 1 ∧ X + Y < 16777216 ^ n ∧ spec_l02Plus.l0 k (dg X) (dg Y) (dl i (X + Y)) (((X % 16777216 ^ i + Y % 16777216 ^ i) / 16777216 ^ i : Nat) : Int) (i : Int) = some (dl n (X + Y)) := by
  have hend : ∀ i, M ≤ i → (X % 16777216 ^ i + Y % 16777216 ^ i) / 16777216 ^ i = (X + Y) / 16777216 ^ i := by
    intro i hi
    have h1 : X < 16777216 ^ i := Nat.lt_of_lt_of_le (lt_ln X) (Nat.pow_le_pow_right (by decide) (by omega))
    have h2 : Y < 16777216 ^ i := Nat.lt_of_lt_of_le (lt_ln Y) (Nat.pow_le_pow_right (by decide) (by omega))
    rw [Nat.mod_eq_of_lt h1, Nat.mod_eq_of_lt h2]
  intro d
  induction d with
  | zero =>
    intro i k hi hk
    obtain ⟨k, rfl⟩ : ∃ m, k = m + 2 := ⟨k - 2, by omega⟩
    have h1 : X < 16777216 ^ M := Nat.lt_of_lt_of_le (lt_ln X) (Nat.pow_le_pow_right (by decide) (by omega))
    have h2 : Y < 16777216 ^ M := Nat.lt_of_lt_of_le (lt_ln Y) (Nat.pow_le_pow_right (by decide) (by omega))
    have h3 : X + Y < 16777216 ^ i := by
      rw [show i = M + 1 by omega, Nat.pow_succ]; omega
    refine ⟨i, by omega, h3, ?_⟩
    rw [hend i (by omega), Nat.div_eq_of_lt h3]
    unfold spec_l02Plus.l0
    rw [dg_length, dg_length, if_neg (by omega), if_neg (by omega)]
    unfold spec_l02Plus.j1
    rw [if_neg (by simp)]
  | succ d ih =>
    intro i k hi hk
    obtain ⟨k, rfl⟩ : ∃ m, k = m + 2 := ⟨k - 2, by omega⟩
    have hd3 := (plus_digit X Y i).2.2
    obtain ⟨c, hc⟩ : ∃ c, c = (X % 16777216 ^ i + Y % 16777216 ^ i) / 16777216 ^ i := ⟨_, rfl⟩
    rw [← hc] at hd3 ⊢
    have hxr := Nat.mod_lt (X / 16777216 ^ i) (show 0 < 16777216 by decide)
    have hyr := Nat.mod_lt (Y / 16777216 ^ i) (show 0 < 16777216 by decide)
    have hxz : ¬ i < ln X → X / 16777216 ^ i = 0 := fun h => Nat.div_eq_of_lt (Nat.lt_of_lt_of_le (lt_ln X) (Nat.pow_le_pow_right (by decide) (by omega)))
    have hyz : ¬ i < ln Y → Y / 16777216 ^ i = 0 := fun h => Nat.div_eq_of_lt (Nat.lt_of_lt_of_le (lt_ln Y) (Nat.pow_le_pow_right (by decide) (by omega)))
    have hgo : spec_l02Plus.l0 k (dg X) (dg Y) (dl i (X + Y) ++ [Int.tmod ((c + X / 16777216 ^ i % 16777216 + Y / 16777216 ^ i % 16777216 : Nat) : Int) 16777216]) (wrap64 (Int.tdiv ((c + X / 16777216 ^ i % 16777216 + Y / 16777216 ^ i % 16777216 : Nat) : Int) 16777216)) (wrap64 ((i : Int) + 1))
        = spec_l02Plus.l0 k (dg X) (dg Y) (dl (i + 1) (X + Y)) (((X % 16777216 ^ (i + 1) + Y % 16777216 ^ (i + 1)) / 16777216 ^ (i + 1) : Nat) : Int) ((i + 1 : Nat) : Int) := by
      have hd := plus_digit X Y i
      rw [← hc] at hd
      have hvv := Nat.div_le_self (c + X / 16777216 ^ i % 16777216 + Y / 16777216 ^ i % 16777216) 16777216
      rw [wS i (by omega), tmodB, tdivB, wN _ (by omega), hd.1, hd.2.1, dl_snoc]
    have hnext := ih (i + 1) k (by omega) (by omega)
    rw [← hgo] at hnext
    clear ih hgo
    by_cases h1 : i < ln X
    · obtain ⟨n, hn1, hn2, hn3⟩ := hnext
      refine ⟨n, hn1, hn2, ?_⟩
      unfold spec_l02Plus.l0
      rw [dg_length, if_pos (by omega)]
      unfold spec_l02Plus.j1
      rw [if_pos rfl, dg_length, if_pos (by omega), if_pos (by omega), dg_length]
      by_cases h2 : i < ln Y
      · rw [if_pos (by omega), lst_length, if_pos (by omega), rd_dg h1, dgt_eq, wA _ _ (by omega), rd_dg h2, dgt_eq, wA _ _ (by omega)]
        exact hn3
      · rw [if_neg (by omega), lst_length, if_pos (by omega), rd_dg h1, dgt_eq, wA _ _ (by omega)]
        rw [hyz h2, Nat.zero_mod, Nat.add_zero] at hn3
        exact hn3
    · by_cases h2 : i < ln Y
      · obtain ⟨n, hn1, hn2, hn3⟩ := hnext
        refine ⟨n, hn1, hn2, ?_⟩
        unfold spec_l02Plus.l0
        rw [dg_length, if_neg (by omega), dg_length, if_pos (by omega)]
        unfold spec_l02Plus.j1
        rw [if_pos rfl, dg_length, if_neg (by omega), dg_length, if_pos (by omega), if_pos (by omega), lst_length, if_pos (by omega), rd_dg h2, dgt_eq, wA _ _ (by omega)]
        rw [hxz h1, Nat.zero_mod, Nat.add_zero] at hn3
        exact hn3
      · rw [hxz h1, hyz h2, Nat.zero_mod, Nat.add_zero, Nat.add_zero] at hnext
        by_cases h3 : 0 < c
        · obtain ⟨n, hn1, hn2, hn3⟩ := hnext
          refine ⟨n, hn1, hn2, ?_⟩
          unfold spec_l02Plus.l0
          rw [dg_length, if_neg (by omega), dg_length, if_neg (by omega), show decide ((c : Int) > 0) = true by simp; omega]
          unfold spec_l02Plus.j1
          rw [if_pos rfl, dg_length, if_neg (by omega), dg_length, if_neg (by omega), lst_length, if_pos (by omega)]
          exact hn3
        · have hc0 : c = 0 := by omega
          have hX : X < 16777216 ^ i := Nat.lt_of_lt_of_le (lt_ln X) (Nat.pow_le_pow_right (by decide) (by omega))
          have hY : Y < 16777216 ^ i := Nat.lt_of_lt_of_le (lt_ln Y) (Nat.pow_le_pow_right (by decide) (by omega))
          have hlt : X + Y < 16777216 ^ i := by
            rw [hc0, Nat.mod_eq_of_lt hX, Nat.mod_eq_of_lt hY] at hc
            rcases Nat.div_eq_zero_iff.1 hc.symm with h | h
            · have := B_pos i; omega
            · exact h
          refine ⟨i, by omega, hlt, ?_⟩
          unfold spec_l02Plus.l0
          rw [dg_length, if_neg (by omega), dg_length, if_neg (by omega), hc0]
          unfold spec_l02Plus.j1
          rw [if_neg (by simp)]

theorem add_f (X Y k : Nat) (hX : ln X ≤ 50000) (hY : ln Y ≤ 50000) (hk : 2 * ln X + 2 * ln Y + 20 ≤ k) :
    spec_l02Add.f k (sg 1 X) (dg X) (sg 1 Y) (dg Y) = some (sg 1 (X + Y), dg (X + Y)) := by
  unfold spec_l02Add.f
  by_cases hx : X = 0
  · subst hx
    rw [if_pos (show sg 1 0 = 0 from rfl), make_dg _ Y k (by omega) (by omega)]
    simp only [Option.bind_some, Nat.zero_add]
    unfold sg
    by_cases hy : Y = 0
    · simp only [if_pos hy]
    · simp only [if_neg hy]
  · by_cases hy : Y = 0
    · subst hy
      rw [if_neg (by unfold sg; rw [if_neg hx]; decide), if_pos (show sg 1 0 = 0 from rfl), make_dg _ X k (by omega) (by omega)]
      simp only [Option.bind_some, Nat.add_zero]
      unfold sg
      rw [if_neg hx, if_neg hx]
    · have sx : sg 1 X = 1 := by unfold sg; rw [if_neg hx]
      have sy : sg 1 Y = 1 := by unfold sg; rw [if_neg hy]
      rw [sx, sy, if_neg (by decide), if_neg (by decide), if_pos rfl]
      obtain ⟨n, hn1, hn2, hn3⟩ := plus_l0 X Y (max (ln X) (ln Y)) (by omega) (by omega) (by omega) (max (ln X) (ln Y) + 1) 0 k (by omega) (by omega)
      have e : spec_l02Plus.f k (dg X) (dg Y) = some (dl n (X + Y)) := by
        unfold spec_l02Plus.f
        rw [← hn3]
        simp [dl, lst, Nat.mod_one]
      rw [e]
      simp only [Option.bind_some]
      rw [make_f 1 n (X + Y) k (by omega) hn2 (by omega)]
      rfl

/-! ### Shifts to the right, bits, odd parts -/
theorem cut_digit (X c i : Nat) (hi : c / 24 ≤ i) :
    (X / 16777216 ^ i % 16777216 / 2 ^ (c % 24) + X / 16777216 ^ (i + 1) % 16777216 * 2 ^ (24 - c % 24)) % 16777216 = X / 2 ^ c / 16777216 ^ (i - c / 24) % 16777216 := by
  have hr : c % 24 < 24 := Nat.mod_lt _ (by decide)
  obtain ⟨r, hrr⟩ : ∃ r, c % 24 = r := ⟨_, rfl⟩
  rw [hrr] at hr ⊢
  have e1 : X / 2 ^ c / 16777216 ^ (i - c / 24) = X / 16777216 ^ i / 2 ^ r := by
    rw [Nat.div_div_eq_div_mul, Nat.div_div_eq_div_mul]
    congr 1
    rw [B_pow, B_pow, ← Nat.pow_add, ← Nat.pow_add]
    congr 1
    omega
  rw [e1, ← div_div_B]
  generalize X / 16777216 ^ i = q
  have e2 : q / 2 ^ r = q % 16777216 / 2 ^ r + q / 16777216 * 2 ^ (24 - r) := by
    conv => lhs; rw [← Nat.mod_add_div q 16777216, show 16777216 * (q / 16777216) = 2 ^ r * (q / 16777216 * 2 ^ (24 - r)) by
      rw [Nat.mul_left_comm, ← Nat.pow_add, show r + (24 - r) = 24 by omega, Nat.mul_comm]]
    rw [Nat.add_mul_div_left _ _ (Nat.two_pow_pos r)]
  rw [e2, Nat.add_mod, Nat.mod_mul_mod, ← Nat.add_mod]

theorem cut_l0 (s : Int) (X c : Nat) (hc : c ≤ 1000000) (hX : ln X ≤ 100000) : ∀ (d i k : Nat), i + d = max (ln X) (c / 24) → c / 24 ≤ i → d + ln X + 10 ≤ k →
    spec_l02Cut.l0 k (c : Int) (dl (i - c / 24) (X / 2 ^ c)) (i : Int) s (dg X) = some (sg s (X / 2 ^ c), dg (X / 2 ^ c)) := by
  intro d
  induction d with
  | zero =>
    intro i k hi hci hk
    obtain ⟨k, rfl⟩ : ∃ m, k = m + 1 := ⟨k - 1, by omega⟩
    unfold spec_l02Cut.l0
    rw [dg_length, if_neg (by omega)]
    rw [make_f s (i - c / 24) _ k (by omega) ?_ (by omega)]
    · rfl
    · rw [Nat.div_lt_iff_lt_mul (Nat.two_pow_pos c)]
      refine Nat.lt_of_lt_of_le (lt_ln X) ?_
      rw [B_pow, B_pow, ← Nat.pow_add]
      exact Nat.pow_le_pow_right (by decide) (by omega)
  | succ d ih =>
    intro i k hi hci hk
    obtain ⟨k, rfl⟩ : ∃ m, k = m + 1 := ⟨k - 1, by omega⟩
    have hlt : i < ln X := by omega
    have hfin := ih (i + 1) k (by omega) (by omega) (by omega)
    have hd := cut_digit X c i hci
    rw [show i + 1 - c / 24 = i - c / 24 + 1 by omega] at hfin
    clear ih
    unfold spec_l02Cut.l0
    rw [dg_length, if_pos (by omega), if_pos (by omega), tmod24, u64w _ (by omega), if_pos (by omega), wS i (by omega)]
    have hr : c % 24 < 24 := Nat.mod_lt _ (by decide)
    have h1 : X / 16777216 ^ i % 16777216 / 2 ^ (c % 24) ≤ X / 16777216 ^ i % 16777216 := Nat.div_le_self _ _
    have h1' := dgt_lt X i
    by_cases hn : i + 1 < ln X
    · have h2 : X / 16777216 ^ (i + 1) % 16777216 * 2 ^ (24 - c % 24) ≤ 16777216 * 2 ^ 24 := Nat.mul_le_mul (Nat.le_of_lt (dgt_lt X (i + 1))) (Nat.pow_le_pow_right (by decide) (by omega))
      rw [if_pos (by omega), if_pos (by omega), show wrap64 (24 - ((c % 24 : Nat) : Int)) = ((24 - c % 24 : Nat) : Int) by rw [w64 (by omega) (by omega)]; omega, u64w _ (by omega), if_pos (by omega), lst_length, if_pos (by omega)]
      rw [rd_dg hlt, rd_dg hn, dgt_eq, dgt_eq, shrN _ _ (by omega), shlN _ _ (dgt_lt X (i + 1)) (by omega)]
      generalize X / 16777216 ^ (i + 1) % 16777216 * 2 ^ (24 - c % 24) = b at *
      generalize X / 16777216 ^ i % 16777216 / 2 ^ (c % 24) = a at *
      rw [wA a b (by omega), tmodB, hd, dl_snoc]
      exact hfin
    · have hz : X / 16777216 ^ (i + 1) = 0 := Nat.div_eq_of_lt (Nat.lt_of_lt_of_le (lt_ln X) (Nat.pow_le_pow_right (by decide) (by omega)))
      rw [if_neg (by omega), lst_length, if_pos (by omega), rd_dg hlt, dgt_eq, shrN _ _ (by omega)]
      rw [hz, Nat.zero_mod, Nat.zero_mul, Nat.add_zero, Nat.mod_eq_of_lt (by omega)] at hd
      rw [hd, dl_snoc]
      exact hfin

theorem cut_f (s : Int) (X c k : Nat) (hc : c ≤ 1000000) (hX : ln X ≤ 100000) (hk : 2 * ln X + 20 ≤ k) :
    spec_l02Cut.f k s (dg X) (c : Int) = some (sg s (X / 2 ^ c), dg (X / 2 ^ c)) := by
  unfold spec_l02Cut.f
  rw [tdiv24, wN _ (by omega)]
  have h := cut_l0 s X c hc hX (max (ln X) (c / 24) - c / 24) (c / 24) k (by omega) (by omega) (by omega)
  rw [Nat.sub_self] at h
  exact h

theorem and_one (x : Nat) (h : x < 2 ^ 62) : Go.bits .and .i64 (x : Int) 1 = ((x % 2 : Nat) : Int) := by
  show IntKind.i64.wrap ((BitVec.ofInt 64 (x : Int) &&& BitVec.ofInt 64 1).toNat : Int) = _
  have e1 : (BitVec.ofInt 64 (x : Int) &&& BitVec.ofInt 64 1).toNat = x % 2 := by
    rw [BitVec.toNat_and, BitVec.toNat_ofInt, BitVec.toNat_ofInt]
    rw [show (((x : Int)) % ((2 ^ 64 : Nat) : Int)).toNat = x by omega, show (((1 : Int)) % ((2 ^ 64 : Nat) : Int)).toNat = 1 by decide, Nat.and_one_is_mod]
  rw [e1, i64_w]
  exact wN _ (by omega)

theorem bit_f (s : Int) (X c : Nat) (hc : c ≤ 1000000) (_hX : ln X ≤ 100000) : spec_l02Bit.f s (dg X) (c : Int) = some ((X / 2 ^ c % 2 : Nat) : Int) := by
  unfold spec_l02Bit.f
  have hr : c % 24 < 24 := Nat.mod_lt _ (by decide)
  rw [tdiv24, wN _ (by omega), dg_length]
  by_cases h : ln X ≤ c / 24
  · rw [if_pos (by omega)]
    have h1 : X / 2 ^ c = 0 := by
      refine Nat.div_eq_of_lt (Nat.lt_of_lt_of_le (lt_ln X) ?_)
      rw [B_pow]
      exact Nat.pow_le_pow_right (by decide) (by omega)
    rw [h1]; rfl
  · rw [if_neg (by omega), if_pos (by omega), if_pos (by omega), tmod24, u64w _ (by omega), if_pos (by omega), rd_dg (by omega), dgt_eq, shrN _ _ (by omega)]
    have h1 : X / 16777216 ^ (c / 24) % 16777216 / 2 ^ (c % 24) ≤ X / 16777216 ^ (c / 24) % 16777216 := Nat.div_le_self _ _
    have h1' := dgt_lt X (c / 24)
    rw [and_one _ (by omega)]
    congr 2
    have e1 : X / 2 ^ c = X / 16777216 ^ (c / 24) / 2 ^ (c % 24) := by
      rw [Nat.div_div_eq_div_mul, B_pow, ← Nat.pow_add, Nat.div_add_mod]
    rw [e1]
    generalize X / 16777216 ^ (c / 24) = q
    obtain ⟨r, hrr⟩ : ∃ r, c % 24 = r := ⟨_, rfl⟩
    rw [hrr] at hr ⊢
    have e2 : q / 2 ^ r = q % 16777216 / 2 ^ r + q / 16777216 * 2 ^ (24 - r) := by
      conv => lhs; rw [← Nat.mod_add_div q 16777216, show 16777216 * (q / 16777216) = 2 ^ r * (q / 16777216 * 2 ^ (24 - r)) by
        rw [Nat.mul_left_comm, ← Nat.pow_add, show r + (24 - r) = 24 by omega, Nat.mul_comm]]
      rw [Nat.add_mul_div_left _ _ (Nat.two_pow_pos r)]
    rw [e2]
    obtain ⟨u, hu⟩ : ∃ u, 24 - r = u + 1 := ⟨23 - r, by omega⟩
    rw [hu, Nat.pow_succ, ← Nat.mul_assoc]
    omega

theorem ln_shift (X n : Nat) : ln (X * 2 ^ n) ≤ ln X + n / 24 + 1 := by
  refine ln_le ?_
  have h1 : X * 2 ^ n < 16777216 ^ ln X * 2 ^ n := Nat.mul_lt_mul_of_pos_right (lt_ln X) (Nat.two_pow_pos n)
  have h2 : 2 ^ n ≤ 16777216 ^ (n / 24 + 1) := by rw [B_pow]; exact Nat.pow_le_pow_right (by decide) (by omega)
  have h3 := Nat.mul_le_mul_left (16777216 ^ ln X) h2
  rw [← Nat.pow_add, ← Nat.add_assoc] at h3
  omega

theorem ln_add (X Y M : Nat) (hX : ln X ≤ M) (hY : ln Y ≤ M) : ln (X + Y) ≤ M + 1 := by
  refine ln_le ?_
  have h1 : X < 16777216 ^ M := Nat.lt_of_lt_of_le (lt_ln X) (Nat.pow_le_pow_right (by decide) hX)
  have h2 : Y < 16777216 ^ M := Nat.lt_of_lt_of_le (lt_ln Y) (Nat.pow_le_pow_right (by decide) hY)
  rw [Nat.pow_succ]
  omega

theorem odd_part {X : Nat} (h : X ≠ 0) : ∃ t, X / 2 ^ t % 2 = 1 ∧ (∀ i, i < t → X / 2 ^ i % 2 = 0) ∧ X = X / 2 ^ t * 2 ^ t ∧ t ≤ X.log2 := by
  induction X using Nat.strongRecOn with
  | ind X ih =>
    by_cases ho : X % 2 = 1
    · exact ⟨0, by simpa using ho, fun i hi => by omega, by simp, by omega⟩
    · have h2 : X / 2 ≠ 0 := by omega
      obtain ⟨t, h3, h4, h5, h6⟩ := ih (X / 2) (by omega) h2
      refine ⟨t + 1, ?_, ?_, ?_, ?_⟩
      · rw [Nat.pow_succ', ← Nat.div_div_eq_div_mul]; exact h3
      · intro i hi
        cases i with
        | zero => simp; omega
        | succ i => rw [Nat.pow_succ', ← Nat.div_div_eq_div_mul]; exact h4 i (by omega)
      · rw [Nat.pow_succ', ← Nat.div_div_eq_div_mul, Nat.mul_left_comm, ← h5]; omega
      · have a := Nat.log2_def X
        rw [if_pos (by omega)] at a
        omega

theorem abs_f (s : Int) (X k : Nat) (hs : s = 1 ∨ s = -1) (hX : ln X ≤ 100000) (hk : ln X + 1 ≤ k) : spec_l02Abs.f k s (dg X) = some (sg 1 X, dg X) := by
  unfold spec_l02Abs.f
  have e : s * s = 1 := by rcases hs with h | h <;> subst h <;> rfl
  rw [e, w64 (by omega) (by omega), make_dg 1 X k (by omega) hk]
  rfl


end Go.Proofs.YtmedcpdjhgconaaDoor.Pure
