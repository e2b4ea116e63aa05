/- The program's big numbers: what a block of one holds; small ones made; signs, copies, opposites, sizes; shifts upwards. -/
import Derived.Test.YtmedcpdjhgconaaDoorIsd
import Derived.Test.YtmedcpdjhgconaaDoorRows
import Derived.Lib.Hide
import Derived.Deep.Upon
import Derived.Deep.DeepAppendWide

/-! ### The program's own big numbers: what a block of one holds, and how a row of digits to the base 2^32 is read. -/
namespace Go.Proofs.YtmedcpdjhgconaaDoor
set_option linter.unusedVariables false
open Go.RowKit Go.Proofs.YtmedcpdjhgconaaDoorW.PrintWords Go.Proofs.YtmedcpdjhgconaaDoorW.PrintLast Go.Proofs.YtmedcpdjhgconaaDoorW.PrintMore Go.Proofs.YtmedcpdjhgconaaDoor.PFnExactFloatOf Go.Proofs.YtmedcpdjhgconaaDoor.Pure

/-- A digit to the base 2^32. -/
def dwt (X i : Nat) : Int := ((X / 4294967296 ^ i % 4294967296 : Nat) : Int)
/-- How many such digits X has. -/
def lw (X : Nat) : Nat := if X = 0 then 0 else X.log2 / 32 + 1
/-- The lowest n digits of X. -/
def ds (n X : Nat) : List Int := lst n (dwt X)
/-- The digits of X. -/
def dw (X : Nat) : List Int := ds (lw X) X

theorem ds_length (n X : Nat) : (ds n X).length = n := lst_length _ _
theorem rd_ds {n X i : Nat} (h : i < n) : rd (ds n X) (i : Int) = dwt X i := rd_lst _ h
theorem W_pow (i : Nat) : 4294967296 ^ i = 2 ^ (32 * i) := by rw [Nat.pow_mul]
theorem W_pos (i : Nat) : 0 < 4294967296 ^ i := Nat.pow_pos (by decide)
theorem lt_lw (X : Nat) : X < 4294967296 ^ lw X := by
  unfold lw
  split
  · rename_i h; subst h; decide
  · rename_i h
    rw [W_pow]
    refine Nat.lt_of_lt_of_le (Nat.lt_log2_self (n := X)) (Nat.pow_le_pow_right (by decide) (by omega))
theorem lw_le {X n : Nat} (h : X < 4294967296 ^ n) : lw X ≤ n := by
  unfold lw
  split
  · omega
  · rename_i h0
    rw [W_pow] at h
    have h1 := (Nat.log2_lt h0).2 h
    omega
theorem lw_lo {X : Nat} (h0 : X ≠ 0) : 4294967296 ^ (lw X - 1) ≤ X := by
  unfold lw
  rw [if_neg h0, W_pow]
  exact Nat.le_trans (Nat.pow_le_pow_right (by decide) (by omega)) (Nat.log2_self_le h0)
theorem lw_pos {X : Nat} (h0 : X ≠ 0) : 0 < lw X := by unfold lw; rw [if_neg h0]; omega
theorem dwt_lt (X i : Nat) : X / 4294967296 ^ i % 4294967296 < 4294967296 := Nat.mod_lt _ (by decide)
theorem dwt_big {X i : Nat} (h : X < 4294967296 ^ i) : dwt X i = 0 := by
  unfold dwt; rw [Nat.div_eq_of_lt h]; rfl
theorem ds_take {n m : Nat} (X : Nat) (h : m ≤ n) : (ds n X).take m = ds m X := lst_take _ h
theorem top_ne {X : Nat} (h0 : X ≠ 0) : dwt X (lw X - 1) ≠ 0 := by
  unfold dwt
  have h1 := lw_lo h0
  have h2 := lt_lw X
  have h3 : 1 ≤ X / 4294967296 ^ (lw X - 1) := (Nat.le_div_iff_mul_le (W_pos _)).2 (by omega)
  have h4 : X / 4294967296 ^ (lw X - 1) < 4294967296 := by
    rw [Nat.div_lt_iff_lt_mul (W_pos _), Nat.mul_comm, ← Nat.pow_succ]
    have := lw_pos h0
    rw [show (lw X - 1).succ = lw X by omega]
    exact h2
  rw [Nat.mod_eq_of_lt h4]
  omega

/-- A row of digits that can be read, in a block of its own kind. -/
structure Mag (w : World) (A : Option Addr) (l : List Int) : Prop where
  reads : Kd.C (Kd.int .u32) w A l.length l
  kind : ∀ ad, A = some ad → ∃ cells, w.heap[ad.block]? = some (.cells cells 103 (0, 0))

theorem Mag.step {w w' : World} {A : Option Addr} {l : List Int} (h : Mag w A l) (hs : ∀ (ad : Addr) (cells : Array Value), A = some ad → w.heap[ad.block]? = some (.cells cells 103 (0, 0)) → w'.heap[ad.block]? = w.heap[ad.block]?) : Mag w' A l := by
  refine ⟨⟨h.reads.1, h.reads.2.1, fun hn => ?_⟩, fun ad he => ?_⟩
  · obtain ⟨ad, he, hc⟩ := h.reads.2.2 hn
    refine ⟨ad, he, fun j p hj => ?_⟩
    obtain ⟨c, h1, h2, h3⟩ := hc j p hj
    refine ⟨c, h1, h2, fun i u hu => ?_⟩
    have hb : (ad.add (j * (Kd.int .u32).sz + i)).block = ad.block := by unfold Addr.add; split <;> rfl
    obtain ⟨cells, hk⟩ := h.kind ad he
    rw [World.cell?_of_block (w := w) (by rw [hb]; exact hs ad cells he hk)]
    exact h3 i u hu
  · obtain ⟨cells, hk⟩ := h.kind ad he
    exact ⟨cells, (hs ad cells he hk).trans hk⟩

theorem Mag.below {w w' : World} {A : Option Addr} {l : List Int} (h : Mag w A l) (hb : Below w.heap.size w w') : Mag w' A l :=
  h.step fun ad cells _ hk => hb.block ad.block (blk_lt hk)

/-- z is the block of a number. -/
def IsBig (w : World) (z : Nat) : Prop := ∃ a b, w.heap[z]? = some (.cells #[a, b] 85 (0, 0))

theorem Mag.keep {w w' : World} {A : Option Addr} {l : List Int} {z : Nat} (h : Mag w A l) (hz : IsBig w z) (hk : KeepBut w w' z none) : Mag w' A l :=
  h.step fun ad cells _ hc => hk.2 ad.block (blk_lt hc) (by
    intro e
    obtain ⟨a, b, hz⟩ := hz
    rw [e, hz] at hc
    injection hc with hc
    injection hc with _ ht
    exact absurd ht (by decide)) (by simp)

theorem Mag.take {w : World} {A : Option Addr} {l : List Int} (h : Mag w A l) {m : Nat} (hm : m ≤ l.length) : Mag w A (l.take m) := ⟨Kd.C_take h.reads hm, h.kind⟩

/-- The block g holds the number X with a sign. -/
def Big (w : World) (g : Nat) (neg : Bool) (X : Nat) : Prop :=
  ∃ A c, w.heap[g]? = some (.cells #[.bool neg, .slice A (dw X).length c] 85 (0, 0)) ∧ (dw X).length ≤ c ∧ Mag w A (dw X)

theorem Big.isBig {w : World} {g X : Nat} {neg : Bool} (h : Big w g neg X) : IsBig w g := by
  obtain ⟨A, c, hb, _⟩ := h
  exact ⟨_, _, hb⟩
theorem Big.below {w w' : World} {g X : Nat} {neg : Bool} (h : Big w g neg X) (hb : Below w.heap.size w w') : Big w' g neg X := by
  obtain ⟨A, c, h1, h2, h3⟩ := h
  exact ⟨A, c, blk_below h1 hb, h2, h3.below hb⟩
theorem Big.keep {w w' : World} {g X z : Nat} {neg : Bool} (h : Big w g neg X) (hz : IsBig w z) (hk : KeepBut w w' z none) (hne : g ≠ z) : Big w' g neg X := by
  obtain ⟨A, c, h1, h2, h3⟩ := h
  exact ⟨A, c, hk.blk h1 hne (by simp), h2, h3.keep hz hk⟩
theorem Big.lt {w : World} {g X : Nat} {neg : Bool} (h : Big w g neg X) : g < w.heap.size := by
  obtain ⟨A, c, h1, _⟩ := h
  exact blk_lt h1
theorem IsBig.lt {w : World} {g : Nat} (h : IsBig w g) : g < w.heap.size := by
  obtain ⟨A, c, h1⟩ := h
  exact blk_lt h1

set_option maxHeartbeats 400000 in
/-- trimmed: the zeros at the end go; the world stays. -/
theorem trimmed_calls (A : Option Addr) (c n X : Nat) (w : World) (hn : n < 9223372036854775808) (hX : X < 4294967296 ^ n) (hm : Mag w A (ds n X)) (hc : n ≤ c) :
    Calls Tryd.prog 80 #[.slice A n c] w fun e w' => e = .returned (.slice A (lw X) c) ∧ w = w' := by
  have hle := lw_le hX
  have HM := Lib.hid hm
  have HX := Lib.hid hX
  clear hm hX
  go_enter Tryd.func80, Tryd.ntmps80
  go_wp2_with fail
  go_loop [0] (fun v => ∃ j : Nat, lw X ≤ j ∧ j ≤ n ∧ v = .slice A j c) (fun v => match v with | .slice _ j _ => j | _ => 0)
  case atStart => exact ⟨n, hle, Nat.le_refl _, rfl⟩
  case round =>
    obtain ⟨j, hj1, hj2, rfl⟩ := hrel
    cases j with
    | zero =>
      have h0 : lw X = 0 := by omega
      go_wp2_with fail
      go_ret
      exact ⟨rfl, rfl⟩
    | succ j =>
      obtain ⟨ad, hA, hcell⟩ := Kd.at_int HM.out.reads (j : Int) (by omega) (by rw [ds_length]; omega)
      subst hA
      rw [rd_ds (by omega), Int.toNat_natCast] at hcell
      obtain ⟨D, hD⟩ : ∃ D : Nat, dwt X j = D ∧ D < 4294967296 := ⟨_, rfl, dwt_lt X j⟩
      rw [hD.1] at hcell
      by_cases hz : D = 0
      · subst hz
        have hlt : lw X ≤ j := by
          refine Nat.le_of_not_lt fun hlt => ?_
          have he : lw X = j + 1 := by omega
          have h0 : X ≠ 0 := by intro h; subst h; simp [lw] at he
          have := top_ne h0
          rw [he, Nat.add_sub_cancel] at this
          exact this hD.1
        clear hD
        go_wp2_with fail
        exact ⟨⟨j, hlt, by omega, rfl⟩, Nat.lt_succ_self j⟩
      · have he : lw X = j + 1 := by
          refine Nat.le_antisymm hj1 (Nat.le_of_not_lt fun hlt => ?_)
          have h1 : X < 4294967296 ^ j := Nat.lt_of_lt_of_le (lt_lw X) (Nat.pow_le_pow_right (by decide) (by omega))
          rw [dwt_big h1] at hD
          omega
        go_wp2_with fail
        go_ret
        exact ⟨rfl, rfl⟩

/-- What a function on numbers that writes z answers: z's block, holding the number; of the rest nothing is touched. -/
def Puts (base z : Nat) (neg : Bool) (X : Nat) (w : World) (e : Ending) (w' : World) : Prop :=
  e = .returned (.pointer (some ⟨z, 0, none⟩)) ∧ Big w' z neg X ∧ Below base w w' ∧ KeepBut w w' z none

theorem keep_below {w w1 w2 : World} {z : Nat} (h : Below w.heap.size w w1) (h2 : KeepBut w1 w2 z none) : KeepBut w w2 z none :=
  ⟨Nat.le_trans h.size h2.1, fun i hi hne hr => (h2.2 i (Nat.lt_of_lt_of_le hi h.size) hne hr).trans (h.block i hi)⟩

theorem keep_set {w W : World} {z j : Nat} (h : KeepBut w W z none) (u : Value) : KeepBut w (W.setCell ⟨z, j, none⟩ u) z none :=
  ⟨by rw [World.size_setCell]; exact h.1, fun i hi hne hr => (heap_setCell_other _ _ _ _ hne).trans (h.2 i hi hne hr)⟩

theorem put_fin {z base X n c : Nat} {A : Option Addr} {w : World} {a b : Value} (v : Bool) (hk : w.heap[z]? = some (.cells #[a, b] 85 (0, 0))) (hb : base ≤ z) (hX : lw X ≤ n) (hm : Mag w A (ds n X)) (hc : n ≤ c) :
    Puts base z v X w (.returned (.pointer (some ⟨z, 0, none⟩))) ((w.setCell ⟨z, 1, none⟩ (.slice A (lw X) c)).setCell ⟨z, 0, none⟩ (.bool v)) := by
  have hkeep := keep_set (j := 0) (keep_set (j := 1) (KeepBut.refl w z none) (.slice A (lw X) c)) (.bool v)
  have k1 : (w.setCell ⟨z, 1, none⟩ (.slice A (lw X) c)).heap[z]? = some (.cells #[a, .slice A (lw X) c] 85 (0, 0)) := blk_put hk 1 _ rfl
  have k2 : ((w.setCell ⟨z, 1, none⟩ (.slice A (lw X) c)).setCell ⟨z, 0, none⟩ (.bool v)).heap[z]? = some (.cells #[.bool v, .slice A (lw X) c] 85 (0, 0)) := blk_put k1 0 _ rfl
  have hl : (dw X).length = lw X := ds_length _ _
  have hm2 : Mag w A (dw X) := by
    have h := hm.take (m := lw X) (by rw [ds_length]; exact hX)
    rwa [ds_take X hX] at h
  exact ⟨rfl, ⟨A, c, by rw [hl]; exact k2, by rw [hl]; omega, hm2.keep ⟨a, b, hk⟩ hkeep⟩, ((Below.refl base w).setCell hb _).setCell hb _, hkeep⟩

theorem lw_zero (X : Nat) : (0 < lw X) ↔ X ≠ 0 := by
  constructor
  · intro h h0; subst h0; simp [lw] at h
  · exact lw_pos

set_option maxHeartbeats 400000 in
/-- put: z becomes the number with a sign and digits. -/
theorem put_calls (z base : Nat) (neg : Bool) (A : Option Addr) (c n X : Nat) (w : World) (hz : IsBig w z) (hb : base ≤ z) (hn : n < 9223372036854775808) (hX : X < 4294967296 ^ n) (hm : Mag w A (ds n X)) (hc : n ≤ c) :
    Calls Tryd.prog 70 #[.pointer (some ⟨z, 0, none⟩), .bool neg, .slice A n c] w (Puts base z (neg && (X != 0)) X w) := by
  have HM := Lib.hid hm
  have HX := Lib.hid hX
  have hle := lw_le hX
  obtain ⟨a, b, hk⟩ := hz
  have HK := Lib.hid hk
  have h0 : w.cell? ⟨z, 0, none⟩ = some a := (blk_cell hk 0).trans rfl
  have h1 : w.cell? ⟨z, 1, none⟩ = some b := (blk_cell hk 1).trans rfl
  have hf0 := blk_frozen hk 0
  have hf1 := blk_frozen hk 1
  clear hm hX hk
  go_enter Tryd.func70, Tryd.ntmps70
  go_wp2_with (first | (go_at_call 80; refine (trimmed_calls A c n X _ hn HX.out HM.out hc).mono ?_; rintro e w1 ⟨rfl, rfl⟩))
  · subst_vars
    go_ret
    have e : (true && (X != 0)) = decide (0 < lw X) := by
      by_cases h : X = 0 <;> simp [lw_zero, h]
    rw [e]
    exact put_fin _ HK.out hb hle HM.out hc
  · have hn0 : neg = false := by simpa using ‹¬neg = true›
    subst hn0
    go_ret
    exact put_fin _ HK.out hb hle HM.out hc
end Go.Proofs.YtmedcpdjhgconaaDoor

/-! ### The program's big numbers: small ones made. -/
namespace Go.Proofs.YtmedcpdjhgconaaDoor
set_option linter.unusedVariables false
open Go.RowKit Go.Proofs.YtmedcpdjhgconaaDoorW.PrintWords Go.Proofs.YtmedcpdjhgconaaDoorW.PrintLast Go.Proofs.YtmedcpdjhgconaaDoorW.PrintMore Go.Proofs.YtmedcpdjhgconaaDoor.PFnExactFloatOf Go.Proofs.YtmedcpdjhgconaaDoor.Pure

theorem mag_at {W : World} {g : Nat} {cells : Array Value} {l : List Int} (hk : W.heap[g]? = some (.cells cells 103 (0, 0))) (hl : l.length ≤ 9223372036854775807) (hc : ∀ i : Nat, i < l.length → cells[i]? = some (.int .u32 (rd l (i : Int)))) :
    Mag W (some ⟨g, 0, none⟩) l := by
  refine ⟨Kd.C_of_reads (d := (0 : Int)) ⟨rfl, hl, fun hn => ⟨⟨g, 0, none⟩, rfl, fun j hj => ?_⟩⟩, fun ad he => ?_⟩
  · rw [add_plain, blk_cell hk, hc j hj]
    rfl
  · cases he
    exact ⟨cells, hk⟩

theorem Puts.from {base z X : Nat} {neg : Bool} {w W : World} {e : Ending} {w' : World} (h : Puts base z neg X W e w') (hb : base ≤ w.heap.size) (h2 : Below w.heap.size w W) : Puts base z neg X w e w' := by
  obtain ⟨h3, h4, h5, h6⟩ := h
  exact ⟨h3, h4, (h2.mono hb).trans h5, keep_below h2 h6⟩

theorem Puts.begin {base z X : Nat} {neg : Bool} {w W : World} {e : Ending} {w' : World} (h : Puts base z neg X W e w') (hbw : Below base w W) (h2 : Below w.heap.size w W) : Puts base z neg X w e w' := by
  obtain ⟨h3, h4, h5, h6⟩ := h
  exact ⟨h3, h4, hbw.trans h5, keep_below h2 h6⟩

theorem IsBig.below {w w' : World} {z : Nat} (h : IsBig w z) (hb : Below w.heap.size w w') : IsBig w' z := by
  obtain ⟨a, b, hk⟩ := h
  exact ⟨a, b, blk_below hk hb⟩

set_option maxHeartbeats 400000 in
/-- SetInt64 of a number that is not below 0. -/
theorem set_calls (z base N : Nat) (w : World) (hz : IsBig w z) (hb : base ≤ z) (hN : N < 9223372036854775808) :
    Calls Tryd.prog 75 #[.pointer (some ⟨z, 0, none⟩), .int .i64 (N : Int)] w (Puts base z false N w) := by
  have hW : Below w.heap.size w (w.alloc (.cells #[.int .u32 ((N : Int) % 4294967296), .int .u32 ((N : Int) / 4294967296)] 103)) := below_alloc (Below.refl _ _) _
  have hm : Mag (w.alloc (.cells #[.int .u32 ((N : Int) % 4294967296), .int .u32 ((N : Int) / 4294967296)] 103)) (some ⟨w.heap.size, 0, none⟩) (ds 2 N) := by
    refine mag_at (blk_new w _) (by rw [ds_length]; omega) fun i hi => ?_
    rw [ds_length] at hi
    rw [rd_ds hi]
    have h1 : (N : Int) % 4294967296 = dwt N 0 := by unfold dwt; rw [Nat.pow_zero, Nat.div_one]; omega
    have h2 : (N : Int) / 4294967296 = dwt N 1 := by unfold dwt; rw [Nat.pow_one]; omega
    have hi2 : i = 0 ∨ i = 1 := by omega
    rcases hi2 with rfl | rfl
    · rw [h1]; rfl
    · rw [h2]; rfl
  have hX : N < 4294967296 ^ 2 := by
    have : (4294967296 : Nat) ^ 2 = 18446744073709551616 := by decide
    omega
  have HW := Lib.hid hW
  have HM := Lib.hid hm
  have HX := Lib.hid hX
  have hneg : decide ((N : Int) < 0) = false := by simp
  have HZ := Lib.hid hz
  have hzl := hz.lt
  clear hW hm hX hz
  go_enter Tryd.func75, Tryd.ntmps75
  go_wp2_with (first | (go_at_call 70; (try rw [hneg]); refine (put_calls z base false _ 2 2 N _ (HZ.out.below HW.out) hb (by decide) HX.out HM.out (by decide)).mono ?_; rintro e w1 ⟨rfl, hp⟩; have HP := Lib.hid hp; clear hp))
  go_ret
  exact Puts.from ⟨rfl, HP.out⟩ (by omega) HW.out

theorem big_zero (w : World) : IsBig (w.alloc (.cells #[.bool false, .slice none 0 0] 85)) w.heap.size := ⟨_, _, blk_new w _⟩

/-- What a function answers that makes a number. -/
def Makes (neg : Bool) (X : Nat) (w : World) (e : Ending) (w' : World) : Prop := ∃ z, e = .returned (.pointer (some ⟨z, 0, none⟩)) ∧ Big w' z neg X ∧ w.heap.size ≤ z ∧ Below w.heap.size w w'

/-- A number that was just made, and then written. -/
theorem Puts.makes {X : Nat} {neg : Bool} {w : World} {e : Ending} {w' : World} (h : Puts w.heap.size w.heap.size neg X (w.alloc (.cells #[.bool false, .slice none 0 0] 85)) e w') : Makes neg X w e w' := by
  obtain ⟨h1, h2, h3, h4⟩ := h
  exact ⟨w.heap.size, h1, h2, Nat.le_refl _, (below_alloc (Below.refl _ _) _).trans h3⟩

set_option maxHeartbeats 400000 in
theorem new_calls (N : Nat) (w : World) (hN : N < 9223372036854775808) :
    Calls Tryd.prog 56 #[.int .i64 (N : Int)] w (Makes false N w) := by
  have HZ := Lib.hid (big_zero w)
  go_enter Tryd.func56, Tryd.ntmps56
  go_wp2_with (first | (go_at_call 75; refine (set_calls w.heap.size w.heap.size N _ HZ.out (Nat.le_refl _) hN).mono ?_; rintro e w1 ⟨rfl, hp⟩; have HP := Lib.hid hp; clear hp))
  go_ret
  exact Puts.makes ⟨rfl, HP.out⟩
end Go.Proofs.YtmedcpdjhgconaaDoor

/-! ### The program's big numbers: their signs. -/
namespace Go.Proofs.YtmedcpdjhgconaaDoor
set_option linter.unusedVariables false
open Go.RowKit Go.Proofs.YtmedcpdjhgconaaDoorW.PrintWords Go.Proofs.YtmedcpdjhgconaaDoorW.PrintLast Go.Proofs.YtmedcpdjhgconaaDoorW.PrintMore Go.Proofs.YtmedcpdjhgconaaDoor.PFnExactFloatOf Go.Proofs.YtmedcpdjhgconaaDoor.Pure

theorem sign_zero (x : Nat) (neg : Bool) (w : World) (hx : Big w x neg 0) :
    Calls Tryd.prog 50 #[.pointer (some ⟨x, 0, none⟩)] w fun e w' => e = .returned (.int .i64 0) ∧ w = w' := by
  obtain ⟨A, c, hk, hc, hm⟩ := hx
  have h0 : w.cell? ⟨x, 0, none⟩ = some (.bool neg) := (blk_cell hk 0).trans rfl
  have h1 : w.cell? ⟨x, 1, none⟩ = some (.slice A 0 c) := (blk_cell hk 1).trans rfl
  clear hk hm hc
  go_enter Tryd.func50, Tryd.ntmps50
  go_wp2_with fail
  go_ret
  exact ⟨rfl, rfl⟩

theorem sign_not (x X : Nat) (neg : Bool) (w : World) (hx : Big w x neg X) (h : X ≠ 0) :
    Calls Tryd.prog 50 #[.pointer (some ⟨x, 0, none⟩)] w fun e w' => e = .returned (.int .i64 (if neg then -1 else 1)) ∧ w = w' := by
  obtain ⟨A, c, hk, hc, hm⟩ := hx
  obtain ⟨n, hn⟩ : ∃ n, (dw X).length = n + 1 := ⟨lw X - 1, by rw [show (dw X).length = lw X from ds_length _ _]; have := lw_pos h; omega⟩
  have h0 : w.cell? ⟨x, 0, none⟩ = some (.bool neg) := (blk_cell hk 0).trans rfl
  have h1 : w.cell? ⟨x, 1, none⟩ = some (.slice A (n + 1) c) := by rw [← hn]; exact (blk_cell hk 1).trans rfl
  have hz : (((n + 1 : Nat) : Int) == 0) = false := by simp; omega
  clear hk hm hc h
  cases neg
  · go_enter Tryd.func50, Tryd.ntmps50
    go_wp2_with fail
    go_ret
    exact ⟨rfl, rfl⟩
  · go_enter Tryd.func50, Tryd.ntmps50
    go_wp2_with fail
    go_ret
    exact ⟨rfl, rfl⟩
end Go.Proofs.YtmedcpdjhgconaaDoor

/-! ### The program's big numbers: the lowest bit. -/
namespace Go.Proofs.YtmedcpdjhgconaaDoor
set_option linter.unusedVariables false
open Go.RowKit Go.Proofs.YtmedcpdjhgconaaDoorW.PrintWords Go.Proofs.YtmedcpdjhgconaaDoorW.PrintLast Go.Proofs.YtmedcpdjhgconaaDoorW.PrintMore Go.Proofs.YtmedcpdjhgconaaDoor.PFnExactFloatOf Go.Proofs.YtmedcpdjhgconaaDoor.Pure

theorem and_bits (a : Nat) (ha : a < 4294967296) : Go.bits .and .u32 (a : Int) 1 = ((a % 2 : Nat) : Int) := by
  show IntKind.u32.wrap ((BitVec.ofInt 32 (a : Int) &&& BitVec.ofInt 32 1).toNat : Int) = _
  rw [BitVec.toNat_and, BitVec.toNat_ofInt, BitVec.toNat_ofInt, show ((a : Int) % ((2 ^ 32 : Nat) : Int)).toNat = a by omega, show ((1 : Int) % ((2 ^ 32 : Nat) : Int)).toNat = 1 by decide, Nat.and_one_is_mod, IntKind.wrap_u32]
  omega

set_option maxHeartbeats 400000 in
theorem bit0_calls (x X : Nat) (neg : Bool) (w : World) (hx : Big w x neg X) (h0 : X ≠ 0) :
    Calls Tryd.prog 57 #[.pointer (some ⟨x, 0, none⟩), .int .i64 0] w fun e w' => e = .returned (.int .u64 ((X % 2 : Nat) : Int)) ∧ w = w' := by
  obtain ⟨A, c, hk, hc, hm⟩ := hx
  have hlp := lw_pos h0
  rw [show (dw X).length = lw X from ds_length _ _] at hk
  have h1 : w.cell? ⟨x, 1, none⟩ = some (.slice A (lw X) c) := (blk_cell hk 1).trans rfl
  obtain ⟨ad, hA, hcell⟩ := Kd.at_int hm.reads (0 : Int) (by omega) (by rw [show (dw X).length = lw X from ds_length _ _]; omega)
  subst hA
  have hd : rd (dw X) (0 : Int) = ((X % 4294967296 : Nat) : Int) := by
    have h := rd_ds (n := lw X) (X := X) (i := 0) hlp
    have e : dwt X 0 = ((X % 4294967296 : Nat) : Int) := by unfold dwt; rw [Nat.pow_zero, Nat.div_one]
    rw [← e]
    exact h
  rw [hd] at hcell
  obtain ⟨D, hD⟩ : ∃ D, D = X % 4294967296 := ⟨_, rfl⟩
  rw [← hD] at hcell
  have hcell0 : w.cell? ad = some (.int .u32 (D : Int)) := by
    have e : ad.add (Int.toNat 0) = ad := by
      obtain ⟨b, o, p⟩ := ad
      simp [Addr.add]
      try (intro h; cases h; rfl)
    rw [e] at hcell
    exact hcell
  have hDl : D < 4294967296 := by omega
  have hX : X % 2 = D % 2 := by omega
  have hb := and_bits D hDl
  rw [hX]
  clear hk hc hm hd hD hX
  go_enter Tryd.func57, Tryd.ntmps57
  go_wp2_with fail
  go_ret
  exact ⟨by rw [Int.natCast_emod]; rfl, rfl⟩
end Go.Proofs.YtmedcpdjhgconaaDoor

/-! ### The program's big numbers: digits copied by append; Abs and Neg. -/
namespace Go.Proofs.YtmedcpdjhgconaaDoor
set_option linter.unusedVariables false
open Go.RowKit Go.Proofs.YtmedcpdjhgconaaDoorW.PrintWords Go.Proofs.YtmedcpdjhgconaaDoorW.PrintLast Go.Proofs.YtmedcpdjhgconaaDoorW.PrintMore Go.Proofs.YtmedcpdjhgconaaDoor.PFnExactFloatOf Go.Proofs.YtmedcpdjhgconaaDoor.Pure

theorem append_step {P : Program} {ops : Array Oper} {Q : Exit → Act → World → Prop} (w : World) {rest : List Oper} {o : Oper} {a : Act} (hgd : o.guard = none) (s x : Operand) (t : TypeId)
    (ho : o.op = .call { callee := .builtin .append, args := #[s, x], argTypes := #[t, t] }) (v u : Value) (hs : a.eval s = v) (hx : a.eval x = u) {v' : Value} {w' : World}
    (hr : (Builtin.append_ #[t, t] o.type #[v, u]).run P w = .ok v' w') (h : wpList P ops Q rest (a.put o.dst v') w') : wpList P ops Q (o :: rest) a w := by
  refine wpList_plain hgd fun K hK => ?_
  unfold Oper.wp execOp
  simp only [ho, resolve, invoke, builtin, Sem.run_bind, Sem.run_pure, Result.andThen_ok, List.map_toArray, List.map_cons, List.map_nil, hs, hx, hr]
  exact hK _ _ h

theorem info103 : ∃ i, Tryd.prog.info? 103 = some i ∧ i.zero = some (.int .u32 0) ∧ i.size = 1 ∧ i.bytes = 4 := by
  have h : (Tryd.prog.info? 103).map (fun i => (i.zero, i.size, i.bytes)) = some (some (.int .u32 0), 1, 4) := by kernel_rfl
  cases hi : Tryd.prog.info? 103 with
  | none => rw [hi] at h; cases h
  | some i =>
    rw [hi] at h
    simp only [Option.map_some, Option.some.injEq, Prod.mk.injEq] at h
    exact ⟨i, rfl, h.1, h.2.1, h.2.2⟩

/-- append([]uint32{}, x...): the digits again, in a block of their own. -/
theorem copy_run (w : World) (A : Option Addr) (c : Nat) (l : List Int) (hm : Mag w A l) (hl : l.length ≤ 1000000) (g : Nat) (hb : w.heap[g]? = some (.cells #[] 103 (0, 0))) (ty : TypeId) :
    ∃ A' c' w', (Builtin.append_ #[83, 83] ty #[.slice (some ⟨g, 0, none⟩) 0 0, .slice A l.length c]).run Tryd.prog w = .ok (.slice A' l.length c') w' ∧ l.length ≤ c' ∧ Mag w' A' l ∧ Below w.heap.size w w' := by
  obtain ⟨i, hi, hz, hs, hby⟩ := info103
  have hu := Tryd.underlying83
  by_cases hn : l.length = 0
  · have hle : l = [] := List.length_eq_zero_iff.1 hn
    subst hle
    have hsrc : Src Tryd.prog i.size 83 (.slice A 0 c) 0 [] w := by
      cases A with
      | none => exact Src.ofNil w hu c
      | some ad => exact Src.ofSlice w hu ad 0 c [] (by simp) (fun j u hj => by simp at hj) (fun u hu => by simp at hu)
    refine ⟨some ⟨g, 0, none⟩, 0, w, run_append_nothing w 83 83 ty 103 i hu hi _ 0 0 (Nat.le_refl _) _ hsrc, Nat.le_refl _, ?_, Below.refl _ _⟩
    exact mag_at hb (by simp) (fun i hi => absurd hi (by simp))
  · obtain ⟨ad, hA, hc⟩ := hm.reads.2.2 (by omega)
    subst hA
    have hcell : ∀ j u, (nums .u32 l)[j]? = some u → w.cell? (ad.add j) = some u := by
      intro j u hj
      simp only [nums, List.getElem?_map, Option.map_eq_some_iff] at hj
      obtain ⟨p, hp, rfl⟩ := hj
      obtain ⟨cs, h1, h2, h3⟩ := hc j p hp
      have h4 : cs = [.int .u32 p] := h2
      subst h4
      have := h3 0 _ rfl
      have hz : (Kd.int IntKind.u32).sz = 1 := rfl
      rw [hz, Nat.mul_one, Nat.add_zero] at this
      exact this
    have hsrc : Src Tryd.prog i.size 83 (.slice (some ad) l.length c) l.length (nums .u32 l) w := by
      refine Src.ofSlice w hu ad l.length c (nums .u32 l) (by rw [hs]; simp [nums]) hcell (fun u hu => ?_)
      simp only [nums, List.mem_map] at hu
      obtain ⟨p, _, rfl⟩ := hu
      rfl
    have hrun := run_append_grow_src w 83 83 ty 103 i (.int .u32 0) hu hi hz (some ⟨g, 0, none⟩) 0 0 [] (run_firstCells_some w.drew i.size 0 ⟨g, 0, none⟩ 0 0 [] (by simp) (fun j u hj => by simp at hj)) _ l.length (nums .u32 l) hsrc (by omega) (by omega) (by
      rw [hby]
      refine growslice_fits_wide (by omega) (by omega))
    rw [Nat.zero_add] at hrun
    refine ⟨_, _, _, hrun, grownCap_ge w l.length 0 103, ?_, (below_alloc (Below.refl _ _).drew _)⟩
    refine mag_at (cells := _) (blk_new w.drew _) (by omega) fun j hj => ?_
    rw [List.nil_append]
    have hjn : j < (nums .u32 l).length := by simp [nums]; exact hj
    rw [Array.getElem?_append_left (by simpa using hjn)]
    simp [nums, rd, hj]

theorem IsBig.alloc {w : World} {z : Nat} (h : IsBig w z) (o : Obj) : IsBig (w.alloc o) z := h.below (below_alloc (Below.refl _ _) o)

theorem lw_small {X : Nat} (h : lw X ≤ 1000000) : (dw X).length ≤ 1000000 := by rw [show (dw X).length = lw X from ds_length _ _]; exact h

set_option maxHeartbeats 400000 in
/-- Abs: z becomes the size of x (x may be z). -/
theorem abs_calls (z x base X : Nat) (neg : Bool) (w : World) (hz : IsBig w z) (hx : Big w x neg X) (hb : base ≤ z) (hl : lw X ≤ 1000000) :
    Calls Tryd.prog 52 #[.pointer (some ⟨z, 0, none⟩), .pointer (some ⟨x, 0, none⟩)] w (Puts base z false X w) := by
  have hxl := hx.lt
  have hzl := hz.lt
  obtain ⟨A, c, hk, hc, hm⟩ := hx
  have hB0 : Below w.heap.size w (w.alloc (.cells #[] 103)) := below_alloc (Below.refl _ _) _
  obtain ⟨A', c', W, hr, hc', hm', hB⟩ := copy_run (w.alloc (.cells #[] 103)) A c (dw X) (hm.below hB0) (lw_small hl) w.heap.size (blk_new w _) 83
  rw [show (dw X).length = lw X from ds_length _ _] at hr hc'
  have HR := Lib.hid hr
  have HM := Lib.hid hm'
  have HW := Lib.hid (hB0.trans (hB.mono hB0.size))
  have HZ := Lib.hid hz
  have h1 : w.cell? ⟨x, 1, none⟩ = some (.slice A (lw X) c) := by
    rw [← show (dw X).length = lw X from ds_length _ _]
    exact (blk_cell hk 1).trans rfl
  clear hk hm hz hr hm' hB hB0
  go_enter Tryd.func52, Tryd.ntmps52
  go_wp2_with (first | (at_builtin; refine append_step _ rfl _ _ 83 rfl (.slice (some ⟨w.heap.size, 0, none⟩) 0 0) (.slice A (lw X) c) (by rfl) (by rfl) HR.out ?_) | (go_at_call 70; refine (put_calls z base false A' c' (lw X) X _ (HZ.out.below HW.out) hb (by omega) (lt_lw X) HM.out (by omega)).mono ?_; rintro e w1 ⟨rfl, hp⟩; have HP := Lib.hid hp; clear hp))
  go_ret
  exact Puts.from ⟨rfl, HP.out⟩ (by omega) HW.out
theorem append_val {P : Program} {w : World} {o : Oper} {a : Act} (s x : Operand) (t : TypeId)
    (ho : o.op = .call { callee := .builtin .append, args := #[s, x], argTypes := #[t, t] }) (v u : Value) (hs : a.eval s = v) (hx : a.eval x = u) {v' : Value} {w' : World}
    (hr : (Builtin.append_ #[t, t] o.type #[v, u]).run P w = .ok v' w') : (execOp a.eval o).run P w = .ok (.value v') w' := by
  unfold execOp
  simp only [ho, resolve, invoke, builtin, Sem.run_bind, Sem.run_pure, Result.andThen_ok, List.map_toArray, List.map_cons, List.map_nil, hs, hx, hr]

set_option maxRecDepth 100000 in
set_option maxHeartbeats 400000 in
/-- Neg: z becomes the opposite of x (x may be z). -/
theorem neg_calls (z x base X : Nat) (neg : Bool) (w : World) (hz : IsBig w z) (hx : Big w x neg X) (hb : base ≤ z) (hl : lw X ≤ 1000000) :
    Calls Tryd.prog 68 #[.pointer (some ⟨z, 0, none⟩), .pointer (some ⟨x, 0, none⟩)] w (Puts base z (!neg && (X != 0)) X w) := by
  have hxl := hx.lt
  have hzl := hz.lt
  obtain ⟨A, c, hk, hc, hm⟩ := hx
  have hB0 : Below w.heap.size w (w.drew.alloc (.cells #[] 103)) := below_alloc (Below.refl _ _).drew _
  obtain ⟨A', c', W, hr, hc', hm', hB⟩ := copy_run (w.drew.alloc (.cells #[] 103)) A c (dw X) (hm.below hB0) (lw_small hl) w.heap.size (blk_new w.drew _) 83
  rw [show (dw X).length = lw X from ds_length _ _] at hr hc'
  have HR := Lib.hid hr
  have HM := Lib.hid hm'
  have HW := Lib.hid (hB0.trans (hB.mono hB0.size))
  have HZ := Lib.hid hz
  have h0 : w.cell? ⟨x, 0, none⟩ = some (.bool neg) := (blk_cell hk 0).trans rfl
  have h1 : w.cell? ⟨x, 1, none⟩ = some (.slice A (lw X) c) := by
    rw [← show (dw X).length = lw X from ds_length _ _]
    exact (blk_cell hk 1).trans rfl
  have hk0 := hk
  rw [show (dw X).length = lw X from ds_length _ _] at hk0
  clear hk hm hz hr hm' hB hB0
  have HX := Lib.hid hxl
  have HK := Lib.hid hk0
  clear hxl hk0
  go_enter Tryd.func68, Tryd.ntmps68
  go_wp2_with fail
  refine start_ (n := 14) (S := (fun w' => w'.cell? ⟨x, 0, none⟩ = some (.bool neg) ∧ w'.cell? ⟨x, 1, none⟩ = some (.slice A (lw X) c))) (ds := [12]) #[false, false, false, false, false, false, false, false, false, false, false, false, false, false] (by kernel_rfl) rfl rfl ⟨h0, h1⟩ (fun hHeld => ?_)
  refine pure_ (i := 0) (N := some 5) (v := ?_) (a' := ?_) #[true, false, false, false, false, false, false, false, false, false, false, false, false, false] rfl rfl (by kernel_rfl) (fun _ _ _ h => h) (Or.inl ⟨by rfl, ?_⟩) ?_ ?_
  rotate_left
  · intro w'
    go_simp
    with_reducible rfl
  rotate_left
  · simp only [Act.put, List.setIfInBounds_toArray, List.set_cons_zero, List.set_cons_succ]
    rfl
  refine pure_ (i := 1) (N := some 6) (v := ?_) (a' := ?_) #[true, true, false, false, false, false, false, false, false, false, false, false, false, false] rfl rfl (by kernel_rfl) (fun _ _ _ h => h) (Or.inl ⟨by rfl, ?_⟩) ?_ ?_
  rotate_left
  · intro w'
    go_simp
    with_reducible rfl
  rotate_left
  · simp only [Act.put, List.setIfInBounds_toArray, List.set_cons_zero, List.set_cons_succ]
    rfl
  refine pure_ (i := 2) (N := some 7) (v := ?_) (a' := ?_) #[true, true, true, false, false, false, false, false, false, false, false, false, false, false] rfl rfl (by kernel_rfl) (fun _ _ _ h => h) (Or.inl ⟨by rfl, ?_⟩) ?_ ?_
  rotate_left
  · intro w'
    go_simp
    with_reducible rfl
  rotate_left
  · simp only [Act.put, List.setIfInBounds_toArray, List.set_cons_zero, List.set_cons_succ]
    rfl
  refine pure_ (i := 3) (N := some 8) (v := ?_) (a' := ?_) #[true, true, true, true, false, false, false, false, false, false, false, false, false, false] rfl rfl (by kernel_rfl) (fun _ _ _ h => h) (Or.inl ⟨by rfl, ?_⟩) ?_ ?_
  rotate_left
  · intro w'
    go_simp
    with_reducible rfl
  rotate_left
  · simp only [Act.put, List.setIfInBounds_toArray, List.set_cons_zero, List.set_cons_succ]
    rfl
  refine take_ (i := 4) (N := some 9) (v := ?_) (a' := ?_) #[true, true, true, true, true, false, false, false, false, false, false, false, false, false] rfl rfl (by kernel_rfl) (fun _ _ _ h => h) (Or.inl ⟨by rfl, ?_⟩) hHeld ?_ ?_
  rotate_left
  · rintro w' ⟨s0, s1⟩
    go_simp
    with_reducible rfl
  rotate_left
  · simp only [Act.put, List.setIfInBounds_toArray, List.set_cons_zero, List.set_cons_succ]
    rfl
  refine pure_ (i := 5) (N := some 10) (v := ?_) (a' := ?_) #[true, true, true, true, true, true, false, false, false, false, false, false, false, false] rfl rfl (by kernel_rfl) (fun _ _ _ h => h) (Or.inl ⟨by rfl, ?_⟩) ?_ ?_
  rotate_left
  · intro w'
    go_simp
    with_reducible rfl
  rotate_left
  · simp only [Act.put, List.setIfInBounds_toArray, List.set_cons_zero, List.set_cons_succ]
    rfl
  refine pure_ (i := 7) (N := some 12) (v := ?_) (a' := ?_) #[true, true, true, true, true, true, false, true, false, false, false, false, false, false] rfl rfl (by kernel_rfl) (fun _ _ _ h => h) (Or.inl ⟨by rfl, ?_⟩) ?_ ?_
  rotate_left
  · intro w'
    go_simp
    with_reducible rfl
  rotate_left
  · simp only [Act.put, List.setIfInBounds_toArray, List.set_cons_zero, List.set_cons_succ]
    rfl
  refine pure_ (i := 8) (N := some 13) (v := ?_) (a' := ?_) #[true, true, true, true, true, true, false, true, true, false, false, false, false, false] rfl rfl (by kernel_rfl) (fun _ _ _ h => h) (Or.inl ⟨by rfl, ?_⟩) ?_ ?_
  rotate_left
  · intro w'
    go_simp
    with_reducible rfl
  rotate_left
  · simp only [Act.put, List.setIfInBounds_toArray, List.set_cons_zero, List.set_cons_succ]
    rfl
  refine pure_ (i := 9) (N := some 14) (v := ?_) (a' := ?_) #[true, true, true, true, true, true, false, true, true, true, false, false, false, false] rfl rfl (by kernel_rfl) (fun _ _ _ h => h) (Or.inl ⟨by rfl, ?_⟩) ?_ ?_
  rotate_left
  · intro w'
    go_simp
    with_reducible rfl
  rotate_left
  · simp only [Act.put, List.setIfInBounds_toArray, List.set_cons_zero, List.set_cons_succ]
    rfl
  refine take_ (i := 10) (N := some 15) (v := ?_) (a' := ?_) #[true, true, true, true, true, true, false, true, true, true, true, false, false, false] rfl rfl (by kernel_rfl) (fun _ _ _ h => h) (Or.inl ⟨by rfl, ?_⟩) hHeld ?_ ?_
  rotate_left
  · rintro w' ⟨s0, s1⟩
    go_simp
    with_reducible rfl
  rotate_left
  · simp only [Act.put, List.setIfInBounds_toArray, List.set_cons_zero, List.set_cons_succ]
    rfl
  refine one_ (i := 6) (N := some 11) #[true, true, true, true, true, true, true, true, true, true, true, false, false, false] rfl rfl (by kernel_rfl) (by decide) (fun K hK => ?_)
  refine value_ (v := .slice (some ⟨w.heap.size, 0, none⟩) 0 0) (w1 := w.drew.alloc (.cells #[] 103)) (by rfl) rfl ?_ ?_
  · go_simp
  refine hK.out _ _ ⟨(blk_cell (blk_alloc (blk_drew HK.out) _) 0).trans rfl, (blk_cell (blk_alloc (blk_drew HK.out) _) 1).trans rfl⟩ (fun hHeld => ?_)
  clear hK K
  refine norm_ (a' := ?_) ?_ ?_
  rotate_left
  · show Act.put _ (some 11) _ = _
    simp only [Act.put, List.setIfInBounds_toArray, List.set_cons_zero, List.set_cons_succ]
    rfl
  refine one_ (i := 11) (N := some 16) #[true, true, true, true, true, true, true, true, true, true, true, true, false, false] rfl rfl (by kernel_rfl) (by decide) (fun K hK => ?_)
  refine value_ (v := .slice A' (lw X) c') (w1 := W) (by rfl) rfl ?_ ?_
  · exact append_val _ _ 83 rfl (.slice (some ⟨w.heap.size, 0, none⟩) 0 0) (.slice A (lw X) c) (by rfl) (by rfl) HR.out
  refine hK.out _ _ ⟨(blk_cell (blk_below HK.out HW.out) 0).trans rfl, (blk_cell (blk_below HK.out HW.out) 1).trans rfl⟩ (fun hHeld => ?_)
  clear hK K
  refine norm_ (a' := ?_) ?_ ?_
  rotate_left
  · show Act.put _ (some 16) _ = _
    simp only [Act.put, List.setIfInBounds_toArray, List.set_cons_zero, List.set_cons_succ]
    rfl
  refine last_ (i := 12) (N := some 17) #[true, true, true, true, true, true, true, true, true, true, true, true, true, false] rfl rfl (by kernel_rfl) (by decide) (fun K hK => ?_)
  refine goes_ Tryd.func70 (by kernel_rfl) rfl #[.pointer (some ⟨z, 0, none⟩), .bool (!neg), .slice A' (lw X) c'] (by rfl) rfl rfl (by (try simp only [List.map_toArray, List.map_cons, List.map_nil]); first | done | rfl) ?_
  refine (put_calls z base (!neg) A' c' (lw X) X _ (HZ.out.below HW.out) hb (by omega) (lt_lw X) HM.out (by omega)).mono ?_
  rintro e w1 ⟨rfl, hp⟩
  have HP := Lib.hid hp
  clear hp
  refine ⟨_, rfl, ?_⟩
  refine hK.out _ _ ?_
  clear hK K
  refine norm_ (a' := ?_) ?_ ?_
  rotate_left
  · show Act.put _ (some 17) _ = _
    simp only [Act.put, List.setIfInBounds_toArray, List.set_cons_zero, List.set_cons_succ]
    rfl
  refine pure_ (i := 13) (N := some 4) (v := ?_) (a' := ?_) #[true, true, true, true, true, true, true, true, true, true, true, true, true, true] rfl rfl (by kernel_rfl) (fun _ _ _ h => h) (Or.inl ⟨by rfl, ?_⟩) ?_ ?_
  rotate_left
  · intro w'
    go_simp
    with_reducible rfl
  rotate_left
  · simp only [Act.put, List.setIfInBounds_toArray, List.set_cons_zero, List.set_cons_succ]
    rfl
  refine done_ (by kernel_rfl) ?_
  go_wp2_with fail
  go_ret
  exact Puts.from ⟨rfl, HP.out⟩ (by omega) HW.out
end Go.Proofs.YtmedcpdjhgconaaDoor

/-! ### One round of Lsh, in plain numbers: a digit times 2^r, laid over the digits so far. -/
namespace Go.Proofs.YtmedcpdjhgconaaDoor
set_option linter.unusedVariables false
open Go.Proofs.YtmedcpdjhgconaaDoor.Pure

theorem ds_set (n X p : Nat) (v : Int) : (ds n X).set p v = lst n (fun i => if i = p then v else dwt X i) := lst_set n (dwt X) p v

/-- What is laid down behind i rounds. -/
def laid (X k i : Nat) : Nat := X % 4294967296 ^ i * 2 ^ k

theorem laid_next (X k i : Nat) : laid X k (i + 1) = laid X k i + X / 4294967296 ^ i % 4294967296 * 4294967296 ^ i * 2 ^ k := by
  unfold laid
  rw [Nat.pow_succ, Nat.mod_mul, Nat.add_mul]
  congr 2
  rw [Nat.mul_comm]

theorem carry_key (t P w lo hi : Nat) (h1 : t < P) (h2 : lo + P ≤ 4294967296) (h3 : 4294967296 * hi + lo = w) : (t + w) / 4294967296 = hi ∧ (t + w) % 4294967296 = t + lo := by
  constructor <;> omega

theorem laid_round {X q r i n : Nat} (hr : r < 32) (hn : i + q + 1 < n) :
    ((ds n (laid X (32 * q + r) i)).set (i + q) ((laid X (32 * q + r) i / 4294967296 ^ (i + q) + X / 4294967296 ^ i % 4294967296 * 2 ^ r % 4294967296 : Nat) : Int)).set (i + q + 1) ((X / 4294967296 ^ i % 4294967296 * 2 ^ r / 4294967296 : Nat) : Int)
      = ds n (laid X (32 * q + r) (i + 1)) ∧ laid X (32 * q + r) i / 4294967296 ^ (i + q) < 2 ^ r ∧ dwt (laid X (32 * q + r) i) (i + q) = ((laid X (32 * q + r) i / 4294967296 ^ (i + q) : Nat) : Int) ∧
      laid X (32 * q + r) i / 4294967296 ^ (i + q) ||| X / 4294967296 ^ i % 4294967296 * 2 ^ r % 4294967296 = laid X (32 * q + r) i / 4294967296 ^ (i + q) + X / 4294967296 ^ i % 4294967296 * 2 ^ r % 4294967296 := by
  have hp : (2 : Nat) ^ (32 * q + r) = 4294967296 ^ q * 2 ^ r := by rw [Nat.pow_add, ← W_pow]
  have hd := dwt_lt X i
  have hY : laid X (32 * q + r) i < 4294967296 ^ (i + q) * 2 ^ r := by
    unfold laid
    rw [hp, ← Nat.mul_assoc, Nat.pow_add]
    exact Nat.mul_lt_mul_of_pos_right (Nat.mul_lt_mul_of_pos_right (Nat.mod_lt _ (W_pos i)) (W_pos q)) (Nat.two_pow_pos r)
  have hnx : laid X (32 * q + r) (i + 1) = laid X (32 * q + r) i + X / 4294967296 ^ i % 4294967296 * 2 ^ r * 4294967296 ^ (i + q) := by
    rw [laid_next, hp, Nat.pow_add]
    congr 1
    simp only [Nat.mul_assoc, Nat.mul_comm, Nat.mul_left_comm]
  have hr2 : (2 : Nat) ^ r ≤ 2 ^ 31 := Nat.pow_le_pow_right (by decide) (by omega)
  have hr31 : (2 : Nat) ^ 31 = 2147483648 := by decide
  rw [hr31] at hr2
  have hrr : 4294967296 = 2 ^ r * 2 ^ (32 - r) := by rw [← Nat.pow_add, show r + (32 - r) = 32 by omega]
  generalize laid X (32 * q + r) (i + 1) = Z at *
  generalize laid X (32 * q + r) i = Y at *
  generalize X / 4294967296 ^ i % 4294967296 = D at *
  have ht : Y / 4294967296 ^ (i + q) < 2 ^ r := by rw [Nat.div_lt_iff_lt_mul (W_pos _), Nat.mul_comm]; exact hY
  have hpr := Nat.two_pow_pos r
  -- the low part is a multiple of 2^r
  obtain ⟨u, hu⟩ : ∃ u, D * 2 ^ r % 4294967296 = 2 ^ r * u := by
    refine ⟨D % 2 ^ (32 - r), ?_⟩
    conv => lhs; rw [hrr, Nat.mul_comm D, Nat.mul_mod_mul_left]
  have hul : 2 ^ r * u + 2 ^ r ≤ 4294967296 := by
    have h1 : 2 ^ r * u < 2 ^ r * 2 ^ (32 - r) := by rw [← hu, ← hrr]; exact Nat.mod_lt _ (by decide)
    have h2 : u < 2 ^ (32 - r) := Nat.lt_of_mul_lt_mul_left h1
    have h3 : 2 ^ r * (u + 1) ≤ 2 ^ r * 2 ^ (32 - r) := Nat.mul_le_mul_left _ (by omega)
    rw [← hrr, Nat.mul_add, Nat.mul_one] at h3
    exact h3
  have hdm := Nat.div_add_mod (D * 2 ^ r) 4294967296
  have hZ : Z / 4294967296 ^ (i + q) = Y / 4294967296 ^ (i + q) + D * 2 ^ r := by rw [hnx, Nat.add_mul_div_right _ _ (W_pos _)]
  have hhigh : D * 2 ^ r / 4294967296 < 4294967296 := by
    have : D * 2 ^ r ≤ 4294967295 * 2147483648 := Nat.mul_le_mul (by omega) hr2
    omega
  have hkey := carry_key (Y / 4294967296 ^ (i + q)) (2 ^ r) (D * 2 ^ r) (2 ^ r * u) (D * 2 ^ r / 4294967296) ht hul (by rw [← hu]; exact hdm)
  have hZ1 : Z / 4294967296 ^ (i + q + 1) = D * 2 ^ r / 4294967296 := by
    rw [Nat.pow_succ, ← Nat.div_div_eq_div_mul, hZ]
    exact hkey.1
  refine ⟨?_, ht, ?_, ?_⟩
  · rw [ds_set, lst_set]
    refine lst_ext fun j hj => ?_
    by_cases h1 : j = i + q + 1
    · rw [if_pos h1, h1]
      unfold dwt
      rw [hZ1, Nat.mod_eq_of_lt hhigh]
    · rw [if_neg h1]
      by_cases h2 : j = i + q
      · rw [if_pos h2, h2]
        unfold dwt
        rw [hZ, hkey.2, hu]
      · rw [if_neg h2]
        by_cases h3 : j < i + q
        · unfold dwt
          obtain ⟨v, hv⟩ : ∃ v, i + q = j + 1 + v := ⟨i + q - j - 1, by omega⟩
          have e : D * 2 ^ r * 4294967296 ^ (i + q) = 4294967296 ^ j * (4294967296 * (D * 2 ^ r * 4294967296 ^ v)) := by
            rw [hv, Nat.pow_add, Nat.pow_succ]
            simp only [Nat.mul_assoc, Nat.mul_comm, Nat.mul_left_comm]
          rw [hnx, e, Nat.add_mul_div_left _ _ (W_pos j), Nat.add_mul_mod_self_left]
        · have hpj : 4294967296 ^ (i + q + 2) ≤ 4294967296 ^ j := Nat.pow_le_pow_right (by decide) (by omega)
          have h4 : Y < 4294967296 ^ j := by
            have e3 : 4294967296 ^ (i + q) * 2 ^ r ≤ 4294967296 ^ (i + q + 2) := by
              rw [Nat.pow_add 4294967296 (i + q) 2]
              refine Nat.mul_le_mul_left _ ?_
              have : (4294967296 : Nat) ^ 2 = 18446744073709551616 := by decide
              omega
            exact Nat.lt_of_lt_of_le hY (Nat.le_trans e3 hpj)
          have h5 : Z < 4294967296 ^ j := by
            refine Nat.lt_of_lt_of_le ?_ hpj
            rw [Nat.pow_succ, ← Nat.div_lt_iff_lt_mul (by decide), show i + q + 1 = (i + q) + 1 from rfl, Nat.pow_succ, ← Nat.div_lt_iff_lt_mul (by decide), Nat.div_div_eq_div_mul]
            rw [Nat.div_lt_iff_lt_mul (by decide)]
            have h6 := Nat.div_add_mod Z (4294967296 ^ (i + q))
            have h7 := Nat.mod_lt Z (W_pos (i + q))
            have h8 : Z / 4294967296 ^ (i + q) < 4294967296 * 4294967296 := by rw [hZ]; omega
            have h9 : 4294967296 ^ (i + q) * (Z / 4294967296 ^ (i + q) + 1) ≤ 4294967296 ^ (i + q) * (4294967296 * 4294967296) := Nat.mul_le_mul_left _ h8
            rw [Nat.mul_add, Nat.mul_one] at h9
            omega
          rw [dwt_big h4, dwt_big h5]
  · unfold dwt
    rw [Nat.mod_eq_of_lt (by omega)]
  · have h := Nat.two_pow_add_eq_or_of_lt ht u
    rw [hu, Nat.or_comm, ← h]
    exact Nat.add_comm _ _
end Go.Proofs.YtmedcpdjhgconaaDoor

/-! ### The program's big numbers: a number times a power of two. -/
namespace Go.Proofs.YtmedcpdjhgconaaDoor
set_option linter.unusedVariables false
open Go.RowKit Go.Proofs.YtmedcpdjhgconaaDoorW.PrintWords Go.Proofs.YtmedcpdjhgconaaDoorW.PrintLast Go.Proofs.YtmedcpdjhgconaaDoorW.PrintMore Go.Proofs.YtmedcpdjhgconaaDoor.PFnExactFloatOf Go.Proofs.YtmedcpdjhgconaaDoor.Pure

theorem or_bits (a b : Nat) (ha : a < 4294967296) (hb : b < 4294967296) : Go.bits .or .u32 (a : Int) (b : Int) = ((a ||| b : Nat) : Int) := by
  show IntKind.u32.wrap ((BitVec.ofInt 32 (a : Int) ||| BitVec.ofInt 32 (b : Int)).toNat : Int) = _
  have h := Nat.or_lt_two_pow (n := 32) (x := a) (y := b) (by omega) (by omega)
  rw [BitVec.toNat_or, BitVec.toNat_ofInt, BitVec.toNat_ofInt, show ((a : Int) % ((2 ^ 32 : Nat) : Int)).toNat = a by omega, show ((b : Int) % ((2 ^ 32 : Nat) : Int)).toNat = b by omega, IntKind.wrap_u32]
  omega
theorem cell_ds {W : World} {g n X p : Nat} (h : W.heap[g]? = some (.cells (nums .u32 (ds n X)).toArray 103 (0, 0))) (hp : p < n) : W.cell? ⟨g, p, none⟩ = some (.int .u32 (dwt X p)) := by
  rw [blk_cell h]
  simp [nums, ds, lst, hp]
theorem made_ds (n : Nat) : (nums .u32 (ds n 0)).toArray = madeCells (Value.int IntKind.u32 0).cells n := by
  apply Array.ext
  · simp [nums, ds, lst, madeCells]
  · intro i h1 h2
    simp [nums, ds, lst, madeCells, dwt, Value.cells, Nat.mod_one]

set_option maxRecDepth 100000 in
set_option maxHeartbeats 1000000 in
/-- Lsh: z becomes x times 2^k (x may be z). -/
theorem lsh_calls (z x base X k : Nat) (neg : Bool) (w : World) (hz : IsBig w z) (hx : Big w x neg X) (hb : base ≤ z) (hl : lw X ≤ 100000) (hk : k ≤ 100000) :
    Calls Tryd.prog 67 #[.pointer (some ⟨z, 0, none⟩), .pointer (some ⟨x, 0, none⟩), .int .u64 (k : Int)] w (Puts base z (neg && (X != 0)) (X * 2 ^ k) w) := by
  have hxl := hx.lt
  have hzl := hz.lt
  obtain ⟨A, c, hkx, hc, hm⟩ := hx
  have hkk := hkx
  rw [show (dw X).length = lw X from ds_length _ _] at hkk hc
  have HM := Lib.hid hm
  have HZ := Lib.hid hz
  have HK := Lib.hid hkk
  have h0 : w.cell? ⟨x, 0, none⟩ = some (.bool neg) := (blk_cell hkk 0).trans rfl
  have h1 : w.cell? ⟨x, 1, none⟩ = some (.slice A (lw X) c) := (blk_cell hkk 1).trans rfl
  obtain ⟨q, r, hkq, hr⟩ : ∃ q r : Nat, k = 32 * q + r ∧ r < 32 := ⟨k / 32, k % 32, by omega, by omega⟩
  have hq : q ≤ 100000 := by omega
  have HKQ := Lib.hid hkq
  have HRR := Lib.hid hr
  obtain ⟨i, hi, hiz, his, hib⟩ := info103
  have hmk : ∀ w : World, (Instr.makeSlice 83 (.int .i64 ((lw X : Int) + (k : Int) / 32 + 1)) (.int .i64 ((lw X : Int) + (k : Int) / 32 + 1))).run Tryd.prog w = .ok (.slice (some ⟨w.heap.size, 0, none⟩) (lw X + q + 1) (lw X + q + 1)) (w.alloc (.cells (madeCells (Value.int IntKind.u32 0).cells (lw X + q + 1)) 103)) := by
    intro w
    have h := run_make w 83 103 i (.int .u32 0) Tryd.underlying83 hi hiz .i64 .i64 ((lw X : Int) + (k : Int) / 32 + 1) ((lw X : Int) + (k : Int) / 32 + 1) (by omega) (Int.le_refl _) (by rw [hib]; omega) (by omega)
    rw [his, Nat.mul_one, show ((lw X : Int) + (k : Int) / 32 + 1).toNat = lw X + q + 1 by omega] at h
    exact h
  clear hkx hkk hm hz hkq hr hi hiz his hib
  go_enter Tryd.func67, Tryd.ntmps67
  go_wp2_with (simp only [hmk])
  have HB0 := Lib.hid (below_alloc (Below.refl w.heap.size w) (.cells (madeCells (Value.int IntKind.u32 0).cells (lw X + q + 1)) 103))
  obtain ⟨m, hm⟩ : ∃ m, m = lw X := ⟨_, rfl⟩
  go_loopg [8, 9, 10, 27] (lw X) (fun kq v8 v9 v10 v27 w' => ∃ i : Nat, kq + i = lw X ∧ v27 = .int .i64 (i : Int) ∧ Hid (w'.heap[w.heap.size]? = some (.cells (nums .u32 (ds (lw X + q + 1) (laid X k i))).toArray 103 (0, 0))) ∧ Hid (Below w.heap.size w w'))
  case atStart =>
    refine ⟨0, rfl, rfl, ?_, HB0⟩
    refine Lib.hid ?_
    have e : (nums .u32 (ds (lw X + q + 1) (laid X k 0))).toArray = madeCells (Value.int IntKind.u32 0).cells (lw X + q + 1) := by
      rw [show laid X k 0 = 0 by unfold laid; rw [Nat.pow_zero, Nat.mod_one, Nat.zero_mul]]
      exact made_ds _
    rw [e]
    exact blk_new w _
  case round =>
    obtain ⟨i, hi, rfl, HC, HB⟩ := hrel
    cases gk with
    | zero =>
      have him : i = lw X := by omega
      subst him
      have hlaid : laid X k (lw X) = X * 2 ^ k := by unfold laid; rw [Nat.mod_eq_of_lt (lt_lw X)]
      have hlw : X * 2 ^ k < 4294967296 ^ (lw X + q + 1) := by
        have h1 : (2 : Nat) ^ k ≤ 4294967296 ^ (q + 1) := by rw [W_pow]; exact Nat.pow_le_pow_right (by decide) (by have := HKQ.out; have := HRR.out; omega)
        rw [show lw X + q + 1 = lw X + (q + 1) by omega, Nat.pow_add]
        exact Nat.lt_of_lt_of_le (Nat.mul_lt_mul_of_pos_right (lt_lw X) (Nat.two_pow_pos k)) (Nat.mul_le_mul_left _ h1)
      have HLW := Lib.hid hlw
      have HMM : Hid (Mag wr (some ⟨w.heap.size, 0, none⟩) (ds (lw X + q + 1) (X * 2 ^ k))) := by
        rw [← hlaid]
        refine Lib.hid (mag_at HC.out (by rw [ds_length]; omega) fun j hj => ?_)
        rw [ds_length] at hj
        rw [rd_ds hj]
        simp [nums, ds, lst, hj]
      have hx0 : wr.cell? ⟨x, 0, none⟩ = some (.bool neg) := (HB.out.cell (p := ⟨x, 0, none⟩) hxl).trans h0
      clear hlw hlaid
      go_wp2_with (first | (go_at_call 70; refine (put_calls z base neg (some ⟨w.heap.size, 0, none⟩) (lw X + q + 1) (lw X + q + 1) (X * 2 ^ k) _ (HZ.out.below HB.out) hb (by omega) HLW.out HMM.out (Nat.le_refl _)).mono ?_; rintro e w1 ⟨rfl, hp⟩; have HP := Lib.hid hp; clear hp))
      go_ret
      have e : (X != 0) = (X * 2 ^ k != 0) := by
        by_cases h : X = 0
        · simp [h]
        · have hp := Nat.mul_pos (Nat.pos_of_ne_zero h) (Nat.two_pow_pos k)
          have h2 : X * 2 ^ k ≠ 0 := by omega
          rw [show (X != 0) = true by simpa using h, show (X * 2 ^ k != 0) = true by simpa using h2]
      rw [e]
      exact Puts.from ⟨rfl, HP.out⟩ (by omega) HB.out
    | succ gk =>
      have hil : i < lw X := by omega
      obtain ⟨ad, hA, hcell⟩ := Kd.at_int (HM.out.below HB.out).reads (i : Int) (by omega) (by rw [show (dw X).length = lw X from ds_length _ _]; omega)
      subst hA
      rw [show dw X = ds (lw X) X from rfl, rd_ds hil, Int.toNat_natCast] at hcell
      have hrd := laid_round (X := X) (q := q) (r := r) (i := i) (n := lw X + q + 1) HRR.out (by omega)
      rw [← HKQ.out] at hrd
      obtain ⟨hr1, hr2, hr3, hr4⟩ := hrd
      have HR1 := Lib.hid hr1
      have HR2 := Lib.hid hr2
      have HR4 := Lib.hid hr4
      have hco : wr.cell? ⟨w.heap.size, i + q, none⟩ = some (.int .u32 ((laid X k i / 4294967296 ^ (i + q) : Nat) : Int)) := by
        rw [← hr3]
        exact cell_ds HC.out (by omega)
      have hidx : ((i : Int) + (k : Int) / 32).toNat = i + q := by have := HKQ.out; have := HRR.out; omega
      have hlen : (dwt X i) = ((X / 4294967296 ^ i % 4294967296 : Nat) : Int) := rfl
      rw [hlen] at hcell
      obtain ⟨D, hD⟩ : ∃ D, D = X / 4294967296 ^ i % 4294967296 := ⟨_, rfl⟩
      obtain ⟨T, hT⟩ : ∃ T, T = laid X k i / 4294967296 ^ (i + q) := ⟨_, rfl⟩
      rw [← hD] at hcell HR1 HR4
      rw [← hT] at hco HR1 HR2 HR4
      have hDlt : D < 4294967296 := by rw [hD]; exact Nat.mod_lt _ (by decide)
      have hwD : IntKind.u64.wrap (D : Int) = (D : Int) := by rw [IntKind.wrap_u64]; omega
      have hkr : k % 32 = r := by have := HKQ.out; have := HRR.out; omega
      have hsh : D * 2 ^ r < 18446744073709551616 := by
        have h1 : (2 : Nat) ^ r ≤ 2 ^ 31 := Nat.pow_le_pow_right (by decide) (by have := HRR.out; omega)
        have h2 : (2 : Nat) ^ 31 = 2147483648 := by decide
        have h3 : D * 2 ^ r ≤ 4294967295 * 2147483648 := Nat.mul_le_mul (by omega) (by omega)
        omega
      have hwS : IntKind.u64.wrap ((D : Int) * 2 ^ r) = ((D * 2 ^ r : Nat) : Int) := by
        have h9 : ((D * 2 ^ r : Nat) : Int) = (D : Int) * 2 ^ r := by push_cast; rfl
        rw [← h9, IntKind.wrap_u64]
        generalize D * 2 ^ r = Y at *
        omega
      have hf0 := blk_frozen HC.out (i + q)
      have hf1 := blk_frozen HC.out (i + k / 32 + 1)
      have hco1 : wr.cell? ⟨w.heap.size, i + k / 32 + 1, none⟩ = some (.int .u32 0) := by
        have hkq : k / 32 = q := by have := HKQ.out; have := HRR.out; omega
        have hc1 := cell_ds HC.out (p := i + q + 1) (by omega)
        rw [hkq, hc1]
        congr 2
        refine dwt_big ?_
        have h7 := Nat.div_add_mod (laid X k i) (4294967296 ^ (i + q))
        have h8 := Nat.mod_lt (laid X k i) (W_pos (i + q))
        have h9 : laid X k i / 4294967296 ^ (i + q) < 4294967296 := by
          rw [← hT]
          have h1 : (2 : Nat) ^ r ≤ 2 ^ 31 := Nat.pow_le_pow_right (by decide) (by have := HRR.out; omega)
          have h2 : (2 : Nat) ^ 31 = 2147483648 := by decide
          have h3 := HR2.out
          omega
        exact (Nat.div_lt_iff_lt_mul (W_pos _)).1 h9 |> fun h => by rw [show i + q + 1 = (i + q) + 1 from rfl, Nat.pow_succ, Nat.mul_comm]; exact h
      have HD := Lib.hid hD
      have HT := Lib.hid hT
      clear hr1 hr2 hr3 hr4 hlen hD hT hil
      go_wp2_with fail
      go_roundg gk
      case measure => omega
      case rel =>
        have hor : bits BinOp.or IntKind.u32 (T : Int) ((D : Int) * 2 ^ r % 4294967296) = ((T + D * 2 ^ r % 4294967296 : Nat) : Int) := by
          rw [← HR4.out]
          have h8 : ((D * 2 ^ r : Nat) : Int) = (D : Int) * 2 ^ r := by push_cast; rfl
          have h9 : (D : Int) * 2 ^ r % 4294967296 = ((D * 2 ^ r % 4294967296 : Nat) : Int) := by
            rw [← h8]
            generalize D * 2 ^ r = Y at *
            omega
          rw [h9]
          refine or_bits _ _ ?_ (Nat.mod_lt _ (by decide))
          have h1 : (2 : Nat) ^ r ≤ 2 ^ 31 := Nat.pow_le_pow_right (by decide) (by have := HRR.out; omega)
          have h2 : (2 : Nat) ^ 31 = 2147483648 := by decide
          have h3 := HR2.out
          omega
        have hhi : (D : Int) * 2 ^ r / 4294967296 % 4294967296 = ((D * 2 ^ r / 4294967296 : Nat) : Int) := by
          have h9 : ((D * 2 ^ r : Nat) : Int) = (D : Int) * 2 ^ r := by push_cast; rfl
          rw [← h9]
          generalize D * 2 ^ r = Y at *
          omega
        have hkq : k / 32 = q := by have := HKQ.out; have := HRR.out; omega
        rw [hor, hhi]
        refine ⟨i + 1, by omega, by push_cast; rfl, Lib.hid ?_, Lib.hid ?_⟩
        · have e1 : ∀ (l : List Int) (p : Nat) (v : Int), (nums .u32 l).toArray.setIfInBounds p (.int .u32 v) = (nums .u32 (l.set p v)).toArray := by
            intro l p v
            simp [nums, List.map_set]
          have k1 := blk_put HC.out (i + q) (.int .u32 ((T + D * 2 ^ r % 4294967296 : Nat) : Int)) (e1 _ _ _)
          have k2 := blk_put k1 (i + k / 32 + 1) (.int .u32 ((D * 2 ^ r / 4294967296 : Nat) : Int)) (e1 _ _ _)
          rw [hkq] at k2 ⊢
          rw [HR1.out] at k2
          exact k2
        · exact (HB.out.setCell (Nat.le_refl _) _).setCell (Nat.le_refl _) _
end Go.Proofs.YtmedcpdjhgconaaDoor

/-! ### The program's big numbers: shifted, upwards. -/
namespace Go.Proofs.YtmedcpdjhgconaaDoor
set_option linter.unusedVariables false
open Go.RowKit Go.Proofs.YtmedcpdjhgconaaDoorW.PrintWords Go.Proofs.YtmedcpdjhgconaaDoorW.PrintLast Go.Proofs.YtmedcpdjhgconaaDoorW.PrintMore Go.Proofs.YtmedcpdjhgconaaDoor.PFnExactFloatOf Go.Proofs.YtmedcpdjhgconaaDoor.Pure

set_option maxHeartbeats 400000 in
theorem shifted_up (x X k : Nat) (neg : Bool) (w : World) (hx : Big w x neg X) (hl : lw X ≤ 100000) (hk : k ≤ 100000) :
    Calls Tryd.prog 71 #[.pointer (some ⟨x, 0, none⟩), .int .i64 (k : Int)] w (Makes (neg && (X != 0)) (X * 2 ^ k) w) := by
  have HX := Lib.hid (hx.below (below_alloc (Below.refl w.heap.size w) (.cells #[.bool false, .slice none 0 0] 85)))
  have HZ := Lib.hid (big_zero w)
  clear hx
  go_enter Tryd.func71, Tryd.ntmps71
  go_wp2_with (first | (go_at_call 67; refine (lsh_calls w.heap.size x w.heap.size X k neg _ HZ.out HX.out (Nat.le_refl _) hl hk).mono ?_; rintro e w1 ⟨rfl, hp⟩; have HP := Lib.hid hp; clear hp))
  go_ret
  exact Puts.makes ⟨rfl, HP.out⟩
end Go.Proofs.YtmedcpdjhgconaaDoor
