/- The reference's FloatOf, walked: at a number that it takes, the nearest double, or ErrLimit where that is no number. -/
import Derived.Test.YtmedcpdjhgconaaDoorRound
import Derived.Test.YtmedcpdjhgconaaDoorIsd
namespace Go.Proofs.YtmedcpdjhgconaaDoor
open Go.RowKit Go.Proofs.YtmedcpdjhgconaaDoorW.PrintWords Go.Proofs.YtmedcpdjhgconaaDoorW.PrintLast Go.Proofs.YtmedcpdjhgconaaDoorW.PrintMore Go.Proofs.YtmedcpdjhgconaaDoor.PFnExactFloatOf Go.Proofs.YtmedcpdjhgconaaDoor.Pure Go.Proofs.YtmedcpdjhgconaaDoor.Fp

/-- A double that is no number. -/
def NoNumber (x : Nat) : Prop := ∀ s m q, FloatKind.f64.format.read x ≠ .number s m q

set_option maxHeartbeats 400000 in
theorem fit_yes (x : Nat) {s : Bool} {m : Nat} {q : Int} (h : FloatKind.f64.format.read x = .number s m q) (w : World) : Calls Tryd.prog 29 #[.float .f64 x] w fun e w' => e = .returned (.tuple #[.float .f64 x, .int .i64 0]) ∧ w = w' := by
  go_enter Tryd.func29, Tryd.ntmps29
  go_wp2_with (first | (go_at_call 23; refine (real_yes x s m q h _).mono ?_; rintro e w1 ⟨rfl, rfl⟩))
  go_ret2
  exact ⟨rfl, rfl⟩

set_option maxHeartbeats 400000 in
theorem fit_no (x : Nat) (h : NoNumber x) (w : World) : Calls Tryd.prog 29 #[.float .f64 x] w fun e w' => e = .returned (.tuple #[.float .f64 0, .int .i64 3]) ∧ w.drew = w' := by
  go_enter Tryd.func29, Tryd.ntmps29
  go_wp2_with (first | (go_at_call 23; refine (real_no x h _).mono ?_; rintro e w1 ⟨rfl, rfl⟩))
  go_ret2
  exact ⟨rfl, rfl⟩

set_option maxHeartbeats 400000 in
set_option maxRecDepth 100000 in
theorem round_zero (A : Option Addr) (c : Nat) (n : Nat) (w : World) : Calls Tryd.prog 22 #[.agg #[.int .i64 0, .slice A n c, .int .i64 0], .int .i64 53, .int .i64 (-1074)] w fun e w' => e = .returned (.float .f64 0) ∧ Below w.heap.size w w' := by
  have hb := below_alloc (Below.refl w.heap.size w) (.cells #[.int .i64 0, .slice A n c, .int .i64 0] 33)
  have HB := Lib.hid hb
  clear hb
  go_enter Tryd.func22, Tryd.ntmps22
  go_wp2_with fail
  go_ret
  exact ⟨rfl, HB.out⟩

set_option maxHeartbeats 400000 in
theorem spec_bad (s e : Int) (l : List Int) (k : Nat) (h : spec_l03Is.f k s l e = some false) (A : Option Addr) (c : Nat) (w : World) (hC : Kd.C (Kd.int .i64) w A l.length l) (hc : l.length ≤ c) :
    Calls Tryd.prog 12 #[.agg #[.int .i64 s, .slice A l.length c, .int .i64 e]] w fun e w' => e = .returned (.tuple #[.float .f64 0, .int .i64 1]) ∧ Below w.heap.size w w' := by
  have HC := Lib.hid hC
  have HL := Lib.hid hc
  have HI := Lib.hid h
  have hb := below_alloc (Below.refl w.heap.size w) (.cells #[.int .i64 s, .slice A l.length c, .int .i64 e] 33)
  have HB := Lib.hid hb
  clear hC hc hb h
  go_enter Tryd.func12, Tryd.ntmps12
  go_wp2_with (first | (go_at_call 21; refine (spec_l03Is.calls k s A c l e _ _ (Kd.C_alloc HC.out _) HL.out HI.out).mono ?_; rintro e w1 ⟨rfl, hB1⟩; have HB1 := Lib.hid hB1; clear hB1))
  go_ret2
  exact ⟨rfl, HB.out.trans (HB1.out.mono HB.out.size)⟩

set_option maxHeartbeats 400000 in
theorem spec_zero (k : Nat) (h : spec_l03Is.f k 0 [] 0 = some true) (A : Option Addr) (c : Nat) (w : World) (hC : Kd.C (Kd.int .i64) w A ([] : List Int).length []) (hc : ([] : List Int).length ≤ c) :
    Calls Tryd.prog 12 #[.agg #[.int .i64 0, .slice A ([] : List Int).length c, .int .i64 0]] w fun e w' => e = .returned (.tuple #[.float .f64 0, .int .i64 0]) ∧ Below w.heap.size w w' := by
  have HC := Lib.hid hC
  have HL := Lib.hid hc
  have HI := Lib.hid h
  have hb := below_alloc (Below.refl w.heap.size w) (.cells #[.int .i64 0, .slice A ([] : List Int).length c, .int .i64 0] 33)
  have hk := blk_new w (.cells #[.int .i64 0, .slice A ([] : List Int).length c, .int .i64 0] 33)
  have HB := Lib.hid hb
  have HK := Lib.hid hk
  have hrd : FloatKind.f64.format.read 0 = .number false 0 (-1074) := by decide +kernel
  clear hC hc hb h hk
  generalize hn : ([] : List Int).length = n at *
  go_enter Tryd.func12, Tryd.ntmps12
  go_wp2_with (first | (go_at_call 21; subst hn; refine (spec_l03Is.calls k 0 A c [] 0 _ _ (Kd.C_alloc HC.out _) HL.out HI.out).mono ?_; rintro e w1 ⟨rfl, hB1⟩; have HB1 := Lib.hid hB1; have HK1 := Lib.hid (blk_below HK.out hB1); have d0 : w1.cell? ⟨w.heap.size, 0, none⟩ = some (.int .i64 0) := (blk_cell HK1.out 0).trans rfl; have d1 : w1.cell? ⟨w.heap.size, 1, none⟩ = some (.slice A ([] : List Int).length c) := (blk_cell HK1.out 1).trans rfl; have d2 : w1.cell? ⟨w.heap.size, 2, none⟩ = some (.int .i64 0) := (blk_cell HK1.out 2).trans rfl; clear hB1) | (go_at_call 22; refine (round_zero A c _ _).mono ?_; rintro e w2 ⟨rfl, hB2⟩; have HB2 := Lib.hid hB2; clear hB2) | (go_at_call 29; refine (fit_yes 0 hrd _).mono ?_; rintro e w3 ⟨rfl, rfl⟩))
  go_ret2
  exact ⟨rfl, (HB.out.trans (HB1.out.mono HB.out.size)).trans (HB2.out.mono (Nat.le_trans HB.out.size HB1.out.size))⟩

/-- What FloatOf answers at a sign, an odd whole number and a place. -/
def Answer (s : Int) (X : Nat) (E : Int) (r : Nat) (c : Int) : Prop :=
  ((∃ m q, FloatKind.f64.format.read (near (decide (s < 0)) X E) = .number (decide (s < 0)) m q) ∧ r = near (decide (s < 0)) X E ∧ c = 0) ∨ (NoNumber (near (decide (s < 0)) X E) ∧ r = 0 ∧ c = 3)

theorem fit_any (s : Int) (X : Nat) (E : Int) (w : World) : Calls Tryd.prog 29 #[.float .f64 (near (decide (s < 0)) X E)] w fun e w' => ∃ r c, e = .returned (.tuple #[.float .f64 r, .int .i64 c]) ∧ Answer s X E r c ∧ Below w.heap.size w w' := by
  have hno (h : NoNumber (near (decide (s < 0)) X E)) : Calls Tryd.prog 29 #[.float .f64 (near (decide (s < 0)) X E)] w fun e w' => ∃ r c, e = .returned (.tuple #[.float .f64 r, .int .i64 c]) ∧ Answer s X E r c ∧ Below w.heap.size w w' := by
    refine (fit_no _ h w).mono ?_
    rintro e w' ⟨rfl, rfl⟩
    exact ⟨0, 3, rfl, Or.inr ⟨h, rfl, rfl⟩, (Below.refl _ _).drew⟩
  cases h : FloatKind.f64.format.read (near (decide (s < 0)) X E) with
  | nan a b => exact hno (fun a b c hh => by rw [h] at hh; cases hh)
  | infinity a => exact hno (fun a b c hh => by rw [h] at hh; cases hh)
  | number a m q =>
    refine (fit_yes _ h w).mono ?_
    rintro e w' ⟨rfl, rfl⟩
    refine ⟨_, 0, rfl, Or.inl ⟨⟨m, q, ?_⟩, rfl, rfl⟩, Below.refl _ _⟩
    have hw : near (decide (s < 0)) X E < 18446744073709551616 := by
      rw [near_eq, word_double]
      have : rungOf X E ≤ 2047 * 2 ^ 52 := by unfold rungOf; split <;> omega
      split <;> omega
    have hc := (mk_of_read hw h).2
    have h2 := near_eq (decide (s < 0)) X E
    rw [h]
    congr 1
    unfold mk at hc
    rw [h2, word_double, word_double] at hc
    have h3 : rungOf X E ≤ 2047 * 2 ^ 52 := by unfold rungOf; split <;> omega
    have h4 := mk_rung (mk_of_read hw h).1
    cases a <;> cases hd : decide (s < 0) <;> rw [hd] at hc <;> simp at hc ⊢ <;> omega

set_option maxHeartbeats 400000 in
theorem spec_num (k : Nat) (s E : Int) (X : Nat) (h : spec_l03Is.f k s (dg X) E = some true) (hs : s = 1 ∨ s = -1) (ho : X % 2 = 1) (hl : ln X ≤ 200) (hE : -5000 ≤ E ∧ E ≤ 5000) (A : Option Addr) (c : Nat) (w : World)
    (hC : Kd.C (Kd.int .i64) w A (dg X).length (dg X)) (hc : (dg X).length ≤ c) :
    Calls Tryd.prog 12 #[.agg #[.int .i64 s, .slice A (dg X).length c, .int .i64 E]] w fun e w' => ∃ r c, e = .returned (.tuple #[.float .f64 r, .int .i64 c]) ∧ Answer s X E r c ∧ Below w.heap.size w w' := by
  have HC := Lib.hid hC
  have HL := Lib.hid hc
  have HI := Lib.hid h
  have hb := below_alloc (Below.refl w.heap.size w) (.cells #[.int .i64 s, .slice A (dg X).length c, .int .i64 E] 33)
  have hk := blk_new w (.cells #[.int .i64 s, .slice A (dg X).length c, .int .i64 E] 33)
  have HB := Lib.hid hb
  have HK := Lib.hid hk
  clear hC hc hb h hk
  go_enter Tryd.func12, Tryd.ntmps12
  go_wp2_with (first | (go_at_call 21; refine (spec_l03Is.calls k s A c (dg X) E _ _ (Kd.C_alloc HC.out _) HL.out HI.out).mono ?_; rintro e w1 ⟨rfl, hB1⟩; have HB1 := Lib.hid hB1; have HC1 := Lib.hid (Kd.C_below (Kd.C_alloc HC.out (.cells #[.int .i64 s, .slice A (dg X).length c, .int .i64 E] 33)) hB1); have HK1 := Lib.hid (blk_below HK.out hB1); have d0 : w1.cell? ⟨w.heap.size, 0, none⟩ = some (.int .i64 s) := (blk_cell HK1.out 0).trans rfl; have d1 : w1.cell? ⟨w.heap.size, 1, none⟩ = some (.slice A (dg X).length c) := (blk_cell HK1.out 1).trans rfl; have d2 : w1.cell? ⟨w.heap.size, 2, none⟩ = some (.int .i64 E) := (blk_cell HK1.out 2).trans rfl; clear hB1) | (go_at_call 22; refine (round_calls s X E hs ho A c _ HC1.out HL.out (by omega) (by omega)).mono ?_; rintro e w2 ⟨rfl, hB2⟩; have HB2 := Lib.hid hB2; clear hB2) | (go_at_call 29; refine (fit_any s X E _).mono ?_; rintro e w3 ⟨r, co, rfl, ha, hB3⟩; have HA := Lib.hid ha; have HB3 := Lib.hid hB3; clear ha hB3))
  go_ret2
  exact ⟨r, co, rfl, HA.out, ((HB.out.trans (HB1.out.mono HB.out.size)).trans (HB2.out.mono (Nat.le_trans HB.out.size HB1.out.size))).trans (HB3.out.mono (Nat.le_trans (Nat.le_trans HB.out.size HB1.out.size) HB2.out.size))⟩
end Go.Proofs.YtmedcpdjhgconaaDoor
