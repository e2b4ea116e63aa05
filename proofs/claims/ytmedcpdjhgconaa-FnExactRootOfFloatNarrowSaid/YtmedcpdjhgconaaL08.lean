/- The reference's l03Round64 and l08Root: the root of a dyadic number, rounded. -/
import Derived.Test.YtmedcpdjhgconaaRound
import Derived.Test.YtmedcpdjhgconaaRoot
import Derived.Test.YtmedcpdjhgconaaMul
import Derived.Test.YtmedcpdjhgconaaDig2
namespace Go.Proofs.Ytmedcpdjhgconaa
open Go.RowKit Go.Proofs.YtmedcpdjhgconaaW.PrintWords Go.Proofs.YtmedcpdjhgconaaW.PrintLast Go.Proofs.YtmedcpdjhgconaaW.PrintMore Go.Proofs.Ytmedcpdjhgconaa.PFnExactRootOfFloat Go.Proofs.Ytmedcpdjhgconaa.Pure Go.Proofs.Ytmedcpdjhgconaa.Fp

theorem real_any (x : Nat) (w : World) : Calls Try.prog 10 #[.float .f64 x] w fun e w' => ∃ b, e = .returned (.bool b) ∧ Below w.heap.size w w' := by
  cases h : FloatKind.f64.format.read x with
  | number s m q =>
    refine (real_yes x s m q h w).mono ?_
    rintro e w' ⟨rfl, rfl⟩
    exact ⟨true, rfl, Below.refl _ _⟩
  | nan s t =>
    refine (real_no x (fun a b c hh => by rw [h] at hh; cases hh) w).mono ?_
    rintro e w' ⟨rfl, rfl⟩
    exact ⟨false, rfl, (Below.refl _ _).drew⟩
  | infinity s =>
    refine (real_no x (fun a b c hh => by rw [h] at hh; cases hh) w).mono ?_
    rintro e w' ⟨rfl, rfl⟩
    exact ⟨false, rfl, (Below.refl _ _).drew⟩

set_option maxHeartbeats 1000000 in
theorem round64_calls (a : Nat) (E : Int) (hodd : a % 2 = 1) (A : Option Addr) (c : Nat) (w : World) (hC : Kd.C (Kd.int .i64) w A (dg a).length (dg a)) (hc : (dg a).length ≤ c)
    (hl : ln a ≤ 300) (hE : -6000 ≤ E ∧ E ≤ 6000) :
    Calls Try.prog 24 #[.agg #[.int .i64 1, .slice A (dg a).length c, .int .i64 E]] w fun e w' => ∃ b, e = .returned (.tuple #[.float .f64 (near false a E), .bool b]) ∧ Below w.heap.size w w' := by
  have HC := Lib.hid hC
  have HL := Lib.hid hc
  clear hC hc
  go_enter Try.func24, Try.ntmps24
  have HBa := Lib.hid (below_alloc (Below.refl w.heap.size w) (.cells #[.int .i64 1, .slice A (dg a).length c, .int .i64 E] 38))
  go_wp2_with (first | (go_at_call 30; refine (round_calls 1 a E (Or.inl rfl) hodd A c _ (Kd.C_alloc HC.out _) HL.out hl hE).mono ?_; rintro e w1 ⟨rfl, hB1⟩; have HB1 := Lib.hid hB1; clear hB1; rw [show (decide ((1 : Int) < 0)) = false from rfl]) | (go_at_call 10; refine (real_any (near false a E) _).mono ?_; rintro e w2 ⟨b, rfl, hB2⟩; have HB2 := Lib.hid hB2; clear hB2))
  go_ret2
  exact ⟨b, rfl, (HBa.out.trans (HB1.out.mono HBa.out.size)).trans (HB2.out.mono (Nat.le_trans HBa.out.size HB1.out.size))⟩

/-- The root, as the reference takes it, of an odd whole number at a place. -/
theorem l08_calls (a : Nat) (E : Int) (hodd : a % 2 = 1) (h53 : a < 2 ^ 53) (hE : -1074 ≤ E ∧ E ≤ 1023) (hg : Fp.Good a E) (A : Option Addr) (c : Nat) (w : World) (hC : Kd.C (Kd.int .i64) w A (dg a).length (dg a)) (hc : (dg a).length ≤ c) :
    Calls Try.prog 14 #[.agg #[.int .i64 1, .slice A (dg a).length c, .int .i64 E]] w fun e w' => ∃ r b, e = .returned (.tuple #[.float .f64 r, .bool b]) ∧ Ieee.double.sqrt (near false a E) = some r ∧ Below w.heap.size w w' := by
  have HC := Lib.hid hC
  have HL := Lib.hid hc
  clear hC hc
  have ha : a ≠ 0 := by intro h; subst h; simp at hodd
  have hla : ln a ≤ 3 := ln_three h53
  have hlg : a.log2 ≤ 52 := log2_le (k := 52) h53
  have hlen := length_f 1 a 100 (by omega) (by omega)
  have HLEN := Lib.hid hlen
  clear hlen
  obtain ⟨B, hB⟩ : ∃ B, B = bl a := ⟨_, rfl⟩
  have hB1 : 1 ≤ B ∧ B ≤ 53 := by rw [hB]; unfold bl; rw [if_neg ha]; omega
  rw [← hB] at HLEN
  have HB0 := Lib.hid hB
  clear hB
  obtain ⟨k, hk, hk1, hk2⟩ : ∃ k : Nat, ((E - (120 - (B : Int))).tmod 2 = 0 ∧ (k : Int) = 120 - B ∨ (E - (120 - (B : Int))).tmod 2 ≠ 0 ∧ (k : Int) = 120 - B + 1) ∧ k ≤ 120 ∧ 67 ≤ k := by
    by_cases h : (E - (120 - (B : Int))).tmod 2 = 0
    · exact ⟨120 - B, Or.inl ⟨h, by omega⟩, by omega, by omega⟩
    · exact ⟨120 - B + 1, Or.inr ⟨h, by omega⟩, by omega, by omega⟩
  obtain ⟨c2, hc2⟩ : ∃ c2 : Int, E - (k : Int) = 2 * c2 := by
    have e : (E - (120 - (B : Int))).tmod 2 = 0 ↔ (E - (120 - (B : Int))) % 2 = 0 := by
      rw [← Int.dvd_iff_tmod_eq_zero, ← Int.dvd_iff_emod_eq_zero]
    rw [e] at hk
    exact ⟨(E - k) / 2, by omega⟩
  have hquo : (E - (k : Int)).tdiv 2 = c2 := by rw [hc2]; exact Int.mul_tdiv_cancel_left c2 (by decide)
  obtain ⟨N, hN⟩ : ∃ N, N = a * 2 ^ k := ⟨_, rfl⟩
  have hS1 : SameV N (2 * c2) a E := by rw [hN, ← hc2]; exact SameV.mulPow a E k
  have hNlo : 2 ^ 112 ≤ N := by
    have h1 : 2 ^ a.log2 ≤ a := Nat.log2_self_le ha
    have h2 : 112 ≤ a.log2 + k := by
      have := HB0.out
      unfold bl at this
      rw [if_neg ha] at this
      omega
    calc 2 ^ 112 ≤ 2 ^ (a.log2 + k) := Nat.pow_le_pow_right (by decide) h2
      _ = 2 ^ a.log2 * 2 ^ k := Nat.pow_add _ _ _
      _ ≤ a * 2 ^ k := Nat.mul_le_mul_right _ h1
      _ = N := hN.symm
  have hN0 : N ≠ 0 := by
    intro h
    subst h
    exact absurd hNlo (Nat.not_le.2 (Nat.two_pow_pos 112))
  have hlN : ln N ≤ 9 := by
    have := ln_shift a k
    rw [← hN] at this
    omega
  obtain ⟨R, hR⟩ : ∃ R, IsRoot N R := ⟨_, root_is N⟩
  have hR0 : R ≠ 0 := by intro h; subst h; have := hR.2; omega
  have hRR : R * R ≠ 0 := Nat.mul_ne_zero hR0 hR0
  have hlR : ln R ≤ 9 := by
    have h1 : R ≤ R * R := Nat.le_mul_of_pos_left R (Nat.pos_of_ne_zero hR0)
    exact Nat.le_trans (ln_mono (Nat.le_trans h1 hR.1)) hlN
  have hlRR : ln (R * R) ≤ 9 := Nat.le_trans (ln_mono hR.1) hlN
  have hsq := sqrt_law ha hg hS1 hNlo hR
  have HSQ := Lib.hid hsq
  have hleft : spec_l02Left.f 1000 1 (dg a) (k : Int) = some (1, dg N) := by
    have h := left_f 1 a k 1000 (by omega) (by omega) (by omega)
    rw [← hN] at h
    unfold sg at h
    rwa [if_neg hN0] at h
  have HLEFT := Lib.hid hleft
  have hroot : spec_l02Root.f 200000 1 (dg N) = some (1, dg R) := by
    have h := root_f N R 200000 hN0 hR (by omega) (by omega)
    unfold sg at h
    rwa [if_neg hR0] at h
  have HROOT := Lib.hid hroot
  have hmul : spec_l02Mul.f 2000000 1 (dg R) 1 (dg R) = some (1, dg (R * R)) := by
    have h := mul_f 1 1 R R 2000000 (w64 (by omega) (by omega)) (by omega) (by omega) (by omega)
    unfold sg at h
    rwa [if_neg hRR] at h
  have HMUL := Lib.hid hmul
  have hcmp : spec_l02Compare.f 1000 1 (dg (R * R)) 1 (dg N) = some (cmp (R * R) N) := by
    have h := compare_f (R * R) N 1000 (by omega) (by omega) (by omega)
    unfold sg at h
    rwa [if_neg hN0, if_neg hRR] at h
  have hlt : R * R ≤ N := hR.1
  obtain ⟨z, hz⟩ : ∃ z, z = cmp (R * R) N := ⟨_, rfl⟩
  rw [← hz] at hcmp
  have HZ := Lib.hid hz
  clear hz
  have HCMP := Lib.hid hcmp
  clear hsq hleft hroot hmul hcmp hS1 hNlo hg hR
  have HN := Lib.hid hN
  have HC2 := Lib.hid hc2
  have hc2r : -597 ≤ c2 ∧ c2 ≤ 478 := by omega
  clear hN hc2
  have hBa : Below w.heap.size w (w.alloc (.cells #[.int .i64 1, .slice A (dg a).length c, .int .i64 E] 38)) := below_alloc (Below.refl w.heap.size w) _
  have BKd : (w.alloc (.cells #[.int .i64 1, .slice A (dg a).length c, .int .i64 E] 38)).heap[w.heap.size]? = some (.cells #[.int .i64 1, .slice A (dg a).length c, .int .i64 E] 38 (0, 0)) := blk_new w _
  have HBa := Lib.hid hBa
  have HBD := Lib.hid BKd
  clear hBa BKd
  go_enter Try.func14, Try.ntmps14
  go_upto_if 20 with (first | (go_at_call 17; refine (spec_l02Length.calls 100 1 A c (dg a) _ _ (Kd.C_alloc HC.out _) HL.out HLEN.out).mono ?_; rintro e w1 ⟨rfl, hB1⟩; have HB1 := Lib.hid hB1; clear hB1; have BD1 : Hid (w1.heap[w.heap.size]? = some (.cells #[.int .i64 1, .slice A (dg a).length c, .int .i64 E] 38 (0, 0))) := Lib.hid (blk_below HBD.out HB1.out); have hd1_0 : w1.cell? ⟨w.heap.size, 0, none⟩ = some (.int .i64 1) := (blk_cell BD1.out 0).trans rfl; have hd1_1 : w1.cell? ⟨w.heap.size, 1, none⟩ = some (.slice A (dg a).length c) := (blk_cell BD1.out 1).trans rfl; have hd1_2 : w1.cell? ⟨w.heap.size, 2, none⟩ = some (.int .i64 E) := (blk_cell BD1.out 2).trans rfl))
  go_cut [4] (fun v wx => v = .int .i64 (k : Int) ∧ wx = w1)
  case first =>
    rcases hk with ⟨h, h'⟩ | ⟨h, h'⟩
    · go_wp2_with fail
      go_meet
      exact ⟨by rw [h'], rfl⟩
    · go_wp2_with fail
      go_meet
      exact ⟨by rw [h'], rfl⟩
  case rest =>
    obtain ⟨rfl, rfl⟩ := hcut
    have HKK := Lib.hid hk
    clear hk
    have HBw1 := Lib.hid (HBa.out.trans (HB1.out.mono HBa.out.size))
    have HC1 := Lib.hid (Kd.C_below (Kd.C_alloc HC.out (.cells #[.int .i64 1, .slice A (dg a).length c, .int .i64 E] 38)) HB1.out)
    go_wp2_with (first | (go_at_call 18; refine (spec_l02Left.calls 1000 1 A c (dg a) _ 1 (dg N) _ HC1.out HL.out HLEFT.out).mono ?_; rintro e w2 ⟨v2, rfl, hR2, hB2⟩; obtain ⟨A2, c2', rfl⟩ := Kd.R_slice hR2; have BD2 : Hid (w2.heap[w.heap.size]? = some (.cells #[.int .i64 1, .slice A (dg a).length c, .int .i64 E] 38 (0, 0))) := Lib.hid (blk_below BD1.out hB2); have HB2 : Hid (Below w.heap.size w w2) := Lib.hid (HBw1.out.trans (hB2.mono HBw1.out.size)); have HR2 : Hid (Kd.R (Kd.int .i64) 2 w2 w.heap.size (fun _ => True) (.slice A2 (dg N).length c2') (dg N)) := Lib.hid (Kd.R_lower hR2 HBw1.out.size); clear hR2 hB2) | (go_at_call 19; have HRn3 := Kd.R_alloc HR2.out (.cells #[.int .i64 1, .slice A2 (dg N).length c2'] 36); have BK3 := blk_new w2 (.cells #[.int .i64 1, .slice A2 (dg N).length c2'] 36); have BD3 := blk_alloc BD2.out (.cells #[.int .i64 1, .slice A2 (dg N).length c2'] 36); have hB3 := HB2.out.alloc HB2.out.size (.cells #[.int .i64 1, .slice A2 (dg N).length c2'] 36); refine (spec_l02Root.calls 200000 1 A2 c2' (dg N) _ _ _ (Kd.R_reads' HRn3).2.2 (Kd.R_reads' HRn3).2.1 HROOT.out).mono ?_; rintro e w4 ⟨v4, rfl, hR4, hB4⟩; obtain ⟨A4, c4, rfl⟩ := Kd.R_slice hR4; have BD4 := Lib.hid (blk_below BD3 hB4); have BK4 := Lib.hid (blk_below BK3 hB4); have HRn4 := Lib.hid (Kd.R_below HRn3 hB4); have HB4 := Lib.hid (hB3.trans (hB4.mono hB3.size)); have HRr4 := Lib.hid (Kd.R_lower hR4 hB3.size); have hd4_0 : w4.cell? ⟨w.heap.size, 0, none⟩ = some (.int .i64 1) := (blk_cell BD4.out 0).trans rfl; have hlt4 : w.heap.size < w4.heap.size := blk_lt BD4.out; have hd4_2 : w4.cell? ⟨w.heap.size, 2, none⟩ = some (.int .i64 E) := (blk_cell BD4.out 2).trans rfl; clear HRn3 BK3 BD3 hB3 hR4 hB4))
    have BK5 := blk_alloc BK4.out (.cells #[.int .i64 1, .slice A4 (dg R).length c4] 36)
    have BK6 := blk_new w4 (.cells #[.int .i64 1, .slice A4 (dg R).length c4] 36)
    have HRn5 := Kd.R_alloc HRn4.out (.cells #[.int .i64 1, .slice A4 (dg R).length c4] 36)
    have HRr5 := Kd.R_alloc HRr4.out (.cells #[.int .i64 1, .slice A4 (dg R).length c4] 36)
    have HB5 := HB4.out.alloc HB4.out.size (.cells #[.int .i64 1, .slice A4 (dg R).length c4] 36)
    obtain ⟨g5, hg5⟩ : ∃ g, g = w2.heap.size := ⟨_, rfl⟩
    obtain ⟨g6, hg6⟩ : ∃ g, g = w4.heap.size := ⟨_, rfl⟩
    have hlt6 : w.heap.size ≤ g6 := by rw [hg6]; exact HB4.out.size
    rw [← hg5] at BK5 ⊢
    rw [← hg6] at BK6 ⊢
    clear HBa HBD HB1 HBw1 HC1 BD2 HB2 HR2 BD4 BK4 HRn4 HB4 HRr4 hd4_0 hd4_2 hlt4 BD1 hd1_0 hd1_1 hd1_2
    generalize w4.alloc (.cells #[.int .i64 1, .slice A4 (dg R).length c4] 36) = W5 at *
    clear hg5 hg6 w4 w2
    have HBK5 := Lib.hid BK5
    have HBK6 := Lib.hid BK6
    have HHRn := Lib.hid HRn5
    have HHRr := Lib.hid HRr5
    have HHB := Lib.hid HB5
    clear BK5 BK6 HRn5 HRr5 HB5
    have h5_0 : W5.cell? ⟨g5, 0, none⟩ = some (.int .i64 1) := (blk_cell HBK5.out 0).trans rfl
    have h5_1 : W5.cell? ⟨g5, 1, none⟩ = some (.slice A2 (dg N).length c2') := (blk_cell HBK5.out 1).trans rfl
    have h6_0 : W5.cell? ⟨g6, 0, none⟩ = some (.int .i64 1) := (blk_cell HBK6.out 0).trans rfl
    have h6_1 : W5.cell? ⟨g6, 1, none⟩ = some (.slice A4 (dg R).length c4) := (blk_cell HBK6.out 1).trans rfl
    go_region_held3 (fun w' => w'.cell? ⟨g5, 0, none⟩ = some (.int .i64 1) ∧ w'.cell? ⟨g5, 1, none⟩ = some (.slice A2 (dg N).length c2') ∧ w'.cell? ⟨g6, 0, none⟩ = some (.int .i64 1) ∧ w'.cell? ⟨g6, 1, none⟩ = some (.slice A4 (dg R).length c4)) (go_keep) (first | (go_at_call 21; refine (spec_l02Mul.calls 2000000 1 A4 c4 (dg R) 1 A4 c4 (dg R) _ _ _ (Kd.R_reads' (Kd.R_drew HHRr.out)).2.2 (Kd.R_reads' HHRr.out).2.1 (Kd.R_reads' (Kd.R_drew HHRr.out)).2.2 (Kd.R_reads' HHRr.out).2.1 HMUL.out).mono ?_; rintro e w6 ⟨v6, rfl, hR6, hB6⟩; obtain ⟨A6, c6, rfl⟩ := Kd.R_slice hR6; have q0 := (hB6.cell (p := ⟨g5, 0, none⟩) (blk_lt (blk_drew HBK5.out))).trans h5_0; have q1 := (hB6.cell (p := ⟨g5, 1, none⟩) (blk_lt (blk_drew HBK5.out))).trans h5_1; have q2 := (hB6.cell (p := ⟨g6, 0, none⟩) (blk_lt (blk_drew HBK6.out))).trans h6_0; have q3 := (hB6.cell (p := ⟨g6, 1, none⟩) (blk_lt (blk_drew HBK6.out))).trans h6_1; have BK65 := Lib.hid (blk_below (blk_drew HBK5.out) hB6); have BK66 := Lib.hid (blk_below (blk_drew HBK6.out) hB6); have HRn6 := Lib.hid (Kd.R_below (Kd.R_drew HHRn.out) hB6); have HRr6 := Lib.hid (Kd.R_below (Kd.R_drew HHRr.out) hB6); have HB6 := Lib.hid (HHB.out.drew.trans (hB6.mono HHB.out.size)); have HR6 := Lib.hid hR6; clear hB6 hR6) | (go_at_call 20; refine (spec_l02Compare.calls 1000 1 A6 c6 (dg (R * R)) 1 A2 c2' (dg N) _ _ (Kd.R_reads' HR6.out).2.2 (Kd.R_reads' HR6.out).2.1 (Kd.R_reads' HRn6.out).2.2 (Kd.R_reads' HRn6.out).2.1 HCMP.out).mono ?_; rintro e w7 ⟨rfl, hB7⟩; have r0 := (hB7.cell (p := ⟨g5, 0, none⟩) (blk_lt BK65.out)).trans q0; have r1 := (hB7.cell (p := ⟨g5, 1, none⟩) (blk_lt BK65.out)).trans q1; have r2 := (hB7.cell (p := ⟨g6, 0, none⟩) (blk_lt BK66.out)).trans q2; have r3 := (hB7.cell (p := ⟨g6, 1, none⟩) (blk_lt BK66.out)).trans q3; have BK7 := Lib.hid (blk_below BK66.out hB7); have HRr7 := Lib.hid (Kd.R_below HRr6.out hB7); have HB7 := Lib.hid (HB6.out.trans (hB7.mono HB6.out.size)); clear hB7))
    clear HBK5 HBK6 HHRn HHRr HHB h5_0 h5_1 h6_0 h6_1 BK65 BK66 HRn6 HRr6 HB6 HR6 q0 q1 q2 q3
    by_cases hex : R * R = N
    · have hz0 : z = 0 := by rw [HZ.out, hex]; unfold cmp; rw [if_neg (by omega), if_pos rfl]
      subst hz0
      have hrb : rootBit N R = 2 * R := by unfold rootBit; rw [hex]; simp
      have HRB := Lib.hid hrb
      obtain ⟨t, ht1, ht2, ht3, ht4⟩ := odd_part hR0
      have hRl : R.log2 < 24 * ln R := by unfold ln; rw [if_neg hR0]; omega
      have hmk := make3_f 1 c2 R t 1000 (by omega) hR0 (by decide) ht1 ht2 ht4 (by omega) (by omega)
      have HMK := Lib.hid hmk
      have hlx : ln (R / 2 ^ t) ≤ 9 := Nat.le_trans (ln_mono (Nat.div_le_self _ _)) hlR
      have HT3 := Lib.hid ht3
      have HT1 := Lib.hid ht1
      clear hmk ht2 ht3 hrb ht1 hex
      go_wp2_with (first | (go_at_call 25; refine (spec_l03Make.calls 1000 1 A4 c4 (dg R) _ _ _ _ _ (Kd.R_reads' HRr7.out).2.2 (Kd.R_reads' HRr7.out).2.1 HMK.out).mono ?_; rintro e w8 ⟨v8, rfl, hR8, hB8⟩; obtain ⟨A8, c8, rfl⟩ := Kd.R_slice hR8; have HR8 := Lib.hid hR8; have HB8 := Lib.hid (HB7.out.trans (hB8.mono HB7.out.size)); clear hR8 hB8) | (go_at_call 24; refine (round64_calls (R / 2 ^ t) (c2 + t) HT1.out A8 c8 _ (Kd.R_reads' HR8.out).2.2 (Kd.R_reads' HR8.out).2.1 (by omega) (by omega)).mono ?_; rintro e w9 ⟨b, rfl, hB9⟩; have HB9 := Lib.hid (HB8.out.trans (hB9.mono HB8.out.size)); clear hB9))
      go_ret2
      refine ⟨_, b, rfl, ?_, HB9.out⟩
      rw [HSQ.out, HRB.out]
      congr 1
      refine near_same false ⟨0, t + 1, ?_, by omega⟩
      rw [Nat.pow_succ, ← Nat.mul_assoc, ← HT3.out]
      omega
    · have hz0 : z = -1 := by rw [HZ.out]; unfold cmp; rw [if_pos (by omega)]
      subst hz0
      have hbne : (R * R != N) = true := by simp [hex]
      have hrb : rootBit N R = R * 2 ^ 1 + 1 := by
        unfold rootBit
        rw [hbne, Bool.toNat_true, Nat.pow_one, Nat.mul_comm R 2]
      have HRB := Lib.hid hrb
      have hleft2 : spec_l02Left.f 1000 1 (dg R) 1 = some (1, dg (R * 2 ^ 1)) := by
        have h := left_f 1 R 1 1000 (by omega) (by omega) (by omega)
        unfold sg at h
        rwa [if_neg (by omega)] at h
      have HLEFT2 := Lib.hid hleft2
      have hof1 : spec_l02Of.f 400 1 = some (1, dg 1) := of_f 1 400 (by omega) (by omega)
      have HOF1 := Lib.hid hof1
      have hl2 : ln (R * 2 ^ 1) ≤ 10 := by
        have := ln_shift R 1
        omega
      have hadd : spec_l02Add.f 1000 1 (dg (R * 2 ^ 1)) 1 (dg 1) = some (1, dg (R * 2 ^ 1 + 1)) := by
        have h := add_f (R * 2 ^ 1) 1 1000 (by omega) (by decide) (by have h1 : ln 1 = 1 := rfl; rw [h1]; omega)
        unfold sg at h
        rwa [if_neg (by omega), if_neg (by omega), if_neg (by omega)] at h
      have HADD := Lib.hid hadd
      obtain ⟨X, hX⟩ : ∃ X, X = R * 2 ^ 1 + 1 := ⟨_, rfl⟩
      rw [← hX] at HADD HRB
      have hX0 : X ≠ 0 := by omega
      have hlX : ln X ≤ 11 := by rw [hX]; exact ln_add _ 1 10 hl2 (by decide)
      obtain ⟨t, ht1, ht2, ht3, ht4⟩ := odd_part hX0
      have hXl : X.log2 < 24 * ln X := by unfold ln; rw [if_neg hX0]; omega
      have hmk := make3_f 1 (c2 - 1) X t 1000 (by omega) hX0 (by decide) ht1 ht2 ht4 (by omega) (by omega)
      have HMK := Lib.hid hmk
      have hlx : ln (X / 2 ^ t) ≤ 11 := Nat.le_trans (ln_mono (Nat.div_le_self _ _)) hlX
      have HT3 := Lib.hid ht3
      have HT1 := Lib.hid ht1
      clear hmk ht2 ht3 hrb hbne ht1 hex hleft2 hof1 hadd hX
      have HR7 := HRr7
      go_wp2_with (first | (go_at_call 18; refine (spec_l02Left.calls 1000 1 A4 c4 (dg R) 1 _ _ _ (Kd.R_reads' HRr7.out).2.2 (Kd.R_reads' HRr7.out).2.1 HLEFT2.out).mono ?_; rintro e wa ⟨va, rfl, hRa, hBa⟩; obtain ⟨Aa, ca, rfl⟩ := Kd.R_slice hRa; have HRa := Lib.hid (Kd.R_lower hRa HB7.out.size); have BKa := Lib.hid (blk_below BK7.out hBa); have HBa := Lib.hid (HB7.out.trans (hBa.mono HB7.out.size)); clear hRa hBa) | (go_at_call 23; refine (spec_l02Of.calls 400 1 1 (dg 1) _ HOF1.out).mono ?_; rintro e wb ⟨vb, rfl, hRb, hBb⟩; obtain ⟨Ab, cb, rfl⟩ := Kd.R_slice hRb; have HRb := Lib.hid hRb; have HRab := Lib.hid (Kd.R_below HRa.out hBb); have BKb := Lib.hid (blk_below BKa.out hBb); have HBb := Lib.hid (HBa.out.trans (hBb.mono HBa.out.size)); clear hRb hBb) | (go_at_call 22; refine (spec_l02Add.calls 1000 1 Aa ca (dg (R * 2 ^ 1)) 1 Ab cb (dg 1) _ _ _ (Kd.R_reads' HRab.out).2.2 (Kd.R_reads' HRab.out).2.1 (Kd.R_reads' HRb.out).2.2 (Kd.R_reads' HRb.out).2.1 HADD.out).mono ?_; rintro e wd ⟨vd, rfl, hRd, hBd⟩; obtain ⟨Ad, cd, rfl⟩ := Kd.R_slice hRd; have HRd := Lib.hid (Kd.R_lower hRd HBb.out.size); have BKd := Lib.hid (blk_below BKb.out hBd); have HBd := Lib.hid (HBb.out.trans (hBd.mono HBb.out.size)); have hd_0 : wd.cell? ⟨g6, 0, none⟩ = some (.int .i64 1) := (blk_cell BKd.out 0).trans rfl; have hd_1 : wd.cell? ⟨g6, 1, none⟩ = some (.slice A4 (dg R).length c4) := (blk_cell BKd.out 1).trans rfl; have hfd_0 := blk_frozen BKd.out 0; have hfd_1 := blk_frozen BKd.out 1; clear hRd hBd) | (go_at_call 25; have BKe := blk_put BKd.out 0 (.int .i64 1) rfl; have HRe := Kd.R_set (Kd.R_set HRd.out BKd.out not36 0 (.int .i64 1)) BKe not36 1 (.slice Ad (dg X).length cd); have hBe := (HBd.out.setCell hlt6 (p := ⟨g6, 0, none⟩) (.int .i64 1)).setCell hlt6 (p := ⟨g6, 1, none⟩) (.slice Ad (dg X).length cd); refine (spec_l03Make.calls 1000 1 Ad cd (dg X) (c2 - 1) _ _ _ _ (Kd.R_reads' HRe).2.2 (Kd.R_reads' HRe).2.1 HMK.out).mono ?_; rintro e w8 ⟨v8, rfl, hR8, hB8⟩; obtain ⟨A8, c8, rfl⟩ := Kd.R_slice hR8; have HR8 := Lib.hid hR8; have HB8 := Lib.hid (hBe.trans (hB8.mono hBe.size)); clear hR8 hB8 BKe HRe hBe) | (go_at_call 24; refine (round64_calls (X / 2 ^ t) (c2 - 1 + t) HT1.out A8 c8 _ (Kd.R_reads' HR8.out).2.2 (Kd.R_reads' HR8.out).2.1 (by omega) (by omega)).mono ?_; rintro e w9 ⟨b, rfl, hB9⟩; have HB9 := Lib.hid (HB8.out.trans (hB9.mono HB8.out.size)); clear hB9))
      go_ret2
      refine ⟨_, b, rfl, ?_, HB9.out⟩
      rw [HSQ.out, HRB.out]
      congr 1
      refine near_same false ⟨0, t, ?_, by omega⟩
      rw [← HT3.out]
      omega
end Go.Proofs.Ytmedcpdjhgconaa
