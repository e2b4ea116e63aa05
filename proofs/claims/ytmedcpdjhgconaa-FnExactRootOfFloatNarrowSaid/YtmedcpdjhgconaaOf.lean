/- The reference's l03Of at a positive double: an odd number and a place of the same value, in new memory. -/
import Derived.Test.YtmedcpdjhgconaaDig2
import Derived.Test.YtmedcpdjhgconaaFp
import Derived.Test.YtmedcpdjhgconaaSame
import Derived.Lib.Hide
import Derived.Handy
namespace Go.Proofs.Ytmedcpdjhgconaa
open Go.RowKit Go.Proofs.YtmedcpdjhgconaaW.PrintWords Go.Proofs.YtmedcpdjhgconaaW.PrintLast Go.Proofs.YtmedcpdjhgconaaW.PrintMore Go.Proofs.Ytmedcpdjhgconaa.PFnExactRootOfFloat Go.Proofs.Ytmedcpdjhgconaa.Pure Go.Proofs.Ytmedcpdjhgconaa.Fp

/-- What the reading of a double hands back. -/
def OfPost (m : Nat) (q : Int) (w : World) (e : Ending) (w' : World) : Prop :=
  ∃ (a : Nat) (E : Int) (v : Value), e = .returned (.agg #[.int .i64 1, v, .int .i64 E]) ∧ Kd.R (Kd.int .i64) 2 w' w.heap.size (fun _ => True) v (dg a) ∧ Below w.heap.size w w' ∧ a % 2 = 1 ∧ SameV a E m q ∧ a < 2 ^ 53 ∧ -1074 ≤ E ∧ E ≤ 1023

theorem not38 : ∀ q, q ∈ 2 :: (Kd.int .i64).E → q ≠ 38 := by
  intro q hq
  rcases List.mem_cons.1 hq with h | h
  · omega
  · exact absurd h (by simp [Kd.int, Kd.scalar])

theorem ln_three {F : Nat} (h : F < 2 ^ 53) : ln F ≤ 3 := by
  refine ln_le ?_
  have e : (16777216 : Nat) ^ 3 = 4722366482869645213696 := by decide
  omega

set_option maxHeartbeats 1000000 in
theorem of_calls (m : Nat) (q : Int) (hc : Canon m q) (h0 : m ≠ 0) (w : World) : Calls Try.prog 15 #[.float .f64 (near false m q)] w (OfPost m q w) := by
  have hz : (FloatKind.f64.format.order (near false m q) 0 == some .eq) = false := by rw [order_zero h0 hc.good]; rfl
  have hlo := hc.lo
  have hhi := hc.hi
  have hlt := hc.lt
  go_enter Try.func15, Try.ntmps15
  go_wp2
  go_loop [0, 3] (fun x e => ∃ j : Nat, (j : Int) ≤ max q 0 ∧ x = .float .f64 (near false m (q - j)) ∧ e = .int .i64 j) (fun _ e => (max q 0).toNat - (intOf e).toNat)
  case atStart => exact ⟨0, by omega, by simp, rfl⟩
  case round =>
    obtain ⟨j, hj, rfl, rfl⟩ := hrel
    clear hz
    by_cases hq : 1 ≤ q - j
    · have hm : 2 ^ 52 ≤ m := by rcases hc.top with h | h; exact h; omega
      have hc' : Canon m (q - j) := ⟨hc.lt, by omega, by omega, Or.inl hm⟩
      have hge := ge_most hc' hq
      have hop : ∀ t w, (binOp .quo t (.float .f64 (near false m (q - j))) (.float .f64 4611686018427387904)).run Try.prog w = .ok (.float .f64 (near false m (q - j - 1))) w := fun t w => run_float_arith w .quo t .f64 _ _ _ (hlv_near false hc'.good)
      clear hm hc'
      go_wp2_with (simp only [hop])
      go_round
      case rel => exact ⟨j + 1, by omega, by rw [show q - ((j + 1 : Nat) : Int) = q - j - 1 by omega], by go_num⟩
      case measure => simp [intOf]; omega
    · obtain ⟨T, hT⟩ : ∃ T : Nat, q - j = -(T : Int) := ⟨(-(q - j)).toNat, by omega⟩
      have hT1 : T ≤ 1074 := by omega
      have hlm := lt_most (p := q - j) hlt (by omega) (by omega)
      have hnn := not_le_neg (p := q - j) h0 (good_of hlt (by omega) (by omega))
      have hun : ∀ w, (Op.unary .neg (.float .f64 4845873199050653696)).run Try.prog w = .ok (.float .f64 (near true 1 53)) w := fun w => by rw [← neg_most]; rfl
      rw [hT] at hlm hnn ⊢
      have HT := Lib.hid hT
      clear hT
      go_wp2_with (simp only [hun])
      go_loop [0, 3] (fun x e => ∃ t : Nat, t ≤ T ∧ x = .float .f64 (near false m (-(t : Int))) ∧ e = .int .i64 ((j : Int) - ((T - t : Nat) : Int))) (fun _ e => ((intOf e) + T - j).toNat)
      case atStart => exact ⟨T, Nat.le_refl _, rfl, by rw [Nat.sub_self]; simp⟩
      case round =>
        obtain ⟨t, ht, rfl, rfl⟩ := hrel
        clear hlm hnn hun
        have hci : ∀ w, (convert 22 2 (.float .f64 (near false m (-(t : Int))))).run Try.prog w = .ok (.int .i64 ((m / 2 ^ t : Nat) : Int)) w := fun w => run_convert_float_int w 22 2 .f64 .i64 _ _ (by rw [Try.underlying22]; rfl) Try.underlying2 (int_of hlt (by omega))
        have hwt := whole_test (M := m) (t := t) hlt (by omega)
        have hfl : m / 2 ^ t ≤ m := Nat.div_le_self _ _
        obtain ⟨F, hF⟩ : ∃ F, F = m / 2 ^ t := ⟨_, rfl⟩
        rw [← hF] at hci hwt hfl
        have HF := Lib.hid hF
        have hin : floatOfInt .f64 (F : Int) = near false F 0 := int_near F
        by_cases hw : m % 2 ^ t = 0
        · have hd : decide (m % 2 ^ t ≠ 0) = false := by simp [hw]
          rw [hd] at hwt
          have HW := Lib.hid hw
          have hFt : m = F * 2 ^ t := by rw [hF]; exact (Nat.div_mul_cancel (Nat.dvd_of_mod_eq_zero hw)).symm
          have hF0 : F ≠ 0 := by intro h; rw [h, Nat.zero_mul] at hFt; exact h0 hFt
          have HFt := Lib.hid hFt
          obtain ⟨u, hu1, hu2, hu3, hu4⟩ := odd_part hF0
          have HU1 := Lib.hid hu1
          have HU2 := Lib.hid hu2
          have HU3 := Lib.hid hu3
          clear hw hF hd hFt hu1 hu2 hu3
          have hof : spec_l02Of.f 400 (F : Int) = some (1, dg F) := by
            have h := of_f F 400 (by omega) (by omega)
            unfold sg at h
            rwa [if_neg hF0] at h
          have hlnF : ln F ≤ 3 := ln_three (by omega)
          have hmk : spec_l03Make.f 200 1 (dg F) ((j : Int) - ((T - t : Nat) : Int)) = some (1, dg (F / 2 ^ u), (j : Int) - ((T - t : Nat) : Int) + u) :=
            make3_f 1 _ F u 200 (by omega) hF0 (by decide) HU1.out HU2.out hu4 (by omega) (by omega)
          have HOF := Lib.hid hof
          have HMK := Lib.hid hmk
          clear hof hmk
          have BK0 : (w.alloc (.cells #[.int .i64 0, .slice none 0 0, .int .i64 0] 38)).heap[w.heap.size]? = some (.cells #[.int .i64 0, .slice none 0 0, .int .i64 0] 38 (0, 0)) := blk_new w _
          have HB0 : Below w.heap.size w (w.alloc (.cells #[.int .i64 0, .slice none 0 0, .int .i64 0] 38)) := below_alloc (Below.refl _ _) _
          have BK0' := Lib.hid BK0
          have HB0' := Lib.hid HB0
          clear BK0 HB0
          go_wp2_with (first | (go_at_call 23; refine (spec_l02Of.calls 400 (F : Int) 1 (dg F) _ HOF.out).mono ?_; rintro e w1 ⟨v1, rfl, hR1, hB1⟩; obtain ⟨A1, c1, rfl⟩ := Kd.R_slice hR1; have HR1 := Lib.hid hR1; have HB1 := Lib.hid hB1; clear hR1 hB1) | (go_at_call 25; refine (spec_l03Make.calls 200 1 A1 c1 (dg F) _ 1 (dg (F / 2 ^ u)) _ _ (Kd.R_reads' HR1.out).2.2 (Kd.R_reads' HR1.out).2.1 HMK.out).mono ?_; rintro e w2 ⟨v2, rfl, hR2, hB2⟩; obtain ⟨A2, c2, rfl⟩ := Kd.R_slice hR2; have HR2 := Lib.hid hR2; have HB2 := Lib.hid hB2; clear hR2 hB2; have BK2 : Hid (w2.heap[w.heap.size]? = some (.cells #[.int .i64 0, .slice none 0 0, .int .i64 0] 38 (0, 0))) := Lib.hid (blk_below (blk_below BK0'.out HB1.out) HB2.out); have hcz_0 : w2.cell? ⟨w.heap.size, 0, none⟩ = some (.int .i64 0) := (blk_cell BK2.out 0).trans rfl; have hcz_1 : w2.cell? ⟨w.heap.size, 1, none⟩ = some (.slice none 0 0) := (blk_cell BK2.out 1).trans rfl; have hcz_2 : w2.cell? ⟨w.heap.size, 2, none⟩ = some (.int .i64 0) := (blk_cell BK2.out 2).trans rfl; have hfz_0 := blk_frozen BK2.out 0; have hfz_1 := blk_frozen BK2.out 1; have hfz_2 := blk_frozen BK2.out 2))
          have hu := hu4
          have hle1 : w.heap.size ≤ w1.heap.size := Nat.le_trans HB0'.out.size HB1.out.size
          have hBw : Below w.heap.size w w2 := (HB0'.out.trans (HB1.out.mono HB0'.out.size)).trans (HB2.out.mono hle1)
          have hlog : F.log2 ≤ 52 := log2_le (k := 52) (by omega)
          have BKa : (w2.setCell ⟨w.heap.size, 0, none⟩ (.int .i64 1)).heap[w.heap.size]? = some (.cells #[.int .i64 1, .slice none 0 0, .int .i64 0] 38 (0, 0)) := blk_put BK2.out 0 _ rfl
          have BKb : ((w2.setCell ⟨w.heap.size, 0, none⟩ (.int .i64 1)).setCell ⟨w.heap.size, 1, none⟩ (.slice A2 (dg (F / 2 ^ u)).length c2)).heap[w.heap.size]? = some (.cells #[.int .i64 1, .slice A2 (dg (F / 2 ^ u)).length c2, .int .i64 0] 38 (0, 0)) := blk_put BKa 1 _ rfl
          refine bodyPost_ret (results_cell_row rfl _ _ w.heap.size 38 #[.int .i64 1, .slice A2 (dg (F / 2 ^ u)).length c2, .int .i64 ((j : Int) - ((T - t : Nat) : Int) + u)] (0, 0) _ rfl (blk_put BKb 2 _ rfl) Try.underlying38 rfl (by kernel_rfl)) rfl ?_
          refine ⟨F / 2 ^ u, (j : Int) - ((T - t : Nat) : Int) + u, .slice A2 (dg (F / 2 ^ u)).length c2, rfl, ?_, ?_, HU1.out, ?_, ?_, by omega, by omega⟩
          · exact Kd.R_set (Kd.R_set (Kd.R_set (Kd.R_lower HR2.out hle1) BK2.out not38 0 _) BKa not38 1 _) BKb not38 2 _
          · exact ((hBw.setCell (Nat.le_refl _) _).setCell (Nat.le_refl _) _).setCell (Nat.le_refl _) _
          · have hT := HT.out
            refine ⟨u + t, 0, ?_, by omega⟩
            rw [Nat.pow_add, ← Nat.mul_assoc, ← HU3.out, ← HFt.out, Nat.pow_zero, Nat.mul_one]
          · have := Nat.div_le_self F (2 ^ u)
            omega
        · have hd : decide (m % 2 ^ t ≠ 0) = true := by simp [hw]
          rw [hd] at hwt
          have ht0 : t ≠ 0 := by intro h; subst h; exact hw (Nat.mod_one m)
          have hop : ∀ k w, (binOp .mul k (.float .f64 (near false m (-(t : Int)))) (.float .f64 4611686018427387904)).run Try.prog w = .ok (.float .f64 (near false m (-(t : Int) + 1))) w := fun k w => run_float_arith w .mul k .f64 _ _ _ (dbl_near false (good_of hlt (by omega) (by omega)))
          clear hw hF hd
          go_wp2_with (simp only [hci, hin, hop])
          go_round
          case rel => exact ⟨t - 1, by omega, by rw [show -((t - 1 : Nat) : Int) = -(t : Int) + 1 by omega], by rw [show ((T - (t - 1) : Nat) : Int) = ((T - t : Nat) : Int) + 1 by omega]; congr 1; omega⟩
          case measure => simp [intOf]; omega
end Go.Proofs.Ytmedcpdjhgconaa
