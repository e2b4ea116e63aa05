/- The reference's l03Round at an odd whole number and a place: the nearest double. -/
import Derived.Test.YtmedcpdjhgconaaDoorDig
import Derived.Test.YtmedcpdjhgconaaDoorScale
import Derived.Deep.RegionHeld3
import Derived.Deep.DeepCutAuto
import Derived.Laws.Small
namespace Go.Proofs.YtmedcpdjhgconaaDoor
open Go.RowKit Go.Proofs.YtmedcpdjhgconaaDoorW.PrintWords Go.Proofs.YtmedcpdjhgconaaDoorW.PrintLast Go.Proofs.YtmedcpdjhgconaaDoorW.PrintMore Go.Proofs.YtmedcpdjhgconaaDoor.PFnExactFloatOf Go.Proofs.YtmedcpdjhgconaaDoor.Pure Go.Proofs.YtmedcpdjhgconaaDoor.Fp

theorem good0 {X : Nat} (h : X ≤ 2 ^ 53) : Fp.Good X 0 := by
  have := good_down (i := 0) h (by omega)
  simpa using this

theorem ln_three' {F : Nat} (h : F ≤ 2 ^ 53) : ln F ≤ 3 := by
  refine ln_le ?_
  have e : (16777216 : Nat) ^ 3 = 4722366482869645213696 := by decide
  omega

theorem rne_odd (a n : Nat) (ho : a % 2 = 1) : rne a (n + 1) = if a / 2 ^ n % 2 = 1 ∧ (1 ≤ n ∨ a / 2 ^ (n + 1) % 2 = 1) then a / 2 ^ (n + 1) + 1 else a / 2 ^ (n + 1) := by
  have hm : a % 2 ^ (n + 1) = a % 2 ^ n + 2 ^ n * (a / 2 ^ n % 2) := by rw [Nat.pow_succ]; exact Nat.mod_mul
  have hlt : a % 2 ^ n < 2 ^ n := Nat.mod_lt _ (Nat.two_pow_pos n)
  have hp : 2 ^ (n + 1) = 2 * 2 ^ n := by rw [Nat.pow_succ, Nat.mul_comm]
  unfold rne
  rw [hm, hp]
  have hb : a / 2 ^ n % 2 = 0 ∨ a / 2 ^ n % 2 = 1 := by omega
  rcases hb with hb | hb
  · rw [hb]
    have h1 : ¬ (2 * 2 ^ n < 2 * (a % 2 ^ n + 2 ^ n * 0)) := by omega
    have h2 : ¬ (2 * 2 ^ n = 2 * (a % 2 ^ n + 2 ^ n * 0)) := by omega
    simp
    exact ⟨by omega, fun h => absurd h (by omega)⟩
  · rw [hb]
    cases n with
    | zero =>
      have h1 : a % 2 ^ 0 = 0 := by simp [Nat.mod_one]
      rw [h1]
      simp
      by_cases h : a / 2 % 2 = 1
      · simp [h]
      · simp [h]
    | succ k =>
      have h3 : a % 2 ^ (k + 1) % 2 = 1 := by
        rw [Nat.pow_succ, Nat.mod_mul_left_mod]
        exact ho
      have h1 : 2 * 2 ^ (k + 1) < 2 * (a % 2 ^ (k + 1) + 2 ^ (k + 1) * 1) := by omega
      simp only [h1, decide_true, Bool.true_or, Bool.toNat_true]
      rw [if_pos ⟨trivial, Or.inl (by omega)⟩]

theorem not36 : ∀ q, q ∈ 2 :: (Kd.int .i64).E → q ≠ 31 := by
  intro q hq
  rcases List.mem_cons.1 hq with h | h
  · omega
  · exact absurd h (by simp [Kd.int, Kd.scalar])

set_option maxHeartbeats 8000000 in
set_option maxRecDepth 100000 in
theorem round_calls (s : Int) (a : Nat) (E : Int) (hs : s = 1 ∨ s = -1) (hodd : a % 2 = 1) (A : Option Addr) (c : Nat) (w : World) (hC : Kd.C (Kd.int .i64) w A (dg a).length (dg a)) (hc : (dg a).length ≤ c)
    (hl : ln a ≤ 300) (hE : -6000 ≤ E ∧ E ≤ 6000) :
    Calls Tryd.prog 22 #[.agg #[.int .i64 s, .slice A (dg a).length c, .int .i64 E], .int .i64 53, .int .i64 (-1074)] w fun e w' => e = .returned (.float .f64 (near (decide (s < 0)) a E)) ∧ Below w.heap.size w w' := by
  have ha : a ≠ 0 := by intro h; subst h; simp at hodd
  have HO := Lib.hid hodd
  clear hodd
  have HC := Lib.hid hC
  have HL := Lib.hid hc
  clear hC hc
  have habs : spec_l02Abs.f 1000 s (dg a) = some (1, dg a) := by
    have h := abs_f s a 1000 hs (by omega) (by omega)
    unfold sg at h
    rwa [if_neg ha] at h
  have HABS := Lib.hid habs
  clear habs
  have hs0 : (s == 0) = false := by rcases hs with h | h <;> subst h <;> rfl
  go_enter Tryd.func22, Tryd.ntmps22
  go_wp2_with (first | (go_at_call 37; refine (spec_l02Abs.calls 1000 s A c (dg a) 1 (dg a) _ (Kd.C_alloc HC.out _) HL.out HABS.out).mono ?_; rintro e w1 ⟨v1, rfl, hR1, hB1⟩; obtain ⟨A1, c1, rfl⟩ := Kd.R_slice hR1; have HR1 := Lib.hid hR1; have HB1 := Lib.hid hB1; clear hR1 hB1))
  obtain ⟨g7, hg7⟩ : ∃ g, g = w1.heap.size := ⟨_, rfl⟩
  have hle : w.heap.size ≤ w1.heap.size := Nat.le_trans (by simp) HB1.out.size
  have hlt7 : w.heap.size < g7 := by rw [hg7]; exact Nat.lt_of_lt_of_le (by simp) HB1.out.size
  have BKm : (w1.alloc (.cells #[.int .i64 1, .slice A1 (dg a).length c1] 31)).heap[w1.heap.size]? = some (.cells #[.int .i64 1, .slice A1 (dg a).length c1] 31 (0, 0)) := blk_new _ _
  have BKd : (w1.alloc (.cells #[.int .i64 1, .slice A1 (dg a).length c1] 31)).heap[w.heap.size]? = some (.cells #[.int .i64 s, .slice A (dg a).length c, .int .i64 E] 33 (0, 0)) := blk_alloc (blk_below (blk_new w _) HB1.out) _
  have HBW : Below w.heap.size w (w1.alloc (.cells #[.int .i64 1, .slice A1 (dg a).length c1] 31)) := ((below_alloc (Below.refl _ _) _).trans (HB1.out.mono (by simp))).alloc hle _
  have HRm : Kd.R (Kd.int .i64) 2 (w1.alloc (.cells #[.int .i64 1, .slice A1 (dg a).length c1] 31)) w.heap.size (fun _ => True) (.slice A1 (dg a).length c1) (dg a) := Kd.R_alloc (Kd.R_lower HR1.out (by simp)) _
  rw [← hg7] at BKm ⊢
  clear HB1 HR1 hle
  generalize w1.alloc (.cells #[.int .i64 1, .slice A1 (dg a).length c1] 31) = W2 at *
  have HBKm := Lib.hid BKm
  have HBKd := Lib.hid BKd
  have HHB := Lib.hid HBW
  have HHR := Lib.hid HRm
  clear hg7 w1
  have hm0 : W2.cell? ⟨g7, 0, none⟩ = some (.int .i64 1) := (blk_cell BKm 0).trans rfl
  have hm1 : W2.cell? ⟨g7, 1, none⟩ = some (.slice A1 (dg a).length c1) := (blk_cell BKm 1).trans rfl
  have hd2 : W2.cell? ⟨w.heap.size, 2, none⟩ = some (.int .i64 E) := (blk_cell BKd 2).trans rfl
  clear BKm BKd HBW HRm
  have hlen := length_f 1 a 100 (by omega) (by omega)
  have HLEN := Lib.hid hlen
  clear hlen
  go_region_held3 (fun w' => w'.cell? ⟨g7, 0, none⟩ = some (.int .i64 1) ∧ w'.cell? ⟨g7, 1, none⟩ = some (.slice A1 (dg a).length c1) ∧ w'.cell? ⟨w.heap.size, 2, none⟩ = some (.int .i64 E)) (go_keep) (first | (go_at_call 38; refine (spec_l02Length.calls 100 1 A1 c1 (dg a) _ _ (Kd.R_reads' (Kd.R_drew HHR.out)).2.2 (Kd.R_reads' HHR.out).2.1 HLEN.out).mono ?_; rintro e w3 ⟨rfl, hB3⟩; have q0 := (hB3.cell (p := ⟨g7, 0, none⟩) (blk_lt (blk_drew HBKm.out))).trans hm0; have q1 := (hB3.cell (p := ⟨g7, 1, none⟩) (blk_lt (blk_drew HBKm.out))).trans hm1; have q2 := (hB3.cell (p := ⟨w.heap.size, 2, none⟩) (blk_lt (blk_drew HBKd.out))).trans hd2; have HB3 := Lib.hid hB3; clear hB3))
  have hbl : bl a ≤ 24 * ln a := by unfold bl ln; rw [if_neg ha, if_neg ha]; omega
  have e1 : IntKind.i64.wrap ((bl a : Int) + E) = (bl a : Int) + E := IntWalk.i64_in _ (by omega)
  have e2 : IntKind.i64.wrap ((bl a : Int) + E - 53) = (bl a : Int) + E - 53 := IntWalk.i64_in _ (by omega)
  have e3 : (if (bl a : Int) + E - 53 < -1074 then (-1074 : Int) else (bl a : Int) + E - 53) = qOf a E := by
    unfold qOf bl
    rw [if_neg ha]
    split <;> omega
  rw [e1, e2, e3]
  clear e1 e2 e3
  have hq0 : -1074 ≤ qOf a E := by unfold qOf; omega
  have hq1 : qOf a E ≤ 14000 := by unfold qOf; unfold bl at hbl; rw [if_neg ha] at hbl; omega
  obtain ⟨q, hq⟩ : ∃ q, q = qOf a E := ⟨_, rfl⟩
  rw [← hq] at hq0 hq1 ⊢
  have HQ := Lib.hid hq
  clear hq
  have BKm : w3.heap[g7]? = some (.cells #[.int .i64 1, .slice A1 (dg a).length c1] 31 (0, 0)) := blk_below (blk_drew HBKm.out) HB3.out
  have BKd : w3.heap[w.heap.size]? = some (.cells #[.int .i64 s, .slice A (dg a).length c, .int .i64 E] 33 (0, 0)) := blk_below (blk_drew HBKd.out) HB3.out
  have HBW : Below w.heap.size w w3 := (HHB.out.drew).trans (HB3.out.mono HHB.out.size)
  have HRm : Kd.R (Kd.int .i64) 2 w3 w.heap.size (fun _ => True) (.slice A1 (dg a).length c1) (dg a) := Kd.R_below (Kd.R_drew HHR.out) HB3.out
  clear HBKm HBKd HHB HHR HB3 hm0 hm1 hd2 W2 HABS HLEN HC HL
  have HBKm := Lib.hid BKm
  have HBKd := Lib.hid BKd
  have HHB := Lib.hid HBW
  have HHR := Lib.hid HRm
  have hz7 : g7 < w3.heap.size := blk_lt BKm
  have hzd : w.heap.size < w3.heap.size := blk_lt BKd
  clear BKm BKd HBW HRm
  go_upto_if 36 with (fail)
  obtain ⟨g9, hg9⟩ : ∃ g, g = w3.heap.size := ⟨_, rfl⟩
  have BKc : (w3.alloc (.cells #[.int .i64 1, .slice A1 (dg a).length c1] 31)).heap[w3.heap.size]? = some (.cells #[.int .i64 1, .slice A1 (dg a).length c1] 31 (0, 0)) := blk_new _ _
  have BKm : (w3.alloc (.cells #[.int .i64 1, .slice A1 (dg a).length c1] 31)).heap[g7]? = some (.cells #[.int .i64 1, .slice A1 (dg a).length c1] 31 (0, 0)) := blk_alloc HBKm.out _
  have BKd : (w3.alloc (.cells #[.int .i64 1, .slice A1 (dg a).length c1] 31)).heap[w.heap.size]? = some (.cells #[.int .i64 s, .slice A (dg a).length c, .int .i64 E] 33 (0, 0)) := blk_alloc HBKd.out _
  have HBW : Below w.heap.size w (w3.alloc (.cells #[.int .i64 1, .slice A1 (dg a).length c1] 31)) := HHB.out.alloc HHB.out.size _
  have HRm : Kd.R (Kd.int .i64) 2 (w3.alloc (.cells #[.int .i64 1, .slice A1 (dg a).length c1] 31)) w.heap.size (fun _ => True) (.slice A1 (dg a).length c1) (dg a) := Kd.R_alloc HHR.out _
  rw [← hg9] at BKc ⊢
  have h79 : g7 < g9 := by rw [hg9]; exact hz7
  have hd9 : w.heap.size < g9 := by rw [hg9]; exact hzd
  clear HBKm HBKd HHB HHR hz7 hzd q0 q1 q2
  generalize w3.alloc (.cells #[.int .i64 1, .slice A1 (dg a).length c1] 31) = W4 at *
  clear hg9
  have HBKc := Lib.hid BKc
  have HBKm := Lib.hid BKm
  have HBKd := Lib.hid BKd
  have HHB := Lib.hid HBW
  have HHR := Lib.hid HRm
  clear BKc BKm BKd HBW HRm
  obtain ⟨M, hM⟩ : ∃ M, M = mOf a E := ⟨_, rfl⟩
  have HM := Lib.hid hM
  have HRF := Lib.hid (round_facts (decide (s < 0)) ha E)
  clear hM
  go_cut [10, 11] (fun _ _ wx => ∃ (A9 : Option Addr) (c9 : Nat), wx.heap[g9]? = some (.cells #[.int .i64 (sg 1 M), .slice A9 (dg M).length c9] 31 (0, 0)) ∧ wx.heap[w.heap.size]? = some (.cells #[.int .i64 s, .slice A (dg a).length c, .int .i64 E] 33 (0, 0)) ∧ Below w.heap.size w wx ∧ Kd.R (Kd.int .i64) 2 wx w.heap.size (fun _ => True) (.slice A9 (dg M).length c9) (dg M))
  case first =>
    have hm0 : W4.cell? ⟨g7, 0, none⟩ = some (.int .i64 1) := (blk_cell HBKm.out 0).trans rfl
    have hm1 : W4.cell? ⟨g7, 1, none⟩ = some (.slice A1 (dg a).length c1) := (blk_cell HBKm.out 1).trans rfl
    have hg9 : g9 < W4.heap.size := blk_lt HBKc.out
    have hgd : w.heap.size ≤ g9 := Nat.le_of_lt hd9
    have hgw : w.heap.size ≤ W4.heap.size := Nat.le_of_lt (Nat.lt_of_le_of_lt hgd hg9)
    by_cases hS : E < q
    · obtain ⟨n, rfl⟩ : ∃ n : Nat, q = E + n + 1 := ⟨(q - E - 1).toNat, by omega⟩
      clear hS
      have hcf := cut_f 1 a (n + 1) 100000 (by omega) (by omega) (by omega)
      have HCF := Lib.hid hcf
      have hbf := bit_f 1 a n (by omega) (by omega)
      have hof1 : spec_l02Of.f 400 1 = some (1, dg 1) := of_f 1 400 (by omega) (by omega)
      have HOF1 := Lib.hid hof1
      have hl0 : ln (a / 2 ^ (n + 1)) ≤ 300 := Nat.le_trans (ln_mono (Nat.div_le_self _ _)) hl
      have hadd : spec_l02Add.f 10000 (sg 1 (a / 2 ^ (n + 1))) (dg (a / 2 ^ (n + 1))) 1 (dg 1) = some (sg 1 (a / 2 ^ (n + 1) + 1), dg (a / 2 ^ (n + 1) + 1)) := add_f (a / 2 ^ (n + 1)) 1 10000 (by omega) (by decide) (by have h1 : ln 1 = 1 := rfl; rw [h1]; omega)
      have HADD := Lib.hid hadd
      clear hof1 hadd hl0
      have hMr : M = rne a (n + 1) := by
        rw [HM.out]
        unfold mOf
        rw [← HQ.out, if_pos (by omega), show (E + (n : Int) + 1 - E).toNat = n + 1 by omega]
      rw [rne_odd a n HO.out] at hMr
      clear hcf
      have hb : a / 2 ^ n % 2 = 0 ∨ a / 2 ^ n % 2 = 1 := by omega
      rcases hb with hb | hb
      · rw [hb] at hbf
        rw [if_neg (by omega)] at hMr
        have HBF : Hid (spec_l02Bit.f 1 (dg a) (n : Int) = some 0) := Lib.hid hbf
        have HMR := Lib.hid hMr
        clear hbf hMr hb
        go_wp2_with (first | (go_at_call 39; rw [show (E + (n : Int) + 1 - E) = ((n + 1 : Nat) : Int) by omega]; refine (spec_l02Cut.calls 100000 1 A1 c1 (dg a) _ _ _ _ (Kd.R_reads' HHR.out).2.2 (Kd.R_reads' HHR.out).2.1 HCF.out).mono ?_; rintro e w5 ⟨v5, rfl, hR5, hB5⟩; obtain ⟨A5, c5, rfl⟩ := Kd.R_slice hR5; have HR5 := Lib.hid hR5; have HB5 := Lib.hid hB5; clear hR5 hB5; have BK5 : Hid (w5.heap[g9]? = some (.cells #[.int .i64 1, .slice A1 (dg a).length c1] 31 (0, 0))) := Lib.hid (blk_below HBKc.out HB5.out); have BM5 : Hid (w5.heap[g7]? = some (.cells #[.int .i64 1, .slice A1 (dg a).length c1] 31 (0, 0))) := Lib.hid (blk_below HBKm.out HB5.out); have hcz_0 : w5.cell? ⟨g9, 0, none⟩ = some (.int .i64 1) := (blk_cell BK5.out 0).trans rfl; have hcz_1 : w5.cell? ⟨g9, 1, none⟩ = some (.slice A1 (dg a).length c1) := (blk_cell BK5.out 1).trans rfl; have hmz_0 : w5.cell? ⟨g7, 0, none⟩ = some (.int .i64 1) := (blk_cell BM5.out 0).trans rfl; have hmz_1 : w5.cell? ⟨g7, 1, none⟩ = some (.slice A1 (dg a).length c1) := (blk_cell BM5.out 1).trans rfl; have hfz_0 := blk_frozen BK5.out 0; have hfz_1 := blk_frozen BK5.out 1) | (go_at_call 40; have BKa : (w5.setCell ⟨g9, 0, none⟩ (.int .i64 (sg 1 (a / 2 ^ (n + 1))))).heap[g9]? = some (.cells #[.int .i64 (sg 1 (a / 2 ^ (n + 1))), .slice A1 (dg a).length c1] 31 (0, 0)) := blk_put BK5.out 0 _ rfl; have BK6 : ((w5.setCell ⟨g9, 0, none⟩ (.int .i64 (sg 1 (a / 2 ^ (n + 1))))).setCell ⟨g9, 1, none⟩ (.slice A5 (dg (a / 2 ^ (n + 1))).length c5)).heap[g9]? = some (.cells #[.int .i64 (sg 1 (a / 2 ^ (n + 1))), .slice A5 (dg (a / 2 ^ (n + 1))).length c5] 31 (0, 0)) := blk_put BKa 1 _ rfl; have BD6 : ((w5.setCell ⟨g9, 0, none⟩ (.int .i64 (sg 1 (a / 2 ^ (n + 1))))).setCell ⟨g9, 1, none⟩ (.slice A5 (dg (a / 2 ^ (n + 1))).length c5)).heap[w.heap.size]? = some (.cells #[.int .i64 s, .slice A (dg a).length c, .int .i64 E] 33 (0, 0)) := (heap_setCell_other _ _ _ _ (Nat.ne_of_lt hd9)).trans ((heap_setCell_other _ _ _ _ (Nat.ne_of_lt hd9)).trans (blk_below HBKd.out HB5.out)); have HB6 : Below w.heap.size w ((w5.setCell ⟨g9, 0, none⟩ (.int .i64 (sg 1 (a / 2 ^ (n + 1))))).setCell ⟨g9, 1, none⟩ (.slice A5 (dg (a / 2 ^ (n + 1))).length c5)) := ((HHB.out.trans (HB5.out.mono hgw)).setCell hgd _).setCell hgd _; have HRm6 : Kd.R (Kd.int .i64) 2 ((w5.setCell ⟨g9, 0, none⟩ (.int .i64 (sg 1 (a / 2 ^ (n + 1))))).setCell ⟨g9, 1, none⟩ (.slice A5 (dg (a / 2 ^ (n + 1))).length c5)) w.heap.size (fun _ => True) (.slice A1 (dg a).length c1) (dg a) := Kd.R_set (Kd.R_set (Kd.R_below HHR.out HB5.out) BK5.out not36 0 _) BKa not36 1 _; have HRn6 : Kd.R (Kd.int .i64) 2 ((w5.setCell ⟨g9, 0, none⟩ (.int .i64 (sg 1 (a / 2 ^ (n + 1))))).setCell ⟨g9, 1, none⟩ (.slice A5 (dg (a / 2 ^ (n + 1))).length c5)) w.heap.size (fun _ => True) (.slice A5 (dg (a / 2 ^ (n + 1))).length c5) (dg (a / 2 ^ (n + 1))) := Kd.R_set (Kd.R_set (Kd.R_lower HR5.out hgw) BK5.out not36 0 _) BKa not36 1 _; clear BKa; generalize (w5.setCell ⟨g9, 0, none⟩ (.int .i64 (sg 1 (a / 2 ^ (n + 1))))).setCell ⟨g9, 1, none⟩ (.slice A5 (dg (a / 2 ^ (n + 1))).length c5) = W6 at *; refine (spec_l02Bit.calls 1 A1 c1 (dg a) _ _ _ (Kd.R_reads' HRm6).2.2 (Kd.R_reads' HRm6).2.1 HBF.out).mono ?_; rintro e w7 ⟨rfl, hB7⟩; have BK7 : Hid (w7.heap[g9]? = some (.cells #[.int .i64 (sg 1 (a / 2 ^ (n + 1))), .slice A5 (dg (a / 2 ^ (n + 1))).length c5] 31 (0, 0))) := Lib.hid (blk_below BK6 hB7); have BD7 : Hid (w7.heap[w.heap.size]? = some (.cells #[.int .i64 s, .slice A (dg a).length c, .int .i64 E] 33 (0, 0))) := Lib.hid (blk_below BD6 hB7); have HB7 : Hid (Below w.heap.size w w7) := Lib.hid (HB6.trans (hB7.mono HB6.size)); have HR7 : Hid (Kd.R (Kd.int .i64) 2 w7 w.heap.size (fun _ => True) (.slice A5 (dg (a / 2 ^ (n + 1))).length c5) (dg (a / 2 ^ (n + 1)))) := Lib.hid (Kd.R_below HRn6 hB7); clear BK6 BD6 HB6 HRm6 HRn6 hB7; have hc7_0 : w7.cell? ⟨g9, 0, none⟩ = some (.int .i64 (sg 1 (a / 2 ^ (n + 1)))) := (blk_cell BK7.out 0).trans rfl; have hc7_1 : w7.cell? ⟨g9, 1, none⟩ = some (.slice A5 (dg (a / 2 ^ (n + 1))).length c5) := (blk_cell BK7.out 1).trans rfl))
        go_meet
        rw [HMR.out]
        exact ⟨A5, c5, BK7.out, BD7.out, HB7.out, HR7.out⟩
      · rw [hb] at hbf
        have HBF : Hid (spec_l02Bit.f 1 (dg a) (n : Int) = some 1) := Lib.hid hbf
        clear hbf
        by_cases hn : 1 ≤ n
        · rw [if_pos ⟨hb, Or.inl hn⟩] at hMr
          have HMR := Lib.hid hMr
          clear hMr hb
          go_wp2_with (first | (go_at_call 39; rw [show (E + (n : Int) + 1 - E) = ((n + 1 : Nat) : Int) by omega]; refine (spec_l02Cut.calls 100000 1 A1 c1 (dg a) _ _ _ _ (Kd.R_reads' HHR.out).2.2 (Kd.R_reads' HHR.out).2.1 HCF.out).mono ?_; rintro e w5 ⟨v5, rfl, hR5, hB5⟩; obtain ⟨A5, c5, rfl⟩ := Kd.R_slice hR5; have HR5 := Lib.hid hR5; have HB5 := Lib.hid hB5; clear hR5 hB5; have BK5 : Hid (w5.heap[g9]? = some (.cells #[.int .i64 1, .slice A1 (dg a).length c1] 31 (0, 0))) := Lib.hid (blk_below HBKc.out HB5.out); have BM5 : Hid (w5.heap[g7]? = some (.cells #[.int .i64 1, .slice A1 (dg a).length c1] 31 (0, 0))) := Lib.hid (blk_below HBKm.out HB5.out); have hcz_0 : w5.cell? ⟨g9, 0, none⟩ = some (.int .i64 1) := (blk_cell BK5.out 0).trans rfl; have hcz_1 : w5.cell? ⟨g9, 1, none⟩ = some (.slice A1 (dg a).length c1) := (blk_cell BK5.out 1).trans rfl; have hmz_0 : w5.cell? ⟨g7, 0, none⟩ = some (.int .i64 1) := (blk_cell BM5.out 0).trans rfl; have hmz_1 : w5.cell? ⟨g7, 1, none⟩ = some (.slice A1 (dg a).length c1) := (blk_cell BM5.out 1).trans rfl; have hfz_0 := blk_frozen BK5.out 0; have hfz_1 := blk_frozen BK5.out 1) | (go_at_call 40; have BKa : (w5.setCell ⟨g9, 0, none⟩ (.int .i64 (sg 1 (a / 2 ^ (n + 1))))).heap[g9]? = some (.cells #[.int .i64 (sg 1 (a / 2 ^ (n + 1))), .slice A1 (dg a).length c1] 31 (0, 0)) := blk_put BK5.out 0 _ rfl; have BK6 : ((w5.setCell ⟨g9, 0, none⟩ (.int .i64 (sg 1 (a / 2 ^ (n + 1))))).setCell ⟨g9, 1, none⟩ (.slice A5 (dg (a / 2 ^ (n + 1))).length c5)).heap[g9]? = some (.cells #[.int .i64 (sg 1 (a / 2 ^ (n + 1))), .slice A5 (dg (a / 2 ^ (n + 1))).length c5] 31 (0, 0)) := blk_put BKa 1 _ rfl; have BD6 : ((w5.setCell ⟨g9, 0, none⟩ (.int .i64 (sg 1 (a / 2 ^ (n + 1))))).setCell ⟨g9, 1, none⟩ (.slice A5 (dg (a / 2 ^ (n + 1))).length c5)).heap[w.heap.size]? = some (.cells #[.int .i64 s, .slice A (dg a).length c, .int .i64 E] 33 (0, 0)) := (heap_setCell_other _ _ _ _ (Nat.ne_of_lt hd9)).trans ((heap_setCell_other _ _ _ _ (Nat.ne_of_lt hd9)).trans (blk_below HBKd.out HB5.out)); have HB6 : Below w.heap.size w ((w5.setCell ⟨g9, 0, none⟩ (.int .i64 (sg 1 (a / 2 ^ (n + 1))))).setCell ⟨g9, 1, none⟩ (.slice A5 (dg (a / 2 ^ (n + 1))).length c5)) := ((HHB.out.trans (HB5.out.mono hgw)).setCell hgd _).setCell hgd _; have HRm6 : Kd.R (Kd.int .i64) 2 ((w5.setCell ⟨g9, 0, none⟩ (.int .i64 (sg 1 (a / 2 ^ (n + 1))))).setCell ⟨g9, 1, none⟩ (.slice A5 (dg (a / 2 ^ (n + 1))).length c5)) w.heap.size (fun _ => True) (.slice A1 (dg a).length c1) (dg a) := Kd.R_set (Kd.R_set (Kd.R_below HHR.out HB5.out) BK5.out not36 0 _) BKa not36 1 _; have HRn6 : Kd.R (Kd.int .i64) 2 ((w5.setCell ⟨g9, 0, none⟩ (.int .i64 (sg 1 (a / 2 ^ (n + 1))))).setCell ⟨g9, 1, none⟩ (.slice A5 (dg (a / 2 ^ (n + 1))).length c5)) w.heap.size (fun _ => True) (.slice A5 (dg (a / 2 ^ (n + 1))).length c5) (dg (a / 2 ^ (n + 1))) := Kd.R_set (Kd.R_set (Kd.R_lower HR5.out hgw) BK5.out not36 0 _) BKa not36 1 _; clear BKa; generalize (w5.setCell ⟨g9, 0, none⟩ (.int .i64 (sg 1 (a / 2 ^ (n + 1))))).setCell ⟨g9, 1, none⟩ (.slice A5 (dg (a / 2 ^ (n + 1))).length c5) = W6 at *; refine (spec_l02Bit.calls 1 A1 c1 (dg a) _ _ _ (Kd.R_reads' HRm6).2.2 (Kd.R_reads' HRm6).2.1 HBF.out).mono ?_; rintro e w7 ⟨rfl, hB7⟩; have BK7 : Hid (w7.heap[g9]? = some (.cells #[.int .i64 (sg 1 (a / 2 ^ (n + 1))), .slice A5 (dg (a / 2 ^ (n + 1))).length c5] 31 (0, 0))) := Lib.hid (blk_below BK6 hB7); have BD7 : Hid (w7.heap[w.heap.size]? = some (.cells #[.int .i64 s, .slice A (dg a).length c, .int .i64 E] 33 (0, 0))) := Lib.hid (blk_below BD6 hB7); have HB7 : Hid (Below w.heap.size w w7) := Lib.hid (HB6.trans (hB7.mono HB6.size)); have HR7 : Hid (Kd.R (Kd.int .i64) 2 w7 w.heap.size (fun _ => True) (.slice A5 (dg (a / 2 ^ (n + 1))).length c5) (dg (a / 2 ^ (n + 1)))) := Lib.hid (Kd.R_below HRn6 hB7); clear BK6 BD6 HB6 HRm6 HRn6 hB7; have hc7_0 : w7.cell? ⟨g9, 0, none⟩ = some (.int .i64 (sg 1 (a / 2 ^ (n + 1)))) := (blk_cell BK7.out 0).trans rfl; have hc7_1 : w7.cell? ⟨g9, 1, none⟩ = some (.slice A5 (dg (a / 2 ^ (n + 1))).length c5) := (blk_cell BK7.out 1).trans rfl))
          refine start_ (n := 4) (S := fun w' => w'.cell? ⟨g9, 0, none⟩ = some (.int .i64 (sg 1 (a / 2 ^ (n + 1)))) ∧ w'.cell? ⟨g9, 1, none⟩ = some (.slice A5 (dg (a / 2 ^ (n + 1))).length c5)) (ds := [3]) #[false, false, false, false] (by kernel_rfl) rfl rfl ⟨(blk_cell (blk_drew BK7.out) 0).trans rfl, (blk_cell (blk_drew BK7.out) 1).trans rfl⟩ (fun hHeld => ?_)
          refine take_ (i := 0) (N := some 55) (v := ?_) (a' := ?_) #[true, false, false, false] rfl rfl (by kernel_rfl) (fun _ _ _ h => h) (Or.inl ⟨by rfl, ?_⟩) hHeld ?_ ?_
          rotate_left
          · rintro w' ⟨s0, s1⟩
            go_simp
            with_reducible rfl
          rotate_left
          · simp only [Act.put, List.setIfInBounds_toArray, List.set_cons_zero, List.set_cons_succ]
            rfl
          refine one_ (i := 1) (N := some 56) #[true, true, false, false] rfl rfl (by kernel_rfl) (by decide) (fun K hK => ?_)
          refine goes_ Tryd.func42 (by kernel_rfl) rfl #[.int .i64 1] (by rfl) rfl rfl (by (try simp only [List.map_toArray, List.map_cons, List.map_nil]); first | done | rfl) ?_
          with_reducible refine (spec_l02Of.calls 400 1 1 (dg 1) _ HOF1.out).mono ?_
          rintro e w8 ⟨v8, rfl, hR8, hB8⟩
          refine ⟨_, rfl, ?_⟩
          obtain ⟨A8, c8, rfl⟩ := Kd.R_slice hR8
          have BK8 : Hid (w8.heap[g9]? = some (.cells #[.int .i64 (sg 1 (a / 2 ^ (n + 1))), .slice A5 (dg (a / 2 ^ (n + 1))).length c5] 31 (0, 0))) := Lib.hid (blk_below (blk_drew BK7.out) hB8)
          have BD8 : Hid (w8.heap[w.heap.size]? = some (.cells #[.int .i64 s, .slice A (dg a).length c, .int .i64 E] 33 (0, 0))) := Lib.hid (blk_below (blk_drew BD7.out) hB8)
          have HB8 : Hid (Below w.heap.size w w8) := Lib.hid (HB7.out.drew.trans (hB8.mono HB7.out.size))
          have HRn8 : Hid (Kd.R (Kd.int .i64) 2 w8 w.heap.size (fun _ => True) (.slice A5 (dg (a / 2 ^ (n + 1))).length c5) (dg (a / 2 ^ (n + 1)))) := Lib.hid (Kd.R_below (Kd.R_drew HR7.out) hB8)
          have HRo8 : Hid (Kd.R (Kd.int .i64) 2 w8 w7.heap.size (fun _ => True) (.slice A8 (dg 1).length c8) (dg 1)) := Lib.hid hR8
          clear hR8 hB8
          refine hK.out _ _ ⟨(blk_cell BK8.out 0).trans rfl, (blk_cell BK8.out 1).trans rfl⟩ (fun hHeld => ?_)
          clear hK K
          refine norm_ (a' := ?_) ?_ ?_
          rotate_left
          · show Act.put _ (some 56) _ = _
            simp only [Act.put, List.setIfInBounds_toArray, List.set_cons_zero, List.set_cons_succ]
            rfl
          refine one_ (i := 2) (N := some 57) #[true, true, true, false] rfl rfl (by kernel_rfl) (by decide) (fun K hK => ?_)
          refine goes_ Tryd.func41 (by kernel_rfl) rfl #[.agg #[.int .i64 (sg 1 (a / 2 ^ (n + 1))), .slice A5 (dg (a / 2 ^ (n + 1))).length c5], .agg #[.int .i64 1, .slice A8 (dg 1).length c8]] (by rfl) rfl rfl (by (try simp only [List.map_toArray, List.map_cons, List.map_nil]); first | done | rfl) ?_
          with_reducible refine (spec_l02Add.calls 10000 (sg 1 (a / 2 ^ (n + 1))) A5 c5 (dg (a / 2 ^ (n + 1))) 1 A8 c8 (dg 1) (sg 1 (a / 2 ^ (n + 1) + 1)) (dg (a / 2 ^ (n + 1) + 1)) _ (Kd.R_reads' HRn8.out).2.2 (Kd.R_reads' HRn8.out).2.1 (Kd.R_reads' HRo8.out).2.2 (Kd.R_reads' HRo8.out).2.1 HADD.out).mono ?_
          rintro e w9 ⟨v9, rfl, hR9, hB9⟩
          refine ⟨_, rfl, ?_⟩
          obtain ⟨A9, c9, rfl⟩ := Kd.R_slice hR9
          have BK9 := blk_below BK8.out hB9
          have BD9 := blk_below BD8.out hB9
          have HB9 := HB8.out.trans (hB9.mono HB8.out.size)
          have HR9 := Kd.R_lower hR9 HB8.out.size
          clear hR9 hB9
          refine hK.out _ _ ⟨(blk_cell BK9 0).trans rfl, (blk_cell BK9 1).trans rfl⟩ (fun hHeld => ?_)
          clear hK K
          refine norm_ (a' := ?_) ?_ ?_
          rotate_left
          · show Act.put _ (some 57) _ = _
            simp only [Act.put, List.setIfInBounds_toArray, List.set_cons_zero, List.set_cons_succ]
            rfl
          refine last_ (i := 3) (N := none) #[true, true, true, true] rfl rfl (by kernel_rfl) (by decide) (fun K hK => ?_)
          have hs0 : w9.cell? ⟨g9, 0, none⟩ = some (.int .i64 (sg 1 (a / 2 ^ (n + 1)))) := (blk_cell BK9 0).trans rfl
          have hs1 : w9.cell? ⟨g9, 1, none⟩ = some (.slice A5 (dg (a / 2 ^ (n + 1))).length c5) := (blk_cell BK9 1).trans rfl
          have hf0 := blk_frozen BK9 0
          have hf1 := blk_frozen BK9 1
          refine skip_ (w1 := ?_) (by rfl) rfl ?_ ?_
          rotate_left
          · go_simp
            rfl
          refine hK.out _ _ ?_
          clear hK K
          refine done_ (by kernel_rfl) ?_
          go_wp2
          go_meet
          have BKa : (w9.setCell ⟨g9, 0, none⟩ (.int .i64 (sg 1 (a / 2 ^ (n + 1) + 1)))).heap[g9]? = some (.cells #[.int .i64 (sg 1 (a / 2 ^ (n + 1) + 1)), .slice A5 (dg (a / 2 ^ (n + 1))).length c5] 31 (0, 0)) := blk_put BK9 0 _ rfl
          have BKb : ((w9.setCell ⟨g9, 0, none⟩ (.int .i64 (sg 1 (a / 2 ^ (n + 1) + 1)))).setCell ⟨g9, 1, none⟩ (.slice A9 (dg (a / 2 ^ (n + 1) + 1)).length c9)).heap[g9]? = some (.cells #[.int .i64 (sg 1 (a / 2 ^ (n + 1) + 1)), .slice A9 (dg (a / 2 ^ (n + 1) + 1)).length c9] 31 (0, 0)) := blk_put BKa 1 _ rfl
          rw [HMR.out]
          refine ⟨A9, c9, BKb, ?_, (HB9.setCell hgd _).setCell hgd _, Kd.R_set (Kd.R_set HR9 BK9 not36 0 _) BKa not36 1 _⟩
          refine (heap_setCell_other _ _ _ _ (Nat.ne_of_lt hd9)).trans ((heap_setCell_other _ _ _ _ (Nat.ne_of_lt hd9)).trans BD9)
        · have HN := Lib.hid hn
          have hbm := bit_f (sg 1 (a / 2 ^ (n + 1))) (a / 2 ^ (n + 1)) 0 (by omega) (by have := ln_mono (Nat.div_le_self a (2 ^ (n + 1))); omega)
          rw [Nat.pow_zero, Nat.div_one] at hbm
          by_cases hm : a / 2 ^ (n + 1) % 2 = 1
          · rw [if_pos ⟨hb, Or.inr hm⟩] at hMr
            rw [hm] at hbm
            have HBM : Hid (spec_l02Bit.f (sg 1 (a / 2 ^ (n + 1))) (dg (a / 2 ^ (n + 1))) 0 = some 1) := Lib.hid hbm
            have HMR := Lib.hid hMr
            clear hMr hb hm hbm
            go_wp2_with (first | (go_at_call 39; rw [show (E + (n : Int) + 1 - E) = ((n + 1 : Nat) : Int) by omega]; refine (spec_l02Cut.calls 100000 1 A1 c1 (dg a) _ _ _ _ (Kd.R_reads' HHR.out).2.2 (Kd.R_reads' HHR.out).2.1 HCF.out).mono ?_; rintro e w5 ⟨v5, rfl, hR5, hB5⟩; obtain ⟨A5, c5, rfl⟩ := Kd.R_slice hR5; have HR5 := Lib.hid hR5; have HB5 := Lib.hid hB5; clear hR5 hB5; have BK5 : Hid (w5.heap[g9]? = some (.cells #[.int .i64 1, .slice A1 (dg a).length c1] 31 (0, 0))) := Lib.hid (blk_below HBKc.out HB5.out); have BM5 : Hid (w5.heap[g7]? = some (.cells #[.int .i64 1, .slice A1 (dg a).length c1] 31 (0, 0))) := Lib.hid (blk_below HBKm.out HB5.out); have hcz_0 : w5.cell? ⟨g9, 0, none⟩ = some (.int .i64 1) := (blk_cell BK5.out 0).trans rfl; have hcz_1 : w5.cell? ⟨g9, 1, none⟩ = some (.slice A1 (dg a).length c1) := (blk_cell BK5.out 1).trans rfl; have hmz_0 : w5.cell? ⟨g7, 0, none⟩ = some (.int .i64 1) := (blk_cell BM5.out 0).trans rfl; have hmz_1 : w5.cell? ⟨g7, 1, none⟩ = some (.slice A1 (dg a).length c1) := (blk_cell BM5.out 1).trans rfl; have hfz_0 := blk_frozen BK5.out 0; have hfz_1 := blk_frozen BK5.out 1) | (have hq7 := BK7; clear hq7; go_at_call 40; refine (spec_l02Bit.calls (sg 1 (a / 2 ^ (n + 1))) A5 c5 (dg (a / 2 ^ (n + 1))) 0 _ _ (Kd.R_reads' HR7.out).2.2 (Kd.R_reads' HR7.out).2.1 HBM.out).mono ?_; rintro e wz ⟨rfl, hBz⟩; have BKz : Hid (wz.heap[g9]? = some (.cells #[.int .i64 (sg 1 (a / 2 ^ (n + 1))), .slice A5 (dg (a / 2 ^ (n + 1))).length c5] 31 (0, 0))) := Lib.hid (blk_below BK7.out hBz); have BDz : Hid (wz.heap[w.heap.size]? = some (.cells #[.int .i64 s, .slice A (dg a).length c, .int .i64 E] 33 (0, 0))) := Lib.hid (blk_below BD7.out hBz); have HBz : Hid (Below w.heap.size w wz) := Lib.hid (HB7.out.trans (hBz.mono HB7.out.size)); have HRz : Hid (Kd.R (Kd.int .i64) 2 wz w.heap.size (fun _ => True) (.slice A5 (dg (a / 2 ^ (n + 1))).length c5) (dg (a / 2 ^ (n + 1)))) := Lib.hid (Kd.R_below HR7.out hBz); clear hBz; have hcy_0 : wz.cell? ⟨g9, 0, none⟩ = some (.int .i64 (sg 1 (a / 2 ^ (n + 1)))) := (blk_cell BKz.out 0).trans rfl; have hcy_1 : wz.cell? ⟨g9, 1, none⟩ = some (.slice A5 (dg (a / 2 ^ (n + 1))).length c5) := (blk_cell BKz.out 1).trans rfl) | (go_at_call 40; have BKa : (w5.setCell ⟨g9, 0, none⟩ (.int .i64 (sg 1 (a / 2 ^ (n + 1))))).heap[g9]? = some (.cells #[.int .i64 (sg 1 (a / 2 ^ (n + 1))), .slice A1 (dg a).length c1] 31 (0, 0)) := blk_put BK5.out 0 _ rfl; have BK6 : ((w5.setCell ⟨g9, 0, none⟩ (.int .i64 (sg 1 (a / 2 ^ (n + 1))))).setCell ⟨g9, 1, none⟩ (.slice A5 (dg (a / 2 ^ (n + 1))).length c5)).heap[g9]? = some (.cells #[.int .i64 (sg 1 (a / 2 ^ (n + 1))), .slice A5 (dg (a / 2 ^ (n + 1))).length c5] 31 (0, 0)) := blk_put BKa 1 _ rfl; have BD6 : ((w5.setCell ⟨g9, 0, none⟩ (.int .i64 (sg 1 (a / 2 ^ (n + 1))))).setCell ⟨g9, 1, none⟩ (.slice A5 (dg (a / 2 ^ (n + 1))).length c5)).heap[w.heap.size]? = some (.cells #[.int .i64 s, .slice A (dg a).length c, .int .i64 E] 33 (0, 0)) := (heap_setCell_other _ _ _ _ (Nat.ne_of_lt hd9)).trans ((heap_setCell_other _ _ _ _ (Nat.ne_of_lt hd9)).trans (blk_below HBKd.out HB5.out)); have HB6 : Below w.heap.size w ((w5.setCell ⟨g9, 0, none⟩ (.int .i64 (sg 1 (a / 2 ^ (n + 1))))).setCell ⟨g9, 1, none⟩ (.slice A5 (dg (a / 2 ^ (n + 1))).length c5)) := ((HHB.out.trans (HB5.out.mono hgw)).setCell hgd _).setCell hgd _; have HRm6 : Kd.R (Kd.int .i64) 2 ((w5.setCell ⟨g9, 0, none⟩ (.int .i64 (sg 1 (a / 2 ^ (n + 1))))).setCell ⟨g9, 1, none⟩ (.slice A5 (dg (a / 2 ^ (n + 1))).length c5)) w.heap.size (fun _ => True) (.slice A1 (dg a).length c1) (dg a) := Kd.R_set (Kd.R_set (Kd.R_below HHR.out HB5.out) BK5.out not36 0 _) BKa not36 1 _; have HRn6 : Kd.R (Kd.int .i64) 2 ((w5.setCell ⟨g9, 0, none⟩ (.int .i64 (sg 1 (a / 2 ^ (n + 1))))).setCell ⟨g9, 1, none⟩ (.slice A5 (dg (a / 2 ^ (n + 1))).length c5)) w.heap.size (fun _ => True) (.slice A5 (dg (a / 2 ^ (n + 1))).length c5) (dg (a / 2 ^ (n + 1))) := Kd.R_set (Kd.R_set (Kd.R_lower HR5.out hgw) BK5.out not36 0 _) BKa not36 1 _; clear BKa; generalize (w5.setCell ⟨g9, 0, none⟩ (.int .i64 (sg 1 (a / 2 ^ (n + 1))))).setCell ⟨g9, 1, none⟩ (.slice A5 (dg (a / 2 ^ (n + 1))).length c5) = W6 at *; refine (spec_l02Bit.calls 1 A1 c1 (dg a) _ _ _ (Kd.R_reads' HRm6).2.2 (Kd.R_reads' HRm6).2.1 HBF.out).mono ?_; rintro e w7 ⟨rfl, hB7⟩; have BK7 : Hid (w7.heap[g9]? = some (.cells #[.int .i64 (sg 1 (a / 2 ^ (n + 1))), .slice A5 (dg (a / 2 ^ (n + 1))).length c5] 31 (0, 0))) := Lib.hid (blk_below BK6 hB7); have BD7 : Hid (w7.heap[w.heap.size]? = some (.cells #[.int .i64 s, .slice A (dg a).length c, .int .i64 E] 33 (0, 0))) := Lib.hid (blk_below BD6 hB7); have HB7 : Hid (Below w.heap.size w w7) := Lib.hid (HB6.trans (hB7.mono HB6.size)); have HR7 : Hid (Kd.R (Kd.int .i64) 2 w7 w.heap.size (fun _ => True) (.slice A5 (dg (a / 2 ^ (n + 1))).length c5) (dg (a / 2 ^ (n + 1)))) := Lib.hid (Kd.R_below HRn6 hB7); clear BK6 BD6 HB6 HRm6 HRn6 hB7; have hc7_0 : w7.cell? ⟨g9, 0, none⟩ = some (.int .i64 (sg 1 (a / 2 ^ (n + 1)))) := (blk_cell BK7.out 0).trans rfl; have hc7_1 : w7.cell? ⟨g9, 1, none⟩ = some (.slice A5 (dg (a / 2 ^ (n + 1))).length c5) := (blk_cell BK7.out 1).trans rfl))
            refine start_ (n := 4) (S := fun w' => w'.cell? ⟨g9, 0, none⟩ = some (.int .i64 (sg 1 (a / 2 ^ (n + 1)))) ∧ w'.cell? ⟨g9, 1, none⟩ = some (.slice A5 (dg (a / 2 ^ (n + 1))).length c5)) (ds := [3]) #[false, false, false, false] (by kernel_rfl) rfl rfl ⟨(blk_cell (blk_drew BKz.out) 0).trans rfl, (blk_cell (blk_drew BKz.out) 1).trans rfl⟩ (fun hHeld => ?_)
            refine take_ (i := 0) (N := some 55) (v := ?_) (a' := ?_) #[true, false, false, false] rfl rfl (by kernel_rfl) (fun _ _ _ h => h) (Or.inl ⟨by rfl, ?_⟩) hHeld ?_ ?_
            rotate_left
            · rintro w' ⟨s0, s1⟩
              go_simp
              with_reducible rfl
            rotate_left
            · simp only [Act.put, List.setIfInBounds_toArray, List.set_cons_zero, List.set_cons_succ]
              rfl
            refine one_ (i := 1) (N := some 56) #[true, true, false, false] rfl rfl (by kernel_rfl) (by decide) (fun K hK => ?_)
            refine goes_ Tryd.func42 (by kernel_rfl) rfl #[.int .i64 1] (by rfl) rfl rfl (by (try simp only [List.map_toArray, List.map_cons, List.map_nil]); first | done | rfl) ?_
            with_reducible refine (spec_l02Of.calls 400 1 1 (dg 1) _ HOF1.out).mono ?_
            rintro e w8 ⟨v8, rfl, hR8, hB8⟩
            refine ⟨_, rfl, ?_⟩
            obtain ⟨A8, c8, rfl⟩ := Kd.R_slice hR8
            have BK8 : Hid (w8.heap[g9]? = some (.cells #[.int .i64 (sg 1 (a / 2 ^ (n + 1))), .slice A5 (dg (a / 2 ^ (n + 1))).length c5] 31 (0, 0))) := Lib.hid (blk_below (blk_drew BKz.out) hB8)
            have BD8 : Hid (w8.heap[w.heap.size]? = some (.cells #[.int .i64 s, .slice A (dg a).length c, .int .i64 E] 33 (0, 0))) := Lib.hid (blk_below (blk_drew BDz.out) hB8)
            have HB8 : Hid (Below w.heap.size w w8) := Lib.hid (HBz.out.drew.trans (hB8.mono HBz.out.size))
            have HRn8 : Hid (Kd.R (Kd.int .i64) 2 w8 w.heap.size (fun _ => True) (.slice A5 (dg (a / 2 ^ (n + 1))).length c5) (dg (a / 2 ^ (n + 1)))) := Lib.hid (Kd.R_below (Kd.R_drew HRz.out) hB8)
            have HRo8 : Hid (Kd.R (Kd.int .i64) 2 w8 wz.heap.size (fun _ => True) (.slice A8 (dg 1).length c8) (dg 1)) := Lib.hid hR8
            clear hR8 hB8
            refine hK.out _ _ ⟨(blk_cell BK8.out 0).trans rfl, (blk_cell BK8.out 1).trans rfl⟩ (fun hHeld => ?_)
            clear hK K
            refine norm_ (a' := ?_) ?_ ?_
            rotate_left
            · show Act.put _ (some 56) _ = _
              simp only [Act.put, List.setIfInBounds_toArray, List.set_cons_zero, List.set_cons_succ]
              rfl
            refine one_ (i := 2) (N := some 57) #[true, true, true, false] rfl rfl (by kernel_rfl) (by decide) (fun K hK => ?_)
            refine goes_ Tryd.func41 (by kernel_rfl) rfl #[.agg #[.int .i64 (sg 1 (a / 2 ^ (n + 1))), .slice A5 (dg (a / 2 ^ (n + 1))).length c5], .agg #[.int .i64 1, .slice A8 (dg 1).length c8]] (by rfl) rfl rfl (by (try simp only [List.map_toArray, List.map_cons, List.map_nil]); first | done | rfl) ?_
            with_reducible refine (spec_l02Add.calls 10000 (sg 1 (a / 2 ^ (n + 1))) A5 c5 (dg (a / 2 ^ (n + 1))) 1 A8 c8 (dg 1) (sg 1 (a / 2 ^ (n + 1) + 1)) (dg (a / 2 ^ (n + 1) + 1)) _ (Kd.R_reads' HRn8.out).2.2 (Kd.R_reads' HRn8.out).2.1 (Kd.R_reads' HRo8.out).2.2 (Kd.R_reads' HRo8.out).2.1 HADD.out).mono ?_
            rintro e w9 ⟨v9, rfl, hR9, hB9⟩
            refine ⟨_, rfl, ?_⟩
            obtain ⟨A9, c9, rfl⟩ := Kd.R_slice hR9
            have BK9 := blk_below BK8.out hB9
            have BD9 := blk_below BD8.out hB9
            have HB9 := HB8.out.trans (hB9.mono HB8.out.size)
            have HR9 := Kd.R_lower hR9 HB8.out.size
            clear hR9 hB9
            refine hK.out _ _ ⟨(blk_cell BK9 0).trans rfl, (blk_cell BK9 1).trans rfl⟩ (fun hHeld => ?_)
            clear hK K
            refine norm_ (a' := ?_) ?_ ?_
            rotate_left
            · show Act.put _ (some 57) _ = _
              simp only [Act.put, List.setIfInBounds_toArray, List.set_cons_zero, List.set_cons_succ]
              rfl
            refine last_ (i := 3) (N := none) #[true, true, true, true] rfl rfl (by kernel_rfl) (by decide) (fun K hK => ?_)
            have hs0 : w9.cell? ⟨g9, 0, none⟩ = some (.int .i64 (sg 1 (a / 2 ^ (n + 1)))) := (blk_cell BK9 0).trans rfl
            have hs1 : w9.cell? ⟨g9, 1, none⟩ = some (.slice A5 (dg (a / 2 ^ (n + 1))).length c5) := (blk_cell BK9 1).trans rfl
            have hf0 := blk_frozen BK9 0
            have hf1 := blk_frozen BK9 1
            refine skip_ (w1 := ?_) (by rfl) rfl ?_ ?_
            rotate_left
            · go_simp
              rfl
            refine hK.out _ _ ?_
            clear hK K
            refine done_ (by kernel_rfl) ?_
            go_wp2
            go_meet
            have BKa : (w9.setCell ⟨g9, 0, none⟩ (.int .i64 (sg 1 (a / 2 ^ (n + 1) + 1)))).heap[g9]? = some (.cells #[.int .i64 (sg 1 (a / 2 ^ (n + 1) + 1)), .slice A5 (dg (a / 2 ^ (n + 1))).length c5] 31 (0, 0)) := blk_put BK9 0 _ rfl
            have BKb : ((w9.setCell ⟨g9, 0, none⟩ (.int .i64 (sg 1 (a / 2 ^ (n + 1) + 1)))).setCell ⟨g9, 1, none⟩ (.slice A9 (dg (a / 2 ^ (n + 1) + 1)).length c9)).heap[g9]? = some (.cells #[.int .i64 (sg 1 (a / 2 ^ (n + 1) + 1)), .slice A9 (dg (a / 2 ^ (n + 1) + 1)).length c9] 31 (0, 0)) := blk_put BKa 1 _ rfl
            rw [HMR.out]
            refine ⟨A9, c9, BKb, ?_, (HB9.setCell hgd _).setCell hgd _, Kd.R_set (Kd.R_set HR9 BK9 not36 0 _) BKa not36 1 _⟩
            refine (heap_setCell_other _ _ _ _ (Nat.ne_of_lt hd9)).trans ((heap_setCell_other _ _ _ _ (Nat.ne_of_lt hd9)).trans BD9)
          · rw [if_neg (by omega)] at hMr
            rw [show a / 2 ^ (n + 1) % 2 = 0 by omega] at hbm
            have HBM : Hid (spec_l02Bit.f (sg 1 (a / 2 ^ (n + 1))) (dg (a / 2 ^ (n + 1))) 0 = some 0) := Lib.hid hbm
            have HMR := Lib.hid hMr
            clear hMr hb hm hbm
            go_wp2_with (first | (go_at_call 39; rw [show (E + (n : Int) + 1 - E) = ((n + 1 : Nat) : Int) by omega]; refine (spec_l02Cut.calls 100000 1 A1 c1 (dg a) _ _ _ _ (Kd.R_reads' HHR.out).2.2 (Kd.R_reads' HHR.out).2.1 HCF.out).mono ?_; rintro e w5 ⟨v5, rfl, hR5, hB5⟩; obtain ⟨A5, c5, rfl⟩ := Kd.R_slice hR5; have HR5 := Lib.hid hR5; have HB5 := Lib.hid hB5; clear hR5 hB5; have BK5 : Hid (w5.heap[g9]? = some (.cells #[.int .i64 1, .slice A1 (dg a).length c1] 31 (0, 0))) := Lib.hid (blk_below HBKc.out HB5.out); have BM5 : Hid (w5.heap[g7]? = some (.cells #[.int .i64 1, .slice A1 (dg a).length c1] 31 (0, 0))) := Lib.hid (blk_below HBKm.out HB5.out); have hcz_0 : w5.cell? ⟨g9, 0, none⟩ = some (.int .i64 1) := (blk_cell BK5.out 0).trans rfl; have hcz_1 : w5.cell? ⟨g9, 1, none⟩ = some (.slice A1 (dg a).length c1) := (blk_cell BK5.out 1).trans rfl; have hmz_0 : w5.cell? ⟨g7, 0, none⟩ = some (.int .i64 1) := (blk_cell BM5.out 0).trans rfl; have hmz_1 : w5.cell? ⟨g7, 1, none⟩ = some (.slice A1 (dg a).length c1) := (blk_cell BM5.out 1).trans rfl; have hfz_0 := blk_frozen BK5.out 0; have hfz_1 := blk_frozen BK5.out 1) | (have hq7 := BK7; clear hq7; go_at_call 40; refine (spec_l02Bit.calls (sg 1 (a / 2 ^ (n + 1))) A5 c5 (dg (a / 2 ^ (n + 1))) 0 _ _ (Kd.R_reads' HR7.out).2.2 (Kd.R_reads' HR7.out).2.1 HBM.out).mono ?_; rintro e wz ⟨rfl, hBz⟩; have BKz : Hid (wz.heap[g9]? = some (.cells #[.int .i64 (sg 1 (a / 2 ^ (n + 1))), .slice A5 (dg (a / 2 ^ (n + 1))).length c5] 31 (0, 0))) := Lib.hid (blk_below BK7.out hBz); have BDz : Hid (wz.heap[w.heap.size]? = some (.cells #[.int .i64 s, .slice A (dg a).length c, .int .i64 E] 33 (0, 0))) := Lib.hid (blk_below BD7.out hBz); have HBz : Hid (Below w.heap.size w wz) := Lib.hid (HB7.out.trans (hBz.mono HB7.out.size)); have HRz : Hid (Kd.R (Kd.int .i64) 2 wz w.heap.size (fun _ => True) (.slice A5 (dg (a / 2 ^ (n + 1))).length c5) (dg (a / 2 ^ (n + 1)))) := Lib.hid (Kd.R_below HR7.out hBz); clear hBz; have hcy_0 : wz.cell? ⟨g9, 0, none⟩ = some (.int .i64 (sg 1 (a / 2 ^ (n + 1)))) := (blk_cell BKz.out 0).trans rfl; have hcy_1 : wz.cell? ⟨g9, 1, none⟩ = some (.slice A5 (dg (a / 2 ^ (n + 1))).length c5) := (blk_cell BKz.out 1).trans rfl) | (go_at_call 40; have BKa : (w5.setCell ⟨g9, 0, none⟩ (.int .i64 (sg 1 (a / 2 ^ (n + 1))))).heap[g9]? = some (.cells #[.int .i64 (sg 1 (a / 2 ^ (n + 1))), .slice A1 (dg a).length c1] 31 (0, 0)) := blk_put BK5.out 0 _ rfl; have BK6 : ((w5.setCell ⟨g9, 0, none⟩ (.int .i64 (sg 1 (a / 2 ^ (n + 1))))).setCell ⟨g9, 1, none⟩ (.slice A5 (dg (a / 2 ^ (n + 1))).length c5)).heap[g9]? = some (.cells #[.int .i64 (sg 1 (a / 2 ^ (n + 1))), .slice A5 (dg (a / 2 ^ (n + 1))).length c5] 31 (0, 0)) := blk_put BKa 1 _ rfl; have BD6 : ((w5.setCell ⟨g9, 0, none⟩ (.int .i64 (sg 1 (a / 2 ^ (n + 1))))).setCell ⟨g9, 1, none⟩ (.slice A5 (dg (a / 2 ^ (n + 1))).length c5)).heap[w.heap.size]? = some (.cells #[.int .i64 s, .slice A (dg a).length c, .int .i64 E] 33 (0, 0)) := (heap_setCell_other _ _ _ _ (Nat.ne_of_lt hd9)).trans ((heap_setCell_other _ _ _ _ (Nat.ne_of_lt hd9)).trans (blk_below HBKd.out HB5.out)); have HB6 : Below w.heap.size w ((w5.setCell ⟨g9, 0, none⟩ (.int .i64 (sg 1 (a / 2 ^ (n + 1))))).setCell ⟨g9, 1, none⟩ (.slice A5 (dg (a / 2 ^ (n + 1))).length c5)) := ((HHB.out.trans (HB5.out.mono hgw)).setCell hgd _).setCell hgd _; have HRm6 : Kd.R (Kd.int .i64) 2 ((w5.setCell ⟨g9, 0, none⟩ (.int .i64 (sg 1 (a / 2 ^ (n + 1))))).setCell ⟨g9, 1, none⟩ (.slice A5 (dg (a / 2 ^ (n + 1))).length c5)) w.heap.size (fun _ => True) (.slice A1 (dg a).length c1) (dg a) := Kd.R_set (Kd.R_set (Kd.R_below HHR.out HB5.out) BK5.out not36 0 _) BKa not36 1 _; have HRn6 : Kd.R (Kd.int .i64) 2 ((w5.setCell ⟨g9, 0, none⟩ (.int .i64 (sg 1 (a / 2 ^ (n + 1))))).setCell ⟨g9, 1, none⟩ (.slice A5 (dg (a / 2 ^ (n + 1))).length c5)) w.heap.size (fun _ => True) (.slice A5 (dg (a / 2 ^ (n + 1))).length c5) (dg (a / 2 ^ (n + 1))) := Kd.R_set (Kd.R_set (Kd.R_lower HR5.out hgw) BK5.out not36 0 _) BKa not36 1 _; clear BKa; generalize (w5.setCell ⟨g9, 0, none⟩ (.int .i64 (sg 1 (a / 2 ^ (n + 1))))).setCell ⟨g9, 1, none⟩ (.slice A5 (dg (a / 2 ^ (n + 1))).length c5) = W6 at *; refine (spec_l02Bit.calls 1 A1 c1 (dg a) _ _ _ (Kd.R_reads' HRm6).2.2 (Kd.R_reads' HRm6).2.1 HBF.out).mono ?_; rintro e w7 ⟨rfl, hB7⟩; have BK7 : Hid (w7.heap[g9]? = some (.cells #[.int .i64 (sg 1 (a / 2 ^ (n + 1))), .slice A5 (dg (a / 2 ^ (n + 1))).length c5] 31 (0, 0))) := Lib.hid (blk_below BK6 hB7); have BD7 : Hid (w7.heap[w.heap.size]? = some (.cells #[.int .i64 s, .slice A (dg a).length c, .int .i64 E] 33 (0, 0))) := Lib.hid (blk_below BD6 hB7); have HB7 : Hid (Below w.heap.size w w7) := Lib.hid (HB6.trans (hB7.mono HB6.size)); have HR7 : Hid (Kd.R (Kd.int .i64) 2 w7 w.heap.size (fun _ => True) (.slice A5 (dg (a / 2 ^ (n + 1))).length c5) (dg (a / 2 ^ (n + 1)))) := Lib.hid (Kd.R_below HRn6 hB7); clear BK6 BD6 HB6 HRm6 HRn6 hB7; have hc7_0 : w7.cell? ⟨g9, 0, none⟩ = some (.int .i64 (sg 1 (a / 2 ^ (n + 1)))) := (blk_cell BK7.out 0).trans rfl; have hc7_1 : w7.cell? ⟨g9, 1, none⟩ = some (.slice A5 (dg (a / 2 ^ (n + 1))).length c5) := (blk_cell BK7.out 1).trans rfl))
            go_meet
            rw [HMR.out]
            exact ⟨A5, c5, BKz.out, BDz.out, HBz.out, HRz.out⟩
    · obtain ⟨n, rfl⟩ : ∃ n : Nat, q = E - n := ⟨(E - q).toNat, by omega⟩
      clear hS
      have hlf := left_f 1 a n 100000 (by omega) (by omega) (by omega)
      have HLF := Lib.hid hlf
      clear hlf
      have hMe : M = a * 2 ^ n := by
        rw [HM.out]
        unfold mOf
        rw [← HQ.out, if_neg (by omega), show (E - (E - (n : Int))).toNat = n by omega]
      have HME := Lib.hid hMe
      clear hMe
      go_wp2_with (first | (go_at_call 43; rw [show (-(E - (n : Int) - E)) = (n : Int) by omega]; refine (spec_l02Left.calls 100000 1 A1 c1 (dg a) _ _ _ _ (Kd.R_reads' HHR.out).2.2 (Kd.R_reads' HHR.out).2.1 HLF.out).mono ?_; rintro e w5 ⟨v5, rfl, hR5, hB5⟩; obtain ⟨A5, c5, rfl⟩ := Kd.R_slice hR5; have HR5 := Lib.hid hR5; have HB5 := Lib.hid hB5; clear hR5 hB5; have BK5 : Hid (w5.heap[g9]? = some (.cells #[.int .i64 1, .slice A1 (dg a).length c1] 31 (0, 0))) := Lib.hid (blk_below HBKc.out HB5.out); have hcz_0 : w5.cell? ⟨g9, 0, none⟩ = some (.int .i64 1) := (blk_cell BK5.out 0).trans rfl; have hcz_1 : w5.cell? ⟨g9, 1, none⟩ = some (.slice A1 (dg a).length c1) := (blk_cell BK5.out 1).trans rfl; have hfz_0 := blk_frozen BK5.out 0; have hfz_1 := blk_frozen BK5.out 1))
      go_meet
      have BKa : (w5.setCell ⟨g9, 0, none⟩ (.int .i64 (sg 1 (a * 2 ^ n)))).heap[g9]? = some (.cells #[.int .i64 (sg 1 (a * 2 ^ n)), .slice A1 (dg a).length c1] 31 (0, 0)) := blk_put BK5.out 0 _ rfl
      have BKb : ((w5.setCell ⟨g9, 0, none⟩ (.int .i64 (sg 1 (a * 2 ^ n)))).setCell ⟨g9, 1, none⟩ (.slice A5 (dg (a * 2 ^ n)).length c5)).heap[g9]? = some (.cells #[.int .i64 (sg 1 (a * 2 ^ n)), .slice A5 (dg (a * 2 ^ n)).length c5] 31 (0, 0)) := blk_put BKa 1 _ rfl
      rw [HME.out]
      refine ⟨A5, c5, BKb, ?_, ?_, ?_⟩
      · refine (heap_setCell_other _ _ _ _ (Nat.ne_of_lt hd9)).trans ((heap_setCell_other _ _ _ _ (Nat.ne_of_lt hd9)).trans ?_)
        exact blk_below HBKd.out HB5.out
      · exact ((HHB.out.trans (HB5.out.mono hgw)).setCell hgd _).setCell hgd _
      · exact Kd.R_set (Kd.R_set (Kd.R_lower HR5.out hgw) BK5.out not36 0 _) BKa not36 1 _
  case rest =>
    obtain ⟨A9, c9, BK9, BKd, HB9, HR9⟩ := hcut
    clear HBKc HBKm HBKd HHB HHR
    have hM53 : M ≤ 2 ^ 53 := by rw [HM.out]; exact HRF.out.2.1
    have hlnM : ln M ≤ 3 := ln_three' hM53
    have hc1 : wc.cell? ⟨g9, 1, none⟩ = some (.slice A9 (dg M).length c9) := (blk_cell BK9 1).trans rfl
    have hd0 : wc.cell? ⟨w.heap.size, 0, none⟩ = some (.int .i64 s) := (blk_cell BKd 0).trans rfl
    have HB9' := Lib.hid HB9
    have HR9' := Lib.hid HR9
    have hlm : (dg M).length ≤ 3 := by rw [dg_length]; exact hlnM
    clear BK9 BKd HB9 HR9
    go_wp2
    have hfin : near (decide (s < 0)) M q = near (decide (s < 0)) a E := by rw [HM.out, HQ.out]; exact HRF.out.1.symm
    have HFIN := Lib.hid hfin
    clear hfin
    go_loop [12, 13] (fun x i => ∃ j : Nat, j ≤ (dg M).length ∧ x = .float .f64 (near false (M / 16777216 ^ j) 0) ∧ i = .int .i64 ((j : Int) - 1)) (fun _ i => (intOf i + 1).toNat)
    case atStart => exact ⟨(dg M).length, Nat.le_refl _, by rw [dg_length, Nat.div_eq_of_lt (lt_ln M)]; rfl, rfl⟩
    case round =>
      obtain ⟨j, hj, rfl, rfl⟩ := hrel
      cases j with
      | succ j =>
        have hX : M / 16777216 ^ (j + 1) ≤ M := Nat.div_le_self _ _
        have hmul : ∀ k w, (binOp .mul k (.float .f64 (near false (M / 16777216 ^ (j + 1)) 0)) (.float .f64 4715268809856909312)).run Tryd.prog w = .ok (.float .f64 (near false (M / 16777216 ^ (j + 1) * 2 ^ 24) 0)) w := fun k w => run_float_arith w .mul k .f64 _ _ _ (base_near false (good0 (by omega)))
        have hstep : M / 16777216 ^ (j + 1) * 2 ^ 24 + M / 16777216 ^ j % 16777216 = M / 16777216 ^ j := by
          rw [← div_div_B]
          have := Nat.div_add_mod (M / 16777216 ^ j) 16777216
          rw [Nat.mul_comm] at this
          exact this
        have hY : M / 16777216 ^ j ≤ M := Nat.div_le_self _ _
        have hadd : ∀ k w, (binOp .add k (.float .f64 (near false (M / 16777216 ^ (j + 1) * 2 ^ 24) 0)) (.float .f64 (near false (M / 16777216 ^ j % 16777216) 0))).run Tryd.prog w = .ok (.float .f64 (near false (M / 16777216 ^ j) 0)) w := fun k w => run_float_arith w .add k .f64 _ _ _ (by rw [add_near (good0 (by omega)) (good0 (by omega)), hstep])
        obtain ⟨ad, hA, hcell⟩ := Kd.at_int (Kd.R_reads' HR9'.out).2.2 (j : Int) (by omega) (by omega)
        subst hA
        have hrd : rd (dg M) (j : Int) = ((M / 16777216 ^ j % 16777216 : Nat) : Int) := by rw [rd_dg (by rw [dg_length] at hj; omega)]; rfl
        rw [hrd, Int.toNat_natCast] at hcell
        have hin : floatOfInt .f64 ((M / 16777216 ^ j % 16777216 : Nat) : Int) = near false (M / 16777216 ^ j % 16777216) 0 := int_near _
        rw [show (((j + 1 : Nat) : Int) - 1) = (j : Int) by omega]
        have hj1 : j < (dg M).length := by omega
        clear hX hstep hY hrd hj
        generalize M / 16777216 ^ (j + 1) * 2 ^ 24 = X1 at *
        generalize hD : M / 16777216 ^ j % 16777216 = D at *
        clear hD
        generalize hZ : M / 16777216 ^ j = Z at *
        have HZ := Lib.hid hZ
        clear hZ
        go_wp2_with (simp only [hmul, hin, hadd])
        go_round
        case rel => exact ⟨j, by omega, by rw [HZ.out], rfl⟩
        case measure => simp [intOf]
      | zero =>
        rw [show M / 16777216 ^ 0 = M by simp]
        rcases hs with rfl | rfl
        · go_wp2_with (first | (go_at_call 44; refine (scale_any M hM53 q hq0 (by omega) _).mono ?_; rintro e w' ⟨rfl, rfl⟩))
          go_ret
          exact ⟨by rw [← HFIN.out]; rfl, HB9'.out⟩
        · go_wp2_with (first | (go_at_call 44; refine (scale_any M hM53 q hq0 (by omega) _).mono ?_; rintro e w' ⟨rfl, rfl⟩) | (go_at_call 45; refine (turned_any M hM53 q hq0 _).mono ?_; rintro e w' ⟨rfl, rfl⟩))
          go_ret
          exact ⟨by rw [← HFIN.out]; rfl, HB9'.out⟩
end Go.Proofs.YtmedcpdjhgconaaDoor
