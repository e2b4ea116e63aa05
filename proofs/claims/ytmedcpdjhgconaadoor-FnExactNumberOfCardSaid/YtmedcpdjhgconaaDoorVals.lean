/- The value of a whole number in limbs, and of an exact number, as one of the program's big numbers. -/
import Derived.Test.YtmedcpdjhgconaaDoorArit

/-! ### The value of a whole number in limbs, and of an exact number, as one of the program's big numbers. -/
namespace Go.Proofs.YtmedcpdjhgconaaDoor
set_option linter.unusedVariables false
open Go.RowKit Go.Proofs.YtmedcpdjhgconaaDoorW.PrintWords Go.Proofs.YtmedcpdjhgconaaDoorW.PrintLast Go.Proofs.YtmedcpdjhgconaaDoorW.PrintMore Go.Proofs.YtmedcpdjhgconaaDoor.PFnExactFloatOf Go.Proofs.YtmedcpdjhgconaaDoor.Pure

theorem lw_ln (X : Nat) : lw X ≤ ln X := lw_le (Nat.lt_of_lt_of_le (lt_ln X) (Nat.pow_le_pow_left (by decide) _))

theorem limb_step (X j : Nat) : X / 16777216 ^ (j + 1) * 2 ^ 24 + X / 16777216 ^ j % 16777216 = X / 16777216 ^ j := by
  rw [← div_div_B]
  have := Nat.div_add_mod (X / 16777216 ^ j) 16777216
  rw [Nat.mul_comm] at this
  exact this

set_option maxRecDepth 100000 in
set_option maxHeartbeats 1000000 in
theorem value_calls (s : Int) (X : Nat) (A : Option Addr) (c : Nat) (w : World) (hC : Kd.C (Kd.int .i64) w A (dg X).length (dg X)) (hl : ln X ≤ 300) :
    Calls Tryd.prog 49 #[.agg #[.int .i64 s, .slice A (dg X).length c]] w (Makes (decide (s < 0) && (X != 0)) X w) := by
  have hll := lw_ln X
  obtain ⟨n, hn⟩ : ∃ n, (dg X).length = n := ⟨_, rfl⟩
  have hnl : n = ln X := by rw [← hn, dg_length]
  rw [hn]
  rw [hn] at hC
  have HC := Lib.hid hC
  have HN := Lib.hid hnl
  have HDL := Lib.hid hn
  have hn3 : n ≤ 300 := by omega
  obtain ⟨z, hz⟩ : ∃ z, z = w.heap.size + 1 := ⟨_, rfl⟩
  have hB0 := below_alloc (below_alloc (Below.refl w.heap.size w) (.cells #[.int .i64 s, .slice A n c] 31)) (.cells #[.bool false, .slice none 0 0] 85)
  have hk0 := blk_alloc (blk_new w (.cells #[.int .i64 s, .slice A n c] 31)) (.cells #[.bool false, .slice none 0 0] 85)
  have hbig : Big ((w.alloc (.cells #[.int .i64 s, .slice A n c] 31)).alloc (.cells #[.bool false, .slice none 0 0] 85)) (w.heap.size + 1) false 0 := by
    refine ⟨none, 0, ?_, Nat.le_refl _, ⟨Kd.C_of_reads (d := (0 : Int)) ⟨rfl, by decide, fun h => absurd h (by decide)⟩, fun ad he => by cases he⟩⟩
    rw [show w.heap.size + 1 = (w.alloc (.cells #[.int .i64 s, .slice A n c] 31)).heap.size by simp]
    exact blk_new _ _
  rw [← hz] at hbig
  have HB0 := Lib.hid hB0
  have HK0 := Lib.hid hk0
  have HBIG := Lib.hid hbig
  have HL := Lib.hid hl
  have HLL := Lib.hid hll
  clear hC hn hnl hB0 hk0 hbig hl hll
  go_enter Tryd.func49, Tryd.ntmps49
  go_wp2_with fail
  rw [← hz]
  have HZ := Lib.hid hz
  clear hz
  go_loopg [4] n (fun kq v4 w' => kq ≤ n ∧ v4 = .int .i64 ((kq : Int) - 1) ∧ Hid (Big w' z false (X / 16777216 ^ kq)) ∧ Hid (Below w.heap.size w w') ∧ Hid (w'.heap[w.heap.size]? = some (.cells #[.int .i64 s, .slice A n c] 31 (0, 0))))
  case atStart =>
    refine ⟨Nat.le_refl _, rfl, Lib.hid ?_, HB0, HK0⟩
    rw [show X / 16777216 ^ n = 0 by rw [HN.out, Nat.div_eq_of_lt (lt_ln X)]]
    exact HBIG.out
  case round =>
    obtain ⟨hle, rfl, HX, HB, HK⟩ := hrel
    have hk0 : wr.cell? ⟨w.heap.size, 0, none⟩ = some (.int .i64 s) := (blk_cell HK.out 0).trans rfl
    have hk1 : wr.cell? ⟨w.heap.size, 1, none⟩ = some (.slice A n c) := (blk_cell HK.out 1).trans rfl
    cases gk with
    | zero =>
      by_cases hs : s < 0
      · have hXX := HX.out
        rw [Nat.pow_zero, Nat.div_one] at hXX
        have HXX := Lib.hid hXX
        clear hXX
        go_wp2_with (first | (go_at_call 68; refine (neg_calls z z z X false _ HXX.out.isBig HXX.out (Nat.le_refl _) (by have := HLL.out; have := HL.out; omega)).mono ?_; rintro e w1 ⟨rfl, hp⟩; have HP := Lib.hid hp; clear hp))
        go_ret
        obtain ⟨h1, h2, h3⟩ := HP.out
        rw [show decide (s < 0) = true by simpa using hs]
        exact ⟨z, rfl, h1, by have := HZ.out; omega, HB.out.trans (h2.mono (by have := HZ.out; omega))⟩
      · have hXX := HX.out
        rw [Nat.pow_zero, Nat.div_one] at hXX
        have HXX := Lib.hid hXX
        clear hXX
        go_wp2_with fail
        go_ret
        rw [show decide (s < 0) = false by simpa using hs]
        exact ⟨z, rfl, HXX.out, by have := HZ.out; omega, HB.out⟩
    | succ gk =>
      have hlw : lw (X / 16777216 ^ (gk + 1)) ≤ 300 := by
        have := lw_mono (Nat.div_le_self X (16777216 ^ (gk + 1)))
        have := HL.out
        have := HLL.out
        omega
      have hlw2 := lw_mono (Nat.le_trans (Nat.le_add_right _ _) (Nat.le_of_eq (limb_step X gk)))
      have hlw3 := lw_mono (Nat.div_le_self X (16777216 ^ gk))
      have hlw4 : lw (X / 16777216 ^ (gk + 1) * 2 ^ 24) ≤ 300 := by
        have := HL.out
        have := HLL.out
        omega
      have hd : lw (X / 16777216 ^ gk % 16777216) ≤ 300 := by
        have h1 : X / 16777216 ^ gk % 16777216 < 4294967296 ^ 1 := by
          have := Nat.mod_lt (X / 16777216 ^ gk) (show 0 < 16777216 by decide)
          omega
        exact Nat.le_trans (lw_le h1) (by decide)
      have hst := limb_step X gk
      obtain ⟨ad, hA, hcell⟩ := Kd.at_int HC.out (gk : Int) (by omega) (by omega)
      have hrd : rd (dg X) (gk : Int) = ((X / 16777216 ^ gk % 16777216 : Nat) : Int) := by
        rw [rd_dg (by have := HN.out; omega)]; rfl
      subst hA
      rw [hrd, Int.toNat_natCast] at hcell
      have hdl := Nat.mod_lt (X / 16777216 ^ gk) (show 0 < 16777216 by decide)
      rw [show (((gk + 1 : Nat) : Int) - 1) = (gk : Int) by omega]
      obtain ⟨D, hD⟩ : ∃ D, D = X / 16777216 ^ gk % 16777216 := ⟨_, rfl⟩
      obtain ⟨Y, hY⟩ : ∃ D, D = X / 16777216 ^ (gk + 1) := ⟨_, rfl⟩
      rw [← hD] at hcell hd hst hdl
      rw [← hY] at hlw hlw4 hst HX
      have HST := Lib.hid hst
      have H1 := Lib.hid hlw
      have H4 := Lib.hid hlw4
      have HD := Lib.hid hd
      have hgn : gk < n := by omega
      clear hlw2 hlw3 hst hlw hlw4 hd hD hY hrd
      have hzz := HZ.out
      have HZL : Hid (w.heap.size ≤ z) := Lib.hid (by omega)
      have HCELL := Lib.hid hcell
      clear hcell hzz
      go_wp2_with (first | (go_at_call 67; refine (lsh_calls z z z Y 24 false _ HX.out.isBig HX.out (Nat.le_refl _) (by have := H1.out; omega) (by decide)).mono ?_; rintro e w1 ⟨rfl, hp, hB1, hK1⟩; have HP1 := Lib.hid hp; have HB1 := Lib.hid hB1; have HK1 := Lib.hid ((hB1.block w.heap.size (by have := HZ.out; omega)).trans HK.out); have HBW1 := Lib.hid (HB.out.trans (hB1.mono HZL.out)); have hc1 := pw_cell_below HBW1.out HCELL.out; clear hp hB1 hK1; have p0 : w1.cell? ⟨w.heap.size, 0, none⟩ = some (.int .i64 s) := (blk_cell HK1.out 0).trans rfl; have p1 : w1.cell? ⟨w.heap.size, 1, none⟩ = some (.slice (some ad) n c) := (blk_cell HK1.out 1).trans rfl) | (go_at_call 56; refine (new_calls D _ (by omega)).mono ?_; rintro e w2 ⟨y, rfl, hp, hyl, hB2⟩; have HP2 := Lib.hid hp; have HB2 := Lib.hid hB2; have HZ2 := Lib.hid (HP1.out.below hB2); clear hp hyl hB2) | (go_at_call 58; refine (add_calls z z y z (Y * 2 ^ 24) D _ HZ2.out.isBig HZ2.out HP2.out (Nat.le_refl _) (Nat.le_trans H4.out (by decide)) (Nat.le_trans HD.out (by decide))).mono ?_; rintro e w3 ⟨rfl, hp, hB3, hK3⟩; have HP3 := Lib.hid hp; have HB3 := Lib.hid hB3; clear hp hB3 hK3))
      go_roundg gk
      case measure => omega
      case rel =>
        have hB2 := HBW1.out.trans (HB2.out.mono HBW1.out.size)
        have hk3 := (HB3.out.block w.heap.size (by have := HZ.out; omega)).trans (blk_below HK1.out HB2.out)
        have hx3 := HP3.out
        rw [HST.out] at hx3
        exact ⟨by omega, rfl, Lib.hid hx3, Lib.hid (hB2.trans (HB3.out.mono HZL.out)), Lib.hid hk3⟩
end Go.Proofs.YtmedcpdjhgconaaDoor

/-! ### The value of an exact number. -/
namespace Go.Proofs.YtmedcpdjhgconaaDoor
set_option linter.unusedVariables false
open Go.RowKit Go.Proofs.YtmedcpdjhgconaaDoorW.PrintWords Go.Proofs.YtmedcpdjhgconaaDoorW.PrintLast Go.Proofs.YtmedcpdjhgconaaDoorW.PrintMore Go.Proofs.YtmedcpdjhgconaaDoor.PFnExactFloatOf Go.Proofs.YtmedcpdjhgconaaDoor.Pure

/-- What a function answers that makes a value with a sign. -/
def MakesVal (neg : Bool) (X : Nat) (P : Int) (w : World) (e : Ending) (w' : World) : Prop := ∃ z, e = .returned (.agg #[.pointer (some ⟨z, 0, none⟩), .int .i64 P]) ∧ Big w' z neg X ∧ w.heap.size ≤ z ∧ Below w.heap.size w w'

set_option maxRecDepth 100000 in
set_option maxHeartbeats 1000000 in
theorem dvalue_calls (s E : Int) (X : Nat) (A : Option Addr) (c : Nat) (w : World) (hC : Kd.C (Kd.int .i64) w A (dg X).length (dg X)) (hl : ln X ≤ 300) :
    Calls Tryd.prog 26 #[.agg #[.int .i64 s, .slice A (dg X).length c, .int .i64 E]] w (MakesVal (decide (s < 0) && (X != 0)) X E w) := by
  obtain ⟨n, hn⟩ : ∃ n, (dg X).length = n := ⟨_, rfl⟩
  rw [hn]
  have hB0 := below_alloc (below_alloc (Below.refl w.heap.size w) (.cells #[.int .i64 s, .slice A n c, .int .i64 E] 33)) (.cells #[.pointer none, .int .i64 0] 61)
  have hk0 := blk_alloc (blk_new w (.cells #[.int .i64 s, .slice A n c, .int .i64 E] 33)) (.cells #[.pointer none, .int .i64 0] 61)
  have hk1 := blk_new (w.alloc (.cells #[.int .i64 s, .slice A n c, .int .i64 E] 33)) (.cells #[.pointer none, .int .i64 0] 61)
  rw [show (w.alloc (.cells #[.int .i64 s, .slice A n c, .int .i64 E] 33)).heap.size = w.heap.size + 1 by simp] at hk1
  have HC := Lib.hid hC
  have HN := Lib.hid hn
  have HB0 := Lib.hid hB0
  have HK0 := Lib.hid hk0
  have HK1 := Lib.hid hk1
  clear hC hn hB0 hk0 hk1
  go_enter Tryd.func26, Tryd.ntmps26
  go_wp2_with fail
  generalize (w.alloc (.cells #[.int .i64 s, .slice A n c, .int .i64 E] 33)).alloc (.cells #[.pointer none, .int .i64 0] 61) = W2 at *
  have d0 : W2.cell? ⟨w.heap.size, 0, none⟩ = some (.int .i64 s) := (blk_cell HK0.out 0).trans rfl
  have d1 : W2.cell? ⟨w.heap.size, 1, none⟩ = some (.slice A n c) := (blk_cell HK0.out 1).trans rfl
  have d2 : W2.cell? ⟨w.heap.size, 2, none⟩ = some (.int .i64 E) := (blk_cell HK0.out 2).trans rfl
  have hl0 := blk_lt HK0.out
  have hl1 := blk_lt HK1.out
  go_region_held3 (fun w' => w'.cell? ⟨w.heap.size, 0, none⟩ = some (.int .i64 s) ∧ w'.cell? ⟨w.heap.size, 1, none⟩ = some (.slice A n c) ∧ w'.cell? ⟨w.heap.size, 2, none⟩ = some (.int .i64 E)) (go_keep) (first | (go_at_call 49; have hC2 := Kd.C_below HC.out HB0.out.drew; have hv := value_calls s X A c _ hC2 hl; rw [HN.out] at hv; refine hv.mono ?_; clear hv hC2; rintro e w3 ⟨z, rfl, hp, hzl, hB3⟩; have HK3 := Lib.hid (blk_below (blk_drew HK1.out) hB3); have e0 := (hB3.cell (p := ⟨w.heap.size, 0, none⟩) hl0).trans d0; have e1 := (hB3.cell (p := ⟨w.heap.size, 1, none⟩) hl0).trans d1; have e2 := (hB3.cell (p := ⟨w.heap.size, 2, none⟩) hl0).trans d2; have HP := Lib.hid hp; have HZL := Lib.hid hzl; have HB3 := Lib.hid hB3; clear hp hzl hB3; have p0 : w3.cell? ⟨w.heap.size + 1, 0, none⟩ = some (.pointer none) := (blk_cell HK3.out 0).trans rfl; have p1 : w3.cell? ⟨w.heap.size + 1, 1, none⟩ = some (.int .i64 0) := (blk_cell HK3.out 1).trans rfl; have f0 := blk_frozen HK3.out 0; have f1 := blk_frozen HK3.out 1))
  go_wp2_with fail
  have k1 := blk_put HK3.out 0 (.pointer (some ⟨z, 0, none⟩)) rfl
  have k2 := blk_put k1 1 (.int .i64 E) rfl
  have q0 := (blk_cell k2 0).trans rfl
  have q1 := (blk_cell k2 1).trans rfl
  have hsz : W2.heap.size ≤ z := HZL.out
  have hbb : Below w.heap.size w ((w3.setCell ⟨w.heap.size + 1, 0, none⟩ (.pointer (some ⟨z, 0, none⟩))).setCell ⟨w.heap.size + 1, 1, none⟩ (.int .i64 E)) := ((HB0.out.drew.trans (HB3.out.mono HB0.out.size)).setCell (show w.heap.size ≤ w.heap.size + 1 by omega) _).setCell (show w.heap.size ≤ w.heap.size + 1 by omega) _
  have hbig := (HP.out.set (u := .pointer (some ⟨z, 0, none⟩)) (j := 0) HK3.out (by decide) (by omega)).set (u := .int .i64 E) (j := 1) k1 (by decide) (by omega)
  refine bodyPost_ret (v := .agg #[.pointer (some ⟨z, 0, none⟩), .int .i64 E]) (by simp [results, Tryd.results26, go_sem, q0, q1]) rfl ⟨z, rfl, hbig, by omega, hbb⟩
end Go.Proofs.YtmedcpdjhgconaaDoor
