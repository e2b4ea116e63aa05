/- The law on FloatOf, walked: it returns true. -/
import Derived.Test.YtmedcpdjhgconaaDoorFlts
namespace Go.Proofs.YtmedcpdjhgconaaDoor
set_option linter.unusedVariables false
open Go.RowKit Go.Proofs.YtmedcpdjhgconaaDoorW.PrintWords Go.Proofs.YtmedcpdjhgconaaDoorW.PrintLast Go.Proofs.YtmedcpdjhgconaaDoorW.PrintMore Go.Proofs.YtmedcpdjhgconaaDoor.PFnExactFloatOf Go.Proofs.YtmedcpdjhgconaaDoor.Pure Go.Proofs.YtmedcpdjhgconaaDoor.Fp

set_option maxRecDepth 100000 in
set_option maxHeartbeats 1000000 in
theorem law_many (s E : Int) (l : List Int) (hl : 1048576 < l.length) (h2 : l.length ≤ 9223372036854775807) (A : Option Addr) (c : Nat) (w : World) (hC : Kd.C (Kd.int .i64) w A l.length l) (hc : l.length ≤ c) :
    Calls Tryd.prog 4 #[.agg #[.int .i64 s, .slice A l.length c, .int .i64 E]] w fun e w' => e = .returned (.bool true) ∧ Below w.heap.size w w' := by
  have hb := below_alloc (Below.refl w.heap.size w) (.cells #[.int .i64 s, .slice A l.length c, .int .i64 E] 26)
  have HB := Lib.hid hb
  have HC := Lib.hid hC
  have HL := Lib.hid hc
  have HZ := Lib.hid (sz_many s E l hl h2)
  clear hb hC hc hl h2
  go_enter Tryd.func4, Tryd.ntmps4
  go_wp2_with (first | (go_at_call 6; refine (laws_szDyadic.calls s A c l E _ _ _ (Kd.C_alloc HC.out _) HL.out HZ.out).mono ?_; rintro e w1 ⟨rfl, hB1⟩; have HB1 := Lib.hid hB1; clear hB1))
  go_ret
  exact ⟨rfl, HB.out.trans (HB1.out.mono HB.out.size)⟩

set_option maxRecDepth 100000 in
set_option maxHeartbeats 4000000 in
theorem law_few (s E : Int) (l : List Int) (hl : l.length ≤ 1048576) (A : Option Addr) (c : Nat) (w : World) (hC : Kd.C (Kd.int .i64) w A l.length l) (hc : l.length ≤ c) :
    Calls Tryd.prog 4 #[.agg #[.int .i64 s, .slice A l.length c, .int .i64 E]] w fun e w' => e = .returned (.bool true) ∧ Below w.heap.size w w' := by
  obtain ⟨r, co, hs, hi⟩ := both s E l hl
  have hb := below_alloc (Below.refl w.heap.size w) (.cells #[.int .i64 s, .slice A l.length c, .int .i64 E] 26)
  have HS := Lib.hid hs
  have HI := Lib.hid hi
  have HB := Lib.hid hb
  have HC := Lib.hid hC
  have HL := Lib.hid hc
  have HZ := Lib.hid (sz_few s E l hl)
  have HT := Lib.hid (to_f s E l hl (l.length + 1) (Nat.le_refl _))
  have HE := Lib.hid (eq_f s E l hl (l.length + 1) (Nat.le_refl _))
  have HK := Lib.hid (blk_new w (.cells #[.int .i64 s, .slice A l.length c, .int .i64 E] 26))
  clear hb hC hc hs hi
  go_enter Tryd.func4, Tryd.ntmps4
  go_upto_region 6 with (first | (go_at_call 6; refine (laws_szDyadic.calls s A c l E _ _ _ (Kd.C_alloc HC.out _) HL.out HZ.out).mono ?_; rintro e w1 ⟨rfl, hB1⟩; have HB1 := Lib.hid (HB.out.trans (hB1.mono HB.out.size)); have HK1 := Lib.hid (blk_below HK.out hB1); clear hB1; have d0 : w1.cell? ⟨w.heap.size, 0, none⟩ = some (.int .i64 s) := (blk_cell HK1.out 0).trans rfl; have d1 : w1.cell? ⟨w.heap.size, 1, none⟩ = some (.slice A l.length c) := (blk_cell HK1.out 1).trans rfl; have d2 : w1.cell? ⟨w.heap.size, 2, none⟩ = some (.int .i64 E) := (blk_cell HK1.out 2).trans rfl) | (go_at_call 8; refine (laws_toDyadic.calls _ s A c l E _ _ _ _ (Kd.C_below HC.out HB1.out) HL.out HT.out).mono ?_; rintro e w2 ⟨v2, rfl, hR2, hB2⟩; obtain ⟨A2, c2, rfl⟩ := Kd.R_slice hR2; have HR2 := Lib.hid hR2; have HB2 := Lib.hid (HB1.out.trans (hB2.mono HB1.out.size)); have HK2 := Lib.hid (blk_below HK1.out hB2); clear hR2 hB2 d0 d1 d2) | (go_at_call 12; refine (HS.out A2 c2 _ (Kd.R_reads' HR2.out).2.2 (Kd.R_reads' HR2.out).2.1).mono ?_; rintro e w3 ⟨rfl, hB3⟩; have HB3 := Lib.hid (HB2.out.trans (hB3.mono HB2.out.size)); have HK3 := Lib.hid (blk_below HK2.out hB3); clear hB3; have d0 : w3.cell? ⟨w.heap.size, 0, none⟩ = some (.int .i64 s) := (blk_cell HK3.out 0).trans rfl; have d1 : w3.cell? ⟨w.heap.size, 1, none⟩ = some (.slice A l.length c) := (blk_cell HK3.out 1).trans rfl; have d2 : w3.cell? ⟨w.heap.size, 2, none⟩ = some (.int .i64 E) := (blk_cell HK3.out 2).trans rfl))
  go_upto_region 7 with (first | (go_at_call 8; refine (laws_toDyadic.calls _ s A c l E _ _ _ _ (Kd.C_below HC.out HB3.out) HL.out HT.out).mono ?_; rintro e w4 ⟨v4, rfl, hR4, hB4⟩; obtain ⟨A4, c4, rfl⟩ := Kd.R_slice hR4; have HR4 := Lib.hid hR4; have HB4 := Lib.hid (HB3.out.trans (hB4.mono HB3.out.size)); have HK4 := Lib.hid (blk_below HK3.out hB4); clear hR4 hB4))
  have HC5 := Lib.hid (Kd.C_alloc (Kd.R_reads' HR4.out).2.2 (.cells #[.int .i64 s, .slice A4 l.length c4, .int .i64 E] 33))
  have HL5 := Lib.hid (Kd.R_reads' HR4.out).2.1
  have HX5 := Lib.hid (blk_new w4 (.cells #[.int .i64 s, .slice A4 l.length c4, .int .i64 E] 33))
  have HK5 := Lib.hid (blk_alloc HK4.out (.cells #[.int .i64 s, .slice A4 l.length c4, .int .i64 E] 33))
  have HB5 := Lib.hid (HB4.out.alloc HB4.out.size (.cells #[.int .i64 s, .slice A4 l.length c4, .int .i64 E] 33))
  obtain ⟨b, hb⟩ : ∃ b, b = w4.heap.size := ⟨_, rfl⟩
  rw [← hb] at HX5 ⊢
  clear HR4 HB4 HK4 HR2 HB2 HK2 HB3 HK3 hb d0 d1 d2 HB1 HK1
  generalize w4.alloc (.cells #[.int .i64 s, .slice A4 l.length c4, .int .i64 E] 33) = W5 at *
  have x0 : W5.cell? ⟨b, 0, none⟩ = some (.int .i64 s) := (blk_cell HX5.out 0).trans rfl
  have x1 : W5.cell? ⟨b, 1, none⟩ = some (.slice A4 l.length c4) := (blk_cell HX5.out 1).trans rfl
  have x2 : W5.cell? ⟨b, 2, none⟩ = some (.int .i64 E) := (blk_cell HX5.out 2).trans rfl
  go_upto_region 10 with (first | (go_at_call 13; refine (HI.out A4 c4 _ HC5.out HL5.out).mono ?_; rintro e w6 ⟨rfl, hB6⟩; have HB6 := Lib.hid (HB5.out.trans (hB6.mono HB5.out.size)); have HK6 := Lib.hid (blk_below HK5.out hB6); have HX6 := Lib.hid (blk_below HX5.out hB6); have HC6 := Lib.hid (Kd.C_below HC5.out hB6); clear hB6 x0 x1 x2) | (go_at_call 10; refine (same_self r _).mono ?_; rintro e w7 ⟨rfl, rfl⟩))
  have x0 : w6.cell? ⟨b, 0, none⟩ = some (.int .i64 s) := (blk_cell HX6.out 0).trans rfl
  have x1 : w6.cell? ⟨b, 1, none⟩ = some (.slice A4 l.length c4) := (blk_cell HX6.out 1).trans rfl
  have x2 : w6.cell? ⟨b, 2, none⟩ = some (.int .i64 E) := (blk_cell HX6.out 2).trans rfl
  have d0 : w6.cell? ⟨w.heap.size, 0, none⟩ = some (.int .i64 s) := (blk_cell HK6.out 0).trans rfl
  have d1 : w6.cell? ⟨w.heap.size, 1, none⟩ = some (.slice A l.length c) := (blk_cell HK6.out 1).trans rfl
  have d2 : w6.cell? ⟨w.heap.size, 2, none⟩ = some (.int .i64 E) := (blk_cell HK6.out 2).trans rfl
  have hlx := blk_lt HX6.out
  have hlk := blk_lt HK6.out
  go_region_held3 (fun w' => w'.cell? ⟨b, 0, none⟩ = some (.int .i64 s) ∧ w'.cell? ⟨b, 1, none⟩ = some (.slice A4 l.length c4) ∧ w'.cell? ⟨b, 2, none⟩ = some (.int .i64 E) ∧ w'.cell? ⟨w.heap.size, 0, none⟩ = some (.int .i64 s) ∧ w'.cell? ⟨w.heap.size, 1, none⟩ = some (.slice A l.length c) ∧ w'.cell? ⟨w.heap.size, 2, none⟩ = some (.int .i64 E)) (go_keep) (first | (go_at_call 8; refine (laws_toDyadic.calls _ s A c l E _ _ _ _ (Kd.C_below HC.out HB6.out.drew) HL.out HT.out).mono ?_; rintro e w8 ⟨v8, rfl, hR8, hB8⟩; obtain ⟨A8, c8, rfl⟩ := Kd.R_slice hR8; have HR8 := Lib.hid hR8; have HB8 := Lib.hid (show Below w6.heap.size w6 w8 from (Below.refl w6.heap.size w6).drew.trans hB8); clear hR8 hB8; have y0 := (HB8.out.cell (p := ⟨b, 0, none⟩) hlx).trans x0; have y1 := (HB8.out.cell (p := ⟨b, 1, none⟩) hlx).trans x1; have y2 := (HB8.out.cell (p := ⟨b, 2, none⟩) hlx).trans x2; have z0 := (HB8.out.cell (p := ⟨w.heap.size, 0, none⟩) hlk).trans d0; have z1 := (HB8.out.cell (p := ⟨w.heap.size, 1, none⟩) hlk).trans d1; have z2 := (HB8.out.cell (p := ⟨w.heap.size, 2, none⟩) hlk).trans d2) | (go_at_call 11; refine (laws_eqDyadic.calls _ s A4 c4 l E s A8 c8 l E _ _ (Kd.C_below HC6.out HB8.out) HL5.out (Kd.R_reads' HR8.out).2.2 (Kd.R_reads' HR8.out).2.1 HE.out).mono ?_; rintro e w9 ⟨rfl, hB9⟩; have HB9 := Lib.hid (HB8.out.trans (hB9.mono HB8.out.size)); clear hB9; have u0 := (HB9.out.cell (p := ⟨b, 0, none⟩) hlx).trans x0; have u1 := (HB9.out.cell (p := ⟨b, 1, none⟩) hlx).trans x1; have u2 := (HB9.out.cell (p := ⟨b, 2, none⟩) hlx).trans x2; have t0 := (HB9.out.cell (p := ⟨w.heap.size, 0, none⟩) hlk).trans d0; have t1 := (HB9.out.cell (p := ⟨w.heap.size, 1, none⟩) hlk).trans d1; have t2 := (HB9.out.cell (p := ⟨w.heap.size, 2, none⟩) hlk).trans d2))
  go_wp2_with fail
  go_ret
  exact ⟨rfl, HB6.out.trans (HB9.out.mono HB6.out.size)⟩

theorem law_calls (s E : Int) (l : List Int) (h2 : l.length ≤ 9223372036854775807) (A : Option Addr) (c : Nat) (w : World) (hC : Kd.C (Kd.int .i64) w A l.length l) (hc : l.length ≤ c) :
    Calls Tryd.prog 4 #[.agg #[.int .i64 s, .slice A l.length c, .int .i64 E]] w fun e w' => e = .returned (.bool true) ∧ Below w.heap.size w w' := by
  by_cases hl : l.length ≤ 1048576
  · exact law_few s E l hl A c w hC hc
  · exact law_many s E l (by omega) h2 A c w hC hc
end Go.Proofs.YtmedcpdjhgconaaDoor
