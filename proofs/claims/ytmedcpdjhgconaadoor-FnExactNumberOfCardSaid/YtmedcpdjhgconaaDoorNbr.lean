/- The reference's and the program's NumberOf answer the same, at every pair of exact numbers. -/
import Derived.Test.YtmedcpdjhgconaaDoorFlts
namespace Go.Proofs.YtmedcpdjhgconaaDoor
set_option linter.unusedVariables false
open Go.RowKit Go.Proofs.YtmedcpdjhgconaaDoorW.PrintWords Go.Proofs.YtmedcpdjhgconaaDoorW.PrintLast Go.Proofs.YtmedcpdjhgconaaDoorW.PrintMore Go.Proofs.YtmedcpdjhgconaaDoor.PFnExactFloatOf Go.Proofs.YtmedcpdjhgconaaDoor.Pure Go.Proofs.YtmedcpdjhgconaaDoor.Fp

/-- The reference's rounding of an exact number answers v. -/
def Rounds (s E : Int) (l : List Int) (v : Nat) : Prop :=
  ∀ (A : Option Addr) (c : Nat) (w : World), Kd.C (Kd.int .i64) w A l.length l → l.length ≤ c → Calls Tryd.prog 22 #[.agg #[.int .i64 s, .slice A l.length c, .int .i64 E], .int .i64 53, .int .i64 (-1074)] w fun e w' => e = .returned (.float .f64 v) ∧ Below w.heap.size w w'

/-- A double that is a number. -/
def IsNumber (v : Nat) : Prop := ∃ a m q, FloatKind.f64.format.read v = .number a m q

theorem part (s E : Int) (l : List Int) (hl : l.length ≤ 1048576) (hb : spec_l03Is.f (l.length + 2) s l E = some true) :
    ∃ v, Rounds s E l v ∧ ((IsNumber v ∧ Gives 13 s E l v 0) ∨ (NoNumber v ∧ Gives 13 s E l 0 3)) := by
  obtain ⟨b, hb1, hB⟩ := is_f s E l (l.length + 2) (by omega) (Nat.le_refl _)
  obtain rfl : b = true := Option.some.inj (hb1.symm.trans hb)
  have hb2 := hb
  rw [← dyadic_same] at hb2
  rcases hB rfl with ⟨rfl, rfl, rfl⟩ | ⟨X, ho, hln, rfl, hs, hE1, hE2⟩
  · refine ⟨0, fun A c w hC hc => round_zero A c 0 w, Or.inl ⟨⟨false, 0, -1074, by decide +kernel⟩, fun A c w hC hc => impl_zero _ hb2 A c w hC hc⟩⟩
  · have h0 : X ≠ 0 := by intro h; subst h; simp at ho
    refine ⟨near (decide (s < 0)) X E, fun A c w hC hc => round_calls s X E hs ho A c w hC hc (by omega) (by omega), ?_⟩
    have hg : ∀ {r c}, Answer s X E r c → Gives 13 s E (dg X) r c := by
      intro r c ha A c' w hC hc
      refine (impl_num _ s E X hb2 hs ho hln ⟨hE1, hE2⟩ A c' w hC hc).mono ?_
      rintro e w' ⟨r', co, rfl, ha', hw⟩
      obtain ⟨rfl, rfl⟩ := answer_one ha ha'
      exact ⟨rfl, hw⟩
    rcases fit_case (neg := decide (s < 0)) (E := E) h0 with ⟨_, h⟩ | ⟨_, _, h, _⟩
    · exact Or.inr ⟨h, hg (Or.inr ⟨h, rfl, rfl⟩)⟩
    · obtain ⟨m, q, hm⟩ := h
      exact Or.inl ⟨⟨_, m, q, hm⟩, hg (Or.inl ⟨⟨m, q, hm⟩, rfl, rfl⟩)⟩

/-! ### Tests of a pair -/
set_option maxHeartbeats 1000000 in
theorem pair_calls (s E : Int) (l : List Int) (k : Nat) (b : Bool) (h : spec_l03Is.f k s l E = some b) (s2 E2 : Int) (l2 : List Int) (k2 : Nat) (b2 : Bool) (h2 : spec_l03Is.f k2 s2 l2 E2 = some b2)
    (A : Option Addr) (c : Nat) (B : Option Addr) (d : Nat) (w : World) (hC : Kd.C (Kd.int .i64) w A l.length l) (hc : l.length ≤ c) (hD : Kd.C (Kd.int .i64) w B l2.length l2) (hd : l2.length ≤ d) :
    Calls Tryd.prog 31 #[.agg #[.int .i64 s, .slice A l.length c, .int .i64 E, .int .i64 s2, .slice B l2.length d, .int .i64 E2]] w fun e w' => e = .returned (.bool (b && b2)) ∧ Below w.heap.size w w' := by
  have HC := Lib.hid hC
  have HL := Lib.hid hc
  have HD := Lib.hid hD
  have HM := Lib.hid hd
  have HI := Lib.hid h
  have HI2 := Lib.hid h2
  have hb := below_alloc (Below.refl w.heap.size w) (.cells #[.int .i64 s, .slice A l.length c, .int .i64 E, .int .i64 s2, .slice B l2.length d, .int .i64 E2] 48)
  have HK := Lib.hid (blk_new w (.cells #[.int .i64 s, .slice A l.length c, .int .i64 E, .int .i64 s2, .slice B l2.length d, .int .i64 E2] 48))
  have HB := Lib.hid hb
  clear hC hc hD hd hb h h2
  cases b
  · go_enter Tryd.func31, Tryd.ntmps31
    go_wp2_with (first | (go_at_call 21; refine (spec_l03Is.calls k s A c l E _ _ (Kd.C_alloc HC.out _) HL.out HI.out).mono ?_; rintro e w1 ⟨rfl, hB1⟩; have HB1 := Lib.hid hB1; clear hB1))
    go_ret
    exact ⟨rfl, HB.out.trans (HB1.out.mono HB.out.size)⟩
  · go_enter Tryd.func31, Tryd.ntmps31
    go_wp2_with (first | (go_at_call 21; have hgd := HB1; clear hgd; refine (spec_l03Is.calls k2 s2 B d l2 E2 _ _ (Kd.C_below HD.out HB1.out) HM.out HI2.out).mono ?_; rintro e w2 ⟨rfl, hB2⟩; have HB2 := Lib.hid (HB1.out.trans (hB2.mono HB1.out.size)); clear hB2) | (go_at_call 21; refine (spec_l03Is.calls k s A c l E _ _ (Kd.C_alloc HC.out _) HL.out HI.out).mono ?_; rintro e w1 ⟨rfl, hB1⟩; have HK1 := Lib.hid (blk_below HK.out hB1); have HB1 := Lib.hid (HB.out.trans (hB1.mono HB.out.size)); clear hB1; have d3 : w1.cell? ⟨w.heap.size, 3, none⟩ = some (.int .i64 s2) := (blk_cell HK1.out 3).trans rfl; have d4 : w1.cell? ⟨w.heap.size, 4, none⟩ = some (.slice B l2.length d) := (blk_cell HK1.out 4).trans rfl; have d5 : w1.cell? ⟨w.heap.size, 5, none⟩ = some (.int .i64 E2) := (blk_cell HK1.out 5).trans rfl))
    go_ret
    exact ⟨by rw [Bool.true_and]; rfl, HB2.out⟩

set_option maxHeartbeats 1000000 in
theorem exact_calls (s E : Int) (l : List Int) (k : Nat) (b : Bool) (h : impl_IsDyadic.f k s l E = some b) (s2 E2 : Int) (l2 : List Int) (k2 : Nat) (b2 : Bool) (h2 : impl_IsDyadic.f k2 s2 l2 E2 = some b2)
    (A : Option Addr) (c : Nat) (B : Option Addr) (d : Nat) (w : World) (hC : Kd.C (Kd.int .i64) w A l.length l) (hc : l.length ≤ c) (hD : Kd.C (Kd.int .i64) w B l2.length l2) (hd : l2.length ≤ d) :
    Calls Tryd.prog 33 #[.agg #[.int .i64 s, .slice A l.length c, .int .i64 E, .int .i64 s2, .slice B l2.length d, .int .i64 E2]] w fun e w' => e = .returned (.bool (b && b2)) ∧ Below w.heap.size w w' := by
  have HC := Lib.hid hC
  have HL := Lib.hid hc
  have HD := Lib.hid hD
  have HM := Lib.hid hd
  have HI := Lib.hid h
  have HI2 := Lib.hid h2
  have hb := below_alloc (Below.refl w.heap.size w) (.cells #[.int .i64 s, .slice A l.length c, .int .i64 E, .int .i64 s2, .slice B l2.length d, .int .i64 E2] 48)
  have HK := Lib.hid (blk_new w (.cells #[.int .i64 s, .slice A l.length c, .int .i64 E, .int .i64 s2, .slice B l2.length d, .int .i64 E2] 48))
  have HB := Lib.hid hb
  clear hC hc hD hd hb h h2
  cases b
  · go_enter Tryd.func33, Tryd.ntmps33
    go_wp2_with (first | (go_at_call 25; refine (impl_IsDyadic.calls k s A c l E _ _ (Kd.C_alloc HC.out _) HL.out HI.out).mono ?_; rintro e w1 ⟨rfl, hB1⟩; have HB1 := Lib.hid hB1; clear hB1))
    go_ret
    exact ⟨rfl, HB.out.trans (HB1.out.mono HB.out.size)⟩
  · go_enter Tryd.func33, Tryd.ntmps33
    go_wp2_with (first | (go_at_call 25; have hgd := HB1; clear hgd; refine (impl_IsDyadic.calls k2 s2 B d l2 E2 _ _ (Kd.C_below HD.out HB1.out) HM.out HI2.out).mono ?_; rintro e w2 ⟨rfl, hB2⟩; have HB2 := Lib.hid (HB1.out.trans (hB2.mono HB1.out.size)); clear hB2) | (go_at_call 25; refine (impl_IsDyadic.calls k s A c l E _ _ (Kd.C_alloc HC.out _) HL.out HI.out).mono ?_; rintro e w1 ⟨rfl, hB1⟩; have HK1 := Lib.hid (blk_below HK.out hB1); have HB1 := Lib.hid (HB.out.trans (hB1.mono HB.out.size)); clear hB1; have d3 : w1.cell? ⟨w.heap.size, 3, none⟩ = some (.int .i64 s2) := (blk_cell HK1.out 3).trans rfl; have d4 : w1.cell? ⟨w.heap.size, 4, none⟩ = some (.slice B l2.length d) := (blk_cell HK1.out 4).trans rfl; have d5 : w1.cell? ⟨w.heap.size, 5, none⟩ = some (.int .i64 E2) := (blk_cell HK1.out 5).trans rfl))
    go_ret
    exact ⟨by rw [Bool.true_and]; rfl, HB2.out⟩

/-! ### A pair of doubles -/
set_option maxHeartbeats 1000000 in
theorem finite_calls (x y : Nat) (w : World) : Calls Tryd.prog 62 #[.complex .f64 x y] w fun e w' => ∃ b, e = .returned (.bool b) ∧ ((b = true ∧ IsNumber x ∧ IsNumber y) ∨ (b = false ∧ ¬ (IsNumber x ∧ IsNumber y))) ∧ Below w.heap.size w w' := by
  by_cases hx : IsNumber x
  · obtain ⟨a, m, q, hr⟩ := hx
    have HR := Lib.hid hr
    by_cases hy : IsNumber y
    · obtain ⟨a2, m2, q2, hr2⟩ := hy
      have HR2 := Lib.hid hr2
      clear hr hr2
      go_enter Tryd.func62, Tryd.ntmps62
      go_wp2_with (first | (go_at_call 23; have hgd := HDONE; clear hgd; refine (real_yes y a2 m2 q2 HR2.out _).mono ?_; rintro e w1 ⟨rfl, rfl⟩) | (go_at_call 23; refine (real_yes x a m q HR.out _).mono ?_; rintro e w1 ⟨rfl, rfl⟩; have HDONE : Hid True := Lib.hid True.intro))
      go_ret
      exact ⟨true, rfl, Or.inl ⟨rfl, ⟨a, m, q, HR.out⟩, ⟨a2, m2, q2, HR2.out⟩⟩, Below.refl _ _⟩
    · have HN := Lib.hid hy
      have hno : NoNumber y := fun s m q h => HN.out ⟨s, m, q, h⟩
      have HNO := Lib.hid hno
      clear hr hy hno
      go_enter Tryd.func62, Tryd.ntmps62
      go_wp2_with (first | (go_at_call 23; have hgd := HDONE; clear hgd; refine (real_no y HNO.out _).mono ?_; rintro e w1 ⟨rfl, rfl⟩) | (go_at_call 23; refine (real_yes x a m q HR.out _).mono ?_; rintro e w1 ⟨rfl, rfl⟩; have HDONE : Hid True := Lib.hid True.intro))
      go_ret
      exact ⟨false, rfl, Or.inr ⟨rfl, fun h => HN.out h.2⟩, (Below.refl _ _).drew⟩
  · have HN := Lib.hid hx
    have hno : NoNumber x := fun s m q h => HN.out ⟨s, m, q, h⟩
    have HNO := Lib.hid hno
    clear hx hno
    go_enter Tryd.func62, Tryd.ntmps62
    go_wp2_with (first | (go_at_call 23; refine (real_no x HNO.out _).mono ?_; rintro e w1 ⟨rfl, rfl⟩))
    go_ret
    exact ⟨false, rfl, Or.inr ⟨rfl, fun h => HN.out h.1⟩, (Below.refl _ _).drew⟩

/-- What fits of a pair. -/
def Fits (x y re im : Nat) (co : Int) : Prop := (IsNumber x ∧ IsNumber y ∧ re = x ∧ im = y ∧ co = 0) ∨ (¬ (IsNumber x ∧ IsNumber y) ∧ re = 0 ∧ im = 0 ∧ co = 3)

set_option maxHeartbeats 1000000 in
theorem fitpair_calls (x y : Nat) (w : World) : Calls Tryd.prog 32 #[.complex .f64 x y] w fun e w' => ∃ re im co, e = .returned (.tuple #[.complex .f64 re im, .int .i64 co]) ∧ Fits x y re im co ∧ Below w.heap.size w w' := by
  go_enter Tryd.func32, Tryd.ntmps32
  go_wp2_with (first | (go_at_call 62; refine (finite_calls x y _).mono ?_; rintro e w1 ⟨b, rfl, hb, hB1⟩; have HB1 := Lib.hid hB1; clear hB1; rcases hb with ⟨rfl, hx, hy⟩ | ⟨rfl, hn⟩))
  · go_ret2
    exact ⟨x, y, 0, rfl, Or.inl ⟨hx, hy, rfl, rfl, rfl⟩, HB1.out⟩
  · go_ret2
    exact ⟨0, 0, 3, rfl, Or.inr ⟨hn, rfl, rfl, rfl⟩, HB1.out⟩

/-! ### The reference's NumberOf -/
set_option maxHeartbeats 1000000 in
theorem spec_no (s E : Int) (l : List Int) (k : Nat) (b : Bool) (h : spec_l03Is.f k s l E = some b) (s2 E2 : Int) (l2 : List Int) (k2 : Nat) (b2 : Bool) (h2 : spec_l03Is.f k2 s2 l2 E2 = some b2) (hb : (b && b2) = false) (A : Option Addr) (c : Nat) (B : Option Addr) (d : Nat) (w : World) (hC : Kd.C (Kd.int .i64) w A l.length l) (hc : l.length ≤ c) (hD : Kd.C (Kd.int .i64) w B l2.length l2) (hd : l2.length ≤ d) :
    Calls Tryd.prog 15 #[.agg #[.int .i64 s, .slice A l.length c, .int .i64 E, .int .i64 s2, .slice B l2.length d, .int .i64 E2]] w fun e w' => e = .returned (.tuple #[.complex .f64 0 0, .int .i64 1]) ∧ Below w.heap.size w w' := by
  have HBB := Lib.hid hb
  have HI := Lib.hid h
  have HI2 := Lib.hid h2
  have HC := Lib.hid hC
  have HL := Lib.hid hc
  have HD := Lib.hid hD
  have HM := Lib.hid hd
  have HB := Lib.hid (below_alloc (Below.refl w.heap.size w) (.cells #[.int .i64 s, .slice A l.length c, .int .i64 E, .int .i64 s2, .slice B l2.length d, .int .i64 E2] 48))
  have HK := Lib.hid (blk_new w (.cells #[.int .i64 s, .slice A l.length c, .int .i64 E, .int .i64 s2, .slice B l2.length d, .int .i64 E2] 48))
  clear hC hc hD hd
  clear h h2 hb
  go_enter Tryd.func15, Tryd.ntmps15
  go_wp2_with (first | (go_at_call 31; refine (pair_calls s E l k b HI.out s2 E2 l2 k2 b2 HI2.out A c B d _ (Kd.C_alloc HC.out _) HL.out (Kd.C_alloc HD.out _) HM.out).mono ?_; rintro e w1 ⟨rfl, hB1⟩; rw [HBB.out]; have HB1 := Lib.hid hB1; clear hB1))
  go_ret2
  exact ⟨rfl, HB.out.trans (HB1.out.mono HB.out.size)⟩

set_option maxRecDepth 100000 in
set_option maxHeartbeats 4000000 in
theorem spec_yes (s E : Int) (l : List Int) (k : Nat) (h : spec_l03Is.f k s l E = some true) (s2 E2 : Int) (l2 : List Int) (k2 : Nat) (h2 : spec_l03Is.f k2 s2 l2 E2 = some true) (v v2 : Nat) (hv : Rounds s E l v) (hv2 : Rounds s2 E2 l2 v2) (A : Option Addr) (c : Nat) (B : Option Addr) (d : Nat) (w : World) (hC : Kd.C (Kd.int .i64) w A l.length l) (hc : l.length ≤ c) (hD : Kd.C (Kd.int .i64) w B l2.length l2) (hd : l2.length ≤ d) :
    Calls Tryd.prog 15 #[.agg #[.int .i64 s, .slice A l.length c, .int .i64 E, .int .i64 s2, .slice B l2.length d, .int .i64 E2]] w fun e w' => ∃ re im co, e = .returned (.tuple #[.complex .f64 re im, .int .i64 co]) ∧ Fits v v2 re im co ∧ Below w.heap.size w w' := by
  have HI := Lib.hid h
  have HI2 := Lib.hid h2
  have HV := Lib.hid hv
  have HV2 := Lib.hid hv2
  have HC := Lib.hid hC
  have HL := Lib.hid hc
  have HD := Lib.hid hD
  have HM := Lib.hid hd
  have HB := Lib.hid (below_alloc (Below.refl w.heap.size w) (.cells #[.int .i64 s, .slice A l.length c, .int .i64 E, .int .i64 s2, .slice B l2.length d, .int .i64 E2] 48))
  have HK := Lib.hid (blk_new w (.cells #[.int .i64 s, .slice A l.length c, .int .i64 E, .int .i64 s2, .slice B l2.length d, .int .i64 E2] 48))
  clear hC hc hD hd
  clear h h2 hv hv2
  go_enter Tryd.func15, Tryd.ntmps15
  go_upto_region 3 with (first | (go_at_call 31; refine (pair_calls s E l k true HI.out s2 E2 l2 k2 true HI2.out A c B d _ (Kd.C_alloc HC.out _) HL.out (Kd.C_alloc HD.out _) HM.out).mono ?_; rintro e w1 ⟨rfl, hB1⟩; have HK1 := Lib.hid (blk_below HK.out hB1); have HB1 := Lib.hid (HB.out.trans (hB1.mono HB.out.size)); clear hB1))
  have hlt := blk_lt HK1.out
  have x0 : w1.cell? ⟨w.heap.size, 0, none⟩ = some (.int .i64 s) := (blk_cell HK1.out 0).trans rfl; have x1 : w1.cell? ⟨w.heap.size, 1, none⟩ = some (.slice A l.length c) := (blk_cell HK1.out 1).trans rfl; have x2 : w1.cell? ⟨w.heap.size, 2, none⟩ = some (.int .i64 E) := (blk_cell HK1.out 2).trans rfl; have x3 : w1.cell? ⟨w.heap.size, 3, none⟩ = some (.int .i64 s2) := (blk_cell HK1.out 3).trans rfl; have x4 : w1.cell? ⟨w.heap.size, 4, none⟩ = some (.slice B l2.length d) := (blk_cell HK1.out 4).trans rfl; have x5 : w1.cell? ⟨w.heap.size, 5, none⟩ = some (.int .i64 E2) := (blk_cell HK1.out 5).trans rfl
  go_region_held3 (fun w' => w'.cell? ⟨w.heap.size, 0, none⟩ = some (.int .i64 s) ∧ w'.cell? ⟨w.heap.size, 1, none⟩ = some (.slice A l.length c) ∧ w'.cell? ⟨w.heap.size, 2, none⟩ = some (.int .i64 E) ∧ w'.cell? ⟨w.heap.size, 3, none⟩ = some (.int .i64 s2) ∧ w'.cell? ⟨w.heap.size, 4, none⟩ = some (.slice B l2.length d) ∧ w'.cell? ⟨w.heap.size, 5, none⟩ = some (.int .i64 E2)) (go_keep) (first | (go_at_call 22; have hgd := HB2; clear hgd; refine (HV2.out B d _ (Kd.C_below HD.out (HB1.out.trans (HB2.out.mono HB1.out.size))) HM.out).mono ?_; rintro e w3 ⟨rfl, hB3⟩; have HB3 := Lib.hid (HB2.out.trans (hB3.mono HB2.out.size)); clear hB3; have z0 := (HB3.out.cell (p := ⟨w.heap.size, 0, none⟩) hlt).trans x0; have z1 := (HB3.out.cell (p := ⟨w.heap.size, 1, none⟩) hlt).trans x1; have z2 := (HB3.out.cell (p := ⟨w.heap.size, 2, none⟩) hlt).trans x2; have z3 := (HB3.out.cell (p := ⟨w.heap.size, 3, none⟩) hlt).trans x3; have z4 := (HB3.out.cell (p := ⟨w.heap.size, 4, none⟩) hlt).trans x4; have z5 := (HB3.out.cell (p := ⟨w.heap.size, 5, none⟩) hlt).trans x5) | (go_at_call 22; refine (HV.out A c _ (Kd.C_below HC.out HB1.out.drew) HL.out).mono ?_; rintro e w2 ⟨rfl, hB2⟩; have HB2 := Lib.hid (show Below w1.heap.size w1 w2 from (Below.refl w1.heap.size w1).drew.trans hB2); clear hB2; have y0 := (HB2.out.cell (p := ⟨w.heap.size, 0, none⟩) hlt).trans x0; have y1 := (HB2.out.cell (p := ⟨w.heap.size, 1, none⟩) hlt).trans x1; have y2 := (HB2.out.cell (p := ⟨w.heap.size, 2, none⟩) hlt).trans x2; have y3 := (HB2.out.cell (p := ⟨w.heap.size, 3, none⟩) hlt).trans x3; have y4 := (HB2.out.cell (p := ⟨w.heap.size, 4, none⟩) hlt).trans x4; have y5 := (HB2.out.cell (p := ⟨w.heap.size, 5, none⟩) hlt).trans x5) | (go_at_call 32; refine (fitpair_calls v v2 _).mono ?_; rintro e w4 ⟨re, im, co, rfl, hor, hB4⟩; have HOR := Lib.hid hor; clear hor; have HB4 := Lib.hid (HB3.out.trans (hB4.mono HB3.out.size)); clear hB4; have u0 := (HB4.out.cell (p := ⟨w.heap.size, 0, none⟩) hlt).trans x0; have u1 := (HB4.out.cell (p := ⟨w.heap.size, 1, none⟩) hlt).trans x1; have u2 := (HB4.out.cell (p := ⟨w.heap.size, 2, none⟩) hlt).trans x2; have u3 := (HB4.out.cell (p := ⟨w.heap.size, 3, none⟩) hlt).trans x3; have u4 := (HB4.out.cell (p := ⟨w.heap.size, 4, none⟩) hlt).trans x4; have u5 := (HB4.out.cell (p := ⟨w.heap.size, 5, none⟩) hlt).trans x5))
  go_wp2_with fail
  go_ret2
  exact ⟨re, im, co, rfl, HOR.out, HB1.out.trans (HB4.out.mono HB1.out.size)⟩

/-! ### The program's NumberOf -/
set_option maxHeartbeats 1000000 in
theorem impl_no (s E : Int) (l : List Int) (k : Nat) (b : Bool) (h : impl_IsDyadic.f k s l E = some b) (s2 E2 : Int) (l2 : List Int) (k2 : Nat) (b2 : Bool) (h2 : impl_IsDyadic.f k2 s2 l2 E2 = some b2) (hb : (b && b2) = false) (A : Option Addr) (c : Nat) (B : Option Addr) (d : Nat) (w : World) (hC : Kd.C (Kd.int .i64) w A l.length l) (hc : l.length ≤ c) (hD : Kd.C (Kd.int .i64) w B l2.length l2) (hd : l2.length ≤ d) :
    Calls Tryd.prog 17 #[.agg #[.int .i64 s, .slice A l.length c, .int .i64 E, .int .i64 s2, .slice B l2.length d, .int .i64 E2]] w fun e w' => e = .returned (.tuple #[.complex .f64 0 0, .int .i64 1]) ∧ Below w.heap.size w w' := by
  have HBB := Lib.hid hb
  have HI := Lib.hid h
  have HI2 := Lib.hid h2
  have HC := Lib.hid hC
  have HL := Lib.hid hc
  have HD := Lib.hid hD
  have HM := Lib.hid hd
  have HB := Lib.hid (below_alloc (Below.refl w.heap.size w) (.cells #[.int .i64 s, .slice A l.length c, .int .i64 E, .int .i64 s2, .slice B l2.length d, .int .i64 E2] 48))
  have HK := Lib.hid (blk_new w (.cells #[.int .i64 s, .slice A l.length c, .int .i64 E, .int .i64 s2, .slice B l2.length d, .int .i64 E2] 48))
  clear hC hc hD hd
  clear h h2 hb
  go_enter Tryd.func17, Tryd.ntmps17
  go_wp2_with (first | (go_at_call 33; refine (exact_calls s E l k b HI.out s2 E2 l2 k2 b2 HI2.out A c B d _ (Kd.C_alloc HC.out _) HL.out (Kd.C_alloc HD.out _) HM.out).mono ?_; rintro e w1 ⟨rfl, hB1⟩; rw [HBB.out]; have HB1 := Lib.hid hB1; clear hB1))
  go_ret2
  exact ⟨rfl, HB.out.trans (HB1.out.mono HB.out.size)⟩

set_option maxRecDepth 100000 in
set_option maxHeartbeats 1000000 in
theorem impl_yes (s E : Int) (l : List Int) (k : Nat) (h : impl_IsDyadic.f k s l E = some true) (s2 E2 : Int) (l2 : List Int) (k2 : Nat) (h2 : impl_IsDyadic.f k2 s2 l2 E2 = some true) (r r2 : Nat) (hg : Gives 13 s E l r 0) (hg2 : Gives 13 s2 E2 l2 r2 0) (A : Option Addr) (c : Nat) (B : Option Addr) (d : Nat) (w : World) (hC : Kd.C (Kd.int .i64) w A l.length l) (hc : l.length ≤ c) (hD : Kd.C (Kd.int .i64) w B l2.length l2) (hd : l2.length ≤ d) :
    Calls Tryd.prog 17 #[.agg #[.int .i64 s, .slice A l.length c, .int .i64 E, .int .i64 s2, .slice B l2.length d, .int .i64 E2]] w fun e w' => e = .returned (.tuple #[.complex .f64 r r2, .int .i64 0]) ∧ Below w.heap.size w w' := by
  have HI := Lib.hid h
  have HI2 := Lib.hid h2
  have HG := Lib.hid hg
  have HG2 := Lib.hid hg2
  have HC := Lib.hid hC
  have HL := Lib.hid hc
  have HD := Lib.hid hD
  have HM := Lib.hid hd
  have HB := Lib.hid (below_alloc (Below.refl w.heap.size w) (.cells #[.int .i64 s, .slice A l.length c, .int .i64 E, .int .i64 s2, .slice B l2.length d, .int .i64 E2] 48))
  have HK := Lib.hid (blk_new w (.cells #[.int .i64 s, .slice A l.length c, .int .i64 E, .int .i64 s2, .slice B l2.length d, .int .i64 E2] 48))
  clear hC hc hD hd
  clear h h2 hg hg2
  go_enter Tryd.func17, Tryd.ntmps17
  go_wp2_with (first | (go_at_call 33; refine (exact_calls s E l k true HI.out s2 E2 l2 k2 true HI2.out A c B d _ (Kd.C_alloc HC.out _) HL.out (Kd.C_alloc HD.out _) HM.out).mono ?_; rintro e w1 ⟨rfl, hB1⟩; have HK1 := Lib.hid (blk_below HK.out hB1); have HB1 := Lib.hid (HB.out.trans (hB1.mono HB.out.size)); clear hB1; have x0 : w1.cell? ⟨w.heap.size, 0, none⟩ = some (.int .i64 s) := (blk_cell HK1.out 0).trans rfl; have x1 : w1.cell? ⟨w.heap.size, 1, none⟩ = some (.slice A l.length c) := (blk_cell HK1.out 1).trans rfl; have x2 : w1.cell? ⟨w.heap.size, 2, none⟩ = some (.int .i64 E) := (blk_cell HK1.out 2).trans rfl; have x3 : w1.cell? ⟨w.heap.size, 3, none⟩ = some (.int .i64 s2) := (blk_cell HK1.out 3).trans rfl; have x4 : w1.cell? ⟨w.heap.size, 4, none⟩ = some (.slice B l2.length d) := (blk_cell HK1.out 4).trans rfl; have x5 : w1.cell? ⟨w.heap.size, 5, none⟩ = some (.int .i64 E2) := (blk_cell HK1.out 5).trans rfl) | (go_at_call 13; have hgd := HB2; clear hgd; refine (HG2.out B d _ (Kd.C_below HD.out HB2.out) HM.out).mono ?_; rintro e w3 ⟨rfl, hB3⟩; have HB3 := Lib.hid (HB2.out.trans (hB3.mono HB2.out.size)); clear hB3) | (go_at_call 13; refine (HG.out A c _ (Kd.C_below HC.out HB1.out) HL.out).mono ?_; rintro e w2 ⟨rfl, hB2⟩; have HK2 := Lib.hid (blk_below HK1.out hB2); have HB2 := Lib.hid (HB1.out.trans (hB2.mono HB1.out.size)); clear hB2 x0 x1 x2 x3 x4 x5; have y0 : w2.cell? ⟨w.heap.size, 0, none⟩ = some (.int .i64 s) := (blk_cell HK2.out 0).trans rfl; have y1 : w2.cell? ⟨w.heap.size, 1, none⟩ = some (.slice A l.length c) := (blk_cell HK2.out 1).trans rfl; have y2 : w2.cell? ⟨w.heap.size, 2, none⟩ = some (.int .i64 E) := (blk_cell HK2.out 2).trans rfl; have y3 : w2.cell? ⟨w.heap.size, 3, none⟩ = some (.int .i64 s2) := (blk_cell HK2.out 3).trans rfl; have y4 : w2.cell? ⟨w.heap.size, 4, none⟩ = some (.slice B l2.length d) := (blk_cell HK2.out 4).trans rfl; have y5 : w2.cell? ⟨w.heap.size, 5, none⟩ = some (.int .i64 E2) := (blk_cell HK2.out 5).trans rfl))
  go_ret2
  exact ⟨rfl, HB3.out⟩

set_option maxRecDepth 100000 in
set_option maxHeartbeats 1000000 in
theorem impl_first (s E : Int) (l : List Int) (k : Nat) (h : impl_IsDyadic.f k s l E = some true) (s2 E2 : Int) (l2 : List Int) (k2 : Nat) (h2 : impl_IsDyadic.f k2 s2 l2 E2 = some true) (r r2 : Nat) (c2 : Int) (hg : Gives 13 s E l r 3) (hg2 : Gives 13 s2 E2 l2 r2 c2) (A : Option Addr) (c : Nat) (B : Option Addr) (d : Nat) (w : World) (hC : Kd.C (Kd.int .i64) w A l.length l) (hc : l.length ≤ c) (hD : Kd.C (Kd.int .i64) w B l2.length l2) (hd : l2.length ≤ d) :
    Calls Tryd.prog 17 #[.agg #[.int .i64 s, .slice A l.length c, .int .i64 E, .int .i64 s2, .slice B l2.length d, .int .i64 E2]] w fun e w' => e = .returned (.tuple #[.complex .f64 0 0, .int .i64 3]) ∧ Below w.heap.size w w' := by
  have HI := Lib.hid h
  have HI2 := Lib.hid h2
  have HG := Lib.hid hg
  have HG2 := Lib.hid hg2
  have HC := Lib.hid hC
  have HL := Lib.hid hc
  have HD := Lib.hid hD
  have HM := Lib.hid hd
  have HB := Lib.hid (below_alloc (Below.refl w.heap.size w) (.cells #[.int .i64 s, .slice A l.length c, .int .i64 E, .int .i64 s2, .slice B l2.length d, .int .i64 E2] 48))
  have HK := Lib.hid (blk_new w (.cells #[.int .i64 s, .slice A l.length c, .int .i64 E, .int .i64 s2, .slice B l2.length d, .int .i64 E2] 48))
  clear hC hc hD hd
  clear h h2 hg hg2
  go_enter Tryd.func17, Tryd.ntmps17
  go_wp2_with (first | (go_at_call 33; refine (exact_calls s E l k true HI.out s2 E2 l2 k2 true HI2.out A c B d _ (Kd.C_alloc HC.out _) HL.out (Kd.C_alloc HD.out _) HM.out).mono ?_; rintro e w1 ⟨rfl, hB1⟩; have HK1 := Lib.hid (blk_below HK.out hB1); have HB1 := Lib.hid (HB.out.trans (hB1.mono HB.out.size)); clear hB1; have x0 : w1.cell? ⟨w.heap.size, 0, none⟩ = some (.int .i64 s) := (blk_cell HK1.out 0).trans rfl; have x1 : w1.cell? ⟨w.heap.size, 1, none⟩ = some (.slice A l.length c) := (blk_cell HK1.out 1).trans rfl; have x2 : w1.cell? ⟨w.heap.size, 2, none⟩ = some (.int .i64 E) := (blk_cell HK1.out 2).trans rfl; have x3 : w1.cell? ⟨w.heap.size, 3, none⟩ = some (.int .i64 s2) := (blk_cell HK1.out 3).trans rfl; have x4 : w1.cell? ⟨w.heap.size, 4, none⟩ = some (.slice B l2.length d) := (blk_cell HK1.out 4).trans rfl; have x5 : w1.cell? ⟨w.heap.size, 5, none⟩ = some (.int .i64 E2) := (blk_cell HK1.out 5).trans rfl) | (go_at_call 13; have hgd := HB2; clear hgd; refine (HG2.out B d _ (Kd.C_below HD.out HB2.out) HM.out).mono ?_; rintro e w3 ⟨rfl, hB3⟩; have HB3 := Lib.hid (HB2.out.trans (hB3.mono HB2.out.size)); clear hB3) | (go_at_call 13; refine (HG.out A c _ (Kd.C_below HC.out HB1.out) HL.out).mono ?_; rintro e w2 ⟨rfl, hB2⟩; have HK2 := Lib.hid (blk_below HK1.out hB2); have HB2 := Lib.hid (HB1.out.trans (hB2.mono HB1.out.size)); clear hB2 x0 x1 x2 x3 x4 x5; have y0 : w2.cell? ⟨w.heap.size, 0, none⟩ = some (.int .i64 s) := (blk_cell HK2.out 0).trans rfl; have y1 : w2.cell? ⟨w.heap.size, 1, none⟩ = some (.slice A l.length c) := (blk_cell HK2.out 1).trans rfl; have y2 : w2.cell? ⟨w.heap.size, 2, none⟩ = some (.int .i64 E) := (blk_cell HK2.out 2).trans rfl; have y3 : w2.cell? ⟨w.heap.size, 3, none⟩ = some (.int .i64 s2) := (blk_cell HK2.out 3).trans rfl; have y4 : w2.cell? ⟨w.heap.size, 4, none⟩ = some (.slice B l2.length d) := (blk_cell HK2.out 4).trans rfl; have y5 : w2.cell? ⟨w.heap.size, 5, none⟩ = some (.int .i64 E2) := (blk_cell HK2.out 5).trans rfl))
  go_ret2
  exact ⟨rfl, HB3.out⟩

set_option maxRecDepth 100000 in
set_option maxHeartbeats 1000000 in
theorem impl_second (s E : Int) (l : List Int) (k : Nat) (h : impl_IsDyadic.f k s l E = some true) (s2 E2 : Int) (l2 : List Int) (k2 : Nat) (h2 : impl_IsDyadic.f k2 s2 l2 E2 = some true) (r r2 : Nat) (hg : Gives 13 s E l r 0) (hg2 : Gives 13 s2 E2 l2 r2 3) (A : Option Addr) (c : Nat) (B : Option Addr) (d : Nat) (w : World) (hC : Kd.C (Kd.int .i64) w A l.length l) (hc : l.length ≤ c) (hD : Kd.C (Kd.int .i64) w B l2.length l2) (hd : l2.length ≤ d) :
    Calls Tryd.prog 17 #[.agg #[.int .i64 s, .slice A l.length c, .int .i64 E, .int .i64 s2, .slice B l2.length d, .int .i64 E2]] w fun e w' => e = .returned (.tuple #[.complex .f64 0 0, .int .i64 3]) ∧ Below w.heap.size w w' := by
  have HI := Lib.hid h
  have HI2 := Lib.hid h2
  have HG := Lib.hid hg
  have HG2 := Lib.hid hg2
  have HC := Lib.hid hC
  have HL := Lib.hid hc
  have HD := Lib.hid hD
  have HM := Lib.hid hd
  have HB := Lib.hid (below_alloc (Below.refl w.heap.size w) (.cells #[.int .i64 s, .slice A l.length c, .int .i64 E, .int .i64 s2, .slice B l2.length d, .int .i64 E2] 48))
  have HK := Lib.hid (blk_new w (.cells #[.int .i64 s, .slice A l.length c, .int .i64 E, .int .i64 s2, .slice B l2.length d, .int .i64 E2] 48))
  clear hC hc hD hd
  clear h h2 hg hg2
  go_enter Tryd.func17, Tryd.ntmps17
  go_wp2_with (first | (go_at_call 33; refine (exact_calls s E l k true HI.out s2 E2 l2 k2 true HI2.out A c B d _ (Kd.C_alloc HC.out _) HL.out (Kd.C_alloc HD.out _) HM.out).mono ?_; rintro e w1 ⟨rfl, hB1⟩; have HK1 := Lib.hid (blk_below HK.out hB1); have HB1 := Lib.hid (HB.out.trans (hB1.mono HB.out.size)); clear hB1; have x0 : w1.cell? ⟨w.heap.size, 0, none⟩ = some (.int .i64 s) := (blk_cell HK1.out 0).trans rfl; have x1 : w1.cell? ⟨w.heap.size, 1, none⟩ = some (.slice A l.length c) := (blk_cell HK1.out 1).trans rfl; have x2 : w1.cell? ⟨w.heap.size, 2, none⟩ = some (.int .i64 E) := (blk_cell HK1.out 2).trans rfl; have x3 : w1.cell? ⟨w.heap.size, 3, none⟩ = some (.int .i64 s2) := (blk_cell HK1.out 3).trans rfl; have x4 : w1.cell? ⟨w.heap.size, 4, none⟩ = some (.slice B l2.length d) := (blk_cell HK1.out 4).trans rfl; have x5 : w1.cell? ⟨w.heap.size, 5, none⟩ = some (.int .i64 E2) := (blk_cell HK1.out 5).trans rfl) | (go_at_call 13; have hgd := HB2; clear hgd; refine (HG2.out B d _ (Kd.C_below HD.out HB2.out) HM.out).mono ?_; rintro e w3 ⟨rfl, hB3⟩; have HB3 := Lib.hid (HB2.out.trans (hB3.mono HB2.out.size)); clear hB3) | (go_at_call 13; refine (HG.out A c _ (Kd.C_below HC.out HB1.out) HL.out).mono ?_; rintro e w2 ⟨rfl, hB2⟩; have HK2 := Lib.hid (blk_below HK1.out hB2); have HB2 := Lib.hid (HB1.out.trans (hB2.mono HB1.out.size)); clear hB2 x0 x1 x2 x3 x4 x5; have y0 : w2.cell? ⟨w.heap.size, 0, none⟩ = some (.int .i64 s) := (blk_cell HK2.out 0).trans rfl; have y1 : w2.cell? ⟨w.heap.size, 1, none⟩ = some (.slice A l.length c) := (blk_cell HK2.out 1).trans rfl; have y2 : w2.cell? ⟨w.heap.size, 2, none⟩ = some (.int .i64 E) := (blk_cell HK2.out 2).trans rfl; have y3 : w2.cell? ⟨w.heap.size, 3, none⟩ = some (.int .i64 s2) := (blk_cell HK2.out 3).trans rfl; have y4 : w2.cell? ⟨w.heap.size, 4, none⟩ = some (.slice B l2.length d) := (blk_cell HK2.out 4).trans rfl; have y5 : w2.cell? ⟨w.heap.size, 5, none⟩ = some (.int .i64 E2) := (blk_cell HK2.out 5).trans rfl))
  go_ret2
  exact ⟨rfl, HB3.out⟩

/-! ### Both -/
/-- A function of a pair of exact numbers that answers these. -/
def Gives2 (f : Nat) (s E : Int) (l : List Int) (s2 E2 : Int) (l2 : List Int) (re im : Nat) (co : Int) : Prop :=
  ∀ (A : Option Addr) (c : Nat) (B : Option Addr) (d : Nat) (w : World), Kd.C (Kd.int .i64) w A l.length l → l.length ≤ c → Kd.C (Kd.int .i64) w B l2.length l2 → l2.length ≤ d → Calls Tryd.prog f #[.agg #[.int .i64 s, .slice A l.length c, .int .i64 E, .int .i64 s2, .slice B l2.length d, .int .i64 E2]] w fun e w' => e = .returned (.tuple #[.complex .f64 re im, .int .i64 co]) ∧ Below w.heap.size w w'

theorem fits_one {x y re im re' im' : Nat} {co co' : Int} (h : Fits x y re im co) (h' : Fits x y re' im' co') : re = re' ∧ im = im' ∧ co = co' := by
  rcases h with ⟨h1, h2, rfl, rfl, rfl⟩ | ⟨h1, rfl, rfl, rfl⟩
  · rcases h' with ⟨_, _, rfl, rfl, rfl⟩ | ⟨k1, _⟩
    · exact ⟨rfl, rfl, rfl⟩
    · exact absurd ⟨h1, h2⟩ k1
  · rcases h' with ⟨k1, k2, _⟩ | ⟨_, rfl, rfl, rfl⟩
    · exact absurd ⟨k1, k2⟩ h1
    · exact ⟨rfl, rfl, rfl⟩

theorem both2 (s E : Int) (l : List Int) (hl : l.length ≤ 1048576) (s2 E2 : Int) (l2 : List Int) (hl2 : l2.length ≤ 1048576) : ∃ re im co, Gives2 15 s E l s2 E2 l2 re im co ∧ Gives2 17 s E l s2 E2 l2 re im co := by
  obtain ⟨b, hb, _⟩ := is_f s E l (l.length + 2) (by omega) (Nat.le_refl _)
  obtain ⟨b2, hb2, _⟩ := is_f s2 E2 l2 (l2.length + 2) (by omega) (Nat.le_refl _)
  have hi := hb
  have hi2 := hb2
  rw [← dyadic_same] at hi hi2
  cases hbb : (b && b2) with
  | false => exact ⟨0, 0, 1, fun A c B d w hC hc hD hd => spec_no s E l _ b hb s2 E2 l2 _ b2 hb2 hbb A c B d w hC hc hD hd, fun A c B d w hC hc hD hd => impl_no s E l _ b hi s2 E2 l2 _ b2 hi2 hbb A c B d w hC hc hD hd⟩
  | true =>
    rw [Bool.and_eq_true] at hbb
    obtain ⟨rfl, rfl⟩ := hbb
    obtain ⟨v, hr, hp⟩ := part s E l hl hb
    obtain ⟨v2, hr2, hp2⟩ := part s2 E2 l2 hl2 hb2
    have hspec : ∀ {re im co}, Fits v v2 re im co → Gives2 15 s E l s2 E2 l2 re im co := by
      intro re im co hf A c B d w hC hc hD hd
      refine (spec_yes s E l _ hb s2 E2 l2 _ hb2 v v2 hr hr2 A c B d w hC hc hD hd).mono ?_
      rintro e w' ⟨re', im', co', rfl, hf', hw⟩
      obtain ⟨rfl, rfl, rfl⟩ := fits_one hf hf'
      exact ⟨rfl, hw⟩
    have hno : ∀ {v : Nat}, NoNumber v → ¬ IsNumber v := fun h ⟨a, m, q, hr⟩ => h a m q hr
    rcases hp with ⟨hn, hg⟩ | ⟨hn, hg⟩
    · rcases hp2 with ⟨hn2, hg2⟩ | ⟨hn2, hg2⟩
      · exact ⟨v, v2, 0, hspec (Or.inl ⟨hn, hn2, rfl, rfl, rfl⟩), fun A c B d w hC hc hD hd => impl_yes s E l _ hi s2 E2 l2 _ hi2 v v2 hg hg2 A c B d w hC hc hD hd⟩
      · exact ⟨0, 0, 3, hspec (Or.inr ⟨fun h => hno hn2 h.2, rfl, rfl, rfl⟩), fun A c B d w hC hc hD hd => impl_second s E l _ hi s2 E2 l2 _ hi2 v 0 hg hg2 A c B d w hC hc hD hd⟩
    · have hg2 : ∃ r2 c2, Gives 13 s2 E2 l2 r2 c2 := by
        rcases hp2 with ⟨_, h⟩ | ⟨_, h⟩
        · exact ⟨_, _, h⟩
        · exact ⟨_, _, h⟩
      obtain ⟨r2, c2, hg2⟩ := hg2
      exact ⟨0, 0, 3, hspec (Or.inr ⟨fun h => hno hn h.1, rfl, rfl, rfl⟩), fun A c B d w hC hc hD hd => impl_first s E l _ hi s2 E2 l2 _ hi2 0 r2 c2 hg hg2 A c B d w hC hc hD hd⟩
end Go.Proofs.YtmedcpdjhgconaaDoor
