/- The law on NumberOf, walked: it returns true. -/
import Derived.Test.YtmedcpdjhgconaaDoorNbr
namespace Go.Proofs.YtmedcpdjhgconaaDoor
set_option linter.unusedVariables false
open Go.RowKit Go.Proofs.YtmedcpdjhgconaaDoorW.PrintWords Go.Proofs.YtmedcpdjhgconaaDoorW.PrintLast Go.Proofs.YtmedcpdjhgconaaDoorW.PrintMore Go.Proofs.YtmedcpdjhgconaaDoor.PFnExactFloatOf Go.Proofs.YtmedcpdjhgconaaDoor.Pure Go.Proofs.YtmedcpdjhgconaaDoor.Fp

theorem sz_yes (s E : Int) (l : List Int) (L : Nat) (hL : L ≤ 1048576) (hl : l.length ≤ L) : laws_szDyadic.f s l E (L : Int) = some ((L - l.length : Nat) : Int) := by
  unfold laws_szDyadic.f laws_szWhole.f laws_szInt64S.f
  have e : wrap64 ((L : Int) - (l.length : Int)) = ((L - l.length : Nat) : Int) := by rw [w64 (by omega) (by omega)]; omega
  rw [e, if_neg (by omega), Option.bind_some, if_neg (by omega), Option.bind_some, if_neg (by omega)]

theorem sz_no (s E : Int) (l : List Int) (L : Nat) (hL : L ≤ 1048576) (hl : L < l.length) (h2 : l.length ≤ 9223372036854775807) : laws_szDyadic.f s l E (L : Int) = some (-1) := by
  unfold laws_szDyadic.f laws_szWhole.f laws_szInt64S.f
  have e : wrap64 ((L : Int) - (l.length : Int)) = (L : Int) - (l.length : Int) := w64 (by omega) (by omega)
  rw [e, if_pos (by omega), Option.bind_some, if_pos (by omega), Option.bind_some, if_pos (by omega)]

set_option maxRecDepth 100000 in
set_option maxHeartbeats 1000000 in
theorem sz_calls (s E : Int) (l : List Int) (s2 E2 : Int) (l2 : List Int) (h1 : l.length ≤ 9223372036854775807) (h2 : l2.length ≤ 9223372036854775807) (A : Option Addr) (c : Nat) (B : Option Addr) (d : Nat) (w : World) (hC : Kd.C (Kd.int .i64) w A l.length l) (hc : l.length ≤ c) (hD : Kd.C (Kd.int .i64) w B l2.length l2) (hd : l2.length ≤ d) :
    Calls Tryd.prog 14 #[.agg #[.int .i64 s, .slice A l.length c, .int .i64 E, .int .i64 s2, .slice B l2.length d, .int .i64 E2], .int .i64 1048576] w fun e w' => ∃ r : Int, e = .returned (.int .i64 r) ∧ (r = -1 ∨ (0 ≤ r ∧ l.length ≤ 1048576 ∧ l2.length ≤ 1048576)) ∧ Below w.heap.size w w' := by
  have HC := Lib.hid hC
  have HL := Lib.hid hc
  have HD := Lib.hid hD
  have HM := Lib.hid hd
  have HB := Lib.hid (below_alloc (Below.refl w.heap.size w) (.cells #[.int .i64 s, .slice A l.length c, .int .i64 E, .int .i64 s2, .slice B l2.length d, .int .i64 E2] 42))
  have HK := Lib.hid (blk_new w (.cells #[.int .i64 s, .slice A l.length c, .int .i64 E, .int .i64 s2, .slice B l2.length d, .int .i64 E2] 42))
  clear hC hc hD hd
  by_cases a1 : l.length ≤ 1048576
  · have HZ : Hid (laws_szDyadic.f s l E 1048576 = some ((1048576 - l.length : Nat) : Int)) := Lib.hid (sz_yes s E l 1048576 (Nat.le_refl _) a1)
    obtain ⟨L, hL⟩ : ∃ L, L = 1048576 - l.length := ⟨_, rfl⟩
    rw [← hL] at HZ
    have HLL := Lib.hid hL
    by_cases a2 : l2.length ≤ L
    · have HZ2 := Lib.hid (sz_yes s2 E2 l2 L (by omega) a2)
      obtain ⟨M, hM⟩ : ∃ M, M = L - l2.length := ⟨_, rfl⟩
      rw [← hM] at HZ2
      have H1 := Lib.hid a1
      have H2 := Lib.hid a2
      clear a1 a2 hL hM h1 h2
      go_enter Tryd.func14, Tryd.ntmps14
      go_wp2_with (first | (go_at_call 6; have hgd := HB1; clear hgd; refine (laws_szDyadic.calls s2 B d l2 E2 _ _ _ (Kd.C_below HD.out HB1.out) HM.out HZ2.out).mono ?_; rintro e w2 ⟨rfl, hB2⟩; have HB2 := Lib.hid (HB1.out.trans (hB2.mono HB1.out.size)); clear hB2) | (go_at_call 6; refine (laws_szDyadic.calls s A c l E _ _ _ (Kd.C_alloc HC.out _) HL.out HZ.out).mono ?_; rintro e w1 ⟨rfl, hB1⟩; have HK1 := Lib.hid (blk_below HK.out hB1); have HB1 := Lib.hid (HB.out.trans (hB1.mono HB.out.size)); clear hB1; have x3 : w1.cell? ⟨w.heap.size, 3, none⟩ = some (.int .i64 s2) := (blk_cell HK1.out 3).trans rfl; have x4 : w1.cell? ⟨w.heap.size, 4, none⟩ = some (.slice B l2.length d) := (blk_cell HK1.out 4).trans rfl; have x5 : w1.cell? ⟨w.heap.size, 5, none⟩ = some (.int .i64 E2) := (blk_cell HK1.out 5).trans rfl))
      go_ret
      exact ⟨_, rfl, Or.inr ⟨by omega, H1.out, by have := H2.out; have := HLL.out; omega⟩, HB2.out⟩
    · have HZ2 := Lib.hid (sz_no s2 E2 l2 L (by omega) (by omega) h2)
      clear a1 a2 hL h1 h2
      go_enter Tryd.func14, Tryd.ntmps14
      go_wp2_with (first | (go_at_call 6; have hgd := HB1; clear hgd; refine (laws_szDyadic.calls s2 B d l2 E2 _ _ _ (Kd.C_below HD.out HB1.out) HM.out HZ2.out).mono ?_; rintro e w2 ⟨rfl, hB2⟩; have HB2 := Lib.hid (HB1.out.trans (hB2.mono HB1.out.size)); clear hB2) | (go_at_call 6; refine (laws_szDyadic.calls s A c l E _ _ _ (Kd.C_alloc HC.out _) HL.out HZ.out).mono ?_; rintro e w1 ⟨rfl, hB1⟩; have HK1 := Lib.hid (blk_below HK.out hB1); have HB1 := Lib.hid (HB.out.trans (hB1.mono HB.out.size)); clear hB1; have x3 : w1.cell? ⟨w.heap.size, 3, none⟩ = some (.int .i64 s2) := (blk_cell HK1.out 3).trans rfl; have x4 : w1.cell? ⟨w.heap.size, 4, none⟩ = some (.slice B l2.length d) := (blk_cell HK1.out 4).trans rfl; have x5 : w1.cell? ⟨w.heap.size, 5, none⟩ = some (.int .i64 E2) := (blk_cell HK1.out 5).trans rfl))
      go_ret
      exact ⟨_, rfl, Or.inl rfl, HB2.out⟩
  · have HZ := Lib.hid (sz_no s E l 1048576 (Nat.le_refl _) (by omega) h1)
    clear a1 h1 h2
    go_enter Tryd.func14, Tryd.ntmps14
    go_wp2_with (first | (go_at_call 6; refine (laws_szDyadic.calls s A c l E _ _ _ (Kd.C_alloc HC.out _) HL.out HZ.out).mono ?_; rintro e w1 ⟨rfl, hB1⟩; have HB1 := Lib.hid (HB.out.trans (hB1.mono HB.out.size)); clear hB1))
    go_ret
    exact ⟨_, rfl, Or.inl rfl, HB1.out⟩

set_option maxHeartbeats 1000000 in
theorem same2_calls (x y : Nat) (w : World) : Calls Tryd.prog 18 #[.complex .f64 x y, .complex .f64 x y] w fun e w' => e = .returned (.bool true) ∧ w = w' := by
  go_enter Tryd.func18, Tryd.ntmps18
  go_wp2_with (first | (go_at_call 10; have hgd := HDONE; clear hgd; refine (same_self y _).mono ?_; rintro e w2 ⟨rfl, rfl⟩) | (go_at_call 10; refine (same_self x _).mono ?_; rintro e w1 ⟨rfl, rfl⟩; have HDONE : Hid True := Lib.hid True.intro))
  go_ret
  exact ⟨rfl, rfl⟩

theorem not48 : ∀ q, q ∈ 2 :: (Kd.int .i64).E → q ≠ 48 := by
  intro q hq
  rcases List.mem_cons.1 hq with h | h
  · omega
  · exact absurd h (by simp [Kd.int, Kd.scalar])

set_option maxRecDepth 100000 in
set_option maxHeartbeats 4000000 in
theorem to2_calls (s E : Int) (l : List Int) (hl : l.length ≤ 1048576) (s2 E2 : Int) (l2 : List Int) (hl2 : l2.length ≤ 1048576) (A : Option Addr) (c : Nat) (B : Option Addr) (d : Nat) (w : World) (hC : Kd.C (Kd.int .i64) w A l.length l) (hc : l.length ≤ c) (hD : Kd.C (Kd.int .i64) w B l2.length l2) (hd : l2.length ≤ d) :
    Calls Tryd.prog 16 #[.agg #[.int .i64 s, .slice A l.length c, .int .i64 E, .int .i64 s2, .slice B l2.length d, .int .i64 E2]] w fun e w' => ∃ A' c' B' d', e = .returned (.agg #[.int .i64 s, .slice A' l.length c', .int .i64 E, .int .i64 s2, .slice B' l2.length d', .int .i64 E2]) ∧ Kd.C (Kd.int .i64) w' A' l.length l ∧ l.length ≤ c' ∧ Kd.C (Kd.int .i64) w' B' l2.length l2 ∧ l2.length ≤ d' ∧ Below w.heap.size w w' := by
  have HT := Lib.hid (to_f s E l hl (l.length + 1) (Nat.le_refl _))
  have HT2 := Lib.hid (to_f s2 E2 l2 hl2 (l2.length + 1) (Nat.le_refl _))
  have HC := Lib.hid hC
  have HL := Lib.hid hc
  have HD := Lib.hid hD
  have HM := Lib.hid hd
  have HB := Lib.hid (below_alloc (Below.refl w.heap.size w) (.cells #[.int .i64 s, .slice A l.length c, .int .i64 E, .int .i64 s2, .slice B l2.length d, .int .i64 E2] 42))
  have HK := Lib.hid (blk_new w (.cells #[.int .i64 s, .slice A l.length c, .int .i64 E, .int .i64 s2, .slice B l2.length d, .int .i64 E2] 42))
  clear hC hc hD hd
  clear hl hl2
  go_enter Tryd.func16, Tryd.ntmps16
  go_upto_region 2 with (fail)
  have hk0 := blk_alloc (blk_alloc HK.out (.cells #[.int .i64 0, .slice none 0 0, .int .i64 0, .int .i64 0, .slice none 0 0, .int .i64 0] 48)) (.cells #[.int .i64 0, .slice none 0 0, .int .i64 0, .int .i64 0, .slice none 0 0, .int .i64 0] 48)
  have hk1 := blk_alloc (blk_new (w.alloc (.cells #[.int .i64 s, .slice A l.length c, .int .i64 E, .int .i64 s2, .slice B l2.length d, .int .i64 E2] 42)) (.cells #[.int .i64 0, .slice none 0 0, .int .i64 0, .int .i64 0, .slice none 0 0, .int .i64 0] 48)) (.cells #[.int .i64 0, .slice none 0 0, .int .i64 0, .int .i64 0, .slice none 0 0, .int .i64 0] 48)
  have hk2 := blk_new ((w.alloc (.cells #[.int .i64 s, .slice A l.length c, .int .i64 E, .int .i64 s2, .slice B l2.length d, .int .i64 E2] 42)).alloc (.cells #[.int .i64 0, .slice none 0 0, .int .i64 0, .int .i64 0, .slice none 0 0, .int .i64 0] 48)) (.cells #[.int .i64 0, .slice none 0 0, .int .i64 0, .int .i64 0, .slice none 0 0, .int .i64 0] 48)
  have hb3 := below_alloc (below_alloc HB.out (.cells #[.int .i64 0, .slice none 0 0, .int .i64 0, .int .i64 0, .slice none 0 0, .int .i64 0] 48)) (.cells #[.int .i64 0, .slice none 0 0, .int .i64 0, .int .i64 0, .slice none 0 0, .int .i64 0] 48)
  rw [show (w.alloc (.cells #[.int .i64 s, .slice A l.length c, .int .i64 E, .int .i64 s2, .slice B l2.length d, .int .i64 E2] 42)).heap.size = w.heap.size + 1 by simp] at hk1
  rw [show ((w.alloc (.cells #[.int .i64 s, .slice A l.length c, .int .i64 E, .int .i64 s2, .slice B l2.length d, .int .i64 E2] 42)).alloc (.cells #[.int .i64 0, .slice none 0 0, .int .i64 0, .int .i64 0, .slice none 0 0, .int .i64 0] 48)).heap.size = w.heap.size + 1 + 1 by simp] at hk2
  obtain ⟨g2, hg2⟩ : ∃ g, g = w.heap.size + 1 := ⟨_, rfl⟩
  obtain ⟨g3, hg3⟩ : ∃ g, g = w.heap.size + 1 + 1 := ⟨_, rfl⟩
  rw [← hg3] at hk2 ⊢
  rw [← hg2] at hk1 ⊢
  have hn1 : w.heap.size ≠ g3 := by omega
  have hn2 : g2 ≠ g3 := by omega
  have hge2 : w.heap.size ≤ g2 := by omega
  have hge3 : w.heap.size ≤ g3 := by omega
  clear hg2 hg3 HB HK
  have HK0 := Lib.hid hk0
  have HK1 := Lib.hid hk1
  have HK2 := Lib.hid hk2
  have HB3 := Lib.hid hb3
  clear hk0 hk1 hk2 hb3
  generalize ((w.alloc (.cells #[.int .i64 s, .slice A l.length c, .int .i64 E, .int .i64 s2, .slice B l2.length d, .int .i64 E2] 42)).alloc (.cells #[.int .i64 0, .slice none 0 0, .int .i64 0, .int .i64 0, .slice none 0 0, .int .i64 0] 48)).alloc (.cells #[.int .i64 0, .slice none 0 0, .int .i64 0, .int .i64 0, .slice none 0 0, .int .i64 0] 48) = W3 at *
  have x0 : W3.cell? ⟨w.heap.size, 0, none⟩ = some (.int .i64 s) := (blk_cell HK0.out 0).trans rfl; have x1 : W3.cell? ⟨w.heap.size, 1, none⟩ = some (.slice A l.length c) := (blk_cell HK0.out 1).trans rfl; have x2 : W3.cell? ⟨w.heap.size, 2, none⟩ = some (.int .i64 E) := (blk_cell HK0.out 2).trans rfl; have x3 : W3.cell? ⟨w.heap.size, 3, none⟩ = some (.int .i64 s2) := (blk_cell HK0.out 3).trans rfl; have x4 : W3.cell? ⟨w.heap.size, 4, none⟩ = some (.slice B l2.length d) := (blk_cell HK0.out 4).trans rfl; have x5 : W3.cell? ⟨w.heap.size, 5, none⟩ = some (.int .i64 E2) := (blk_cell HK0.out 5).trans rfl
  go_upto_region 3 with (first | (go_at_call 8; refine (laws_toDyadic.calls _ s A c l E _ _ _ _ (Kd.C_below HC.out HB3.out) HL.out HT.out).mono ?_; rintro e w4 ⟨v4, rfl, hR4, hB4⟩; obtain ⟨A4, c4, rfl⟩ := Kd.R_slice hR4; have HR4 := Lib.hid hR4; have HB4 := Lib.hid (HB3.out.trans (hB4.mono HB3.out.size)); have HK4 := Lib.hid (blk_below HK0.out hB4); have HG4 := Lib.hid (blk_below HK1.out hB4); have HH4 := Lib.hid (blk_below HK2.out hB4); clear hR4 hB4; have h0 : w4.cell? ⟨g3, 0, none⟩ = some (.int .i64 0) := (blk_cell HH4.out 0).trans rfl; have h1 : w4.cell? ⟨g3, 1, none⟩ = some (.slice none 0 0) := (blk_cell HH4.out 1).trans rfl; have h2 : w4.cell? ⟨g3, 2, none⟩ = some (.int .i64 0) := (blk_cell HH4.out 2).trans rfl; have h3 : w4.cell? ⟨g3, 3, none⟩ = some (.int .i64 0) := (blk_cell HH4.out 3).trans rfl; have h4 : w4.cell? ⟨g3, 4, none⟩ = some (.slice none 0 0) := (blk_cell HH4.out 4).trans rfl; have h5 : w4.cell? ⟨g3, 5, none⟩ = some (.int .i64 0) := (blk_cell HH4.out 5).trans rfl; have f0 := blk_frozen HH4.out 0; have f1 := blk_frozen HH4.out 1; have f2 := blk_frozen HH4.out 2))
  have pHR40 := Kd.R_set HR4.out HH4.out not48 0 (.int .i64 s)
  have pHK40 : ((w4).setCell ⟨g3, 0, none⟩ (.int .i64 s)).heap[w.heap.size]? = _ := (heap_setCell_other _ _ _ _ hn1).trans HK4.out
  have pHG40 : ((w4).setCell ⟨g3, 0, none⟩ (.int .i64 s)).heap[g2]? = _ := (heap_setCell_other _ _ _ _ hn2).trans HG4.out
  have pk0 := blk_put HH4.out 0 (.int .i64 s) rfl
  have pb0 : Below w.heap.size w ((w4).setCell ⟨g3, 0, none⟩ (.int .i64 s)) := HB4.out.setCell hge3 _
  have pHR41 := Kd.R_set pHR40 pk0 not48 1 (.slice A4 l.length c4)
  have pHK41 : (((w4).setCell ⟨g3, 0, none⟩ (.int .i64 s)).setCell ⟨g3, 1, none⟩ (.slice A4 l.length c4)).heap[w.heap.size]? = _ := (heap_setCell_other _ _ _ _ hn1).trans pHK40
  have pHG41 : (((w4).setCell ⟨g3, 0, none⟩ (.int .i64 s)).setCell ⟨g3, 1, none⟩ (.slice A4 l.length c4)).heap[g2]? = _ := (heap_setCell_other _ _ _ _ hn2).trans pHG40
  have pk1 := blk_put pk0 1 (.slice A4 l.length c4) rfl
  have pb1 : Below w.heap.size w (((w4).setCell ⟨g3, 0, none⟩ (.int .i64 s)).setCell ⟨g3, 1, none⟩ (.slice A4 l.length c4)) := pb0.setCell hge3 _
  have pHR42 := Kd.R_set pHR41 pk1 not48 2 (.int .i64 E)
  have pHK42 : ((((w4).setCell ⟨g3, 0, none⟩ (.int .i64 s)).setCell ⟨g3, 1, none⟩ (.slice A4 l.length c4)).setCell ⟨g3, 2, none⟩ (.int .i64 E)).heap[w.heap.size]? = _ := (heap_setCell_other _ _ _ _ hn1).trans pHK41
  have pHG42 : ((((w4).setCell ⟨g3, 0, none⟩ (.int .i64 s)).setCell ⟨g3, 1, none⟩ (.slice A4 l.length c4)).setCell ⟨g3, 2, none⟩ (.int .i64 E)).heap[g2]? = _ := (heap_setCell_other _ _ _ _ hn2).trans pHG41
  have pk2 := blk_put pk1 2 (.int .i64 E) rfl
  have pb2 : Below w.heap.size w ((((w4).setCell ⟨g3, 0, none⟩ (.int .i64 s)).setCell ⟨g3, 1, none⟩ (.slice A4 l.length c4)).setCell ⟨g3, 2, none⟩ (.int .i64 E)) := pb1.setCell hge3 _
  have HR5 := Lib.hid pHR42
  have HK5 := Lib.hid pHK42
  have HG5 := Lib.hid pHG42
  have HH5 := Lib.hid pk2
  have HB5 := Lib.hid pb2
  clear pHR42 pHR41 pHR40 pHK42 pHK41 pHK40 pHG42 pHG41 pHG40 pk2 pk1 pk0 pb2 pb1 pb0 HR4 HB4 HK4 HG4 HH4 h0 h1 h2 h3 h4 h5 f0 f1 f2 x0 x1 x2 x3 x4 x5
  generalize (((w4).setCell ⟨g3, 0, none⟩ (.int .i64 s)).setCell ⟨g3, 1, none⟩ (.slice A4 l.length c4)).setCell ⟨g3, 2, none⟩ (.int .i64 E) = W5 at *
  have x3 : W5.cell? ⟨w.heap.size, 3, none⟩ = some (.int .i64 s2) := (blk_cell HK5.out 3).trans rfl; have x4 : W5.cell? ⟨w.heap.size, 4, none⟩ = some (.slice B l2.length d) := (blk_cell HK5.out 4).trans rfl; have x5 : W5.cell? ⟨w.heap.size, 5, none⟩ = some (.int .i64 E2) := (blk_cell HK5.out 5).trans rfl
  go_upto_region 4 with (first | (go_at_call 8; refine (laws_toDyadic.calls _ s2 B d l2 E2 _ _ _ _ (Kd.C_below HD.out HB5.out) HM.out HT2.out).mono ?_; rintro e w6 ⟨v6, rfl, hR6, hB6⟩; obtain ⟨A6, c6, rfl⟩ := Kd.R_slice hR6; have HR6 := Lib.hid hR6; have HS6 := Lib.hid (Kd.R_below HR5.out hB6); have HB6 := Lib.hid (HB5.out.trans (hB6.mono HB5.out.size)); have HG6 := Lib.hid (blk_below HG5.out hB6); have HH6 := Lib.hid (blk_below HH5.out hB6); clear hR6 hB6; have h0 : w6.cell? ⟨g3, 0, none⟩ = some (.int .i64 s) := (blk_cell HH6.out 0).trans rfl; have h1 : w6.cell? ⟨g3, 1, none⟩ = some (.slice A4 l.length c4) := (blk_cell HH6.out 1).trans rfl; have h2 : w6.cell? ⟨g3, 2, none⟩ = some (.int .i64 E) := (blk_cell HH6.out 2).trans rfl; have h3 : w6.cell? ⟨g3, 3, none⟩ = some (.int .i64 0) := (blk_cell HH6.out 3).trans rfl; have h4 : w6.cell? ⟨g3, 4, none⟩ = some (.slice none 0 0) := (blk_cell HH6.out 4).trans rfl; have h5 : w6.cell? ⟨g3, 5, none⟩ = some (.int .i64 0) := (blk_cell HH6.out 5).trans rfl; have f3 := blk_frozen HH6.out 3; have f4 := blk_frozen HH6.out 4; have f5 := blk_frozen HH6.out 5))
  have qHR60 := Kd.R_set HR6.out HH6.out not48 3 (.int .i64 s2)
  have qHS60 := Kd.R_set HS6.out HH6.out not48 3 (.int .i64 s2)
  have qHG60 : ((w6).setCell ⟨g3, 3, none⟩ (.int .i64 s2)).heap[g2]? = _ := (heap_setCell_other _ _ _ _ hn2).trans HG6.out
  have qk0 := blk_put HH6.out 3 (.int .i64 s2) rfl
  have qb0 : Below w.heap.size w ((w6).setCell ⟨g3, 3, none⟩ (.int .i64 s2)) := HB6.out.setCell hge3 _
  have qHR61 := Kd.R_set qHR60 qk0 not48 4 (.slice A6 l2.length c6)
  have qHS61 := Kd.R_set qHS60 qk0 not48 4 (.slice A6 l2.length c6)
  have qHG61 : (((w6).setCell ⟨g3, 3, none⟩ (.int .i64 s2)).setCell ⟨g3, 4, none⟩ (.slice A6 l2.length c6)).heap[g2]? = _ := (heap_setCell_other _ _ _ _ hn2).trans qHG60
  have qk1 := blk_put qk0 4 (.slice A6 l2.length c6) rfl
  have qb1 : Below w.heap.size w (((w6).setCell ⟨g3, 3, none⟩ (.int .i64 s2)).setCell ⟨g3, 4, none⟩ (.slice A6 l2.length c6)) := qb0.setCell hge3 _
  have qHR62 := Kd.R_set qHR61 qk1 not48 5 (.int .i64 E2)
  have qHS62 := Kd.R_set qHS61 qk1 not48 5 (.int .i64 E2)
  have qHG62 : ((((w6).setCell ⟨g3, 3, none⟩ (.int .i64 s2)).setCell ⟨g3, 4, none⟩ (.slice A6 l2.length c6)).setCell ⟨g3, 5, none⟩ (.int .i64 E2)).heap[g2]? = _ := (heap_setCell_other _ _ _ _ hn2).trans qHG61
  have qk2 := blk_put qk1 5 (.int .i64 E2) rfl
  have qb2 : Below w.heap.size w ((((w6).setCell ⟨g3, 3, none⟩ (.int .i64 s2)).setCell ⟨g3, 4, none⟩ (.slice A6 l2.length c6)).setCell ⟨g3, 5, none⟩ (.int .i64 E2)) := qb1.setCell hge3 _
  have HR7 := Lib.hid qHR62
  have HS7 := Lib.hid qHS62
  have HG7 := Lib.hid qHG62
  have HH7 := Lib.hid qk2
  have HB7 := Lib.hid qb2
  clear qHR62 qHR61 qHR60 qHS62 qHS61 qHS60 qHG62 qHG61 qHG60 qk2 qk1 qk0 qb2 qb1 qb0 HR6 HS6 HB6 HG6 HH6 h0 h1 h2 h3 h4 h5 f3 f4 f5 x3 x4 x5
  generalize (((w6).setCell ⟨g3, 3, none⟩ (.int .i64 s2)).setCell ⟨g3, 4, none⟩ (.slice A6 l2.length c6)).setCell ⟨g3, 5, none⟩ (.int .i64 E2) = W7 at *
  have h0 : W7.cell? ⟨g3, 0, none⟩ = some (.int .i64 s) := (blk_cell HH7.out 0).trans rfl
  have h1 : W7.cell? ⟨g3, 1, none⟩ = some (.slice A4 l.length c4) := (blk_cell HH7.out 1).trans rfl
  have h2 : W7.cell? ⟨g3, 2, none⟩ = some (.int .i64 E) := (blk_cell HH7.out 2).trans rfl
  have h3 : W7.cell? ⟨g3, 3, none⟩ = some (.int .i64 s2) := (blk_cell HH7.out 3).trans rfl
  have h4 : W7.cell? ⟨g3, 4, none⟩ = some (.slice A6 l2.length c6) := (blk_cell HH7.out 4).trans rfl
  have h5 : W7.cell? ⟨g3, 5, none⟩ = some (.int .i64 E2) := (blk_cell HH7.out 5).trans rfl
  have j0 : W7.cell? ⟨g2, 0, none⟩ = some (.int .i64 0) := (blk_cell HG7.out 0).trans rfl
  have j1 : W7.cell? ⟨g2, 1, none⟩ = some (.slice none 0 0) := (blk_cell HG7.out 1).trans rfl
  have j2 : W7.cell? ⟨g2, 2, none⟩ = some (.int .i64 0) := (blk_cell HG7.out 2).trans rfl
  have j3 : W7.cell? ⟨g2, 3, none⟩ = some (.int .i64 0) := (blk_cell HG7.out 3).trans rfl
  have j4 : W7.cell? ⟨g2, 4, none⟩ = some (.slice none 0 0) := (blk_cell HG7.out 4).trans rfl
  have j5 : W7.cell? ⟨g2, 5, none⟩ = some (.int .i64 0) := (blk_cell HG7.out 5).trans rfl
  have f0 := blk_frozen HG7.out 0
  have f1 := blk_frozen HG7.out 1
  have f2 := blk_frozen HG7.out 2
  have f3 := blk_frozen HG7.out 3
  have f4 := blk_frozen HG7.out 4
  have f5 := blk_frozen HG7.out 5
  go_wp2_with fail
  have rHR70 := Kd.R_set HR7.out HG7.out not48 0 (.int .i64 s)
  have rHS70 := Kd.R_set HS7.out HG7.out not48 0 (.int .i64 s)
  have rk0 := blk_put HG7.out 0 (.int .i64 s) rfl
  have rb0 : Below w.heap.size w ((W7).setCell ⟨g2, 0, none⟩ (.int .i64 s)) := HB7.out.setCell hge2 _
  have rHR71 := Kd.R_set rHR70 rk0 not48 1 (.slice A4 l.length c4)
  have rHS71 := Kd.R_set rHS70 rk0 not48 1 (.slice A4 l.length c4)
  have rk1 := blk_put rk0 1 (.slice A4 l.length c4) rfl
  have rb1 : Below w.heap.size w (((W7).setCell ⟨g2, 0, none⟩ (.int .i64 s)).setCell ⟨g2, 1, none⟩ (.slice A4 l.length c4)) := rb0.setCell hge2 _
  have rHR72 := Kd.R_set rHR71 rk1 not48 2 (.int .i64 E)
  have rHS72 := Kd.R_set rHS71 rk1 not48 2 (.int .i64 E)
  have rk2 := blk_put rk1 2 (.int .i64 E) rfl
  have rb2 : Below w.heap.size w ((((W7).setCell ⟨g2, 0, none⟩ (.int .i64 s)).setCell ⟨g2, 1, none⟩ (.slice A4 l.length c4)).setCell ⟨g2, 2, none⟩ (.int .i64 E)) := rb1.setCell hge2 _
  have rHR73 := Kd.R_set rHR72 rk2 not48 3 (.int .i64 s2)
  have rHS73 := Kd.R_set rHS72 rk2 not48 3 (.int .i64 s2)
  have rk3 := blk_put rk2 3 (.int .i64 s2) rfl
  have rb3 : Below w.heap.size w (((((W7).setCell ⟨g2, 0, none⟩ (.int .i64 s)).setCell ⟨g2, 1, none⟩ (.slice A4 l.length c4)).setCell ⟨g2, 2, none⟩ (.int .i64 E)).setCell ⟨g2, 3, none⟩ (.int .i64 s2)) := rb2.setCell hge2 _
  have rHR74 := Kd.R_set rHR73 rk3 not48 4 (.slice A6 l2.length c6)
  have rHS74 := Kd.R_set rHS73 rk3 not48 4 (.slice A6 l2.length c6)
  have rk4 := blk_put rk3 4 (.slice A6 l2.length c6) rfl
  have rb4 : Below w.heap.size w ((((((W7).setCell ⟨g2, 0, none⟩ (.int .i64 s)).setCell ⟨g2, 1, none⟩ (.slice A4 l.length c4)).setCell ⟨g2, 2, none⟩ (.int .i64 E)).setCell ⟨g2, 3, none⟩ (.int .i64 s2)).setCell ⟨g2, 4, none⟩ (.slice A6 l2.length c6)) := rb3.setCell hge2 _
  have rHR75 := Kd.R_set rHR74 rk4 not48 5 (.int .i64 E2)
  have rHS75 := Kd.R_set rHS74 rk4 not48 5 (.int .i64 E2)
  have rk5 := blk_put rk4 5 (.int .i64 E2) rfl
  have rb5 : Below w.heap.size w (((((((W7).setCell ⟨g2, 0, none⟩ (.int .i64 s)).setCell ⟨g2, 1, none⟩ (.slice A4 l.length c4)).setCell ⟨g2, 2, none⟩ (.int .i64 E)).setCell ⟨g2, 3, none⟩ (.int .i64 s2)).setCell ⟨g2, 4, none⟩ (.slice A6 l2.length c6)).setCell ⟨g2, 5, none⟩ (.int .i64 E2)) := rb4.setCell hge2 _
  have o0 := (blk_cell rk5 0).trans rfl
  have o1 := (blk_cell rk5 1).trans rfl
  have o2 := (blk_cell rk5 2).trans rfl
  have o3 := (blk_cell rk5 3).trans rfl
  have o4 := (blk_cell rk5 4).trans rfl
  have o5 := (blk_cell rk5 5).trans rfl
  refine bodyPost_ret (v := .agg #[.int .i64 s, .slice A4 l.length c4, .int .i64 E, .int .i64 s2, .slice A6 l2.length c6, .int .i64 E2]) (by simp [results, Tryd.results16, go_sem, o0, o1, o2, o3, o4, o5]) rfl ⟨A4, c4, A6, c6, rfl, (Kd.R_reads' rHS75).2.2, (Kd.R_reads' rHS75).2.1, (Kd.R_reads' rHR75).2.2, (Kd.R_reads' rHR75).2.1, rb5⟩

set_option maxRecDepth 100000 in
set_option maxHeartbeats 1000000 in
theorem eq2_calls (s E : Int) (l : List Int) (hl : l.length ≤ 1048576) (s2 E2 : Int) (l2 : List Int) (hl2 : l2.length ≤ 1048576) (A2 : Option Addr) (c2 : Nat) (B2 : Option Addr) (d2 : Nat) (A : Option Addr) (c : Nat) (B : Option Addr) (d : Nat) (w : World) (hC : Kd.C (Kd.int .i64) w A l.length l) (hc : l.length ≤ c) (hD : Kd.C (Kd.int .i64) w B l2.length l2) (hd : l2.length ≤ d)
    (hC2 : Kd.C (Kd.int .i64) w A2 l.length l) (hc2 : l.length ≤ c2) (hD2 : Kd.C (Kd.int .i64) w B2 l2.length l2) (hd2 : l2.length ≤ d2) :
    Calls Tryd.prog 19 #[.agg #[.int .i64 s, .slice A l.length c, .int .i64 E, .int .i64 s2, .slice B l2.length d, .int .i64 E2], .agg #[.int .i64 s, .slice A2 l.length c2, .int .i64 E, .int .i64 s2, .slice B2 l2.length d2, .int .i64 E2]] w fun e w' => e = .returned (.bool true) ∧ Below w.heap.size w w' := by
  have HT := Lib.hid (eq_f s E l hl (l.length + 1) (Nat.le_refl _))
  have HT2 := Lib.hid (eq_f s2 E2 l2 hl2 (l2.length + 1) (Nat.le_refl _))
  have hb := below_alloc (below_alloc (Below.refl w.heap.size w) (.cells #[.int .i64 s, .slice A l.length c, .int .i64 E, .int .i64 s2, .slice B l2.length d, .int .i64 E2] 48)) (.cells #[.int .i64 s, .slice A2 l.length c2, .int .i64 E, .int .i64 s2, .slice B2 l2.length d2, .int .i64 E2] 48)
  have hk0 := blk_alloc (blk_new w (.cells #[.int .i64 s, .slice A l.length c, .int .i64 E, .int .i64 s2, .slice B l2.length d, .int .i64 E2] 48)) (.cells #[.int .i64 s, .slice A2 l.length c2, .int .i64 E, .int .i64 s2, .slice B2 l2.length d2, .int .i64 E2] 48)
  have hk1 := blk_new (w.alloc (.cells #[.int .i64 s, .slice A l.length c, .int .i64 E, .int .i64 s2, .slice B l2.length d, .int .i64 E2] 48)) (.cells #[.int .i64 s, .slice A2 l.length c2, .int .i64 E, .int .i64 s2, .slice B2 l2.length d2, .int .i64 E2] 48)
  rw [show (w.alloc (.cells #[.int .i64 s, .slice A l.length c, .int .i64 E, .int .i64 s2, .slice B l2.length d, .int .i64 E2] 48)).heap.size = w.heap.size + 1 by simp] at hk1
  have HB := Lib.hid hb
  have HK0 := Lib.hid hk0
  have HK1 := Lib.hid hk1
  have HC := Lib.hid (Kd.C_below hC hb)
  have HD := Lib.hid (Kd.C_below hD hb)
  have HC2 := Lib.hid (Kd.C_below hC2 hb)
  have HD2 := Lib.hid (Kd.C_below hD2 hb)
  have HL := Lib.hid hc
  have HM := Lib.hid hd
  have HL2 := Lib.hid hc2
  have HM2 := Lib.hid hd2
  clear hb hk0 hk1 hC hD hC2 hD2 hc hd hc2 hd2 hl hl2
  go_enter Tryd.func19, Tryd.ntmps19
  go_wp2_with (first | (go_at_call 11; have hgd := HB1; clear hgd; refine (laws_eqDyadic.calls _ s2 B d l2 E2 s2 B2 d2 l2 E2 _ _ (Kd.C_below HD.out HBX.out) HM.out (Kd.C_below HD2.out HBX.out) HM2.out HT2.out).mono ?_; rintro e w2 ⟨rfl, hB2⟩; have HB2 := Lib.hid (HB1.out.trans (hB2.mono HB1.out.size)); clear hB2) | (go_at_call 11; refine (laws_eqDyadic.calls _ s A c l E s A2 c2 l E _ _ HC.out HL.out HC2.out HL2.out HT.out).mono ?_; rintro e w1 ⟨rfl, hB1⟩; have HBX := Lib.hid hB1; have HK2 := Lib.hid (blk_below HK0.out hB1); have HK3 := Lib.hid (blk_below HK1.out hB1); have HB1 := Lib.hid (HB.out.trans (hB1.mono HB.out.size)); clear hB1; have x3 : w1.cell? ⟨w.heap.size, 3, none⟩ = some (.int .i64 s2) := (blk_cell HK2.out 3).trans rfl; have x4 : w1.cell? ⟨w.heap.size, 4, none⟩ = some (.slice B l2.length d) := (blk_cell HK2.out 4).trans rfl; have x5 : w1.cell? ⟨w.heap.size, 5, none⟩ = some (.int .i64 E2) := (blk_cell HK2.out 5).trans rfl; have y3 : w1.cell? ⟨w.heap.size + 1, 3, none⟩ = some (.int .i64 s2) := (blk_cell HK3.out 3).trans rfl; have y4 : w1.cell? ⟨w.heap.size + 1, 4, none⟩ = some (.slice B2 l2.length d2) := (blk_cell HK3.out 4).trans rfl; have y5 : w1.cell? ⟨w.heap.size + 1, 5, none⟩ = some (.int .i64 E2) := (blk_cell HK3.out 5).trans rfl))
  go_ret
  exact ⟨rfl, HB2.out⟩

/-! ### The law -/
set_option maxRecDepth 100000 in
set_option maxHeartbeats 4000000 in
theorem law2_calls (s E : Int) (l : List Int) (s2 E2 : Int) (l2 : List Int) (h1 : l.length ≤ 9223372036854775807) (h2 : l2.length ≤ 9223372036854775807) (A : Option Addr) (c : Nat) (B : Option Addr) (d : Nat) (w : World) (hC : Kd.C (Kd.int .i64) w A l.length l) (hc : l.length ≤ c) (hD : Kd.C (Kd.int .i64) w B l2.length l2) (hd : l2.length ≤ d) :
    Calls Tryd.prog 5 #[.agg #[.int .i64 s, .slice A l.length c, .int .i64 E, .int .i64 s2, .slice B l2.length d, .int .i64 E2]] w fun e w' => e = .returned (.bool true) ∧ Below w.heap.size w w' := by
  have HC := Lib.hid hC
  have HL := Lib.hid hc
  have HD := Lib.hid hD
  have HM := Lib.hid hd
  have HB := Lib.hid (below_alloc (Below.refl w.heap.size w) (.cells #[.int .i64 s, .slice A l.length c, .int .i64 E, .int .i64 s2, .slice B l2.length d, .int .i64 E2] 42))
  have HK := Lib.hid (blk_new w (.cells #[.int .i64 s, .slice A l.length c, .int .i64 E, .int .i64 s2, .slice B l2.length d, .int .i64 E2] 42))
  clear hC hc hD hd
  have HSZ := Lib.hid (sz_calls s E l s2 E2 l2 h1 h2 A c B d _ (Kd.C_alloc HC.out (.cells #[.int .i64 s, .slice A l.length c, .int .i64 E, .int .i64 s2, .slice B l2.length d, .int .i64 E2] 42)) HL.out (Kd.C_alloc HD.out (.cells #[.int .i64 s, .slice A l.length c, .int .i64 E, .int .i64 s2, .slice B l2.length d, .int .i64 E2] 42)) HM.out)
  clear h1 h2
  go_enter Tryd.func5, Tryd.ntmps5
  go_upto_region 3 with (first | (go_at_call 14; refine HSZ.out.mono ?_; rintro e w1 ⟨r, rfl, hor, hB1⟩; have HOR := Lib.hid hor; have HK1 := Lib.hid (blk_below HK.out hB1); have HB1 := Lib.hid (HB.out.trans (hB1.mono HB.out.size)); clear hB1 hor))
  rcases HOR.out with rfl | ⟨hr, hl, hl2⟩
  · go_wp2_with fail
    go_ret
    exact ⟨rfl, HB1.out⟩
  · obtain ⟨re, im, co, hs, hi⟩ := both2 s E l hl s2 E2 l2 hl2
    have HS := Lib.hid hs
    have HI := Lib.hid hi
    clear hs hi HSZ HOR
    have x0 : w1.cell? ⟨w.heap.size, 0, none⟩ = some (.int .i64 s) := (blk_cell HK1.out 0).trans rfl; have x1 : w1.cell? ⟨w.heap.size, 1, none⟩ = some (.slice A l.length c) := (blk_cell HK1.out 1).trans rfl; have x2 : w1.cell? ⟨w.heap.size, 2, none⟩ = some (.int .i64 E) := (blk_cell HK1.out 2).trans rfl; have x3 : w1.cell? ⟨w.heap.size, 3, none⟩ = some (.int .i64 s2) := (blk_cell HK1.out 3).trans rfl; have x4 : w1.cell? ⟨w.heap.size, 4, none⟩ = some (.slice B l2.length d) := (blk_cell HK1.out 4).trans rfl; have x5 : w1.cell? ⟨w.heap.size, 5, none⟩ = some (.int .i64 E2) := (blk_cell HK1.out 5).trans rfl
    go_upto_region 6 with (first | (go_at_call 16; refine (to2_calls s E l hl s2 E2 l2 hl2 A c B d _ (Kd.C_below HC.out HB1.out) HL.out (Kd.C_below HD.out HB1.out) HM.out).mono ?_; rintro e w2 ⟨A2, c2, B2, d2, rfl, hA2, hc2, hB2, hd2, hw2⟩; have HA2 := Lib.hid hA2; have HC2 := Lib.hid hc2; have HBB2 := Lib.hid hB2; have HD2 := Lib.hid hd2; have HK2 := Lib.hid (blk_below HK1.out hw2); have HB2 := Lib.hid (HB1.out.trans (hw2.mono HB1.out.size)); clear hA2 hc2 hB2 hd2 hw2) | (go_at_call 15; refine (HS.out A2 c2 B2 d2 _ HA2.out HC2.out HBB2.out HD2.out).mono ?_; rintro e w3 ⟨rfl, hw3⟩; have HK3 := Lib.hid (blk_below HK2.out hw3); have HB3 := Lib.hid (HB2.out.trans (hw3.mono HB2.out.size)); clear hw3))
    clear x0 x1 x2 x3 x4 x5
    have x0 : w3.cell? ⟨w.heap.size, 0, none⟩ = some (.int .i64 s) := (blk_cell HK3.out 0).trans rfl; have x1 : w3.cell? ⟨w.heap.size, 1, none⟩ = some (.slice A l.length c) := (blk_cell HK3.out 1).trans rfl; have x2 : w3.cell? ⟨w.heap.size, 2, none⟩ = some (.int .i64 E) := (blk_cell HK3.out 2).trans rfl; have x3 : w3.cell? ⟨w.heap.size, 3, none⟩ = some (.int .i64 s2) := (blk_cell HK3.out 3).trans rfl; have x4 : w3.cell? ⟨w.heap.size, 4, none⟩ = some (.slice B l2.length d) := (blk_cell HK3.out 4).trans rfl; have x5 : w3.cell? ⟨w.heap.size, 5, none⟩ = some (.int .i64 E2) := (blk_cell HK3.out 5).trans rfl
    go_upto_region 7 with (first | (go_at_call 16; refine (to2_calls s E l hl s2 E2 l2 hl2 A c B d _ (Kd.C_below HC.out HB3.out) HL.out (Kd.C_below HD.out HB3.out) HM.out).mono ?_; rintro e w4 ⟨A4, c4, B4, d4, rfl, hA4, hc4, hB4, hd4, hw4⟩; have HA4 := Lib.hid hA4; have HC4 := Lib.hid hc4; have HBB4 := Lib.hid hB4; have HD4 := Lib.hid hd4; have HK4 := Lib.hid (blk_below HK3.out hw4); have HB4 := Lib.hid (HB3.out.trans (hw4.mono HB3.out.size)); clear hA4 hc4 hB4 hd4 hw4))
    have HA5 := Lib.hid (Kd.C_alloc HA4.out (.cells #[.int .i64 s, .slice A4 l.length c4, .int .i64 E, .int .i64 s2, .slice B4 l2.length d4, .int .i64 E2] 48))
    have HBB5 := Lib.hid (Kd.C_alloc HBB4.out (.cells #[.int .i64 s, .slice A4 l.length c4, .int .i64 E, .int .i64 s2, .slice B4 l2.length d4, .int .i64 E2] 48))
    have HX5 := Lib.hid (blk_new w4 (.cells #[.int .i64 s, .slice A4 l.length c4, .int .i64 E, .int .i64 s2, .slice B4 l2.length d4, .int .i64 E2] 48))
    have HK5 := Lib.hid (blk_alloc HK4.out (.cells #[.int .i64 s, .slice A4 l.length c4, .int .i64 E, .int .i64 s2, .slice B4 l2.length d4, .int .i64 E2] 48))
    have HB5 := Lib.hid (HB4.out.alloc HB4.out.size (.cells #[.int .i64 s, .slice A4 l.length c4, .int .i64 E, .int .i64 s2, .slice B4 l2.length d4, .int .i64 E2] 48))
    obtain ⟨b, hb⟩ : ∃ b, b = w4.heap.size := ⟨_, rfl⟩
    rw [← hb] at HX5 ⊢
    clear HA4 HBB4 HB4 HK4 HA2 HC2 HBB2 HD2 HB2 HK2 HB3 HK3 hb x0 x1 x2 x3 x4 x5 HB1 HK1
    generalize w4.alloc (.cells #[.int .i64 s, .slice A4 l.length c4, .int .i64 E, .int .i64 s2, .slice B4 l2.length d4, .int .i64 E2] 48) = W5 at *
    have x0 : W5.cell? ⟨b, 0, none⟩ = some (.int .i64 s) := (blk_cell HX5.out 0).trans rfl; have x1 : W5.cell? ⟨b, 1, none⟩ = some (.slice A4 l.length c4) := (blk_cell HX5.out 1).trans rfl; have x2 : W5.cell? ⟨b, 2, none⟩ = some (.int .i64 E) := (blk_cell HX5.out 2).trans rfl; have x3 : W5.cell? ⟨b, 3, none⟩ = some (.int .i64 s2) := (blk_cell HX5.out 3).trans rfl; have x4 : W5.cell? ⟨b, 4, none⟩ = some (.slice B4 l2.length d4) := (blk_cell HX5.out 4).trans rfl; have x5 : W5.cell? ⟨b, 5, none⟩ = some (.int .i64 E2) := (blk_cell HX5.out 5).trans rfl
    go_upto_region 10 with (first | (go_at_call 17; refine (HI.out A4 c4 B4 d4 _ HA5.out HC4.out HBB5.out HD4.out).mono ?_; rintro e w6 ⟨rfl, hB6⟩; have HB6 := Lib.hid (HB5.out.trans (hB6.mono HB5.out.size)); have HK6 := Lib.hid (blk_below HK5.out hB6); have HX6 := Lib.hid (blk_below HX5.out hB6); have HA6 := Lib.hid (Kd.C_below HA5.out hB6); have HBB6 := Lib.hid (Kd.C_below HBB5.out hB6); clear hB6 x0 x1 x2 x3 x4 x5) | (go_at_call 18; refine (same2_calls re im _).mono ?_; rintro e w7 ⟨rfl, rfl⟩))
    have x0 : w6.cell? ⟨b, 0, none⟩ = some (.int .i64 s) := (blk_cell HX6.out 0).trans rfl; have x1 : w6.cell? ⟨b, 1, none⟩ = some (.slice A4 l.length c4) := (blk_cell HX6.out 1).trans rfl; have x2 : w6.cell? ⟨b, 2, none⟩ = some (.int .i64 E) := (blk_cell HX6.out 2).trans rfl; have x3 : w6.cell? ⟨b, 3, none⟩ = some (.int .i64 s2) := (blk_cell HX6.out 3).trans rfl; have x4 : w6.cell? ⟨b, 4, none⟩ = some (.slice B4 l2.length d4) := (blk_cell HX6.out 4).trans rfl; have x5 : w6.cell? ⟨b, 5, none⟩ = some (.int .i64 E2) := (blk_cell HX6.out 5).trans rfl
    have m0 : w6.cell? ⟨w.heap.size, 0, none⟩ = some (.int .i64 s) := (blk_cell HK6.out 0).trans rfl; have m1 : w6.cell? ⟨w.heap.size, 1, none⟩ = some (.slice A l.length c) := (blk_cell HK6.out 1).trans rfl; have m2 : w6.cell? ⟨w.heap.size, 2, none⟩ = some (.int .i64 E) := (blk_cell HK6.out 2).trans rfl; have m3 : w6.cell? ⟨w.heap.size, 3, none⟩ = some (.int .i64 s2) := (blk_cell HK6.out 3).trans rfl; have m4 : w6.cell? ⟨w.heap.size, 4, none⟩ = some (.slice B l2.length d) := (blk_cell HK6.out 4).trans rfl; have m5 : w6.cell? ⟨w.heap.size, 5, none⟩ = some (.int .i64 E2) := (blk_cell HK6.out 5).trans rfl
    have hlx := blk_lt HX6.out
    have hlk := blk_lt HK6.out
    go_region_held3 (fun w' => w'.cell? ⟨b, 0, none⟩ = some (.int .i64 s) ∧ w'.cell? ⟨b, 1, none⟩ = some (.slice A4 l.length c4) ∧ w'.cell? ⟨b, 2, none⟩ = some (.int .i64 E) ∧ w'.cell? ⟨b, 3, none⟩ = some (.int .i64 s2) ∧ w'.cell? ⟨b, 4, none⟩ = some (.slice B4 l2.length d4) ∧ w'.cell? ⟨b, 5, none⟩ = some (.int .i64 E2) ∧ w'.cell? ⟨w.heap.size, 0, none⟩ = some (.int .i64 s) ∧ w'.cell? ⟨w.heap.size, 1, none⟩ = some (.slice A l.length c) ∧ w'.cell? ⟨w.heap.size, 2, none⟩ = some (.int .i64 E) ∧ w'.cell? ⟨w.heap.size, 3, none⟩ = some (.int .i64 s2) ∧ w'.cell? ⟨w.heap.size, 4, none⟩ = some (.slice B l2.length d) ∧ w'.cell? ⟨w.heap.size, 5, none⟩ = some (.int .i64 E2)) (go_keep) (first | (go_at_call 16; refine (to2_calls s E l hl s2 E2 l2 hl2 A c B d _ (Kd.C_below HC.out HB6.out.drew) HL.out (Kd.C_below HD.out HB6.out.drew) HM.out).mono ?_; rintro e w8 ⟨A8, c8, B8, d8, rfl, hA8, hc8, hD8, hd8, hB8⟩; have HA8 := Lib.hid hA8; have HC8 := Lib.hid hc8; have HBB8 := Lib.hid hD8; have HD8 := Lib.hid hd8; have HB8 := Lib.hid (show Below w6.heap.size w6 w8 from (Below.refl w6.heap.size w6).drew.trans hB8); clear hA8 hc8 hD8 hd8 hB8; have y0 := (HB8.out.cell (p := ⟨b, 0, none⟩) hlx).trans x0; have y1 := (HB8.out.cell (p := ⟨b, 1, none⟩) hlx).trans x1; have y2 := (HB8.out.cell (p := ⟨b, 2, none⟩) hlx).trans x2; have y3 := (HB8.out.cell (p := ⟨b, 3, none⟩) hlx).trans x3; have y4 := (HB8.out.cell (p := ⟨b, 4, none⟩) hlx).trans x4; have y5 := (HB8.out.cell (p := ⟨b, 5, none⟩) hlx).trans x5; have z0 := (HB8.out.cell (p := ⟨w.heap.size, 0, none⟩) hlk).trans m0; have z1 := (HB8.out.cell (p := ⟨w.heap.size, 1, none⟩) hlk).trans m1; have z2 := (HB8.out.cell (p := ⟨w.heap.size, 2, none⟩) hlk).trans m2; have z3 := (HB8.out.cell (p := ⟨w.heap.size, 3, none⟩) hlk).trans m3; have z4 := (HB8.out.cell (p := ⟨w.heap.size, 4, none⟩) hlk).trans m4; have z5 := (HB8.out.cell (p := ⟨w.heap.size, 5, none⟩) hlk).trans m5) | (go_at_call 19; refine (eq2_calls s E l hl s2 E2 l2 hl2 A8 c8 B8 d8 A4 c4 B4 d4 _ (Kd.C_below HA6.out HB8.out) HC4.out (Kd.C_below HBB6.out HB8.out) HD4.out HA8.out HC8.out HBB8.out HD8.out).mono ?_; rintro e w9 ⟨rfl, hB9⟩; have HB9 := Lib.hid (HB8.out.trans (hB9.mono HB8.out.size)); clear hB9; have u0 := (HB9.out.cell (p := ⟨b, 0, none⟩) hlx).trans x0; have u1 := (HB9.out.cell (p := ⟨b, 1, none⟩) hlx).trans x1; have u2 := (HB9.out.cell (p := ⟨b, 2, none⟩) hlx).trans x2; have u3 := (HB9.out.cell (p := ⟨b, 3, none⟩) hlx).trans x3; have u4 := (HB9.out.cell (p := ⟨b, 4, none⟩) hlx).trans x4; have u5 := (HB9.out.cell (p := ⟨b, 5, none⟩) hlx).trans x5; have v0 := (HB9.out.cell (p := ⟨w.heap.size, 0, none⟩) hlk).trans m0; have v1 := (HB9.out.cell (p := ⟨w.heap.size, 1, none⟩) hlk).trans m1; have v2 := (HB9.out.cell (p := ⟨w.heap.size, 2, none⟩) hlk).trans m2; have v3 := (HB9.out.cell (p := ⟨w.heap.size, 3, none⟩) hlk).trans m3; have v4 := (HB9.out.cell (p := ⟨w.heap.size, 4, none⟩) hlk).trans m4; have v5 := (HB9.out.cell (p := ⟨w.heap.size, 5, none⟩) hlk).trans m5))
    go_wp2_with fail
    go_ret
    exact ⟨rfl, HB6.out.trans (HB9.out.mono HB6.out.size)⟩
end Go.Proofs.YtmedcpdjhgconaaDoor
