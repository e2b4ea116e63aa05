/- The root of a whole number, as the reference takes it: the function of numbers and lists that spec.l02Root computes, and that Go comes to its answer. Printed by the kit's print.sh; the test of a round was moved behind the region by hand. No condition. -/
import Derived.Test.YtmedcpdjhgconaaPFnExactRootOfFloatx0
import Derived.Test.YtmedcpdjhgconaaPFnExactRootOfFloatx1
import Derived.Test.YtmedcpdjhgconaaPFnExactRootOfFloatx2
import Derived.Test.YtmedcpdjhgconaaPFnExactRootOfFloatx3
namespace Go.Proofs.Ytmedcpdjhgconaa.PFnExactRootOfFloat
open Go.RowKit Go.Proofs.YtmedcpdjhgconaaW.PrintWords Go.Proofs.YtmedcpdjhgconaaW.PrintLast Go.Proofs.YtmedcpdjhgconaaW.PrintMore
attribute [local go_sem] max2_int min2_int max_two min_two max_three min_three max_four min_four   -- for this text's walks alone
set_option linter.unusedVariables false
set_option linter.unusedSimpArgs false

/-! ### spec_l02Root: function 19 -/
def spec_l02Root.l0 : Nat → Int → Int → List Int → Int → List Int → Int → List Int → Int → List Int → Option (Int × List Int)
  | 0, _, _, _, _, _, _, _, _, _ => none
  | k + 1, x6, x225000, x225001, x231000, x231001, x232000, x232001, x233000, x233001 => if x6 ≥ 0 then ((spec_l02Left.f k x231000 x231001 (wrap64 (x6 + 1))).bind fun bt234 => ((spec_l02Add.f k x232000 x232001 bt234.1 bt234.2).bind fun bt238 => ((spec_l02Left.f k x233000 x233001 (wrap64 (2 * x6))).bind fun bt242 => ((spec_l02Add.f k bt238.1 bt238.2 bt242.1 bt242.2).bind fun bt246 => ((spec_l02Compare.f k bt246.1 bt246.2 x225000 x225001).bind fun t251 => (if t251 ≤ 0 then ((spec_l02Left.f k x233000 x233001 x6).bind fun bt252 => ((spec_l02Add.f k x231000 x231001 bt252.1 bt252.2).bind fun bt256 => (spec_l02Root.l0 k (wrap64 (x6 - 1)) x225000 x225001 bt256.1 bt256.2 bt246.1 bt246.2 x233000 x233001))) else (spec_l02Root.l0 k (wrap64 (x6 - 1)) x225000 x225001 x231000 x231001 x232000 x232001 x233000 x233001))))))) else (some (x231000, x231001))
def spec_l02Root.f (k : Nat) (a0_0 : Int) (l0_1 : List Int) : Option (Int × List Int) := (spec_l02Of.f k 1).bind fun bt226 => ((spec_l02Length.f k a0_0 l0_1).bind fun t233 => (spec_l02Root.l0 k (wrap64 (Int.tdiv (wrap64 (t233 + 1)) 2)) a0_0 l0_1 0 ([] : List Int) 0 ([] : List Int) bt226.1 bt226.2))
theorem spec_l02Root.mono_l : ∀ k, (∀ y0 y1 y2 y3 y4 y5 y6 y7 y8, LeO (spec_l02Root.l0 k y0 y1 y2 y3 y4 y5 y6 y7 y8) (spec_l02Root.l0 (k + 1) y0 y1 y2 y3 y4 y5 y6 y7 y8))
  | 0 => fun _ _ _ _ _ _ _ _ _ r h => by simp [spec_l02Root.l0] at h
  | k + 1 => by
    have ih0 := spec_l02Root.mono_l k
    · intro y0 y1 y2 y3 y4 y5 y6 y7 y8
      unfold spec_l02Root.l0
      repeat' first
      | (with_reducible exact ih0 _ _ _ _ _ _ _ _ _)
      | (with_reducible exact spec_l02Add.mono _ _ _ _ _)
      | (with_reducible exact spec_l02Compare.mono _ _ _ _ _)
      | (with_reducible exact spec_l02Left.mono _ _ _ _)
      | (with_reducible exact spec_l02Length.mono _ _ _)
      | (with_reducible exact spec_l02Of.mono _ _)
      | (with_reducible exact LeO.refl _)
      | (with_reducible exact LeO.none _)
      | (with_reducible refine LeO.ite ?_ ?_)
      | (with_reducible refine LeO.bind ?_ (fun _ => ?_))
      | exact ih0 _ _ _ _ _ _ _ _ _
      | exact spec_l02Add.mono _ _ _ _ _
      | exact spec_l02Compare.mono _ _ _ _ _
      | exact spec_l02Left.mono _ _ _ _
      | exact spec_l02Length.mono _ _ _
      | exact spec_l02Of.mono _ _
      | exact LeO.none _
      | refine LeO.ite ?_ ?_
      | refine LeO.bind ?_ (fun _ => ?_)
theorem spec_l02Root.mono : ∀ a0 a1 k, LeO (spec_l02Root.f k a0 a1) (spec_l02Root.f (k + 1) a0 a1) := by
  intro a0 a1 k
  have ih0 := spec_l02Root.mono_l k
  unfold spec_l02Root.f
  repeat' first
      | (with_reducible exact ih0 _ _ _ _ _ _ _ _ _)
      | (with_reducible exact spec_l02Add.mono _ _ _ _ _)
      | (with_reducible exact spec_l02Compare.mono _ _ _ _ _)
      | (with_reducible exact spec_l02Left.mono _ _ _ _)
      | (with_reducible exact spec_l02Length.mono _ _ _)
      | (with_reducible exact spec_l02Of.mono _ _)
      | (with_reducible exact LeO.refl _)
      | (with_reducible exact LeO.none _)
      | (with_reducible refine LeO.ite ?_ ?_)
      | (with_reducible refine LeO.bind ?_ (fun _ => ?_))
      | exact ih0 _ _ _ _ _ _ _ _ _
      | exact spec_l02Add.mono _ _ _ _ _
      | exact spec_l02Compare.mono _ _ _ _ _
      | exact spec_l02Left.mono _ _ _ _
      | exact spec_l02Length.mono _ _ _
      | exact spec_l02Of.mono _ _
      | exact LeO.none _
      | refine LeO.ite ?_ ?_
      | refine LeO.bind ?_ (fun _ => ?_)
def spec_l02Root.T5 : Bool × List (List Nat × List Nat) := (true, [([], []), ([], []), ([], []), ([2], [2]), ([1, 3], [1, 3]), ([0, 4, 4], [0, 4]), ([], []), ([], []), ([7], [7]), ([6, 8, 5], [6, 8]), ([5, 9, 9], [5, 9]), ([], []), ([11, 10, 10, 0, 1, 2, 3, 4, 5, 6, 7, 8, 9, 10, 11], [10, 11])])
def spec_l02Root.B5 : List Nat := [0, 0, 0, 4, 14, 31, 0, 0, 128, 511, 1023, 0, 4095]
theorem spec_l02Root.tab5 : rtab .any (opsOf Try.f19 5) = spec_l02Root.T5 := by kernel_rfl
theorem spec_l02Root.bits5 : waitsOk spec_l02Root.T5.2 spec_l02Root.B5 = true := by kernel_rfl
set_option maxHeartbeats 8000000 in
set_option maxRecDepth 100000 in
theorem spec_l02Root.calls (k : Nat) (a0_0 : Int) (A0_1 : Option Addr) (c0_1 : Nat) (l0_1 : List Int) (r1 : Int) (r2 : List Int) (w : World) (hr0_1 : Kd.C (Kd.int .i64) w A0_1 l0_1.length l0_1) (hc0_1 : l0_1.length ≤ c0_1) (h : spec_l02Root.f k a0_0 l0_1 = some (r1, r2)) :
    Calls Try.prog 19 #[.agg #[.int .i64 a0_0, .slice A0_1 l0_1.length c0_1]] w fun e w' => ∃ v1_ : Value, e = .returned (.agg #[.int .i64 r1, v1_]) ∧ Kd.R (Kd.int .i64) 2 w' w.heap.size (fun _ => True) v1_ r2 ∧ Below w.heap.size w w' := by
  have hu36 := Try.underlying36
  have HR0_1 := Aside0.mk hr0_1
  have HC0_1 := Aside0.mk hc0_1
  clear hr0_1 hc0_1
  have HB := Aside0.mk (Below.refl w.heap.size w)
  have H : ((spec_l02Of.f k 1).bind fun bt226 => ((spec_l02Length.f k a0_0 l0_1).bind fun t233 => (spec_l02Root.l0 k (wrap64 (Int.tdiv (wrap64 (t233 + 1)) 2)) a0_0 l0_1 0 ([] : List Int) 0 ([] : List Int) bt226.1 bt226.2))) = some (r1, r2) := h
  clear h
  replace H := Option.bind_eq_some_iff.mp H
  obtain ⟨⟨t226, t227⟩, A20, H⟩ := H
  replace H : ((spec_l02Length.f k a0_0 l0_1).bind fun t233 => (spec_l02Root.l0 k (wrap64 (Int.tdiv (wrap64 (t233 + 1)) 2)) a0_0 l0_1 0 ([] : List Int) 0 ([] : List Int) t226 t227)) = some (r1, r2) := H
  have A2 := Aside0.mk A20
  clear A20
  replace H := Option.bind_eq_some_iff.mp H
  obtain ⟨t233, A30, H⟩ := H
  replace H : (spec_l02Root.l0 k (wrap64 (Int.tdiv (wrap64 (t233 + 1)) 2)) a0_0 l0_1 0 ([] : List Int) 0 ([] : List Int) t226 t227) = some (r1, r2) := H
  have A3 := Aside0.mk A30
  clear A30
  have H' := Aside0.mk H
  clear H
  go_enter Try.func19, Try.ntmps19
  go_wp2_with (first | ((with_reducible refine gate_dst (N := 1) rfl ?_); refine box_event ?hg (N := 1) ?hd (cs := #[.int .i64 a0_0, .slice A0_1 l0_1.length c0_1]) (t := 36) ?hr ?_; (case hd => rfl); (case hg => rfl); (case hr => first | (go_simp; done) | (go_simp; rfl)); intro Bq hg w4 hbox hb; have n0_ := Aside0.mk (below_step (by repeat (first | (with_reducible first | exact HB.out | apply below_alloc | apply pw_below_drewN | apply below_drew1) | exact HB.out)) hb); have n1_ := Aside0.mk (hbox); have n2_ := Aside0.mk ((by rw [hg]; exact (below_size (by repeat (first | (with_reducible first | exact HB.out | apply below_alloc | apply pw_below_drewN | apply below_drew1) | exact HB.out))) : w.heap.size ≤ Bq)); have n3_ := Aside0.mk ((by rw [hg]; exact (below_size (by repeat (first | (with_reducible first | exact HB.out | apply below_alloc | apply pw_below_drewN | apply below_drew1) | exact HB.out))) : w.heap.size ≤ Bq)); clear HB; have HB := n0_; have Bn := n1_; have GW224 := n2_; have GE224 := n3_; clear n0_ n1_ n2_ n3_; clear hb hbox hg) | ((with_reducible refine gate_dst (N := 2) rfl ?_); refine box_event ?hg (N := 2) ?hd (cs := #[.int .i64 0, .slice none 0 0]) (t := 36) ?hr ?_; (case hd => rfl); (case hg => rfl); (case hr => first | (go_simp; done) | (go_simp; rfl)); intro Br hg w5 hbox hb; have n0_ := Aside0.mk (blk_below (g := Bq) (o := .cells #[.int .i64 a0_0, .slice A0_1 l0_1.length c0_1] 36 (0, 0)) Bn.out hb); have n1_ := Aside0.mk (below_step (by repeat (first | (with_reducible first | exact HB.out | apply below_alloc | apply pw_below_drewN | apply below_drew1 | refine below_set ?_ GE224.out) | exact HB.out)) hb); have n2_ := Aside0.mk (hbox); have n3_ := Aside0.mk ((by rw [hg]; exact (below_size (by repeat (first | (with_reducible first | exact HB.out | apply below_alloc | apply pw_below_drewN | apply below_drew1 | refine below_set ?_ GE224.out) | exact HB.out))) : w.heap.size ≤ Br)); have n4_ := Aside0.mk ((by rw [hg]; exact (below_size (by repeat (first | (with_reducible first | exact HB.out | apply below_alloc | apply pw_below_drewN | apply below_drew1 | refine below_set ?_ GE224.out) | exact HB.out))) : w.heap.size ≤ Br)); have n5_ := Aside0.mk ((by rw [hg]; exact Nat.ne_of_lt (blk_lt (g := Bq) (o := .cells #[.int .i64 a0_0, .slice A0_1 l0_1.length c0_1] 36 (0, 0)) Bn.out) : Bq ≠ Br)); have n6_ := Aside0.mk ((by rw [hg]; exact Nat.ne_of_gt (blk_lt (g := Bq) (o := .cells #[.int .i64 a0_0, .slice A0_1 l0_1.length c0_1] 36 (0, 0)) Bn.out) : Br ≠ Bq)); clear Bn; clear HB; have Bn := n0_; have HB := n1_; have Bo := n2_; have GW225 := n3_; have GE225 := n4_; have Cy := n5_; have Cz := n6_; clear n0_ n1_ n2_ n3_ n4_ n5_ n6_; clear hb hbox hg) | ((with_reducible refine gate_callee (f := 23) rfl ?_); refine goesL_ (some 10) rfl rfl Try.func23 (by kernel_rfl) rfl #[.int .i64 1] rfl (by (try simp only [List.map_toArray, List.map_cons, List.map_nil]); first | done | rfl | (simp only [List.length_drop, List.length_take]; rfl)) ?_; (with_reducible refine (spec_l02Of.calls k 1 t226 t227 _ A2.out).mono ?_); rintro e w6 ⟨v228, rfl, ho0, hb⟩; refine ⟨_, rfl, ?_⟩; have n0_ := Aside0.mk (Kd.R_lower ho0 (below_size (by repeat (first | (with_reducible first | exact HB.out | apply below_alloc | apply pw_below_drewN | apply below_drew1 | refine below_set ?_ GE224.out | refine below_set ?_ GE225.out) | exact HB.out)))); have n1_ := Aside0.mk (blk_below (g := Bq) (o := .cells #[.int .i64 a0_0, .slice A0_1 l0_1.length c0_1] 36 (0, 0)) Bn.out hb); have n2_ := Aside0.mk (blk_below (g := Br) (o := .cells #[.int .i64 0, .slice none 0 0] 36 (0, 0)) Bo.out hb); have n3_ := Aside0.mk (below_step (by repeat (first | (with_reducible first | exact HB.out | apply below_alloc | apply pw_below_drewN | apply below_drew1 | refine below_set ?_ GE224.out | refine below_set ?_ GE225.out) | exact HB.out)) hb); clear Bn; clear Bo; clear HB; have Cn := n0_; have Bn := n1_; have Bo := n2_; have HB := n3_; clear n0_ n1_ n2_ n3_; (try clear hb); (try clear hb2); (try clear hk); (try clear hi); (try clear ho0)) | ((with_reducible refine gate_dst (N := 3) rfl ?_); refine box_event ?hg (N := 3) ?hd (cs := #[.int .i64 0, .slice none 0 0]) (t := 36) ?hr ?_; (case hd => rfl); (case hg => rfl); (case hr => first | (go_simp; done) | (go_simp; rfl)); intro Bj hg w7 hbox hb; have n0_ := Aside0.mk (Kd.R_below Cn.out hb); have n1_ := Aside0.mk (blk_below (g := Bq) (o := .cells #[.int .i64 a0_0, .slice A0_1 l0_1.length c0_1] 36 (0, 0)) Bn.out hb); have n2_ := Aside0.mk (blk_below (g := Br) (o := .cells #[.int .i64 0, .slice none 0 0] 36 (0, 0)) Bo.out hb); have n3_ := Aside0.mk (below_step (by repeat (first | (with_reducible first | exact HB.out | apply below_alloc | apply pw_below_drewN | apply below_drew1 | refine below_set ?_ GE224.out | refine below_set ?_ GE225.out) | exact HB.out)) hb); have n4_ := Aside0.mk (hbox); have n5_ := Aside0.mk ((by rw [hg]; exact (below_size (by repeat (first | (with_reducible first | exact HB.out | apply below_alloc | apply pw_below_drewN | apply below_drew1 | refine below_set ?_ GE224.out | refine below_set ?_ GE225.out) | exact HB.out))) : w.heap.size ≤ Bj)); have n6_ := Aside0.mk ((by rw [hg]; exact (below_size (by repeat (first | (with_reducible first | exact HB.out | apply below_alloc | apply pw_below_drewN | apply below_drew1 | refine below_set ?_ GE224.out | refine below_set ?_ GE225.out) | exact HB.out))) : w.heap.size ≤ Bj)); have n7_ := Aside0.mk ((by rw [hg]; exact Nat.ne_of_lt (blk_lt (g := Bq) (o := .cells #[.int .i64 a0_0, .slice A0_1 l0_1.length c0_1] 36 (0, 0)) Bn.out) : Bq ≠ Bj)); have n8_ := Aside0.mk ((by rw [hg]; exact Nat.ne_of_gt (blk_lt (g := Bq) (o := .cells #[.int .i64 a0_0, .slice A0_1 l0_1.length c0_1] 36 (0, 0)) Bn.out) : Bj ≠ Bq)); have n9_ := Aside0.mk ((by rw [hg]; exact Nat.ne_of_lt (blk_lt (g := Br) (o := .cells #[.int .i64 0, .slice none 0 0] 36 (0, 0)) Bo.out) : Br ≠ Bj)); have n10_ := Aside0.mk ((by rw [hg]; exact Nat.ne_of_gt (blk_lt (g := Br) (o := .cells #[.int .i64 0, .slice none 0 0] 36 (0, 0)) Bo.out) : Bj ≠ Br)); clear Cn; clear Bn; clear Bo; clear HB; have Cn := n0_; have Bn := n1_; have Bo := n2_; have HB := n3_; have Bg := n4_; have GW230 := n5_; have GE230 := n6_; have Ci := n7_; have Cs := n8_; have Cl := n9_; have Ct := n10_; clear n0_ n1_ n2_ n3_ n4_ n5_ n6_ n7_ n8_ n9_ n10_; clear hb hbox hg) | ((with_reducible refine gate_dst (N := 4) rfl ?_); refine box_event ?hg (N := 4) ?hd (cs := #[.int .i64 0, .slice none 0 0]) (t := 36) ?hr ?_; (case hd => rfl); (case hg => rfl); (case hr => first | (go_simp; done) | (go_simp; rfl)); intro Bm hg w8 hbox hb; have n0_ := Aside0.mk (Kd.R_below Cn.out hb); have n1_ := Aside0.mk (blk_below (g := Bq) (o := .cells #[.int .i64 a0_0, .slice A0_1 l0_1.length c0_1] 36 (0, 0)) Bn.out hb); have n2_ := Aside0.mk (blk_below (g := Br) (o := .cells #[.int .i64 0, .slice none 0 0] 36 (0, 0)) Bo.out hb); have n3_ := Aside0.mk (blk_below (g := Bj) (o := .cells #[.int .i64 0, .slice none 0 0] 36 (0, 0)) Bg.out hb); have n4_ := Aside0.mk (below_step (by repeat (first | (with_reducible first | exact HB.out | apply below_alloc | apply pw_below_drewN | apply below_drew1 | refine below_set ?_ GE224.out | refine below_set ?_ GE225.out | refine below_set ?_ GE230.out) | exact HB.out)) hb); have n5_ := Aside0.mk (hbox); have n6_ := Aside0.mk ((by rw [hg]; exact (below_size (by repeat (first | (with_reducible first | exact HB.out | apply below_alloc | apply pw_below_drewN | apply below_drew1 | refine below_set ?_ GE224.out | refine below_set ?_ GE225.out | refine below_set ?_ GE230.out) | exact HB.out))) : w.heap.size ≤ Bm)); have n7_ := Aside0.mk ((by rw [hg]; exact (below_size (by repeat (first | (with_reducible first | exact HB.out | apply below_alloc | apply pw_below_drewN | apply below_drew1 | refine below_set ?_ GE224.out | refine below_set ?_ GE225.out | refine below_set ?_ GE230.out) | exact HB.out))) : w.heap.size ≤ Bm)); have n8_ := Aside0.mk ((by rw [hg]; exact Nat.ne_of_lt (blk_lt (g := Bq) (o := .cells #[.int .i64 a0_0, .slice A0_1 l0_1.length c0_1] 36 (0, 0)) Bn.out) : Bq ≠ Bm)); have n9_ := Aside0.mk ((by rw [hg]; exact Nat.ne_of_gt (blk_lt (g := Bq) (o := .cells #[.int .i64 a0_0, .slice A0_1 l0_1.length c0_1] 36 (0, 0)) Bn.out) : Bm ≠ Bq)); have n10_ := Aside0.mk ((by rw [hg]; exact Nat.ne_of_lt (blk_lt (g := Br) (o := .cells #[.int .i64 0, .slice none 0 0] 36 (0, 0)) Bo.out) : Br ≠ Bm)); have n11_ := Aside0.mk ((by rw [hg]; exact Nat.ne_of_gt (blk_lt (g := Br) (o := .cells #[.int .i64 0, .slice none 0 0] 36 (0, 0)) Bo.out) : Bm ≠ Br)); have n12_ := Aside0.mk ((by rw [hg]; exact Nat.ne_of_lt (blk_lt (g := Bj) (o := .cells #[.int .i64 0, .slice none 0 0] 36 (0, 0)) Bg.out) : Bj ≠ Bm)); have n13_ := Aside0.mk ((by rw [hg]; exact Nat.ne_of_gt (blk_lt (g := Bj) (o := .cells #[.int .i64 0, .slice none 0 0] 36 (0, 0)) Bg.out) : Bm ≠ Bj)); clear Cn; clear Bn; clear Bo; clear Bg; clear HB; have Cn := n0_; have Bn := n1_; have Bo := n2_; have Bg := n3_; have HB := n4_; have Bi := n5_; have GW231 := n6_; have GE231 := n7_; have Cp := n8_; have Db := n9_; have Co := n10_; have Da := n11_; have Cj := n12_; have Ck := n13_; clear n0_ n1_ n2_ n3_ n4_ n5_ n6_ n7_ n8_ n9_ n10_ n11_ n12_ n13_; clear hb hbox hg) | ((with_reducible refine gate_dst (N := 5) rfl ?_); refine box_event ?hg (N := 5) ?hd (cs := #[.int .i64 0, .slice none 0 0]) (t := 36) ?hr ?_; (case hd => rfl); (case hg => rfl); (case hr => first | (go_simp; done) | (go_simp; rfl)); intro Bp hg w9 hbox hb; have n0_ := Aside0.mk (Kd.R_below Cn.out hb); have n1_ := Aside0.mk (blk_below (g := Bq) (o := .cells #[.int .i64 a0_0, .slice A0_1 l0_1.length c0_1] 36 (0, 0)) Bn.out hb); have n2_ := Aside0.mk (blk_below (g := Br) (o := .cells #[.int .i64 0, .slice none 0 0] 36 (0, 0)) Bo.out hb); have n3_ := Aside0.mk (blk_below (g := Bj) (o := .cells #[.int .i64 0, .slice none 0 0] 36 (0, 0)) Bg.out hb); have n4_ := Aside0.mk (blk_below (g := Bm) (o := .cells #[.int .i64 0, .slice none 0 0] 36 (0, 0)) Bi.out hb); have n5_ := Aside0.mk (below_step (by repeat (first | (with_reducible first | exact HB.out | apply below_alloc | apply pw_below_drewN | apply below_drew1 | refine below_set ?_ GE224.out | refine below_set ?_ GE225.out | refine below_set ?_ GE230.out | refine below_set ?_ GE231.out) | exact HB.out)) hb); have n6_ := Aside0.mk (hbox); have n7_ := Aside0.mk ((by rw [hg]; exact (below_size (by repeat (first | (with_reducible first | exact HB.out | apply below_alloc | apply pw_below_drewN | apply below_drew1 | refine below_set ?_ GE224.out | refine below_set ?_ GE225.out | refine below_set ?_ GE230.out | refine below_set ?_ GE231.out) | exact HB.out))) : w.heap.size ≤ Bp)); have n8_ := Aside0.mk ((by rw [hg]; exact (below_size (by repeat (first | (with_reducible first | exact HB.out | apply below_alloc | apply pw_below_drewN | apply below_drew1 | refine below_set ?_ GE224.out | refine below_set ?_ GE225.out | refine below_set ?_ GE230.out | refine below_set ?_ GE231.out) | exact HB.out))) : w.heap.size ≤ Bp)); have n9_ := Aside0.mk ((by rw [hg]; exact Nat.ne_of_lt (blk_lt (g := Bq) (o := .cells #[.int .i64 a0_0, .slice A0_1 l0_1.length c0_1] 36 (0, 0)) Bn.out) : Bq ≠ Bp)); have n10_ := Aside0.mk ((by rw [hg]; exact Nat.ne_of_gt (blk_lt (g := Bq) (o := .cells #[.int .i64 a0_0, .slice A0_1 l0_1.length c0_1] 36 (0, 0)) Bn.out) : Bp ≠ Bq)); have n11_ := Aside0.mk ((by rw [hg]; exact Nat.ne_of_lt (blk_lt (g := Br) (o := .cells #[.int .i64 0, .slice none 0 0] 36 (0, 0)) Bo.out) : Br ≠ Bp)); have n12_ := Aside0.mk ((by rw [hg]; exact Nat.ne_of_gt (blk_lt (g := Br) (o := .cells #[.int .i64 0, .slice none 0 0] 36 (0, 0)) Bo.out) : Bp ≠ Br)); have n13_ := Aside0.mk ((by rw [hg]; exact Nat.ne_of_lt (blk_lt (g := Bj) (o := .cells #[.int .i64 0, .slice none 0 0] 36 (0, 0)) Bg.out) : Bj ≠ Bp)); have n14_ := Aside0.mk ((by rw [hg]; exact Nat.ne_of_gt (blk_lt (g := Bj) (o := .cells #[.int .i64 0, .slice none 0 0] 36 (0, 0)) Bg.out) : Bp ≠ Bj)); have n15_ := Aside0.mk ((by rw [hg]; exact Nat.ne_of_lt (blk_lt (g := Bm) (o := .cells #[.int .i64 0, .slice none 0 0] 36 (0, 0)) Bi.out) : Bm ≠ Bp)); have n16_ := Aside0.mk ((by rw [hg]; exact Nat.ne_of_gt (blk_lt (g := Bm) (o := .cells #[.int .i64 0, .slice none 0 0] 36 (0, 0)) Bi.out) : Bp ≠ Bm)); clear Cn; clear Bn; clear Bo; clear Bg; clear Bi; clear HB; have Cn := n0_; have Bn := n1_; have Bo := n2_; have Bg := n3_; have Bi := n4_; have HB := n5_; have Bk := n6_; have GW232 := n7_; have GE232 := n8_; have Cu := n9_; have Dc := n10_; have Cv := n11_; have Dd := n12_; have Cq := n13_; have Cm := n14_; have Cw := n15_; have Cr := n16_; clear n0_ n1_ n2_ n3_ n4_ n5_ n6_ n7_ n8_ n9_ n10_ n11_ n12_ n13_ n14_ n15_ n16_; clear hb hbox hg; have hnb10 := Cs.out; have hnc10 := Ci.out; have hnb11 := Ct.out; have hnc11 := Cl.out; have hnb12 := Cj.out; have hnc12 := Ck.out; have hnb13 := Cq.out; have hnc13 := Cm.out; have hcz14_0 : w9.cell? ⟨Bj, 0, none⟩ = some (.int .i64 0) := (blk_cell Bg.out 0).trans rfl; have hcz14_1 : w9.cell? ⟨Bj, 1, none⟩ = some (.slice none 0 0) := (blk_cell Bg.out 1).trans rfl; have hfz14_0 := blk_frozen Bg.out 0; have hfz14_1 := blk_frozen Bg.out 1; have hnb15 := Db.out; have hnc15 := Cp.out; have hnb16 := Da.out; have hnc16 := Co.out; have hnb17 := Cw.out; have hnc17 := Cr.out; have hcz18_0 : w9.cell? ⟨Bm, 0, none⟩ = some (.int .i64 0) := (blk_cell Bi.out 0).trans rfl; have hcz18_1 : w9.cell? ⟨Bm, 1, none⟩ = some (.slice none 0 0) := (blk_cell Bi.out 1).trans rfl; have hfz18_0 := blk_frozen Bi.out 0; have hfz18_1 := blk_frozen Bi.out 1; have hnb19 := Dc.out; have hnc19 := Cu.out; have hnb20 := Dd.out; have hnc20 := Cv.out; have hcz21_0 : w9.cell? ⟨Bp, 0, none⟩ = some (.int .i64 0) := (blk_cell Bk.out 0).trans rfl; have hcz21_1 : w9.cell? ⟨Bp, 1, none⟩ = some (.slice none 0 0) := (blk_cell Bk.out 1).trans rfl; have hfz21_0 := blk_frozen Bk.out 0; have hfz21_1 := blk_frozen Bk.out 1; obtain ⟨Ao22, co22, eo22⟩ := Kd.R_slice Cn.out; subst eo22; have hnb23 := Cy.out; have hnc23 := Cz.out; have hcz24_0 : w9.cell? ⟨Bq, 0, none⟩ = some (.int .i64 a0_0) := (blk_cell Bn.out 0).trans rfl; have hcz24_1 : w9.cell? ⟨Bq, 1, none⟩ = some (.slice A0_1 l0_1.length c0_1) := (blk_cell Bn.out 1).trans rfl; have hfz24_0 := blk_frozen Bn.out 0; have hfz24_1 := blk_frozen Bn.out 1) | ((with_reducible refine gate_callee (f := 17) rfl ?_); refine goesL_ (some 12) rfl rfl Try.func17 (by kernel_rfl) rfl #[.agg #[.int .i64 a0_0, .slice A0_1 l0_1.length c0_1]] rfl (by (try simp only [List.map_toArray, List.map_cons, List.map_nil]); first | done | rfl | (simp only [List.length_drop, List.length_take]; rfl)) ?_; (with_reducible refine (spec_l02Length.calls k a0_0 _ _ l0_1 t233 _ ?side1 ?side2 A3.out).mono ?_); (case side1 => exact Kd.C_below HR0_1.out (by repeat (first | (with_reducible first | exact HB.out | apply below_alloc | apply pw_below_drewN | apply below_drew1 | refine below_set ?_ GE224.out | refine below_set ?_ GE225.out | refine below_set ?_ GE230.out | refine below_set ?_ GE231.out | refine below_set ?_ GE232.out) | exact HB.out))); (case side2 => exact HC0_1.out); rintro e w25 ⟨rfl, hb⟩; refine ⟨_, rfl, ?_⟩; have n0_ := Aside0.mk (Kd.R_below (by exact (Kd.R_mono (Kd.R_mono (Kd.R_mono (Kd.R_far (p := ⟨Bp, 1, none⟩) (Kd.R_far (p := ⟨Bp, 0, none⟩) (Kd.R_far (p := ⟨Bm, 1, none⟩) (Kd.R_far (p := ⟨Bm, 0, none⟩) (Kd.R_far (p := ⟨Bj, 1, none⟩) (Kd.R_far (p := ⟨Bj, 0, none⟩) (Kd.R_types (Kd.R_types (Kd.R_types Cn.out Bg.out (by decide)) Bi.out (by decide)) Bk.out (by decide)) (fun _ hk => hk.1.1.2) (.int .i64 0)) (fun _ hk => hk.1.1.2) (.slice none 0 0)) (fun _ hk => hk.1.2) (.int .i64 0)) (fun _ hk => hk.1.2) (.slice none 0 0)) (fun _ hk => hk.2) (.int .i64 t226)) (fun _ hk => hk.2) (.slice Ao22 t227.length co22)) (fun _ h_ => h_.1)) (fun _ h_ => h_.1)) (fun _ h_ => h_.1))) hb); have n1_ := Aside0.mk (blk_below (g := Bq) (o := .cells #[.int .i64 a0_0, .slice A0_1 l0_1.length c0_1] 36 (0, 0)) (by refine blk_far ?_ Cu.out _; refine blk_far ?_ Cu.out _; refine blk_far ?_ Cp.out _; refine blk_far ?_ Cp.out _; refine blk_far ?_ Ci.out _; refine blk_far ?_ Ci.out _; exact Bn.out) hb); have n2_ := Aside0.mk (blk_below (g := Br) (o := .cells #[.int .i64 0, .slice none 0 0] 36 (0, 0)) (by refine blk_far ?_ Cv.out _; refine blk_far ?_ Cv.out _; refine blk_far ?_ Co.out _; refine blk_far ?_ Co.out _; refine blk_far ?_ Cl.out _; refine blk_far ?_ Cl.out _; exact Bo.out) hb); have n3_ := Aside0.mk (blk_below (g := Bj) (o := .cells #[.int .i64 0, .slice none 0 0] 36 (0, 0)) (by refine blk_far ?_ Cq.out _; refine blk_far ?_ Cq.out _; refine blk_far ?_ Cj.out _; refine blk_far ?_ Cj.out _; refine blk_put (cs := #[.int .i64 0, .slice none 0 0]) ?_ 1 _ rfl; refine blk_put (cs := #[.int .i64 0, .slice none 0 0]) ?_ 0 _ rfl; exact Bg.out) hb); have n4_ := Aside0.mk (blk_below (g := Bm) (o := .cells #[.int .i64 0, .slice none 0 0] 36 (0, 0)) (by refine blk_far ?_ Cw.out _; refine blk_far ?_ Cw.out _; refine blk_put (cs := #[.int .i64 0, .slice none 0 0]) ?_ 1 _ rfl; refine blk_put (cs := #[.int .i64 0, .slice none 0 0]) ?_ 0 _ rfl; refine blk_far ?_ Ck.out _; refine blk_far ?_ Ck.out _; exact Bi.out) hb); have n5_ := Aside0.mk (blk_below (g := Bp) (o := .cells #[.int .i64 t226, .slice Ao22 t227.length co22] 36 (0, 0)) (by refine blk_put (cs := #[.int .i64 t226, .slice none 0 0]) ?_ 1 _ rfl; refine blk_put (cs := #[.int .i64 0, .slice none 0 0]) ?_ 0 _ rfl; refine blk_far ?_ Cr.out _; refine blk_far ?_ Cr.out _; refine blk_far ?_ Cm.out _; refine blk_far ?_ Cm.out _; exact Bk.out) hb); have n6_ := Aside0.mk (below_step (by repeat (first | (with_reducible first | exact HB.out | apply below_alloc | apply pw_below_drewN | apply below_drew1 | refine below_set ?_ GE224.out | refine below_set ?_ GE225.out | refine below_set ?_ GE230.out | refine below_set ?_ GE231.out | refine below_set ?_ GE232.out) | exact HB.out)) hb); clear Cn; clear Bn; clear Bo; clear Bg; clear Bi; clear Bk; clear HB; have Cn := n0_; have Bn := n1_; have Bo := n2_; have Bg := n3_; have Bi := n4_; have Bk := n5_; have HB := n6_; clear n0_ n1_ n2_ n3_ n4_ n5_ n6_; (try clear hb); (try clear hb2); (try clear hk); (try clear hi)))
  go_loopg [6] k (fun kq v6 w' => ∃ (Ch : Int) (Bh : Int) (Ba : List Int) (Bl : Int) (Bb : List Int) (u231001 : Value) (u232001 : Value), v6 = .int .i64 Ch ∧ Aside0 (spec_l02Root.l0 kq Ch a0_0 l0_1 Bh Ba Bl Bb t226 t227 = some (r1, r2)) ∧ Aside0 (kq ≤ k) ∧ Aside0 (Kd.R (Kd.int .i64) 2 w' w.heap.size (fun k_ => some k_ ≠ (u232001 : Value).ownBlock ∧ some k_ ≠ ((.slice Ao22 t227.length co22) : Value).ownBlock) u231001 Ba) ∧ Aside0 (Kd.R (Kd.int .i64) 2 w' w.heap.size (fun k_ => some k_ ≠ (u231001 : Value).ownBlock ∧ some k_ ≠ ((.slice Ao22 t227.length co22) : Value).ownBlock) u232001 Bb) ∧ Aside0 (Kd.R (Kd.int .i64) 2 w' w.heap.size (fun k_ => some k_ ≠ (u231001 : Value).ownBlock ∧ some k_ ≠ (u232001 : Value).ownBlock) (.slice Ao22 t227.length co22) t227) ∧ Aside0 (w'.heap[Bq]? = some (.cells #[.int .i64 a0_0, (.slice A0_1 l0_1.length c0_1)] 36 (0, 0))) ∧ Aside0 (w'.heap[Br]? = some (.cells #[.int .i64 0, (.slice none 0 0)] 36 (0, 0))) ∧ Aside0 (w'.heap[Bj]? = some (.cells #[.int .i64 Bh, u231001] 36 (0, 0))) ∧ Aside0 (w'.heap[Bm]? = some (.cells #[.int .i64 Bl, u232001] 36 (0, 0))) ∧ Aside0 (w'.heap[Bp]? = some (.cells #[.int .i64 t226, (.slice Ao22 t227.length co22)] 36 (0, 0))) ∧ Aside0 (Below w.heap.size w w'))
  case atStart => exact ⟨(wrap64 (Int.tdiv (wrap64 (t233 + 1)) 2)), (0), (([] : List Int)), (0), (([] : List Int)), (.slice none 0 0), (.slice none 0 0), (by first | rfl | (simp; done) | (simp [*]; done)), H', ⟨Nat.le_refl _⟩, ⟨by first | exact Kd.R_nil _ _ _ _ _ | exact Kd.N_nil _ _ _ _ _ | exact Kd.V_nil _ _ _ _ _ | exact Kd.Q_nil _ _ _ _ _ | exact Kd.S_nil _ _ _ _ _⟩, ⟨by first | exact Kd.R_nil _ _ _ _ _ | exact Kd.N_nil _ _ _ _ _ | exact Kd.V_nil _ _ _ _ _ | exact Kd.Q_nil _ _ _ _ _ | exact Kd.S_nil _ _ _ _ _⟩, ⟨by exact Kd.R_mono Cn.out (fun _ hk => ⟨(by simp [Value.ownBlock]), (by simp [Value.ownBlock])⟩)⟩, ⟨by exact Bn.out⟩, ⟨by exact Bo.out⟩, ⟨by exact Bg.out⟩, ⟨by exact Bi.out⟩, ⟨by exact Bk.out⟩, ⟨by repeat (first | (with_reducible first | exact HB.out | apply below_alloc | apply pw_below_drewN | apply below_drew1 | refine below_set ?_ GE224.out | refine below_set ?_ GE225.out | refine below_set ?_ GE230.out | refine below_set ?_ GE231.out | refine below_set ?_ GE232.out) | exact HB.out)⟩⟩
  case round =>
    clear H'
    try clear c1
    try clear c2
    try clear p2
    try clear p6
    try clear c10
    try clear c11
    try clear c12
    try clear c13
    try clear c15
    try clear c16
    try clear c17
    try clear c19
    try clear c20
    try clear c23
    try clear hcz14_0
    try clear hcz14_1
    try clear hcz18_0
    try clear hcz18_1
    try clear hcz21_0
    try clear hcz21_1
    try clear hcz24_0
    try clear hcz24_1
    try clear hfz14_0
    try clear hfz14_1
    try clear hfz18_0
    try clear hfz18_1
    try clear hfz21_0
    try clear hfz21_1
    try clear hfz24_0
    try clear hfz24_1
    obtain ⟨Ch, Bh, Ba, Bl, Bb, u231001, u232001, rfl, HA, HK1, Bd, Bf, Be, Bn, Bo, Bg, Bi, Bk, HB⟩ := hrel
    cases gk with
    | zero => exact absurd HA.out (by simp [spec_l02Root.l0])
    | succ k1 =>
      have H := HA.out
      clear HA
      simp only [spec_l02Root.l0] at H
      by_cases c26 : Ch ≥ 0
      · rw [if_pos c26] at H
        have c26b0 : decide (0 ≤ Ch) = true := decide_eq_true c26
        clear c26
        replace H := Option.bind_eq_some_iff.mp H
        obtain ⟨⟨t234, t235⟩, A270, H⟩ := H
        replace H : ((spec_l02Add.f k1 Bl Bb t234 t235).bind fun bt238 => ((spec_l02Left.f k1 t226 t227 (wrap64 (2 * Ch))).bind fun bt242 => ((spec_l02Add.f k1 bt238.1 bt238.2 bt242.1 bt242.2).bind fun bt246 => ((spec_l02Compare.f k1 bt246.1 bt246.2 a0_0 l0_1).bind fun t251 => (if t251 ≤ 0 then ((spec_l02Left.f k1 t226 t227 Ch).bind fun bt252 => ((spec_l02Add.f k1 Bh Ba bt252.1 bt252.2).bind fun bt256 => (spec_l02Root.l0 k1 (wrap64 (Ch - 1)) a0_0 l0_1 bt256.1 bt256.2 bt246.1 bt246.2 t226 t227))) else (spec_l02Root.l0 k1 (wrap64 (Ch - 1)) a0_0 l0_1 Bh Ba Bl Bb t226 t227)))))) = some (r1, r2) := H
        have A27 := Aside0.mk A270
        clear A270
        replace H := Option.bind_eq_some_iff.mp H
        obtain ⟨⟨t238, t239⟩, A280, H⟩ := H
        replace H : ((spec_l02Left.f k1 t226 t227 (wrap64 (2 * Ch))).bind fun bt242 => ((spec_l02Add.f k1 t238 t239 bt242.1 bt242.2).bind fun bt246 => ((spec_l02Compare.f k1 bt246.1 bt246.2 a0_0 l0_1).bind fun t251 => (if t251 ≤ 0 then ((spec_l02Left.f k1 t226 t227 Ch).bind fun bt252 => ((spec_l02Add.f k1 Bh Ba bt252.1 bt252.2).bind fun bt256 => (spec_l02Root.l0 k1 (wrap64 (Ch - 1)) a0_0 l0_1 bt256.1 bt256.2 bt246.1 bt246.2 t226 t227))) else (spec_l02Root.l0 k1 (wrap64 (Ch - 1)) a0_0 l0_1 Bh Ba Bl Bb t226 t227))))) = some (r1, r2) := H
        have A28 := Aside0.mk A280
        clear A280
        replace H := Option.bind_eq_some_iff.mp H
        obtain ⟨⟨t242, t243⟩, A290, H⟩ := H
        replace H : ((spec_l02Add.f k1 t238 t239 t242 t243).bind fun bt246 => ((spec_l02Compare.f k1 bt246.1 bt246.2 a0_0 l0_1).bind fun t251 => (if t251 ≤ 0 then ((spec_l02Left.f k1 t226 t227 Ch).bind fun bt252 => ((spec_l02Add.f k1 Bh Ba bt252.1 bt252.2).bind fun bt256 => (spec_l02Root.l0 k1 (wrap64 (Ch - 1)) a0_0 l0_1 bt256.1 bt256.2 bt246.1 bt246.2 t226 t227))) else (spec_l02Root.l0 k1 (wrap64 (Ch - 1)) a0_0 l0_1 Bh Ba Bl Bb t226 t227)))) = some (r1, r2) := H
        have A29 := Aside0.mk A290
        clear A290
        replace H := Option.bind_eq_some_iff.mp H
        obtain ⟨⟨t246, t247⟩, A300, H⟩ := H
        replace H : ((spec_l02Compare.f k1 t246 t247 a0_0 l0_1).bind fun t251 => (if t251 ≤ 0 then ((spec_l02Left.f k1 t226 t227 Ch).bind fun bt252 => ((spec_l02Add.f k1 Bh Ba bt252.1 bt252.2).bind fun bt256 => (spec_l02Root.l0 k1 (wrap64 (Ch - 1)) a0_0 l0_1 bt256.1 bt256.2 t246 t247 t226 t227))) else (spec_l02Root.l0 k1 (wrap64 (Ch - 1)) a0_0 l0_1 Bh Ba Bl Bb t226 t227))) = some (r1, r2) := H
        have A30 := Aside0.mk A300
        clear A300
        replace H := Option.bind_eq_some_iff.mp H
        obtain ⟨t251, A310, H⟩ := H
        replace H : (if t251 ≤ 0 then ((spec_l02Left.f k1 t226 t227 Ch).bind fun bt252 => ((spec_l02Add.f k1 Bh Ba bt252.1 bt252.2).bind fun bt256 => (spec_l02Root.l0 k1 (wrap64 (Ch - 1)) a0_0 l0_1 bt256.1 bt256.2 t246 t247 t226 t227))) else (spec_l02Root.l0 k1 (wrap64 (Ch - 1)) a0_0 l0_1 Bh Ba Bl Bb t226 t227)) = some (r1, r2) := H
        have A31 := Aside0.mk A310
        clear A310
        have HX := Aside0.mk H
        clear H
        obtain ⟨Ao35, co35, eo35⟩ := Kd.R_slice Bd.out
        subst eo35
        obtain ⟨Ao36, co36, eo36⟩ := Kd.R_slice Bf.out
        subst eo36
        try go_wp2
        have n0_ := Aside0.mk (Kd.R_drew Bd.out)
        have n1_ := Aside0.mk (Kd.R_drew Bf.out)
        have n2_ := Aside0.mk (Kd.R_drew Be.out)
        have n3_ := Aside0.mk (blk_drew Bn.out)
        have n4_ := Aside0.mk (blk_drew Bo.out)
        have n5_ := Aside0.mk (blk_drew Bg.out)
        have n6_ := Aside0.mk (blk_drew Bi.out)
        have n7_ := Aside0.mk (blk_drew Bk.out)
        have n8_ := Aside0.mk (below_drew1 HB.out)
        clear Bd Bf Be Bn Bo Bg Bi Bk HB
        have Bd := n0_
        have Bf := n1_
        have Be := n2_
        have Bn := n3_
        have Bo := n4_
        have Bg := n5_
        have Bi := n6_
        have Bk := n7_
        have HB := n8_
        clear n0_ n1_ n2_ n3_ n4_ n5_ n6_ n7_ n8_
        refine start_ (n := 13) (S := fun w' => w'.cell? ⟨Bm, 0, none⟩ = some (.int .i64 Bl) ∧ w'.cell? ⟨Bm, 1, none⟩ = some (.slice Ao36 Bb.length co36) ∧ w'.cell? ⟨Bj, 0, none⟩ = some (.int .i64 Bh) ∧ w'.cell? ⟨Bj, 1, none⟩ = some (.slice Ao35 Ba.length co35) ∧ w'.cell? ⟨Bp, 0, none⟩ = some (.int .i64 t226) ∧ w'.cell? ⟨Bp, 1, none⟩ = some (.slice Ao22 t227.length co22)) (ds := []) #[false, false, false, false, false, false, false, false, false, false, false, false, false] (by kernel_rfl) rfl rfl ⟨(blk_cell Bi.out 0).trans rfl, (blk_cell Bi.out 1).trans rfl, (blk_cell Bg.out 0).trans rfl, (blk_cell Bg.out 1).trans rfl, (blk_cell Bk.out 0).trans rfl, (blk_cell Bk.out 1).trans rfl⟩ (fun hHeld => ?_); refine with_tabW spec_l02Root.tab5 spec_l02Root.bits5 (fun HT_ HW_ => ?_)
        generalize wr.drew = w37 at Bd Bf Be Bn Bo Bg Bi Bk HB hHeld ⊢
        refine pure_ (i := 2) (N := some 21) (v := ?_) (a' := ?_) #[false, false, true, false, false, false, false, false, false, false, false, false, false] rfl rfl (any_of HT_.out (by kernel_rfl)) (fun _ _ _ h => h) (Or.inl ⟨by rfl, ?_⟩) ?_ ?_
        rotate_left
        · intro w'
          go_simp
          with_reducible rfl
        rotate_left
        · simp only [Act.put, List.setIfInBounds_toArray, List.set_cons_zero, List.set_cons_succ, i64_w, i32_w]
          rfl
        refine pure_ (i := 3) (N := some 22) (v := ?_) (a' := ?_) #[false, false, true, true, false, false, false, false, false, false, false, false, false] rfl rfl (any_of HT_.out (by kernel_rfl)) (fun _ _ _ h => h) (Or.inl ⟨by rfl, ?_⟩) ?_ ?_
        rotate_left
        · intro w'
          go_simp
          with_reducible rfl
        rotate_left
        · simp only [Act.put, List.setIfInBounds_toArray, List.set_cons_zero, List.set_cons_succ, i64_w, i32_w]
          rfl
        refine pure_ (i := 7) (N := some 26) (v := ?_) (a' := ?_) #[false, false, true, true, false, false, false, true, false, false, false, false, false] rfl rfl (any_of HT_.out (by kernel_rfl)) (fun _ _ _ h => h) (Or.inl ⟨by rfl, ?_⟩) ?_ ?_
        rotate_left
        · intro w'
          go_simp
          with_reducible rfl
        rotate_left
        · simp only [Act.put, List.setIfInBounds_toArray, List.set_cons_zero, List.set_cons_succ, i64_w, i32_w]
          rfl
        refine pure_ (i := 8) (N := some 27) (v := ?_) (a' := ?_) #[false, false, true, true, false, false, false, true, true, false, false, false, false] rfl rfl (any_of HT_.out (by kernel_rfl)) (fun _ _ _ h => h) (Or.inl ⟨by rfl, ?_⟩) ?_ ?_
        rotate_left
        · intro w'
          go_simp
          with_reducible rfl
        rotate_left
        · simp only [Act.put, List.setIfInBounds_toArray, List.set_cons_zero, List.set_cons_succ, i64_w, i32_w]
          rfl
        refine take_ (i := 0) (N := some 19) (v := ?_) (a' := ?_) #[true, false, true, true, false, false, false, true, true, false, false, false, false] rfl rfl (take_ofW HT_.out HW_.out (by kernel_rfl)) (fun _ _ _ h => h) (Or.inl ⟨by rfl, ?_⟩) hHeld ?_ ?_
        rotate_left
        · rintro w' ⟨s0, s1, s2, s3, s4, s5⟩
          go_simp
          with_reducible rfl
        rotate_left
        · simp only [Act.put, List.setIfInBounds_toArray, List.set_cons_zero, List.set_cons_succ, i64_w, i32_w]
          rfl
        refine take_ (i := 1) (N := some 20) (v := ?_) (a' := ?_) #[true, true, true, true, false, false, false, true, true, false, false, false, false] rfl rfl (take_ofW HT_.out HW_.out (by kernel_rfl)) (fun _ _ _ h => h) (Or.inl ⟨by rfl, ?_⟩) hHeld ?_ ?_
        rotate_left
        · rintro w' ⟨s0, s1, s2, s3, s4, s5⟩
          go_simp
          with_reducible rfl
        rotate_left
        · simp only [Act.put, List.setIfInBounds_toArray, List.set_cons_zero, List.set_cons_succ, i64_w, i32_w]
          rfl
        refine take_ (i := 6) (N := some 25) (v := ?_) (a' := ?_) #[true, true, true, true, false, false, true, true, true, false, false, false, false] rfl rfl (take_ofW HT_.out HW_.out (by kernel_rfl)) (fun _ _ _ h => h) (Or.inl ⟨by rfl, ?_⟩) hHeld ?_ ?_
        rotate_left
        · rintro w' ⟨s0, s1, s2, s3, s4, s5⟩
          go_simp
          with_reducible rfl
        rotate_left
        · simp only [Act.put, List.setIfInBounds_toArray, List.set_cons_zero, List.set_cons_succ, i64_w, i32_w]
          rfl
        refine join_ (σ := Value × Value × Value × Value × Nat) 1 #[true, true, true, true, true, true, true, true, true, true, true, true, false] (fun s_ => [(23, .agg #[.int .i64 t234, s_.1]), (24, .agg #[.int .i64 t238, s_.2.1]), (28, .agg #[.int .i64 t242, s_.2.2.1]), (29, .agg #[.int .i64 t246, s_.2.2.2.1]), (7, .pointer (some ⟨s_.2.2.2.2, 0, none⟩))]) (fun s_ w' => (w'.cell? ⟨Bm, 0, none⟩ = some (.int .i64 Bl) ∧ w'.cell? ⟨Bm, 1, none⟩ = some (.slice Ao36 Bb.length co36) ∧ w'.cell? ⟨Bj, 0, none⟩ = some (.int .i64 Bh) ∧ w'.cell? ⟨Bj, 1, none⟩ = some (.slice Ao35 Ba.length co35) ∧ w'.cell? ⟨Bp, 0, none⟩ = some (.int .i64 t226) ∧ w'.cell? ⟨Bp, 1, none⟩ = some (.slice Ao22 t227.length co22)) ∧ (Kd.R (Kd.int .i64) 2 w' w.heap.size (fun k_ => some k_ ≠ (s_.2.1 : Value).ownBlock ∧ some k_ ≠ (s_.2.2.1 : Value).ownBlock ∧ some k_ ≠ (s_.2.2.2.1 : Value).ownBlock ∧ some k_ ≠ (.slice Ao35 Ba.length co35 : Value).ownBlock ∧ some k_ ≠ (.slice Ao36 Bb.length co36 : Value).ownBlock ∧ some k_ ≠ (.slice Ao22 t227.length co22 : Value).ownBlock) s_.1 t235) ∧ (Kd.R (Kd.int .i64) 2 w' w.heap.size (fun k_ => some k_ ≠ (s_.1 : Value).ownBlock ∧ some k_ ≠ (s_.2.2.1 : Value).ownBlock ∧ some k_ ≠ (s_.2.2.2.1 : Value).ownBlock ∧ some k_ ≠ (.slice Ao35 Ba.length co35 : Value).ownBlock ∧ some k_ ≠ (.slice Ao36 Bb.length co36 : Value).ownBlock ∧ some k_ ≠ (.slice Ao22 t227.length co22 : Value).ownBlock) s_.2.1 t239) ∧ (Kd.R (Kd.int .i64) 2 w' w.heap.size (fun k_ => some k_ ≠ (s_.1 : Value).ownBlock ∧ some k_ ≠ (s_.2.1 : Value).ownBlock ∧ some k_ ≠ (s_.2.2.2.1 : Value).ownBlock ∧ some k_ ≠ (.slice Ao35 Ba.length co35 : Value).ownBlock ∧ some k_ ≠ (.slice Ao36 Bb.length co36 : Value).ownBlock ∧ some k_ ≠ (.slice Ao22 t227.length co22 : Value).ownBlock) s_.2.2.1 t243) ∧ (Kd.R (Kd.int .i64) 2 w' w.heap.size (fun k_ => some k_ ≠ (s_.1 : Value).ownBlock ∧ some k_ ≠ (s_.2.1 : Value).ownBlock ∧ some k_ ≠ (s_.2.2.1 : Value).ownBlock ∧ some k_ ≠ (.slice Ao35 Ba.length co35 : Value).ownBlock ∧ some k_ ≠ (.slice Ao36 Bb.length co36 : Value).ownBlock ∧ some k_ ≠ (.slice Ao22 t227.length co22 : Value).ownBlock) s_.2.2.2.1 t247) ∧ (Kd.R (Kd.int .i64) 2 w' w.heap.size (fun k_ => some k_ ≠ (s_.1 : Value).ownBlock ∧ some k_ ≠ (s_.2.1 : Value).ownBlock ∧ some k_ ≠ (s_.2.2.1 : Value).ownBlock ∧ some k_ ≠ (s_.2.2.2.1 : Value).ownBlock ∧ some k_ ≠ (.slice Ao36 Bb.length co36 : Value).ownBlock ∧ some k_ ≠ (.slice Ao22 t227.length co22 : Value).ownBlock) (.slice Ao35 Ba.length co35) Ba) ∧ (Kd.R (Kd.int .i64) 2 w' w.heap.size (fun k_ => some k_ ≠ (s_.1 : Value).ownBlock ∧ some k_ ≠ (s_.2.1 : Value).ownBlock ∧ some k_ ≠ (s_.2.2.1 : Value).ownBlock ∧ some k_ ≠ (s_.2.2.2.1 : Value).ownBlock ∧ some k_ ≠ (.slice Ao35 Ba.length co35 : Value).ownBlock ∧ some k_ ≠ (.slice Ao22 t227.length co22 : Value).ownBlock) (.slice Ao36 Bb.length co36) Bb) ∧ (Kd.R (Kd.int .i64) 2 w' w.heap.size (fun k_ => some k_ ≠ (s_.1 : Value).ownBlock ∧ some k_ ≠ (s_.2.1 : Value).ownBlock ∧ some k_ ≠ (s_.2.2.1 : Value).ownBlock ∧ some k_ ≠ (s_.2.2.2.1 : Value).ownBlock ∧ some k_ ≠ (.slice Ao35 Ba.length co35 : Value).ownBlock ∧ some k_ ≠ (.slice Ao36 Bb.length co36 : Value).ownBlock) (.slice Ao22 t227.length co22) t227) ∧ (w'.heap[Bq]? = some (.cells #[.int .i64 a0_0, .slice A0_1 l0_1.length c0_1] 36 (0, 0))) ∧ (w'.heap[Br]? = some (.cells #[.int .i64 0, .slice none 0 0] 36 (0, 0))) ∧ (w'.heap[Bj]? = some (.cells #[.int .i64 Bh, .slice Ao35 Ba.length co35] 36 (0, 0))) ∧ (w'.heap[Bm]? = some (.cells #[.int .i64 Bl, .slice Ao36 Bb.length co36] 36 (0, 0))) ∧ (w'.heap[Bp]? = some (.cells #[.int .i64 t226, .slice Ao22 t227.length co22] 36 (0, 0))) ∧ (w'.heap[s_.2.2.2.2]? = some (.cells #[.int .i64 0, .slice none 0 0] 36 (0, 0))) ∧ (w.heap.size ≤ s_.2.2.2.2) ∧ (w.heap.size ≤ s_.2.2.2.2) ∧ (Bq ≠ s_.2.2.2.2) ∧ (s_.2.2.2.2 ≠ Bq) ∧ (Br ≠ s_.2.2.2.2) ∧ (s_.2.2.2.2 ≠ Br) ∧ (Bj ≠ s_.2.2.2.2) ∧ (s_.2.2.2.2 ≠ Bj) ∧ (Bm ≠ s_.2.2.2.2) ∧ (s_.2.2.2.2 ≠ Bm) ∧ (Bp ≠ s_.2.2.2.2) ∧ (s_.2.2.2.2 ≠ Bp) ∧ (Below w.heap.size w w')) ?_ ?_
        rotate_left
        · intro hJ4_5_9_10_11
          refine join_ (σ := Value × Value × Value × Value) 2 #[true, true, true, true, true, true, true, true, true, true, true, false, false] (fun s_ => [(23, .agg #[.int .i64 t234, s_.1]), (24, .agg #[.int .i64 t238, s_.2.1]), (28, .agg #[.int .i64 t242, s_.2.2.1]), (29, .agg #[.int .i64 t246, s_.2.2.2])]) (fun s_ w' => (w'.cell? ⟨Bm, 0, none⟩ = some (.int .i64 Bl) ∧ w'.cell? ⟨Bm, 1, none⟩ = some (.slice Ao36 Bb.length co36) ∧ w'.cell? ⟨Bj, 0, none⟩ = some (.int .i64 Bh) ∧ w'.cell? ⟨Bj, 1, none⟩ = some (.slice Ao35 Ba.length co35) ∧ w'.cell? ⟨Bp, 0, none⟩ = some (.int .i64 t226) ∧ w'.cell? ⟨Bp, 1, none⟩ = some (.slice Ao22 t227.length co22)) ∧ (Kd.R (Kd.int .i64) 2 w' w.heap.size (fun k_ => some k_ ≠ (s_.2.1 : Value).ownBlock ∧ some k_ ≠ (s_.2.2.1 : Value).ownBlock ∧ some k_ ≠ (s_.2.2.2 : Value).ownBlock ∧ some k_ ≠ (.slice Ao35 Ba.length co35 : Value).ownBlock ∧ some k_ ≠ (.slice Ao36 Bb.length co36 : Value).ownBlock ∧ some k_ ≠ (.slice Ao22 t227.length co22 : Value).ownBlock) s_.1 t235) ∧ (Kd.R (Kd.int .i64) 2 w' w.heap.size (fun k_ => some k_ ≠ (s_.1 : Value).ownBlock ∧ some k_ ≠ (s_.2.2.1 : Value).ownBlock ∧ some k_ ≠ (s_.2.2.2 : Value).ownBlock ∧ some k_ ≠ (.slice Ao35 Ba.length co35 : Value).ownBlock ∧ some k_ ≠ (.slice Ao36 Bb.length co36 : Value).ownBlock ∧ some k_ ≠ (.slice Ao22 t227.length co22 : Value).ownBlock) s_.2.1 t239) ∧ (Kd.R (Kd.int .i64) 2 w' w.heap.size (fun k_ => some k_ ≠ (s_.1 : Value).ownBlock ∧ some k_ ≠ (s_.2.1 : Value).ownBlock ∧ some k_ ≠ (s_.2.2.2 : Value).ownBlock ∧ some k_ ≠ (.slice Ao35 Ba.length co35 : Value).ownBlock ∧ some k_ ≠ (.slice Ao36 Bb.length co36 : Value).ownBlock ∧ some k_ ≠ (.slice Ao22 t227.length co22 : Value).ownBlock) s_.2.2.1 t243) ∧ (Kd.R (Kd.int .i64) 2 w' w.heap.size (fun k_ => some k_ ≠ (s_.1 : Value).ownBlock ∧ some k_ ≠ (s_.2.1 : Value).ownBlock ∧ some k_ ≠ (s_.2.2.1 : Value).ownBlock ∧ some k_ ≠ (.slice Ao35 Ba.length co35 : Value).ownBlock ∧ some k_ ≠ (.slice Ao36 Bb.length co36 : Value).ownBlock ∧ some k_ ≠ (.slice Ao22 t227.length co22 : Value).ownBlock) s_.2.2.2 t247) ∧ (Kd.R (Kd.int .i64) 2 w' w.heap.size (fun k_ => some k_ ≠ (s_.1 : Value).ownBlock ∧ some k_ ≠ (s_.2.1 : Value).ownBlock ∧ some k_ ≠ (s_.2.2.1 : Value).ownBlock ∧ some k_ ≠ (s_.2.2.2 : Value).ownBlock ∧ some k_ ≠ (.slice Ao36 Bb.length co36 : Value).ownBlock ∧ some k_ ≠ (.slice Ao22 t227.length co22 : Value).ownBlock) (.slice Ao35 Ba.length co35) Ba) ∧ (Kd.R (Kd.int .i64) 2 w' w.heap.size (fun k_ => some k_ ≠ (s_.1 : Value).ownBlock ∧ some k_ ≠ (s_.2.1 : Value).ownBlock ∧ some k_ ≠ (s_.2.2.1 : Value).ownBlock ∧ some k_ ≠ (s_.2.2.2 : Value).ownBlock ∧ some k_ ≠ (.slice Ao35 Ba.length co35 : Value).ownBlock ∧ some k_ ≠ (.slice Ao22 t227.length co22 : Value).ownBlock) (.slice Ao36 Bb.length co36) Bb) ∧ (Kd.R (Kd.int .i64) 2 w' w.heap.size (fun k_ => some k_ ≠ (s_.1 : Value).ownBlock ∧ some k_ ≠ (s_.2.1 : Value).ownBlock ∧ some k_ ≠ (s_.2.2.1 : Value).ownBlock ∧ some k_ ≠ (s_.2.2.2 : Value).ownBlock ∧ some k_ ≠ (.slice Ao35 Ba.length co35 : Value).ownBlock ∧ some k_ ≠ (.slice Ao36 Bb.length co36 : Value).ownBlock) (.slice Ao22 t227.length co22) t227) ∧ (w'.heap[Bq]? = some (.cells #[.int .i64 a0_0, .slice A0_1 l0_1.length c0_1] 36 (0, 0))) ∧ (w'.heap[Br]? = some (.cells #[.int .i64 0, .slice none 0 0] 36 (0, 0))) ∧ (w'.heap[Bj]? = some (.cells #[.int .i64 Bh, .slice Ao35 Ba.length co35] 36 (0, 0))) ∧ (w'.heap[Bm]? = some (.cells #[.int .i64 Bl, .slice Ao36 Bb.length co36] 36 (0, 0))) ∧ (w'.heap[Bp]? = some (.cells #[.int .i64 t226, .slice Ao22 t227.length co22] 36 (0, 0))) ∧ (Below w.heap.size w w')) ?_ ?_
          rotate_left
          · intro hJ4_5_9_10
            refine join_ (σ := Value × Value × Value × Nat) 2 #[true, true, true, true, true, true, true, true, true, true, false, true, false] (fun s_ => [(23, .agg #[.int .i64 t234, s_.1]), (24, .agg #[.int .i64 t238, s_.2.1]), (28, .agg #[.int .i64 t242, s_.2.2.1]), (7, .pointer (some ⟨s_.2.2.2, 0, none⟩))]) (fun s_ w' => (w'.cell? ⟨Bm, 0, none⟩ = some (.int .i64 Bl) ∧ w'.cell? ⟨Bm, 1, none⟩ = some (.slice Ao36 Bb.length co36) ∧ w'.cell? ⟨Bj, 0, none⟩ = some (.int .i64 Bh) ∧ w'.cell? ⟨Bj, 1, none⟩ = some (.slice Ao35 Ba.length co35) ∧ w'.cell? ⟨Bp, 0, none⟩ = some (.int .i64 t226) ∧ w'.cell? ⟨Bp, 1, none⟩ = some (.slice Ao22 t227.length co22)) ∧ (Kd.R (Kd.int .i64) 2 w' w.heap.size (fun k_ => some k_ ≠ (s_.2.1 : Value).ownBlock ∧ some k_ ≠ (s_.2.2.1 : Value).ownBlock ∧ some k_ ≠ (.slice Ao35 Ba.length co35 : Value).ownBlock ∧ some k_ ≠ (.slice Ao36 Bb.length co36 : Value).ownBlock ∧ some k_ ≠ (.slice Ao22 t227.length co22 : Value).ownBlock) s_.1 t235) ∧ (Kd.R (Kd.int .i64) 2 w' w.heap.size (fun k_ => some k_ ≠ (s_.1 : Value).ownBlock ∧ some k_ ≠ (s_.2.2.1 : Value).ownBlock ∧ some k_ ≠ (.slice Ao35 Ba.length co35 : Value).ownBlock ∧ some k_ ≠ (.slice Ao36 Bb.length co36 : Value).ownBlock ∧ some k_ ≠ (.slice Ao22 t227.length co22 : Value).ownBlock) s_.2.1 t239) ∧ (Kd.R (Kd.int .i64) 2 w' w.heap.size (fun k_ => some k_ ≠ (s_.1 : Value).ownBlock ∧ some k_ ≠ (s_.2.1 : Value).ownBlock ∧ some k_ ≠ (.slice Ao35 Ba.length co35 : Value).ownBlock ∧ some k_ ≠ (.slice Ao36 Bb.length co36 : Value).ownBlock ∧ some k_ ≠ (.slice Ao22 t227.length co22 : Value).ownBlock) s_.2.2.1 t243) ∧ (Kd.R (Kd.int .i64) 2 w' w.heap.size (fun k_ => some k_ ≠ (s_.1 : Value).ownBlock ∧ some k_ ≠ (s_.2.1 : Value).ownBlock ∧ some k_ ≠ (s_.2.2.1 : Value).ownBlock ∧ some k_ ≠ (.slice Ao36 Bb.length co36 : Value).ownBlock ∧ some k_ ≠ (.slice Ao22 t227.length co22 : Value).ownBlock) (.slice Ao35 Ba.length co35) Ba) ∧ (Kd.R (Kd.int .i64) 2 w' w.heap.size (fun k_ => some k_ ≠ (s_.1 : Value).ownBlock ∧ some k_ ≠ (s_.2.1 : Value).ownBlock ∧ some k_ ≠ (s_.2.2.1 : Value).ownBlock ∧ some k_ ≠ (.slice Ao35 Ba.length co35 : Value).ownBlock ∧ some k_ ≠ (.slice Ao22 t227.length co22 : Value).ownBlock) (.slice Ao36 Bb.length co36) Bb) ∧ (Kd.R (Kd.int .i64) 2 w' w.heap.size (fun k_ => some k_ ≠ (s_.1 : Value).ownBlock ∧ some k_ ≠ (s_.2.1 : Value).ownBlock ∧ some k_ ≠ (s_.2.2.1 : Value).ownBlock ∧ some k_ ≠ (.slice Ao35 Ba.length co35 : Value).ownBlock ∧ some k_ ≠ (.slice Ao36 Bb.length co36 : Value).ownBlock) (.slice Ao22 t227.length co22) t227) ∧ (w'.heap[Bq]? = some (.cells #[.int .i64 a0_0, .slice A0_1 l0_1.length c0_1] 36 (0, 0))) ∧ (w'.heap[Br]? = some (.cells #[.int .i64 0, .slice none 0 0] 36 (0, 0))) ∧ (w'.heap[Bj]? = some (.cells #[.int .i64 Bh, .slice Ao35 Ba.length co35] 36 (0, 0))) ∧ (w'.heap[Bm]? = some (.cells #[.int .i64 Bl, .slice Ao36 Bb.length co36] 36 (0, 0))) ∧ (w'.heap[Bp]? = some (.cells #[.int .i64 t226, .slice Ao22 t227.length co22] 36 (0, 0))) ∧ (w'.heap[s_.2.2.2]? = some (.cells #[.int .i64 0, .slice none 0 0] 36 (0, 0))) ∧ (w.heap.size ≤ s_.2.2.2) ∧ (w.heap.size ≤ s_.2.2.2) ∧ (Bq ≠ s_.2.2.2) ∧ (s_.2.2.2 ≠ Bq) ∧ (Br ≠ s_.2.2.2) ∧ (s_.2.2.2 ≠ Br) ∧ (Bj ≠ s_.2.2.2) ∧ (s_.2.2.2 ≠ Bj) ∧ (Bm ≠ s_.2.2.2) ∧ (s_.2.2.2 ≠ Bm) ∧ (Bp ≠ s_.2.2.2) ∧ (s_.2.2.2 ≠ Bp) ∧ (Below w.heap.size w w')) ?_ ?_
            rotate_left
            · intro hJ4_5_9_11
              refine join_ (σ := Value × Value × Value) 3 #[true, true, true, true, true, true, true, true, true, true, false, false, false] (fun s_ => [(23, .agg #[.int .i64 t234, s_.1]), (24, .agg #[.int .i64 t238, s_.2.1]), (28, .agg #[.int .i64 t242, s_.2.2])]) (fun s_ w' => (w'.cell? ⟨Bm, 0, none⟩ = some (.int .i64 Bl) ∧ w'.cell? ⟨Bm, 1, none⟩ = some (.slice Ao36 Bb.length co36) ∧ w'.cell? ⟨Bj, 0, none⟩ = some (.int .i64 Bh) ∧ w'.cell? ⟨Bj, 1, none⟩ = some (.slice Ao35 Ba.length co35) ∧ w'.cell? ⟨Bp, 0, none⟩ = some (.int .i64 t226) ∧ w'.cell? ⟨Bp, 1, none⟩ = some (.slice Ao22 t227.length co22)) ∧ (Kd.R (Kd.int .i64) 2 w' w.heap.size (fun k_ => some k_ ≠ (s_.2.1 : Value).ownBlock ∧ some k_ ≠ (s_.2.2 : Value).ownBlock ∧ some k_ ≠ (.slice Ao35 Ba.length co35 : Value).ownBlock ∧ some k_ ≠ (.slice Ao36 Bb.length co36 : Value).ownBlock ∧ some k_ ≠ (.slice Ao22 t227.length co22 : Value).ownBlock) s_.1 t235) ∧ (Kd.R (Kd.int .i64) 2 w' w.heap.size (fun k_ => some k_ ≠ (s_.1 : Value).ownBlock ∧ some k_ ≠ (s_.2.2 : Value).ownBlock ∧ some k_ ≠ (.slice Ao35 Ba.length co35 : Value).ownBlock ∧ some k_ ≠ (.slice Ao36 Bb.length co36 : Value).ownBlock ∧ some k_ ≠ (.slice Ao22 t227.length co22 : Value).ownBlock) s_.2.1 t239) ∧ (Kd.R (Kd.int .i64) 2 w' w.heap.size (fun k_ => some k_ ≠ (s_.1 : Value).ownBlock ∧ some k_ ≠ (s_.2.1 : Value).ownBlock ∧ some k_ ≠ (.slice Ao35 Ba.length co35 : Value).ownBlock ∧ some k_ ≠ (.slice Ao36 Bb.length co36 : Value).ownBlock ∧ some k_ ≠ (.slice Ao22 t227.length co22 : Value).ownBlock) s_.2.2 t243) ∧ (Kd.R (Kd.int .i64) 2 w' w.heap.size (fun k_ => some k_ ≠ (s_.1 : Value).ownBlock ∧ some k_ ≠ (s_.2.1 : Value).ownBlock ∧ some k_ ≠ (s_.2.2 : Value).ownBlock ∧ some k_ ≠ (.slice Ao36 Bb.length co36 : Value).ownBlock ∧ some k_ ≠ (.slice Ao22 t227.length co22 : Value).ownBlock) (.slice Ao35 Ba.length co35) Ba) ∧ (Kd.R (Kd.int .i64) 2 w' w.heap.size (fun k_ => some k_ ≠ (s_.1 : Value).ownBlock ∧ some k_ ≠ (s_.2.1 : Value).ownBlock ∧ some k_ ≠ (s_.2.2 : Value).ownBlock ∧ some k_ ≠ (.slice Ao35 Ba.length co35 : Value).ownBlock ∧ some k_ ≠ (.slice Ao22 t227.length co22 : Value).ownBlock) (.slice Ao36 Bb.length co36) Bb) ∧ (Kd.R (Kd.int .i64) 2 w' w.heap.size (fun k_ => some k_ ≠ (s_.1 : Value).ownBlock ∧ some k_ ≠ (s_.2.1 : Value).ownBlock ∧ some k_ ≠ (s_.2.2 : Value).ownBlock ∧ some k_ ≠ (.slice Ao35 Ba.length co35 : Value).ownBlock ∧ some k_ ≠ (.slice Ao36 Bb.length co36 : Value).ownBlock) (.slice Ao22 t227.length co22) t227) ∧ (w'.heap[Bq]? = some (.cells #[.int .i64 a0_0, .slice A0_1 l0_1.length c0_1] 36 (0, 0))) ∧ (w'.heap[Br]? = some (.cells #[.int .i64 0, .slice none 0 0] 36 (0, 0))) ∧ (w'.heap[Bj]? = some (.cells #[.int .i64 Bh, .slice Ao35 Ba.length co35] 36 (0, 0))) ∧ (w'.heap[Bm]? = some (.cells #[.int .i64 Bl, .slice Ao36 Bb.length co36] 36 (0, 0))) ∧ (w'.heap[Bp]? = some (.cells #[.int .i64 t226, .slice Ao22 t227.length co22] 36 (0, 0))) ∧ (Below w.heap.size w w')) ?_ ?_
              rotate_left
              · intro hJ4_5_9
                refine join_ (σ := Value × Value × Nat) 3 #[true, true, true, true, true, true, true, true, true, false, false, true, false] (fun s_ => [(23, .agg #[.int .i64 t234, s_.1]), (24, .agg #[.int .i64 t238, s_.2.1]), (7, .pointer (some ⟨s_.2.2, 0, none⟩))]) (fun s_ w' => (w'.cell? ⟨Bm, 0, none⟩ = some (.int .i64 Bl) ∧ w'.cell? ⟨Bm, 1, none⟩ = some (.slice Ao36 Bb.length co36) ∧ w'.cell? ⟨Bj, 0, none⟩ = some (.int .i64 Bh) ∧ w'.cell? ⟨Bj, 1, none⟩ = some (.slice Ao35 Ba.length co35) ∧ w'.cell? ⟨Bp, 0, none⟩ = some (.int .i64 t226) ∧ w'.cell? ⟨Bp, 1, none⟩ = some (.slice Ao22 t227.length co22)) ∧ (Kd.R (Kd.int .i64) 2 w' w.heap.size (fun k_ => some k_ ≠ (s_.2.1 : Value).ownBlock ∧ some k_ ≠ (.slice Ao35 Ba.length co35 : Value).ownBlock ∧ some k_ ≠ (.slice Ao36 Bb.length co36 : Value).ownBlock ∧ some k_ ≠ (.slice Ao22 t227.length co22 : Value).ownBlock) s_.1 t235) ∧ (Kd.R (Kd.int .i64) 2 w' w.heap.size (fun k_ => some k_ ≠ (s_.1 : Value).ownBlock ∧ some k_ ≠ (.slice Ao35 Ba.length co35 : Value).ownBlock ∧ some k_ ≠ (.slice Ao36 Bb.length co36 : Value).ownBlock ∧ some k_ ≠ (.slice Ao22 t227.length co22 : Value).ownBlock) s_.2.1 t239) ∧ (Kd.R (Kd.int .i64) 2 w' w.heap.size (fun k_ => some k_ ≠ (s_.1 : Value).ownBlock ∧ some k_ ≠ (s_.2.1 : Value).ownBlock ∧ some k_ ≠ (.slice Ao36 Bb.length co36 : Value).ownBlock ∧ some k_ ≠ (.slice Ao22 t227.length co22 : Value).ownBlock) (.slice Ao35 Ba.length co35) Ba) ∧ (Kd.R (Kd.int .i64) 2 w' w.heap.size (fun k_ => some k_ ≠ (s_.1 : Value).ownBlock ∧ some k_ ≠ (s_.2.1 : Value).ownBlock ∧ some k_ ≠ (.slice Ao35 Ba.length co35 : Value).ownBlock ∧ some k_ ≠ (.slice Ao22 t227.length co22 : Value).ownBlock) (.slice Ao36 Bb.length co36) Bb) ∧ (Kd.R (Kd.int .i64) 2 w' w.heap.size (fun k_ => some k_ ≠ (s_.1 : Value).ownBlock ∧ some k_ ≠ (s_.2.1 : Value).ownBlock ∧ some k_ ≠ (.slice Ao35 Ba.length co35 : Value).ownBlock ∧ some k_ ≠ (.slice Ao36 Bb.length co36 : Value).ownBlock) (.slice Ao22 t227.length co22) t227) ∧ (w'.heap[Bq]? = some (.cells #[.int .i64 a0_0, .slice A0_1 l0_1.length c0_1] 36 (0, 0))) ∧ (w'.heap[Br]? = some (.cells #[.int .i64 0, .slice none 0 0] 36 (0, 0))) ∧ (w'.heap[Bj]? = some (.cells #[.int .i64 Bh, .slice Ao35 Ba.length co35] 36 (0, 0))) ∧ (w'.heap[Bm]? = some (.cells #[.int .i64 Bl, .slice Ao36 Bb.length co36] 36 (0, 0))) ∧ (w'.heap[Bp]? = some (.cells #[.int .i64 t226, .slice Ao22 t227.length co22] 36 (0, 0))) ∧ (w'.heap[s_.2.2]? = some (.cells #[.int .i64 0, .slice none 0 0] 36 (0, 0))) ∧ (w.heap.size ≤ s_.2.2) ∧ (w.heap.size ≤ s_.2.2) ∧ (Bq ≠ s_.2.2) ∧ (s_.2.2 ≠ Bq) ∧ (Br ≠ s_.2.2) ∧ (s_.2.2 ≠ Br) ∧ (Bj ≠ s_.2.2) ∧ (s_.2.2 ≠ Bj) ∧ (Bm ≠ s_.2.2) ∧ (s_.2.2 ≠ Bm) ∧ (Bp ≠ s_.2.2) ∧ (s_.2.2 ≠ Bp) ∧ (Below w.heap.size w w')) ?_ ?_
                rotate_left
                · intro hJ4_5_11
                  refine join_ (σ := Value × Value) 4 #[true, true, true, true, true, true, true, true, true, false, false, false, false] (fun s_ => [(23, .agg #[.int .i64 t234, s_.1]), (24, .agg #[.int .i64 t238, s_.2])]) (fun s_ w' => (w'.cell? ⟨Bm, 0, none⟩ = some (.int .i64 Bl) ∧ w'.cell? ⟨Bm, 1, none⟩ = some (.slice Ao36 Bb.length co36) ∧ w'.cell? ⟨Bj, 0, none⟩ = some (.int .i64 Bh) ∧ w'.cell? ⟨Bj, 1, none⟩ = some (.slice Ao35 Ba.length co35) ∧ w'.cell? ⟨Bp, 0, none⟩ = some (.int .i64 t226) ∧ w'.cell? ⟨Bp, 1, none⟩ = some (.slice Ao22 t227.length co22)) ∧ (Kd.R (Kd.int .i64) 2 w' w.heap.size (fun k_ => some k_ ≠ (s_.2 : Value).ownBlock ∧ some k_ ≠ (.slice Ao35 Ba.length co35 : Value).ownBlock ∧ some k_ ≠ (.slice Ao36 Bb.length co36 : Value).ownBlock ∧ some k_ ≠ (.slice Ao22 t227.length co22 : Value).ownBlock) s_.1 t235) ∧ (Kd.R (Kd.int .i64) 2 w' w.heap.size (fun k_ => some k_ ≠ (s_.1 : Value).ownBlock ∧ some k_ ≠ (.slice Ao35 Ba.length co35 : Value).ownBlock ∧ some k_ ≠ (.slice Ao36 Bb.length co36 : Value).ownBlock ∧ some k_ ≠ (.slice Ao22 t227.length co22 : Value).ownBlock) s_.2 t239) ∧ (Kd.R (Kd.int .i64) 2 w' w.heap.size (fun k_ => some k_ ≠ (s_.1 : Value).ownBlock ∧ some k_ ≠ (s_.2 : Value).ownBlock ∧ some k_ ≠ (.slice Ao36 Bb.length co36 : Value).ownBlock ∧ some k_ ≠ (.slice Ao22 t227.length co22 : Value).ownBlock) (.slice Ao35 Ba.length co35) Ba) ∧ (Kd.R (Kd.int .i64) 2 w' w.heap.size (fun k_ => some k_ ≠ (s_.1 : Value).ownBlock ∧ some k_ ≠ (s_.2 : Value).ownBlock ∧ some k_ ≠ (.slice Ao35 Ba.length co35 : Value).ownBlock ∧ some k_ ≠ (.slice Ao22 t227.length co22 : Value).ownBlock) (.slice Ao36 Bb.length co36) Bb) ∧ (Kd.R (Kd.int .i64) 2 w' w.heap.size (fun k_ => some k_ ≠ (s_.1 : Value).ownBlock ∧ some k_ ≠ (s_.2 : Value).ownBlock ∧ some k_ ≠ (.slice Ao35 Ba.length co35 : Value).ownBlock ∧ some k_ ≠ (.slice Ao36 Bb.length co36 : Value).ownBlock) (.slice Ao22 t227.length co22) t227) ∧ (w'.heap[Bq]? = some (.cells #[.int .i64 a0_0, .slice A0_1 l0_1.length c0_1] 36 (0, 0))) ∧ (w'.heap[Br]? = some (.cells #[.int .i64 0, .slice none 0 0] 36 (0, 0))) ∧ (w'.heap[Bj]? = some (.cells #[.int .i64 Bh, .slice Ao35 Ba.length co35] 36 (0, 0))) ∧ (w'.heap[Bm]? = some (.cells #[.int .i64 Bl, .slice Ao36 Bb.length co36] 36 (0, 0))) ∧ (w'.heap[Bp]? = some (.cells #[.int .i64 t226, .slice Ao22 t227.length co22] 36 (0, 0))) ∧ (Below w.heap.size w w')) ?_ ?_
                  rotate_left
                  · intro hJ4_5
                    refine join_ (σ := Value × Nat) 4 #[true, true, true, true, true, false, true, true, true, false, false, true, false] (fun s_ => [(23, .agg #[.int .i64 t234, s_.1]), (7, .pointer (some ⟨s_.2, 0, none⟩))]) (fun s_ w' => (w'.cell? ⟨Bm, 0, none⟩ = some (.int .i64 Bl) ∧ w'.cell? ⟨Bm, 1, none⟩ = some (.slice Ao36 Bb.length co36) ∧ w'.cell? ⟨Bj, 0, none⟩ = some (.int .i64 Bh) ∧ w'.cell? ⟨Bj, 1, none⟩ = some (.slice Ao35 Ba.length co35) ∧ w'.cell? ⟨Bp, 0, none⟩ = some (.int .i64 t226) ∧ w'.cell? ⟨Bp, 1, none⟩ = some (.slice Ao22 t227.length co22)) ∧ (Kd.R (Kd.int .i64) 2 w' w.heap.size (fun k_ => some k_ ≠ (.slice Ao35 Ba.length co35 : Value).ownBlock ∧ some k_ ≠ (.slice Ao36 Bb.length co36 : Value).ownBlock ∧ some k_ ≠ (.slice Ao22 t227.length co22 : Value).ownBlock) s_.1 t235) ∧ (Kd.R (Kd.int .i64) 2 w' w.heap.size (fun k_ => some k_ ≠ (s_.1 : Value).ownBlock ∧ some k_ ≠ (.slice Ao36 Bb.length co36 : Value).ownBlock ∧ some k_ ≠ (.slice Ao22 t227.length co22 : Value).ownBlock) (.slice Ao35 Ba.length co35) Ba) ∧ (Kd.R (Kd.int .i64) 2 w' w.heap.size (fun k_ => some k_ ≠ (s_.1 : Value).ownBlock ∧ some k_ ≠ (.slice Ao35 Ba.length co35 : Value).ownBlock ∧ some k_ ≠ (.slice Ao22 t227.length co22 : Value).ownBlock) (.slice Ao36 Bb.length co36) Bb) ∧ (Kd.R (Kd.int .i64) 2 w' w.heap.size (fun k_ => some k_ ≠ (s_.1 : Value).ownBlock ∧ some k_ ≠ (.slice Ao35 Ba.length co35 : Value).ownBlock ∧ some k_ ≠ (.slice Ao36 Bb.length co36 : Value).ownBlock) (.slice Ao22 t227.length co22) t227) ∧ (w'.heap[Bq]? = some (.cells #[.int .i64 a0_0, .slice A0_1 l0_1.length c0_1] 36 (0, 0))) ∧ (w'.heap[Br]? = some (.cells #[.int .i64 0, .slice none 0 0] 36 (0, 0))) ∧ (w'.heap[Bj]? = some (.cells #[.int .i64 Bh, .slice Ao35 Ba.length co35] 36 (0, 0))) ∧ (w'.heap[Bm]? = some (.cells #[.int .i64 Bl, .slice Ao36 Bb.length co36] 36 (0, 0))) ∧ (w'.heap[Bp]? = some (.cells #[.int .i64 t226, .slice Ao22 t227.length co22] 36 (0, 0))) ∧ (w'.heap[s_.2]? = some (.cells #[.int .i64 0, .slice none 0 0] 36 (0, 0))) ∧ (w.heap.size ≤ s_.2) ∧ (w.heap.size ≤ s_.2) ∧ (Bq ≠ s_.2) ∧ (s_.2 ≠ Bq) ∧ (Br ≠ s_.2) ∧ (s_.2 ≠ Br) ∧ (Bj ≠ s_.2) ∧ (s_.2 ≠ Bj) ∧ (Bm ≠ s_.2) ∧ (s_.2 ≠ Bm) ∧ (Bp ≠ s_.2) ∧ (s_.2 ≠ Bp) ∧ (Below w.heap.size w w')) ?_ ?_
                    rotate_left
                    · intro hJ4_11
                      refine join_ (σ := Value) 5 #[true, true, true, true, true, false, true, true, true, false, false, false, false] (fun s_ => [(23, .agg #[.int .i64 t234, s_])]) (fun s_ w' => (w'.cell? ⟨Bm, 0, none⟩ = some (.int .i64 Bl) ∧ w'.cell? ⟨Bm, 1, none⟩ = some (.slice Ao36 Bb.length co36) ∧ w'.cell? ⟨Bj, 0, none⟩ = some (.int .i64 Bh) ∧ w'.cell? ⟨Bj, 1, none⟩ = some (.slice Ao35 Ba.length co35) ∧ w'.cell? ⟨Bp, 0, none⟩ = some (.int .i64 t226) ∧ w'.cell? ⟨Bp, 1, none⟩ = some (.slice Ao22 t227.length co22)) ∧ (Kd.R (Kd.int .i64) 2 w' w.heap.size (fun k_ => some k_ ≠ (.slice Ao35 Ba.length co35 : Value).ownBlock ∧ some k_ ≠ (.slice Ao36 Bb.length co36 : Value).ownBlock ∧ some k_ ≠ (.slice Ao22 t227.length co22 : Value).ownBlock) s_ t235) ∧ (Kd.R (Kd.int .i64) 2 w' w.heap.size (fun k_ => some k_ ≠ (s_ : Value).ownBlock ∧ some k_ ≠ (.slice Ao36 Bb.length co36 : Value).ownBlock ∧ some k_ ≠ (.slice Ao22 t227.length co22 : Value).ownBlock) (.slice Ao35 Ba.length co35) Ba) ∧ (Kd.R (Kd.int .i64) 2 w' w.heap.size (fun k_ => some k_ ≠ (s_ : Value).ownBlock ∧ some k_ ≠ (.slice Ao35 Ba.length co35 : Value).ownBlock ∧ some k_ ≠ (.slice Ao22 t227.length co22 : Value).ownBlock) (.slice Ao36 Bb.length co36) Bb) ∧ (Kd.R (Kd.int .i64) 2 w' w.heap.size (fun k_ => some k_ ≠ (s_ : Value).ownBlock ∧ some k_ ≠ (.slice Ao35 Ba.length co35 : Value).ownBlock ∧ some k_ ≠ (.slice Ao36 Bb.length co36 : Value).ownBlock) (.slice Ao22 t227.length co22) t227) ∧ (w'.heap[Bq]? = some (.cells #[.int .i64 a0_0, .slice A0_1 l0_1.length c0_1] 36 (0, 0))) ∧ (w'.heap[Br]? = some (.cells #[.int .i64 0, .slice none 0 0] 36 (0, 0))) ∧ (w'.heap[Bj]? = some (.cells #[.int .i64 Bh, .slice Ao35 Ba.length co35] 36 (0, 0))) ∧ (w'.heap[Bm]? = some (.cells #[.int .i64 Bl, .slice Ao36 Bb.length co36] 36 (0, 0))) ∧ (w'.heap[Bp]? = some (.cells #[.int .i64 t226, .slice Ao22 t227.length co22] 36 (0, 0))) ∧ (Below w.heap.size w w')) ?_ ?_
                      rotate_left
                      · intro hJ4
                        refine join_ (σ := Nat) 5 #[true, true, true, true, false, false, true, true, true, false, false, true, false] (fun s_ => [(7, .pointer (some ⟨s_, 0, none⟩))]) (fun s_ w' => (w'.cell? ⟨Bm, 0, none⟩ = some (.int .i64 Bl) ∧ w'.cell? ⟨Bm, 1, none⟩ = some (.slice Ao36 Bb.length co36) ∧ w'.cell? ⟨Bj, 0, none⟩ = some (.int .i64 Bh) ∧ w'.cell? ⟨Bj, 1, none⟩ = some (.slice Ao35 Ba.length co35) ∧ w'.cell? ⟨Bp, 0, none⟩ = some (.int .i64 t226) ∧ w'.cell? ⟨Bp, 1, none⟩ = some (.slice Ao22 t227.length co22)) ∧ (Kd.R (Kd.int .i64) 2 w' w.heap.size (fun k_ => some k_ ≠ (.slice Ao36 Bb.length co36 : Value).ownBlock ∧ some k_ ≠ (.slice Ao22 t227.length co22 : Value).ownBlock) (.slice Ao35 Ba.length co35) Ba) ∧ (Kd.R (Kd.int .i64) 2 w' w.heap.size (fun k_ => some k_ ≠ (.slice Ao35 Ba.length co35 : Value).ownBlock ∧ some k_ ≠ (.slice Ao22 t227.length co22 : Value).ownBlock) (.slice Ao36 Bb.length co36) Bb) ∧ (Kd.R (Kd.int .i64) 2 w' w.heap.size (fun k_ => some k_ ≠ (.slice Ao35 Ba.length co35 : Value).ownBlock ∧ some k_ ≠ (.slice Ao36 Bb.length co36 : Value).ownBlock) (.slice Ao22 t227.length co22) t227) ∧ (w'.heap[Bq]? = some (.cells #[.int .i64 a0_0, .slice A0_1 l0_1.length c0_1] 36 (0, 0))) ∧ (w'.heap[Br]? = some (.cells #[.int .i64 0, .slice none 0 0] 36 (0, 0))) ∧ (w'.heap[Bj]? = some (.cells #[.int .i64 Bh, .slice Ao35 Ba.length co35] 36 (0, 0))) ∧ (w'.heap[Bm]? = some (.cells #[.int .i64 Bl, .slice Ao36 Bb.length co36] 36 (0, 0))) ∧ (w'.heap[Bp]? = some (.cells #[.int .i64 t226, .slice Ao22 t227.length co22] 36 (0, 0))) ∧ (w'.heap[s_]? = some (.cells #[.int .i64 0, .slice none 0 0] 36 (0, 0))) ∧ (w.heap.size ≤ s_) ∧ (w.heap.size ≤ s_) ∧ (Bq ≠ s_) ∧ (s_ ≠ Bq) ∧ (Br ≠ s_) ∧ (s_ ≠ Br) ∧ (Bj ≠ s_) ∧ (s_ ≠ Bj) ∧ (Bm ≠ s_) ∧ (s_ ≠ Bm) ∧ (Bp ≠ s_) ∧ (s_ ≠ Bp) ∧ (Below w.heap.size w w')) ?_ ?_
                        rotate_left
                        · intro hJ11
                          refine two_ (i := 4) (j := 11) (Ni := some 23) (Nj := some 7) #[true, true, true, true, true, false, true, true, true, false, false, false, false] #[true, true, true, true, false, false, true, true, true, false, false, true, false] rfl rfl rfl rfl (two_of HT_.out (by kernel_rfl)) (by decide) (by decide) (fun K hK => ?_) (fun K hK => ?_)
                          · skip
                            refine goes_ Try.func18 (by kernel_rfl) rfl #[.agg #[.int .i64 Bh, .slice Ao35 Ba.length co35], .int .i64 (wrap64 (Ch + 1))] (by rfl) rfl rfl (by (try simp only [List.map_toArray, List.map_cons, List.map_nil]); first | done | rfl | (simp only [List.length_drop, List.length_take]; rfl)) ?_
                            with_reducible refine (spec_l02Left.calls k1 Bh _ _ Ba (wrap64 (Ch + 1)) t234 t235 _ ?side1 ?side2 A27.out).mono ?_
                            (case side1 => repeat (first | exact (Kd.R_reads' Bd.out).2.2 | (with_reducible refine Kd.C_alloc ?_ _) | (with_reducible refine Kd.C_drewN ?_ _) | (with_reducible refine Kd.C_drew ?_)))
                            (case side2 => exact (Kd.R_reads' Bd.out).2.1)
                            rintro e w38 ⟨v236, rfl, ho0, hb⟩
                            refine ⟨_, rfl, ?_⟩
                            have n0_ := Aside0.mk (Kd.R_elder' Bd.out (Kd.R_base ho0) hb)
                            have n1_ := Aside0.mk (Kd.R_elder' Bf.out (Kd.R_base ho0) hb)
                            have n2_ := Aside0.mk (Kd.R_elder' Be.out (Kd.R_base ho0) hb)
                            have n3_ := Aside0.mk (Kd.R_lower (Kd.R_new' (Kd.R_new' (Kd.R_new' ho0 (Kd.R_lt Bd.out)) (Kd.R_lt Bf.out)) (Kd.R_lt Be.out)) (below_size (by repeat (first | (with_reducible first | exact HB.out | apply below_alloc | apply pw_below_drewN | apply below_drew1 | refine below_set ?_ GE224.out | refine below_set ?_ GE225.out | refine below_set ?_ GE230.out | refine below_set ?_ GE231.out | refine below_set ?_ GE232.out) | exact HB.out))))
                            have n4_ := Aside0.mk (blk_below (g := Bq) (o := .cells #[.int .i64 a0_0, .slice A0_1 l0_1.length c0_1] 36 (0, 0)) Bn.out hb)
                            have n5_ := Aside0.mk (blk_below (g := Br) (o := .cells #[.int .i64 0, .slice none 0 0] 36 (0, 0)) Bo.out hb)
                            have n6_ := Aside0.mk (blk_below (g := Bj) (o := .cells #[.int .i64 Bh, .slice Ao35 Ba.length co35] 36 (0, 0)) Bg.out hb)
                            have n7_ := Aside0.mk (blk_below (g := Bm) (o := .cells #[.int .i64 Bl, .slice Ao36 Bb.length co36] 36 (0, 0)) Bi.out hb)
                            have n8_ := Aside0.mk (blk_below (g := Bp) (o := .cells #[.int .i64 t226, .slice Ao22 t227.length co22] 36 (0, 0)) Bk.out hb)
                            have n9_ := Aside0.mk (below_step (by repeat (first | (with_reducible first | exact HB.out | apply below_alloc | apply pw_below_drewN | apply below_drew1 | refine below_set ?_ GE224.out | refine below_set ?_ GE225.out | refine below_set ?_ GE230.out | refine below_set ?_ GE231.out | refine below_set ?_ GE232.out) | exact HB.out)) hb)
                            clear Bd Bf Be Bn Bo Bg Bi Bk HB
                            have Bd := n0_
                            have Bf := n1_
                            have Be := n2_
                            have Bs := n3_
                            have Bn := n4_
                            have Bo := n5_
                            have Bg := n6_
                            have Bi := n7_
                            have Bk := n8_
                            have HB := n9_
                            clear n0_ n1_ n2_ n3_ n4_ n5_ n6_ n7_ n8_ n9_
                            (try clear hb)
                            (try clear hb2)
                            (try clear hk)
                            (try clear hi)
                            (try clear ho0)
                            refine hK.out _ _ ⟨(blk_cell Bi.out 0).trans rfl, (blk_cell Bi.out 1).trans rfl, (blk_cell Bg.out 0).trans rfl, (blk_cell Bg.out 1).trans rfl, (blk_cell Bk.out 0).trans rfl, (blk_cell Bk.out 1).trans rfl⟩ (fun hHeld => ?_)
                            clear hK K
                            refine norm_ (a' := ?_) ?_ ?_
                            rotate_left
                            · show Act.put _ (some 23) _ = _
                              simp only [Act.put, List.setIfInBounds_toArray, List.set_cons_zero, List.set_cons_succ, i64_w, i32_w]
                              rfl
                            exact norm_ (by first | (simp only [putAll, Act.put, List.setIfInBounds_toArray, List.set_cons_zero, List.set_cons_succ]; done) | (simp only [putAll, Act.put, List.setIfInBounds_toArray, List.set_cons_zero, List.set_cons_succ]; rfl)) (hJ4 (v236) _ ⟨hHeld, (by exact Kd.R_mono Bs.out (fun _ hk => ⟨hk.1.1.2, ⟨hk.1.2, hk.2⟩⟩)), (by exact Kd.R_mono Bd.out (fun _ hk => ⟨hk.2, ⟨hk.1.1, hk.1.2⟩⟩)), (by exact Kd.R_mono Bf.out (fun _ hk => ⟨hk.2, ⟨hk.1.1, hk.1.2⟩⟩)), (by exact Kd.R_mono Be.out (fun _ hk => ⟨hk.2, ⟨hk.1.1, hk.1.2⟩⟩)), Bn.out, Bo.out, Bg.out, Bi.out, Bk.out, (by repeat (first | (with_reducible first | exact HB.out | apply below_alloc | apply pw_below_drewN | apply below_drew1 | refine below_set ?_ GE224.out | refine below_set ?_ GE225.out | refine below_set ?_ GE230.out | refine below_set ?_ GE231.out | refine below_set ?_ GE232.out) | exact HB.out))⟩)
                          · skip
                            refine box_step ?hg (N := 7) ?hd (cs := #[.int .i64 0, .slice none 0 0]) (t := 36) ?hr ?_; (case hd => rfl); (case hg => rfl); (case hr => first | (go_simp; done) | (go_simp; rfl))
                            intro Bc hg w38 hbox hb
                            have n0_ := Aside0.mk (Kd.R_below Bd.out hb)
                            have n1_ := Aside0.mk (Kd.R_below Bf.out hb)
                            have n2_ := Aside0.mk (Kd.R_below Be.out hb)
                            have n3_ := Aside0.mk (blk_below (g := Bq) (o := .cells #[.int .i64 a0_0, .slice A0_1 l0_1.length c0_1] 36 (0, 0)) Bn.out hb)
                            have n4_ := Aside0.mk (blk_below (g := Br) (o := .cells #[.int .i64 0, .slice none 0 0] 36 (0, 0)) Bo.out hb)
                            have n5_ := Aside0.mk (blk_below (g := Bj) (o := .cells #[.int .i64 Bh, .slice Ao35 Ba.length co35] 36 (0, 0)) Bg.out hb)
                            have n6_ := Aside0.mk (blk_below (g := Bm) (o := .cells #[.int .i64 Bl, .slice Ao36 Bb.length co36] 36 (0, 0)) Bi.out hb)
                            have n7_ := Aside0.mk (blk_below (g := Bp) (o := .cells #[.int .i64 t226, .slice Ao22 t227.length co22] 36 (0, 0)) Bk.out hb)
                            have n8_ := Aside0.mk (below_step (by repeat (first | (with_reducible first | exact HB.out | apply below_alloc | apply pw_below_drewN | apply below_drew1 | refine below_set ?_ GE224.out | refine below_set ?_ GE225.out | refine below_set ?_ GE230.out | refine below_set ?_ GE231.out | refine below_set ?_ GE232.out) | exact HB.out)) hb)
                            have n9_ := Aside0.mk (hbox)
                            have n10_ := Aside0.mk ((by rw [hg]; exact (below_size (by repeat (first | (with_reducible first | exact HB.out | apply below_alloc | apply pw_below_drewN | apply below_drew1 | refine below_set ?_ GE224.out | refine below_set ?_ GE225.out | refine below_set ?_ GE230.out | refine below_set ?_ GE231.out | refine below_set ?_ GE232.out) | exact HB.out))) : w.heap.size ≤ Bc))
                            have n11_ := Aside0.mk ((by rw [hg]; exact (below_size (by repeat (first | (with_reducible first | exact HB.out | apply below_alloc | apply pw_below_drewN | apply below_drew1 | refine below_set ?_ GE224.out | refine below_set ?_ GE225.out | refine below_set ?_ GE230.out | refine below_set ?_ GE231.out | refine below_set ?_ GE232.out) | exact HB.out))) : w.heap.size ≤ Bc))
                            have n12_ := Aside0.mk ((by rw [hg]; exact Nat.ne_of_lt (blk_lt (g := Bq) (o := .cells #[.int .i64 a0_0, .slice A0_1 l0_1.length c0_1] 36 (0, 0)) Bn.out) : Bq ≠ Bc))
                            have n13_ := Aside0.mk ((by rw [hg]; exact Nat.ne_of_gt (blk_lt (g := Bq) (o := .cells #[.int .i64 a0_0, .slice A0_1 l0_1.length c0_1] 36 (0, 0)) Bn.out) : Bc ≠ Bq))
                            have n14_ := Aside0.mk ((by rw [hg]; exact Nat.ne_of_lt (blk_lt (g := Br) (o := .cells #[.int .i64 0, .slice none 0 0] 36 (0, 0)) Bo.out) : Br ≠ Bc))
                            have n15_ := Aside0.mk ((by rw [hg]; exact Nat.ne_of_gt (blk_lt (g := Br) (o := .cells #[.int .i64 0, .slice none 0 0] 36 (0, 0)) Bo.out) : Bc ≠ Br))
                            have n16_ := Aside0.mk ((by rw [hg]; exact Nat.ne_of_lt (blk_lt (g := Bj) (o := .cells #[.int .i64 Bh, .slice Ao35 Ba.length co35] 36 (0, 0)) Bg.out) : Bj ≠ Bc))
                            have n17_ := Aside0.mk ((by rw [hg]; exact Nat.ne_of_gt (blk_lt (g := Bj) (o := .cells #[.int .i64 Bh, .slice Ao35 Ba.length co35] 36 (0, 0)) Bg.out) : Bc ≠ Bj))
                            have n18_ := Aside0.mk ((by rw [hg]; exact Nat.ne_of_lt (blk_lt (g := Bm) (o := .cells #[.int .i64 Bl, .slice Ao36 Bb.length co36] 36 (0, 0)) Bi.out) : Bm ≠ Bc))
                            have n19_ := Aside0.mk ((by rw [hg]; exact Nat.ne_of_gt (blk_lt (g := Bm) (o := .cells #[.int .i64 Bl, .slice Ao36 Bb.length co36] 36 (0, 0)) Bi.out) : Bc ≠ Bm))
                            have n20_ := Aside0.mk ((by rw [hg]; exact Nat.ne_of_lt (blk_lt (g := Bp) (o := .cells #[.int .i64 t226, .slice Ao22 t227.length co22] 36 (0, 0)) Bk.out) : Bp ≠ Bc))
                            have n21_ := Aside0.mk ((by rw [hg]; exact Nat.ne_of_gt (blk_lt (g := Bp) (o := .cells #[.int .i64 t226, .slice Ao22 t227.length co22] 36 (0, 0)) Bk.out) : Bc ≠ Bp))
                            clear Bd Bf Be Bn Bo Bg Bi Bk HB
                            have Bd := n0_
                            have Bf := n1_
                            have Be := n2_
                            have Bn := n3_
                            have Bo := n4_
                            have Bg := n5_
                            have Bi := n6_
                            have Bk := n7_
                            have HB := n8_
                            have Bt := n9_
                            have GW250 := n10_
                            have GE250 := n11_
                            have Bz := n12_
                            have Cc := n13_
                            have Ca := n14_
                            have Cd := n15_
                            have Bv := n16_
                            have Cb := n17_
                            have Bw := n18_
                            have Ce := n19_
                            have Bx := n20_
                            have Cf := n21_
                            clear n0_ n1_ n2_ n3_ n4_ n5_ n6_ n7_ n8_ n9_ n10_ n11_ n12_ n13_ n14_ n15_ n16_ n17_ n18_ n19_ n20_ n21_ hb hbox hg
                            refine hK.out _ _ ⟨(blk_cell Bi.out 0).trans rfl, (blk_cell Bi.out 1).trans rfl, (blk_cell Bg.out 0).trans rfl, (blk_cell Bg.out 1).trans rfl, (blk_cell Bk.out 0).trans rfl, (blk_cell Bk.out 1).trans rfl⟩ (fun hHeld => ?_)
                            clear hK K
                            refine norm_ (a' := ?_) ?_ ?_
                            rotate_left
                            · show Act.put _ (some 7) _ = _
                              simp only [Act.put, List.setIfInBounds_toArray, List.set_cons_zero, List.set_cons_succ, i64_w, i32_w]
                              rfl
                            exact norm_ (by first | (simp only [putAll, Act.put, List.setIfInBounds_toArray, List.set_cons_zero, List.set_cons_succ]; done) | (simp only [putAll, Act.put, List.setIfInBounds_toArray, List.set_cons_zero, List.set_cons_succ]; rfl)) (hJ11 (Bc) _ ⟨hHeld, Bd.out, Bf.out, Be.out, Bn.out, Bo.out, Bg.out, Bi.out, Bk.out, Bt.out, GW250.out, GE250.out, Bz.out, Cc.out, Ca.out, Cd.out, Bv.out, Cb.out, Bw.out, Ce.out, Bx.out, Cf.out, (by repeat (first | (with_reducible first | exact HB.out | apply below_alloc | apply pw_below_drewN | apply below_drew1 | refine below_set ?_ GE224.out | refine below_set ?_ GE225.out | refine below_set ?_ GE230.out | refine below_set ?_ GE231.out | refine below_set ?_ GE232.out | refine below_set ?_ GE250.out) | exact HB.out))⟩)
                        · skip
                          rintro Bc w39 ⟨hS_, h0_, h1_, h2_, h3_, h4_, h5_, h6_, h7_, h8_, h9_, h10_, h11_, h12_, h13_, h14_, h15_, h16_, h17_, h18_, h19_, h20_, h21_⟩
                          have n0_ : Aside0 (Kd.R (Kd.int .i64) 2 w39 w.heap.size (fun k_ => some k_ ≠ (.slice Ao36 Bb.length co36 : Value).ownBlock ∧ some k_ ≠ (.slice Ao22 t227.length co22 : Value).ownBlock) (.slice Ao35 Ba.length co35) Ba) := ⟨h0_⟩
                          have n1_ : Aside0 (Kd.R (Kd.int .i64) 2 w39 w.heap.size (fun k_ => some k_ ≠ (.slice Ao35 Ba.length co35 : Value).ownBlock ∧ some k_ ≠ (.slice Ao22 t227.length co22 : Value).ownBlock) (.slice Ao36 Bb.length co36) Bb) := ⟨h1_⟩
                          have n2_ : Aside0 (Kd.R (Kd.int .i64) 2 w39 w.heap.size (fun k_ => some k_ ≠ (.slice Ao35 Ba.length co35 : Value).ownBlock ∧ some k_ ≠ (.slice Ao36 Bb.length co36 : Value).ownBlock) (.slice Ao22 t227.length co22) t227) := ⟨h2_⟩
                          have n3_ : Aside0 (w39.heap[Bq]? = some (.cells #[.int .i64 a0_0, .slice A0_1 l0_1.length c0_1] 36 (0, 0))) := ⟨h3_⟩
                          have n4_ : Aside0 (w39.heap[Br]? = some (.cells #[.int .i64 0, .slice none 0 0] 36 (0, 0))) := ⟨h4_⟩
                          have n5_ : Aside0 (w39.heap[Bj]? = some (.cells #[.int .i64 Bh, .slice Ao35 Ba.length co35] 36 (0, 0))) := ⟨h5_⟩
                          have n6_ : Aside0 (w39.heap[Bm]? = some (.cells #[.int .i64 Bl, .slice Ao36 Bb.length co36] 36 (0, 0))) := ⟨h6_⟩
                          have n7_ : Aside0 (w39.heap[Bp]? = some (.cells #[.int .i64 t226, .slice Ao22 t227.length co22] 36 (0, 0))) := ⟨h7_⟩
                          have n8_ : Aside0 (w39.heap[Bc]? = some (.cells #[.int .i64 0, .slice none 0 0] 36 (0, 0))) := ⟨h8_⟩
                          have n9_ : Aside0 (w.heap.size ≤ Bc) := ⟨h9_⟩
                          have n10_ : Aside0 (w.heap.size ≤ Bc) := ⟨h10_⟩
                          have n11_ : Aside0 (Bq ≠ Bc) := ⟨h11_⟩
                          have n12_ : Aside0 (Bc ≠ Bq) := ⟨h12_⟩
                          have n13_ : Aside0 (Br ≠ Bc) := ⟨h13_⟩
                          have n14_ : Aside0 (Bc ≠ Br) := ⟨h14_⟩
                          have n15_ : Aside0 (Bj ≠ Bc) := ⟨h15_⟩
                          have n16_ : Aside0 (Bc ≠ Bj) := ⟨h16_⟩
                          have n17_ : Aside0 (Bm ≠ Bc) := ⟨h17_⟩
                          have n18_ : Aside0 (Bc ≠ Bm) := ⟨h18_⟩
                          have n19_ : Aside0 (Bp ≠ Bc) := ⟨h19_⟩
                          have n20_ : Aside0 (Bc ≠ Bp) := ⟨h20_⟩
                          have n21_ : Aside0 (Below w.heap.size w w39) := ⟨h21_⟩
                          clear Bd Bf Be Bn Bo Bg Bi Bk HB h0_ h1_ h2_ h3_ h4_ h5_ h6_ h7_ h8_ h9_ h10_ h11_ h12_ h13_ h14_ h15_ h16_ h17_ h18_ h19_ h20_ h21_
                          have Bd := n0_
                          have Bf := n1_
                          have Be := n2_
                          have Bn := n3_
                          have Bo := n4_
                          have Bg := n5_
                          have Bi := n6_
                          have Bk := n7_
                          have Bt := n8_
                          have GW250 := n9_
                          have GE250 := n10_
                          have Bz := n11_
                          have Cc := n12_
                          have Ca := n13_
                          have Cd := n14_
                          have Bv := n15_
                          have Cb := n16_
                          have Bw := n17_
                          have Ce := n18_
                          have Bx := n19_
                          have Cf := n20_
                          have HB := n21_
                          clear n0_ n1_ n2_ n3_ n4_ n5_ n6_ n7_ n8_ n9_ n10_ n11_ n12_ n13_ n14_ n15_ n16_ n17_ n18_ n19_ n20_ n21_
                          have hHeld : w39.cell? ⟨Bm, 0, none⟩ = some (.int .i64 Bl) ∧ w39.cell? ⟨Bm, 1, none⟩ = some (.slice Ao36 Bb.length co36) ∧ w39.cell? ⟨Bj, 0, none⟩ = some (.int .i64 Bh) ∧ w39.cell? ⟨Bj, 1, none⟩ = some (.slice Ao35 Ba.length co35) ∧ w39.cell? ⟨Bp, 0, none⟩ = some (.int .i64 t226) ∧ w39.cell? ⟨Bp, 1, none⟩ = some (.slice Ao22 t227.length co22) := hS_
                          refine norm_ (a' := ?_) ?_ ?_
                          rotate_left
                          · simp only [putAll, Act.put, List.setIfInBounds_toArray, List.set_cons_zero, List.set_cons_succ]
                            rfl
                          refine one_ (i := 4) (N := some 23) #[true, true, true, true, true, false, true, true, true, false, false, true, false] rfl rfl (one_of HT_.out (by kernel_rfl)) (by decide) (fun K hK => ?_)
                          refine goes_ Try.func18 (by kernel_rfl) rfl #[.agg #[.int .i64 Bh, .slice Ao35 Ba.length co35], .int .i64 (wrap64 (Ch + 1))] (by rfl) rfl rfl (by (try simp only [List.map_toArray, List.map_cons, List.map_nil]); first | done | rfl | (simp only [List.length_drop, List.length_take]; rfl)) ?_
                          with_reducible refine (spec_l02Left.calls k1 Bh _ _ Ba (wrap64 (Ch + 1)) t234 t235 _ ?side1 ?side2 A27.out).mono ?_
                          (case side1 => repeat (first | exact (Kd.R_reads' Bd.out).2.2 | (with_reducible refine Kd.C_alloc ?_ _) | (with_reducible refine Kd.C_drewN ?_ _) | (with_reducible refine Kd.C_drew ?_)))
                          (case side2 => exact (Kd.R_reads' Bd.out).2.1)
                          rintro e w40 ⟨v236, rfl, ho0, hb⟩
                          refine ⟨_, rfl, ?_⟩
                          have n0_ := Aside0.mk (Kd.R_elder' Bd.out (Kd.R_base ho0) hb)
                          have n1_ := Aside0.mk (Kd.R_elder' Bf.out (Kd.R_base ho0) hb)
                          have n2_ := Aside0.mk (Kd.R_elder' Be.out (Kd.R_base ho0) hb)
                          have n3_ := Aside0.mk (Kd.R_lower (Kd.R_new' (Kd.R_new' (Kd.R_new' ho0 (Kd.R_lt Bd.out)) (Kd.R_lt Bf.out)) (Kd.R_lt Be.out)) (below_size (by repeat (first | (with_reducible first | exact HB.out | apply below_alloc | apply pw_below_drewN | apply below_drew1 | refine below_set ?_ GE224.out | refine below_set ?_ GE225.out | refine below_set ?_ GE230.out | refine below_set ?_ GE231.out | refine below_set ?_ GE232.out | refine below_set ?_ GE250.out) | exact HB.out))))
                          have n4_ := Aside0.mk (blk_below (g := Bq) (o := .cells #[.int .i64 a0_0, .slice A0_1 l0_1.length c0_1] 36 (0, 0)) Bn.out hb)
                          have n5_ := Aside0.mk (blk_below (g := Br) (o := .cells #[.int .i64 0, .slice none 0 0] 36 (0, 0)) Bo.out hb)
                          have n6_ := Aside0.mk (blk_below (g := Bj) (o := .cells #[.int .i64 Bh, .slice Ao35 Ba.length co35] 36 (0, 0)) Bg.out hb)
                          have n7_ := Aside0.mk (blk_below (g := Bm) (o := .cells #[.int .i64 Bl, .slice Ao36 Bb.length co36] 36 (0, 0)) Bi.out hb)
                          have n8_ := Aside0.mk (blk_below (g := Bp) (o := .cells #[.int .i64 t226, .slice Ao22 t227.length co22] 36 (0, 0)) Bk.out hb)
                          have n9_ := Aside0.mk (blk_below (g := Bc) (o := .cells #[.int .i64 0, .slice none 0 0] 36 (0, 0)) Bt.out hb)
                          have n10_ := Aside0.mk (below_step (by repeat (first | (with_reducible first | exact HB.out | apply below_alloc | apply pw_below_drewN | apply below_drew1 | refine below_set ?_ GE224.out | refine below_set ?_ GE225.out | refine below_set ?_ GE230.out | refine below_set ?_ GE231.out | refine below_set ?_ GE232.out | refine below_set ?_ GE250.out) | exact HB.out)) hb)
                          clear Bd Bf Be Bn Bo Bg Bi Bk Bt HB
                          have Bd := n0_
                          have Bf := n1_
                          have Be := n2_
                          have Bs := n3_
                          have Bn := n4_
                          have Bo := n5_
                          have Bg := n6_
                          have Bi := n7_
                          have Bk := n8_
                          have Bt := n9_
                          have HB := n10_
                          clear n0_ n1_ n2_ n3_ n4_ n5_ n6_ n7_ n8_ n9_ n10_
                          (try clear hb)
                          (try clear hb2)
                          (try clear hk)
                          (try clear hi)
                          (try clear ho0)
                          refine hK.out _ _ ⟨(blk_cell Bi.out 0).trans rfl, (blk_cell Bi.out 1).trans rfl, (blk_cell Bg.out 0).trans rfl, (blk_cell Bg.out 1).trans rfl, (blk_cell Bk.out 0).trans rfl, (blk_cell Bk.out 1).trans rfl⟩ (fun hHeld => ?_)
                          clear hK K
                          refine norm_ (a' := ?_) ?_ ?_
                          rotate_left
                          · show Act.put _ (some 23) _ = _
                            simp only [Act.put, List.setIfInBounds_toArray, List.set_cons_zero, List.set_cons_succ, i64_w, i32_w]
                            rfl
                          exact norm_ (by first | (simp only [putAll, Act.put, List.setIfInBounds_toArray, List.set_cons_zero, List.set_cons_succ]; done) | (simp only [putAll, Act.put, List.setIfInBounds_toArray, List.set_cons_zero, List.set_cons_succ]; rfl)) (hJ4_11 (v236, Bc) _ ⟨hHeld, (by exact Kd.R_mono Bs.out (fun _ hk => ⟨hk.1.1.2, ⟨hk.1.2, hk.2⟩⟩)), (by exact Kd.R_mono Bd.out (fun _ hk => ⟨hk.2, ⟨hk.1.1, hk.1.2⟩⟩)), (by exact Kd.R_mono Bf.out (fun _ hk => ⟨hk.2, ⟨hk.1.1, hk.1.2⟩⟩)), (by exact Kd.R_mono Be.out (fun _ hk => ⟨hk.2, ⟨hk.1.1, hk.1.2⟩⟩)), Bn.out, Bo.out, Bg.out, Bi.out, Bk.out, Bt.out, GW250.out, GE250.out, Bz.out, Cc.out, Ca.out, Cd.out, Bv.out, Cb.out, Bw.out, Ce.out, Bx.out, Cf.out, (by repeat (first | (with_reducible first | exact HB.out | apply below_alloc | apply pw_below_drewN | apply below_drew1 | refine below_set ?_ GE224.out | refine below_set ?_ GE225.out | refine below_set ?_ GE230.out | refine below_set ?_ GE231.out | refine below_set ?_ GE232.out | refine below_set ?_ GE250.out) | exact HB.out))⟩)
                      · skip
                        rintro v236 w39 ⟨hS_, h0_, h1_, h2_, h3_, h4_, h5_, h6_, h7_, h8_, h9_⟩
                        have n0_ : Aside0 (Kd.R (Kd.int .i64) 2 w39 w.heap.size (fun k_ => some k_ ≠ (.slice Ao35 Ba.length co35 : Value).ownBlock ∧ some k_ ≠ (.slice Ao36 Bb.length co36 : Value).ownBlock ∧ some k_ ≠ (.slice Ao22 t227.length co22 : Value).ownBlock) v236 t235) := ⟨h0_⟩
                        have n1_ : Aside0 (Kd.R (Kd.int .i64) 2 w39 w.heap.size (fun k_ => some k_ ≠ (v236 : Value).ownBlock ∧ some k_ ≠ (.slice Ao36 Bb.length co36 : Value).ownBlock ∧ some k_ ≠ (.slice Ao22 t227.length co22 : Value).ownBlock) (.slice Ao35 Ba.length co35) Ba) := ⟨h1_⟩
                        have n2_ : Aside0 (Kd.R (Kd.int .i64) 2 w39 w.heap.size (fun k_ => some k_ ≠ (v236 : Value).ownBlock ∧ some k_ ≠ (.slice Ao35 Ba.length co35 : Value).ownBlock ∧ some k_ ≠ (.slice Ao22 t227.length co22 : Value).ownBlock) (.slice Ao36 Bb.length co36) Bb) := ⟨h2_⟩
                        have n3_ : Aside0 (Kd.R (Kd.int .i64) 2 w39 w.heap.size (fun k_ => some k_ ≠ (v236 : Value).ownBlock ∧ some k_ ≠ (.slice Ao35 Ba.length co35 : Value).ownBlock ∧ some k_ ≠ (.slice Ao36 Bb.length co36 : Value).ownBlock) (.slice Ao22 t227.length co22) t227) := ⟨h3_⟩
                        have n4_ : Aside0 (w39.heap[Bq]? = some (.cells #[.int .i64 a0_0, .slice A0_1 l0_1.length c0_1] 36 (0, 0))) := ⟨h4_⟩
                        have n5_ : Aside0 (w39.heap[Br]? = some (.cells #[.int .i64 0, .slice none 0 0] 36 (0, 0))) := ⟨h5_⟩
                        have n6_ : Aside0 (w39.heap[Bj]? = some (.cells #[.int .i64 Bh, .slice Ao35 Ba.length co35] 36 (0, 0))) := ⟨h6_⟩
                        have n7_ : Aside0 (w39.heap[Bm]? = some (.cells #[.int .i64 Bl, .slice Ao36 Bb.length co36] 36 (0, 0))) := ⟨h7_⟩
                        have n8_ : Aside0 (w39.heap[Bp]? = some (.cells #[.int .i64 t226, .slice Ao22 t227.length co22] 36 (0, 0))) := ⟨h8_⟩
                        have n9_ : Aside0 (Below w.heap.size w w39) := ⟨h9_⟩
                        clear Bd Bf Be Bn Bo Bg Bi Bk HB h0_ h1_ h2_ h3_ h4_ h5_ h6_ h7_ h8_ h9_
                        have Bs := n0_
                        have Bd := n1_
                        have Bf := n2_
                        have Be := n3_
                        have Bn := n4_
                        have Bo := n5_
                        have Bg := n6_
                        have Bi := n7_
                        have Bk := n8_
                        have HB := n9_
                        clear n0_ n1_ n2_ n3_ n4_ n5_ n6_ n7_ n8_ n9_
                        have hHeld : w39.cell? ⟨Bm, 0, none⟩ = some (.int .i64 Bl) ∧ w39.cell? ⟨Bm, 1, none⟩ = some (.slice Ao36 Bb.length co36) ∧ w39.cell? ⟨Bj, 0, none⟩ = some (.int .i64 Bh) ∧ w39.cell? ⟨Bj, 1, none⟩ = some (.slice Ao35 Ba.length co35) ∧ w39.cell? ⟨Bp, 0, none⟩ = some (.int .i64 t226) ∧ w39.cell? ⟨Bp, 1, none⟩ = some (.slice Ao22 t227.length co22) := hS_
                        obtain ⟨Ao40, co40, eo40⟩ := Kd.R_slice Bs.out
                        (first | subst eo40 | (injection eo40 with f1_ f2_ f3_; have f4_ := f1_.symm; have f5_ := f3_.symm; clear f1_ f2_ f3_; subst f4_; subst f5_))
                        refine norm_ (a' := ?_) ?_ ?_
                        rotate_left
                        · simp only [putAll, Act.put, List.setIfInBounds_toArray, List.set_cons_zero, List.set_cons_succ]
                          rfl
                        refine two_ (i := 5) (j := 11) (Ni := some 24) (Nj := some 7) #[true, true, true, true, true, true, true, true, true, false, false, false, false] #[true, true, true, true, true, false, true, true, true, false, false, true, false] rfl rfl rfl rfl (two_of HT_.out (by kernel_rfl)) (by decide) (by decide) (fun K hK => ?_) (fun K hK => ?_)
                        · skip
                          refine goes_ Try.func22 (by kernel_rfl) rfl #[.agg #[.int .i64 Bl, .slice Ao36 Bb.length co36], .agg #[.int .i64 t234, .slice Ao40 t235.length co40]] (by rfl) rfl rfl (by (try simp only [List.map_toArray, List.map_cons, List.map_nil]); first | done | rfl | (simp only [List.length_drop, List.length_take]; rfl)) ?_
                          with_reducible refine (spec_l02Add.calls k1 Bl _ _ Bb t234 _ _ t235 t238 t239 _ ?side1 ?side2 ?side3 ?side4 A28.out).mono ?_
                          (case side1 => repeat (first | exact (Kd.R_reads' Bf.out).2.2 | (with_reducible refine Kd.C_alloc ?_ _) | (with_reducible refine Kd.C_drewN ?_ _) | (with_reducible refine Kd.C_drew ?_)))
                          (case side2 => exact (Kd.R_reads' Bf.out).2.1)
                          (case side3 => repeat (first | exact (Kd.R_reads' Bs.out).2.2 | (with_reducible refine Kd.C_alloc ?_ _) | (with_reducible refine Kd.C_drewN ?_ _) | (with_reducible refine Kd.C_drew ?_)))
                          (case side4 => exact (Kd.R_reads' Bs.out).2.1)
                          rintro e w41 ⟨v240, rfl, ho0, hb⟩
                          refine ⟨_, rfl, ?_⟩
                          have n0_ := Aside0.mk (Kd.R_elder' Bd.out (Kd.R_base ho0) hb)
                          have n1_ := Aside0.mk (Kd.R_elder' Bf.out (Kd.R_base ho0) hb)
                          have n2_ := Aside0.mk (Kd.R_elder' Be.out (Kd.R_base ho0) hb)
                          have n3_ := Aside0.mk (Kd.R_elder' Bs.out (Kd.R_base ho0) hb)
                          have n4_ := Aside0.mk (Kd.R_lower (Kd.R_new' (Kd.R_new' (Kd.R_new' (Kd.R_new' ho0 (Kd.R_lt Bd.out)) (Kd.R_lt Bf.out)) (Kd.R_lt Be.out)) (Kd.R_lt Bs.out)) (below_size (by repeat (first | (with_reducible first | exact HB.out | apply below_alloc | apply pw_below_drewN | apply below_drew1 | refine below_set ?_ GE224.out | refine below_set ?_ GE225.out | refine below_set ?_ GE230.out | refine below_set ?_ GE231.out | refine below_set ?_ GE232.out) | exact HB.out))))
                          have n5_ := Aside0.mk (blk_below (g := Bq) (o := .cells #[.int .i64 a0_0, .slice A0_1 l0_1.length c0_1] 36 (0, 0)) Bn.out hb)
                          have n6_ := Aside0.mk (blk_below (g := Br) (o := .cells #[.int .i64 0, .slice none 0 0] 36 (0, 0)) Bo.out hb)
                          have n7_ := Aside0.mk (blk_below (g := Bj) (o := .cells #[.int .i64 Bh, .slice Ao35 Ba.length co35] 36 (0, 0)) Bg.out hb)
                          have n8_ := Aside0.mk (blk_below (g := Bm) (o := .cells #[.int .i64 Bl, .slice Ao36 Bb.length co36] 36 (0, 0)) Bi.out hb)
                          have n9_ := Aside0.mk (blk_below (g := Bp) (o := .cells #[.int .i64 t226, .slice Ao22 t227.length co22] 36 (0, 0)) Bk.out hb)
                          have n10_ := Aside0.mk (below_step (by repeat (first | (with_reducible first | exact HB.out | apply below_alloc | apply pw_below_drewN | apply below_drew1 | refine below_set ?_ GE224.out | refine below_set ?_ GE225.out | refine below_set ?_ GE230.out | refine below_set ?_ GE231.out | refine below_set ?_ GE232.out) | exact HB.out)) hb)
                          clear Bd Bf Be Bs Bn Bo Bg Bi Bk HB
                          have Bd := n0_
                          have Bf := n1_
                          have Be := n2_
                          have Bs := n3_
                          have Bu := n4_
                          have Bn := n5_
                          have Bo := n6_
                          have Bg := n7_
                          have Bi := n8_
                          have Bk := n9_
                          have HB := n10_
                          clear n0_ n1_ n2_ n3_ n4_ n5_ n6_ n7_ n8_ n9_ n10_
                          (try clear hb)
                          (try clear hb2)
                          (try clear hk)
                          (try clear hi)
                          (try clear ho0)
                          refine hK.out _ _ ⟨(blk_cell Bi.out 0).trans rfl, (blk_cell Bi.out 1).trans rfl, (blk_cell Bg.out 0).trans rfl, (blk_cell Bg.out 1).trans rfl, (blk_cell Bk.out 0).trans rfl, (blk_cell Bk.out 1).trans rfl⟩ (fun hHeld => ?_)
                          clear hK K
                          refine norm_ (a' := ?_) ?_ ?_
                          rotate_left
                          · show Act.put _ (some 24) _ = _
                            simp only [Act.put, List.setIfInBounds_toArray, List.set_cons_zero, List.set_cons_succ, i64_w, i32_w]
                            rfl
                          exact norm_ (by first | (simp only [putAll, Act.put, List.setIfInBounds_toArray, List.set_cons_zero, List.set_cons_succ]; done) | (simp only [putAll, Act.put, List.setIfInBounds_toArray, List.set_cons_zero, List.set_cons_succ]; rfl)) (hJ4_5 (.slice Ao40 t235.length co40, v240) _ ⟨hHeld, (by exact Kd.R_mono Bs.out (fun _ hk => ⟨hk.2, ⟨hk.1.1, ⟨hk.1.2.1, hk.1.2.2⟩⟩⟩)), (by exact Kd.R_mono Bu.out (fun _ hk => ⟨hk.2, ⟨hk.1.1.1.2, ⟨hk.1.1.2, hk.1.2⟩⟩⟩)), (by exact Kd.R_mono Bd.out (fun _ hk => ⟨hk.1.1, ⟨hk.2, ⟨hk.1.2.1, hk.1.2.2⟩⟩⟩)), (by exact Kd.R_mono Bf.out (fun _ hk => ⟨hk.1.1, ⟨hk.2, ⟨hk.1.2.1, hk.1.2.2⟩⟩⟩)), (by exact Kd.R_mono Be.out (fun _ hk => ⟨hk.1.1, ⟨hk.2, ⟨hk.1.2.1, hk.1.2.2⟩⟩⟩)), Bn.out, Bo.out, Bg.out, Bi.out, Bk.out, (by repeat (first | (with_reducible first | exact HB.out | apply below_alloc | apply pw_below_drewN | apply below_drew1 | refine below_set ?_ GE224.out | refine below_set ?_ GE225.out | refine below_set ?_ GE230.out | refine below_set ?_ GE231.out | refine below_set ?_ GE232.out) | exact HB.out))⟩)
                        · skip
                          refine box_step ?hg (N := 7) ?hd (cs := #[.int .i64 0, .slice none 0 0]) (t := 36) ?hr ?_; (case hd => rfl); (case hg => rfl); (case hr => first | (go_simp; done) | (go_simp; rfl))
                          intro Bc hg w40 hbox hb
                          have n0_ := Aside0.mk (Kd.R_below Bd.out hb)
                          have n1_ := Aside0.mk (Kd.R_below Bf.out hb)
                          have n2_ := Aside0.mk (Kd.R_below Be.out hb)
                          have n3_ := Aside0.mk (Kd.R_below Bs.out hb)
                          have n4_ := Aside0.mk (blk_below (g := Bq) (o := .cells #[.int .i64 a0_0, .slice A0_1 l0_1.length c0_1] 36 (0, 0)) Bn.out hb)
                          have n5_ := Aside0.mk (blk_below (g := Br) (o := .cells #[.int .i64 0, .slice none 0 0] 36 (0, 0)) Bo.out hb)
                          have n6_ := Aside0.mk (blk_below (g := Bj) (o := .cells #[.int .i64 Bh, .slice Ao35 Ba.length co35] 36 (0, 0)) Bg.out hb)
                          have n7_ := Aside0.mk (blk_below (g := Bm) (o := .cells #[.int .i64 Bl, .slice Ao36 Bb.length co36] 36 (0, 0)) Bi.out hb)
                          have n8_ := Aside0.mk (blk_below (g := Bp) (o := .cells #[.int .i64 t226, .slice Ao22 t227.length co22] 36 (0, 0)) Bk.out hb)
                          have n9_ := Aside0.mk (below_step (by repeat (first | (with_reducible first | exact HB.out | apply below_alloc | apply pw_below_drewN | apply below_drew1 | refine below_set ?_ GE224.out | refine below_set ?_ GE225.out | refine below_set ?_ GE230.out | refine below_set ?_ GE231.out | refine below_set ?_ GE232.out) | exact HB.out)) hb)
                          have n10_ := Aside0.mk (hbox)
                          have n11_ := Aside0.mk ((by rw [hg]; exact (below_size (by repeat (first | (with_reducible first | exact HB.out | apply below_alloc | apply pw_below_drewN | apply below_drew1 | refine below_set ?_ GE224.out | refine below_set ?_ GE225.out | refine below_set ?_ GE230.out | refine below_set ?_ GE231.out | refine below_set ?_ GE232.out) | exact HB.out))) : w.heap.size ≤ Bc))
                          have n12_ := Aside0.mk ((by rw [hg]; exact (below_size (by repeat (first | (with_reducible first | exact HB.out | apply below_alloc | apply pw_below_drewN | apply below_drew1 | refine below_set ?_ GE224.out | refine below_set ?_ GE225.out | refine below_set ?_ GE230.out | refine below_set ?_ GE231.out | refine below_set ?_ GE232.out) | exact HB.out))) : w.heap.size ≤ Bc))
                          have n13_ := Aside0.mk ((by rw [hg]; exact Nat.ne_of_lt (blk_lt (g := Bq) (o := .cells #[.int .i64 a0_0, .slice A0_1 l0_1.length c0_1] 36 (0, 0)) Bn.out) : Bq ≠ Bc))
                          have n14_ := Aside0.mk ((by rw [hg]; exact Nat.ne_of_gt (blk_lt (g := Bq) (o := .cells #[.int .i64 a0_0, .slice A0_1 l0_1.length c0_1] 36 (0, 0)) Bn.out) : Bc ≠ Bq))
                          have n15_ := Aside0.mk ((by rw [hg]; exact Nat.ne_of_lt (blk_lt (g := Br) (o := .cells #[.int .i64 0, .slice none 0 0] 36 (0, 0)) Bo.out) : Br ≠ Bc))
                          have n16_ := Aside0.mk ((by rw [hg]; exact Nat.ne_of_gt (blk_lt (g := Br) (o := .cells #[.int .i64 0, .slice none 0 0] 36 (0, 0)) Bo.out) : Bc ≠ Br))
                          have n17_ := Aside0.mk ((by rw [hg]; exact Nat.ne_of_lt (blk_lt (g := Bj) (o := .cells #[.int .i64 Bh, .slice Ao35 Ba.length co35] 36 (0, 0)) Bg.out) : Bj ≠ Bc))
                          have n18_ := Aside0.mk ((by rw [hg]; exact Nat.ne_of_gt (blk_lt (g := Bj) (o := .cells #[.int .i64 Bh, .slice Ao35 Ba.length co35] 36 (0, 0)) Bg.out) : Bc ≠ Bj))
                          have n19_ := Aside0.mk ((by rw [hg]; exact Nat.ne_of_lt (blk_lt (g := Bm) (o := .cells #[.int .i64 Bl, .slice Ao36 Bb.length co36] 36 (0, 0)) Bi.out) : Bm ≠ Bc))
                          have n20_ := Aside0.mk ((by rw [hg]; exact Nat.ne_of_gt (blk_lt (g := Bm) (o := .cells #[.int .i64 Bl, .slice Ao36 Bb.length co36] 36 (0, 0)) Bi.out) : Bc ≠ Bm))
                          have n21_ := Aside0.mk ((by rw [hg]; exact Nat.ne_of_lt (blk_lt (g := Bp) (o := .cells #[.int .i64 t226, .slice Ao22 t227.length co22] 36 (0, 0)) Bk.out) : Bp ≠ Bc))
                          have n22_ := Aside0.mk ((by rw [hg]; exact Nat.ne_of_gt (blk_lt (g := Bp) (o := .cells #[.int .i64 t226, .slice Ao22 t227.length co22] 36 (0, 0)) Bk.out) : Bc ≠ Bp))
                          clear Bd Bf Be Bs Bn Bo Bg Bi Bk HB
                          have Bd := n0_
                          have Bf := n1_
                          have Be := n2_
                          have Bs := n3_
                          have Bn := n4_
                          have Bo := n5_
                          have Bg := n6_
                          have Bi := n7_
                          have Bk := n8_
                          have HB := n9_
                          have Bt := n10_
                          have GW250 := n11_
                          have GE250 := n12_
                          have Bz := n13_
                          have Cc := n14_
                          have Ca := n15_
                          have Cd := n16_
                          have Bv := n17_
                          have Cb := n18_
                          have Bw := n19_
                          have Ce := n20_
                          have Bx := n21_
                          have Cf := n22_
                          clear n0_ n1_ n2_ n3_ n4_ n5_ n6_ n7_ n8_ n9_ n10_ n11_ n12_ n13_ n14_ n15_ n16_ n17_ n18_ n19_ n20_ n21_ n22_ hb hbox hg
                          refine hK.out _ _ ⟨(blk_cell Bi.out 0).trans rfl, (blk_cell Bi.out 1).trans rfl, (blk_cell Bg.out 0).trans rfl, (blk_cell Bg.out 1).trans rfl, (blk_cell Bk.out 0).trans rfl, (blk_cell Bk.out 1).trans rfl⟩ (fun hHeld => ?_)
                          clear hK K
                          refine norm_ (a' := ?_) ?_ ?_
                          rotate_left
                          · show Act.put _ (some 7) _ = _
                            simp only [Act.put, List.setIfInBounds_toArray, List.set_cons_zero, List.set_cons_succ, i64_w, i32_w]
                            rfl
                          exact norm_ (by first | (simp only [putAll, Act.put, List.setIfInBounds_toArray, List.set_cons_zero, List.set_cons_succ]; done) | (simp only [putAll, Act.put, List.setIfInBounds_toArray, List.set_cons_zero, List.set_cons_succ]; rfl)) (hJ4_11 (_, Bc) _ ⟨hHeld, Bs.out, Bd.out, Bf.out, Be.out, Bn.out, Bo.out, Bg.out, Bi.out, Bk.out, Bt.out, GW250.out, GE250.out, Bz.out, Cc.out, Ca.out, Cd.out, Bv.out, Cb.out, Bw.out, Ce.out, Bx.out, Cf.out, (by repeat (first | (with_reducible first | exact HB.out | apply below_alloc | apply pw_below_drewN | apply below_drew1 | refine below_set ?_ GE224.out | refine below_set ?_ GE225.out | refine below_set ?_ GE230.out | refine below_set ?_ GE231.out | refine below_set ?_ GE232.out | refine below_set ?_ GE250.out) | exact HB.out))⟩)
                    · skip
                      rintro ⟨v236, Bc⟩ w40 ⟨hS_, h0_, h1_, h2_, h3_, h4_, h5_, h6_, h7_, h8_, h9_, h10_, h11_, h12_, h13_, h14_, h15_, h16_, h17_, h18_, h19_, h20_, h21_, h22_⟩
                      have n0_ : Aside0 (Kd.R (Kd.int .i64) 2 w40 w.heap.size (fun k_ => some k_ ≠ (.slice Ao35 Ba.length co35 : Value).ownBlock ∧ some k_ ≠ (.slice Ao36 Bb.length co36 : Value).ownBlock ∧ some k_ ≠ (.slice Ao22 t227.length co22 : Value).ownBlock) v236 t235) := ⟨h0_⟩
                      have n1_ : Aside0 (Kd.R (Kd.int .i64) 2 w40 w.heap.size (fun k_ => some k_ ≠ (v236 : Value).ownBlock ∧ some k_ ≠ (.slice Ao36 Bb.length co36 : Value).ownBlock ∧ some k_ ≠ (.slice Ao22 t227.length co22 : Value).ownBlock) (.slice Ao35 Ba.length co35) Ba) := ⟨h1_⟩
                      have n2_ : Aside0 (Kd.R (Kd.int .i64) 2 w40 w.heap.size (fun k_ => some k_ ≠ (v236 : Value).ownBlock ∧ some k_ ≠ (.slice Ao35 Ba.length co35 : Value).ownBlock ∧ some k_ ≠ (.slice Ao22 t227.length co22 : Value).ownBlock) (.slice Ao36 Bb.length co36) Bb) := ⟨h2_⟩
                      have n3_ : Aside0 (Kd.R (Kd.int .i64) 2 w40 w.heap.size (fun k_ => some k_ ≠ (v236 : Value).ownBlock ∧ some k_ ≠ (.slice Ao35 Ba.length co35 : Value).ownBlock ∧ some k_ ≠ (.slice Ao36 Bb.length co36 : Value).ownBlock) (.slice Ao22 t227.length co22) t227) := ⟨h3_⟩
                      have n4_ : Aside0 (w40.heap[Bq]? = some (.cells #[.int .i64 a0_0, .slice A0_1 l0_1.length c0_1] 36 (0, 0))) := ⟨h4_⟩
                      have n5_ : Aside0 (w40.heap[Br]? = some (.cells #[.int .i64 0, .slice none 0 0] 36 (0, 0))) := ⟨h5_⟩
                      have n6_ : Aside0 (w40.heap[Bj]? = some (.cells #[.int .i64 Bh, .slice Ao35 Ba.length co35] 36 (0, 0))) := ⟨h6_⟩
                      have n7_ : Aside0 (w40.heap[Bm]? = some (.cells #[.int .i64 Bl, .slice Ao36 Bb.length co36] 36 (0, 0))) := ⟨h7_⟩
                      have n8_ : Aside0 (w40.heap[Bp]? = some (.cells #[.int .i64 t226, .slice Ao22 t227.length co22] 36 (0, 0))) := ⟨h8_⟩
                      have n9_ : Aside0 (w40.heap[Bc]? = some (.cells #[.int .i64 0, .slice none 0 0] 36 (0, 0))) := ⟨h9_⟩
                      have n10_ : Aside0 (w.heap.size ≤ Bc) := ⟨h10_⟩
                      have n11_ : Aside0 (w.heap.size ≤ Bc) := ⟨h11_⟩
                      have n12_ : Aside0 (Bq ≠ Bc) := ⟨h12_⟩
                      have n13_ : Aside0 (Bc ≠ Bq) := ⟨h13_⟩
                      have n14_ : Aside0 (Br ≠ Bc) := ⟨h14_⟩
                      have n15_ : Aside0 (Bc ≠ Br) := ⟨h15_⟩
                      have n16_ : Aside0 (Bj ≠ Bc) := ⟨h16_⟩
                      have n17_ : Aside0 (Bc ≠ Bj) := ⟨h17_⟩
                      have n18_ : Aside0 (Bm ≠ Bc) := ⟨h18_⟩
                      have n19_ : Aside0 (Bc ≠ Bm) := ⟨h19_⟩
                      have n20_ : Aside0 (Bp ≠ Bc) := ⟨h20_⟩
                      have n21_ : Aside0 (Bc ≠ Bp) := ⟨h21_⟩
                      have n22_ : Aside0 (Below w.heap.size w w40) := ⟨h22_⟩
                      clear Bd Bf Be Bn Bo Bg Bi Bk HB h0_ h1_ h2_ h3_ h4_ h5_ h6_ h7_ h8_ h9_ h10_ h11_ h12_ h13_ h14_ h15_ h16_ h17_ h18_ h19_ h20_ h21_ h22_
                      have Bs := n0_
                      have Bd := n1_
                      have Bf := n2_
                      have Be := n3_
                      have Bn := n4_
                      have Bo := n5_
                      have Bg := n6_
                      have Bi := n7_
                      have Bk := n8_
                      have Bt := n9_
                      have GW250 := n10_
                      have GE250 := n11_
                      have Bz := n12_
                      have Cc := n13_
                      have Ca := n14_
                      have Cd := n15_
                      have Bv := n16_
                      have Cb := n17_
                      have Bw := n18_
                      have Ce := n19_
                      have Bx := n20_
                      have Cf := n21_
                      have HB := n22_
                      clear n0_ n1_ n2_ n3_ n4_ n5_ n6_ n7_ n8_ n9_ n10_ n11_ n12_ n13_ n14_ n15_ n16_ n17_ n18_ n19_ n20_ n21_ n22_
                      have hHeld : w40.cell? ⟨Bm, 0, none⟩ = some (.int .i64 Bl) ∧ w40.cell? ⟨Bm, 1, none⟩ = some (.slice Ao36 Bb.length co36) ∧ w40.cell? ⟨Bj, 0, none⟩ = some (.int .i64 Bh) ∧ w40.cell? ⟨Bj, 1, none⟩ = some (.slice Ao35 Ba.length co35) ∧ w40.cell? ⟨Bp, 0, none⟩ = some (.int .i64 t226) ∧ w40.cell? ⟨Bp, 1, none⟩ = some (.slice Ao22 t227.length co22) := hS_
                      obtain ⟨Ao41, co41, eo41⟩ := Kd.R_slice Bs.out
                      (first | subst eo41 | (injection eo41 with f1_ f2_ f3_; have f4_ := f1_.symm; have f5_ := f3_.symm; clear f1_ f2_ f3_; subst f4_; subst f5_))
                      refine norm_ (a' := ?_) ?_ ?_
                      rotate_left
                      · simp only [putAll, Act.put, List.setIfInBounds_toArray, List.set_cons_zero, List.set_cons_succ]
                        rfl
                      refine one_ (i := 5) (N := some 24) #[true, true, true, true, true, true, true, true, true, false, false, true, false] rfl rfl (one_of HT_.out (by kernel_rfl)) (by decide) (fun K hK => ?_)
                      refine goes_ Try.func22 (by kernel_rfl) rfl #[.agg #[.int .i64 Bl, .slice Ao36 Bb.length co36], .agg #[.int .i64 t234, .slice Ao41 t235.length co41]] (by rfl) rfl rfl (by (try simp only [List.map_toArray, List.map_cons, List.map_nil]); first | done | rfl | (simp only [List.length_drop, List.length_take]; rfl)) ?_
                      with_reducible refine (spec_l02Add.calls k1 Bl _ _ Bb t234 _ _ t235 t238 t239 _ ?side1 ?side2 ?side3 ?side4 A28.out).mono ?_
                      (case side1 => repeat (first | exact (Kd.R_reads' Bf.out).2.2 | (with_reducible refine Kd.C_alloc ?_ _) | (with_reducible refine Kd.C_drewN ?_ _) | (with_reducible refine Kd.C_drew ?_)))
                      (case side2 => exact (Kd.R_reads' Bf.out).2.1)
                      (case side3 => repeat (first | exact (Kd.R_reads' Bs.out).2.2 | (with_reducible refine Kd.C_alloc ?_ _) | (with_reducible refine Kd.C_drewN ?_ _) | (with_reducible refine Kd.C_drew ?_)))
                      (case side4 => exact (Kd.R_reads' Bs.out).2.1)
                      rintro e w42 ⟨v240, rfl, ho0, hb⟩
                      refine ⟨_, rfl, ?_⟩
                      have n0_ := Aside0.mk (Kd.R_elder' Bd.out (Kd.R_base ho0) hb)
                      have n1_ := Aside0.mk (Kd.R_elder' Bf.out (Kd.R_base ho0) hb)
                      have n2_ := Aside0.mk (Kd.R_elder' Be.out (Kd.R_base ho0) hb)
                      have n3_ := Aside0.mk (Kd.R_elder' Bs.out (Kd.R_base ho0) hb)
                      have n4_ := Aside0.mk (Kd.R_lower (Kd.R_new' (Kd.R_new' (Kd.R_new' (Kd.R_new' ho0 (Kd.R_lt Bd.out)) (Kd.R_lt Bf.out)) (Kd.R_lt Be.out)) (Kd.R_lt Bs.out)) (below_size (by repeat (first | (with_reducible first | exact HB.out | apply below_alloc | apply pw_below_drewN | apply below_drew1 | refine below_set ?_ GE224.out | refine below_set ?_ GE225.out | refine below_set ?_ GE230.out | refine below_set ?_ GE231.out | refine below_set ?_ GE232.out | refine below_set ?_ GE250.out) | exact HB.out))))
                      have n5_ := Aside0.mk (blk_below (g := Bq) (o := .cells #[.int .i64 a0_0, .slice A0_1 l0_1.length c0_1] 36 (0, 0)) Bn.out hb)
                      have n6_ := Aside0.mk (blk_below (g := Br) (o := .cells #[.int .i64 0, .slice none 0 0] 36 (0, 0)) Bo.out hb)
                      have n7_ := Aside0.mk (blk_below (g := Bj) (o := .cells #[.int .i64 Bh, .slice Ao35 Ba.length co35] 36 (0, 0)) Bg.out hb)
                      have n8_ := Aside0.mk (blk_below (g := Bm) (o := .cells #[.int .i64 Bl, .slice Ao36 Bb.length co36] 36 (0, 0)) Bi.out hb)
                      have n9_ := Aside0.mk (blk_below (g := Bp) (o := .cells #[.int .i64 t226, .slice Ao22 t227.length co22] 36 (0, 0)) Bk.out hb)
                      have n10_ := Aside0.mk (blk_below (g := Bc) (o := .cells #[.int .i64 0, .slice none 0 0] 36 (0, 0)) Bt.out hb)
                      have n11_ := Aside0.mk (below_step (by repeat (first | (with_reducible first | exact HB.out | apply below_alloc | apply pw_below_drewN | apply below_drew1 | refine below_set ?_ GE224.out | refine below_set ?_ GE225.out | refine below_set ?_ GE230.out | refine below_set ?_ GE231.out | refine below_set ?_ GE232.out | refine below_set ?_ GE250.out) | exact HB.out)) hb)
                      clear Bd Bf Be Bs Bn Bo Bg Bi Bk Bt HB
                      have Bd := n0_
                      have Bf := n1_
                      have Be := n2_
                      have Bs := n3_
                      have Bu := n4_
                      have Bn := n5_
                      have Bo := n6_
                      have Bg := n7_
                      have Bi := n8_
                      have Bk := n9_
                      have Bt := n10_
                      have HB := n11_
                      clear n0_ n1_ n2_ n3_ n4_ n5_ n6_ n7_ n8_ n9_ n10_ n11_
                      (try clear hb)
                      (try clear hb2)
                      (try clear hk)
                      (try clear hi)
                      (try clear ho0)
                      refine hK.out _ _ ⟨(blk_cell Bi.out 0).trans rfl, (blk_cell Bi.out 1).trans rfl, (blk_cell Bg.out 0).trans rfl, (blk_cell Bg.out 1).trans rfl, (blk_cell Bk.out 0).trans rfl, (blk_cell Bk.out 1).trans rfl⟩ (fun hHeld => ?_)
                      clear hK K
                      refine norm_ (a' := ?_) ?_ ?_
                      rotate_left
                      · show Act.put _ (some 24) _ = _
                        simp only [Act.put, List.setIfInBounds_toArray, List.set_cons_zero, List.set_cons_succ, i64_w, i32_w]
                        rfl
                      exact norm_ (by first | (simp only [putAll, Act.put, List.setIfInBounds_toArray, List.set_cons_zero, List.set_cons_succ]; done) | (simp only [putAll, Act.put, List.setIfInBounds_toArray, List.set_cons_zero, List.set_cons_succ]; rfl)) (hJ4_5_11 (.slice Ao41 t235.length co41, v240, Bc) _ ⟨hHeld, (by exact Kd.R_mono Bs.out (fun _ hk => ⟨hk.2, ⟨hk.1.1, ⟨hk.1.2.1, hk.1.2.2⟩⟩⟩)), (by exact Kd.R_mono Bu.out (fun _ hk => ⟨hk.2, ⟨hk.1.1.1.2, ⟨hk.1.1.2, hk.1.2⟩⟩⟩)), (by exact Kd.R_mono Bd.out (fun _ hk => ⟨hk.1.1, ⟨hk.2, ⟨hk.1.2.1, hk.1.2.2⟩⟩⟩)), (by exact Kd.R_mono Bf.out (fun _ hk => ⟨hk.1.1, ⟨hk.2, ⟨hk.1.2.1, hk.1.2.2⟩⟩⟩)), (by exact Kd.R_mono Be.out (fun _ hk => ⟨hk.1.1, ⟨hk.2, ⟨hk.1.2.1, hk.1.2.2⟩⟩⟩)), Bn.out, Bo.out, Bg.out, Bi.out, Bk.out, Bt.out, GW250.out, GE250.out, Bz.out, Cc.out, Ca.out, Cd.out, Bv.out, Cb.out, Bw.out, Ce.out, Bx.out, Cf.out, (by repeat (first | (with_reducible first | exact HB.out | apply below_alloc | apply pw_below_drewN | apply below_drew1 | refine below_set ?_ GE224.out | refine below_set ?_ GE225.out | refine below_set ?_ GE230.out | refine below_set ?_ GE231.out | refine below_set ?_ GE232.out | refine below_set ?_ GE250.out) | exact HB.out))⟩)
                  · skip
                    rintro ⟨v236, v240⟩ w41 ⟨hS_, h0_, h1_, h2_, h3_, h4_, h5_, h6_, h7_, h8_, h9_, h10_⟩
                    have n0_ : Aside0 (Kd.R (Kd.int .i64) 2 w41 w.heap.size (fun k_ => some k_ ≠ (v240 : Value).ownBlock ∧ some k_ ≠ (.slice Ao35 Ba.length co35 : Value).ownBlock ∧ some k_ ≠ (.slice Ao36 Bb.length co36 : Value).ownBlock ∧ some k_ ≠ (.slice Ao22 t227.length co22 : Value).ownBlock) v236 t235) := ⟨h0_⟩
                    have n1_ : Aside0 (Kd.R (Kd.int .i64) 2 w41 w.heap.size (fun k_ => some k_ ≠ (v236 : Value).ownBlock ∧ some k_ ≠ (.slice Ao35 Ba.length co35 : Value).ownBlock ∧ some k_ ≠ (.slice Ao36 Bb.length co36 : Value).ownBlock ∧ some k_ ≠ (.slice Ao22 t227.length co22 : Value).ownBlock) v240 t239) := ⟨h1_⟩
                    have n2_ : Aside0 (Kd.R (Kd.int .i64) 2 w41 w.heap.size (fun k_ => some k_ ≠ (v236 : Value).ownBlock ∧ some k_ ≠ (v240 : Value).ownBlock ∧ some k_ ≠ (.slice Ao36 Bb.length co36 : Value).ownBlock ∧ some k_ ≠ (.slice Ao22 t227.length co22 : Value).ownBlock) (.slice Ao35 Ba.length co35) Ba) := ⟨h2_⟩
                    have n3_ : Aside0 (Kd.R (Kd.int .i64) 2 w41 w.heap.size (fun k_ => some k_ ≠ (v236 : Value).ownBlock ∧ some k_ ≠ (v240 : Value).ownBlock ∧ some k_ ≠ (.slice Ao35 Ba.length co35 : Value).ownBlock ∧ some k_ ≠ (.slice Ao22 t227.length co22 : Value).ownBlock) (.slice Ao36 Bb.length co36) Bb) := ⟨h3_⟩
                    have n4_ : Aside0 (Kd.R (Kd.int .i64) 2 w41 w.heap.size (fun k_ => some k_ ≠ (v236 : Value).ownBlock ∧ some k_ ≠ (v240 : Value).ownBlock ∧ some k_ ≠ (.slice Ao35 Ba.length co35 : Value).ownBlock ∧ some k_ ≠ (.slice Ao36 Bb.length co36 : Value).ownBlock) (.slice Ao22 t227.length co22) t227) := ⟨h4_⟩
                    have n5_ : Aside0 (w41.heap[Bq]? = some (.cells #[.int .i64 a0_0, .slice A0_1 l0_1.length c0_1] 36 (0, 0))) := ⟨h5_⟩
                    have n6_ : Aside0 (w41.heap[Br]? = some (.cells #[.int .i64 0, .slice none 0 0] 36 (0, 0))) := ⟨h6_⟩
                    have n7_ : Aside0 (w41.heap[Bj]? = some (.cells #[.int .i64 Bh, .slice Ao35 Ba.length co35] 36 (0, 0))) := ⟨h7_⟩
                    have n8_ : Aside0 (w41.heap[Bm]? = some (.cells #[.int .i64 Bl, .slice Ao36 Bb.length co36] 36 (0, 0))) := ⟨h8_⟩
                    have n9_ : Aside0 (w41.heap[Bp]? = some (.cells #[.int .i64 t226, .slice Ao22 t227.length co22] 36 (0, 0))) := ⟨h9_⟩
                    have n10_ : Aside0 (Below w.heap.size w w41) := ⟨h10_⟩
                    clear Bd Bf Be Bn Bo Bg Bi Bk HB h0_ h1_ h2_ h3_ h4_ h5_ h6_ h7_ h8_ h9_ h10_
                    have Bs := n0_
                    have Bu := n1_
                    have Bd := n2_
                    have Bf := n3_
                    have Be := n4_
                    have Bn := n5_
                    have Bo := n6_
                    have Bg := n7_
                    have Bi := n8_
                    have Bk := n9_
                    have HB := n10_
                    clear n0_ n1_ n2_ n3_ n4_ n5_ n6_ n7_ n8_ n9_ n10_
                    have hHeld : w41.cell? ⟨Bm, 0, none⟩ = some (.int .i64 Bl) ∧ w41.cell? ⟨Bm, 1, none⟩ = some (.slice Ao36 Bb.length co36) ∧ w41.cell? ⟨Bj, 0, none⟩ = some (.int .i64 Bh) ∧ w41.cell? ⟨Bj, 1, none⟩ = some (.slice Ao35 Ba.length co35) ∧ w41.cell? ⟨Bp, 0, none⟩ = some (.int .i64 t226) ∧ w41.cell? ⟨Bp, 1, none⟩ = some (.slice Ao22 t227.length co22) := hS_
                    refine norm_ (a' := ?_) ?_ ?_
                    rotate_left
                    · simp only [putAll, Act.put, List.setIfInBounds_toArray, List.set_cons_zero, List.set_cons_succ]
                      rfl
                    refine two_ (i := 9) (j := 11) (Ni := some 28) (Nj := some 7) #[true, true, true, true, true, true, true, true, true, true, false, false, false] #[true, true, true, true, true, true, true, true, true, false, false, true, false] rfl rfl rfl rfl (two_of HT_.out (by kernel_rfl)) (by decide) (by decide) (fun K hK => ?_) (fun K hK => ?_)
                    · skip
                      refine goes_ Try.func18 (by kernel_rfl) rfl #[.agg #[.int .i64 t226, .slice Ao22 t227.length co22], .int .i64 (wrap64 (2 * Ch))] (by rfl) rfl rfl (by (try simp only [List.map_toArray, List.map_cons, List.map_nil]); first | done | rfl | (simp only [List.length_drop, List.length_take]; rfl)) ?_
                      with_reducible refine (spec_l02Left.calls k1 t226 _ _ t227 (wrap64 (2 * Ch)) t242 t243 _ ?side1 ?side2 A29.out).mono ?_
                      (case side1 => repeat (first | exact (Kd.R_reads' Be.out).2.2 | (with_reducible refine Kd.C_alloc ?_ _) | (with_reducible refine Kd.C_drewN ?_ _) | (with_reducible refine Kd.C_drew ?_)))
                      (case side2 => exact (Kd.R_reads' Be.out).2.1)
                      rintro e w42 ⟨v244, rfl, ho0, hb⟩
                      refine ⟨_, rfl, ?_⟩
                      have n0_ := Aside0.mk (Kd.R_elder' Bd.out (Kd.R_base ho0) hb)
                      have n1_ := Aside0.mk (Kd.R_elder' Bf.out (Kd.R_base ho0) hb)
                      have n2_ := Aside0.mk (Kd.R_elder' Be.out (Kd.R_base ho0) hb)
                      have n3_ := Aside0.mk (Kd.R_elder' Bs.out (Kd.R_base ho0) hb)
                      have n4_ := Aside0.mk (Kd.R_elder' Bu.out (Kd.R_base ho0) hb)
                      have n5_ := Aside0.mk (Kd.R_lower (Kd.R_new' (Kd.R_new' (Kd.R_new' (Kd.R_new' (Kd.R_new' ho0 (Kd.R_lt Bd.out)) (Kd.R_lt Bf.out)) (Kd.R_lt Be.out)) (Kd.R_lt Bs.out)) (Kd.R_lt Bu.out)) (below_size (by repeat (first | (with_reducible first | exact HB.out | apply below_alloc | apply pw_below_drewN | apply below_drew1 | refine below_set ?_ GE224.out | refine below_set ?_ GE225.out | refine below_set ?_ GE230.out | refine below_set ?_ GE231.out | refine below_set ?_ GE232.out) | exact HB.out))))
                      have n6_ := Aside0.mk (blk_below (g := Bq) (o := .cells #[.int .i64 a0_0, .slice A0_1 l0_1.length c0_1] 36 (0, 0)) Bn.out hb)
                      have n7_ := Aside0.mk (blk_below (g := Br) (o := .cells #[.int .i64 0, .slice none 0 0] 36 (0, 0)) Bo.out hb)
                      have n8_ := Aside0.mk (blk_below (g := Bj) (o := .cells #[.int .i64 Bh, .slice Ao35 Ba.length co35] 36 (0, 0)) Bg.out hb)
                      have n9_ := Aside0.mk (blk_below (g := Bm) (o := .cells #[.int .i64 Bl, .slice Ao36 Bb.length co36] 36 (0, 0)) Bi.out hb)
                      have n10_ := Aside0.mk (blk_below (g := Bp) (o := .cells #[.int .i64 t226, .slice Ao22 t227.length co22] 36 (0, 0)) Bk.out hb)
                      have n11_ := Aside0.mk (below_step (by repeat (first | (with_reducible first | exact HB.out | apply below_alloc | apply pw_below_drewN | apply below_drew1 | refine below_set ?_ GE224.out | refine below_set ?_ GE225.out | refine below_set ?_ GE230.out | refine below_set ?_ GE231.out | refine below_set ?_ GE232.out) | exact HB.out)) hb)
                      clear Bd Bf Be Bs Bu Bn Bo Bg Bi Bk HB
                      have Bd := n0_
                      have Bf := n1_
                      have Be := n2_
                      have Bs := n3_
                      have Bu := n4_
                      have By := n5_
                      have Bn := n6_
                      have Bo := n7_
                      have Bg := n8_
                      have Bi := n9_
                      have Bk := n10_
                      have HB := n11_
                      clear n0_ n1_ n2_ n3_ n4_ n5_ n6_ n7_ n8_ n9_ n10_ n11_
                      (try clear hb)
                      (try clear hb2)
                      (try clear hk)
                      (try clear hi)
                      (try clear ho0)
                      refine hK.out _ _ ⟨(blk_cell Bi.out 0).trans rfl, (blk_cell Bi.out 1).trans rfl, (blk_cell Bg.out 0).trans rfl, (blk_cell Bg.out 1).trans rfl, (blk_cell Bk.out 0).trans rfl, (blk_cell Bk.out 1).trans rfl⟩ (fun hHeld => ?_)
                      clear hK K
                      refine norm_ (a' := ?_) ?_ ?_
                      rotate_left
                      · show Act.put _ (some 28) _ = _
                        simp only [Act.put, List.setIfInBounds_toArray, List.set_cons_zero, List.set_cons_succ, i64_w, i32_w]
                        rfl
                      exact norm_ (by first | (simp only [putAll, Act.put, List.setIfInBounds_toArray, List.set_cons_zero, List.set_cons_succ]; done) | (simp only [putAll, Act.put, List.setIfInBounds_toArray, List.set_cons_zero, List.set_cons_succ]; rfl)) (hJ4_5_9 (v236, v240, v244) _ ⟨hHeld, (by exact Kd.R_mono Bs.out (fun _ hk => ⟨hk.1.1, ⟨hk.2, ⟨hk.1.2.1, ⟨hk.1.2.2.1, hk.1.2.2.2⟩⟩⟩⟩)), (by exact Kd.R_mono Bu.out (fun _ hk => ⟨hk.1.1, ⟨hk.2, ⟨hk.1.2.1, ⟨hk.1.2.2.1, hk.1.2.2.2⟩⟩⟩⟩)), (by exact Kd.R_mono By.out (fun _ hk => ⟨hk.1.2, ⟨hk.2, ⟨hk.1.1.1.1.2, ⟨hk.1.1.1.2, hk.1.1.2⟩⟩⟩⟩)), (by exact Kd.R_mono Bd.out (fun _ hk => ⟨hk.1.1, ⟨hk.1.2.1, ⟨hk.2, ⟨hk.1.2.2.1, hk.1.2.2.2⟩⟩⟩⟩)), (by exact Kd.R_mono Bf.out (fun _ hk => ⟨hk.1.1, ⟨hk.1.2.1, ⟨hk.2, ⟨hk.1.2.2.1, hk.1.2.2.2⟩⟩⟩⟩)), (by exact Kd.R_mono Be.out (fun _ hk => ⟨hk.1.1, ⟨hk.1.2.1, ⟨hk.2, ⟨hk.1.2.2.1, hk.1.2.2.2⟩⟩⟩⟩)), Bn.out, Bo.out, Bg.out, Bi.out, Bk.out, (by repeat (first | (with_reducible first | exact HB.out | apply below_alloc | apply pw_below_drewN | apply below_drew1 | refine below_set ?_ GE224.out | refine below_set ?_ GE225.out | refine below_set ?_ GE230.out | refine below_set ?_ GE231.out | refine below_set ?_ GE232.out) | exact HB.out))⟩)
                    · skip
                      refine box_step ?hg (N := 7) ?hd (cs := #[.int .i64 0, .slice none 0 0]) (t := 36) ?hr ?_; (case hd => rfl); (case hg => rfl); (case hr => first | (go_simp; done) | (go_simp; rfl))
                      intro Bc hg w42 hbox hb
                      have n0_ := Aside0.mk (Kd.R_below Bd.out hb)
                      have n1_ := Aside0.mk (Kd.R_below Bf.out hb)
                      have n2_ := Aside0.mk (Kd.R_below Be.out hb)
                      have n3_ := Aside0.mk (Kd.R_below Bs.out hb)
                      have n4_ := Aside0.mk (Kd.R_below Bu.out hb)
                      have n5_ := Aside0.mk (blk_below (g := Bq) (o := .cells #[.int .i64 a0_0, .slice A0_1 l0_1.length c0_1] 36 (0, 0)) Bn.out hb)
                      have n6_ := Aside0.mk (blk_below (g := Br) (o := .cells #[.int .i64 0, .slice none 0 0] 36 (0, 0)) Bo.out hb)
                      have n7_ := Aside0.mk (blk_below (g := Bj) (o := .cells #[.int .i64 Bh, .slice Ao35 Ba.length co35] 36 (0, 0)) Bg.out hb)
                      have n8_ := Aside0.mk (blk_below (g := Bm) (o := .cells #[.int .i64 Bl, .slice Ao36 Bb.length co36] 36 (0, 0)) Bi.out hb)
                      have n9_ := Aside0.mk (blk_below (g := Bp) (o := .cells #[.int .i64 t226, .slice Ao22 t227.length co22] 36 (0, 0)) Bk.out hb)
                      have n10_ := Aside0.mk (below_step (by repeat (first | (with_reducible first | exact HB.out | apply below_alloc | apply pw_below_drewN | apply below_drew1 | refine below_set ?_ GE224.out | refine below_set ?_ GE225.out | refine below_set ?_ GE230.out | refine below_set ?_ GE231.out | refine below_set ?_ GE232.out) | exact HB.out)) hb)
                      have n11_ := Aside0.mk (hbox)
                      have n12_ := Aside0.mk ((by rw [hg]; exact (below_size (by repeat (first | (with_reducible first | exact HB.out | apply below_alloc | apply pw_below_drewN | apply below_drew1 | refine below_set ?_ GE224.out | refine below_set ?_ GE225.out | refine below_set ?_ GE230.out | refine below_set ?_ GE231.out | refine below_set ?_ GE232.out) | exact HB.out))) : w.heap.size ≤ Bc))
                      have n13_ := Aside0.mk ((by rw [hg]; exact (below_size (by repeat (first | (with_reducible first | exact HB.out | apply below_alloc | apply pw_below_drewN | apply below_drew1 | refine below_set ?_ GE224.out | refine below_set ?_ GE225.out | refine below_set ?_ GE230.out | refine below_set ?_ GE231.out | refine below_set ?_ GE232.out) | exact HB.out))) : w.heap.size ≤ Bc))
                      have n14_ := Aside0.mk ((by rw [hg]; exact Nat.ne_of_lt (blk_lt (g := Bq) (o := .cells #[.int .i64 a0_0, .slice A0_1 l0_1.length c0_1] 36 (0, 0)) Bn.out) : Bq ≠ Bc))
                      have n15_ := Aside0.mk ((by rw [hg]; exact Nat.ne_of_gt (blk_lt (g := Bq) (o := .cells #[.int .i64 a0_0, .slice A0_1 l0_1.length c0_1] 36 (0, 0)) Bn.out) : Bc ≠ Bq))
                      have n16_ := Aside0.mk ((by rw [hg]; exact Nat.ne_of_lt (blk_lt (g := Br) (o := .cells #[.int .i64 0, .slice none 0 0] 36 (0, 0)) Bo.out) : Br ≠ Bc))
                      have n17_ := Aside0.mk ((by rw [hg]; exact Nat.ne_of_gt (blk_lt (g := Br) (o := .cells #[.int .i64 0, .slice none 0 0] 36 (0, 0)) Bo.out) : Bc ≠ Br))
                      have n18_ := Aside0.mk ((by rw [hg]; exact Nat.ne_of_lt (blk_lt (g := Bj) (o := .cells #[.int .i64 Bh, .slice Ao35 Ba.length co35] 36 (0, 0)) Bg.out) : Bj ≠ Bc))
                      have n19_ := Aside0.mk ((by rw [hg]; exact Nat.ne_of_gt (blk_lt (g := Bj) (o := .cells #[.int .i64 Bh, .slice Ao35 Ba.length co35] 36 (0, 0)) Bg.out) : Bc ≠ Bj))
                      have n20_ := Aside0.mk ((by rw [hg]; exact Nat.ne_of_lt (blk_lt (g := Bm) (o := .cells #[.int .i64 Bl, .slice Ao36 Bb.length co36] 36 (0, 0)) Bi.out) : Bm ≠ Bc))
                      have n21_ := Aside0.mk ((by rw [hg]; exact Nat.ne_of_gt (blk_lt (g := Bm) (o := .cells #[.int .i64 Bl, .slice Ao36 Bb.length co36] 36 (0, 0)) Bi.out) : Bc ≠ Bm))
                      have n22_ := Aside0.mk ((by rw [hg]; exact Nat.ne_of_lt (blk_lt (g := Bp) (o := .cells #[.int .i64 t226, .slice Ao22 t227.length co22] 36 (0, 0)) Bk.out) : Bp ≠ Bc))
                      have n23_ := Aside0.mk ((by rw [hg]; exact Nat.ne_of_gt (blk_lt (g := Bp) (o := .cells #[.int .i64 t226, .slice Ao22 t227.length co22] 36 (0, 0)) Bk.out) : Bc ≠ Bp))
                      clear Bd Bf Be Bs Bu Bn Bo Bg Bi Bk HB
                      have Bd := n0_
                      have Bf := n1_
                      have Be := n2_
                      have Bs := n3_
                      have Bu := n4_
                      have Bn := n5_
                      have Bo := n6_
                      have Bg := n7_
                      have Bi := n8_
                      have Bk := n9_
                      have HB := n10_
                      have Bt := n11_
                      have GW250 := n12_
                      have GE250 := n13_
                      have Bz := n14_
                      have Cc := n15_
                      have Ca := n16_
                      have Cd := n17_
                      have Bv := n18_
                      have Cb := n19_
                      have Bw := n20_
                      have Ce := n21_
                      have Bx := n22_
                      have Cf := n23_
                      clear n0_ n1_ n2_ n3_ n4_ n5_ n6_ n7_ n8_ n9_ n10_ n11_ n12_ n13_ n14_ n15_ n16_ n17_ n18_ n19_ n20_ n21_ n22_ n23_ hb hbox hg
                      refine hK.out _ _ ⟨(blk_cell Bi.out 0).trans rfl, (blk_cell Bi.out 1).trans rfl, (blk_cell Bg.out 0).trans rfl, (blk_cell Bg.out 1).trans rfl, (blk_cell Bk.out 0).trans rfl, (blk_cell Bk.out 1).trans rfl⟩ (fun hHeld => ?_)
                      clear hK K
                      refine norm_ (a' := ?_) ?_ ?_
                      rotate_left
                      · show Act.put _ (some 7) _ = _
                        simp only [Act.put, List.setIfInBounds_toArray, List.set_cons_zero, List.set_cons_succ, i64_w, i32_w]
                        rfl
                      exact norm_ (by first | (simp only [putAll, Act.put, List.setIfInBounds_toArray, List.set_cons_zero, List.set_cons_succ]; done) | (simp only [putAll, Act.put, List.setIfInBounds_toArray, List.set_cons_zero, List.set_cons_succ]; rfl)) (hJ4_5_11 (v236, v240, Bc) _ ⟨hHeld, Bs.out, Bu.out, Bd.out, Bf.out, Be.out, Bn.out, Bo.out, Bg.out, Bi.out, Bk.out, Bt.out, GW250.out, GE250.out, Bz.out, Cc.out, Ca.out, Cd.out, Bv.out, Cb.out, Bw.out, Ce.out, Bx.out, Cf.out, (by repeat (first | (with_reducible first | exact HB.out | apply below_alloc | apply pw_below_drewN | apply below_drew1 | refine below_set ?_ GE224.out | refine below_set ?_ GE225.out | refine below_set ?_ GE230.out | refine below_set ?_ GE231.out | refine below_set ?_ GE232.out | refine below_set ?_ GE250.out) | exact HB.out))⟩)
                · skip
                  rintro ⟨v236, v240, Bc⟩ w42 ⟨hS_, h0_, h1_, h2_, h3_, h4_, h5_, h6_, h7_, h8_, h9_, h10_, h11_, h12_, h13_, h14_, h15_, h16_, h17_, h18_, h19_, h20_, h21_, h22_, h23_⟩
                  have n0_ : Aside0 (Kd.R (Kd.int .i64) 2 w42 w.heap.size (fun k_ => some k_ ≠ (v240 : Value).ownBlock ∧ some k_ ≠ (.slice Ao35 Ba.length co35 : Value).ownBlock ∧ some k_ ≠ (.slice Ao36 Bb.length co36 : Value).ownBlock ∧ some k_ ≠ (.slice Ao22 t227.length co22 : Value).ownBlock) v236 t235) := ⟨h0_⟩
                  have n1_ : Aside0 (Kd.R (Kd.int .i64) 2 w42 w.heap.size (fun k_ => some k_ ≠ (v236 : Value).ownBlock ∧ some k_ ≠ (.slice Ao35 Ba.length co35 : Value).ownBlock ∧ some k_ ≠ (.slice Ao36 Bb.length co36 : Value).ownBlock ∧ some k_ ≠ (.slice Ao22 t227.length co22 : Value).ownBlock) v240 t239) := ⟨h1_⟩
                  have n2_ : Aside0 (Kd.R (Kd.int .i64) 2 w42 w.heap.size (fun k_ => some k_ ≠ (v236 : Value).ownBlock ∧ some k_ ≠ (v240 : Value).ownBlock ∧ some k_ ≠ (.slice Ao36 Bb.length co36 : Value).ownBlock ∧ some k_ ≠ (.slice Ao22 t227.length co22 : Value).ownBlock) (.slice Ao35 Ba.length co35) Ba) := ⟨h2_⟩
                  have n3_ : Aside0 (Kd.R (Kd.int .i64) 2 w42 w.heap.size (fun k_ => some k_ ≠ (v236 : Value).ownBlock ∧ some k_ ≠ (v240 : Value).ownBlock ∧ some k_ ≠ (.slice Ao35 Ba.length co35 : Value).ownBlock ∧ some k_ ≠ (.slice Ao22 t227.length co22 : Value).ownBlock) (.slice Ao36 Bb.length co36) Bb) := ⟨h3_⟩
                  have n4_ : Aside0 (Kd.R (Kd.int .i64) 2 w42 w.heap.size (fun k_ => some k_ ≠ (v236 : Value).ownBlock ∧ some k_ ≠ (v240 : Value).ownBlock ∧ some k_ ≠ (.slice Ao35 Ba.length co35 : Value).ownBlock ∧ some k_ ≠ (.slice Ao36 Bb.length co36 : Value).ownBlock) (.slice Ao22 t227.length co22) t227) := ⟨h4_⟩
                  have n5_ : Aside0 (w42.heap[Bq]? = some (.cells #[.int .i64 a0_0, .slice A0_1 l0_1.length c0_1] 36 (0, 0))) := ⟨h5_⟩
                  have n6_ : Aside0 (w42.heap[Br]? = some (.cells #[.int .i64 0, .slice none 0 0] 36 (0, 0))) := ⟨h6_⟩
                  have n7_ : Aside0 (w42.heap[Bj]? = some (.cells #[.int .i64 Bh, .slice Ao35 Ba.length co35] 36 (0, 0))) := ⟨h7_⟩
                  have n8_ : Aside0 (w42.heap[Bm]? = some (.cells #[.int .i64 Bl, .slice Ao36 Bb.length co36] 36 (0, 0))) := ⟨h8_⟩
                  have n9_ : Aside0 (w42.heap[Bp]? = some (.cells #[.int .i64 t226, .slice Ao22 t227.length co22] 36 (0, 0))) := ⟨h9_⟩
                  have n10_ : Aside0 (w42.heap[Bc]? = some (.cells #[.int .i64 0, .slice none 0 0] 36 (0, 0))) := ⟨h10_⟩
                  have n11_ : Aside0 (w.heap.size ≤ Bc) := ⟨h11_⟩
                  have n12_ : Aside0 (w.heap.size ≤ Bc) := ⟨h12_⟩
                  have n13_ : Aside0 (Bq ≠ Bc) := ⟨h13_⟩
                  have n14_ : Aside0 (Bc ≠ Bq) := ⟨h14_⟩
                  have n15_ : Aside0 (Br ≠ Bc) := ⟨h15_⟩
                  have n16_ : Aside0 (Bc ≠ Br) := ⟨h16_⟩
                  have n17_ : Aside0 (Bj ≠ Bc) := ⟨h17_⟩
                  have n18_ : Aside0 (Bc ≠ Bj) := ⟨h18_⟩
                  have n19_ : Aside0 (Bm ≠ Bc) := ⟨h19_⟩
                  have n20_ : Aside0 (Bc ≠ Bm) := ⟨h20_⟩
                  have n21_ : Aside0 (Bp ≠ Bc) := ⟨h21_⟩
                  have n22_ : Aside0 (Bc ≠ Bp) := ⟨h22_⟩
                  have n23_ : Aside0 (Below w.heap.size w w42) := ⟨h23_⟩
                  clear Bd Bf Be Bn Bo Bg Bi Bk HB h0_ h1_ h2_ h3_ h4_ h5_ h6_ h7_ h8_ h9_ h10_ h11_ h12_ h13_ h14_ h15_ h16_ h17_ h18_ h19_ h20_ h21_ h22_ h23_
                  have Bs := n0_
                  have Bu := n1_
                  have Bd := n2_
                  have Bf := n3_
                  have Be := n4_
                  have Bn := n5_
                  have Bo := n6_
                  have Bg := n7_
                  have Bi := n8_
                  have Bk := n9_
                  have Bt := n10_
                  have GW250 := n11_
                  have GE250 := n12_
                  have Bz := n13_
                  have Cc := n14_
                  have Ca := n15_
                  have Cd := n16_
                  have Bv := n17_
                  have Cb := n18_
                  have Bw := n19_
                  have Ce := n20_
                  have Bx := n21_
                  have Cf := n22_
                  have HB := n23_
                  clear n0_ n1_ n2_ n3_ n4_ n5_ n6_ n7_ n8_ n9_ n10_ n11_ n12_ n13_ n14_ n15_ n16_ n17_ n18_ n19_ n20_ n21_ n22_ n23_
                  have hHeld : w42.cell? ⟨Bm, 0, none⟩ = some (.int .i64 Bl) ∧ w42.cell? ⟨Bm, 1, none⟩ = some (.slice Ao36 Bb.length co36) ∧ w42.cell? ⟨Bj, 0, none⟩ = some (.int .i64 Bh) ∧ w42.cell? ⟨Bj, 1, none⟩ = some (.slice Ao35 Ba.length co35) ∧ w42.cell? ⟨Bp, 0, none⟩ = some (.int .i64 t226) ∧ w42.cell? ⟨Bp, 1, none⟩ = some (.slice Ao22 t227.length co22) := hS_
                  refine norm_ (a' := ?_) ?_ ?_
                  rotate_left
                  · simp only [putAll, Act.put, List.setIfInBounds_toArray, List.set_cons_zero, List.set_cons_succ]
                    rfl
                  refine one_ (i := 9) (N := some 28) #[true, true, true, true, true, true, true, true, true, true, false, true, false] rfl rfl (one_of HT_.out (by kernel_rfl)) (by decide) (fun K hK => ?_)
                  refine goes_ Try.func18 (by kernel_rfl) rfl #[.agg #[.int .i64 t226, .slice Ao22 t227.length co22], .int .i64 (wrap64 (2 * Ch))] (by rfl) rfl rfl (by (try simp only [List.map_toArray, List.map_cons, List.map_nil]); first | done | rfl | (simp only [List.length_drop, List.length_take]; rfl)) ?_
                  with_reducible refine (spec_l02Left.calls k1 t226 _ _ t227 (wrap64 (2 * Ch)) t242 t243 _ ?side1 ?side2 A29.out).mono ?_
                  (case side1 => repeat (first | exact (Kd.R_reads' Be.out).2.2 | (with_reducible refine Kd.C_alloc ?_ _) | (with_reducible refine Kd.C_drewN ?_ _) | (with_reducible refine Kd.C_drew ?_)))
                  (case side2 => exact (Kd.R_reads' Be.out).2.1)
                  rintro e w43 ⟨v244, rfl, ho0, hb⟩
                  refine ⟨_, rfl, ?_⟩
                  have n0_ := Aside0.mk (Kd.R_elder' Bd.out (Kd.R_base ho0) hb)
                  have n1_ := Aside0.mk (Kd.R_elder' Bf.out (Kd.R_base ho0) hb)
                  have n2_ := Aside0.mk (Kd.R_elder' Be.out (Kd.R_base ho0) hb)
                  have n3_ := Aside0.mk (Kd.R_elder' Bs.out (Kd.R_base ho0) hb)
                  have n4_ := Aside0.mk (Kd.R_elder' Bu.out (Kd.R_base ho0) hb)
                  have n5_ := Aside0.mk (Kd.R_lower (Kd.R_new' (Kd.R_new' (Kd.R_new' (Kd.R_new' (Kd.R_new' ho0 (Kd.R_lt Bd.out)) (Kd.R_lt Bf.out)) (Kd.R_lt Be.out)) (Kd.R_lt Bs.out)) (Kd.R_lt Bu.out)) (below_size (by repeat (first | (with_reducible first | exact HB.out | apply below_alloc | apply pw_below_drewN | apply below_drew1 | refine below_set ?_ GE224.out | refine below_set ?_ GE225.out | refine below_set ?_ GE230.out | refine below_set ?_ GE231.out | refine below_set ?_ GE232.out | refine below_set ?_ GE250.out) | exact HB.out))))
                  have n6_ := Aside0.mk (blk_below (g := Bq) (o := .cells #[.int .i64 a0_0, .slice A0_1 l0_1.length c0_1] 36 (0, 0)) Bn.out hb)
                  have n7_ := Aside0.mk (blk_below (g := Br) (o := .cells #[.int .i64 0, .slice none 0 0] 36 (0, 0)) Bo.out hb)
                  have n8_ := Aside0.mk (blk_below (g := Bj) (o := .cells #[.int .i64 Bh, .slice Ao35 Ba.length co35] 36 (0, 0)) Bg.out hb)
                  have n9_ := Aside0.mk (blk_below (g := Bm) (o := .cells #[.int .i64 Bl, .slice Ao36 Bb.length co36] 36 (0, 0)) Bi.out hb)
                  have n10_ := Aside0.mk (blk_below (g := Bp) (o := .cells #[.int .i64 t226, .slice Ao22 t227.length co22] 36 (0, 0)) Bk.out hb)
                  have n11_ := Aside0.mk (blk_below (g := Bc) (o := .cells #[.int .i64 0, .slice none 0 0] 36 (0, 0)) Bt.out hb)
                  have n12_ := Aside0.mk (below_step (by repeat (first | (with_reducible first | exact HB.out | apply below_alloc | apply pw_below_drewN | apply below_drew1 | refine below_set ?_ GE224.out | refine below_set ?_ GE225.out | refine below_set ?_ GE230.out | refine below_set ?_ GE231.out | refine below_set ?_ GE232.out | refine below_set ?_ GE250.out) | exact HB.out)) hb)
                  clear Bd Bf Be Bs Bu Bn Bo Bg Bi Bk Bt HB
                  have Bd := n0_
                  have Bf := n1_
                  have Be := n2_
                  have Bs := n3_
                  have Bu := n4_
                  have By := n5_
                  have Bn := n6_
                  have Bo := n7_
                  have Bg := n8_
                  have Bi := n9_
                  have Bk := n10_
                  have Bt := n11_
                  have HB := n12_
                  clear n0_ n1_ n2_ n3_ n4_ n5_ n6_ n7_ n8_ n9_ n10_ n11_ n12_
                  (try clear hb)
                  (try clear hb2)
                  (try clear hk)
                  (try clear hi)
                  (try clear ho0)
                  refine hK.out _ _ ⟨(blk_cell Bi.out 0).trans rfl, (blk_cell Bi.out 1).trans rfl, (blk_cell Bg.out 0).trans rfl, (blk_cell Bg.out 1).trans rfl, (blk_cell Bk.out 0).trans rfl, (blk_cell Bk.out 1).trans rfl⟩ (fun hHeld => ?_)
                  clear hK K
                  refine norm_ (a' := ?_) ?_ ?_
                  rotate_left
                  · show Act.put _ (some 28) _ = _
                    simp only [Act.put, List.setIfInBounds_toArray, List.set_cons_zero, List.set_cons_succ, i64_w, i32_w]
                    rfl
                  exact norm_ (by first | (simp only [putAll, Act.put, List.setIfInBounds_toArray, List.set_cons_zero, List.set_cons_succ]; done) | (simp only [putAll, Act.put, List.setIfInBounds_toArray, List.set_cons_zero, List.set_cons_succ]; rfl)) (hJ4_5_9_11 (v236, v240, v244, Bc) _ ⟨hHeld, (by exact Kd.R_mono Bs.out (fun _ hk => ⟨hk.1.1, ⟨hk.2, ⟨hk.1.2.1, ⟨hk.1.2.2.1, hk.1.2.2.2⟩⟩⟩⟩)), (by exact Kd.R_mono Bu.out (fun _ hk => ⟨hk.1.1, ⟨hk.2, ⟨hk.1.2.1, ⟨hk.1.2.2.1, hk.1.2.2.2⟩⟩⟩⟩)), (by exact Kd.R_mono By.out (fun _ hk => ⟨hk.1.2, ⟨hk.2, ⟨hk.1.1.1.1.2, ⟨hk.1.1.1.2, hk.1.1.2⟩⟩⟩⟩)), (by exact Kd.R_mono Bd.out (fun _ hk => ⟨hk.1.1, ⟨hk.1.2.1, ⟨hk.2, ⟨hk.1.2.2.1, hk.1.2.2.2⟩⟩⟩⟩)), (by exact Kd.R_mono Bf.out (fun _ hk => ⟨hk.1.1, ⟨hk.1.2.1, ⟨hk.2, ⟨hk.1.2.2.1, hk.1.2.2.2⟩⟩⟩⟩)), (by exact Kd.R_mono Be.out (fun _ hk => ⟨hk.1.1, ⟨hk.1.2.1, ⟨hk.2, ⟨hk.1.2.2.1, hk.1.2.2.2⟩⟩⟩⟩)), Bn.out, Bo.out, Bg.out, Bi.out, Bk.out, Bt.out, GW250.out, GE250.out, Bz.out, Cc.out, Ca.out, Cd.out, Bv.out, Cb.out, Bw.out, Ce.out, Bx.out, Cf.out, (by repeat (first | (with_reducible first | exact HB.out | apply below_alloc | apply pw_below_drewN | apply below_drew1 | refine below_set ?_ GE224.out | refine below_set ?_ GE225.out | refine below_set ?_ GE230.out | refine below_set ?_ GE231.out | refine below_set ?_ GE232.out | refine below_set ?_ GE250.out) | exact HB.out))⟩)
              · skip
                rintro ⟨v236, v240, v244⟩ w42 ⟨hS_, h0_, h1_, h2_, h3_, h4_, h5_, h6_, h7_, h8_, h9_, h10_, h11_⟩
                have n0_ : Aside0 (Kd.R (Kd.int .i64) 2 w42 w.heap.size (fun k_ => some k_ ≠ (v240 : Value).ownBlock ∧ some k_ ≠ (v244 : Value).ownBlock ∧ some k_ ≠ (.slice Ao35 Ba.length co35 : Value).ownBlock ∧ some k_ ≠ (.slice Ao36 Bb.length co36 : Value).ownBlock ∧ some k_ ≠ (.slice Ao22 t227.length co22 : Value).ownBlock) v236 t235) := ⟨h0_⟩
                have n1_ : Aside0 (Kd.R (Kd.int .i64) 2 w42 w.heap.size (fun k_ => some k_ ≠ (v236 : Value).ownBlock ∧ some k_ ≠ (v244 : Value).ownBlock ∧ some k_ ≠ (.slice Ao35 Ba.length co35 : Value).ownBlock ∧ some k_ ≠ (.slice Ao36 Bb.length co36 : Value).ownBlock ∧ some k_ ≠ (.slice Ao22 t227.length co22 : Value).ownBlock) v240 t239) := ⟨h1_⟩
                have n2_ : Aside0 (Kd.R (Kd.int .i64) 2 w42 w.heap.size (fun k_ => some k_ ≠ (v236 : Value).ownBlock ∧ some k_ ≠ (v240 : Value).ownBlock ∧ some k_ ≠ (.slice Ao35 Ba.length co35 : Value).ownBlock ∧ some k_ ≠ (.slice Ao36 Bb.length co36 : Value).ownBlock ∧ some k_ ≠ (.slice Ao22 t227.length co22 : Value).ownBlock) v244 t243) := ⟨h2_⟩
                have n3_ : Aside0 (Kd.R (Kd.int .i64) 2 w42 w.heap.size (fun k_ => some k_ ≠ (v236 : Value).ownBlock ∧ some k_ ≠ (v240 : Value).ownBlock ∧ some k_ ≠ (v244 : Value).ownBlock ∧ some k_ ≠ (.slice Ao36 Bb.length co36 : Value).ownBlock ∧ some k_ ≠ (.slice Ao22 t227.length co22 : Value).ownBlock) (.slice Ao35 Ba.length co35) Ba) := ⟨h3_⟩
                have n4_ : Aside0 (Kd.R (Kd.int .i64) 2 w42 w.heap.size (fun k_ => some k_ ≠ (v236 : Value).ownBlock ∧ some k_ ≠ (v240 : Value).ownBlock ∧ some k_ ≠ (v244 : Value).ownBlock ∧ some k_ ≠ (.slice Ao35 Ba.length co35 : Value).ownBlock ∧ some k_ ≠ (.slice Ao22 t227.length co22 : Value).ownBlock) (.slice Ao36 Bb.length co36) Bb) := ⟨h4_⟩
                have n5_ : Aside0 (Kd.R (Kd.int .i64) 2 w42 w.heap.size (fun k_ => some k_ ≠ (v236 : Value).ownBlock ∧ some k_ ≠ (v240 : Value).ownBlock ∧ some k_ ≠ (v244 : Value).ownBlock ∧ some k_ ≠ (.slice Ao35 Ba.length co35 : Value).ownBlock ∧ some k_ ≠ (.slice Ao36 Bb.length co36 : Value).ownBlock) (.slice Ao22 t227.length co22) t227) := ⟨h5_⟩
                have n6_ : Aside0 (w42.heap[Bq]? = some (.cells #[.int .i64 a0_0, .slice A0_1 l0_1.length c0_1] 36 (0, 0))) := ⟨h6_⟩
                have n7_ : Aside0 (w42.heap[Br]? = some (.cells #[.int .i64 0, .slice none 0 0] 36 (0, 0))) := ⟨h7_⟩
                have n8_ : Aside0 (w42.heap[Bj]? = some (.cells #[.int .i64 Bh, .slice Ao35 Ba.length co35] 36 (0, 0))) := ⟨h8_⟩
                have n9_ : Aside0 (w42.heap[Bm]? = some (.cells #[.int .i64 Bl, .slice Ao36 Bb.length co36] 36 (0, 0))) := ⟨h9_⟩
                have n10_ : Aside0 (w42.heap[Bp]? = some (.cells #[.int .i64 t226, .slice Ao22 t227.length co22] 36 (0, 0))) := ⟨h10_⟩
                have n11_ : Aside0 (Below w.heap.size w w42) := ⟨h11_⟩
                clear Bd Bf Be Bn Bo Bg Bi Bk HB h0_ h1_ h2_ h3_ h4_ h5_ h6_ h7_ h8_ h9_ h10_ h11_
                have Bs := n0_
                have Bu := n1_
                have By := n2_
                have Bd := n3_
                have Bf := n4_
                have Be := n5_
                have Bn := n6_
                have Bo := n7_
                have Bg := n8_
                have Bi := n9_
                have Bk := n10_
                have HB := n11_
                clear n0_ n1_ n2_ n3_ n4_ n5_ n6_ n7_ n8_ n9_ n10_ n11_
                have hHeld : w42.cell? ⟨Bm, 0, none⟩ = some (.int .i64 Bl) ∧ w42.cell? ⟨Bm, 1, none⟩ = some (.slice Ao36 Bb.length co36) ∧ w42.cell? ⟨Bj, 0, none⟩ = some (.int .i64 Bh) ∧ w42.cell? ⟨Bj, 1, none⟩ = some (.slice Ao35 Ba.length co35) ∧ w42.cell? ⟨Bp, 0, none⟩ = some (.int .i64 t226) ∧ w42.cell? ⟨Bp, 1, none⟩ = some (.slice Ao22 t227.length co22) := hS_
                obtain ⟨Ao43, co43, eo43⟩ := Kd.R_slice Bu.out
                (first | subst eo43 | (injection eo43 with f1_ f2_ f3_; have f4_ := f1_.symm; have f5_ := f3_.symm; clear f1_ f2_ f3_; subst f4_; subst f5_))
                obtain ⟨Ao44, co44, eo44⟩ := Kd.R_slice By.out
                (first | subst eo44 | (injection eo44 with f1_ f2_ f3_; have f4_ := f1_.symm; have f5_ := f3_.symm; clear f1_ f2_ f3_; subst f4_; subst f5_))
                refine norm_ (a' := ?_) ?_ ?_
                rotate_left
                · simp only [putAll, Act.put, List.setIfInBounds_toArray, List.set_cons_zero, List.set_cons_succ]
                  rfl
                refine two_ (i := 10) (j := 11) (Ni := some 29) (Nj := some 7) #[true, true, true, true, true, true, true, true, true, true, true, false, false] #[true, true, true, true, true, true, true, true, true, true, false, true, false] rfl rfl rfl rfl (two_of HT_.out (by kernel_rfl)) (by decide) (by decide) (fun K hK => ?_) (fun K hK => ?_)
                · skip
                  refine goes_ Try.func22 (by kernel_rfl) rfl #[.agg #[.int .i64 t238, .slice Ao43 t239.length co43], .agg #[.int .i64 t242, .slice Ao44 t243.length co44]] (by rfl) rfl rfl (by (try simp only [List.map_toArray, List.map_cons, List.map_nil]); first | done | rfl | (simp only [List.length_drop, List.length_take]; rfl)) ?_
                  with_reducible refine (spec_l02Add.calls k1 t238 _ _ t239 t242 _ _ t243 t246 t247 _ ?side1 ?side2 ?side3 ?side4 A30.out).mono ?_
                  (case side1 => repeat (first | exact (Kd.R_reads' Bu.out).2.2 | (with_reducible refine Kd.C_alloc ?_ _) | (with_reducible refine Kd.C_drewN ?_ _) | (with_reducible refine Kd.C_drew ?_)))
                  (case side2 => exact (Kd.R_reads' Bu.out).2.1)
                  (case side3 => repeat (first | exact (Kd.R_reads' By.out).2.2 | (with_reducible refine Kd.C_alloc ?_ _) | (with_reducible refine Kd.C_drewN ?_ _) | (with_reducible refine Kd.C_drew ?_)))
                  (case side4 => exact (Kd.R_reads' By.out).2.1)
                  rintro e w45 ⟨v248, rfl, ho0, hb⟩
                  refine ⟨_, rfl, ?_⟩
                  have n0_ := Aside0.mk (Kd.R_elder' Bd.out (Kd.R_base ho0) hb)
                  have n1_ := Aside0.mk (Kd.R_elder' Bf.out (Kd.R_base ho0) hb)
                  have n2_ := Aside0.mk (Kd.R_elder' Be.out (Kd.R_base ho0) hb)
                  have n3_ := Aside0.mk (Kd.R_elder' Bs.out (Kd.R_base ho0) hb)
                  have n4_ := Aside0.mk (Kd.R_elder' Bu.out (Kd.R_base ho0) hb)
                  have n5_ := Aside0.mk (Kd.R_elder' By.out (Kd.R_base ho0) hb)
                  have n6_ := Aside0.mk (Kd.R_lower (Kd.R_new' (Kd.R_new' (Kd.R_new' (Kd.R_new' (Kd.R_new' (Kd.R_new' ho0 (Kd.R_lt Bd.out)) (Kd.R_lt Bf.out)) (Kd.R_lt Be.out)) (Kd.R_lt Bs.out)) (Kd.R_lt Bu.out)) (Kd.R_lt By.out)) (below_size (by repeat (first | (with_reducible first | exact HB.out | apply below_alloc | apply pw_below_drewN | apply below_drew1 | refine below_set ?_ GE224.out | refine below_set ?_ GE225.out | refine below_set ?_ GE230.out | refine below_set ?_ GE231.out | refine below_set ?_ GE232.out) | exact HB.out))))
                  have n7_ := Aside0.mk (blk_below (g := Bq) (o := .cells #[.int .i64 a0_0, .slice A0_1 l0_1.length c0_1] 36 (0, 0)) Bn.out hb)
                  have n8_ := Aside0.mk (blk_below (g := Br) (o := .cells #[.int .i64 0, .slice none 0 0] 36 (0, 0)) Bo.out hb)
                  have n9_ := Aside0.mk (blk_below (g := Bj) (o := .cells #[.int .i64 Bh, .slice Ao35 Ba.length co35] 36 (0, 0)) Bg.out hb)
                  have n10_ := Aside0.mk (blk_below (g := Bm) (o := .cells #[.int .i64 Bl, .slice Ao36 Bb.length co36] 36 (0, 0)) Bi.out hb)
                  have n11_ := Aside0.mk (blk_below (g := Bp) (o := .cells #[.int .i64 t226, .slice Ao22 t227.length co22] 36 (0, 0)) Bk.out hb)
                  have n12_ := Aside0.mk (below_step (by repeat (first | (with_reducible first | exact HB.out | apply below_alloc | apply pw_below_drewN | apply below_drew1 | refine below_set ?_ GE224.out | refine below_set ?_ GE225.out | refine below_set ?_ GE230.out | refine below_set ?_ GE231.out | refine below_set ?_ GE232.out) | exact HB.out)) hb)
                  clear Bd Bf Be Bs Bu By Bn Bo Bg Bi Bk HB
                  have Bd := n0_
                  have Bf := n1_
                  have Be := n2_
                  have Bs := n3_
                  have Bu := n4_
                  have By := n5_
                  have Cg := n6_
                  have Bn := n7_
                  have Bo := n8_
                  have Bg := n9_
                  have Bi := n10_
                  have Bk := n11_
                  have HB := n12_
                  clear n0_ n1_ n2_ n3_ n4_ n5_ n6_ n7_ n8_ n9_ n10_ n11_ n12_
                  (try clear hb)
                  (try clear hb2)
                  (try clear hk)
                  (try clear hi)
                  (try clear ho0)
                  refine hK.out _ _ ⟨(blk_cell Bi.out 0).trans rfl, (blk_cell Bi.out 1).trans rfl, (blk_cell Bg.out 0).trans rfl, (blk_cell Bg.out 1).trans rfl, (blk_cell Bk.out 0).trans rfl, (blk_cell Bk.out 1).trans rfl⟩ (fun hHeld => ?_)
                  clear hK K
                  refine norm_ (a' := ?_) ?_ ?_
                  rotate_left
                  · show Act.put _ (some 29) _ = _
                    simp only [Act.put, List.setIfInBounds_toArray, List.set_cons_zero, List.set_cons_succ, i64_w, i32_w]
                    rfl
                  exact norm_ (by first | (simp only [putAll, Act.put, List.setIfInBounds_toArray, List.set_cons_zero, List.set_cons_succ]; done) | (simp only [putAll, Act.put, List.setIfInBounds_toArray, List.set_cons_zero, List.set_cons_succ]; rfl)) (hJ4_5_9_10 (v236, .slice Ao43 t239.length co43, .slice Ao44 t243.length co44, v248) _ ⟨hHeld, (by exact Kd.R_mono Bs.out (fun _ hk => ⟨hk.1.1, ⟨hk.1.2.1, ⟨hk.2, ⟨hk.1.2.2.1, ⟨hk.1.2.2.2.1, hk.1.2.2.2.2⟩⟩⟩⟩⟩)), (by exact Kd.R_mono Bu.out (fun _ hk => ⟨hk.1.1, ⟨hk.1.2.1, ⟨hk.2, ⟨hk.1.2.2.1, ⟨hk.1.2.2.2.1, hk.1.2.2.2.2⟩⟩⟩⟩⟩)), (by exact Kd.R_mono By.out (fun _ hk => ⟨hk.1.1, ⟨hk.1.2.1, ⟨hk.2, ⟨hk.1.2.2.1, ⟨hk.1.2.2.2.1, hk.1.2.2.2.2⟩⟩⟩⟩⟩)), (by exact Kd.R_mono Cg.out (fun _ hk => ⟨hk.1.1.2, ⟨hk.1.2, ⟨hk.2, ⟨hk.1.1.1.1.1.2, ⟨hk.1.1.1.1.2, hk.1.1.1.2⟩⟩⟩⟩⟩)), (by exact Kd.R_mono Bd.out (fun _ hk => ⟨hk.1.1, ⟨hk.1.2.1, ⟨hk.1.2.2.1, ⟨hk.2, ⟨hk.1.2.2.2.1, hk.1.2.2.2.2⟩⟩⟩⟩⟩)), (by exact Kd.R_mono Bf.out (fun _ hk => ⟨hk.1.1, ⟨hk.1.2.1, ⟨hk.1.2.2.1, ⟨hk.2, ⟨hk.1.2.2.2.1, hk.1.2.2.2.2⟩⟩⟩⟩⟩)), (by exact Kd.R_mono Be.out (fun _ hk => ⟨hk.1.1, ⟨hk.1.2.1, ⟨hk.1.2.2.1, ⟨hk.2, ⟨hk.1.2.2.2.1, hk.1.2.2.2.2⟩⟩⟩⟩⟩)), Bn.out, Bo.out, Bg.out, Bi.out, Bk.out, (by repeat (first | (with_reducible first | exact HB.out | apply below_alloc | apply pw_below_drewN | apply below_drew1 | refine below_set ?_ GE224.out | refine below_set ?_ GE225.out | refine below_set ?_ GE230.out | refine below_set ?_ GE231.out | refine below_set ?_ GE232.out) | exact HB.out))⟩)
                · skip
                  refine box_step ?hg (N := 7) ?hd (cs := #[.int .i64 0, .slice none 0 0]) (t := 36) ?hr ?_; (case hd => rfl); (case hg => rfl); (case hr => first | (go_simp; done) | (go_simp; rfl))
                  intro Bc hg w43 hbox hb
                  have n0_ := Aside0.mk (Kd.R_below Bd.out hb)
                  have n1_ := Aside0.mk (Kd.R_below Bf.out hb)
                  have n2_ := Aside0.mk (Kd.R_below Be.out hb)
                  have n3_ := Aside0.mk (Kd.R_below Bs.out hb)
                  have n4_ := Aside0.mk (Kd.R_below Bu.out hb)
                  have n5_ := Aside0.mk (Kd.R_below By.out hb)
                  have n6_ := Aside0.mk (blk_below (g := Bq) (o := .cells #[.int .i64 a0_0, .slice A0_1 l0_1.length c0_1] 36 (0, 0)) Bn.out hb)
                  have n7_ := Aside0.mk (blk_below (g := Br) (o := .cells #[.int .i64 0, .slice none 0 0] 36 (0, 0)) Bo.out hb)
                  have n8_ := Aside0.mk (blk_below (g := Bj) (o := .cells #[.int .i64 Bh, .slice Ao35 Ba.length co35] 36 (0, 0)) Bg.out hb)
                  have n9_ := Aside0.mk (blk_below (g := Bm) (o := .cells #[.int .i64 Bl, .slice Ao36 Bb.length co36] 36 (0, 0)) Bi.out hb)
                  have n10_ := Aside0.mk (blk_below (g := Bp) (o := .cells #[.int .i64 t226, .slice Ao22 t227.length co22] 36 (0, 0)) Bk.out hb)
                  have n11_ := Aside0.mk (below_step (by repeat (first | (with_reducible first | exact HB.out | apply below_alloc | apply pw_below_drewN | apply below_drew1 | refine below_set ?_ GE224.out | refine below_set ?_ GE225.out | refine below_set ?_ GE230.out | refine below_set ?_ GE231.out | refine below_set ?_ GE232.out) | exact HB.out)) hb)
                  have n12_ := Aside0.mk (hbox)
                  have n13_ := Aside0.mk ((by rw [hg]; exact (below_size (by repeat (first | (with_reducible first | exact HB.out | apply below_alloc | apply pw_below_drewN | apply below_drew1 | refine below_set ?_ GE224.out | refine below_set ?_ GE225.out | refine below_set ?_ GE230.out | refine below_set ?_ GE231.out | refine below_set ?_ GE232.out) | exact HB.out))) : w.heap.size ≤ Bc))
                  have n14_ := Aside0.mk ((by rw [hg]; exact (below_size (by repeat (first | (with_reducible first | exact HB.out | apply below_alloc | apply pw_below_drewN | apply below_drew1 | refine below_set ?_ GE224.out | refine below_set ?_ GE225.out | refine below_set ?_ GE230.out | refine below_set ?_ GE231.out | refine below_set ?_ GE232.out) | exact HB.out))) : w.heap.size ≤ Bc))
                  have n15_ := Aside0.mk ((by rw [hg]; exact Nat.ne_of_lt (blk_lt (g := Bq) (o := .cells #[.int .i64 a0_0, .slice A0_1 l0_1.length c0_1] 36 (0, 0)) Bn.out) : Bq ≠ Bc))
                  have n16_ := Aside0.mk ((by rw [hg]; exact Nat.ne_of_gt (blk_lt (g := Bq) (o := .cells #[.int .i64 a0_0, .slice A0_1 l0_1.length c0_1] 36 (0, 0)) Bn.out) : Bc ≠ Bq))
                  have n17_ := Aside0.mk ((by rw [hg]; exact Nat.ne_of_lt (blk_lt (g := Br) (o := .cells #[.int .i64 0, .slice none 0 0] 36 (0, 0)) Bo.out) : Br ≠ Bc))
                  have n18_ := Aside0.mk ((by rw [hg]; exact Nat.ne_of_gt (blk_lt (g := Br) (o := .cells #[.int .i64 0, .slice none 0 0] 36 (0, 0)) Bo.out) : Bc ≠ Br))
                  have n19_ := Aside0.mk ((by rw [hg]; exact Nat.ne_of_lt (blk_lt (g := Bj) (o := .cells #[.int .i64 Bh, .slice Ao35 Ba.length co35] 36 (0, 0)) Bg.out) : Bj ≠ Bc))
                  have n20_ := Aside0.mk ((by rw [hg]; exact Nat.ne_of_gt (blk_lt (g := Bj) (o := .cells #[.int .i64 Bh, .slice Ao35 Ba.length co35] 36 (0, 0)) Bg.out) : Bc ≠ Bj))
                  have n21_ := Aside0.mk ((by rw [hg]; exact Nat.ne_of_lt (blk_lt (g := Bm) (o := .cells #[.int .i64 Bl, .slice Ao36 Bb.length co36] 36 (0, 0)) Bi.out) : Bm ≠ Bc))
                  have n22_ := Aside0.mk ((by rw [hg]; exact Nat.ne_of_gt (blk_lt (g := Bm) (o := .cells #[.int .i64 Bl, .slice Ao36 Bb.length co36] 36 (0, 0)) Bi.out) : Bc ≠ Bm))
                  have n23_ := Aside0.mk ((by rw [hg]; exact Nat.ne_of_lt (blk_lt (g := Bp) (o := .cells #[.int .i64 t226, .slice Ao22 t227.length co22] 36 (0, 0)) Bk.out) : Bp ≠ Bc))
                  have n24_ := Aside0.mk ((by rw [hg]; exact Nat.ne_of_gt (blk_lt (g := Bp) (o := .cells #[.int .i64 t226, .slice Ao22 t227.length co22] 36 (0, 0)) Bk.out) : Bc ≠ Bp))
                  clear Bd Bf Be Bs Bu By Bn Bo Bg Bi Bk HB
                  have Bd := n0_
                  have Bf := n1_
                  have Be := n2_
                  have Bs := n3_
                  have Bu := n4_
                  have By := n5_
                  have Bn := n6_
                  have Bo := n7_
                  have Bg := n8_
                  have Bi := n9_
                  have Bk := n10_
                  have HB := n11_
                  have Bt := n12_
                  have GW250 := n13_
                  have GE250 := n14_
                  have Bz := n15_
                  have Cc := n16_
                  have Ca := n17_
                  have Cd := n18_
                  have Bv := n19_
                  have Cb := n20_
                  have Bw := n21_
                  have Ce := n22_
                  have Bx := n23_
                  have Cf := n24_
                  clear n0_ n1_ n2_ n3_ n4_ n5_ n6_ n7_ n8_ n9_ n10_ n11_ n12_ n13_ n14_ n15_ n16_ n17_ n18_ n19_ n20_ n21_ n22_ n23_ n24_ hb hbox hg
                  refine hK.out _ _ ⟨(blk_cell Bi.out 0).trans rfl, (blk_cell Bi.out 1).trans rfl, (blk_cell Bg.out 0).trans rfl, (blk_cell Bg.out 1).trans rfl, (blk_cell Bk.out 0).trans rfl, (blk_cell Bk.out 1).trans rfl⟩ (fun hHeld => ?_)
                  clear hK K
                  refine norm_ (a' := ?_) ?_ ?_
                  rotate_left
                  · show Act.put _ (some 7) _ = _
                    simp only [Act.put, List.setIfInBounds_toArray, List.set_cons_zero, List.set_cons_succ, i64_w, i32_w]
                    rfl
                  exact norm_ (by first | (simp only [putAll, Act.put, List.setIfInBounds_toArray, List.set_cons_zero, List.set_cons_succ]; done) | (simp only [putAll, Act.put, List.setIfInBounds_toArray, List.set_cons_zero, List.set_cons_succ]; rfl)) (hJ4_5_9_11 (_, _, _, Bc) _ ⟨hHeld, Bs.out, Bu.out, By.out, Bd.out, Bf.out, Be.out, Bn.out, Bo.out, Bg.out, Bi.out, Bk.out, Bt.out, GW250.out, GE250.out, Bz.out, Cc.out, Ca.out, Cd.out, Bv.out, Cb.out, Bw.out, Ce.out, Bx.out, Cf.out, (by repeat (first | (with_reducible first | exact HB.out | apply below_alloc | apply pw_below_drewN | apply below_drew1 | refine below_set ?_ GE224.out | refine below_set ?_ GE225.out | refine below_set ?_ GE230.out | refine below_set ?_ GE231.out | refine below_set ?_ GE232.out | refine below_set ?_ GE250.out) | exact HB.out))⟩)
            · skip
              rintro ⟨v236, v240, v244, Bc⟩ w43 ⟨hS_, h0_, h1_, h2_, h3_, h4_, h5_, h6_, h7_, h8_, h9_, h10_, h11_, h12_, h13_, h14_, h15_, h16_, h17_, h18_, h19_, h20_, h21_, h22_, h23_, h24_⟩
              have n0_ : Aside0 (Kd.R (Kd.int .i64) 2 w43 w.heap.size (fun k_ => some k_ ≠ (v240 : Value).ownBlock ∧ some k_ ≠ (v244 : Value).ownBlock ∧ some k_ ≠ (.slice Ao35 Ba.length co35 : Value).ownBlock ∧ some k_ ≠ (.slice Ao36 Bb.length co36 : Value).ownBlock ∧ some k_ ≠ (.slice Ao22 t227.length co22 : Value).ownBlock) v236 t235) := ⟨h0_⟩
              have n1_ : Aside0 (Kd.R (Kd.int .i64) 2 w43 w.heap.size (fun k_ => some k_ ≠ (v236 : Value).ownBlock ∧ some k_ ≠ (v244 : Value).ownBlock ∧ some k_ ≠ (.slice Ao35 Ba.length co35 : Value).ownBlock ∧ some k_ ≠ (.slice Ao36 Bb.length co36 : Value).ownBlock ∧ some k_ ≠ (.slice Ao22 t227.length co22 : Value).ownBlock) v240 t239) := ⟨h1_⟩
              have n2_ : Aside0 (Kd.R (Kd.int .i64) 2 w43 w.heap.size (fun k_ => some k_ ≠ (v236 : Value).ownBlock ∧ some k_ ≠ (v240 : Value).ownBlock ∧ some k_ ≠ (.slice Ao35 Ba.length co35 : Value).ownBlock ∧ some k_ ≠ (.slice Ao36 Bb.length co36 : Value).ownBlock ∧ some k_ ≠ (.slice Ao22 t227.length co22 : Value).ownBlock) v244 t243) := ⟨h2_⟩
              have n3_ : Aside0 (Kd.R (Kd.int .i64) 2 w43 w.heap.size (fun k_ => some k_ ≠ (v236 : Value).ownBlock ∧ some k_ ≠ (v240 : Value).ownBlock ∧ some k_ ≠ (v244 : Value).ownBlock ∧ some k_ ≠ (.slice Ao36 Bb.length co36 : Value).ownBlock ∧ some k_ ≠ (.slice Ao22 t227.length co22 : Value).ownBlock) (.slice Ao35 Ba.length co35) Ba) := ⟨h3_⟩
              have n4_ : Aside0 (Kd.R (Kd.int .i64) 2 w43 w.heap.size (fun k_ => some k_ ≠ (v236 : Value).ownBlock ∧ some k_ ≠ (v240 : Value).ownBlock ∧ some k_ ≠ (v244 : Value).ownBlock ∧ some k_ ≠ (.slice Ao35 Ba.length co35 : Value).ownBlock ∧ some k_ ≠ (.slice Ao22 t227.length co22 : Value).ownBlock) (.slice Ao36 Bb.length co36) Bb) := ⟨h4_⟩
              have n5_ : Aside0 (Kd.R (Kd.int .i64) 2 w43 w.heap.size (fun k_ => some k_ ≠ (v236 : Value).ownBlock ∧ some k_ ≠ (v240 : Value).ownBlock ∧ some k_ ≠ (v244 : Value).ownBlock ∧ some k_ ≠ (.slice Ao35 Ba.length co35 : Value).ownBlock ∧ some k_ ≠ (.slice Ao36 Bb.length co36 : Value).ownBlock) (.slice Ao22 t227.length co22) t227) := ⟨h5_⟩
              have n6_ : Aside0 (w43.heap[Bq]? = some (.cells #[.int .i64 a0_0, .slice A0_1 l0_1.length c0_1] 36 (0, 0))) := ⟨h6_⟩
              have n7_ : Aside0 (w43.heap[Br]? = some (.cells #[.int .i64 0, .slice none 0 0] 36 (0, 0))) := ⟨h7_⟩
              have n8_ : Aside0 (w43.heap[Bj]? = some (.cells #[.int .i64 Bh, .slice Ao35 Ba.length co35] 36 (0, 0))) := ⟨h8_⟩
              have n9_ : Aside0 (w43.heap[Bm]? = some (.cells #[.int .i64 Bl, .slice Ao36 Bb.length co36] 36 (0, 0))) := ⟨h9_⟩
              have n10_ : Aside0 (w43.heap[Bp]? = some (.cells #[.int .i64 t226, .slice Ao22 t227.length co22] 36 (0, 0))) := ⟨h10_⟩
              have n11_ : Aside0 (w43.heap[Bc]? = some (.cells #[.int .i64 0, .slice none 0 0] 36 (0, 0))) := ⟨h11_⟩
              have n12_ : Aside0 (w.heap.size ≤ Bc) := ⟨h12_⟩
              have n13_ : Aside0 (w.heap.size ≤ Bc) := ⟨h13_⟩
              have n14_ : Aside0 (Bq ≠ Bc) := ⟨h14_⟩
              have n15_ : Aside0 (Bc ≠ Bq) := ⟨h15_⟩
              have n16_ : Aside0 (Br ≠ Bc) := ⟨h16_⟩
              have n17_ : Aside0 (Bc ≠ Br) := ⟨h17_⟩
              have n18_ : Aside0 (Bj ≠ Bc) := ⟨h18_⟩
              have n19_ : Aside0 (Bc ≠ Bj) := ⟨h19_⟩
              have n20_ : Aside0 (Bm ≠ Bc) := ⟨h20_⟩
              have n21_ : Aside0 (Bc ≠ Bm) := ⟨h21_⟩
              have n22_ : Aside0 (Bp ≠ Bc) := ⟨h22_⟩
              have n23_ : Aside0 (Bc ≠ Bp) := ⟨h23_⟩
              have n24_ : Aside0 (Below w.heap.size w w43) := ⟨h24_⟩
              clear Bd Bf Be Bn Bo Bg Bi Bk HB h0_ h1_ h2_ h3_ h4_ h5_ h6_ h7_ h8_ h9_ h10_ h11_ h12_ h13_ h14_ h15_ h16_ h17_ h18_ h19_ h20_ h21_ h22_ h23_ h24_
              have Bs := n0_
              have Bu := n1_
              have By := n2_
              have Bd := n3_
              have Bf := n4_
              have Be := n5_
              have Bn := n6_
              have Bo := n7_
              have Bg := n8_
              have Bi := n9_
              have Bk := n10_
              have Bt := n11_
              have GW250 := n12_
              have GE250 := n13_
              have Bz := n14_
              have Cc := n15_
              have Ca := n16_
              have Cd := n17_
              have Bv := n18_
              have Cb := n19_
              have Bw := n20_
              have Ce := n21_
              have Bx := n22_
              have Cf := n23_
              have HB := n24_
              clear n0_ n1_ n2_ n3_ n4_ n5_ n6_ n7_ n8_ n9_ n10_ n11_ n12_ n13_ n14_ n15_ n16_ n17_ n18_ n19_ n20_ n21_ n22_ n23_ n24_
              have hHeld : w43.cell? ⟨Bm, 0, none⟩ = some (.int .i64 Bl) ∧ w43.cell? ⟨Bm, 1, none⟩ = some (.slice Ao36 Bb.length co36) ∧ w43.cell? ⟨Bj, 0, none⟩ = some (.int .i64 Bh) ∧ w43.cell? ⟨Bj, 1, none⟩ = some (.slice Ao35 Ba.length co35) ∧ w43.cell? ⟨Bp, 0, none⟩ = some (.int .i64 t226) ∧ w43.cell? ⟨Bp, 1, none⟩ = some (.slice Ao22 t227.length co22) := hS_
              obtain ⟨Ao44, co44, eo44⟩ := Kd.R_slice Bu.out
              (first | subst eo44 | (injection eo44 with f1_ f2_ f3_; have f4_ := f1_.symm; have f5_ := f3_.symm; clear f1_ f2_ f3_; subst f4_; subst f5_))
              obtain ⟨Ao45, co45, eo45⟩ := Kd.R_slice By.out
              (first | subst eo45 | (injection eo45 with f1_ f2_ f3_; have f4_ := f1_.symm; have f5_ := f3_.symm; clear f1_ f2_ f3_; subst f4_; subst f5_))
              refine norm_ (a' := ?_) ?_ ?_
              rotate_left
              · simp only [putAll, Act.put, List.setIfInBounds_toArray, List.set_cons_zero, List.set_cons_succ]
                rfl
              refine one_ (i := 10) (N := some 29) #[true, true, true, true, true, true, true, true, true, true, true, true, false] rfl rfl (one_of HT_.out (by kernel_rfl)) (by decide) (fun K hK => ?_)
              refine goes_ Try.func22 (by kernel_rfl) rfl #[.agg #[.int .i64 t238, .slice Ao44 t239.length co44], .agg #[.int .i64 t242, .slice Ao45 t243.length co45]] (by rfl) rfl rfl (by (try simp only [List.map_toArray, List.map_cons, List.map_nil]); first | done | rfl | (simp only [List.length_drop, List.length_take]; rfl)) ?_
              with_reducible refine (spec_l02Add.calls k1 t238 _ _ t239 t242 _ _ t243 t246 t247 _ ?side1 ?side2 ?side3 ?side4 A30.out).mono ?_
              (case side1 => repeat (first | exact (Kd.R_reads' Bu.out).2.2 | (with_reducible refine Kd.C_alloc ?_ _) | (with_reducible refine Kd.C_drewN ?_ _) | (with_reducible refine Kd.C_drew ?_)))
              (case side2 => exact (Kd.R_reads' Bu.out).2.1)
              (case side3 => repeat (first | exact (Kd.R_reads' By.out).2.2 | (with_reducible refine Kd.C_alloc ?_ _) | (with_reducible refine Kd.C_drewN ?_ _) | (with_reducible refine Kd.C_drew ?_)))
              (case side4 => exact (Kd.R_reads' By.out).2.1)
              rintro e w46 ⟨v248, rfl, ho0, hb⟩
              refine ⟨_, rfl, ?_⟩
              have n0_ := Aside0.mk (Kd.R_elder' Bd.out (Kd.R_base ho0) hb)
              have n1_ := Aside0.mk (Kd.R_elder' Bf.out (Kd.R_base ho0) hb)
              have n2_ := Aside0.mk (Kd.R_elder' Be.out (Kd.R_base ho0) hb)
              have n3_ := Aside0.mk (Kd.R_elder' Bs.out (Kd.R_base ho0) hb)
              have n4_ := Aside0.mk (Kd.R_elder' Bu.out (Kd.R_base ho0) hb)
              have n5_ := Aside0.mk (Kd.R_elder' By.out (Kd.R_base ho0) hb)
              have n6_ := Aside0.mk (Kd.R_lower (Kd.R_new' (Kd.R_new' (Kd.R_new' (Kd.R_new' (Kd.R_new' (Kd.R_new' ho0 (Kd.R_lt Bd.out)) (Kd.R_lt Bf.out)) (Kd.R_lt Be.out)) (Kd.R_lt Bs.out)) (Kd.R_lt Bu.out)) (Kd.R_lt By.out)) (below_size (by repeat (first | (with_reducible first | exact HB.out | apply below_alloc | apply pw_below_drewN | apply below_drew1 | refine below_set ?_ GE224.out | refine below_set ?_ GE225.out | refine below_set ?_ GE230.out | refine below_set ?_ GE231.out | refine below_set ?_ GE232.out | refine below_set ?_ GE250.out) | exact HB.out))))
              have n7_ := Aside0.mk (blk_below (g := Bq) (o := .cells #[.int .i64 a0_0, .slice A0_1 l0_1.length c0_1] 36 (0, 0)) Bn.out hb)
              have n8_ := Aside0.mk (blk_below (g := Br) (o := .cells #[.int .i64 0, .slice none 0 0] 36 (0, 0)) Bo.out hb)
              have n9_ := Aside0.mk (blk_below (g := Bj) (o := .cells #[.int .i64 Bh, .slice Ao35 Ba.length co35] 36 (0, 0)) Bg.out hb)
              have n10_ := Aside0.mk (blk_below (g := Bm) (o := .cells #[.int .i64 Bl, .slice Ao36 Bb.length co36] 36 (0, 0)) Bi.out hb)
              have n11_ := Aside0.mk (blk_below (g := Bp) (o := .cells #[.int .i64 t226, .slice Ao22 t227.length co22] 36 (0, 0)) Bk.out hb)
              have n12_ := Aside0.mk (blk_below (g := Bc) (o := .cells #[.int .i64 0, .slice none 0 0] 36 (0, 0)) Bt.out hb)
              have n13_ := Aside0.mk (below_step (by repeat (first | (with_reducible first | exact HB.out | apply below_alloc | apply pw_below_drewN | apply below_drew1 | refine below_set ?_ GE224.out | refine below_set ?_ GE225.out | refine below_set ?_ GE230.out | refine below_set ?_ GE231.out | refine below_set ?_ GE232.out | refine below_set ?_ GE250.out) | exact HB.out)) hb)
              clear Bd Bf Be Bs Bu By Bn Bo Bg Bi Bk Bt HB
              have Bd := n0_
              have Bf := n1_
              have Be := n2_
              have Bs := n3_
              have Bu := n4_
              have By := n5_
              have Cg := n6_
              have Bn := n7_
              have Bo := n8_
              have Bg := n9_
              have Bi := n10_
              have Bk := n11_
              have Bt := n12_
              have HB := n13_
              clear n0_ n1_ n2_ n3_ n4_ n5_ n6_ n7_ n8_ n9_ n10_ n11_ n12_ n13_
              (try clear hb)
              (try clear hb2)
              (try clear hk)
              (try clear hi)
              (try clear ho0)
              refine hK.out _ _ ⟨(blk_cell Bi.out 0).trans rfl, (blk_cell Bi.out 1).trans rfl, (blk_cell Bg.out 0).trans rfl, (blk_cell Bg.out 1).trans rfl, (blk_cell Bk.out 0).trans rfl, (blk_cell Bk.out 1).trans rfl⟩ (fun hHeld => ?_)
              clear hK K
              refine norm_ (a' := ?_) ?_ ?_
              rotate_left
              · show Act.put _ (some 29) _ = _
                simp only [Act.put, List.setIfInBounds_toArray, List.set_cons_zero, List.set_cons_succ, i64_w, i32_w]
                rfl
              exact norm_ (by first | (simp only [putAll, Act.put, List.setIfInBounds_toArray, List.set_cons_zero, List.set_cons_succ]; done) | (simp only [putAll, Act.put, List.setIfInBounds_toArray, List.set_cons_zero, List.set_cons_succ]; rfl)) (hJ4_5_9_10_11 (v236, .slice Ao44 t239.length co44, .slice Ao45 t243.length co45, v248, Bc) _ ⟨hHeld, (by exact Kd.R_mono Bs.out (fun _ hk => ⟨hk.1.1, ⟨hk.1.2.1, ⟨hk.2, ⟨hk.1.2.2.1, ⟨hk.1.2.2.2.1, hk.1.2.2.2.2⟩⟩⟩⟩⟩)), (by exact Kd.R_mono Bu.out (fun _ hk => ⟨hk.1.1, ⟨hk.1.2.1, ⟨hk.2, ⟨hk.1.2.2.1, ⟨hk.1.2.2.2.1, hk.1.2.2.2.2⟩⟩⟩⟩⟩)), (by exact Kd.R_mono By.out (fun _ hk => ⟨hk.1.1, ⟨hk.1.2.1, ⟨hk.2, ⟨hk.1.2.2.1, ⟨hk.1.2.2.2.1, hk.1.2.2.2.2⟩⟩⟩⟩⟩)), (by exact Kd.R_mono Cg.out (fun _ hk => ⟨hk.1.1.2, ⟨hk.1.2, ⟨hk.2, ⟨hk.1.1.1.1.1.2, ⟨hk.1.1.1.1.2, hk.1.1.1.2⟩⟩⟩⟩⟩)), (by exact Kd.R_mono Bd.out (fun _ hk => ⟨hk.1.1, ⟨hk.1.2.1, ⟨hk.1.2.2.1, ⟨hk.2, ⟨hk.1.2.2.2.1, hk.1.2.2.2.2⟩⟩⟩⟩⟩)), (by exact Kd.R_mono Bf.out (fun _ hk => ⟨hk.1.1, ⟨hk.1.2.1, ⟨hk.1.2.2.1, ⟨hk.2, ⟨hk.1.2.2.2.1, hk.1.2.2.2.2⟩⟩⟩⟩⟩)), (by exact Kd.R_mono Be.out (fun _ hk => ⟨hk.1.1, ⟨hk.1.2.1, ⟨hk.1.2.2.1, ⟨hk.2, ⟨hk.1.2.2.2.1, hk.1.2.2.2.2⟩⟩⟩⟩⟩)), Bn.out, Bo.out, Bg.out, Bi.out, Bk.out, Bt.out, GW250.out, GE250.out, Bz.out, Cc.out, Ca.out, Cd.out, Bv.out, Cb.out, Bw.out, Ce.out, Bx.out, Cf.out, (by repeat (first | (with_reducible first | exact HB.out | apply below_alloc | apply pw_below_drewN | apply below_drew1 | refine below_set ?_ GE224.out | refine below_set ?_ GE225.out | refine below_set ?_ GE230.out | refine below_set ?_ GE231.out | refine below_set ?_ GE232.out | refine below_set ?_ GE250.out) | exact HB.out))⟩)
          · skip
            rintro ⟨v236, v240, v244, v248⟩ w45 ⟨hS_, h0_, h1_, h2_, h3_, h4_, h5_, h6_, h7_, h8_, h9_, h10_, h11_, h12_⟩
            have n0_ : Aside0 (Kd.R (Kd.int .i64) 2 w45 w.heap.size (fun k_ => some k_ ≠ (v240 : Value).ownBlock ∧ some k_ ≠ (v244 : Value).ownBlock ∧ some k_ ≠ (v248 : Value).ownBlock ∧ some k_ ≠ (.slice Ao35 Ba.length co35 : Value).ownBlock ∧ some k_ ≠ (.slice Ao36 Bb.length co36 : Value).ownBlock ∧ some k_ ≠ (.slice Ao22 t227.length co22 : Value).ownBlock) v236 t235) := ⟨h0_⟩
            have n1_ : Aside0 (Kd.R (Kd.int .i64) 2 w45 w.heap.size (fun k_ => some k_ ≠ (v236 : Value).ownBlock ∧ some k_ ≠ (v244 : Value).ownBlock ∧ some k_ ≠ (v248 : Value).ownBlock ∧ some k_ ≠ (.slice Ao35 Ba.length co35 : Value).ownBlock ∧ some k_ ≠ (.slice Ao36 Bb.length co36 : Value).ownBlock ∧ some k_ ≠ (.slice Ao22 t227.length co22 : Value).ownBlock) v240 t239) := ⟨h1_⟩
            have n2_ : Aside0 (Kd.R (Kd.int .i64) 2 w45 w.heap.size (fun k_ => some k_ ≠ (v236 : Value).ownBlock ∧ some k_ ≠ (v240 : Value).ownBlock ∧ some k_ ≠ (v248 : Value).ownBlock ∧ some k_ ≠ (.slice Ao35 Ba.length co35 : Value).ownBlock ∧ some k_ ≠ (.slice Ao36 Bb.length co36 : Value).ownBlock ∧ some k_ ≠ (.slice Ao22 t227.length co22 : Value).ownBlock) v244 t243) := ⟨h2_⟩
            have n3_ : Aside0 (Kd.R (Kd.int .i64) 2 w45 w.heap.size (fun k_ => some k_ ≠ (v236 : Value).ownBlock ∧ some k_ ≠ (v240 : Value).ownBlock ∧ some k_ ≠ (v244 : Value).ownBlock ∧ some k_ ≠ (.slice Ao35 Ba.length co35 : Value).ownBlock ∧ some k_ ≠ (.slice Ao36 Bb.length co36 : Value).ownBlock ∧ some k_ ≠ (.slice Ao22 t227.length co22 : Value).ownBlock) v248 t247) := ⟨h3_⟩
            have n4_ : Aside0 (Kd.R (Kd.int .i64) 2 w45 w.heap.size (fun k_ => some k_ ≠ (v236 : Value).ownBlock ∧ some k_ ≠ (v240 : Value).ownBlock ∧ some k_ ≠ (v244 : Value).ownBlock ∧ some k_ ≠ (v248 : Value).ownBlock ∧ some k_ ≠ (.slice Ao36 Bb.length co36 : Value).ownBlock ∧ some k_ ≠ (.slice Ao22 t227.length co22 : Value).ownBlock) (.slice Ao35 Ba.length co35) Ba) := ⟨h4_⟩
            have n5_ : Aside0 (Kd.R (Kd.int .i64) 2 w45 w.heap.size (fun k_ => some k_ ≠ (v236 : Value).ownBlock ∧ some k_ ≠ (v240 : Value).ownBlock ∧ some k_ ≠ (v244 : Value).ownBlock ∧ some k_ ≠ (v248 : Value).ownBlock ∧ some k_ ≠ (.slice Ao35 Ba.length co35 : Value).ownBlock ∧ some k_ ≠ (.slice Ao22 t227.length co22 : Value).ownBlock) (.slice Ao36 Bb.length co36) Bb) := ⟨h5_⟩
            have n6_ : Aside0 (Kd.R (Kd.int .i64) 2 w45 w.heap.size (fun k_ => some k_ ≠ (v236 : Value).ownBlock ∧ some k_ ≠ (v240 : Value).ownBlock ∧ some k_ ≠ (v244 : Value).ownBlock ∧ some k_ ≠ (v248 : Value).ownBlock ∧ some k_ ≠ (.slice Ao35 Ba.length co35 : Value).ownBlock ∧ some k_ ≠ (.slice Ao36 Bb.length co36 : Value).ownBlock) (.slice Ao22 t227.length co22) t227) := ⟨h6_⟩
            have n7_ : Aside0 (w45.heap[Bq]? = some (.cells #[.int .i64 a0_0, .slice A0_1 l0_1.length c0_1] 36 (0, 0))) := ⟨h7_⟩
            have n8_ : Aside0 (w45.heap[Br]? = some (.cells #[.int .i64 0, .slice none 0 0] 36 (0, 0))) := ⟨h8_⟩
            have n9_ : Aside0 (w45.heap[Bj]? = some (.cells #[.int .i64 Bh, .slice Ao35 Ba.length co35] 36 (0, 0))) := ⟨h9_⟩
            have n10_ : Aside0 (w45.heap[Bm]? = some (.cells #[.int .i64 Bl, .slice Ao36 Bb.length co36] 36 (0, 0))) := ⟨h10_⟩
            have n11_ : Aside0 (w45.heap[Bp]? = some (.cells #[.int .i64 t226, .slice Ao22 t227.length co22] 36 (0, 0))) := ⟨h11_⟩
            have n12_ : Aside0 (Below w.heap.size w w45) := ⟨h12_⟩
            clear Bd Bf Be Bn Bo Bg Bi Bk HB h0_ h1_ h2_ h3_ h4_ h5_ h6_ h7_ h8_ h9_ h10_ h11_ h12_
            have Bs := n0_
            have Bu := n1_
            have By := n2_
            have Cg := n3_
            have Bd := n4_
            have Bf := n5_
            have Be := n6_
            have Bn := n7_
            have Bo := n8_
            have Bg := n9_
            have Bi := n10_
            have Bk := n11_
            have HB := n12_
            clear n0_ n1_ n2_ n3_ n4_ n5_ n6_ n7_ n8_ n9_ n10_ n11_ n12_
            have hHeld : w45.cell? ⟨Bm, 0, none⟩ = some (.int .i64 Bl) ∧ w45.cell? ⟨Bm, 1, none⟩ = some (.slice Ao36 Bb.length co36) ∧ w45.cell? ⟨Bj, 0, none⟩ = some (.int .i64 Bh) ∧ w45.cell? ⟨Bj, 1, none⟩ = some (.slice Ao35 Ba.length co35) ∧ w45.cell? ⟨Bp, 0, none⟩ = some (.int .i64 t226) ∧ w45.cell? ⟨Bp, 1, none⟩ = some (.slice Ao22 t227.length co22) := hS_
            refine norm_ (a' := ?_) ?_ ?_
            rotate_left
            · simp only [putAll, Act.put, List.setIfInBounds_toArray, List.set_cons_zero, List.set_cons_succ]
              rfl
            refine one_ (i := 11) (N := some 7) #[true, true, true, true, true, true, true, true, true, true, true, true, false] rfl rfl (one_of HT_.out (by kernel_rfl)) (by decide) (fun K hK => ?_)
            refine box_step ?hg (N := 7) ?hd (cs := #[.int .i64 0, .slice none 0 0]) (t := 36) ?hr ?_; (case hd => rfl); (case hg => rfl); (case hr => first | (go_simp; done) | (go_simp; rfl))
            intro Bc hg w46 hbox hb
            have n0_ := Aside0.mk (Kd.R_below Bd.out hb)
            have n1_ := Aside0.mk (Kd.R_below Bf.out hb)
            have n2_ := Aside0.mk (Kd.R_below Be.out hb)
            have n3_ := Aside0.mk (Kd.R_below Bs.out hb)
            have n4_ := Aside0.mk (Kd.R_below Bu.out hb)
            have n5_ := Aside0.mk (Kd.R_below By.out hb)
            have n6_ := Aside0.mk (Kd.R_below Cg.out hb)
            have n7_ := Aside0.mk (blk_below (g := Bq) (o := .cells #[.int .i64 a0_0, .slice A0_1 l0_1.length c0_1] 36 (0, 0)) Bn.out hb)
            have n8_ := Aside0.mk (blk_below (g := Br) (o := .cells #[.int .i64 0, .slice none 0 0] 36 (0, 0)) Bo.out hb)
            have n9_ := Aside0.mk (blk_below (g := Bj) (o := .cells #[.int .i64 Bh, .slice Ao35 Ba.length co35] 36 (0, 0)) Bg.out hb)
            have n10_ := Aside0.mk (blk_below (g := Bm) (o := .cells #[.int .i64 Bl, .slice Ao36 Bb.length co36] 36 (0, 0)) Bi.out hb)
            have n11_ := Aside0.mk (blk_below (g := Bp) (o := .cells #[.int .i64 t226, .slice Ao22 t227.length co22] 36 (0, 0)) Bk.out hb)
            have n12_ := Aside0.mk (below_step (by repeat (first | (with_reducible first | exact HB.out | apply below_alloc | apply pw_below_drewN | apply below_drew1 | refine below_set ?_ GE224.out | refine below_set ?_ GE225.out | refine below_set ?_ GE230.out | refine below_set ?_ GE231.out | refine below_set ?_ GE232.out) | exact HB.out)) hb)
            have n13_ := Aside0.mk (hbox)
            have n14_ := Aside0.mk ((by rw [hg]; exact (below_size (by repeat (first | (with_reducible first | exact HB.out | apply below_alloc | apply pw_below_drewN | apply below_drew1 | refine below_set ?_ GE224.out | refine below_set ?_ GE225.out | refine below_set ?_ GE230.out | refine below_set ?_ GE231.out | refine below_set ?_ GE232.out) | exact HB.out))) : w.heap.size ≤ Bc))
            have n15_ := Aside0.mk ((by rw [hg]; exact (below_size (by repeat (first | (with_reducible first | exact HB.out | apply below_alloc | apply pw_below_drewN | apply below_drew1 | refine below_set ?_ GE224.out | refine below_set ?_ GE225.out | refine below_set ?_ GE230.out | refine below_set ?_ GE231.out | refine below_set ?_ GE232.out) | exact HB.out))) : w.heap.size ≤ Bc))
            have n16_ := Aside0.mk ((by rw [hg]; exact Nat.ne_of_lt (blk_lt (g := Bq) (o := .cells #[.int .i64 a0_0, .slice A0_1 l0_1.length c0_1] 36 (0, 0)) Bn.out) : Bq ≠ Bc))
            have n17_ := Aside0.mk ((by rw [hg]; exact Nat.ne_of_gt (blk_lt (g := Bq) (o := .cells #[.int .i64 a0_0, .slice A0_1 l0_1.length c0_1] 36 (0, 0)) Bn.out) : Bc ≠ Bq))
            have n18_ := Aside0.mk ((by rw [hg]; exact Nat.ne_of_lt (blk_lt (g := Br) (o := .cells #[.int .i64 0, .slice none 0 0] 36 (0, 0)) Bo.out) : Br ≠ Bc))
            have n19_ := Aside0.mk ((by rw [hg]; exact Nat.ne_of_gt (blk_lt (g := Br) (o := .cells #[.int .i64 0, .slice none 0 0] 36 (0, 0)) Bo.out) : Bc ≠ Br))
            have n20_ := Aside0.mk ((by rw [hg]; exact Nat.ne_of_lt (blk_lt (g := Bj) (o := .cells #[.int .i64 Bh, .slice Ao35 Ba.length co35] 36 (0, 0)) Bg.out) : Bj ≠ Bc))
            have n21_ := Aside0.mk ((by rw [hg]; exact Nat.ne_of_gt (blk_lt (g := Bj) (o := .cells #[.int .i64 Bh, .slice Ao35 Ba.length co35] 36 (0, 0)) Bg.out) : Bc ≠ Bj))
            have n22_ := Aside0.mk ((by rw [hg]; exact Nat.ne_of_lt (blk_lt (g := Bm) (o := .cells #[.int .i64 Bl, .slice Ao36 Bb.length co36] 36 (0, 0)) Bi.out) : Bm ≠ Bc))
            have n23_ := Aside0.mk ((by rw [hg]; exact Nat.ne_of_gt (blk_lt (g := Bm) (o := .cells #[.int .i64 Bl, .slice Ao36 Bb.length co36] 36 (0, 0)) Bi.out) : Bc ≠ Bm))
            have n24_ := Aside0.mk ((by rw [hg]; exact Nat.ne_of_lt (blk_lt (g := Bp) (o := .cells #[.int .i64 t226, .slice Ao22 t227.length co22] 36 (0, 0)) Bk.out) : Bp ≠ Bc))
            have n25_ := Aside0.mk ((by rw [hg]; exact Nat.ne_of_gt (blk_lt (g := Bp) (o := .cells #[.int .i64 t226, .slice Ao22 t227.length co22] 36 (0, 0)) Bk.out) : Bc ≠ Bp))
            clear Bd Bf Be Bs Bu By Cg Bn Bo Bg Bi Bk HB
            have Bd := n0_
            have Bf := n1_
            have Be := n2_
            have Bs := n3_
            have Bu := n4_
            have By := n5_
            have Cg := n6_
            have Bn := n7_
            have Bo := n8_
            have Bg := n9_
            have Bi := n10_
            have Bk := n11_
            have HB := n12_
            have Bt := n13_
            have GW250 := n14_
            have GE250 := n15_
            have Bz := n16_
            have Cc := n17_
            have Ca := n18_
            have Cd := n19_
            have Bv := n20_
            have Cb := n21_
            have Bw := n22_
            have Ce := n23_
            have Bx := n24_
            have Cf := n25_
            clear n0_ n1_ n2_ n3_ n4_ n5_ n6_ n7_ n8_ n9_ n10_ n11_ n12_ n13_ n14_ n15_ n16_ n17_ n18_ n19_ n20_ n21_ n22_ n23_ n24_ n25_ hb hbox hg
            refine hK.out _ _ ⟨(blk_cell Bi.out 0).trans rfl, (blk_cell Bi.out 1).trans rfl, (blk_cell Bg.out 0).trans rfl, (blk_cell Bg.out 1).trans rfl, (blk_cell Bk.out 0).trans rfl, (blk_cell Bk.out 1).trans rfl⟩ (fun hHeld => ?_)
            clear hK K
            refine norm_ (a' := ?_) ?_ ?_
            rotate_left
            · show Act.put _ (some 7) _ = _
              simp only [Act.put, List.setIfInBounds_toArray, List.set_cons_zero, List.set_cons_succ, i64_w, i32_w]
              rfl
            exact norm_ (by first | (simp only [putAll, Act.put, List.setIfInBounds_toArray, List.set_cons_zero, List.set_cons_succ]; done) | (simp only [putAll, Act.put, List.setIfInBounds_toArray, List.set_cons_zero, List.set_cons_succ]; rfl)) (hJ4_5_9_10_11 (v236, v240, v244, v248, Bc) _ ⟨hHeld, Bs.out, Bu.out, By.out, Cg.out, Bd.out, Bf.out, Be.out, Bn.out, Bo.out, Bg.out, Bi.out, Bk.out, Bt.out, GW250.out, GE250.out, Bz.out, Cc.out, Ca.out, Cd.out, Bv.out, Cb.out, Bw.out, Ce.out, Bx.out, Cf.out, (by repeat (first | (with_reducible first | exact HB.out | apply below_alloc | apply pw_below_drewN | apply below_drew1 | refine below_set ?_ GE224.out | refine below_set ?_ GE225.out | refine below_set ?_ GE230.out | refine below_set ?_ GE231.out | refine below_set ?_ GE232.out | refine below_set ?_ GE250.out) | exact HB.out))⟩)
        rintro ⟨v236, v240, v244, v248, Bc⟩ w46 ⟨hS_, h0_, h1_, h2_, h3_, h4_, h5_, h6_, h7_, h8_, h9_, h10_, h11_, h12_, h13_, h14_, h15_, h16_, h17_, h18_, h19_, h20_, h21_, h22_, h23_, h24_, h25_⟩
        have n0_ : Aside0 (Kd.R (Kd.int .i64) 2 w46 w.heap.size (fun k_ => some k_ ≠ (v240 : Value).ownBlock ∧ some k_ ≠ (v244 : Value).ownBlock ∧ some k_ ≠ (v248 : Value).ownBlock ∧ some k_ ≠ (.slice Ao35 Ba.length co35 : Value).ownBlock ∧ some k_ ≠ (.slice Ao36 Bb.length co36 : Value).ownBlock ∧ some k_ ≠ (.slice Ao22 t227.length co22 : Value).ownBlock) v236 t235) := ⟨h0_⟩
        have n1_ : Aside0 (Kd.R (Kd.int .i64) 2 w46 w.heap.size (fun k_ => some k_ ≠ (v236 : Value).ownBlock ∧ some k_ ≠ (v244 : Value).ownBlock ∧ some k_ ≠ (v248 : Value).ownBlock ∧ some k_ ≠ (.slice Ao35 Ba.length co35 : Value).ownBlock ∧ some k_ ≠ (.slice Ao36 Bb.length co36 : Value).ownBlock ∧ some k_ ≠ (.slice Ao22 t227.length co22 : Value).ownBlock) v240 t239) := ⟨h1_⟩
        have n2_ : Aside0 (Kd.R (Kd.int .i64) 2 w46 w.heap.size (fun k_ => some k_ ≠ (v236 : Value).ownBlock ∧ some k_ ≠ (v240 : Value).ownBlock ∧ some k_ ≠ (v248 : Value).ownBlock ∧ some k_ ≠ (.slice Ao35 Ba.length co35 : Value).ownBlock ∧ some k_ ≠ (.slice Ao36 Bb.length co36 : Value).ownBlock ∧ some k_ ≠ (.slice Ao22 t227.length co22 : Value).ownBlock) v244 t243) := ⟨h2_⟩
        have n3_ : Aside0 (Kd.R (Kd.int .i64) 2 w46 w.heap.size (fun k_ => some k_ ≠ (v236 : Value).ownBlock ∧ some k_ ≠ (v240 : Value).ownBlock ∧ some k_ ≠ (v244 : Value).ownBlock ∧ some k_ ≠ (.slice Ao35 Ba.length co35 : Value).ownBlock ∧ some k_ ≠ (.slice Ao36 Bb.length co36 : Value).ownBlock ∧ some k_ ≠ (.slice Ao22 t227.length co22 : Value).ownBlock) v248 t247) := ⟨h3_⟩
        have n4_ : Aside0 (Kd.R (Kd.int .i64) 2 w46 w.heap.size (fun k_ => some k_ ≠ (v236 : Value).ownBlock ∧ some k_ ≠ (v240 : Value).ownBlock ∧ some k_ ≠ (v244 : Value).ownBlock ∧ some k_ ≠ (v248 : Value).ownBlock ∧ some k_ ≠ (.slice Ao36 Bb.length co36 : Value).ownBlock ∧ some k_ ≠ (.slice Ao22 t227.length co22 : Value).ownBlock) (.slice Ao35 Ba.length co35) Ba) := ⟨h4_⟩
        have n5_ : Aside0 (Kd.R (Kd.int .i64) 2 w46 w.heap.size (fun k_ => some k_ ≠ (v236 : Value).ownBlock ∧ some k_ ≠ (v240 : Value).ownBlock ∧ some k_ ≠ (v244 : Value).ownBlock ∧ some k_ ≠ (v248 : Value).ownBlock ∧ some k_ ≠ (.slice Ao35 Ba.length co35 : Value).ownBlock ∧ some k_ ≠ (.slice Ao22 t227.length co22 : Value).ownBlock) (.slice Ao36 Bb.length co36) Bb) := ⟨h5_⟩
        have n6_ : Aside0 (Kd.R (Kd.int .i64) 2 w46 w.heap.size (fun k_ => some k_ ≠ (v236 : Value).ownBlock ∧ some k_ ≠ (v240 : Value).ownBlock ∧ some k_ ≠ (v244 : Value).ownBlock ∧ some k_ ≠ (v248 : Value).ownBlock ∧ some k_ ≠ (.slice Ao35 Ba.length co35 : Value).ownBlock ∧ some k_ ≠ (.slice Ao36 Bb.length co36 : Value).ownBlock) (.slice Ao22 t227.length co22) t227) := ⟨h6_⟩
        have n7_ : Aside0 (w46.heap[Bq]? = some (.cells #[.int .i64 a0_0, .slice A0_1 l0_1.length c0_1] 36 (0, 0))) := ⟨h7_⟩
        have n8_ : Aside0 (w46.heap[Br]? = some (.cells #[.int .i64 0, .slice none 0 0] 36 (0, 0))) := ⟨h8_⟩
        have n9_ : Aside0 (w46.heap[Bj]? = some (.cells #[.int .i64 Bh, .slice Ao35 Ba.length co35] 36 (0, 0))) := ⟨h9_⟩
        have n10_ : Aside0 (w46.heap[Bm]? = some (.cells #[.int .i64 Bl, .slice Ao36 Bb.length co36] 36 (0, 0))) := ⟨h10_⟩
        have n11_ : Aside0 (w46.heap[Bp]? = some (.cells #[.int .i64 t226, .slice Ao22 t227.length co22] 36 (0, 0))) := ⟨h11_⟩
        have n12_ : Aside0 (w46.heap[Bc]? = some (.cells #[.int .i64 0, .slice none 0 0] 36 (0, 0))) := ⟨h12_⟩
        have n13_ : Aside0 (w.heap.size ≤ Bc) := ⟨h13_⟩
        have n14_ : Aside0 (w.heap.size ≤ Bc) := ⟨h14_⟩
        have n15_ : Aside0 (Bq ≠ Bc) := ⟨h15_⟩
        have n16_ : Aside0 (Bc ≠ Bq) := ⟨h16_⟩
        have n17_ : Aside0 (Br ≠ Bc) := ⟨h17_⟩
        have n18_ : Aside0 (Bc ≠ Br) := ⟨h18_⟩
        have n19_ : Aside0 (Bj ≠ Bc) := ⟨h19_⟩
        have n20_ : Aside0 (Bc ≠ Bj) := ⟨h20_⟩
        have n21_ : Aside0 (Bm ≠ Bc) := ⟨h21_⟩
        have n22_ : Aside0 (Bc ≠ Bm) := ⟨h22_⟩
        have n23_ : Aside0 (Bp ≠ Bc) := ⟨h23_⟩
        have n24_ : Aside0 (Bc ≠ Bp) := ⟨h24_⟩
        have n25_ : Aside0 (Below w.heap.size w w46) := ⟨h25_⟩
        clear Bd Bf Be Bn Bo Bg Bi Bk HB h0_ h1_ h2_ h3_ h4_ h5_ h6_ h7_ h8_ h9_ h10_ h11_ h12_ h13_ h14_ h15_ h16_ h17_ h18_ h19_ h20_ h21_ h22_ h23_ h24_ h25_
        have Bs := n0_
        have Bu := n1_
        have By := n2_
        have Cg := n3_
        have Bd := n4_
        have Bf := n5_
        have Be := n6_
        have Bn := n7_
        have Bo := n8_
        have Bg := n9_
        have Bi := n10_
        have Bk := n11_
        have Bt := n12_
        have GW250 := n13_
        have GE250 := n14_
        have Bz := n15_
        have Cc := n16_
        have Ca := n17_
        have Cd := n18_
        have Bv := n19_
        have Cb := n20_
        have Bw := n21_
        have Ce := n22_
        have Bx := n23_
        have Cf := n24_
        have HB := n25_
        clear n0_ n1_ n2_ n3_ n4_ n5_ n6_ n7_ n8_ n9_ n10_ n11_ n12_ n13_ n14_ n15_ n16_ n17_ n18_ n19_ n20_ n21_ n22_ n23_ n24_ n25_
        have hHeld : w46.cell? ⟨Bm, 0, none⟩ = some (.int .i64 Bl) ∧ w46.cell? ⟨Bm, 1, none⟩ = some (.slice Ao36 Bb.length co36) ∧ w46.cell? ⟨Bj, 0, none⟩ = some (.int .i64 Bh) ∧ w46.cell? ⟨Bj, 1, none⟩ = some (.slice Ao35 Ba.length co35) ∧ w46.cell? ⟨Bp, 0, none⟩ = some (.int .i64 t226) ∧ w46.cell? ⟨Bp, 1, none⟩ = some (.slice Ao22 t227.length co22) := hS_
        obtain ⟨Ao48, co48, eo48⟩ := Kd.R_slice Cg.out
        (first | subst eo48 | (injection eo48 with f1_ f2_ f3_; have f4_ := f1_.symm; have f5_ := f3_.symm; clear f1_ f2_ f3_; subst f4_; subst f5_))
        refine norm_ (a' := ?_) ?_ ?_
        rotate_left
        · simp only [putAll, Act.put, List.setIfInBounds_toArray, List.set_cons_zero, List.set_cons_succ]
          rfl
        refine one_ (i := 12) (N := none) #[true, true, true, true, true, true, true, true, true, true, true, true, true] rfl rfl (one_of HT_.out (by kernel_rfl)) (by decide) (fun K hK => ?_)
        have hs47 : w46.cell? ⟨Bc, 0, none⟩ = some (.int .i64 0) := (blk_cell Bt.out 0).trans rfl
        have hfs47 := blk_frozen Bt.out 0
        have hns47_0 := Bz.out
        have hns47_1 := Ca.out
        have hns47_2 := Bv.out
        have hns47_3 := Bw.out
        have hns47_4 := Bx.out
        have hms47_0 := Cc.out
        have hms47_1 := Cd.out
        have hms47_2 := Cb.out
        have hms47_3 := Ce.out
        have hms47_4 := Cf.out
        have hs49 : w46.cell? ⟨Bc, 1, none⟩ = some (.slice none 0 0) := (blk_cell Bt.out 1).trans rfl
        have hfs49 := blk_frozen Bt.out 1
        have hns49_0 := Bz.out
        have hns49_1 := Ca.out
        have hns49_2 := Bv.out
        have hns49_3 := Bw.out
        have hns49_4 := Bx.out
        have hms49_0 := Cc.out
        have hms49_1 := Cd.out
        have hms49_2 := Cb.out
        have hms49_3 := Ce.out
        have hms49_4 := Cf.out
        refine skip_ (w1 := ?_) (by rfl) rfl ?_ ?_
        rotate_left
        · go_simp
          rfl
        refine hK.out _ _ ⟨((cell_far (p := ⟨Bc, _, none⟩) Bw.out _).trans (((cell_far (p := ⟨Bc, _, none⟩) Bw.out _).trans (hHeld.1)))), ((cell_far (p := ⟨Bc, _, none⟩) Bw.out _).trans (((cell_far (p := ⟨Bc, _, none⟩) Bw.out _).trans (hHeld.2.1)))), ((cell_far (p := ⟨Bc, _, none⟩) Bv.out _).trans (((cell_far (p := ⟨Bc, _, none⟩) Bv.out _).trans (hHeld.2.2.1)))), ((cell_far (p := ⟨Bc, _, none⟩) Bv.out _).trans (((cell_far (p := ⟨Bc, _, none⟩) Bv.out _).trans (hHeld.2.2.2.1)))), ((cell_far (p := ⟨Bc, _, none⟩) Bx.out _).trans (((cell_far (p := ⟨Bc, _, none⟩) Bx.out _).trans (hHeld.2.2.2.2.1)))), ((cell_far (p := ⟨Bc, _, none⟩) Bx.out _).trans (((cell_far (p := ⟨Bc, _, none⟩) Bx.out _).trans (hHeld.2.2.2.2.2))))⟩ (fun hHeld => ?_)
        clear hK K
        refine done_ (done_of HT_.out (by kernel_rfl)) ?_
        have hnb50 := Cc.out
        have hnc50 := Bz.out
        have hnb51 := Cd.out
        have hnc51 := Ca.out
        have hnb52 := Cb.out
        have hnc52 := Bv.out
        have hnb53 := Ce.out
        have hnc53 := Bw.out
        have hnb54 := Cf.out
        have hnc54 := Bx.out
        have hcz55_0 : w46.cell? ⟨Bc, 0, none⟩ = some (.int .i64 0) := (blk_cell Bt.out 0).trans rfl
        have hcz55_1 : w46.cell? ⟨Bc, 1, none⟩ = some (.slice none 0 0) := (blk_cell Bt.out 1).trans rfl
        have hfz55_0 := blk_frozen Bt.out 0
        have hfz55_1 := blk_frozen Bt.out 1
        have hnb56 := Cy.out
        have hnc56 := Cz.out
        have hnb57 := Ci.out
        have hnc57 := Cs.out
        have hnb58 := Cp.out
        have hnc58 := Db.out
        have hnb59 := Cu.out
        have hnc59 := Dc.out
        have hcz60_0 : w46.cell? ⟨Bq, 0, none⟩ = some (.int .i64 a0_0) := (blk_cell Bn.out 0).trans rfl
        have hcz60_1 : w46.cell? ⟨Bq, 1, none⟩ = some (.slice A0_1 l0_1.length c0_1) := (blk_cell Bn.out 1).trans rfl
        have hfz60_0 := blk_frozen Bn.out 0
        have hfz60_1 := blk_frozen Bn.out 1
        by_cases c32 : t251 ≤ 0
        · have H := HX.out
          rw [if_pos c32] at H
          have c32b0 : decide (t251 ≤ 0) = true := decide_eq_true c32
          clear c32
          replace H := Option.bind_eq_some_iff.mp H
          obtain ⟨⟨t252, t253⟩, A330, H⟩ := H
          replace H : ((spec_l02Add.f k1 Bh Ba t252 t253).bind fun bt256 => (spec_l02Root.l0 k1 (wrap64 (Ch - 1)) a0_0 l0_1 bt256.1 bt256.2 t246 t247 t226 t227)) = some (r1, r2) := H
          have A33 := Aside0.mk A330
          clear A330
          replace H := Option.bind_eq_some_iff.mp H
          obtain ⟨⟨t256, t257⟩, A340, H⟩ := H
          replace H : (spec_l02Root.l0 k1 (wrap64 (Ch - 1)) a0_0 l0_1 t256 t257 t246 t247 t226 t227) = some (r1, r2) := H
          have A34 := Aside0.mk A340
          clear A340
          have H' := Aside0.mk H
          clear H
          try go_wp2_with (first | ((with_reducible refine gate_callee (f := 20) rfl ?_); refine goesL_ (some 32) rfl rfl Try.func20 (by kernel_rfl) rfl #[.agg #[.int .i64 t246, .slice Ao48 t247.length co48], .agg #[.int .i64 a0_0, .slice A0_1 l0_1.length c0_1]] rfl (by (try simp only [List.map_toArray, List.map_cons, List.map_nil]); first | done | rfl | (simp only [List.length_drop, List.length_take]; rfl)) ?_; (with_reducible refine (spec_l02Compare.calls k1 t246 _ _ t247 a0_0 _ _ l0_1 t251 _ ?side1 ?side2 ?side3 ?side4 A31.out).mono ?_); (case side1 => refine (Kd.R_reads' (e := 2) (base := w.heap.size) (ok := fun k_ => (some k_ ≠ (v236 : Value).ownBlock ∧ (some k_ ≠ (v240 : Value).ownBlock ∧ (some k_ ≠ (v244 : Value).ownBlock ∧ (some k_ ≠ (.slice Ao35 Ba.length co35 : Value).ownBlock ∧ (some k_ ≠ (.slice Ao36 Bb.length co36 : Value).ownBlock ∧ some k_ ≠ (.slice Ao22 t227.length co22 : Value).ownBlock)))))) (n := t247.length) (c := co48) ?_).2.2; exact (by exact (Kd.R_mono (Kd.R_far (p := ⟨Bc, 1, none⟩) (Kd.R_far (p := ⟨Bc, 0, none⟩) (Kd.R_types Cg.out Bt.out (by decide)) (fun _ hk => hk.2) (.int .i64 t246)) (fun _ hk => hk.2) (.slice Ao48 t247.length co48)) (fun _ h_ => h_.1)))); (case side2 => exact (Kd.R_reads' Cg.out).2.1); (case side3 => exact Kd.C_below HR0_1.out (by repeat (first | (with_reducible first | exact HB.out | apply below_alloc | apply pw_below_drewN | apply below_drew1 | refine below_set ?_ GE224.out | refine below_set ?_ GE225.out | refine below_set ?_ GE230.out | refine below_set ?_ GE231.out | refine below_set ?_ GE232.out | refine below_set ?_ GE250.out) | exact HB.out))); (case side4 => exact HC0_1.out); rintro e w61 ⟨rfl, hb⟩; refine ⟨_, rfl, ?_⟩; have n0_ := Aside0.mk (Kd.R_below (by exact (Kd.R_mono (Kd.R_far (p := ⟨Bc, 1, none⟩) (Kd.R_far (p := ⟨Bc, 0, none⟩) (Kd.R_types Bd.out Bt.out (by decide)) (fun _ hk => hk.2) (.int .i64 t246)) (fun _ hk => hk.2) (.slice Ao48 t247.length co48)) (fun _ h_ => h_.1))) hb); have n1_ := Aside0.mk (Kd.R_below (by exact (Kd.R_mono (Kd.R_far (p := ⟨Bc, 1, none⟩) (Kd.R_far (p := ⟨Bc, 0, none⟩) (Kd.R_types Bf.out Bt.out (by decide)) (fun _ hk => hk.2) (.int .i64 t246)) (fun _ hk => hk.2) (.slice Ao48 t247.length co48)) (fun _ h_ => h_.1))) hb); have n2_ := Aside0.mk (Kd.R_below (by exact (Kd.R_mono (Kd.R_far (p := ⟨Bc, 1, none⟩) (Kd.R_far (p := ⟨Bc, 0, none⟩) (Kd.R_types Be.out Bt.out (by decide)) (fun _ hk => hk.2) (.int .i64 t246)) (fun _ hk => hk.2) (.slice Ao48 t247.length co48)) (fun _ h_ => h_.1))) hb); have n3_ := Aside0.mk (Kd.R_below (by exact (Kd.R_mono (Kd.R_far (p := ⟨Bc, 1, none⟩) (Kd.R_far (p := ⟨Bc, 0, none⟩) (Kd.R_types Bs.out Bt.out (by decide)) (fun _ hk => hk.2) (.int .i64 t246)) (fun _ hk => hk.2) (.slice Ao48 t247.length co48)) (fun _ h_ => h_.1))) hb); have n4_ := Aside0.mk (Kd.R_below (by exact (Kd.R_mono (Kd.R_far (p := ⟨Bc, 1, none⟩) (Kd.R_far (p := ⟨Bc, 0, none⟩) (Kd.R_types Bu.out Bt.out (by decide)) (fun _ hk => hk.2) (.int .i64 t246)) (fun _ hk => hk.2) (.slice Ao48 t247.length co48)) (fun _ h_ => h_.1))) hb); have n5_ := Aside0.mk (Kd.R_below (by exact (Kd.R_mono (Kd.R_far (p := ⟨Bc, 1, none⟩) (Kd.R_far (p := ⟨Bc, 0, none⟩) (Kd.R_types By.out Bt.out (by decide)) (fun _ hk => hk.2) (.int .i64 t246)) (fun _ hk => hk.2) (.slice Ao48 t247.length co48)) (fun _ h_ => h_.1))) hb); have n6_ := Aside0.mk (Kd.R_below (by exact (Kd.R_mono (Kd.R_far (p := ⟨Bc, 1, none⟩) (Kd.R_far (p := ⟨Bc, 0, none⟩) (Kd.R_types Cg.out Bt.out (by decide)) (fun _ hk => hk.2) (.int .i64 t246)) (fun _ hk => hk.2) (.slice Ao48 t247.length co48)) (fun _ h_ => h_.1))) hb); have n7_ := Aside0.mk (blk_below (g := Bq) (o := .cells #[.int .i64 a0_0, .slice A0_1 l0_1.length c0_1] 36 (0, 0)) (by refine blk_far ?_ Bz.out _; refine blk_far ?_ Bz.out _; exact Bn.out) hb); have n8_ := Aside0.mk (blk_below (g := Br) (o := .cells #[.int .i64 0, .slice none 0 0] 36 (0, 0)) (by refine blk_far ?_ Ca.out _; refine blk_far ?_ Ca.out _; exact Bo.out) hb); have n9_ := Aside0.mk (blk_below (g := Bj) (o := .cells #[.int .i64 Bh, .slice Ao35 Ba.length co35] 36 (0, 0)) (by refine blk_far ?_ Bv.out _; refine blk_far ?_ Bv.out _; exact Bg.out) hb); have n10_ := Aside0.mk (blk_below (g := Bm) (o := .cells #[.int .i64 Bl, .slice Ao36 Bb.length co36] 36 (0, 0)) (by refine blk_far ?_ Bw.out _; refine blk_far ?_ Bw.out _; exact Bi.out) hb); have n11_ := Aside0.mk (blk_below (g := Bp) (o := .cells #[.int .i64 t226, .slice Ao22 t227.length co22] 36 (0, 0)) (by refine blk_far ?_ Bx.out _; refine blk_far ?_ Bx.out _; exact Bk.out) hb); have n12_ := Aside0.mk (blk_below (g := Bc) (o := .cells #[.int .i64 t246, .slice Ao48 t247.length co48] 36 (0, 0)) (by refine blk_put (cs := #[.int .i64 t246, .slice none 0 0]) ?_ 1 _ rfl; refine blk_put (cs := #[.int .i64 0, .slice none 0 0]) ?_ 0 _ rfl; exact Bt.out) hb); have n13_ := Aside0.mk (below_step (by repeat (first | (with_reducible first | exact HB.out | apply below_alloc | apply pw_below_drewN | apply below_drew1 | refine below_set ?_ GE224.out | refine below_set ?_ GE225.out | refine below_set ?_ GE230.out | refine below_set ?_ GE231.out | refine below_set ?_ GE232.out | refine below_set ?_ GE250.out) | exact HB.out)) hb); clear Bd; clear Bf; clear Be; clear Bs; clear Bu; clear By; clear Cg; clear Bn; clear Bo; clear Bg; clear Bi; clear Bk; clear Bt; clear HB; have Bd := n0_; have Bf := n1_; have Be := n2_; have Bs := n3_; have Bu := n4_; have By := n5_; have Cg := n6_; have Bn := n7_; have Bo := n8_; have Bg := n9_; have Bi := n10_; have Bk := n11_; have Bt := n12_; have HB := n13_; clear n0_ n1_ n2_ n3_ n4_ n5_ n6_ n7_ n8_ n9_ n10_ n11_ n12_ n13_; (try clear hb); (try clear hb2); (try clear hk); (try clear hi)))
          have n0_ := Aside0.mk (Kd.R_drew Bd.out)
          have n1_ := Aside0.mk (Kd.R_drew Bf.out)
          have n2_ := Aside0.mk (Kd.R_drew Be.out)
          have n3_ := Aside0.mk (Kd.R_drew Bs.out)
          have n4_ := Aside0.mk (Kd.R_drew Bu.out)
          have n5_ := Aside0.mk (Kd.R_drew By.out)
          have n6_ := Aside0.mk (Kd.R_drew Cg.out)
          have n7_ := Aside0.mk (blk_drew Bn.out)
          have n8_ := Aside0.mk (blk_drew Bo.out)
          have n9_ := Aside0.mk (blk_drew Bg.out)
          have n10_ := Aside0.mk (blk_drew Bi.out)
          have n11_ := Aside0.mk (blk_drew Bk.out)
          have n12_ := Aside0.mk (blk_drew Bt.out)
          have n13_ := Aside0.mk (below_drew1 HB.out)
          clear Bd Bf Be Bs Bu By Cg Bn Bo Bg Bi Bk Bt HB
          have Bd := n0_
          have Bf := n1_
          have Be := n2_
          have Bs := n3_
          have Bu := n4_
          have By := n5_
          have Cg := n6_
          have Bn := n7_
          have Bo := n8_
          have Bg := n9_
          have Bi := n10_
          have Bk := n11_
          have Bt := n12_
          have HB := n13_
          clear n0_ n1_ n2_ n3_ n4_ n5_ n6_ n7_ n8_ n9_ n10_ n11_ n12_ n13_
          refine start_ (n := 6) (S := fun w' => w'.cell? ⟨Bj, 0, none⟩ = some (.int .i64 Bh) ∧ w'.cell? ⟨Bj, 1, none⟩ = some (.slice Ao35 Ba.length co35) ∧ w'.cell? ⟨Bp, 0, none⟩ = some (.int .i64 t226) ∧ w'.cell? ⟨Bp, 1, none⟩ = some (.slice Ao22 t227.length co22)) (ds := [5]) #[false, false, false, false, false, false] (by kernel_rfl) rfl rfl ⟨(blk_cell Bg.out 0).trans rfl, (blk_cell Bg.out 1).trans rfl, (blk_cell Bk.out 0).trans rfl, (blk_cell Bk.out 1).trans rfl⟩ (fun hHeld => ?_)
          generalize w61.drew = w62 at Bd Bf Be Bs Bu By Cg Bn Bo Bg Bi Bk Bt HB hHeld ⊢
          refine pure_ (i := 2) (N := some 36) (v := ?_) (a' := ?_) #[false, false, true, false, false, false] rfl rfl (by kernel_rfl) (fun _ _ _ h => h) (Or.inl ⟨by rfl, ?_⟩) ?_ ?_
          rotate_left
          · intro w'
            go_simp
            with_reducible rfl
          rotate_left
          · simp only [Act.put, List.setIfInBounds_toArray, List.set_cons_zero, List.set_cons_succ, i64_w, i32_w]
            rfl
          refine take_ (i := 0) (N := some 34) (v := ?_) (a' := ?_) #[true, false, true, false, false, false] rfl rfl (by kernel_rfl) (fun _ _ _ h => h) (Or.inl ⟨by rfl, ?_⟩) hHeld ?_ ?_
          rotate_left
          · rintro w' ⟨s0, s1, s2, s3⟩
            go_simp
            with_reducible rfl
          rotate_left
          · simp only [Act.put, List.setIfInBounds_toArray, List.set_cons_zero, List.set_cons_succ, i64_w, i32_w]
            rfl
          refine take_ (i := 1) (N := some 35) (v := ?_) (a' := ?_) #[true, true, true, false, false, false] rfl rfl (by kernel_rfl) (fun _ _ _ h => h) (Or.inl ⟨by rfl, ?_⟩) hHeld ?_ ?_
          rotate_left
          · rintro w' ⟨s0, s1, s2, s3⟩
            go_simp
            with_reducible rfl
          rotate_left
          · simp only [Act.put, List.setIfInBounds_toArray, List.set_cons_zero, List.set_cons_succ, i64_w, i32_w]
            rfl
          refine one_ (i := 3) (N := some 37) #[true, true, true, true, false, false] rfl rfl (by kernel_rfl) (by decide) (fun K hK => ?_)
          refine goes_ Try.func18 (by kernel_rfl) rfl #[.agg #[.int .i64 t226, .slice Ao22 t227.length co22], .int .i64 Ch] (by rfl) rfl rfl (by (try simp only [List.map_toArray, List.map_cons, List.map_nil]); first | done | rfl | (simp only [List.length_drop, List.length_take]; rfl)) ?_
          with_reducible refine (spec_l02Left.calls k1 t226 _ _ t227 Ch t252 t253 _ ?side1 ?side2 A33.out).mono ?_
          (case side1 => repeat (first | exact (Kd.R_reads' Be.out).2.2 | (with_reducible refine Kd.C_alloc ?_ _) | (with_reducible refine Kd.C_drewN ?_ _) | (with_reducible refine Kd.C_drew ?_)))
          (case side2 => exact (Kd.R_reads' Be.out).2.1)
          rintro e w63 ⟨v254, rfl, ho0, hb⟩
          refine ⟨_, rfl, ?_⟩
          have n0_ := Aside0.mk (Kd.R_elder' Bd.out (Kd.R_base ho0) hb)
          have n1_ := Aside0.mk (Kd.R_elder' Bf.out (Kd.R_base ho0) hb)
          have n2_ := Aside0.mk (Kd.R_elder' Be.out (Kd.R_base ho0) hb)
          have n3_ := Aside0.mk (Kd.R_elder' Bs.out (Kd.R_base ho0) hb)
          have n4_ := Aside0.mk (Kd.R_elder' Bu.out (Kd.R_base ho0) hb)
          have n5_ := Aside0.mk (Kd.R_elder' By.out (Kd.R_base ho0) hb)
          have n6_ := Aside0.mk (Kd.R_elder' Cg.out (Kd.R_base ho0) hb)
          have n7_ := Aside0.mk (Kd.R_lower (Kd.R_new' (Kd.R_new' (Kd.R_new' (Kd.R_new' (Kd.R_new' (Kd.R_new' (Kd.R_new' ho0 (Kd.R_lt Bd.out)) (Kd.R_lt Bf.out)) (Kd.R_lt Be.out)) (Kd.R_lt Bs.out)) (Kd.R_lt Bu.out)) (Kd.R_lt By.out)) (Kd.R_lt Cg.out)) (below_size (by repeat (first | (with_reducible first | exact HB.out | apply below_alloc | apply pw_below_drewN | apply below_drew1 | refine below_set ?_ GE224.out | refine below_set ?_ GE225.out | refine below_set ?_ GE230.out | refine below_set ?_ GE231.out | refine below_set ?_ GE232.out | refine below_set ?_ GE250.out) | exact HB.out))))
          have n8_ := Aside0.mk (blk_below (g := Bq) (o := .cells #[.int .i64 a0_0, .slice A0_1 l0_1.length c0_1] 36 (0, 0)) Bn.out hb)
          have n9_ := Aside0.mk (blk_below (g := Br) (o := .cells #[.int .i64 0, .slice none 0 0] 36 (0, 0)) Bo.out hb)
          have n10_ := Aside0.mk (blk_below (g := Bj) (o := .cells #[.int .i64 Bh, .slice Ao35 Ba.length co35] 36 (0, 0)) Bg.out hb)
          have n11_ := Aside0.mk (blk_below (g := Bm) (o := .cells #[.int .i64 Bl, .slice Ao36 Bb.length co36] 36 (0, 0)) Bi.out hb)
          have n12_ := Aside0.mk (blk_below (g := Bp) (o := .cells #[.int .i64 t226, .slice Ao22 t227.length co22] 36 (0, 0)) Bk.out hb)
          have n13_ := Aside0.mk (blk_below (g := Bc) (o := .cells #[.int .i64 t246, .slice Ao48 t247.length co48] 36 (0, 0)) Bt.out hb)
          have n14_ := Aside0.mk (below_step (by repeat (first | (with_reducible first | exact HB.out | apply below_alloc | apply pw_below_drewN | apply below_drew1 | refine below_set ?_ GE224.out | refine below_set ?_ GE225.out | refine below_set ?_ GE230.out | refine below_set ?_ GE231.out | refine below_set ?_ GE232.out | refine below_set ?_ GE250.out) | exact HB.out)) hb)
          clear Bd Bf Be Bs Bu By Cg Bn Bo Bg Bi Bk Bt HB
          have Bd := n0_
          have Bf := n1_
          have Be := n2_
          have Bs := n3_
          have Bu := n4_
          have By := n5_
          have Cg := n6_
          have Cx := n7_
          have Bn := n8_
          have Bo := n9_
          have Bg := n10_
          have Bi := n11_
          have Bk := n12_
          have Bt := n13_
          have HB := n14_
          clear n0_ n1_ n2_ n3_ n4_ n5_ n6_ n7_ n8_ n9_ n10_ n11_ n12_ n13_ n14_
          (try clear hb)
          (try clear hb2)
          (try clear hk)
          (try clear hi)
          (try clear ho0)
          obtain ⟨Ao64, co64, eo64⟩ := Kd.R_slice Cx.out
          (first | subst eo64 | (injection eo64 with f1_ f2_ f3_; have f4_ := f1_.symm; have f5_ := f3_.symm; clear f1_ f2_ f3_; subst f4_; subst f5_))
          refine hK.out _ _ ⟨(blk_cell Bg.out 0).trans rfl, (blk_cell Bg.out 1).trans rfl, (blk_cell Bk.out 0).trans rfl, (blk_cell Bk.out 1).trans rfl⟩ (fun hHeld => ?_)
          clear hK K
          refine norm_ (a' := ?_) ?_ ?_
          rotate_left
          · show Act.put _ (some 37) _ = _
            simp only [Act.put, List.setIfInBounds_toArray, List.set_cons_zero, List.set_cons_succ, i64_w, i32_w]
            rfl
          refine one_ (i := 4) (N := some 38) #[true, true, true, true, true, false] rfl rfl (by kernel_rfl) (by decide) (fun K hK => ?_)
          refine goes_ Try.func22 (by kernel_rfl) rfl #[.agg #[.int .i64 Bh, .slice Ao35 Ba.length co35], .agg #[.int .i64 t252, .slice Ao64 t253.length co64]] (by rfl) rfl rfl (by (try simp only [List.map_toArray, List.map_cons, List.map_nil]); first | done | rfl | (simp only [List.length_drop, List.length_take]; rfl)) ?_
          with_reducible refine (spec_l02Add.calls k1 Bh _ _ Ba t252 _ _ t253 t256 t257 _ ?side1 ?side2 ?side3 ?side4 A34.out).mono ?_
          (case side1 => repeat (first | exact (Kd.R_reads' Bd.out).2.2 | (with_reducible refine Kd.C_alloc ?_ _) | (with_reducible refine Kd.C_drewN ?_ _) | (with_reducible refine Kd.C_drew ?_)))
          (case side2 => exact (Kd.R_reads' Bd.out).2.1)
          (case side3 => repeat (first | exact (Kd.R_reads' Cx.out).2.2 | (with_reducible refine Kd.C_alloc ?_ _) | (with_reducible refine Kd.C_drewN ?_ _) | (with_reducible refine Kd.C_drew ?_)))
          (case side4 => exact (Kd.R_reads' Cx.out).2.1)
          rintro e w65 ⟨v258, rfl, ho0, hb⟩
          refine ⟨_, rfl, ?_⟩
          have n0_ := Aside0.mk (Kd.R_elder' Bd.out (Kd.R_base ho0) hb)
          have n1_ := Aside0.mk (Kd.R_elder' Bf.out (Kd.R_base ho0) hb)
          have n2_ := Aside0.mk (Kd.R_elder' Be.out (Kd.R_base ho0) hb)
          have n3_ := Aside0.mk (Kd.R_elder' Bs.out (Kd.R_base ho0) hb)
          have n4_ := Aside0.mk (Kd.R_elder' Bu.out (Kd.R_base ho0) hb)
          have n5_ := Aside0.mk (Kd.R_elder' By.out (Kd.R_base ho0) hb)
          have n6_ := Aside0.mk (Kd.R_elder' Cg.out (Kd.R_base ho0) hb)
          have n7_ := Aside0.mk (Kd.R_elder' Cx.out (Kd.R_base ho0) hb)
          have n8_ := Aside0.mk (Kd.R_lower (Kd.R_new' (Kd.R_new' (Kd.R_new' (Kd.R_new' (Kd.R_new' (Kd.R_new' (Kd.R_new' (Kd.R_new' ho0 (Kd.R_lt Bd.out)) (Kd.R_lt Bf.out)) (Kd.R_lt Be.out)) (Kd.R_lt Bs.out)) (Kd.R_lt Bu.out)) (Kd.R_lt By.out)) (Kd.R_lt Cg.out)) (Kd.R_lt Cx.out)) (below_size (by repeat (first | (with_reducible first | exact HB.out | apply below_alloc | apply pw_below_drewN | apply below_drew1 | refine below_set ?_ GE224.out | refine below_set ?_ GE225.out | refine below_set ?_ GE230.out | refine below_set ?_ GE231.out | refine below_set ?_ GE232.out | refine below_set ?_ GE250.out) | exact HB.out))))
          have n9_ := Aside0.mk (blk_below (g := Bq) (o := .cells #[.int .i64 a0_0, .slice A0_1 l0_1.length c0_1] 36 (0, 0)) Bn.out hb)
          have n10_ := Aside0.mk (blk_below (g := Br) (o := .cells #[.int .i64 0, .slice none 0 0] 36 (0, 0)) Bo.out hb)
          have n11_ := Aside0.mk (blk_below (g := Bj) (o := .cells #[.int .i64 Bh, .slice Ao35 Ba.length co35] 36 (0, 0)) Bg.out hb)
          have n12_ := Aside0.mk (blk_below (g := Bm) (o := .cells #[.int .i64 Bl, .slice Ao36 Bb.length co36] 36 (0, 0)) Bi.out hb)
          have n13_ := Aside0.mk (blk_below (g := Bp) (o := .cells #[.int .i64 t226, .slice Ao22 t227.length co22] 36 (0, 0)) Bk.out hb)
          have n14_ := Aside0.mk (blk_below (g := Bc) (o := .cells #[.int .i64 t246, .slice Ao48 t247.length co48] 36 (0, 0)) Bt.out hb)
          have n15_ := Aside0.mk (below_step (by repeat (first | (with_reducible first | exact HB.out | apply below_alloc | apply pw_below_drewN | apply below_drew1 | refine below_set ?_ GE224.out | refine below_set ?_ GE225.out | refine below_set ?_ GE230.out | refine below_set ?_ GE231.out | refine below_set ?_ GE232.out | refine below_set ?_ GE250.out) | exact HB.out)) hb)
          clear Bd Bf Be Bs Bu By Cg Cx Bn Bo Bg Bi Bk Bt HB
          have Bd := n0_
          have Bf := n1_
          have Be := n2_
          have Bs := n3_
          have Bu := n4_
          have By := n5_
          have Cg := n6_
          have Cx := n7_
          have De := n8_
          have Bn := n9_
          have Bo := n10_
          have Bg := n11_
          have Bi := n12_
          have Bk := n13_
          have Bt := n14_
          have HB := n15_
          clear n0_ n1_ n2_ n3_ n4_ n5_ n6_ n7_ n8_ n9_ n10_ n11_ n12_ n13_ n14_ n15_
          (try clear hb)
          (try clear hb2)
          (try clear hk)
          (try clear hi)
          (try clear ho0)
          obtain ⟨Ao67, co67, eo67⟩ := Kd.R_slice De.out
          (first | subst eo67 | (injection eo67 with f1_ f2_ f3_; have f4_ := f1_.symm; have f5_ := f3_.symm; clear f1_ f2_ f3_; subst f4_; subst f5_))
          refine hK.out _ _ ⟨(blk_cell Bg.out 0).trans rfl, (blk_cell Bg.out 1).trans rfl, (blk_cell Bk.out 0).trans rfl, (blk_cell Bk.out 1).trans rfl⟩ (fun hHeld => ?_)
          clear hK K
          refine norm_ (a' := ?_) ?_ ?_
          rotate_left
          · show Act.put _ (some 38) _ = _
            simp only [Act.put, List.setIfInBounds_toArray, List.set_cons_zero, List.set_cons_succ, i64_w, i32_w]
            rfl
          refine last_ (i := 5) (N := none) #[true, true, true, true, true, true] rfl rfl (by kernel_rfl) (by decide) (fun K hK => ?_)
          have hs66 : w65.cell? ⟨Bj, 0, none⟩ = some (.int .i64 Bh) := (blk_cell Bg.out 0).trans rfl
          have hfs66 := blk_frozen Bg.out 0
          have hns66_0 := Ci.out
          have hns66_1 := Cl.out
          have hns66_3 := Ck.out
          have hns66_4 := Cm.out
          have hns66_5 := Cb.out
          have hms66_0 := Cs.out
          have hms66_1 := Ct.out
          have hms66_3 := Cj.out
          have hms66_4 := Cq.out
          have hms66_5 := Bv.out
          have hs68 : w65.cell? ⟨Bj, 1, none⟩ = some (.slice Ao35 Ba.length co35) := (blk_cell Bg.out 1).trans rfl
          have hfs68 := blk_frozen Bg.out 1
          have hns68_0 := Ci.out
          have hns68_1 := Cl.out
          have hns68_3 := Ck.out
          have hns68_4 := Cm.out
          have hns68_5 := Cb.out
          have hms68_0 := Cs.out
          have hms68_1 := Ct.out
          have hms68_3 := Cj.out
          have hms68_4 := Cq.out
          have hms68_5 := Bv.out
          refine skip_ (w1 := ?_) (by rfl) rfl ?_ ?_
          rotate_left
          · go_simp
            rfl
          refine hK.out _ _ ?_
          clear hK K
          refine done_ (by kernel_rfl) ?_
          have hcz69_0 : w65.cell? ⟨Bc, 0, none⟩ = some (.int .i64 t246) := (blk_cell Bt.out 0).trans rfl
          have hcz69_1 : w65.cell? ⟨Bc, 1, none⟩ = some (.slice Ao48 t247.length co48) := (blk_cell Bt.out 1).trans rfl
          have hfz69_0 := blk_frozen Bt.out 0
          have hfz69_1 := blk_frozen Bt.out 1
          have hnb70 := Da.out
          have hnc70 := Co.out
          have hnb71 := Ck.out
          have hnc71 := Cj.out
          have hnb72 := Cw.out
          have hnc72 := Cr.out
          have hcz73_0 : w65.cell? ⟨Bm, 0, none⟩ = some (.int .i64 Bl) := (blk_cell Bi.out 0).trans rfl
          have hcz73_1 : w65.cell? ⟨Bm, 1, none⟩ = some (.slice Ao36 Bb.length co36) := (blk_cell Bi.out 1).trans rfl
          have hfz73_0 := blk_frozen Bi.out 0
          have hfz73_1 := blk_frozen Bi.out 1
          try go_wp2
          go_roundg k1
          case measure => have := HK1.out; omega
          case rel => exact ⟨(wrap64 (Ch - 1)), (t256), (t257), (t246), (t247), (.slice Ao67 t257.length co67), (.slice Ao48 t247.length co48), (by first | rfl | (simp; done) | (simp [*]; done)), H', ⟨by have := HK1.out; omega⟩, ⟨by exact Kd.R_mono (Kd.R_far (p := ⟨Bm, 1, none⟩) (Kd.R_far (p := ⟨Bm, 0, none⟩) (Kd.R_far (p := ⟨Bj, 1, none⟩) (Kd.R_far (p := ⟨Bj, 0, none⟩) (Kd.R_types (Kd.R_types De.out Bg.out (by decide)) Bi.out (by decide)) (fun _ hk => hk.1.2) (.int .i64 t256)) (fun _ hk => hk.1.2) (.slice Ao67 t257.length co67)) (fun _ hk => hk.2) (.int .i64 t246)) (fun _ hk => hk.2) (.slice Ao48 t247.length co48)) (fun _ hk => ⟨hk.1.1.1.2, hk.1.1.1.1.1.1.1.2⟩)⟩, ⟨by exact Kd.R_mono (Kd.R_far (p := ⟨Bm, 1, none⟩) (Kd.R_far (p := ⟨Bm, 0, none⟩) (Kd.R_far (p := ⟨Bj, 1, none⟩) (Kd.R_far (p := ⟨Bj, 0, none⟩) (Kd.R_types (Kd.R_types Cg.out Bg.out (by decide)) Bi.out (by decide)) (fun _ hk => hk.1.2) (.int .i64 t256)) (fun _ hk => hk.1.2) (.slice Ao67 t257.length co67)) (fun _ hk => hk.2) (.int .i64 t246)) (fun _ hk => hk.2) (.slice Ao48 t247.length co48)) (fun _ hk => ⟨hk.1.1.2, hk.1.1.1.1.2.2.2.2.2⟩)⟩, ⟨by exact Kd.R_mono (Kd.R_far (p := ⟨Bm, 1, none⟩) (Kd.R_far (p := ⟨Bm, 0, none⟩) (Kd.R_far (p := ⟨Bj, 1, none⟩) (Kd.R_far (p := ⟨Bj, 0, none⟩) (Kd.R_types (Kd.R_types Be.out Bg.out (by decide)) Bi.out (by decide)) (fun _ hk => hk.1.2) (.int .i64 t256)) (fun _ hk => hk.1.2) (.slice Ao67 t257.length co67)) (fun _ hk => hk.2) (.int .i64 t246)) (fun _ hk => hk.2) (.slice Ao48 t247.length co48)) (fun _ hk => ⟨hk.1.1.2, hk.1.1.1.1.2.2.2.1⟩)⟩, ⟨by refine blk_far ?_ Cp.out _; refine blk_far ?_ Cp.out _; refine blk_far ?_ Ci.out _; refine blk_far ?_ Ci.out _; exact Bn.out⟩, ⟨by refine blk_far ?_ Co.out _; refine blk_far ?_ Co.out _; refine blk_far ?_ Cl.out _; refine blk_far ?_ Cl.out _; exact Bo.out⟩, ⟨by refine blk_far ?_ Cj.out _; refine blk_far ?_ Cj.out _; refine blk_put (cs := #[.int .i64 t256, .slice Ao35 Ba.length co35]) ?_ 1 _ rfl; refine blk_put (cs := #[.int .i64 Bh, .slice Ao35 Ba.length co35]) ?_ 0 _ rfl; exact Bg.out⟩, ⟨by refine blk_put (cs := #[.int .i64 t246, .slice Ao36 Bb.length co36]) ?_ 1 _ rfl; refine blk_put (cs := #[.int .i64 Bl, .slice Ao36 Bb.length co36]) ?_ 0 _ rfl; refine blk_far ?_ Ck.out _; refine blk_far ?_ Ck.out _; exact Bi.out⟩, ⟨by refine blk_far ?_ Cr.out _; refine blk_far ?_ Cr.out _; refine blk_far ?_ Cm.out _; refine blk_far ?_ Cm.out _; exact Bk.out⟩, ⟨by repeat (first | (with_reducible first | exact HB.out | apply below_alloc | apply pw_below_drewN | apply below_drew1 | refine below_set ?_ GE224.out | refine below_set ?_ GE225.out | refine below_set ?_ GE230.out | refine below_set ?_ GE231.out | refine below_set ?_ GE232.out | refine below_set ?_ GE250.out) | exact HB.out)⟩⟩
        · have H := HX.out
          rw [if_neg c32] at H
          have c32b0 : decide (t251 ≤ 0) = false := decide_eq_false c32
          clear c32
          have H' := Aside0.mk H
          clear H
          try go_wp2_with (first | ((with_reducible refine gate_callee (f := 20) rfl ?_); refine goesL_ (some 32) rfl rfl Try.func20 (by kernel_rfl) rfl #[.agg #[.int .i64 t246, .slice Ao48 t247.length co48], .agg #[.int .i64 a0_0, .slice A0_1 l0_1.length c0_1]] rfl (by (try simp only [List.map_toArray, List.map_cons, List.map_nil]); first | done | rfl | (simp only [List.length_drop, List.length_take]; rfl)) ?_; (with_reducible refine (spec_l02Compare.calls k1 t246 _ _ t247 a0_0 _ _ l0_1 t251 _ ?side1 ?side2 ?side3 ?side4 A31.out).mono ?_); (case side1 => refine (Kd.R_reads' (e := 2) (base := w.heap.size) (ok := fun k_ => (some k_ ≠ (v236 : Value).ownBlock ∧ (some k_ ≠ (v240 : Value).ownBlock ∧ (some k_ ≠ (v244 : Value).ownBlock ∧ (some k_ ≠ (.slice Ao35 Ba.length co35 : Value).ownBlock ∧ (some k_ ≠ (.slice Ao36 Bb.length co36 : Value).ownBlock ∧ some k_ ≠ (.slice Ao22 t227.length co22 : Value).ownBlock)))))) (n := t247.length) (c := co48) ?_).2.2; exact (by exact (Kd.R_mono (Kd.R_far (p := ⟨Bc, 1, none⟩) (Kd.R_far (p := ⟨Bc, 0, none⟩) (Kd.R_types Cg.out Bt.out (by decide)) (fun _ hk => hk.2) (.int .i64 t246)) (fun _ hk => hk.2) (.slice Ao48 t247.length co48)) (fun _ h_ => h_.1)))); (case side2 => exact (Kd.R_reads' Cg.out).2.1); (case side3 => exact Kd.C_below HR0_1.out (by repeat (first | (with_reducible first | exact HB.out | apply below_alloc | apply pw_below_drewN | apply below_drew1 | refine below_set ?_ GE224.out | refine below_set ?_ GE225.out | refine below_set ?_ GE230.out | refine below_set ?_ GE231.out | refine below_set ?_ GE232.out | refine below_set ?_ GE250.out) | exact HB.out))); (case side4 => exact HC0_1.out); rintro e w100 ⟨rfl, hb⟩; refine ⟨_, rfl, ?_⟩; have n0_ := Aside0.mk (Kd.R_below (by exact (Kd.R_mono (Kd.R_far (p := ⟨Bc, 1, none⟩) (Kd.R_far (p := ⟨Bc, 0, none⟩) (Kd.R_types Bd.out Bt.out (by decide)) (fun _ hk => hk.2) (.int .i64 t246)) (fun _ hk => hk.2) (.slice Ao48 t247.length co48)) (fun _ h_ => h_.1))) hb); have n1_ := Aside0.mk (Kd.R_below (by exact (Kd.R_mono (Kd.R_far (p := ⟨Bc, 1, none⟩) (Kd.R_far (p := ⟨Bc, 0, none⟩) (Kd.R_types Bf.out Bt.out (by decide)) (fun _ hk => hk.2) (.int .i64 t246)) (fun _ hk => hk.2) (.slice Ao48 t247.length co48)) (fun _ h_ => h_.1))) hb); have n2_ := Aside0.mk (Kd.R_below (by exact (Kd.R_mono (Kd.R_far (p := ⟨Bc, 1, none⟩) (Kd.R_far (p := ⟨Bc, 0, none⟩) (Kd.R_types Be.out Bt.out (by decide)) (fun _ hk => hk.2) (.int .i64 t246)) (fun _ hk => hk.2) (.slice Ao48 t247.length co48)) (fun _ h_ => h_.1))) hb); have n3_ := Aside0.mk (Kd.R_below (by exact (Kd.R_mono (Kd.R_far (p := ⟨Bc, 1, none⟩) (Kd.R_far (p := ⟨Bc, 0, none⟩) (Kd.R_types Bs.out Bt.out (by decide)) (fun _ hk => hk.2) (.int .i64 t246)) (fun _ hk => hk.2) (.slice Ao48 t247.length co48)) (fun _ h_ => h_.1))) hb); have n4_ := Aside0.mk (Kd.R_below (by exact (Kd.R_mono (Kd.R_far (p := ⟨Bc, 1, none⟩) (Kd.R_far (p := ⟨Bc, 0, none⟩) (Kd.R_types Bu.out Bt.out (by decide)) (fun _ hk => hk.2) (.int .i64 t246)) (fun _ hk => hk.2) (.slice Ao48 t247.length co48)) (fun _ h_ => h_.1))) hb); have n5_ := Aside0.mk (Kd.R_below (by exact (Kd.R_mono (Kd.R_far (p := ⟨Bc, 1, none⟩) (Kd.R_far (p := ⟨Bc, 0, none⟩) (Kd.R_types By.out Bt.out (by decide)) (fun _ hk => hk.2) (.int .i64 t246)) (fun _ hk => hk.2) (.slice Ao48 t247.length co48)) (fun _ h_ => h_.1))) hb); have n6_ := Aside0.mk (Kd.R_below (by exact (Kd.R_mono (Kd.R_far (p := ⟨Bc, 1, none⟩) (Kd.R_far (p := ⟨Bc, 0, none⟩) (Kd.R_types Cg.out Bt.out (by decide)) (fun _ hk => hk.2) (.int .i64 t246)) (fun _ hk => hk.2) (.slice Ao48 t247.length co48)) (fun _ h_ => h_.1))) hb); have n7_ := Aside0.mk (blk_below (g := Bq) (o := .cells #[.int .i64 a0_0, .slice A0_1 l0_1.length c0_1] 36 (0, 0)) (by refine blk_far ?_ Bz.out _; refine blk_far ?_ Bz.out _; exact Bn.out) hb); have n8_ := Aside0.mk (blk_below (g := Br) (o := .cells #[.int .i64 0, .slice none 0 0] 36 (0, 0)) (by refine blk_far ?_ Ca.out _; refine blk_far ?_ Ca.out _; exact Bo.out) hb); have n9_ := Aside0.mk (blk_below (g := Bj) (o := .cells #[.int .i64 Bh, .slice Ao35 Ba.length co35] 36 (0, 0)) (by refine blk_far ?_ Bv.out _; refine blk_far ?_ Bv.out _; exact Bg.out) hb); have n10_ := Aside0.mk (blk_below (g := Bm) (o := .cells #[.int .i64 Bl, .slice Ao36 Bb.length co36] 36 (0, 0)) (by refine blk_far ?_ Bw.out _; refine blk_far ?_ Bw.out _; exact Bi.out) hb); have n11_ := Aside0.mk (blk_below (g := Bp) (o := .cells #[.int .i64 t226, .slice Ao22 t227.length co22] 36 (0, 0)) (by refine blk_far ?_ Bx.out _; refine blk_far ?_ Bx.out _; exact Bk.out) hb); have n12_ := Aside0.mk (blk_below (g := Bc) (o := .cells #[.int .i64 t246, .slice Ao48 t247.length co48] 36 (0, 0)) (by refine blk_put (cs := #[.int .i64 t246, .slice none 0 0]) ?_ 1 _ rfl; refine blk_put (cs := #[.int .i64 0, .slice none 0 0]) ?_ 0 _ rfl; exact Bt.out) hb); have n13_ := Aside0.mk (below_step (by repeat (first | (with_reducible first | exact HB.out | apply below_alloc | apply pw_below_drewN | apply below_drew1 | refine below_set ?_ GE224.out | refine below_set ?_ GE225.out | refine below_set ?_ GE230.out | refine below_set ?_ GE231.out | refine below_set ?_ GE232.out | refine below_set ?_ GE250.out) | exact HB.out)) hb); clear Bd; clear Bf; clear Be; clear Bs; clear Bu; clear By; clear Cg; clear Bn; clear Bo; clear Bg; clear Bi; clear Bk; clear Bt; clear HB; have Bd := n0_; have Bf := n1_; have Be := n2_; have Bs := n3_; have Bu := n4_; have By := n5_; have Cg := n6_; have Bn := n7_; have Bo := n8_; have Bg := n9_; have Bi := n10_; have Bk := n11_; have Bt := n12_; have HB := n13_; clear n0_ n1_ n2_ n3_ n4_ n5_ n6_ n7_ n8_ n9_ n10_ n11_ n12_ n13_; (try clear hb); (try clear hb2); (try clear hk); (try clear hi)))
          go_roundg k1
          case measure => have := HK1.out; omega
          case rel => exact ⟨(wrap64 (Ch - 1)), (Bh), (Ba), (Bl), (Bb), (.slice Ao35 Ba.length co35), (.slice Ao36 Bb.length co36), (by first | rfl | (simp; done) | (simp [*]; done)), H', ⟨by have := HK1.out; omega⟩, ⟨by exact Kd.R_mono Bd.out (fun _ hk => ⟨hk.2.2.2.2.1, hk.2.2.2.2.2⟩)⟩, ⟨by exact Kd.R_mono Bf.out (fun _ hk => ⟨hk.2.2.2.2.1, hk.2.2.2.2.2⟩)⟩, ⟨by exact Kd.R_mono Be.out (fun _ hk => ⟨hk.2.2.2.2.1, hk.2.2.2.2.2⟩)⟩, ⟨by exact Bn.out⟩, ⟨by exact Bo.out⟩, ⟨by exact Bg.out⟩, ⟨by exact Bi.out⟩, ⟨by exact Bk.out⟩, ⟨by repeat (first | (with_reducible first | exact HB.out | apply below_alloc | apply pw_below_drewN | apply below_drew1 | refine below_set ?_ GE224.out | refine below_set ?_ GE225.out | refine below_set ?_ GE230.out | refine below_set ?_ GE231.out | refine below_set ?_ GE232.out | refine below_set ?_ GE250.out) | exact HB.out)⟩⟩
      · rw [if_neg c26] at H
        have c26b0 : decide (0 ≤ Ch) = false := decide_eq_false c26
        clear c26
        simp only [Option.some.injEq, Prod.mk.injEq] at H
        obtain ⟨rfl, rfl⟩ := H
        have hnb101 := Cs.out
        have hnc101 := Ci.out
        have hnb102 := Ct.out
        have hnc102 := Cl.out
        have hnb103 := Cj.out
        have hnc103 := Ck.out
        have hnb104 := Cq.out
        have hnc104 := Cm.out
        have hcz105_0 : wr.cell? ⟨Bj, 0, none⟩ = some (.int .i64 Bh) := (blk_cell Bg.out 0).trans rfl
        have hcz105_1 : wr.cell? ⟨Bj, 1, none⟩ = some (u231001) := (blk_cell Bg.out 1).trans rfl
        have hfz105_0 := blk_frozen Bg.out 0
        have hfz105_1 := blk_frozen Bg.out 1
        have hnb106 := Cz.out
        have hnc106 := Cy.out
        have hnb107 := Co.out
        have hnc107 := Da.out
        have hnb108 := Cv.out
        have hnc108 := Dd.out
        have hcz109_0 : wr.cell? ⟨Br, 0, none⟩ = some (.int .i64 0) := (blk_cell Bo.out 0).trans rfl
        have hcz109_1 : wr.cell? ⟨Br, 1, none⟩ = some (.slice none 0 0) := (blk_cell Bo.out 1).trans rfl
        have hfz109_0 := blk_frozen Bo.out 0
        have hfz109_1 := blk_frozen Bo.out 1
        obtain ⟨Ao110, co110, eo110⟩ := Kd.R_slice Bd.out
        subst eo110
        go_wp2
        refine bodyPost_ret (results_cell_row rfl _ _ Br 36 #[.int .i64 Bh, .slice Ao110 Ba.length co110] (0, 0) _ rfl (by refine blk_put (cs := #[.int .i64 Bh, .slice none 0 0]) ?_ 1 _ rfl; refine blk_put (cs := #[.int .i64 0, .slice none 0 0]) ?_ 0 _ rfl; exact Bo.out) Try.underlying36 rfl (by kernel_rfl)) rfl ?_
        exact ⟨_, by first | rfl | (simp [errW_none, errW_some] <;> rfl) | (simp [*, errW_none, errW_some] <;> rfl), by exact Kd.R_mono (Kd.R_far (p := ⟨Br, 1, none⟩) (Kd.R_far (p := ⟨Br, 0, none⟩) (Kd.R_types Bd.out Bo.out (by decide)) (fun _ hk => hk.2) (.int .i64 Bh)) (fun _ hk => hk.2) (.slice Ao110 Ba.length co110)) (fun _ hk => trivial), by repeat (first | (with_reducible first | exact HB.out | apply below_alloc | apply pw_below_drewN | apply below_drew1 | refine below_set ?_ GE224.out | refine below_set ?_ GE225.out | refine below_set ?_ GE230.out | refine below_set ?_ GE231.out | refine below_set ?_ GE232.out) | exact HB.out)⟩

end Go.Proofs.Ytmedcpdjhgconaa.PFnExactRootOfFloat
