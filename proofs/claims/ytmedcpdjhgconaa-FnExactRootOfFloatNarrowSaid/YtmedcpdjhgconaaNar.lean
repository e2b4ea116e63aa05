/- The narrow law's two sides, walked. -/
import Derived.Test.YtmedcpdjhgconaaSgl
namespace Go.Proofs.Ytmedcpdjhgconaa
open Go.RowKit Go.Proofs.YtmedcpdjhgconaaW.PrintWords Go.Proofs.YtmedcpdjhgconaaW.PrintLast Go.Proofs.YtmedcpdjhgconaaW.PrintMore Go.Proofs.Ytmedcpdjhgconaa.PFnExactRootOfFloat Go.Proofs.Ytmedcpdjhgconaa.Pure Go.Proofs.Ytmedcpdjhgconaa.Fp

set_option linter.unusedSimpArgs false

theorem up_run {x y : Nat} (h : floatToFloatBits .f32 x .f64 = some y) (w : World) : (convert 27 22 (.float .f32 x)).run Try.prog w = .ok (.float .f64 y) w :=
  run_convert_float_float w 27 22 .f32 .f64 x y (by rw [Try.underlying27]; rfl) Try.underlying22 h
theorem down_run {x y : Nat} (h : floatToFloatBits .f64 x .f32 = some y) (w : World) : (convert 22 27 (.float .f64 x)).run Try.prog w = .ok (.float .f32 y) w :=
  run_convert_float_float w 22 27 .f64 .f32 x y (by rw [Try.underlying22]; rfl) Try.underlying27 h

theorem zero_up : floatToFloatBits .f32 0 .f64 = some 0 := by decide +kernel
theorem zero_down : floatToFloatBits .f64 0 .f32 = some 0 := by decide +kernel

set_option maxHeartbeats 400000 in
theorem nspec_no (x : Nat) (h : ∀ s m e, FloatKind.f32.format.read x ≠ .number s m e) (w : World) : Calls Try.prog 8 #[.float .f32 x] w fun e w' => e = .returned (.tuple #[.float .f32 0, .int .i64 1]) ∧ Below w.heap.size w w' := by
  obtain ⟨y, w1, hcv, hn, hB⟩ := widen_no x h w
  have HB := Lib.hid hB
  clear hB h
  go_enter Try.func8, Try.ntmps8
  go_wp2_with (first | simp only [hcv] | (go_at_call 10; refine (real_no y hn _).mono ?_; rintro e w2 ⟨rfl, rfl⟩))
  go_ret2
  exact ⟨rfl, HB.out.drew⟩

set_option maxHeartbeats 400000 in
theorem nimpl_no (x : Nat) (h : ∀ s m e, FloatKind.f32.format.read x ≠ .number s m e) (w : World) : Calls Try.prog 9 #[.float .f32 x] w fun e w' => e = .returned (.tuple #[.float .f32 0, .int .i64 1]) ∧ Below w.heap.size w w' := by
  obtain ⟨y, w1, hcv, hn, hB⟩ := widen_no x h w
  have HB := Lib.hid hB
  have hz := down_run zero_down
  clear hB h
  go_enter Try.func9, Try.ntmps9
  go_wp2_with (first | simp only [hcv] | simp only [hz] | (go_at_call 6; refine (impl_no y hn _).mono ?_; rintro e w2 ⟨rfl, rfl⟩))
  go_ret2
  exact ⟨rfl, HB.out.drew⟩

set_option maxHeartbeats 400000 in
theorem nspec_neg (x y : Nat) {s : Bool} {m : Nat} {q : Int} (hy : floatToFloatBits .f32 x .f64 = some y) (h : FloatKind.f64.format.read y = .number s m q) (hl : FloatKind.f32.format.order x 0 = some .lt) (w : World) :
    Calls Try.prog 8 #[.float .f32 x] w fun e w' => e = .returned (.tuple #[.float .f32 0, .int .i64 2]) ∧ w = w' := by
  have hcv := up_run hy
  clear hy
  go_enter Try.func8, Try.ntmps8
  go_wp2_with (first | simp only [hcv] | (go_at_call 10; refine (real_yes y s m q h _).mono ?_; rintro e w2 ⟨rfl, rfl⟩))
  go_ret2
  exact ⟨rfl, rfl⟩

set_option maxHeartbeats 400000 in
theorem nimpl_neg (x y : Nat) {s : Bool} {m : Nat} {q : Int} (hy : floatToFloatBits .f32 x .f64 = some y) (h : FloatKind.f64.format.read y = .number s m q) (hl : FloatKind.f64.format.order y 0 = some .lt) (w : World) :
    Calls Try.prog 9 #[.float .f32 x] w fun e w' => e = .returned (.tuple #[.float .f32 0, .int .i64 2]) ∧ w = w' := by
  have hcv := up_run hy
  have hz := down_run zero_down
  clear hy
  go_enter Try.func9, Try.ntmps9
  go_wp2_with (first | simp only [hcv] | simp only [hz] | (go_at_call 6; refine (impl_neg y h hl _).mono ?_; rintro e w2 ⟨rfl, rfl⟩))
  go_ret2
  exact ⟨rfl, rfl⟩

set_option maxHeartbeats 400000 in
theorem nimpl_root (x y r z : Nat) {s : Bool} {m : Nat} {q : Int} (hy : floatToFloatBits .f32 x .f64 = some y) (h : FloatKind.f64.format.read y = .number s m q) (hl : (FloatKind.f64.format.order y 0 == some .lt) = false)
    (hr : Ieee.double.sqrt y = some r) (hz : floatToFloatBits .f64 r .f32 = some z) (w : World) : Calls Try.prog 9 #[.float .f32 x] w fun e w' => e = .returned (.tuple #[.float .f32 z, .int .i64 0]) ∧ w = w' := by
  have hcv := up_run hy
  have hdn := down_run hz
  clear hy hz
  go_enter Try.func9, Try.ntmps9
  go_wp2_with (first | simp only [hcv] | simp only [hdn] | (go_at_call 6; refine (impl_root y r h hl hr _).mono ?_; rintro e w2 ⟨rfl, rfl⟩))
  go_ret2
  exact ⟨rfl, rfl⟩

set_option maxHeartbeats 400000 in
theorem nspec_zero (x y z : Nat) {s : Bool} {m : Nat} {q : Int} (hy : floatToFloatBits .f32 x .f64 = some y) (h : FloatKind.f64.format.read y = .number s m q) (hl : (FloatKind.f32.format.order x 0 == some .lt) = false)
    (he : FloatKind.f64.format.order y 0 = some .eq) (hz : floatToFloatBits .f64 y .f32 = some z) (w : World) : Calls Try.prog 8 #[.float .f32 x] w fun e w' => e = .returned (.tuple #[.float .f32 z, .int .i64 0]) ∧ w = w' := by
  have hcv := up_run hy
  have hdn := down_run hz
  clear hy hz
  go_enter Try.func8, Try.ntmps8
  go_wp2_with (first | simp only [hcv] | simp only [hdn] | (go_at_call 10; refine (real_yes y s m q h _).mono ?_; rintro e w2 ⟨rfl, rfl⟩) | (go_at_call 11; refine (float_zero y he _).mono ?_; rintro e w3 ⟨rfl, rfl⟩))
  go_ret2
  exact ⟨rfl, rfl⟩

set_option maxHeartbeats 400000 in
theorem nspec_pos (x m : Nat) (q : Int) (hc : Canon m q) (h0 : m ≠ 0) (hb : q + m.log2 ≤ 130) (hy : floatToFloatBits .f32 x .f64 = some (near false m q)) (hl : (FloatKind.f32.format.order x 0 == some .lt) = false) (w : World) :
    Calls Try.prog 8 #[.float .f32 x] w fun e w' => ∃ r z, e = .returned (.tuple #[.float .f32 z, .int .i64 0]) ∧ Ieee.double.sqrt (near false m q) = some r ∧ floatToFloatBits .f64 r .f32 = some z ∧ (∃ s' m' q', FloatKind.f32.format.read z = .number s' m' q') ∧ Below w.heap.size w w' := by
  have hrd : FloatKind.f64.format.read (near false m q) = .number false m q := by rw [near_canon false hc]; exact read_mk false hc
  have hcv := up_run hy
  clear hy
  go_enter Try.func8, Try.ntmps8
  go_wp2_with (first | simp only [hcv] | (go_at_call 10; refine (real_yes _ false m q hrd _).mono ?_; rintro e w2 ⟨rfl, rfl⟩) | (go_at_call 11; refine (float_pos m q hc h0 _).mono ?_; rintro e w3 ⟨r, rfl, hr, hB⟩; obtain ⟨m', q', hr1, hr2⟩ := root_small hc h0 hb hr; obtain ⟨z, hz, m2, q2, hz2⟩ := narrowed hr1 hr2; have hdn := down_run hz; have HR := Lib.hid hr; have HB := Lib.hid hB; have HZ := Lib.hid hz; have HZ2 := Lib.hid hz2; clear hr hB hz hz2 hr1 hr2) | simp only [hdn])
  go_ret2
  exact ⟨r, z, rfl, HR.out, HZ.out, ⟨_, _, _, HZ2.out⟩, HB.out⟩

set_option maxHeartbeats 1000000 in
theorem narrow_calls (x : Nat) (w : World) : Calls Try.prog 4 #[.float .f32 x] w fun e w' => e = .returned (.bool true) ∧ Below w.heap.size w w' := by
  by_cases hn : ∀ s m e, FloatKind.f32.format.read x ≠ .number s m e
  · have hz := up_run zero_up
    go_enter Try.func4, Try.ntmps4
    go_wp2_with (first | simp only [hz] | (go_at_call 8; refine (nspec_no x hn _).mono ?_; rintro e w1 ⟨rfl, hB1⟩; have HB1 := Lib.hid hB1; clear hB1) | (go_at_call 9; refine (nimpl_no x hn _).mono ?_; rintro e w2 ⟨rfl, hB2⟩; have HB2 := Lib.hid hB2; clear hB2) | (go_at_call 7; refine (same_self 0 _).mono ?_; rintro e w3 ⟨rfl, rfl⟩))
    go_ret
    exact ⟨rfl, HB1.out.trans (HB2.out.mono HB1.out.size)⟩
  · obtain ⟨s, m, e, hx⟩ : ∃ s m e, FloatKind.f32.format.read x = .number s m e := by
      cases hr : FloatKind.f32.format.read x with
      | number s m e => exact ⟨s, m, e, rfl⟩
      | nan s t => exact absurd (fun a b c hh => by rw [hr] at hh; cases hh) hn
      | infinity s => exact absurd (fun a b c hh => by rw [hr] at hh; cases hh) hn
    clear hn
    have ho := order_sign FloatKind.f32.format hx single_zero
    obtain ⟨hy, hg⟩ := widen hx
    obtain ⟨h24, hlo, hhi⟩ := single_number (x := x) hx
    obtain ⟨m', q', hc, hv, hrd⟩ := read_near s hg
    have hrd' : FloatKind.f64.format.read (near s m e) = .number s m' q' := hrd
    have ho2 := order_sign FloatKind.f64.format hrd' double_zero
    have hz0 : m = 0 ↔ m' = 0 := by
      obtain ⟨a, b, e1, e2⟩ := hv
      have h1 := Nat.two_pow_pos a
      have h2 := Nat.two_pow_pos b
      constructor
      · intro h
        rw [h, Nat.zero_mul] at e1
        rcases Nat.mul_eq_zero.1 e1.symm with h | h
        · exact h
        · omega
      · intro h
        rw [h, Nat.zero_mul] at e1
        rcases Nat.mul_eq_zero.1 e1 with h | h
        · exact h
        · omega
    by_cases hm : m = 0
    · have hm' := hz0.1 hm
      rw [if_pos hm] at ho
      rw [if_pos hm'] at ho2
      have hlt : (FloatKind.f32.format.order x 0 == some .lt) = false := by rw [ho]; rfl
      have hlt2 : (FloatKind.f64.format.order (near s m e) 0 == some .lt) = false := by rw [ho2]; rfl
      obtain ⟨z, hz, m2, q2, hz2⟩ := narrowed hrd' (Or.inl hm')
      obtain ⟨hu, _⟩ := widen hz2
      have hsq : Ieee.double.sqrt (near s m e) = some (near s m e) := by
        subst hm
        have e1 : near s 0 e = Ieee.double.word s 0 := by rw [near_eq]; rfl
        rw [e1]
        cases s <;> decide +kernel
      have hup := up_run hu
      have HSQ := Lib.hid hsq
      have HZ := Lib.hid hz
      have HY := Lib.hid hy
      have HRD := Lib.hid hrd'
      have HO2 := Lib.hid ho2
      clear hsq hz hy hrd hrd' hx hz2 hu ho ho2 hz0 hv hg hc
      generalize near s m e = y at *
      generalize near s m2 q2 = u at *
      go_enter Try.func4, Try.ntmps4
      go_wp2_with (first | simp only [hup] | (go_at_call 8; refine (nspec_zero x y z HY.out HRD.out hlt HO2.out HZ.out _).mono ?_; rintro e w1 ⟨rfl, rfl⟩) | (go_at_call 9; refine (nimpl_root x y y z HY.out HRD.out hlt2 HSQ.out HZ.out _).mono ?_; rintro e w2 ⟨rfl, rfl⟩) | (go_at_call 7; refine (same_self u _).mono ?_; rintro e w3 ⟨rfl, rfl⟩))
      go_ret
      exact ⟨rfl, Below.refl _ _⟩
    · have hm' : m' ≠ 0 := fun h => hm (hz0.2 h)
      rw [if_neg hm] at ho
      rw [if_neg hm'] at ho2
      cases s
      · have hlt : (FloatKind.f32.format.order x 0 == some .lt) = false := by rw [ho]; rfl
        have hlt2 : (FloatKind.f64.format.order (near false m e) 0 == some .lt) = false := by rw [ho2]; rfl
        have hb : q' + m'.log2 ≤ 130 := by
          have := log2_same hm hm' hv
          have : m.log2 ≤ 23 := log2_le (k := 23) h24
          omega
        have hnn := near_same false hv
        rw [hnn] at hy hlt2 hrd'
        have HY := Lib.hid hy
        have HRD := Lib.hid hrd'
        clear hy hrd hrd' hx ho ho2 hz0 hv hg hnn
        go_enter Try.func4, Try.ntmps4
        go_wp2_with (first | (go_at_call 8; refine (nspec_pos x m' q' hc hm' hb HY.out hlt _).mono ?_; rintro e w1 ⟨r, z, rfl, hr, hz, ⟨s2, m2, q2, hz2⟩, hB1⟩; obtain ⟨hu, _⟩ := widen hz2; have hup := up_run hu; have HR := Lib.hid hr; have HZ := Lib.hid hz; have HB1 := Lib.hid hB1; clear hr hz hz2 hu hB1) | (go_at_call 9; refine (nimpl_root x _ r z HY.out HRD.out hlt2 HR.out HZ.out _).mono ?_; rintro e w2 ⟨rfl, rfl⟩) | (go_at_call 7; refine (same_self _ _).mono ?_; rintro e w3 ⟨rfl, rfl⟩) | simp only [hup])
        go_ret
        exact ⟨rfl, HB1.out⟩
      · have hl : FloatKind.f32.format.order x 0 = some .lt := ho
        have hl2 : FloatKind.f64.format.order (near true m e) 0 = some .lt := ho2
        have hz := up_run zero_up
        have HY := Lib.hid hy
        have HRD := Lib.hid hrd'
        clear hy hrd hrd' hx ho ho2 hz0 hv hg hc
        generalize near true m e = y at *
        go_enter Try.func4, Try.ntmps4
        go_wp2_with (first | simp only [hz] | (go_at_call 8; refine (nspec_neg x y HY.out HRD.out hl _).mono ?_; rintro e w1 ⟨rfl, rfl⟩) | (go_at_call 9; refine (nimpl_neg x y HY.out HRD.out hl2 _).mono ?_; rintro e w2 ⟨rfl, rfl⟩) | (go_at_call 7; refine (same_self 0 _).mono ?_; rintro e w3 ⟨rfl, rfl⟩))
        go_ret
        exact ⟨rfl, Below.refl _ _⟩
end Go.Proofs.Ytmedcpdjhgconaa
