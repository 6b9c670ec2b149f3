-- Written by a program of this session (hook.py): functions, contracts and walks in the printer's form; contracts of this session's own where the printer takes none
import Derived.Test.YtimimjmabnmeoaaPFnExactCountWithProductx0
import Derived.Test.YtimimjmabnmeoaaPFnExactCountWithProductx1
import Derived.Test.YtimimjmabnmeoaaPFnExactCountWithProductx2
namespace Go.Proofs.Ytimimjmabnmeoaa.PFnExactCountWithProduct
open Go.RowKit Go.Proofs.YtimimjmabnmeoaaW.PrintWords Go.Proofs.YtimimjmabnmeoaaW.PrintLast Go.Proofs.YtimimjmabnmeoaaW.PrintMore
attribute [local go_sem] max2_int min2_int max_two min_two max_three min_three max_four min_four   -- for this text's walks alone
set_option linter.unusedVariables false
set_option linter.unusedSimpArgs false

/-! ### spec_CountWithProduct: function 10 -/
def spec_CountWithProduct.j0 : Nat → Int → Int → Bool → Option (Int × Bool)
  | 0, _, _, _ => none
  | k + 1, x0, x1, x13 => if x13 = true then (some (0, false)) else (if x0 < 1000 then ((spec_prCount.f k x0 x1).bind fun t113 => (some (t113, true))) else ((spec_prLists.f k x0 x1).bind fun t114 => (some (t114, true))))
def spec_CountWithProduct.f (k : Nat) (a0 : Int) (a1 : Int) : Option (Int × Bool) := (spec_dgAsked.f a0 a1).bind fun t112 => (if t112 = true then (spec_CountWithProduct.j0 k a0 a1 (decide (a0 < 2))) else (spec_CountWithProduct.j0 k a0 a1 true))
theorem spec_CountWithProduct.mono_l : ∀ k, (∀ y0 y1 y2, LeO (spec_CountWithProduct.j0 k y0 y1 y2) (spec_CountWithProduct.j0 (k + 1) y0 y1 y2))
  | 0 => fun _ _ _ r h => by simp [spec_CountWithProduct.j0] at h
  | k + 1 => by
    have ih0 := spec_CountWithProduct.mono_l k
    · intro y0 y1 y2
      unfold spec_CountWithProduct.j0
      repeat' first
      | (with_reducible exact ih0 _ _ _)
      | (with_reducible exact spec_prCount.mono _ _ _)
      | (with_reducible exact spec_prLists.mono _ _ _)
      | (with_reducible exact LeO.refl _)
      | (with_reducible exact LeO.none _)
      | (with_reducible refine LeO.ite ?_ ?_)
      | (with_reducible refine LeO.bind ?_ (fun _ => ?_))
      | exact ih0 _ _ _
      | exact spec_prCount.mono _ _ _
      | exact spec_prLists.mono _ _ _
      | exact LeO.none _
      | refine LeO.ite ?_ ?_
      | refine LeO.bind ?_ (fun _ => ?_)
theorem spec_CountWithProduct.mono : ∀ a0 a1 k, LeO (spec_CountWithProduct.f k a0 a1) (spec_CountWithProduct.f (k + 1) a0 a1) := by
  intro a0 a1 k
  have ih0 := spec_CountWithProduct.mono_l k
  unfold spec_CountWithProduct.f
  repeat' first
      | (with_reducible exact ih0 _ _ _)
      | (with_reducible exact spec_prCount.mono _ _ _)
      | (with_reducible exact spec_prLists.mono _ _ _)
      | (with_reducible exact LeO.refl _)
      | (with_reducible exact LeO.none _)
      | (with_reducible refine LeO.ite ?_ ?_)
      | (with_reducible refine LeO.bind ?_ (fun _ => ?_))
      | exact ih0 _ _ _
      | exact spec_prCount.mono _ _ _
      | exact spec_prLists.mono _ _ _
      | exact LeO.none _
      | refine LeO.ite ?_ ?_
      | refine LeO.bind ?_ (fun _ => ?_)
set_option maxHeartbeats 8000000 in
set_option maxRecDepth 100000 in
theorem spec_CountWithProduct.calls (k : Nat) (a0 : Int) (a1 : Int) (r1 : Int) (r2 : Bool) (w : World) (h : spec_CountWithProduct.f k a0 a1 = some (r1, r2)) :
    Calls Try.prog 10 #[.int .i64 a0, .int .i64 a1] w fun e w' => e = .returned (.tuple #[.int .i64 r1, .bool r2]) ∧ Below w.heap.size w w' := by
  have HB := Aside0.mk (Below.refl w.heap.size w)
  have H : ((spec_dgAsked.f a0 a1).bind fun t112 => (if t112 = true then (spec_CountWithProduct.j0 k a0 a1 (decide (a0 < 2))) else (spec_CountWithProduct.j0 k a0 a1 true))) = some (r1, r2) := h
  clear h
  have HC3 := Aside0.mk H
  clear H
  go_enter Try.func10, Try.ntmps10
  go_upto_region 1 with (fail)
  go_cut [13] (fun v13 wc => ∃ (kq : Nat) (x13_2 : Bool), v13 = .bool x13_2 ∧ Aside0 (spec_CountWithProduct.j0 kq a0 a1 x13_2 = some (r1, r2)) ∧ Aside0 (kq ≤ k) ∧ Aside0 (Below w.heap.size w wc))
  case first =>
    have H := HC3.out
    clear HC3
    replace H := Option.bind_eq_some_iff.mp H
    obtain ⟨t112, A40, H⟩ := H
    replace H : (if t112 = true then (spec_CountWithProduct.j0 k a0 a1 (decide (a0 < 2))) else (spec_CountWithProduct.j0 k a0 a1 true)) = some (r1, r2) := H
    have A4 := Aside0.mk A40
    clear A40
    by_cases c5 : t112 = true
    · subst c5
      have H1 : (spec_CountWithProduct.j0 k a0 a1 (decide (a0 < 2))) = some (r1, r2) := by rw [if_pos rfl] at H; exact H
      clear H
      have H := H1
      clear H1
      have H' := Aside0.mk H
      clear H
      go_wp2_with (first | ((with_reducible refine gate_callee (f := 31) rfl ?_); refine goesL_ (some 8) rfl rfl Try.func31 (by kernel_rfl) rfl #[.int .i64 a0, .int .i64 a1] rfl (by (try simp only [List.map_toArray, List.map_cons, List.map_nil]); first | done | rfl | (simp only [List.length_drop, List.length_take]; rfl)) ?_; (with_reducible refine (spec_dgAsked.calls a0 a1 true _ A4.out).mono ?_); rintro e w' ⟨rfl, ⟨nd, rfl⟩⟩; refine ⟨_, rfl, ?_⟩))
      go_meet
      case rel => exact ⟨_, (decide (a0 < 2)), (by first | rfl | (simp; done) | (simp [*]; done)), H', ⟨by first | omega | exact Nat.le_refl _⟩, ⟨by repeat (first | (with_reducible first | exact HB.out | apply below_alloc | apply pw_below_drewN | apply below_drew1) | exact HB.out)⟩⟩
    · replace c5 := Bool.eq_false_iff.mpr c5
      subst c5
      have H1 : (spec_CountWithProduct.j0 k a0 a1 true) = some (r1, r2) := by rw [if_neg (show ¬ (false = true) by decide)] at H; exact H
      clear H
      have H := H1
      clear H1
      have H' := Aside0.mk H
      clear H
      go_wp2_with (first | ((with_reducible refine gate_callee (f := 31) rfl ?_); refine goesL_ (some 8) rfl rfl Try.func31 (by kernel_rfl) rfl #[.int .i64 a0, .int .i64 a1] rfl (by (try simp only [List.map_toArray, List.map_cons, List.map_nil]); first | done | rfl | (simp only [List.length_drop, List.length_take]; rfl)) ?_; (with_reducible refine (spec_dgAsked.calls a0 a1 false _ A4.out).mono ?_); rintro e w' ⟨rfl, ⟨nd, rfl⟩⟩; refine ⟨_, rfl, ?_⟩))
      go_meet
      case rel => exact ⟨_, (true), (by first | rfl | (simp; done) | (simp [*]; done)), H', ⟨by first | omega | exact Nat.le_refl _⟩, ⟨by repeat (first | (with_reducible first | exact HB.out | apply below_alloc | apply pw_below_drewN | apply below_drew1) | exact HB.out)⟩⟩
  case rest =>
    clear HC3
    try clear c1
    try clear p2
    try clear c3
    try clear c5
    obtain ⟨kq, x13_2, rfl, HA, HJ2, HB⟩ := hcut
    cases kq with
    | zero => exact absurd HA.out (by simp [spec_CountWithProduct.j0])
    | succ kj2 =>
      have H := HA.out
      clear HA
      simp only [spec_CountWithProduct.j0] at H
      by_cases c6 : x13_2 = true
      · subst c6
        have H1 : (some (0, false)) = some (r1, r2) := by rw [if_pos rfl] at H; exact H
        clear H
        have H := H1
        clear H1
        simp only [Option.some.injEq, Prod.mk.injEq] at H
        obtain ⟨rfl, rfl⟩ := H
        go_wp2
        go_ret2
        exact ⟨by first | rfl | (simp [errW_none, errW_some] <;> rfl) | (simp [*, errW_none, errW_some] <;> rfl), by repeat (first | (with_reducible first | exact HB.out | apply below_alloc | apply pw_below_drewN | apply below_drew1) | exact HB.out)⟩
      · replace c6 := Bool.eq_false_iff.mpr c6
        subst c6
        have H1 : (if a0 < 1000 then ((spec_prCount.f kj2 a0 a1).bind fun t113 => (some (t113, true))) else ((spec_prLists.f kj2 a0 a1).bind fun t114 => (some (t114, true)))) = some (r1, r2) := by rw [if_neg (show ¬ (false = true) by decide)] at H; exact H
        clear H
        have H := H1
        clear H1
        by_cases c7 : a0 < 1000
        · rw [if_pos c7] at H
          have c7b0 : decide (a0 < 1000) = true := decide_eq_true c7
          clear c7
          replace H := Option.bind_eq_some_iff.mp H
          obtain ⟨t113, A80, H⟩ := H
          replace H : (some (t113, true)) = some (r1, r2) := H
          have A8 := Aside0.mk A80
          clear A80
          simp only [Option.some.injEq, Prod.mk.injEq] at H
          obtain ⟨rfl, rfl⟩ := H
          go_wp2_with (first | ((with_reducible refine gate_callee (f := 32) rfl ?_); refine goesL_ (some 18) rfl rfl Try.func32 (by kernel_rfl) rfl #[.int .i64 a0, .int .i64 a1] rfl (by (try simp only [List.map_toArray, List.map_cons, List.map_nil]); first | done | rfl | (simp only [List.length_drop, List.length_take]; rfl)) ?_; (with_reducible refine (spec_prCount.calls kj2 a0 a1 t113 _ A8.out).mono ?_); rintro e w' ⟨rfl, ⟨nd, rfl⟩⟩; refine ⟨_, rfl, ?_⟩))
          go_ret2
          exact ⟨by first | rfl | (simp [errW_none, errW_some] <;> rfl) | (simp [*, errW_none, errW_some] <;> rfl), by repeat (first | (with_reducible first | exact HB.out | apply below_alloc | apply pw_below_drewN | apply below_drew1) | exact HB.out)⟩
        · rw [if_neg c7] at H
          have c7b0 : decide (a0 < 1000) = false := decide_eq_false c7
          clear c7
          replace H := Option.bind_eq_some_iff.mp H
          obtain ⟨t114, A90, H⟩ := H
          replace H : (some (t114, true)) = some (r1, r2) := H
          have A9 := Aside0.mk A90
          clear A90
          simp only [Option.some.injEq, Prod.mk.injEq] at H
          obtain ⟨rfl, rfl⟩ := H
          go_wp2_with (first | ((with_reducible refine gate_callee (f := 33) rfl ?_); refine goesL_ (some 21) rfl rfl Try.func33 (by kernel_rfl) rfl #[.int .i64 a0, .int .i64 a1] rfl (by (try simp only [List.map_toArray, List.map_cons, List.map_nil]); first | done | rfl | (simp only [List.length_drop, List.length_take]; rfl)) ?_; (with_reducible refine (spec_prLists.calls kj2 a0 a1 t114 _ A9.out).mono ?_); rintro e w10 ⟨rfl, hb⟩; refine ⟨_, rfl, ?_⟩; have n0_ := Aside0.mk (below_step (by repeat (first | (with_reducible first | exact HB.out | apply below_alloc | apply pw_below_drewN | apply below_drew1) | exact HB.out)) hb); clear HB; have HB := n0_; clear n0_; (try clear hb); (try clear hb2); (try clear hk); (try clear hi)))
          go_ret2
          exact ⟨by first | rfl | (simp [errW_none, errW_some] <;> rfl) | (simp [*, errW_none, errW_some] <;> rfl), by repeat (first | (with_reducible first | exact HB.out | apply below_alloc | apply pw_below_drewN | apply below_drew1) | exact HB.out)⟩

/-! ### impl_in: function 34 -/
def impl_in.f (a0 : Int) (a1 : Int) (a2 : Int) : Option (Bool) := if a1 ≤ a0 then (some (decide (a0 ≤ a2))) else (some false)
set_option maxHeartbeats 8000000 in
set_option maxRecDepth 100000 in
theorem impl_in.calls (a0 : Int) (a1 : Int) (a2 : Int) (r : Bool) (w : World) (h : impl_in.f a0 a1 a2 = some r) :
    Calls Try.prog 34 #[.int .i64 a0, .int .i64 a1, .int .i64 a2] w fun e w' => e = .returned (.bool r) ∧ Drawn0 w w' := by
  have H : (if a1 ≤ a0 then (some (decide (a0 ≤ a2))) else (some false)) = some r := h
  clear h
  by_cases c4 : a1 ≤ a0
  · rw [if_pos c4] at H
    have c4b0 : decide (a1 ≤ a0) = true := decide_eq_true c4
    clear c4
    obtain rfl := Option.some.inj H
    go_enter Try.func34, Try.ntmps34
    go_wp2
    go_ret
    exact ⟨by first | rfl | (simp; done) | (simp [*]; done), by repeat (first | exact Drawn0.refl _ | apply Drawn0.step)⟩
  · rw [if_neg c4] at H
    have c4b0 : decide (a1 ≤ a0) = false := decide_eq_false c4
    clear c4
    obtain rfl := Option.some.inj H
    go_enter Try.func34, Try.ntmps34
    go_wp2
    go_ret
    exact ⟨by first | rfl | (simp; done) | (simp [*]; done), by repeat (first | exact Drawn0.refl _ | apply Drawn0.step)⟩

/-! ### impl_isBase: function 35 -/
def impl_isBase.f (a0 : Int) : Option (Bool) := (impl_in.f a0 2 16).bind fun t115 => (some t115)
set_option maxHeartbeats 8000000 in
set_option maxRecDepth 100000 in
theorem impl_isBase.calls (a0 : Int) (r : Bool) (w : World) (h : impl_isBase.f a0 = some r) :
    Calls Try.prog 35 #[.int .i64 a0] w fun e w' => e = .returned (.bool r) ∧ Drawn0 w w' := by
  have H : ((impl_in.f a0 2 16).bind fun t115 => (some t115)) = some r := h
  clear h
  replace H := Option.bind_eq_some_iff.mp H
  obtain ⟨t115, A20, H⟩ := H
  replace H : (some t115) = some r := H
  have A2 := Aside0.mk A20
  clear A20
  obtain rfl := Option.some.inj H
  go_enter Try.func35, Try.ntmps35
  go_wp2_with (first | ((with_reducible refine gate_callee (f := 34) rfl ?_); refine goesL_ (some 4) rfl rfl Try.func34 (by kernel_rfl) rfl #[.int .i64 a0, .int .i64 2, .int .i64 16] rfl (by (try simp only [List.map_toArray, List.map_cons, List.map_nil]); first | done | rfl | (simp only [List.length_drop, List.length_take]; rfl)) ?_; (with_reducible refine (impl_in.calls a0 2 16 t115 _ A2.out).mono ?_); rintro e w' ⟨rfl, ⟨nd, rfl⟩⟩; refine ⟨_, rfl, ?_⟩))
  go_ret
  exact ⟨by first | rfl | (simp; done) | (simp [*]; done), by repeat (first | exact Drawn0.refl _ | apply Drawn0.step)⟩

/-! ### impl_isSmooth: function 36 -/
mutual
def impl_isSmooth.l0 : Nat → Int → Int → Int → Option (Bool)
  | 0, _, _, _ => none
  | k + 1, x0, x1, x5 => if x5 < x1 then (impl_isSmooth.l1 k x0 x1 x5) else (some (x0 == 1))
def impl_isSmooth.l1 : Nat → Int → Int → Int → Option (Bool)
  | 0, _, _, _ => none
  | k + 1, x0, x1, x5 => if x5 = 0 then (none) else (if (Int.tmod x0 x5) = 0 then (impl_isSmooth.l1 k (wrap64 (Int.tdiv x0 x5)) x1 x5) else (impl_isSmooth.l0 k x0 x1 (wrap64 (x5 + 1))))
end
def impl_isSmooth.f (k : Nat) (a0 : Int) (a1 : Int) : Option (Bool) := if a0 < 1 then (some false) else (impl_isSmooth.l0 k a0 a1 2)
theorem impl_isSmooth.mono_l : ∀ k, (∀ y0 y1 y2, LeO (impl_isSmooth.l0 k y0 y1 y2) (impl_isSmooth.l0 (k + 1) y0 y1 y2)) ∧ (∀ y0 y1 y2, LeO (impl_isSmooth.l1 k y0 y1 y2) (impl_isSmooth.l1 (k + 1) y0 y1 y2))
  | 0 => ⟨fun _ _ _ r h => by simp [impl_isSmooth.l0] at h, fun _ _ _ r h => by simp [impl_isSmooth.l1] at h⟩
  | k + 1 => by
    obtain ⟨ih0, ih1⟩ := impl_isSmooth.mono_l k
    refine ⟨?_, ?_⟩
    · intro y0 y1 y2
      unfold impl_isSmooth.l0
      repeat' first
      | (with_reducible exact ih0 _ _ _)
      | (with_reducible exact ih1 _ _ _)
      | (with_reducible exact LeO.refl _)
      | (with_reducible exact LeO.none _)
      | (with_reducible refine LeO.ite ?_ ?_)
      | (with_reducible refine LeO.bind ?_ (fun _ => ?_))
      | exact ih0 _ _ _
      | exact ih1 _ _ _
      | exact LeO.none _
      | refine LeO.ite ?_ ?_
      | refine LeO.bind ?_ (fun _ => ?_)
    · intro y0 y1 y2
      unfold impl_isSmooth.l1
      repeat' first
      | (with_reducible exact ih0 _ _ _)
      | (with_reducible exact ih1 _ _ _)
      | (with_reducible exact LeO.refl _)
      | (with_reducible exact LeO.none _)
      | (with_reducible refine LeO.ite ?_ ?_)
      | (with_reducible refine LeO.bind ?_ (fun _ => ?_))
      | exact ih0 _ _ _
      | exact ih1 _ _ _
      | exact LeO.none _
      | refine LeO.ite ?_ ?_
      | refine LeO.bind ?_ (fun _ => ?_)
theorem impl_isSmooth.mono : ∀ a0 a1 k, LeO (impl_isSmooth.f k a0 a1) (impl_isSmooth.f (k + 1) a0 a1) := by
  intro a0 a1 k
  obtain ⟨ih0, ih1⟩ := impl_isSmooth.mono_l k
  unfold impl_isSmooth.f
  repeat' first
      | (with_reducible exact ih0 _ _ _)
      | (with_reducible exact ih1 _ _ _)
      | (with_reducible exact LeO.refl _)
      | (with_reducible exact LeO.none _)
      | (with_reducible refine LeO.ite ?_ ?_)
      | (with_reducible refine LeO.bind ?_ (fun _ => ?_))
      | exact ih0 _ _ _
      | exact ih1 _ _ _
      | exact LeO.none _
      | refine LeO.ite ?_ ?_
      | refine LeO.bind ?_ (fun _ => ?_)
set_option maxHeartbeats 8000000 in
set_option maxRecDepth 100000 in
theorem impl_isSmooth.calls (k : Nat) (a0 : Int) (a1 : Int) (r : Bool) (w : World) (h : impl_isSmooth.f k a0 a1 = some r) :
    Calls Try.prog 36 #[.int .i64 a0, .int .i64 a1] w fun e w' => e = .returned (.bool r) ∧ Drawn0 w w' := by
  have H : (if a0 < 1 then (some false) else (impl_isSmooth.l0 k a0 a1 2)) = some r := h
  clear h
  by_cases c3 : a0 < 1
  · rw [if_pos c3] at H
    have c3b0 : decide (a0 < 1) = true := decide_eq_true c3
    clear c3
    obtain rfl := Option.some.inj H
    go_enter Try.func36, Try.ntmps36
    go_wp2
    go_ret
    exact ⟨by first | rfl | (simp; done) | (simp [*]; done), by repeat (first | exact Drawn0.refl _ | apply Drawn0.step)⟩
  · rw [if_neg c3] at H
    have c3b0 : decide (a0 < 1) = false := decide_eq_false c3
    clear c3
    have H' := Aside0.mk H
    clear H
    go_enter Try.func36, Try.ntmps36
    go_wp2
    go_loopg [0, 5] k (fun kq v0 v5 w' => ∃ (x0_1 : Int) (x5_1 : Int), v0 = .int .i64 x0_1 ∧ v5 = .int .i64 x5_1 ∧ Aside0 (impl_isSmooth.l0 kq x0_1 a1 x5_1 = some r) ∧ Aside0 (kq ≤ k) ∧ Drawn0 w w')
    case atStart => exact ⟨(a0), (2), (by first | rfl | (simp; done) | (simp [*]; done)), (by first | rfl | (simp; done) | (simp [*]; done)), H', ⟨Nat.le_refl _⟩, by repeat (first | exact Drawn0.refl _ | apply Drawn0.step)⟩
    case round =>
      clear H'
      try clear p2
      try clear c3
      try clear c3b0
      obtain ⟨x0_1, x5_1, rfl, rfl, HA, HK1, ⟨m1, rfl⟩⟩ := hrel
      cases gk with
      | zero => exact absurd HA.out (by simp [impl_isSmooth.l0])
      | succ k1 =>
        have H := HA.out
        clear HA
        simp only [impl_isSmooth.l0] at H
        by_cases c4 : x5_1 < a1
        · rw [if_pos c4] at H
          have c4b0 : decide (x5_1 < a1) = true := decide_eq_true c4
          clear c4
          have H' := Aside0.mk H
          clear H
          go_wp2
          go_loopg [0] k1 (fun kq v0 w' => ∃ (x0_2 : Int), v0 = .int .i64 x0_2 ∧ Aside0 (impl_isSmooth.l1 kq x0_2 a1 x5_1 = some r) ∧ Aside0 (kq ≤ k1) ∧ Drawn0 w w')
          case atStart => exact ⟨(x0_1), (by first | rfl | (simp; done) | (simp [*]; done)), H', ⟨Nat.le_refl _⟩, by repeat (first | exact Drawn0.refl _ | apply Drawn0.step)⟩
          case round =>
            clear H'
            try clear p2
            try clear c3
            try clear c3b0
            try clear c4
            try clear c4b0
            try clear p2
            obtain ⟨x0_2, rfl, HA, HK2, ⟨m2, rfl⟩⟩ := hrel
            cases gk with
            | zero => exact absurd HA.out (by simp [impl_isSmooth.l1])
            | succ k2 =>
              have H := HA.out
              clear HA
              simp only [impl_isSmooth.l1] at H
              by_cases c5 : x5_1 = 0
              · rw [if_pos c5] at H
                exact absurd H (by simp)
              · rw [if_neg c5] at H
                have c5b0 : (x5_1 == 0) = false := beq_eq_false_iff_ne.mpr c5
                have c5b1 : (x5_1 != 0) = true := bne_iff_ne.mpr c5
                by_cases c6 : (Int.tmod x0_2 x5_1) = 0
                · rw [if_pos c6] at H
                  have c6b0 : ((Int.tmod x0_2 x5_1) == 0) = true := beq_iff_eq.mpr c6
                  have c6b1 : ((Int.tmod x0_2 x5_1) != 0) = false := bne_eq_false_iff_eq.mpr c6
                  clear c6
                  have H' := Aside0.mk H
                  clear H
                  go_wp2
                  go_roundg k2
                  case measure => have := HK1.out; have := HK2.out; omega
                  case rel => exact ⟨(wrap64 (Int.tdiv x0_2 x5_1)), (by first | rfl | (simp; done) | (simp [*]; done)), H', ⟨by have := HK1.out; have := HK2.out; omega⟩, by repeat (first | exact Drawn0.refl _ | apply Drawn0.step)⟩
                · rw [if_neg c6] at H
                  have c6b0 : ((Int.tmod x0_2 x5_1) == 0) = false := beq_eq_false_iff_ne.mpr c6
                  have c6b1 : ((Int.tmod x0_2 x5_1) != 0) = true := bne_iff_ne.mpr c6
                  have H' := Aside0.mk H
                  clear H
                  go_wp2
                  go_roundg k2
                  case measure => have := HK1.out; have := HK2.out; omega
                  case rel => exact ⟨(x0_2), (wrap64 (x5_1 + 1)), (by first | rfl | (simp; done) | (simp [*]; done)), (by first | rfl | (simp; done) | (simp [*]; done)), H', ⟨by have := HK1.out; have := HK2.out; omega⟩, by repeat (first | exact Drawn0.refl _ | apply Drawn0.step)⟩
        · rw [if_neg c4] at H
          have c4b0 : decide (x5_1 < a1) = false := decide_eq_false c4
          clear c4
          obtain rfl := Option.some.inj H
          go_wp2
          go_ret
          exact ⟨by first | rfl | (simp; done) | (simp [*]; done), by repeat (first | exact Drawn0.refl _ | apply Drawn0.step)⟩

/-! ### impl_CountWithProduct: function 11 -/
/-! ### a map of numbers that holds what a function says of its keys -/
def Mem.Ok (V : Int → Int) (D : DataW Unit) : Prop := Go.Maps.IsMap D ∧ ∀ m : Int, Go.Maps.has D (.int .i64 m) = true → D.atKey (.int .i64 m) (.lit (.int .i64 0)) = .lit (.int .i64 (V m))
def Mem.un (D : DataW Unit) (N : Nat) : Nat := ((List.range N).filter fun m : Nat => !(Go.Maps.has D (.int .i64 ((m : Int) + 1)))).length
def Mem.St (V : Int → Int) (N g : Nat) (w : World) (S : DataW Unit → Prop) : Prop := ∃ c D, w.ownsMap Try.prog 3 (plainElem (H := Unit) Try.prog 3) g c D ∧ Mem.Ok V D ∧ c + Mem.un D N ≤ N ∧ S D
theorem Mem.filter_one (p q : Nat → Bool) (a : Nat) (hp : p a = true) (hq : q a = false) (he : ∀ m, m ≠ a → q m = p m) : ∀ N, ((List.range N).filter q).length + (if a < N then 1 else 0) = ((List.range N).filter p).length
  | 0 => by simp
  | N + 1 => by
    have ih := Mem.filter_one p q a hp hq he N
    rw [List.range_succ, List.filter_append, List.filter_append, List.length_append, List.length_append]
    by_cases h : N = a
    · subst h
      rw [if_neg (Nat.lt_irrefl _)] at ih
      simp [hp, hq]; omega
    · have e := he N h
      by_cases h2 : a < N
      · rw [if_pos h2] at ih
        rw [if_pos (by omega)]
        cases hpn : p N <;> simp [e, hpn] <;> omega
      · rw [if_neg h2] at ih
        rw [if_neg (by omega)]
        cases hpn : p N <;> simp [e, hpn] <;> omega
theorem Mem.lit_ne {a b : Int} (h : a ≠ b) : (Lit.int .i64 a) ≠ .int .i64 b := fun e => h (by cases e; rfl)
theorem Mem.un_put {D : DataW Unit} {N : Nat} {n : Int} (v : DataW Unit) (hm : Go.Maps.IsMap D) (h : Go.Maps.has D (.int .i64 n) = false) (h1 : 1 ≤ n) (h2 : n ≤ N) : Mem.un (D.put (.int .i64 n) v) N + 1 = Mem.un D N := by
  have := Mem.filter_one (fun m : Nat => !(Go.Maps.has D (.int .i64 ((m : Int) + 1)))) (fun m : Nat => !(Go.Maps.has (D.put (.int .i64 n) v) (.int .i64 ((m : Int) + 1)))) (n.toNat - 1) (by
      have e : ((n.toNat - 1 : Nat) : Int) + 1 = n := by omega
      simp only [e, h, Bool.not_false]) (by
      have e : ((n.toNat - 1 : Nat) : Int) + 1 = n := by omega
      simp only [e]
      rw [Go.Maps.has_put_same hm (k := .int .i64 n) (by trivial)]
      rfl) (fun m hne => by
      rw [Go.Maps.has_put_other (Mem.lit_ne (by omega))]) N
  rw [if_pos (by omega)] at this
  unfold Mem.un
  exact this
theorem Mem.ok_put {V : Int → Int} {D : DataW Unit} (h : Mem.Ok V D) (n : Int) : Mem.Ok V (D.put (.int .i64 n) (.lit (.int .i64 (V n)))) := by
  refine ⟨?_, fun m hm => ?_⟩
  · obtain ⟨es, rfl⟩ := h.1
    exact ⟨_, rfl⟩
  · by_cases e : m = n
    · subst e
      rw [Go.Maps.atKey_put_same h.1 (by trivial)]
    · rw [Go.Maps.atKey_put_other (Mem.lit_ne e)]
      rw [Go.Maps.has_put_other (Mem.lit_ne e)] at hm
      exact h.2 m hm
theorem Mem.un_empty (N : Nat) : Mem.un (.map []) N = N := by
  unfold Mem.un
  have : (List.range N).filter (fun m : Nat => !(Go.Maps.has (.map [] : DataW Unit) (.int .i64 ((m : Int) + 1)))) = List.range N := List.filter_eq_self.2 (fun a _ => rfl)
  rw [this, List.length_range]
theorem Mem.made (V : Int → Int) (N : Nat) (w : World) : Mem.St V N w.heap.size (w.alloc (.map #[] 0)) (fun D => D = .map []) :=
  ⟨0, .map [], World.ownsMap_made w _ _ _, ⟨⟨[], rfl⟩, fun m hm => by simp [Go.Maps.has] at hm⟩, by rw [Mem.un_empty]; omega, rfl⟩
theorem Mem.zero3 (w : World) : (zeroValue 3).run Try.prog w = .ok (.int .i64 0) w := by kernel_rfl
theorem Mem.w64 {x : Int} (h0 : -9223372036854775808 ≤ x) (h1 : x ≤ 9223372036854775807) : wrap64 x = x := by unfold wrap64; omega
theorem Mem.wf {x : Int} (h0 : -9223372036854775808 ≤ x) (h1 : x ≤ 9223372036854775807) : (Lit.int .i64 x).wf = true := by
  simp only [Lit.wf, Bool.and_eq_true, decide_eq_true_eq, show IntKind.i64.min = -9223372036854775808 from rfl, show IntKind.i64.max = 9223372036854775807 from rfl]
  omega
theorem Mem.st_mono {V : Int → Int} {N g : Nat} {w : World} {S S' : DataW Unit → Prop} (h : Mem.St V N g w S) (hs : ∀ D, S D → S' D) : Mem.St V N g w S' := by
  obtain ⟨c, D, h1, h2, h3, h4⟩ := h
  exact ⟨c, D, h1, h2, h3, hs D h4⟩
theorem Mem.st_put {V : Int → Int} {N g : Nat} {w1 : World} {c : Nat} {D : DataW Unit} {n : Int} {S : DataW Unit → Prop} (hm : w1.ownsMap Try.prog 3 (plainElem (H := Unit) Try.prog 3) g (c + 1) (D.put (.int .i64 n) (.lit (.int .i64 (V n))))) (ho : Mem.Ok V D) (hu : c + Mem.un D N ≤ N) (hh : Go.Maps.has D (.int .i64 n) = false) (h1 : 1 ≤ n) (h2 : n ≤ N) (hS : ∀ D', (∀ j, j ≠ n → Go.Maps.has D' (.int .i64 j) = Go.Maps.has D (.int .i64 j)) → S D') : Mem.St V N g w1 S := by
  refine ⟨c + 1, _, hm, Mem.ok_put ho n, ?_, hS _ (fun j hj => Go.Maps.has_put_other (Mem.lit_ne hj) _)⟩
  have := Mem.un_put (.lit (.int .i64 (V n))) ho.1 hh h1 h2
  omega

def impl_countWith.cwL (g : Int → Int) (n : Int) : Nat → Int
  | 0 => 0
  | m + 1 => impl_countWith.cwL g n m + (if n % ((m : Int) + 2) = 0 then g (n / ((m : Int) + 2)) else 0)
def impl_countWith.cw (b : Int) : Nat → Int → Int
  | 0, _ => 0
  | f + 1, n => if n = 1 then 1 else impl_countWith.cwL (impl_countWith.cw b f) n (b - 2).toNat
def impl_countWith.cws (b n : Int) : Int := impl_countWith.cw b n.toNat n
theorem impl_countWith.div_lt {n : Int} (m : Nat) (h1 : 1 ≤ n) (h : n % ((m : Int) + 2) = 0) : 1 ≤ n / ((m : Int) + 2) ∧ n / ((m : Int) + 2) < n := by
  have e := Int.mul_ediv_add_emod n ((m : Int) + 2)
  rw [h, Int.add_zero] at e
  generalize n / ((m : Int) + 2) = q at e ⊢
  have hq : 1 ≤ q := by
    rcases Int.lt_or_le q 1 with h2 | h2
    · have : ((m : Int) + 2) * q ≤ ((m : Int) + 2) * 0 := Int.mul_le_mul_of_nonneg_left (by omega) (by omega)
      omega
    · exact h2
  refine ⟨hq, ?_⟩
  have h3 : 2 * q ≤ ((m : Int) + 2) * q := Int.mul_le_mul_of_nonneg_right (by omega) (by omega)
  omega
theorem impl_countWith.cwL_congr {g g' : Int → Int} {n : Int} (h1 : 1 ≤ n) (h : ∀ q, 1 ≤ q → q < n → g q = g' q) : ∀ m, impl_countWith.cwL g n m = impl_countWith.cwL g' n m
  | 0 => rfl
  | m + 1 => by
    unfold impl_countWith.cwL
    rw [impl_countWith.cwL_congr h1 h m]
    by_cases hd : n % ((m : Int) + 2) = 0
    · obtain ⟨h2, h3⟩ := impl_countWith.div_lt m h1 hd
      rw [if_pos hd, if_pos hd, h _ h2 h3]
    · rw [if_neg hd, if_neg hd]
theorem impl_countWith.cw_fuel (b : Int) : ∀ (f f' : Nat) (n : Int), 1 ≤ n → n.toNat ≤ f → n.toNat ≤ f' → impl_countWith.cw b f n = impl_countWith.cw b f' n
  | 0, _, n, h1, h2, _ => by omega
  | f + 1, 0, n, h1, _, h3 => by omega
  | f + 1, f' + 1, n, h1, h2, h3 => by
    unfold impl_countWith.cw
    by_cases e : n = 1
    · rw [if_pos e, if_pos e]
    · rw [if_neg e, if_neg e]
      exact impl_countWith.cwL_congr h1 (fun q hq hlt => impl_countWith.cw_fuel b f f' q hq (by omega) (by omega)) _
theorem impl_countWith.cws_one (b : Int) : impl_countWith.cws b 1 = 1 := rfl
theorem impl_countWith.cws_eq (b : Int) {n : Int} (h : 1 < n) : impl_countWith.cws b n = impl_countWith.cwL (impl_countWith.cws b) n (b - 2).toNat := by
  unfold impl_countWith.cws
  obtain ⟨f, hf⟩ : ∃ f, n.toNat = f + 1 := ⟨n.toNat - 1, by omega⟩
  rw [hf]
  show (if n = 1 then 1 else impl_countWith.cwL (impl_countWith.cw b f) n (b - 2).toNat) = _
  rw [if_neg (by omega)]
  exact impl_countWith.cwL_congr (by omega) (fun q hq hlt => impl_countWith.cw_fuel b f q.toNat q hq (by omega) (Nat.le_refl _)) _
def impl_countWith.V (b : Int) (m : Int) : Int := wrap64 (impl_countWith.cws b m)
theorem impl_countWith.wadd (a c : Int) : wrap64 (wrap64 a + wrap64 c) = wrap64 (a + c) := by unfold wrap64; omega
theorem impl_countWith.wwf (a : Int) : (Lit.int .i64 (wrap64 a)).wf = true := Mem.wf (by unfold wrap64; omega) (by unfold wrap64; omega)
set_option maxHeartbeats 8000000 in
set_option maxRecDepth 100000 in
theorem impl_countWith.rec (b : Int) (hb : 2 ≤ b ∧ b ≤ 16) (N : Nat) (hN : N ≤ 1000000000000) (g : Nat) (w0 : World) (hg : w0.heap.size ≤ g) : ∀ (f : Nat) (n : Int) (h : Int → Bool) (w : World), 1 ≤ n → n.toNat ≤ f → n ≤ N → Mem.St (impl_countWith.V b) N g w (fun D => ∀ j, n < j → Go.Maps.has D (.int .i64 j) = h j) → Below w0.heap.size w0 w →
    Calls Try.prog 37 #[.int .i64 n, .int .i64 b, .map (some g)] w fun e w' => e = .returned (.int .i64 (impl_countWith.V b n)) ∧ Mem.St (impl_countWith.V b) N g w' (fun D => ∀ j, n < j → Go.Maps.has D (.int .i64 j) = h j) ∧ Below w0.heap.size w0 w'
  | 0, n, h, w, h1, h2, _, _, _ => by omega
  | f + 1, n, h, w, h1, h2, h3, hst, hB => by
    have HB := Aside0.mk hB
    have HG := Aside0.mk hg
    have HN := Aside0.mk hN
    have H3 := Aside0.mk h3
    have IH := Aside0.mk (fun (m : Int) (h : Int → Bool) (W : World) (a1 : 1 ≤ m) (a2 : m < n) (a3 : Mem.St (impl_countWith.V b) N g W (fun D => ∀ j, m < j → Go.Maps.has D (.int .i64 j) = h j)) (a4 : Below w0.heap.size w0 W) => impl_countWith.rec b hb N hN g w0 hg f m h W a1 (by omega) (by omega) a3 a4)
    have hle : n ≤ 1000000000000 := by omega
    clear hB hg hN h3 h2
    by_cases e1 : n = 1
    · subst e1
      have HS := Aside0.mk hst
      clear hst IH
      go_enter Try.func37, Try.ntmps37
      go_wp2
      go_ret
      exact ⟨by rw [show impl_countWith.V b 1 = 1 from by unfold impl_countWith.V; rw [impl_countWith.cws_one]; exact Mem.w64 (by omega) (by omega)]; rfl, HS.out, HB.out⟩
    · have e1b : (n == 1) = false := beq_eq_false_iff_ne.mpr e1
      have hn1 : 1 < n := by omega
      obtain ⟨c, D, hm, hok, hun, hs⟩ := hst
      have HM := Aside0.mk hm
      have HOK := Aside0.mk hok
      have HU := Aside0.mk hun
      have HSD := Aside0.mk hs
      have hwf : (Lit.int .i64 n).wf = true := Mem.wf (by omega) (by omega)
      have HKEY := Aside0.mk (show keyOf Try.prog 3 (.int .i64 n) = some (.int .i64 n) from Go.Maps.keyOf_int_mk Try.underlying3 hwf)
      have HEQ := Aside0.mk (impl_countWith.cws_eq b hn1)
      clear hm hok hun hwf e1 hs
      cases hh : Go.Maps.has D (.int .i64 n) with
      | true =>
        have HF := Aside0.mk hh
        have HI := Aside0.mk (HOK.out.2 n hh)
        clear hh hb IH
        go_enter Try.func37, Try.ntmps37
        go_wp2_with (first | (at_lookup; refine wpList_lookup_own_ok_int _ rfl _ _ 44 rfl 3 3 .i64 (Go.Maps.int_keyed Try.underlying3) Try.underlying44 Try.underlying3 (Mem.zero3 _) g c _ rfl HM.out _ _ rfl HKEY.out ?_; intro c2 hat hwc; rw [HF.out]; have HC := Aside0.mk hat; clear hat hwc))
        go_ret
        have hci : c2 = impl_countWith.V b n := by
          have h := HC.out.symm.trans HI.out
          injection h with h
          injection h
        rw [hci]
        exact ⟨rfl, ⟨c, D, HM.out, HOK.out, HU.out, HSD.out⟩, HB.out⟩
      | false =>
        have HF := Aside0.mk hh
        clear hh
        go_enter Try.func37, Try.ntmps37
        go_wp2_with (first | (at_lookup; refine wpList_lookup_own_ok_int _ rfl _ _ 44 rfl 3 3 .i64 (Go.Maps.int_keyed Try.underlying3) Try.underlying44 Try.underlying3 (Mem.zero3 _) g c _ rfl HM.out _ _ rfl HKEY.out ?_; intro c2 hat hwc; rw [HF.out]; clear hat hwc))
        go_loopw [9, 10] (fun v9 v10 wr => ∃ k : Nat, (k : Int) + 2 ≤ b ∧ v10 = .int .i64 ((k : Int) + 2) ∧ v9 = .int .i64 (wrap64 (impl_countWith.cwL (impl_countWith.cws b) n k)) ∧ Aside0 (Mem.St (impl_countWith.V b) N g wr (fun D' => ∀ j, n ≤ j → Go.Maps.has D' (.int .i64 j) = Go.Maps.has D (.int .i64 j))) ∧ Aside0 (Below w0.heap.size w0 wr)) (fun _ v10 _ => b.toNat - (intOf v10).toNat)
        case atStart => exact ⟨0, by omega, rfl, by show _ = Value.int .i64 (wrap64 0); rw [Mem.w64 (by omega) (by omega)], ⟨c, D, HM.out, HOK.out, HU.out, fun _ _ => rfl⟩, HB⟩
        case round =>
          obtain ⟨k, hk, rfl, rfl, HS, HBr⟩ := hrel
          by_cases hlt : (k : Int) + 2 < b
          · have hltb : decide ((k : Int) + 2 < b) = true := decide_eq_true hlt
            by_cases hd : n % ((k : Int) + 2) = 0
            · have hdb : (n % ((k : Int) + 2) == 0) = true := beq_iff_eq.mpr hd
              obtain ⟨q1, q2⟩ := impl_countWith.div_lt k h1 hd
              have HW := Aside0.mk (impl_countWith.wadd (impl_countWith.cwL (impl_countWith.cws b) n k) (impl_countWith.cws b (n / ((k : Int) + 2))))
              have HL : Aside0 (impl_countWith.cwL (impl_countWith.cws b) n (k + 1) = impl_countWith.cwL (impl_countWith.cws b) n k + impl_countWith.cws b (n / ((k : Int) + 2))) := ⟨by show impl_countWith.cwL _ n k + _ = _; rw [if_pos hd]⟩
              obtain ⟨q, hq⟩ : ∃ q, q = n / ((k : Int) + 2) := ⟨_, rfl⟩
              have HQ2 := Aside0.mk hq
              rw [← hq] at q1 q2
              obtain ⟨c3, D3, hm3, hok3, hun3, hs3⟩ := HS.out
              have HS3 := Aside0.mk hs3
              have HP : Aside0 (Mem.St (impl_countWith.V b) N g wr (fun D' => ∀ j, q < j → Go.Maps.has D' (.int .i64 j) = Go.Maps.has D3 (.int .i64 j))) := ⟨⟨c3, D3, hm3, hok3, hun3, fun _ _ => rfl⟩⟩
              have HC := Aside0.mk (IH.out q _ _ q1 q2 HP.out HBr.out)
              have hqe : n / ((k : Int) + 2) = q := hq.symm
              have HQ1 := Aside0.mk q2
              clear hq hd hm3 hok3 hun3 hs3
              go_wp2_with (first | (go_at_call 37; (with_reducible refine HC.out.mono ?_); rintro e w2 ⟨rfl, hs2, hb2⟩; have HS2 := Aside0.mk (Mem.st_mono hs2 (S' := fun D' => ∀ j, n ≤ j → Go.Maps.has D' (.int .i64 j) = Go.Maps.has D (.int .i64 j)) (fun D' hD j hj => (hD j (by have := HQ1.out; omega)).trans (HS3.out j hj))); have HB3 := Aside0.mk hb2; clear hs2 hb2))
              go_roundw
              case rel => exact ⟨k + 1, by omega, by go_num, by rw [HL.out, ← HW.out, ← HQ2.out]; rfl, HS2, HB3⟩
              case measure => simp [intOf]; omega
            · have hdb : (n % ((k : Int) + 2) == 0) = false := beq_eq_false_iff_ne.mpr hd
              have HL : Aside0 (impl_countWith.cwL (impl_countWith.cws b) n (k + 1) = impl_countWith.cwL (impl_countWith.cws b) n k) := ⟨by show impl_countWith.cwL _ n k + _ = _; rw [if_neg hd, Int.add_zero]⟩
              clear hd
              go_wp2
              go_roundw
              case rel => exact ⟨k + 1, by omega, by go_num, by rw [HL.out], HS, HBr⟩
              case measure => simp [intOf]; omega
          · have hltb : decide ((k : Int) + 2 < b) = false := decide_eq_false hlt
            have hkb : (b - 2).toNat = k := by omega
            have HV : Aside0 (impl_countWith.V b n = wrap64 (impl_countWith.cwL (impl_countWith.cws b) n k)) := ⟨by unfold impl_countWith.V; rw [HEQ.out, hkb]⟩
            have HWF := Aside0.mk (impl_countWith.wwf (impl_countWith.cwL (impl_countWith.cws b) n k))
            obtain ⟨c3, D3, hm3, hok3, hun3, hs3⟩ := HS.out
            have HM3 := Aside0.mk hm3
            have HOK3 := Aside0.mk hok3
            have HU3 := Aside0.mk hun3
            have HS3 := Aside0.mk hs3
            clear hm3 hok3 hun3 hs3 hkb
            go_wp2_with (first | (at_mapUpdate; refine wpList_mapUpdate_own _ rfl _ _ _ 44 rfl 3 3 (Go.Maps.int_keyed Try.underlying3) Try.underlying44 _ g c3 _ rfl HM3.out (by have := HU3.out; have := HN.out; unfold maxLen; omega) _ _ _ rfl rfl HKEY.out _ [] (plainElem_int Try.underlying3 HWF.out) ?_; intro w1 hown1 hgrow1; have HM4 := Aside0.mk hown1; have HB4 := Aside0.mk (HBr.out.grown hgrow1 HBr.out.size (fun j hj => by cases hj; exact HG.out)); clear hown1 hgrow1))
            go_ret
            have h4 := HM4.out
            rw [← HV.out] at h4 ⊢
            exact ⟨rfl, Mem.st_put h4 HOK3.out HU3.out ((HS3.out n (Int.le_refl _)).trans HF.out) h1 H3.out (fun D' hD j hj => (hD j (by omega)).trans ((HS3.out j (by omega)).trans (HSD.out j hj))), HB4.out⟩

def impl_CountWithProduct.f (k : Nat) (a0 a1 : Int) : Option (Int × Bool) := (impl_in.f a0 2 1000000000000).bind fun b1 => (if b1 = true then (impl_isBase.f a1).bind fun b2 => (if b2 = true then (impl_isSmooth.f k a0 a1).bind fun s => (if s = true then some (impl_countWith.V a1 a0, true) else some (0, true)) else some (0, false)) else some (0, false))
theorem impl_CountWithProduct.mono : ∀ a0 a1 k, LeO (impl_CountWithProduct.f k a0 a1) (impl_CountWithProduct.f (k + 1) a0 a1) := fun _ _ k => LeO.bind (LeO.refl _) (fun _ => LeO.ite (LeO.bind (LeO.refl _) (fun _ => LeO.ite (LeO.bind (impl_isSmooth.mono _ _ k) (fun _ => LeO.refl _)) (LeO.refl _))) (LeO.refl _))
theorem impl_CountWithProduct.in_ (a b c : Int) (h : impl_in.f a b c = some true) : b ≤ a ∧ a ≤ c := by
  unfold impl_in.f at h
  by_cases h1 : b ≤ a
  · rw [if_pos h1] at h
    exact ⟨h1, of_decide_eq_true (Option.some.inj h)⟩
  · rw [if_neg h1] at h
    cases h
set_option maxHeartbeats 8000000 in
set_option maxRecDepth 100000 in
theorem impl_CountWithProduct.calls (k : Nat) (a0 : Int) (a1 : Int) (r1 : Int) (r2 : Bool) (w : World) (h : impl_CountWithProduct.f k a0 a1 = some (r1, r2)) :
    Calls Try.prog 11 #[.int .i64 a0, .int .i64 a1] w fun e w' => e = .returned (.tuple #[.int .i64 r1, .bool r2]) ∧ Below w.heap.size w w' := by
  have HB := Aside0.mk (Below.refl w.heap.size w)
  have hmm := @run_makeMap Try.prog
  unfold impl_CountWithProduct.f at h
  obtain ⟨b1, hb1, h⟩ := Option.bind_eq_some_iff.mp h
  have HI := Aside0.mk hb1
  clear hb1
  cases b1 with
  | false =>
    rw [if_neg (by decide)] at h
    simp only [Option.some.injEq, Prod.mk.injEq] at h
    obtain ⟨rfl, rfl⟩ := h
    go_enter Try.func11, Try.ntmps11
    go_wp2_with (first | (go_at_call 34; (with_reducible refine (impl_in.calls a0 2 1000000000000 false _ HI.out).mono ?_); rintro e w2 ⟨rfl, hd⟩; have HB2 := Aside0.mk (below_step HB.out hd.below); clear hd))
    go_ret2
    exact ⟨rfl, HB2.out⟩
  | true =>
    rw [if_pos rfl] at h
    obtain ⟨b2, hb2, h⟩ := Option.bind_eq_some_iff.mp h
    have HS := Aside0.mk hb2
    clear hb2
    cases b2 with
    | false =>
      rw [if_neg (by decide)] at h
      simp only [Option.some.injEq, Prod.mk.injEq] at h
      obtain ⟨rfl, rfl⟩ := h
      go_enter Try.func11, Try.ntmps11
      go_wp2_with (first | (go_at_call 34; (with_reducible refine (impl_in.calls a0 2 1000000000000 true _ HI.out).mono ?_); rintro e w2 ⟨rfl, hd⟩; have HB2 := Aside0.mk (below_step HB.out hd.below); clear hd) | (go_at_call 35; (with_reducible refine (impl_isBase.calls a1 false _ HS.out).mono ?_); rintro e w3 ⟨rfl, hd⟩; have HB3 := Aside0.mk (below_step HB2.out (by first | exact hd.below | exact hd)); clear hd))
      go_ret2
      exact ⟨rfl, HB3.out⟩
    | true =>
      rw [if_pos rfl] at h
      obtain ⟨s, hs, h⟩ := Option.bind_eq_some_iff.mp h
      have HM := Aside0.mk hs
      clear hs
      cases s with
      | false =>
        rw [if_neg (by decide)] at h
        simp only [Option.some.injEq, Prod.mk.injEq] at h
        obtain ⟨rfl, rfl⟩ := h
        go_enter Try.func11, Try.ntmps11
        go_wp2_with (first | (go_at_call 34; (with_reducible refine (impl_in.calls a0 2 1000000000000 true _ HI.out).mono ?_); rintro e w2 ⟨rfl, hd⟩; have HB2 := Aside0.mk (below_step HB.out hd.below); clear hd) | (go_at_call 35; (with_reducible refine (impl_isBase.calls a1 true _ HS.out).mono ?_); rintro e w3 ⟨rfl, hd⟩; have HB3 := Aside0.mk (below_step HB2.out (by first | exact hd.below | exact hd)); clear hd) | (go_at_call 36; (with_reducible refine (impl_isSmooth.calls k a0 a1 false _ HM.out).mono ?_); rintro e w4 ⟨rfl, hd⟩; have HB4 := Aside0.mk (below_step HB3.out (by first | exact hd.below | exact hd)); clear hd))
        go_ret2
        exact ⟨rfl, HB4.out⟩
      | true =>
        rw [if_pos rfl] at h
        simp only [Option.some.injEq, Prod.mk.injEq] at h
        obtain ⟨rfl, rfl⟩ := h
        have hr1 := impl_CountWithProduct.in_ _ _ _ HI.out
        have hr2 : 2 ≤ a1 ∧ a1 ≤ 16 := by
          have h := HS.out
          unfold impl_isBase.f at h
          obtain ⟨t, ht, h⟩ := Option.bind_eq_some_iff.mp h
          obtain rfl := Option.some.inj h
          exact impl_CountWithProduct.in_ _ _ _ ht
        have HC := Aside0.mk (fun (W : World) (hB : Below w.heap.size w W) => impl_countWith.rec a1 hr2 a0.toNat (by omega) W.heap.size w hB.size a0.toNat a0 (fun _ => false) (W.alloc (.map #[] 0)) (by omega) (Nat.le_refl _) (by omega) (Mem.st_mono (Mem.made _ _ W) (fun D hD j _ => by rw [hD]; rfl)) (below_alloc hB _))
        clear hr1 hr2
        go_enter Try.func11, Try.ntmps11
        go_wp2_with (first | (go_at_call 34; (with_reducible refine (impl_in.calls a0 2 1000000000000 true _ HI.out).mono ?_); rintro e w2 ⟨rfl, hd⟩; have HB2 := Aside0.mk (below_step HB.out hd.below); clear hd) | (go_at_call 35; (with_reducible refine (impl_isBase.calls a1 true _ HS.out).mono ?_); rintro e w3 ⟨rfl, hd⟩; have HB3 := Aside0.mk (below_step HB2.out (by first | exact hd.below | exact hd)); clear hd) | (go_at_call 36; (with_reducible refine (impl_isSmooth.calls k a0 a1 true _ HM.out).mono ?_); rintro e w4 ⟨rfl, hd⟩; have HB4 := Aside0.mk (below_step HB3.out (by first | exact hd.below | exact hd)); clear hd) | (go_at_call 37; (with_reducible refine (HC.out w4 HB4.out).mono ?_); rintro e w5 ⟨rfl, hst, hb⟩; have HB5 := Aside0.mk hb; clear hst hb))
        go_ret2
        exact ⟨rfl, HB5.out⟩

/-! ### laws_FnExactCountWithProduct: function 3 -/
def laws_FnExactCountWithProduct.f (k : Nat) (a0 : Int) (a1 : Int) : Option (Bool) := (spec_CountWithProduct.f k a0 a1).bind fun bt116 => ((impl_CountWithProduct.f k a0 a1).bind fun bt118 => (if bt118.1 = bt116.1 then (if (bt118.2 != bt116.2) = true then (some false) else (some true)) else (some false)))
theorem laws_FnExactCountWithProduct.mono : ∀ a0 a1 k, LeO (laws_FnExactCountWithProduct.f k a0 a1) (laws_FnExactCountWithProduct.f (k + 1) a0 a1) := by
  intro a0 a1 k
  unfold laws_FnExactCountWithProduct.f
  repeat' first
      | (with_reducible exact impl_CountWithProduct.mono _ _ _)
      | (with_reducible exact spec_CountWithProduct.mono _ _ _)
      | (with_reducible exact LeO.refl _)
      | (with_reducible exact LeO.none _)
      | (with_reducible refine LeO.ite ?_ ?_)
      | (with_reducible refine LeO.bind ?_ (fun _ => ?_))
      | exact impl_CountWithProduct.mono _ _ _
      | exact spec_CountWithProduct.mono _ _ _
      | exact LeO.none _
      | refine LeO.ite ?_ ?_
      | refine LeO.bind ?_ (fun _ => ?_)
set_option maxHeartbeats 8000000 in
set_option maxRecDepth 100000 in
theorem laws_FnExactCountWithProduct.calls (k : Nat) (a0 : Int) (a1 : Int) (r : Bool) (w : World) (h : laws_FnExactCountWithProduct.f k a0 a1 = some r) :
    Calls Try.prog 3 #[.int .i64 a0, .int .i64 a1] w fun e w' => e = .returned (.bool r) ∧ Below w.heap.size w w' := by
  have HB := Aside0.mk (Below.refl w.heap.size w)
  have H : ((spec_CountWithProduct.f k a0 a1).bind fun bt116 => ((impl_CountWithProduct.f k a0 a1).bind fun bt118 => (if bt118.1 = bt116.1 then (if (bt118.2 != bt116.2) = true then (some false) else (some true)) else (some false)))) = some r := h
  clear h
  replace H := Option.bind_eq_some_iff.mp H
  obtain ⟨⟨t116, t117⟩, A30, H⟩ := H
  replace H : ((impl_CountWithProduct.f k a0 a1).bind fun bt118 => (if bt118.1 = t116 then (if (bt118.2 != t117) = true then (some false) else (some true)) else (some false))) = some r := H
  have A3 := Aside0.mk A30
  clear A30
  replace H := Option.bind_eq_some_iff.mp H
  obtain ⟨⟨t118, t119⟩, A40, H⟩ := H
  replace H : (if t118 = t116 then (if (t119 != t117) = true then (some false) else (some true)) else (some false)) = some r := H
  have A4 := Aside0.mk A40
  clear A40
  by_cases c5 : t118 = t116
  · rw [if_pos c5] at H
    have c5b0 : (t118 == t116) = true := beq_iff_eq.mpr c5
    have c5b1 : (t118 != t116) = false := bne_eq_false_iff_eq.mpr c5
    clear c5
    by_cases c6 : (t119 != t117) = true
    · rw [if_pos c6] at H
      have c6b0 : (t119 != t117) = true := c6
      (try (have c6b1 : decide (t119 = t117) = false := by simpa using c6))
      (try (have c6b2 : (t119 == t117) = false := by simpa using c6))
      (try (have c6b3 : ¬ (t119 = t117) := by simpa using c6))
      clear c6
      obtain rfl := Option.some.inj H
      go_enter Try.func3, Try.ntmps3
      go_wp2_with (first | ((with_reducible refine gate_callee (f := 10) rfl ?_); refine goesL_ (some 12) rfl rfl Try.func10 (by kernel_rfl) rfl #[.int .i64 a0, .int .i64 a1] rfl (by (try simp only [List.map_toArray, List.map_cons, List.map_nil]); first | done | rfl | (simp only [List.length_drop, List.length_take]; rfl)) ?_; (with_reducible refine (spec_CountWithProduct.calls k a0 a1 t116 t117 _ A3.out).mono ?_); rintro e w7 ⟨rfl, hb⟩; refine ⟨_, rfl, ?_⟩; have n0_ := Aside0.mk (below_step (by repeat (first | (with_reducible first | exact HB.out | apply below_alloc | apply pw_below_drewN | apply below_drew1) | exact HB.out)) hb); clear HB; have HB := n0_; clear n0_; (try clear hb); (try clear hb2); (try clear hk); (try clear hi)) | ((with_reducible refine gate_callee (f := 11) rfl ?_); refine goesL_ (some 18) rfl rfl Try.func11 (by kernel_rfl) rfl #[.int .i64 a0, .int .i64 a1] rfl (by (try simp only [List.map_toArray, List.map_cons, List.map_nil]); first | done | rfl | (simp only [List.length_drop, List.length_take]; rfl)) ?_; (with_reducible refine (impl_CountWithProduct.calls k a0 a1 t118 t119 _ A4.out).mono ?_); rintro e w8 ⟨rfl, hb⟩; refine ⟨_, rfl, ?_⟩; have n0_ := Aside0.mk (below_step (by repeat (first | (with_reducible first | exact HB.out | apply below_alloc | apply pw_below_drewN | apply below_drew1) | exact HB.out)) hb); clear HB; have HB := n0_; clear n0_; (try clear hb); (try clear hb2); (try clear hk); (try clear hi)))
      go_ret
      exact ⟨by first | rfl | (simp [errW_none, errW_some] <;> rfl) | (simp [*, errW_none, errW_some] <;> rfl), by repeat (first | (with_reducible first | exact HB.out | apply below_alloc | apply pw_below_drewN | apply below_drew1) | exact HB.out)⟩
    · rw [if_neg c6] at H
      have c6b0 : (t119 != t117) = false := by simpa using c6
      (try (have c6b1 : decide (t119 = t117) = true := by simpa using c6))
      (try (have c6b2 : (t119 == t117) = true := by simpa using c6))
      clear c6
      obtain rfl := Option.some.inj H
      go_enter Try.func3, Try.ntmps3
      go_wp2_with (first | ((with_reducible refine gate_callee (f := 10) rfl ?_); refine goesL_ (some 12) rfl rfl Try.func10 (by kernel_rfl) rfl #[.int .i64 a0, .int .i64 a1] rfl (by (try simp only [List.map_toArray, List.map_cons, List.map_nil]); first | done | rfl | (simp only [List.length_drop, List.length_take]; rfl)) ?_; (with_reducible refine (spec_CountWithProduct.calls k a0 a1 t116 t117 _ A3.out).mono ?_); rintro e w9 ⟨rfl, hb⟩; refine ⟨_, rfl, ?_⟩; have n0_ := Aside0.mk (below_step (by repeat (first | (with_reducible first | exact HB.out | apply below_alloc | apply pw_below_drewN | apply below_drew1) | exact HB.out)) hb); clear HB; have HB := n0_; clear n0_; (try clear hb); (try clear hb2); (try clear hk); (try clear hi)) | ((with_reducible refine gate_callee (f := 11) rfl ?_); refine goesL_ (some 18) rfl rfl Try.func11 (by kernel_rfl) rfl #[.int .i64 a0, .int .i64 a1] rfl (by (try simp only [List.map_toArray, List.map_cons, List.map_nil]); first | done | rfl | (simp only [List.length_drop, List.length_take]; rfl)) ?_; (with_reducible refine (impl_CountWithProduct.calls k a0 a1 t118 t119 _ A4.out).mono ?_); rintro e w10 ⟨rfl, hb⟩; refine ⟨_, rfl, ?_⟩; have n0_ := Aside0.mk (below_step (by repeat (first | (with_reducible first | exact HB.out | apply below_alloc | apply pw_below_drewN | apply below_drew1) | exact HB.out)) hb); clear HB; have HB := n0_; clear n0_; (try clear hb); (try clear hb2); (try clear hk); (try clear hi)))
      go_ret
      exact ⟨by first | rfl | (simp [errW_none, errW_some] <;> rfl) | (simp [*, errW_none, errW_some] <;> rfl), by repeat (first | (with_reducible first | exact HB.out | apply below_alloc | apply pw_below_drewN | apply below_drew1) | exact HB.out)⟩
  · rw [if_neg c5] at H
    have c5b0 : (t118 == t116) = false := beq_eq_false_iff_ne.mpr c5
    have c5b1 : (t118 != t116) = true := bne_iff_ne.mpr c5
    obtain rfl := Option.some.inj H
    go_enter Try.func3, Try.ntmps3
    go_wp2_with (first | ((with_reducible refine gate_callee (f := 10) rfl ?_); refine goesL_ (some 12) rfl rfl Try.func10 (by kernel_rfl) rfl #[.int .i64 a0, .int .i64 a1] rfl (by (try simp only [List.map_toArray, List.map_cons, List.map_nil]); first | done | rfl | (simp only [List.length_drop, List.length_take]; rfl)) ?_; (with_reducible refine (spec_CountWithProduct.calls k a0 a1 t116 t117 _ A3.out).mono ?_); rintro e w11 ⟨rfl, hb⟩; refine ⟨_, rfl, ?_⟩; have n0_ := Aside0.mk (below_step (by repeat (first | (with_reducible first | exact HB.out | apply below_alloc | apply pw_below_drewN | apply below_drew1) | exact HB.out)) hb); clear HB; have HB := n0_; clear n0_; (try clear hb); (try clear hb2); (try clear hk); (try clear hi)) | ((with_reducible refine gate_callee (f := 11) rfl ?_); refine goesL_ (some 18) rfl rfl Try.func11 (by kernel_rfl) rfl #[.int .i64 a0, .int .i64 a1] rfl (by (try simp only [List.map_toArray, List.map_cons, List.map_nil]); first | done | rfl | (simp only [List.length_drop, List.length_take]; rfl)) ?_; (with_reducible refine (impl_CountWithProduct.calls k a0 a1 t118 t119 _ A4.out).mono ?_); rintro e w12 ⟨rfl, hb⟩; refine ⟨_, rfl, ?_⟩; have n0_ := Aside0.mk (below_step (by repeat (first | (with_reducible first | exact HB.out | apply below_alloc | apply pw_below_drewN | apply below_drew1) | exact HB.out)) hb); clear HB; have HB := n0_; clear n0_; (try clear hb); (try clear hb2); (try clear hk); (try clear hi)))
    go_ret
    exact ⟨by first | rfl | (simp [errW_none, errW_some] <;> rfl) | (simp [*, errW_none, errW_some] <;> rfl), by repeat (first | (with_reducible first | exact HB.out | apply below_alloc | apply pw_below_drewN | apply below_drew1) | exact HB.out)⟩

/-- THE ONE PURE STATEMENT of laws_FnExactCountWithProduct: yours. -/
def laws_FnExactCountWithProduct.Pure : Prop := ∀ (a0 : Int) (a1 : Int), (Lit.int .i64 a0).wf = true → (Lit.int .i64 a1).wf = true → ∃ k, laws_FnExactCountWithProduct.f k a0 a1 = some true
theorem laws_FnExactCountWithProduct.walk (P : laws_FnExactCountWithProduct.Pure) (a0 : Int) (a1 : Int) (w : World) (w0 : (Lit.int .i64 a0).wf = true) (w1 : (Lit.int .i64 a1).wf = true) :
    Calls Try.prog 3 #[.int .i64 a0, .int .i64 a1] w fun e w' => e = .returned (.bool true) ∧ Below w.heap.size w w' := by
  obtain ⟨k, h⟩ := P a0 a1 w0 w1
  refine (laws_FnExactCountWithProduct.calls k a0 a1 true w h).mono ?_
  rintro e w' ⟨rfl, hd⟩
  exact ⟨rfl, hd⟩

end Go.Proofs.Ytimimjmabnmeoaa.PFnExactCountWithProduct
