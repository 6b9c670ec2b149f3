-- Written by a program of this session (hook.py): functions, contracts and walks in the printer's form; contracts of this session's own where the printer takes none
import Derived.Test.YtimimjmabnmeoaaPFnExactFirstSourcex0
import Derived.Test.YtimimjmabnmeoaaPFnExactFirstSourcex5
namespace Go.Proofs.Ytimimjmabnmeoaa.PFnExactFirstSource
open Go.RowKit Go.Proofs.YtimimjmabnmeoaaW.PrintWords Go.Proofs.YtimimjmabnmeoaaW.PrintLast Go.Proofs.YtimimjmabnmeoaaW.PrintMore
attribute [local go_sem] max2_int min2_int max_two min_two max_three min_three max_four min_four   -- for this text's walks alone
set_option linter.unusedVariables false
set_option linter.unusedSimpArgs false

/-! ### cmp_Compare_int: function 97 -/
def cmp_Compare_int.f (a0 : Int) (a1 : Int) : Option (Int) := (cmp_isNaN_int.f a0).bind fun t214 => ((cmp_isNaN_int.f a1).bind fun t215 => (if t214 = true then (if t215 = true then (some 0) else (some (-1))) else (if t215 = true then (some 1) else (if a0 < a1 then (some (-1)) else (if a0 > a1 then (some 1) else (some 0))))))
set_option maxHeartbeats 8000000 in
set_option maxRecDepth 100000 in
theorem cmp_Compare_int.calls (a0 : Int) (a1 : Int) (r : Int) (w : World) (h : cmp_Compare_int.f a0 a1 = some r) :
    Calls Try.prog 97 #[.int .i64 a0, .int .i64 a1] w fun e w' => e = .returned (.int .i64 r) ∧ Drawn0 w w' := by
  have H : ((cmp_isNaN_int.f a0).bind fun t214 => ((cmp_isNaN_int.f a1).bind fun t215 => (if t214 = true then (if t215 = true then (some 0) else (some (-1))) else (if t215 = true then (some 1) else (if a0 < a1 then (some (-1)) else (if a0 > a1 then (some 1) else (some 0))))))) = some r := h
  clear h
  replace H := Option.bind_eq_some_iff.mp H
  obtain ⟨t214, A30, H⟩ := H
  replace H : ((cmp_isNaN_int.f a1).bind fun t215 => (if t214 = true then (if t215 = true then (some 0) else (some (-1))) else (if t215 = true then (some 1) else (if a0 < a1 then (some (-1)) else (if a0 > a1 then (some 1) else (some 0)))))) = some r := H
  have A3 := Aside0.mk A30
  clear A30
  replace H := Option.bind_eq_some_iff.mp H
  obtain ⟨t215, A40, H⟩ := H
  replace H : (if t214 = true then (if t215 = true then (some 0) else (some (-1))) else (if t215 = true then (some 1) else (if a0 < a1 then (some (-1)) else (if a0 > a1 then (some 1) else (some 0))))) = some r := H
  have A4 := Aside0.mk A40
  clear A40
  by_cases c5 : t214 = true
  · subst c5
    have H1 : (if t215 = true then (some 0) else (some (-1))) = some r := by rw [if_pos rfl] at H; exact H
    clear H
    have H := H1
    clear H1
    by_cases c6 : t215 = true
    · subst c6
      have H1 : (some 0) = some r := by rw [if_pos rfl] at H; exact H
      clear H
      have H := H1
      clear H1
      obtain rfl := Option.some.inj H
      go_enter Try.func97, Try.ntmps97
      go_wp2_with (first | ((with_reducible refine gate_callee (f := 120) rfl ?_); refine goesL_ (some 8) rfl rfl Try.func120 (by kernel_rfl) rfl #[.int .i64 a0] rfl (by (try simp only [List.map_toArray, List.map_cons, List.map_nil]); first | done | rfl | (simp only [List.length_drop, List.length_take]; rfl)) ?_; (with_reducible refine (cmp_isNaN_int.calls a0 true _ A3.out).mono ?_); rintro e w' ⟨rfl, ⟨nd, rfl⟩⟩; refine ⟨_, rfl, ?_⟩) | ((with_reducible refine gate_callee (f := 120) rfl ?_); refine goesL_ (some 10) rfl rfl Try.func120 (by kernel_rfl) rfl #[.int .i64 a1] rfl (by (try simp only [List.map_toArray, List.map_cons, List.map_nil]); first | done | rfl | (simp only [List.length_drop, List.length_take]; rfl)) ?_; (with_reducible refine (cmp_isNaN_int.calls a1 true _ A4.out).mono ?_); rintro e w' ⟨rfl, ⟨nd, rfl⟩⟩; refine ⟨_, rfl, ?_⟩))
      go_ret
      exact ⟨by first | rfl | (simp; done) | (simp [*]; done), by repeat (first | exact Drawn0.refl _ | apply Drawn0.step)⟩
    · replace c6 := Bool.eq_false_iff.mpr c6
      subst c6
      have H1 : (some (-1)) = some r := by rw [if_neg (show ¬ (false = true) by decide)] at H; exact H
      clear H
      have H := H1
      clear H1
      obtain rfl := Option.some.inj H
      go_enter Try.func97, Try.ntmps97
      go_wp2_with (first | ((with_reducible refine gate_callee (f := 120) rfl ?_); refine goesL_ (some 8) rfl rfl Try.func120 (by kernel_rfl) rfl #[.int .i64 a0] rfl (by (try simp only [List.map_toArray, List.map_cons, List.map_nil]); first | done | rfl | (simp only [List.length_drop, List.length_take]; rfl)) ?_; (with_reducible refine (cmp_isNaN_int.calls a0 true _ A3.out).mono ?_); rintro e w' ⟨rfl, ⟨nd, rfl⟩⟩; refine ⟨_, rfl, ?_⟩) | ((with_reducible refine gate_callee (f := 120) rfl ?_); refine goesL_ (some 10) rfl rfl Try.func120 (by kernel_rfl) rfl #[.int .i64 a1] rfl (by (try simp only [List.map_toArray, List.map_cons, List.map_nil]); first | done | rfl | (simp only [List.length_drop, List.length_take]; rfl)) ?_; (with_reducible refine (cmp_isNaN_int.calls a1 false _ A4.out).mono ?_); rintro e w' ⟨rfl, ⟨nd, rfl⟩⟩; refine ⟨_, rfl, ?_⟩))
      go_ret
      exact ⟨by first | rfl | (simp; done) | (simp [*]; done), by repeat (first | exact Drawn0.refl _ | apply Drawn0.step)⟩
  · replace c5 := Bool.eq_false_iff.mpr c5
    subst c5
    have H1 : (if t215 = true then (some 1) else (if a0 < a1 then (some (-1)) else (if a0 > a1 then (some 1) else (some 0)))) = some r := by rw [if_neg (show ¬ (false = true) by decide)] at H; exact H
    clear H
    have H := H1
    clear H1
    by_cases c7 : t215 = true
    · subst c7
      have H1 : (some 1) = some r := by rw [if_pos rfl] at H; exact H
      clear H
      have H := H1
      clear H1
      obtain rfl := Option.some.inj H
      go_enter Try.func97, Try.ntmps97
      go_wp2_with (first | ((with_reducible refine gate_callee (f := 120) rfl ?_); refine goesL_ (some 8) rfl rfl Try.func120 (by kernel_rfl) rfl #[.int .i64 a0] rfl (by (try simp only [List.map_toArray, List.map_cons, List.map_nil]); first | done | rfl | (simp only [List.length_drop, List.length_take]; rfl)) ?_; (with_reducible refine (cmp_isNaN_int.calls a0 false _ A3.out).mono ?_); rintro e w' ⟨rfl, ⟨nd, rfl⟩⟩; refine ⟨_, rfl, ?_⟩) | ((with_reducible refine gate_callee (f := 120) rfl ?_); refine goesL_ (some 10) rfl rfl Try.func120 (by kernel_rfl) rfl #[.int .i64 a1] rfl (by (try simp only [List.map_toArray, List.map_cons, List.map_nil]); first | done | rfl | (simp only [List.length_drop, List.length_take]; rfl)) ?_; (with_reducible refine (cmp_isNaN_int.calls a1 true _ A4.out).mono ?_); rintro e w' ⟨rfl, ⟨nd, rfl⟩⟩; refine ⟨_, rfl, ?_⟩))
      go_ret
      exact ⟨by first | rfl | (simp; done) | (simp [*]; done), by repeat (first | exact Drawn0.refl _ | apply Drawn0.step)⟩
    · replace c7 := Bool.eq_false_iff.mpr c7
      subst c7
      have H1 : (if a0 < a1 then (some (-1)) else (if a0 > a1 then (some 1) else (some 0))) = some r := by rw [if_neg (show ¬ (false = true) by decide)] at H; exact H
      clear H
      have H := H1
      clear H1
      by_cases c8 : a0 < a1
      · rw [if_pos c8] at H
        have c8b0 : decide (a0 < a1) = true := decide_eq_true c8
        clear c8
        obtain rfl := Option.some.inj H
        go_enter Try.func97, Try.ntmps97
        go_wp2_with (first | ((with_reducible refine gate_callee (f := 120) rfl ?_); refine goesL_ (some 8) rfl rfl Try.func120 (by kernel_rfl) rfl #[.int .i64 a0] rfl (by (try simp only [List.map_toArray, List.map_cons, List.map_nil]); first | done | rfl | (simp only [List.length_drop, List.length_take]; rfl)) ?_; (with_reducible refine (cmp_isNaN_int.calls a0 false _ A3.out).mono ?_); rintro e w' ⟨rfl, ⟨nd, rfl⟩⟩; refine ⟨_, rfl, ?_⟩) | ((with_reducible refine gate_callee (f := 120) rfl ?_); refine goesL_ (some 10) rfl rfl Try.func120 (by kernel_rfl) rfl #[.int .i64 a1] rfl (by (try simp only [List.map_toArray, List.map_cons, List.map_nil]); first | done | rfl | (simp only [List.length_drop, List.length_take]; rfl)) ?_; (with_reducible refine (cmp_isNaN_int.calls a1 false _ A4.out).mono ?_); rintro e w' ⟨rfl, ⟨nd, rfl⟩⟩; refine ⟨_, rfl, ?_⟩))
        go_ret
        exact ⟨by first | rfl | (simp; done) | (simp [*]; done), by repeat (first | exact Drawn0.refl _ | apply Drawn0.step)⟩
      · rw [if_neg c8] at H
        have c8b0 : decide (a0 < a1) = false := decide_eq_false c8
        clear c8
        by_cases c9 : a0 > a1
        · rw [if_pos c9] at H
          have c9b0 : decide (a1 < a0) = true := decide_eq_true c9
          clear c9
          obtain rfl := Option.some.inj H
          go_enter Try.func97, Try.ntmps97
          go_wp2_with (first | ((with_reducible refine gate_callee (f := 120) rfl ?_); refine goesL_ (some 8) rfl rfl Try.func120 (by kernel_rfl) rfl #[.int .i64 a0] rfl (by (try simp only [List.map_toArray, List.map_cons, List.map_nil]); first | done | rfl | (simp only [List.length_drop, List.length_take]; rfl)) ?_; (with_reducible refine (cmp_isNaN_int.calls a0 false _ A3.out).mono ?_); rintro e w' ⟨rfl, ⟨nd, rfl⟩⟩; refine ⟨_, rfl, ?_⟩) | ((with_reducible refine gate_callee (f := 120) rfl ?_); refine goesL_ (some 10) rfl rfl Try.func120 (by kernel_rfl) rfl #[.int .i64 a1] rfl (by (try simp only [List.map_toArray, List.map_cons, List.map_nil]); first | done | rfl | (simp only [List.length_drop, List.length_take]; rfl)) ?_; (with_reducible refine (cmp_isNaN_int.calls a1 false _ A4.out).mono ?_); rintro e w' ⟨rfl, ⟨nd, rfl⟩⟩; refine ⟨_, rfl, ?_⟩))
          go_ret
          exact ⟨by first | rfl | (simp; done) | (simp [*]; done), by repeat (first | exact Drawn0.refl _ | apply Drawn0.step)⟩
        · rw [if_neg c9] at H
          have c9b0 : decide (a1 < a0) = false := decide_eq_false c9
          clear c9
          obtain rfl := Option.some.inj H
          go_enter Try.func97, Try.ntmps97
          go_wp2_with (first | ((with_reducible refine gate_callee (f := 120) rfl ?_); refine goesL_ (some 8) rfl rfl Try.func120 (by kernel_rfl) rfl #[.int .i64 a0] rfl (by (try simp only [List.map_toArray, List.map_cons, List.map_nil]); first | done | rfl | (simp only [List.length_drop, List.length_take]; rfl)) ?_; (with_reducible refine (cmp_isNaN_int.calls a0 false _ A3.out).mono ?_); rintro e w' ⟨rfl, ⟨nd, rfl⟩⟩; refine ⟨_, rfl, ?_⟩) | ((with_reducible refine gate_callee (f := 120) rfl ?_); refine goesL_ (some 10) rfl rfl Try.func120 (by kernel_rfl) rfl #[.int .i64 a1] rfl (by (try simp only [List.map_toArray, List.map_cons, List.map_nil]); first | done | rfl | (simp only [List.length_drop, List.length_take]; rfl)) ?_; (with_reducible refine (cmp_isNaN_int.calls a1 false _ A4.out).mono ?_); rintro e w' ⟨rfl, ⟨nd, rfl⟩⟩; refine ⟨_, rfl, ?_⟩))
          go_ret
          exact ⟨by first | rfl | (simp; done) | (simp [*]; done), by repeat (first | exact Drawn0.refl _ | apply Drawn0.step)⟩

/-! ### slices_Compare_int_int: function 75 -/
def slices_Compare_int_int.l0 : Nat → List Int → List Int → List Int → Int → Int → Option (Int)
  | 0, _, _, _, _, _ => none
  | k + 1, x0, x1, x9, x10, x11 => if x11 < x10 then (if 0 ≤ x11 then (if x11 < (x9.length : Int) then (if x11 ≥ (x1.length : Int) then (some 1) else (if x11 < (x1.length : Int) then ((cmp_Compare_int.f (rd x9 x11) (rd x1 x11)).bind fun t218 => (if t218 = 0 then (slices_Compare_int_int.l0 k x0 x1 x9 x10 (wrap64 (x11 + 1))) else (some t218))) else (none))) else (none)) else (none)) else (if (x0.length : Int) < (x1.length : Int) then (some (-1)) else (some 0))
def slices_Compare_int_int.f (k : Nat) (l0 : List Int) (l1 : List Int) : Option (Int) := slices_Compare_int_int.l0 k l0 l1 l0 (l0.length : Int) 0
theorem slices_Compare_int_int.mono_l : ∀ k, (∀ y0 y1 y2 y3 y4, LeO (slices_Compare_int_int.l0 k y0 y1 y2 y3 y4) (slices_Compare_int_int.l0 (k + 1) y0 y1 y2 y3 y4))
  | 0 => fun _ _ _ _ _ r h => by simp [slices_Compare_int_int.l0] at h
  | k + 1 => by
    have ih0 := slices_Compare_int_int.mono_l k
    · intro y0 y1 y2 y3 y4
      unfold slices_Compare_int_int.l0
      repeat' first
      | (with_reducible exact ih0 _ _ _ _ _)
      | (with_reducible exact LeO.refl _)
      | (with_reducible exact LeO.none _)
      | (with_reducible refine LeO.ite ?_ ?_)
      | (with_reducible refine LeO.bind ?_ (fun _ => ?_))
      | exact ih0 _ _ _ _ _
      | exact LeO.none _
      | refine LeO.ite ?_ ?_
      | refine LeO.bind ?_ (fun _ => ?_)
theorem slices_Compare_int_int.mono : ∀ a0 a1 k, LeO (slices_Compare_int_int.f k a0 a1) (slices_Compare_int_int.f (k + 1) a0 a1) := by
  intro a0 a1 k
  have ih0 := slices_Compare_int_int.mono_l k
  unfold slices_Compare_int_int.f
  repeat' first
      | (with_reducible exact ih0 _ _ _ _ _)
      | (with_reducible exact LeO.refl _)
      | (with_reducible exact LeO.none _)
      | (with_reducible refine LeO.ite ?_ ?_)
      | (with_reducible refine LeO.bind ?_ (fun _ => ?_))
      | exact ih0 _ _ _ _ _
      | exact LeO.none _
      | refine LeO.ite ?_ ?_
      | refine LeO.bind ?_ (fun _ => ?_)
set_option maxHeartbeats 8000000 in
set_option maxRecDepth 100000 in
theorem slices_Compare_int_int.calls (k : Nat) (A0 : Option Addr) (c0 : Nat) (l0 : List Int) (A1 : Option Addr) (c1 : Nat) (l1 : List Int) (r : Int) (w : World) (hr0 : Kd.C (Kd.int .i64) w A0 l0.length l0) (hc0 : l0.length ≤ c0) (hr1 : Kd.C (Kd.int .i64) w A1 l1.length l1) (hc1 : l1.length ≤ c1) (h : slices_Compare_int_int.f k l0 l1 = some r) :
    Calls Try.prog 75 #[.slice A0 l0.length c0, .slice A1 l1.length c1] w fun e w' => e = .returned (.int .i64 r) ∧ Drawn0 w w' := by
  have HR0 := Aside0.mk hr0
  have HC0 := Aside0.mk hc0
  clear hr0 hc0
  have HR1 := Aside0.mk hr1
  have HC1 := Aside0.mk hc1
  clear hr1 hc1
  have H : (slices_Compare_int_int.l0 k l0 l1 l0 (l0.length : Int) 0) = some r := h
  clear h
  have H' := Aside0.mk H
  clear H
  go_enter Try.func75, Try.ntmps75
  go_wp2
  go_loopg [11] k (fun kq v11 w' => ∃ (x11_1 : Int), v11 = .int .i64 x11_1 ∧ Aside0 (slices_Compare_int_int.l0 kq l0 l1 l0 (l0.length : Int) x11_1 = some r) ∧ Aside0 (kq ≤ k) ∧ Drawn0 w w')
  case atStart => exact ⟨(0), (by first | rfl | (simp; done) | (simp [*]; done)), H', ⟨Nat.le_refl _⟩, by repeat (first | exact Drawn0.refl _ | apply Drawn0.step)⟩
  case round =>
    clear H'
    try clear c1
    try clear p2
    obtain ⟨x11_1, rfl, HA, HK1, ⟨m1, rfl⟩⟩ := hrel
    cases gk with
    | zero => exact absurd HA.out (by simp [slices_Compare_int_int.l0])
    | succ k1 =>
      have H := HA.out
      clear HA
      simp only [slices_Compare_int_int.l0] at H
      by_cases c3 : x11_1 < (l0.length : Int)
      · rw [if_pos c3] at H
        have c3b0 : decide (x11_1 < (l0.length : Int)) = true := decide_eq_true c3
        clear c3
        by_cases c4 : 0 ≤ x11_1
        · rw [if_pos c4] at H
          have c4b0 : decide (0 ≤ x11_1) = true := decide_eq_true c4
          clear c4
          by_cases c5 : x11_1 < (l0.length : Int)
          · rw [if_pos c5] at H
            have c5b0 : decide (x11_1 < (l0.length : Int)) = true := decide_eq_true c5
            clear c5
            by_cases c6 : x11_1 ≥ (l1.length : Int)
            · rw [if_pos c6] at H
              have c6b0 : decide ((l1.length : Int) ≤ x11_1) = true := decide_eq_true c6
              clear c6
              obtain rfl := Option.some.inj H
              have p216 : 0 ≤ (x11_1 : Int) := of_decide_eq_true (by first | (with_reducible assumption) | assumption)
              have q216 : x11_1 < (l0.length : Int) := of_decide_eq_true (by first | (with_reducible assumption) | assumption)
              obtain ⟨ad216, e216, hx216_0⟩ := Kd.at_int HR0.out x11_1 p216 q216
              cases e216
              replace p216 := eq_true p216
              replace q216 := eq_true q216
              go_wp2
              go_ret
              exact ⟨by first | rfl | (simp; done) | (simp [*]; done), by repeat (first | exact Drawn0.refl _ | apply Drawn0.step)⟩
            · rw [if_neg c6] at H
              have c6b0 : decide ((l1.length : Int) ≤ x11_1) = false := decide_eq_false c6
              clear c6
              by_cases c7 : x11_1 < (l1.length : Int)
              · rw [if_pos c7] at H
                have c7b0 : decide (x11_1 < (l1.length : Int)) = true := decide_eq_true c7
                clear c7
                replace H := Option.bind_eq_some_iff.mp H
                obtain ⟨t218, A80, H⟩ := H
                replace H : (if t218 = 0 then (slices_Compare_int_int.l0 k1 l0 l1 l0 (l0.length : Int) (wrap64 (x11_1 + 1))) else (some t218)) = some r := H
                have A8 := Aside0.mk A80
                clear A80
                by_cases c9 : t218 = 0
                · rw [if_pos c9] at H
                  have c9b0 : (t218 == 0) = true := beq_iff_eq.mpr c9
                  have c9b1 : (t218 != 0) = false := bne_eq_false_iff_eq.mpr c9
                  clear c9
                  have H' := Aside0.mk H
                  clear H
                  have p216 : 0 ≤ (x11_1 : Int) := of_decide_eq_true (by first | (with_reducible assumption) | assumption)
                  have q216 : x11_1 < (l0.length : Int) := of_decide_eq_true (by first | (with_reducible assumption) | assumption)
                  obtain ⟨ad216, e216, hx216_0⟩ := Kd.at_int HR0.out x11_1 p216 q216
                  cases e216
                  replace p216 := eq_true p216
                  replace q216 := eq_true q216
                  have p217 : 0 ≤ (x11_1 : Int) := of_decide_eq_true (by first | (with_reducible assumption) | assumption)
                  have q217 : x11_1 < (l1.length : Int) := of_decide_eq_true (by first | (with_reducible assumption) | assumption)
                  obtain ⟨ad217, e217, hx217_0⟩ := Kd.at_int HR1.out x11_1 p217 q217
                  cases e217
                  replace p217 := eq_true p217
                  replace q217 := eq_true q217
                  go_wp2_with (first | ((with_reducible refine gate_callee (f := 97) rfl ?_); refine goesL_ (some 26) rfl rfl Try.func97 (by kernel_rfl) rfl #[.int .i64 (rd l0 x11_1), .int .i64 (rd l1 x11_1)] rfl (by (try simp only [List.map_toArray, List.map_cons, List.map_nil]); first | done | rfl | (simp only [List.length_drop, List.length_take]; rfl)) ?_; (with_reducible refine (cmp_Compare_int.calls (rd l0 x11_1) (rd l1 x11_1) t218 _ A8.out).mono ?_); rintro e w' ⟨rfl, ⟨nd, rfl⟩⟩; refine ⟨_, rfl, ?_⟩))
                  go_roundg k1
                  case measure => have := HK1.out; omega
                  case rel => exact ⟨(wrap64 (x11_1 + 1)), (by first | rfl | (simp; done) | (simp [*]; done)), H', ⟨by have := HK1.out; omega⟩, by repeat (first | exact Drawn0.refl _ | apply Drawn0.step)⟩
                · rw [if_neg c9] at H
                  have c9b0 : (t218 == 0) = false := beq_eq_false_iff_ne.mpr c9
                  have c9b1 : (t218 != 0) = true := bne_iff_ne.mpr c9
                  obtain rfl := Option.some.inj H
                  have p216 : 0 ≤ (x11_1 : Int) := of_decide_eq_true (by first | (with_reducible assumption) | assumption)
                  have q216 : x11_1 < (l0.length : Int) := of_decide_eq_true (by first | (with_reducible assumption) | assumption)
                  obtain ⟨ad216, e216, hx216_0⟩ := Kd.at_int HR0.out x11_1 p216 q216
                  cases e216
                  replace p216 := eq_true p216
                  replace q216 := eq_true q216
                  have p217 : 0 ≤ (x11_1 : Int) := of_decide_eq_true (by first | (with_reducible assumption) | assumption)
                  have q217 : x11_1 < (l1.length : Int) := of_decide_eq_true (by first | (with_reducible assumption) | assumption)
                  obtain ⟨ad217, e217, hx217_0⟩ := Kd.at_int HR1.out x11_1 p217 q217
                  cases e217
                  replace p217 := eq_true p217
                  replace q217 := eq_true q217
                  go_wp2_with (first | ((with_reducible refine gate_callee (f := 97) rfl ?_); refine goesL_ (some 26) rfl rfl Try.func97 (by kernel_rfl) rfl #[.int .i64 (rd l0 x11_1), .int .i64 (rd l1 x11_1)] rfl (by (try simp only [List.map_toArray, List.map_cons, List.map_nil]); first | done | rfl | (simp only [List.length_drop, List.length_take]; rfl)) ?_; (with_reducible refine (cmp_Compare_int.calls (rd l0 x11_1) (rd l1 x11_1) t218 _ A8.out).mono ?_); rintro e w' ⟨rfl, ⟨nd, rfl⟩⟩; refine ⟨_, rfl, ?_⟩))
                  go_ret
                  exact ⟨by first | rfl | (simp; done) | (simp [*]; done), by repeat (first | exact Drawn0.refl _ | apply Drawn0.step)⟩
              · rw [if_neg c7] at H
                exact absurd H (by simp)
          · rw [if_neg c5] at H
            exact absurd H (by simp)
        · rw [if_neg c4] at H
          exact absurd H (by simp)
      · rw [if_neg c3] at H
        have c3b0 : decide (x11_1 < (l0.length : Int)) = false := decide_eq_false c3
        clear c3
        by_cases c10 : (l0.length : Int) < (l1.length : Int)
        · rw [if_pos c10] at H
          have c10b0 : decide ((l0.length : Int) < (l1.length : Int)) = true := decide_eq_true c10
          have c10b1 : decide (l0.length < l1.length) = true := decide_eq_true (Int.ofNat_lt.mp c10)
          clear c10
          obtain rfl := Option.some.inj H
          go_wp2
          go_ret
          exact ⟨by first | rfl | (simp; done) | (simp [*]; done), by repeat (first | exact Drawn0.refl _ | apply Drawn0.step)⟩
        · rw [if_neg c10] at H
          have c10b0 : decide ((l0.length : Int) < (l1.length : Int)) = false := decide_eq_false c10
          have c10b1 : decide (l0.length < l1.length) = false := decide_eq_false (fun h => c10 (Int.ofNat_lt.mpr h))
          clear c10
          obtain rfl := Option.some.inj H
          go_wp2
          go_ret
          exact ⟨by first | rfl | (simp; done) | (simp [*]; done), by repeat (first | exact Drawn0.refl _ | apply Drawn0.step)⟩

/-! ### slices_Equal_int_int: function 86 -/
def slices_Equal_int_int.l0 : Nat → List Int → List Int → Int → Int → Option (Bool)
  | 0, _, _, _, _ => none
  | k + 1, x0, x1, x12, x13 => if x13 < x12 then (if 0 ≤ x13 then (if x13 < (x0.length : Int) then (if x13 < (x1.length : Int) then (if (rd x0 x13) = (rd x1 x13) then (slices_Equal_int_int.l0 k x0 x1 x12 (wrap64 (x13 + 1))) else (some false)) else (none)) else (none)) else (none)) else (some true)
def slices_Equal_int_int.f (k : Nat) (l0 : List Int) (l1 : List Int) : Option (Bool) := if (l0.length : Int) = (l1.length : Int) then (slices_Equal_int_int.l0 k l0 l1 (l0.length : Int) 0) else (some false)
theorem slices_Equal_int_int.mono_l : ∀ k, (∀ y0 y1 y2 y3, LeO (slices_Equal_int_int.l0 k y0 y1 y2 y3) (slices_Equal_int_int.l0 (k + 1) y0 y1 y2 y3))
  | 0 => fun _ _ _ _ r h => by simp [slices_Equal_int_int.l0] at h
  | k + 1 => by
    have ih0 := slices_Equal_int_int.mono_l k
    · intro y0 y1 y2 y3
      unfold slices_Equal_int_int.l0
      repeat' first
      | (with_reducible exact ih0 _ _ _ _)
      | (with_reducible exact LeO.refl _)
      | (with_reducible exact LeO.none _)
      | (with_reducible refine LeO.ite ?_ ?_)
      | (with_reducible refine LeO.bind ?_ (fun _ => ?_))
      | exact ih0 _ _ _ _
      | exact LeO.none _
      | refine LeO.ite ?_ ?_
      | refine LeO.bind ?_ (fun _ => ?_)
theorem slices_Equal_int_int.mono : ∀ a0 a1 k, LeO (slices_Equal_int_int.f k a0 a1) (slices_Equal_int_int.f (k + 1) a0 a1) := by
  intro a0 a1 k
  have ih0 := slices_Equal_int_int.mono_l k
  unfold slices_Equal_int_int.f
  repeat' first
      | (with_reducible exact ih0 _ _ _ _)
      | (with_reducible exact LeO.refl _)
      | (with_reducible exact LeO.none _)
      | (with_reducible refine LeO.ite ?_ ?_)
      | (with_reducible refine LeO.bind ?_ (fun _ => ?_))
      | exact ih0 _ _ _ _
      | exact LeO.none _
      | refine LeO.ite ?_ ?_
      | refine LeO.bind ?_ (fun _ => ?_)
set_option maxHeartbeats 8000000 in
set_option maxRecDepth 100000 in
theorem slices_Equal_int_int.calls (k : Nat) (A0 : Option Addr) (c0 : Nat) (l0 : List Int) (A1 : Option Addr) (c1 : Nat) (l1 : List Int) (r : Bool) (w : World) (hr0 : Kd.C (Kd.int .i64) w A0 l0.length l0) (hc0 : l0.length ≤ c0) (hr1 : Kd.C (Kd.int .i64) w A1 l1.length l1) (hc1 : l1.length ≤ c1) (h : slices_Equal_int_int.f k l0 l1 = some r) :
    Calls Try.prog 86 #[.slice A0 l0.length c0, .slice A1 l1.length c1] w fun e w' => e = .returned (.bool r) ∧ Drawn0 w w' := by
  have HR0 := Aside0.mk hr0
  have HC0 := Aside0.mk hc0
  clear hr0 hc0
  have HR1 := Aside0.mk hr1
  have HC1 := Aside0.mk hc1
  clear hr1 hc1
  have H : (if (l0.length : Int) = (l1.length : Int) then (slices_Equal_int_int.l0 k l0 l1 (l0.length : Int) 0) else (some false)) = some r := h
  clear h
  by_cases c3 : (l0.length : Int) = (l1.length : Int)
  · rw [if_pos c3] at H
    have c3b0 : ((l0.length : Int) == (l1.length : Int)) = true := beq_iff_eq.mpr c3
    have c3b1 : ((l0.length : Int) != (l1.length : Int)) = false := bne_eq_false_iff_eq.mpr c3
    have c3b2 : (l0.length == l1.length) = true := by first | simpa using c3 | (simp at c3 ⊢; omega)
    clear c3
    have H' := Aside0.mk H
    clear H
    go_enter Try.func86, Try.ntmps86
    go_wp2
    repeat (go_quiet (fail); try go_wp2)
    go_loopg [13] k (fun kq v13 w' => ∃ (x13_1 : Int), v13 = .int .i64 x13_1 ∧ Aside0 (slices_Equal_int_int.l0 kq l0 l1 (l0.length : Int) x13_1 = some r) ∧ Aside0 (kq ≤ k) ∧ Drawn0 w w')
    case atStart => exact ⟨(0), (by first | rfl | (simp; done) | (simp [*]; done)), H', ⟨Nat.le_refl _⟩, by repeat (first | exact Drawn0.refl _ | apply Drawn0.step)⟩
    case round =>
      clear H'
      try clear c1
      try clear p2
      try clear c3
      try clear c3b0
      try clear c3b1
      try clear c3b2
      obtain ⟨x13_1, rfl, HA, HK1, ⟨m1, rfl⟩⟩ := hrel
      cases gk with
      | zero => exact absurd HA.out (by simp [slices_Equal_int_int.l0])
      | succ k1 =>
        have H := HA.out
        clear HA
        simp only [slices_Equal_int_int.l0] at H
        by_cases c4 : x13_1 < (l0.length : Int)
        · rw [if_pos c4] at H
          have c4b0 : decide (x13_1 < (l0.length : Int)) = true := decide_eq_true c4
          clear c4
          by_cases c5 : 0 ≤ x13_1
          · rw [if_pos c5] at H
            have c5b0 : decide (0 ≤ x13_1) = true := decide_eq_true c5
            clear c5
            by_cases c6 : x13_1 < (l0.length : Int)
            · rw [if_pos c6] at H
              have c6b0 : decide (x13_1 < (l0.length : Int)) = true := decide_eq_true c6
              clear c6
              by_cases c7 : x13_1 < (l1.length : Int)
              · rw [if_pos c7] at H
                have c7b0 : decide (x13_1 < (l1.length : Int)) = true := decide_eq_true c7
                clear c7
                by_cases c8 : (rd l0 x13_1) = (rd l1 x13_1)
                · rw [if_pos c8] at H
                  have c8b0 : ((rd l0 x13_1) == (rd l1 x13_1)) = true := beq_iff_eq.mpr c8
                  have c8b1 : ((rd l0 x13_1) != (rd l1 x13_1)) = false := bne_eq_false_iff_eq.mpr c8
                  clear c8
                  have H' := Aside0.mk H
                  clear H
                  have p219 : 0 ≤ (x13_1 : Int) := of_decide_eq_true (by first | (with_reducible assumption) | assumption)
                  have q219 : x13_1 < (l0.length : Int) := of_decide_eq_true (by first | (with_reducible assumption) | assumption)
                  obtain ⟨ad219, e219, hx219_0⟩ := Kd.at_int HR0.out x13_1 p219 q219
                  cases e219
                  replace p219 := eq_true p219
                  replace q219 := eq_true q219
                  have p220 : 0 ≤ (x13_1 : Int) := of_decide_eq_true (by first | (with_reducible assumption) | assumption)
                  have q220 : x13_1 < (l1.length : Int) := of_decide_eq_true (by first | (with_reducible assumption) | assumption)
                  obtain ⟨ad220, e220, hx220_0⟩ := Kd.at_int HR1.out x13_1 p220 q220
                  cases e220
                  replace p220 := eq_true p220
                  replace q220 := eq_true q220
                  go_wp2
                  repeat (go_quiet (fail); try go_wp2)
                  go_roundg k1
                  case measure => have := HK1.out; omega
                  case rel => exact ⟨(wrap64 (x13_1 + 1)), (by first | rfl | (simp; done) | (simp [*]; done)), H', ⟨by have := HK1.out; omega⟩, by repeat (first | exact Drawn0.refl _ | apply Drawn0.step)⟩
                · rw [if_neg c8] at H
                  have c8b0 : ((rd l0 x13_1) == (rd l1 x13_1)) = false := beq_eq_false_iff_ne.mpr c8
                  have c8b1 : ((rd l0 x13_1) != (rd l1 x13_1)) = true := bne_iff_ne.mpr c8
                  obtain rfl := Option.some.inj H
                  have p219 : 0 ≤ (x13_1 : Int) := of_decide_eq_true (by first | (with_reducible assumption) | assumption)
                  have q219 : x13_1 < (l0.length : Int) := of_decide_eq_true (by first | (with_reducible assumption) | assumption)
                  obtain ⟨ad219, e219, hx219_0⟩ := Kd.at_int HR0.out x13_1 p219 q219
                  cases e219
                  replace p219 := eq_true p219
                  replace q219 := eq_true q219
                  have p220 : 0 ≤ (x13_1 : Int) := of_decide_eq_true (by first | (with_reducible assumption) | assumption)
                  have q220 : x13_1 < (l1.length : Int) := of_decide_eq_true (by first | (with_reducible assumption) | assumption)
                  obtain ⟨ad220, e220, hx220_0⟩ := Kd.at_int HR1.out x13_1 p220 q220
                  cases e220
                  replace p220 := eq_true p220
                  replace q220 := eq_true q220
                  go_wp2
                  repeat (go_quiet (fail); try go_wp2)
                  go_ret
                  exact ⟨by first | rfl | (simp; done) | (simp [*]; done), by repeat (first | exact Drawn0.refl _ | apply Drawn0.step)⟩
              · rw [if_neg c7] at H
                exact absurd H (by simp)
            · rw [if_neg c6] at H
              exact absurd H (by simp)
          · rw [if_neg c5] at H
            exact absurd H (by simp)
        · rw [if_neg c4] at H
          have c4b0 : decide (x13_1 < (l0.length : Int)) = false := decide_eq_false c4
          clear c4
          obtain rfl := Option.some.inj H
          go_wp2
          repeat (go_quiet (fail); try go_wp2)
          go_ret
          exact ⟨by first | rfl | (simp; done) | (simp [*]; done), by repeat (first | exact Drawn0.refl _ | apply Drawn0.step)⟩
  · rw [if_neg c3] at H
    have c3b0 : ((l0.length : Int) == (l1.length : Int)) = false := beq_eq_false_iff_ne.mpr c3
    have c3b1 : ((l0.length : Int) != (l1.length : Int)) = true := bne_iff_ne.mpr c3
    have c3b2 : (l0.length == l1.length) = false := by first | simpa using c3 | (simp at c3 ⊢; omega)
    obtain rfl := Option.some.inj H
    go_enter Try.func86, Try.ntmps86
    go_wp2
    repeat (go_quiet (fail); try go_wp2)
    go_ret
    exact ⟨by first | rfl | (simp; done) | (simp [*]; done), by repeat (first | exact Drawn0.refl _ | apply Drawn0.step)⟩

/-! ### impl_source_check: function 106 -/
/-! ### a source: a struct on the heap -/
def SR.mid (m i : Int) : Bool := wrap64 (wrap64 (2 * i) + 1) == m
def SR.least (b s : Int) (o : Bool) : Int := if o = true then mx (mx (wrap64 (s - wrap64 (b - 1))) 0) 1 else mx (wrap64 (s - wrap64 (b - 1))) 0
def SR.many (b s l : Int) : Int := mx (wrap64 (wrap64 (mn s (wrap64 (b - 1)) - l) + 1)) 0
set_option maxHeartbeats 8000000 in
set_option maxRecDepth 100000 in
theorem SR.pairs {w : World} {g : Nat} {d0 sv fv : Value} {b m c : Int} (hG : w.heap[g]? = some (.cells #[d0, .int .i64 b, .int .i64 m, sv, .int .i64 c, fv] 56 (0, 0))) :
    Calls Try.prog 105 #[.pointer (some ⟨g, 0, none⟩)] w fun e w' => e = .returned (.int .i64 (wrap64 (Int.tdiv (wrap64 (m + 1)) 2))) ∧ Drawn0 w w' := by
  have hc2 : w.cell? ⟨g, 2, none⟩ = some (.int .i64 m) := (blk_cell hG 2).trans rfl
  have hf2 := blk_frozen hG 2
  clear hG
  go_enter Try.func105, Try.ntmps105
  go_wp2
  go_ret
  exact ⟨rfl, by repeat (first | exact Drawn0.refl _ | apply Drawn0.step)⟩
set_option maxHeartbeats 8000000 in
set_option maxRecDepth 100000 in
theorem SR.middle {w : World} {g : Nat} {d0 sv fv : Value} {b m c : Int} (i : Int) (hG : w.heap[g]? = some (.cells #[d0, .int .i64 b, .int .i64 m, sv, .int .i64 c, fv] 56 (0, 0))) :
    Calls Try.prog 123 #[.pointer (some ⟨g, 0, none⟩), .int .i64 i] w fun e w' => e = .returned (.bool (SR.mid m i)) ∧ Drawn0 w w' := by
  have hc2 : w.cell? ⟨g, 2, none⟩ = some (.int .i64 m) := (blk_cell hG 2).trans rfl
  have hf2 := blk_frozen hG 2
  clear hG
  go_enter Try.func123, Try.ntmps123
  go_wp2
  go_ret
  exact ⟨rfl, by repeat (first | exact Drawn0.refl _ | apply Drawn0.step)⟩
set_option maxHeartbeats 8000000 in
set_option maxRecDepth 100000 in
theorem SR.ways {w : World} {g : Nat} {d0 sv fv : Value} {b m c : Int} (s : Int) (o : Bool) (hG : w.heap[g]? = some (.cells #[d0, .int .i64 b, .int .i64 m, sv, .int .i64 c, fv] 56 (0, 0))) :
    Calls Try.prog 124 #[.pointer (some ⟨g, 0, none⟩), .int .i64 s, .bool o] w fun e w' => e = .returned (.tuple #[.int .i64 (SR.many b s (SR.least b s o)), .int .i64 (SR.least b s o)]) ∧ Drawn0 w w' := by
  have hc1 : w.cell? ⟨g, 1, none⟩ = some (.int .i64 b) := (blk_cell hG 1).trans rfl
  have hf1 := blk_frozen hG 1
  clear hG
  obtain ⟨j1, h1⟩ : ∃ j : Int, mx (wrap64 (s - wrap64 (b - 1))) 0 = j := ⟨_, rfl⟩
  have h1_ : (if wrap64 (s - wrap64 (b - 1)) < 0 then 0 else wrap64 (s - wrap64 (b - 1))) = j1 := h1
  obtain ⟨j3, h3⟩ : ∃ j : Int, mn s (wrap64 (b - 1)) = j := ⟨_, rfl⟩
  have h3_ : (if wrap64 (b - 1) < s then wrap64 (b - 1) else s) = j3 := h3
  cases o with
  | true =>
    obtain ⟨j2, h2⟩ : ∃ j : Int, mx j1 1 = j := ⟨_, rfl⟩
    have h2_ : (if j1 < 1 then 1 else j1) = j2 := h2
    obtain ⟨j4, h4⟩ : ∃ j : Int, mx (wrap64 (wrap64 (j3 - j2) + 1)) 0 = j := ⟨_, rfl⟩
    have h4_ : (if wrap64 (wrap64 (j3 - j2) + 1) < 0 then 0 else wrap64 (wrap64 (j3 - j2) + 1)) = j4 := h4
    have HL : Aside0 (SR.least b s true = j2) := ⟨by unfold SR.least; rw [if_pos rfl, h1, h2]⟩
    have HN : Aside0 (SR.many b s j2 = j4) := ⟨by unfold SR.many; rw [h3, h4]⟩
    rw [HL.out, HN.out]
    clear h1 h2 h3 h4
    go_enter Try.func124, Try.ntmps124
    go_wp2
    go_ret2
    exact ⟨rfl, by repeat (first | exact Drawn0.refl _ | apply Drawn0.step)⟩
  | false =>
    obtain ⟨j4, h4⟩ : ∃ j : Int, mx (wrap64 (wrap64 (j3 - j1) + 1)) 0 = j := ⟨_, rfl⟩
    have h4_ : (if wrap64 (wrap64 (j3 - j1) + 1) < 0 then 0 else wrap64 (wrap64 (j3 - j1) + 1)) = j4 := h4
    have HL : Aside0 (SR.least b s false = j1) := ⟨by unfold SR.least; rw [if_neg (by decide), h1]⟩
    have HN : Aside0 (SR.many b s j1 = j4) := ⟨by unfold SR.many; rw [h3, h4]⟩
    rw [HL.out, HN.out]
    clear h1 h3 h4
    go_enter Try.func124, Try.ntmps124
    go_wp2
    go_ret2
    exact ⟨rfl, by repeat (first | exact Drawn0.refl _ | apply Drawn0.step)⟩

/-- what a source holds: the digits (the caller's), base, many, the sums (its own row), the count, the first one (none: [], nil) -/
def SR.St (w0 w : World) (g : Nat) (D : List Int) (b m : Int) (S : List Int) (c : Int) (F : List Int) : Prop :=
  ∃ (Ad : Option Addr) (cd : Nat) (sv fv : Value) (P : Nat → Prop), w.heap[g]? = some (.cells #[.slice Ad D.length cd, .int .i64 b, .int .i64 m, sv, .int .i64 c, fv] 56 (0, 0)) ∧ w0.heap.size ≤ g ∧ Below w0.heap.size w0 w ∧ Kd.C (Kd.int .i64) w0 Ad D.length D ∧ D.length ≤ cd ∧
    Kd.R (Kd.int .i64) 3 w w0.heap.size (fun k => P k ∧ k ≠ g) sv S ∧
    ((F = [] ∧ fv = .slice none 0 0) ∨ ((∃ ad cf, fv = .slice (some ad) F.length cf) ∧ F ≠ [] ∧ Kd.R (Kd.int .i64) 3 w w0.heap.size (fun k => ¬ P k ∧ k ≠ g) fv F))
theorem SR.St.below {w0 w w' : World} {g : Nat} {D : List Int} {b m : Int} {S : List Int} {c : Int} {F : List Int} (h : SR.St w0 w g D b m S c F) (hb : Below w.heap.size w w') : SR.St w0 w' g D b m S c F := by
  obtain ⟨Ad, cd, sv, fv, P, hG, hge, hB, hD, hcd, hS, hF⟩ := h
  refine ⟨Ad, cd, sv, fv, P, (hb.block g (blk_lt hG)).trans hG, hge, below_step hB hb, hD, hcd, Kd.R_below hS hb, ?_⟩
  rcases hF with h | ⟨h1, h2, h3⟩
  · exact .inl h
  · exact .inr ⟨h1, h2, Kd.R_below h3 hb⟩
theorem SR.put3 {w : World} {g : Nat} {a0 a1 a2 a3 a4 a5 : Value} (h : w.heap[g]? = some (.cells #[a0, a1, a2, a3, a4, a5] 56 (0, 0))) (u : Value) : (w.setCell ⟨g, 3, none⟩ u).heap[g]? = some (.cells #[a0, a1, a2, u, a4, a5] 56 (0, 0)) := (blk_set h 3 u).trans rfl
theorem SR.put4 {w : World} {g : Nat} {a0 a1 a2 a3 a4 a5 : Value} (h : w.heap[g]? = some (.cells #[a0, a1, a2, a3, a4, a5] 56 (0, 0))) (u : Value) : (w.setCell ⟨g, 4, none⟩ u).heap[g]? = some (.cells #[a0, a1, a2, a3, u, a5] 56 (0, 0)) := (blk_set h 4 u).trans rfl
theorem SR.put5 {w : World} {g : Nat} {a0 a1 a2 a3 a4 a5 : Value} (h : w.heap[g]? = some (.cells #[a0, a1, a2, a3, a4, a5] 56 (0, 0))) (u : Value) : (w.setCell ⟨g, 5, none⟩ u).heap[g]? = some (.cells #[a0, a1, a2, a3, a4, u] 56 (0, 0)) := (blk_set h 5 u).trans rfl

def SR.ck (b m : Int) (S : List Int) : Nat → Int → List Int → Int → Option (Option (List Int × Int))
  | 0, _, _, _ => none
  | k + 1, i, X, c => if i < (S.length : Int) then (if 0 ≤ i ∧ i < (X.length : Int) then (if SR.mid m i = true then (if Int.tmod (rd S i) 2 = 1 then some none else (if i = 0 ∧ rd S i = 0 then some none else SR.ck b m S k (wrap64 (i + 1)) (X.set i.toNat (wrap64 (Int.tdiv (rd S i) 2))) c)) else (if 0 ≤ wrap64 (wrap64 (m - 1) - i) ∧ wrap64 (wrap64 (m - 1) - i) < (X.length : Int) then SR.ck b m S k (wrap64 (i + 1)) ((X.set i.toNat (SR.least b (rd S i) (i == 0))).set (wrap64 (wrap64 (m - 1) - i)).toNat (wrap64 (rd S i - SR.least b (rd S i) (i == 0)))) (wrap64 (c * SR.many b (rd S i) (SR.least b (rd S i) (i == 0)))) else none)) else none) else some (some (X, c))
def SR.fin (k : Nat) (D : List Int) (b c : Int) (F X : List Int) (n : Int) : Option (Int × List Int) := if n = 0 then some (c, F) else ((impl_summed.f k X b).bind fun t => ((slices_Equal_int_int.f k t.1 D).bind fun e => (if e = true then (if F = [] then some (wrap64 (c + n), X) else ((slices_Compare_int_int.f k X F).bind fun q => (if q < 0 then some (wrap64 (c + n), X) else some (wrap64 (c + n), F)))) else some (c, F))))
def impl_source_check.f (k : Nat) (D : List Int) (b m : Int) (S : List Int) (c : Int) (F : List Int) : Option (Int × List Int) := if 1 ≤ m ∧ m ≤ 1000 then ((SR.ck b m S k 0 (List.replicate m.toNat 0) 1).bind fun o => match o with
  | none => some (c, F)
  | some (X, n) => SR.fin k D b c F X n) else none
theorem SR.mono_ck (b m : Int) (S : List Int) : ∀ k i X c, LeO (SR.ck b m S k i X c) (SR.ck b m S (k + 1) i X c)
  | 0, i, X, c => fun r h => by simp [SR.ck] at h
  | k + 1, i, X, c => by
    have ih := SR.mono_ck b m S k
    unfold SR.ck
    repeat' first
      | exact ih _ _ _
      | exact LeO.refl _
      | exact LeO.none _
      | refine LeO.ite ?_ ?_
theorem SR.mono_fin (k : Nat) (D : List Int) (b c : Int) (F X : List Int) (n : Int) : LeO (SR.fin k D b c F X n) (SR.fin (k + 1) D b c F X n) := by
  unfold SR.fin
  refine LeO.ite (LeO.refl _) (LeO.bind (impl_summed.mono _ _ _) (fun t => LeO.bind (slices_Equal_int_int.mono _ _ _) (fun e => LeO.ite (LeO.ite (LeO.refl _) (LeO.bind (slices_Compare_int_int.mono _ _ _) (fun q => LeO.refl _))) (LeO.refl _))))
theorem impl_source_check.mono (D : List Int) (b m : Int) (S : List Int) (c : Int) (F : List Int) (k : Nat) : LeO (impl_source_check.f k D b m S c F) (impl_source_check.f (k + 1) D b m S c F) := by
  unfold impl_source_check.f
  refine LeO.ite (LeO.bind (SR.mono_ck _ _ _ _ _ _ _) (fun o => ?_)) (LeO.none _)
  cases o with
  | none => exact LeO.refl _
  | some t => exact SR.mono_fin _ _ _ _ _ _ _
set_option maxHeartbeats 8000000 in
set_option maxRecDepth 100000 in
theorem impl_source_check.calls (k : Nat) (w0 w : World) (g : Nat) (D : List Int) (b m : Int) (S : List Int) (c : Int) (F : List Int) (c' : Int) (F' : List Int) (hI : SR.St w0 w g D b m S c F) (h : impl_source_check.f k D b m S c F = some (c', F')) :
    Calls Try.prog 106 #[.pointer (some ⟨g, 0, none⟩)] w fun e w' => e = .returned (.tuple #[]) ∧ SR.St w0 w' g D b m S c' F' := by
  have HI := Aside0.mk hI
  obtain ⟨Ad, cd, sv, fv, P, hG, hge, hB, hD, hcd, hS, hF⟩ := hI
  have HGL := Aside0.mk (blk_lt hG)
  have HG := Aside0.mk hG
  have HGE := Aside0.mk hge
  have HB0 := Aside0.mk hB
  have HD := Aside0.mk hD
  have HCD := Aside0.mk hcd
  obtain ⟨As, cs, es⟩ := Kd.R_slice hS
  subst es
  have HS : Aside0 (Kd.R (Kd.int .i64) 3 w w0.heap.size (fun k => (P k ∧ k < w.heap.size) ∧ k ≠ g) (.slice As S.length cs) S) := ⟨Kd.R_mono (Kd.R_bound hS) (fun j hj => ⟨⟨hj.1.1, hj.2.2.1⟩, hj.1.2⟩)⟩
  have HF : Aside0 ((F = [] ∧ fv = .slice none 0 0) ∨ ((∃ ad cf, fv = .slice (some ad) F.length cf) ∧ F ≠ [] ∧ Kd.R (Kd.int .i64) 3 w w0.heap.size (fun k => ¬ (P k ∧ k < w.heap.size) ∧ k ≠ g) fv F)) := ⟨hF.imp id (fun h => ⟨h.1, h.2.1, Kd.R_mono h.2.2 (fun j hj => ⟨fun h1 => hj.1 h1.1, hj.2⟩)⟩)⟩
  have HBW := Aside0.mk (Below.refl w.heap.size w)
  clear hge hB hD hcd hS hF
  unfold impl_source_check.f at h
  by_cases hm : 1 ≤ m ∧ m ≤ 1000
  · rw [if_pos hm] at h
    have HM := Aside0.mk hm
    obtain ⟨o9, ho9, h⟩ := Option.bind_eq_some_iff.mp h
    have HCK := Aside0.mk ho9
    have HFIN := Aside0.mk h
    clear hm ho9 h
    have hc2 : w.cell? ⟨g, 2, none⟩ = some (.int .i64 m) := (blk_cell hG 2).trans rfl
    clear hG
    go_enter Try.func106, Try.ntmps106
    go_wp2_with (first | ((with_reducible refine gate_dst (N := 14) rfl ?_); refine Kd.R_make (Kd.int .i64) _ 3 rfl (N := 14) rfl 25 _ _ rfl m rfl rfl Try.underlying25 (.int .i64 0) 8 info3 rfl (by decide) (by omega) 0 (ok := fun _ => True) (okp := fun _ => True) rfl (fun _ hk => hk) trivial (by have := HM.out; omega) (by have := HM.out; omega) (Below.refl _ _) (Nat.le_refl _) ?_; intro v14 w1 ho hb hg_ hnew_; clear hg_; obtain ⟨gx, cx, ex, gb, gl, _, _⟩ := Kd.R_form ho (by have := HM.out; simp; omega); rw [show (List.replicate m.toNat (0 : Int)).length = m.toNat from List.length_replicate] at ex; subst ex; have HX1 := Aside0.mk ho; have HB1 := Aside0.mk hb; have HGX := Aside0.mk gb; have hc3 : w1.cell? ⟨g, 3, none⟩ = some (.slice As S.length cs) := (blk_cell ((hb.block g HGL.out).trans HG.out) 3).trans rfl; clear ho hb hnew_ gb gl))
    go_loopg [3, 20] k (fun kq v3 v20 wr => ∃ (X : List Int) (n i : Int), v3 = .int .i64 n ∧ v20 = .int .i64 i ∧ Aside0 (SR.ck b m S kq i X n = some o9) ∧ Aside0 (kq ≤ k) ∧ Aside0 (X.length = m.toNat) ∧ Aside0 (Kd.R (Kd.int .i64) 3 wr w.heap.size (fun _ => True) (.slice (some ⟨gx, 0, none⟩) m.toNat cx) X) ∧ Aside0 (Below w.heap.size w wr))
    case atStart => exact ⟨_, 1, 0, rfl, rfl, HCK, ⟨Nat.le_refl _⟩, ⟨by simp⟩, HX1, HB1⟩
    case round =>
      clear HX1 HB1 HCK
      obtain ⟨X, n, i, rfl, rfl, HA, HK1, HXL, HX, HB⟩ := hrel
      obtain ⟨wo, rfl⟩ : ∃ x, x = wr := ⟨wr, rfl⟩
      cases gk with
      | zero => exact absurd HA.out (by simp [SR.ck])
      | succ k1 =>
        have H := HA.out
        clear HA
        simp only [SR.ck] at H
        by_cases q1 : i < (S.length : Int)
        · rw [if_pos q1] at H
          have q1b : decide (i < (S.length : Int)) = true := decide_eq_true q1
          by_cases q2 : 0 ≤ i ∧ i < (X.length : Int)
          · rw [if_pos q2] at H
            have hil : i < ((m.toNat : Nat) : Int) := by have := HXL.out; omega
            obtain ⟨ad, ea, hx⟩ := Kd.at_int (Kd.C_below ((Kd.R_reads' HS.out).2.2) HB.out) i q2.1 q1
            subst ea
            have p1 : (0 ≤ i) = True := eq_true q2.1
            have p2 : (i < (S.length : Int)) = True := eq_true q1
            have p3 : (i < ((m.toNat : Nat) : Int)) = True := eq_true hil
            have hi0 : 0 ≤ i := q2.1
            have hG3 : wo.heap[g]? = some (.cells #[.slice Ad D.length cd, .int .i64 b, .int .i64 m, .slice (some ad) S.length cs, .int .i64 c, fv] 56 (0, 0)) := (HB.out.block g HGL.out).trans HG.out
            by_cases q3 : SR.mid m i = true
            · rw [if_pos q3] at H
              have t_ := SR.middle i hG3
              rw [q3] at t_
              have HMID := Aside0.mk t_
              clear t_ hG3 q1 q2 q3
              obtain ⟨r5, hr5⟩ : ∃ j, Int.tmod (rd S i) 2 = j := ⟨_, rfl⟩
              rw [hr5] at H
              by_cases q5 : r5 = 1
              · rw [if_pos q5] at H
                obtain rfl := Option.some.inj H
                have HEND := Aside0.mk (Prod.mk.inj (Option.some.inj HFIN.out))
                have q5b : (r5 == 1) = true := by simp [q5]
                have q5p : (r5 = 1) = True := eq_true q5
                clear H q5
                go_wp2_with (first | (go_at_call 123; (with_reducible refine HMID.out.mono ?_); rintro e w4 ⟨rfl, ⟨nd, hw4⟩⟩; have hb_ : Below wo.heap.size wo w4 := (by rw [hw4]; exact pw_below_drewN (Below.refl _ _) nd); have HX4 := Aside0.mk (Kd.R_below HX.out hb_); have HB4 := Aside0.mk (below_step HB.out hb_); have hG4 := (HB4.out.block g HGL.out).trans HG.out; have hxc_ := Kd.R_celln 0 HX4.out i hi0 hil; obtain ⟨hcx, hfx⟩ := hxc_;  clear hw4 hb_) | ((with_reducible refine gate_store (t := 3) (p := 32) rfl ?_); refine store_event (t := 3) (p := 32) (v := ?vo_w5) (w1 := (w4.setCell ⟨gx, (i : Int).toNat, none⟩ (.int .i64 (wrap64 (Int.tdiv (rd S i) 2))))) ?hg ?ho ?hn ?hr ?_; (case ho => rfl); (case hg => rfl); (case hn => rfl); (case hr => first | (go_simp; done) | (go_simp; rfl)); intro w5 hw; have hp_ : Kd.R (Kd.int .i64) 3 w5 w.heap.size (fun _ => True) (.slice (some ⟨gx, 0, none⟩) m.toNat cx) (X.set i.toNat (wrap64 (Int.tdiv (rd S i) 2))) := (by rw [hw]; exact (Kd.R_putg HX4.out (i) (wrap64 (Int.tdiv (rd S i) 2))).1); have hb5_ : Below w.heap.size w w5 := (by rw [hw]; exact below_set HB4.out HGX.out); have HX5 := Aside0.mk hp_; have HB5 := Aside0.mk hb5_; clear hw hp_ hb5_))
                refine bodyPost_ret (results_none rfl _ _ _) rfl ?_
                obtain ⟨h1, h2⟩ := HEND.out
                exact ⟨rfl, by rw [← h1, ← h2]; exact SR.St.below HI.out HB5.out⟩
              · rw [if_neg q5] at H
                have q5b : (r5 == 1) = false := by simp [q5]
                have q5p : (r5 = 1) = False := eq_false q5
                by_cases q6 : i = 0 ∧ rd S i = 0
                · rw [if_pos q6] at H
                  obtain rfl := Option.some.inj H
                  have HEND := Aside0.mk (Prod.mk.inj (Option.some.inj HFIN.out))
                  obtain ⟨q6a, q6c⟩ := q6
                  have q7 : (i == 0) = true := by simp [q6a]
                  have q7p : (i = 0) = True := eq_true q6a
                  have q8 : (rd S i == 0) = true := by simp [q6c]
                  clear H q5 q6a q6c
                  go_wp2_with (first | (go_at_call 123; (with_reducible refine HMID.out.mono ?_); rintro e w4 ⟨rfl, ⟨nd, hw4⟩⟩; have hb_ : Below wo.heap.size wo w4 := (by rw [hw4]; exact pw_below_drewN (Below.refl _ _) nd); have HX4 := Aside0.mk (Kd.R_below HX.out hb_); have HB4 := Aside0.mk (below_step HB.out hb_); have hG4 := (HB4.out.block g HGL.out).trans HG.out; have hxc_ := Kd.R_celln 0 HX4.out i hi0 hil; obtain ⟨hcx, hfx⟩ := hxc_;  clear hw4 hb_) | ((with_reducible refine gate_store (t := 3) (p := 32) rfl ?_); refine store_event (t := 3) (p := 32) (v := ?vo_w5) (w1 := (w4.setCell ⟨gx, (i : Int).toNat, none⟩ (.int .i64 (wrap64 (Int.tdiv (rd S i) 2))))) ?hg ?ho ?hn ?hr ?_; (case ho => rfl); (case hg => rfl); (case hn => rfl); (case hr => first | (go_simp; done) | (go_simp; rfl)); intro w5 hw; have hp_ : Kd.R (Kd.int .i64) 3 w5 w.heap.size (fun _ => True) (.slice (some ⟨gx, 0, none⟩) m.toNat cx) (X.set i.toNat (wrap64 (Int.tdiv (rd S i) 2))) := (by rw [hw]; exact (Kd.R_putg HX4.out (i) (wrap64 (Int.tdiv (rd S i) 2))).1); have hb5_ : Below w.heap.size w w5 := (by rw [hw]; exact below_set HB4.out HGX.out); have HX5 := Aside0.mk hp_; have HB5 := Aside0.mk hb5_; clear hw hp_ hb5_))
                  refine bodyPost_ret (results_none rfl _ _ _) rfl ?_
                  obtain ⟨h1, h2⟩ := HEND.out
                  exact ⟨rfl, by rw [← h1, ← h2]; exact SR.St.below HI.out HB5.out⟩
                · rw [if_neg q6] at H
                  have HN := Aside0.mk H
                  by_cases q9 : i = 0
                  · have q7 : (i == 0) = true := by simp [q9]
                    have q7p : (i = 0) = True := eq_true q9
                    have q8 : (rd S i == 0) = false := by simpa using fun h => q6 ⟨q9, h⟩
                    clear H q5 q6 q9
                    go_wp2_with (first | (go_at_call 123; (with_reducible refine HMID.out.mono ?_); rintro e w4 ⟨rfl, ⟨nd, hw4⟩⟩; have hb_ : Below wo.heap.size wo w4 := (by rw [hw4]; exact pw_below_drewN (Below.refl _ _) nd); have HX4 := Aside0.mk (Kd.R_below HX.out hb_); have HB4 := Aside0.mk (below_step HB.out hb_); have hG4 := (HB4.out.block g HGL.out).trans HG.out; have hxc_ := Kd.R_celln 0 HX4.out i hi0 hil; obtain ⟨hcx, hfx⟩ := hxc_;  clear hw4 hb_) | ((with_reducible refine gate_store (t := 3) (p := 32) rfl ?_); refine store_event (t := 3) (p := 32) (v := ?vo_w5) (w1 := (w4.setCell ⟨gx, (i : Int).toNat, none⟩ (.int .i64 (wrap64 (Int.tdiv (rd S i) 2))))) ?hg ?ho ?hn ?hr ?_; (case ho => rfl); (case hg => rfl); (case hn => rfl); (case hr => first | (go_simp; done) | (go_simp; rfl)); intro w5 hw; have hp_ : Kd.R (Kd.int .i64) 3 w5 w.heap.size (fun _ => True) (.slice (some ⟨gx, 0, none⟩) m.toNat cx) (X.set i.toNat (wrap64 (Int.tdiv (rd S i) 2))) := (by rw [hw]; exact (Kd.R_putg HX4.out (i) (wrap64 (Int.tdiv (rd S i) 2))).1); have hb5_ : Below w.heap.size w w5 := (by rw [hw]; exact below_set HB4.out HGX.out); have HX5 := Aside0.mk hp_; have HB5 := Aside0.mk hb5_; clear hw hp_ hb5_))
                    go_roundg k1
                    case measure => omega
                    case rel => exact ⟨_, _, _, rfl, rfl, HN, ⟨by have := HK1.out; omega⟩, ⟨by rw [List.length_set]; exact HXL.out⟩, HX5, HB5⟩
                  · have q7 : (i == 0) = false := by simp [q9]
                    have q7p : (i = 0) = False := eq_false q9
                    clear H q5 q6 q9
                    go_wp2_with (first | (go_at_call 123; (with_reducible refine HMID.out.mono ?_); rintro e w4 ⟨rfl, ⟨nd, hw4⟩⟩; have hb_ : Below wo.heap.size wo w4 := (by rw [hw4]; exact pw_below_drewN (Below.refl _ _) nd); have HX4 := Aside0.mk (Kd.R_below HX.out hb_); have HB4 := Aside0.mk (below_step HB.out hb_); have hG4 := (HB4.out.block g HGL.out).trans HG.out; have hxc_ := Kd.R_celln 0 HX4.out i hi0 hil; obtain ⟨hcx, hfx⟩ := hxc_;  clear hw4 hb_) | ((with_reducible refine gate_store (t := 3) (p := 32) rfl ?_); refine store_event (t := 3) (p := 32) (v := ?vo_w5) (w1 := (w4.setCell ⟨gx, (i : Int).toNat, none⟩ (.int .i64 (wrap64 (Int.tdiv (rd S i) 2))))) ?hg ?ho ?hn ?hr ?_; (case ho => rfl); (case hg => rfl); (case hn => rfl); (case hr => first | (go_simp; done) | (go_simp; rfl)); intro w5 hw; have hp_ : Kd.R (Kd.int .i64) 3 w5 w.heap.size (fun _ => True) (.slice (some ⟨gx, 0, none⟩) m.toNat cx) (X.set i.toNat (wrap64 (Int.tdiv (rd S i) 2))) := (by rw [hw]; exact (Kd.R_putg HX4.out (i) (wrap64 (Int.tdiv (rd S i) 2))).1); have hb5_ : Below w.heap.size w w5 := (by rw [hw]; exact below_set HB4.out HGX.out); have HX5 := Aside0.mk hp_; have HB5 := Aside0.mk hb5_; clear hw hp_ hb5_))
                    go_roundg k1
                    case measure => omega
                    case rel => exact ⟨_, _, _, rfl, rfl, HN, ⟨by have := HK1.out; omega⟩, ⟨by rw [List.length_set]; exact HXL.out⟩, HX5, HB5⟩
            · rw [if_neg q3] at H
              have q3f : SR.mid m i = false := by simpa using q3
              have t_ := SR.middle i hG3
              rw [q3f] at t_
              have HMID := Aside0.mk t_
              by_cases q4 : 0 ≤ wrap64 (wrap64 (m - 1) - i) ∧ wrap64 (wrap64 (m - 1) - i) < (X.length : Int)
              · rw [if_pos q4] at H
                have HWY : Aside0 (∀ w5 : World, w5.heap[g]? = some (.cells #[.slice Ad D.length cd, .int .i64 b, .int .i64 m, .slice (some ad) S.length cs, .int .i64 c, fv] 56 (0, 0)) → Calls Try.prog 124 #[.pointer (some ⟨g, 0, none⟩), .int .i64 (rd S i), .bool (i == 0)] w5 fun e w' => e = .returned (.tuple #[.int .i64 (SR.many b (rd S i) (SR.least b (rd S i) (i == 0))), .int .i64 (SR.least b (rd S i) (i == 0))]) ∧ Drawn0 w5 w') := ⟨fun w5 h5 => SR.ways (rd S i) (i == 0) h5⟩
                obtain ⟨l5, hl5⟩ : ∃ j, SR.least b (rd S i) (i == 0) = j := ⟨_, rfl⟩
                rw [hl5] at H HWY
                obtain ⟨n5, hn5⟩ : ∃ j, SR.many b (rd S i) l5 = j := ⟨_, rfl⟩
                rw [hn5] at H HWY
                obtain ⟨j5, hj5⟩ : ∃ j, wrap64 (wrap64 (m - 1) - i) = j := ⟨_, rfl⟩
                rw [hj5] at H q4
                have hj0 : 0 ≤ j5 := q4.1
                have hjl : j5 < ((m.toNat : Nat) : Int) := by have := HXL.out; omega
                have HN := Aside0.mk H
                have p4 : (0 ≤ j5) = True := eq_true hj0
                have p5 : (j5 < ((m.toNat : Nat) : Int)) = True := eq_true hjl
                clear t_ hG3 q1 q2 q3 q3f q4 H
                go_wp2_with (first | (go_at_call 123; (with_reducible refine HMID.out.mono ?_); rintro e w4 ⟨rfl, ⟨nd, hw4⟩⟩; have hb_ : Below wo.heap.size wo w4 := (by rw [hw4]; exact pw_below_drewN (Below.refl _ _) nd); have HX4 := Aside0.mk (Kd.R_below HX.out hb_); have HB4 := Aside0.mk (below_step HB.out hb_); have hG4 := (HB4.out.block g HGL.out).trans HG.out; have HG4 := Aside0.mk hG4; clear hG4;  clear hw4 hb_) | (go_at_call 124; (with_reducible refine (HWY.out _ HG4.out).mono ?_); rintro e w5 ⟨rfl, ⟨nd, hw5⟩⟩; have hb_ : Below w4.heap.size w4 w5 := (by rw [hw5]; exact pw_below_drewN (Below.refl _ _) nd); have HX5 := Aside0.mk (Kd.R_below HX4.out hb_); have HB5 := Aside0.mk (below_step HB4.out hb_); have hG5 := (HB5.out.block g HGL.out).trans HG.out; have hc5 : w5.cell? ⟨g, 2, none⟩ = some (.int .i64 m) := (blk_cell hG5 2).trans rfl; have hf5 := blk_frozen hG5 2; have hxc_ := Kd.R_celln 0 HX5.out i hi0 hil; obtain ⟨hcx, hfx⟩ := hxc_; clear hG5 hw5 hb_) | ((with_reducible refine gate_store (t := 3) (p := 69) rfl ?_); refine store_event (t := 3) (p := 69) (v := ?vo_w6) (w1 := (w5.setCell ⟨gx, (i : Int).toNat, none⟩ (.int .i64 (l5)))) ?hg ?ho ?hn ?hr ?_; (case ho => rfl); (case hg => rfl); (case hn => rfl); (case hr => first | (go_simp; done) | (go_simp; rfl)); intro w6 hw; have hp_ : Kd.R (Kd.int .i64) 3 w6 w.heap.size (fun _ => True) (.slice (some ⟨gx, 0, none⟩) m.toNat cx) (X.set i.toNat l5) := (by rw [hw]; exact (Kd.R_putg HX5.out (i) (l5)).1); have hb5_ : Below w.heap.size w w6 := (by rw [hw]; exact below_set HB5.out HGX.out); have HX6 := Aside0.mk hp_; have HB6 := Aside0.mk hb5_; have hxc_ := Kd.R_celln 0 HX6.out j5 hj0 hjl; obtain ⟨hcx6, hfx6⟩ := hxc_; clear hw hp_ hb5_) | ((with_reducible refine gate_store (t := 3) (p := 70) rfl ?_); refine store_event (t := 3) (p := 70) (v := ?vo_w7) (w1 := (w6.setCell ⟨gx, (j5 : Int).toNat, none⟩ (.int .i64 (wrap64 (rd S i - l5))))) ?hg ?ho ?hn ?hr ?_; (case ho => rfl); (case hg => rfl); (case hn => rfl); (case hr => first | (go_simp; done) | (go_simp; rfl)); intro w7 hw; have hp_ : Kd.R (Kd.int .i64) 3 w7 w.heap.size (fun _ => True) (.slice (some ⟨gx, 0, none⟩) m.toNat cx) ((X.set i.toNat l5).set j5.toNat (wrap64 (rd S i - l5))) := (by rw [hw]; exact (Kd.R_putg HX6.out (j5) (wrap64 (rd S i - l5))).1); have hb5_ : Below w.heap.size w w7 := (by rw [hw]; exact below_set HB6.out HGX.out); have HX7 := Aside0.mk hp_; have HB7 := Aside0.mk hb5_; clear hw hp_ hb5_))
                go_roundg k1
                case measure => omega
                case rel => exact ⟨_, _, _, rfl, rfl, HN, ⟨by have := HK1.out; omega⟩, ⟨by rw [List.length_set, List.length_set]; exact HXL.out⟩, HX7, HB7⟩
              · rw [if_neg q4] at H
                cases H
          · rw [if_neg q2] at H
            cases H
        · rw [if_neg q1] at H
          have q1b : decide (i < (S.length : Int)) = false := decide_eq_false q1
          obtain rfl := Option.some.inj H
          have HF2 := HFIN.out
          simp only [SR.fin] at HF2
          clear H q1 HFIN
          rw [← HXL.out]
          have HXC : Aside0 (X.length ≤ cx) := ⟨by have h1 := (Kd.R_reads' HX.out).2.1; rw [HXL.out]; exact h1⟩
          have HXK : Aside0 (Kd.C (Kd.int .i64) wo (some ⟨gx, 0, none⟩) X.length X) := ⟨(Kd.R_reads' HX.out).2.2⟩
          have hG_ := (HB.out.block g HGL.out).trans HG.out
          have hc1 : wo.cell? ⟨g, 1, none⟩ = some (.int .i64 b) := (blk_cell hG_ 1).trans rfl
          have hf1 := blk_frozen hG_ 1
          clear hG_
          by_cases q3 : n = 0
          · rw [if_pos q3] at HF2
            have HEND := Aside0.mk (Prod.mk.inj (Option.some.inj HF2))
            have q3b : (n == 0) = true := by simp [q3]
            clear HF2 q3
            go_wp2
            refine bodyPost_ret (results_none rfl _ _ _) rfl ?_
            obtain ⟨h1, h2⟩ := HEND.out
            exact ⟨rfl, by rw [← h1, ← h2]; exact SR.St.below HI.out HB.out⟩
          · rw [if_neg q3] at HF2
            have q3b : (n == 0) = false := by simp [q3]
            obtain ⟨⟨t1, t2⟩, hs, HF2⟩ := Option.bind_eq_some_iff.mp HF2
            obtain ⟨e9, he, HF2⟩ := Option.bind_eq_some_iff.mp HF2
            have HSU := Aside0.mk hs
            have HEQ := Aside0.mk he
            clear hs he q3
            cases e9 with
            | false =>
              have HEND := Aside0.mk (Prod.mk.inj (Option.some.inj HF2))
              clear HF2
              go_wp2_with (first | (go_at_call 58; (with_reducible refine (impl_summed.calls k _ cx X b t1 t2 _ HXK.out HXC.out HSU.out).mono ?_); rintro e w5 ⟨v0_, v1_, rfl, ho1, ho2, hb⟩; obtain ⟨A1, c1, e1⟩ := Kd.R_slice ho1; subst e1; have HM5 := Aside0.mk ((Kd.R_reads' ho1).2.2); have HMC := Aside0.mk ((Kd.R_reads' ho1).2.1); have HX5 := Aside0.mk (Kd.R_below HX.out hb); have HB5 := Aside0.mk (below_step HB.out hb); have hG5 := (HB5.out.block g HGL.out).trans HG.out; have hc0 : w5.cell? ⟨g, 0, none⟩ = some (.slice Ad D.length cd) := (blk_cell hG5 0).trans rfl; have hf0 := blk_frozen hG5 0; have HD5 := Aside0.mk (Kd.C_below HD.out (below_step HB0.out HB5.out)); clear hG5 ho1 ho2 hb) | (go_at_call 86; (with_reducible refine (slices_Equal_int_int.calls k A1 c1 t1 Ad cd D _ _ HM5.out HMC.out HD5.out HCD.out HEQ.out).mono ?_); rintro e w6 ⟨rfl, ⟨nd, hw6⟩⟩; have hb_ : Below w5.heap.size w5 w6 := (by rw [hw6]; exact pw_below_drewN (Below.refl _ _) nd); have HX6 := Aside0.mk (Kd.R_mono (Kd.R_bound (Kd.R_below HX5.out hb_)) (ok' := fun j => w.heap.size ≤ j) (fun j hj => hj.2.1)); have HB6 := Aside0.mk (below_step HB5.out hb_); have hG6 := (HB6.out.block g HGL.out).trans HG.out; have HG6 := Aside0.mk hG6; have hc6 : w6.cell? ⟨g, 4, none⟩ = some (.int .i64 c) := (blk_cell hG6 4).trans rfl; have hf6 := blk_frozen hG6 4; clear hG6 hw6 hb_))
              refine bodyPost_ret (results_none rfl _ _ _) rfl ?_
              obtain ⟨h1, h2⟩ := HEND.out
              exact ⟨rfl, by rw [← h1, ← h2]; exact SR.St.below HI.out HB6.out⟩
            | true =>
              rw [if_pos rfl] at HF2
              rcases HF.out with ⟨hF0, rfl⟩ | ⟨⟨af, cf, rfl⟩, hFn, hFR⟩
              · rw [if_pos hF0] at HF2
                have HEND := Aside0.mk (Prod.mk.inj (Option.some.inj HF2))
                clear HF2 hF0 HF
                have hqn : ∀ W : World, (binOp .eql 25 (.slice none 0 0) (.slice none 0 0)).run Try.prog W = .ok (.bool true) W := fun W => Lib.run_eql_slice_nil (P := Try.prog) W 25 3 none 0 0 0 0 Try.underlying25
                go_wp2_with (first | (go_at_call 58; (with_reducible refine (impl_summed.calls k _ cx X b t1 t2 _ HXK.out HXC.out HSU.out).mono ?_); rintro e w5 ⟨v0_, v1_, rfl, ho1, ho2, hb⟩; obtain ⟨A1, c1, e1⟩ := Kd.R_slice ho1; subst e1; have HM5 := Aside0.mk ((Kd.R_reads' ho1).2.2); have HMC := Aside0.mk ((Kd.R_reads' ho1).2.1); have HX5 := Aside0.mk (Kd.R_below HX.out hb); have HB5 := Aside0.mk (below_step HB.out hb); have hG5 := (HB5.out.block g HGL.out).trans HG.out; have hc0 : w5.cell? ⟨g, 0, none⟩ = some (.slice Ad D.length cd) := (blk_cell hG5 0).trans rfl; have hf0 := blk_frozen hG5 0; have HD5 := Aside0.mk (Kd.C_below HD.out (below_step HB0.out HB5.out)); clear hG5 ho1 ho2 hb) | (go_at_call 86; (with_reducible refine (slices_Equal_int_int.calls k A1 c1 t1 Ad cd D _ _ HM5.out HMC.out HD5.out HCD.out HEQ.out).mono ?_); rintro e w6 ⟨rfl, ⟨nd, hw6⟩⟩; have hb_ : Below w5.heap.size w5 w6 := (by rw [hw6]; exact pw_below_drewN (Below.refl _ _) nd); have HX6 := Aside0.mk (Kd.R_mono (Kd.R_bound (Kd.R_below HX5.out hb_)) (ok' := fun j => w.heap.size ≤ j) (fun j hj => hj.2.1)); have HB6 := Aside0.mk (below_step HB5.out hb_); have hG6 := (HB6.out.block g HGL.out).trans HG.out; have HG6 := Aside0.mk hG6; have hc6 : w6.cell? ⟨g, 4, none⟩ = some (.int .i64 c) := (blk_cell hG6 4).trans rfl; have hf6 := blk_frozen hG6 4; clear hG6 hw6 hb_) | ((with_reducible refine gate_store (t := 3) (p := 97) rfl ?_); refine store_event (t := 3) (p := 97) (v := ?vp_w7) (w1 := (w6.setCell ⟨g, 4, none⟩ (.int .i64 (wrap64 (c + n))))) ?hg ?ho ?hn ?hr ?_; (case ho => rfl); (case hg => rfl); (case hn => rfl); (case hr => first | (go_simp; done) | (go_simp; rfl)); intro w7 hw; have hGn_ := SR.put4 HG6.out (.int .i64 (wrap64 (c + n))); rw [← hw] at hGn_; have HB7 : Aside0 (Below w0.heap.size w0 w7) := ⟨(by rw [hw]; exact below_set (below_step HB0.out HB6.out) HGE.out)⟩; have HS7 := Aside0.mk (Kd.R_far (Kd.R_below HS.out HB6.out) (p := ⟨g, 4, none⟩) (fun j hj => hj.2) (.int .i64 (wrap64 (c + n)))); rw [← hw] at HS7; have HX7 := Aside0.mk (Kd.R_far HX6.out (p := ⟨g, 4, none⟩) (fun j hj => by have h1 := HGL.out; exact fun e => by simp only [e] at hj; omega) (.int .i64 (wrap64 (c + n)))); rw [← hw] at HX7; have hc7 := blk_cell hGn_ 5; have hf7 := blk_frozen hGn_ 5; (try simp only [List.getElem?_toArray, List.getElem?_cons_succ, List.getElem?_cons_zero] at hc7); have HG7 := Aside0.mk hGn_; clear hw hGn_) | ((with_reducible refine gate_store (t := 25) (p := 115) rfl ?_); refine store_event (t := 25) (p := 115) (v := ?vp_w9) (w1 := (w7.setCell ⟨g, 5, none⟩ (.slice (some ⟨gx, 0, none⟩) X.length cx))) ?hg ?ho ?hn ?hr ?_; (case ho => rfl); (case hg => rfl); (case hn => rfl); (case hr => first | (go_simp; done) | (go_simp; rfl)); intro w9 hw; have hGn_ := SR.put5 HG7.out (.slice (some ⟨gx, 0, none⟩) X.length cx); rw [← hw] at hGn_; have HB9 : Aside0 (Below w0.heap.size w0 w9) := ⟨(by rw [hw]; exact below_set HB7.out HGE.out)⟩; have HS9 := Aside0.mk (Kd.R_far HS7.out (p := ⟨g, 5, none⟩) (fun j hj => hj.2) (.slice (some ⟨gx, 0, none⟩) X.length cx)); rw [← hw] at HS9; have HX9 := Aside0.mk (Kd.R_far HX7.out (p := ⟨g, 5, none⟩) (fun j hj => by have h1 := HGL.out; exact fun e => by simp only [e] at hj; omega) (.slice (some ⟨gx, 0, none⟩) X.length cx)); rw [← hw] at HX9; have HG9 := Aside0.mk hGn_; clear hw hGn_))
                go_end0
                obtain ⟨h1, h2⟩ := HEND.out
                refine ⟨rfl, ?_⟩
                rw [← h1, ← h2]
                exact ⟨_, _, _, _, _, HG9.out, HGE.out, HB9.out, HD.out, HCD.out, HS9.out, .inr ⟨⟨_, _, rfl⟩, (by intro h0; have h1 := HXL.out; rw [h0] at h1; have h2 := HM.out; simp at h1; omega), Kd.R_mono (Kd.R_lower (show Kd.R (Kd.int .i64) 3 w9 w.heap.size (fun j => w.heap.size ≤ j) (.slice (some ⟨gx, 0, none⟩) X.length cx) X from by have h := HX9.out; rw [← HXL.out] at h; exact h) (Nat.le_of_lt (Nat.lt_of_le_of_lt HGE.out HGL.out))) (fun j hj => ⟨fun h1 => absurd h1.2 (Nat.not_lt.mpr hj), fun e => by have h1 := HGL.out; simp only [e] at hj; omega⟩)⟩⟩
              · rw [if_neg hFn] at HF2
                obtain ⟨q9, hq, HF2⟩ := Option.bind_eq_some_iff.mp HF2
                have HCP := Aside0.mk hq
                have HFN := Aside0.mk hFn
                have HFR := Aside0.mk hFR
                clear hq hFn hFR HF
                have hqn : ∀ W : World, (binOp .eql 25 (.slice (some af) F.length cf) (.slice none 0 0)).run Try.prog W = .ok (.bool false) W := fun W => Lib.run_eql_slice_nil (P := Try.prog) W 25 3 (some af) F.length cf 0 0 Try.underlying25
                by_cases q4 : q9 < 0
                · rw [if_pos q4] at HF2
                  have HEND := Aside0.mk (Prod.mk.inj (Option.some.inj HF2))
                  have q4b : decide (q9 < 0) = true := decide_eq_true q4
                  clear HF2 q4
                  go_wp2_with (first | (go_at_call 58; (with_reducible refine (impl_summed.calls k _ cx X b t1 t2 _ HXK.out HXC.out HSU.out).mono ?_); rintro e w5 ⟨v0_, v1_, rfl, ho1, ho2, hb⟩; obtain ⟨A1, c1, e1⟩ := Kd.R_slice ho1; subst e1; have HM5 := Aside0.mk ((Kd.R_reads' ho1).2.2); have HMC := Aside0.mk ((Kd.R_reads' ho1).2.1); have HX5 := Aside0.mk (Kd.R_below HX.out hb); have HB5 := Aside0.mk (below_step HB.out hb); have hG5 := (HB5.out.block g HGL.out).trans HG.out; have hc0 : w5.cell? ⟨g, 0, none⟩ = some (.slice Ad D.length cd) := (blk_cell hG5 0).trans rfl; have hf0 := blk_frozen hG5 0; have HD5 := Aside0.mk (Kd.C_below HD.out (below_step HB0.out HB5.out)); clear hG5 ho1 ho2 hb) | (go_at_call 86; (with_reducible refine (slices_Equal_int_int.calls k A1 c1 t1 Ad cd D _ _ HM5.out HMC.out HD5.out HCD.out HEQ.out).mono ?_); rintro e w6 ⟨rfl, ⟨nd, hw6⟩⟩; have hb_ : Below w5.heap.size w5 w6 := (by rw [hw6]; exact pw_below_drewN (Below.refl _ _) nd); have HX6 := Aside0.mk (Kd.R_mono (Kd.R_bound (Kd.R_below HX5.out hb_)) (ok' := fun j => w.heap.size ≤ j) (fun j hj => hj.2.1)); have HB6 := Aside0.mk (below_step HB5.out hb_); have hG6 := (HB6.out.block g HGL.out).trans HG.out; have HG6 := Aside0.mk hG6; have hc6 : w6.cell? ⟨g, 4, none⟩ = some (.int .i64 c) := (blk_cell hG6 4).trans rfl; have hf6 := blk_frozen hG6 4; clear hG6 hw6 hb_) | ((with_reducible refine gate_store (t := 3) (p := 97) rfl ?_); refine store_event (t := 3) (p := 97) (v := ?vp_w7) (w1 := (w6.setCell ⟨g, 4, none⟩ (.int .i64 (wrap64 (c + n))))) ?hg ?ho ?hn ?hr ?_; (case ho => rfl); (case hg => rfl); (case hn => rfl); (case hr => first | (go_simp; done) | (go_simp; rfl)); intro w7 hw; have hGn_ := SR.put4 HG6.out (.int .i64 (wrap64 (c + n))); rw [← hw] at hGn_; have HB7 : Aside0 (Below w0.heap.size w0 w7) := ⟨(by rw [hw]; exact below_set (below_step HB0.out HB6.out) HGE.out)⟩; have HS7 := Aside0.mk (Kd.R_far (Kd.R_below HS.out HB6.out) (p := ⟨g, 4, none⟩) (fun j hj => hj.2) (.int .i64 (wrap64 (c + n)))); rw [← hw] at HS7; have HX7 := Aside0.mk (Kd.R_far HX6.out (p := ⟨g, 4, none⟩) (fun j hj => by have h1 := HGL.out; exact fun e => by simp only [e] at hj; omega) (.int .i64 (wrap64 (c + n)))); rw [← hw] at HX7; have hc7 := blk_cell hGn_ 5; have hf7 := blk_frozen hGn_ 5; (try simp only [List.getElem?_toArray, List.getElem?_cons_succ, List.getElem?_cons_zero] at hc7); have HFR7 := Aside0.mk (Kd.R_far (Kd.R_below HFR.out HB6.out) (p := ⟨g, 4, none⟩) (fun j hj => hj.2) (.int .i64 (wrap64 (c + n)))); rw [← hw] at HFR7; have HFC7 := Aside0.mk ((Kd.R_reads' HFR7.out).2.2); have HFL7 := Aside0.mk ((Kd.R_reads' HFR7.out).2.1); have HXC7 := Aside0.mk ((Kd.R_reads' HX7.out).2.2); have HG7 := Aside0.mk hGn_; clear hw hGn_) | (go_at_call 75; (with_reducible refine (slices_Compare_int_int.calls k _ cx X af cf F _ _ HXC7.out HXC.out HFC7.out HFL7.out HCP.out).mono ?_); rintro e w8 ⟨rfl, ⟨nd, hw8⟩⟩; have hb_ : Below w7.heap.size w7 w8 := (by rw [hw8]; exact pw_below_drewN (Below.refl _ _) nd); have HX8 := Aside0.mk (Kd.R_below HX7.out hb_); have HS8 := Aside0.mk (Kd.R_below HS7.out hb_); have HFR8 := Aside0.mk (Kd.R_below HFR7.out hb_); have HB8 := Aside0.mk (below_step HB7.out hb_); have hG8 := (hb_.block g (blk_lt HG7.out)).trans HG7.out; have hc8 := blk_cell hG8 5; have hf8 := blk_frozen hG8 5; (try simp only [List.getElem?_toArray, List.getElem?_cons_succ, List.getElem?_cons_zero] at hc8); have HG8 := Aside0.mk hG8; clear hG8 hw8 hb_) | ((with_reducible refine gate_store (t := 25) (p := 115) rfl ?_); refine store_event (t := 25) (p := 115) (v := ?vp_w9) (w1 := (w8.setCell ⟨g, 5, none⟩ (.slice (some ⟨gx, 0, none⟩) X.length cx))) ?hg ?ho ?hn ?hr ?_; (case ho => rfl); (case hg => rfl); (case hn => rfl); (case hr => first | (go_simp; done) | (go_simp; rfl)); intro w9 hw; have hGn_ := SR.put5 HG8.out (.slice (some ⟨gx, 0, none⟩) X.length cx); rw [← hw] at hGn_; have HB9 : Aside0 (Below w0.heap.size w0 w9) := ⟨(by rw [hw]; exact below_set HB8.out HGE.out)⟩; have HS9 := Aside0.mk (Kd.R_far HS8.out (p := ⟨g, 5, none⟩) (fun j hj => hj.2) (.slice (some ⟨gx, 0, none⟩) X.length cx)); rw [← hw] at HS9; have HX9 := Aside0.mk (Kd.R_far HX8.out (p := ⟨g, 5, none⟩) (fun j hj => by have h1 := HGL.out; exact fun e => by simp only [e] at hj; omega) (.slice (some ⟨gx, 0, none⟩) X.length cx)); rw [← hw] at HX9; have HG9 := Aside0.mk hGn_; clear hw hGn_))
                  go_end0
                  obtain ⟨h1, h2⟩ := HEND.out
                  refine ⟨rfl, ?_⟩
                  rw [← h1, ← h2]
                  exact ⟨_, _, _, _, _, HG9.out, HGE.out, HB9.out, HD.out, HCD.out, HS9.out, .inr ⟨⟨_, _, rfl⟩, (by intro h0; have h1 := HXL.out; rw [h0] at h1; have h2 := HM.out; simp at h1; omega), Kd.R_mono (Kd.R_lower (show Kd.R (Kd.int .i64) 3 w9 w.heap.size (fun j => w.heap.size ≤ j) (.slice (some ⟨gx, 0, none⟩) X.length cx) X from by have h := HX9.out; rw [← HXL.out] at h; exact h) (Nat.le_of_lt (Nat.lt_of_le_of_lt HGE.out HGL.out))) (fun j hj => ⟨fun h1 => absurd h1.2 (Nat.not_lt.mpr hj), fun e => by have h1 := HGL.out; simp only [e] at hj; omega⟩)⟩⟩
                · rw [if_neg q4] at HF2
                  have HEND := Aside0.mk (Prod.mk.inj (Option.some.inj HF2))
                  have q4b : decide (q9 < 0) = false := decide_eq_false q4
                  clear HF2 q4
                  go_wp2_with (first | (go_at_call 58; (with_reducible refine (impl_summed.calls k _ cx X b t1 t2 _ HXK.out HXC.out HSU.out).mono ?_); rintro e w5 ⟨v0_, v1_, rfl, ho1, ho2, hb⟩; obtain ⟨A1, c1, e1⟩ := Kd.R_slice ho1; subst e1; have HM5 := Aside0.mk ((Kd.R_reads' ho1).2.2); have HMC := Aside0.mk ((Kd.R_reads' ho1).2.1); have HX5 := Aside0.mk (Kd.R_below HX.out hb); have HB5 := Aside0.mk (below_step HB.out hb); have hG5 := (HB5.out.block g HGL.out).trans HG.out; have hc0 : w5.cell? ⟨g, 0, none⟩ = some (.slice Ad D.length cd) := (blk_cell hG5 0).trans rfl; have hf0 := blk_frozen hG5 0; have HD5 := Aside0.mk (Kd.C_below HD.out (below_step HB0.out HB5.out)); clear hG5 ho1 ho2 hb) | (go_at_call 86; (with_reducible refine (slices_Equal_int_int.calls k A1 c1 t1 Ad cd D _ _ HM5.out HMC.out HD5.out HCD.out HEQ.out).mono ?_); rintro e w6 ⟨rfl, ⟨nd, hw6⟩⟩; have hb_ : Below w5.heap.size w5 w6 := (by rw [hw6]; exact pw_below_drewN (Below.refl _ _) nd); have HX6 := Aside0.mk (Kd.R_mono (Kd.R_bound (Kd.R_below HX5.out hb_)) (ok' := fun j => w.heap.size ≤ j) (fun j hj => hj.2.1)); have HB6 := Aside0.mk (below_step HB5.out hb_); have hG6 := (HB6.out.block g HGL.out).trans HG.out; have HG6 := Aside0.mk hG6; have hc6 : w6.cell? ⟨g, 4, none⟩ = some (.int .i64 c) := (blk_cell hG6 4).trans rfl; have hf6 := blk_frozen hG6 4; clear hG6 hw6 hb_) | ((with_reducible refine gate_store (t := 3) (p := 97) rfl ?_); refine store_event (t := 3) (p := 97) (v := ?vp_w7) (w1 := (w6.setCell ⟨g, 4, none⟩ (.int .i64 (wrap64 (c + n))))) ?hg ?ho ?hn ?hr ?_; (case ho => rfl); (case hg => rfl); (case hn => rfl); (case hr => first | (go_simp; done) | (go_simp; rfl)); intro w7 hw; have hGn_ := SR.put4 HG6.out (.int .i64 (wrap64 (c + n))); rw [← hw] at hGn_; have HB7 : Aside0 (Below w0.heap.size w0 w7) := ⟨(by rw [hw]; exact below_set (below_step HB0.out HB6.out) HGE.out)⟩; have HS7 := Aside0.mk (Kd.R_far (Kd.R_below HS.out HB6.out) (p := ⟨g, 4, none⟩) (fun j hj => hj.2) (.int .i64 (wrap64 (c + n)))); rw [← hw] at HS7; have HX7 := Aside0.mk (Kd.R_far HX6.out (p := ⟨g, 4, none⟩) (fun j hj => by have h1 := HGL.out; exact fun e => by simp only [e] at hj; omega) (.int .i64 (wrap64 (c + n)))); rw [← hw] at HX7; have hc7 := blk_cell hGn_ 5; have hf7 := blk_frozen hGn_ 5; (try simp only [List.getElem?_toArray, List.getElem?_cons_succ, List.getElem?_cons_zero] at hc7); have HFR7 := Aside0.mk (Kd.R_far (Kd.R_below HFR.out HB6.out) (p := ⟨g, 4, none⟩) (fun j hj => hj.2) (.int .i64 (wrap64 (c + n)))); rw [← hw] at HFR7; have HFC7 := Aside0.mk ((Kd.R_reads' HFR7.out).2.2); have HFL7 := Aside0.mk ((Kd.R_reads' HFR7.out).2.1); have HXC7 := Aside0.mk ((Kd.R_reads' HX7.out).2.2); have HG7 := Aside0.mk hGn_; clear hw hGn_) | (go_at_call 75; (with_reducible refine (slices_Compare_int_int.calls k _ cx X af cf F _ _ HXC7.out HXC.out HFC7.out HFL7.out HCP.out).mono ?_); rintro e w8 ⟨rfl, ⟨nd, hw8⟩⟩; have hb_ : Below w7.heap.size w7 w8 := (by rw [hw8]; exact pw_below_drewN (Below.refl _ _) nd); have HX8 := Aside0.mk (Kd.R_below HX7.out hb_); have HS8 := Aside0.mk (Kd.R_below HS7.out hb_); have HFR8 := Aside0.mk (Kd.R_below HFR7.out hb_); have HB8 := Aside0.mk (below_step HB7.out hb_); have hG8 := (hb_.block g (blk_lt HG7.out)).trans HG7.out; have hc8 := blk_cell hG8 5; have hf8 := blk_frozen hG8 5; (try simp only [List.getElem?_toArray, List.getElem?_cons_succ, List.getElem?_cons_zero] at hc8); have HG8 := Aside0.mk hG8; clear hG8 hw8 hb_))
                  go_end0
                  obtain ⟨h1, h2⟩ := HEND.out
                  refine ⟨rfl, ?_⟩
                  rw [← h1, ← h2]
                  exact ⟨_, _, _, _, _, HG8.out, HGE.out, HB8.out, HD.out, HCD.out, HS8.out, .inr ⟨⟨_, _, rfl⟩, HFN.out, HFR8.out⟩⟩
  · rw [if_neg hm] at h
    cases h

/-! ### impl_source_on: function 90 -/
def SQ.lp (b i cy : Int) (f : Int → Int → List Int → Int → List Int → Option (List Int × Int × List Int)) : Nat → Int → List Int → Int → List Int → Option (List Int × Int × List Int)
  | 0, _, _, _, _ => none
  | j + 1, s, S, c, F => if s ≤ wrap64 (2 * wrap64 (b - 1)) then (if 0 ≤ i ∧ i ≤ (S.length : Int) ∧ S.length ≤ 1000 then ((f (wrap64 (i + 1)) (wrap64 (Int.tdiv (wrap64 (s + cy)) b)) (S.take i.toNat ++ [s]) c F).bind fun t => SQ.lp b i cy f j (wrap64 (s + b)) t.1 t.2.1 t.2.2) else none) else some (S, c, F)
def impl_source_on.f (D : List Int) (b m : Int) : Nat → Int → Int → List Int → Int → List Int → Option (List Int × Int × List Int)
  | 0, _, _, _, _, _ => none
  | k + 1, i, cy, S, c, F => if i = wrap64 (Int.tdiv (wrap64 (m + 1)) 2) then ((impl_source_check.f k D b m S c F).bind fun t => some (S, t.1, t.2)) else (if (0 ≤ wrap64 (wrap64 ((D.length : Int) - 1) - i) ∧ wrap64 (wrap64 ((D.length : Int) - 1) - i) < (D.length : Int)) ∧ b ≠ 0 then SQ.lp b i cy (impl_source_on.f D b m k) k (Int.tmod (wrap64 (wrap64 (rd D (wrap64 (wrap64 ((D.length : Int) - 1) - i)) - cy) + b)) b) S c F else none)
theorem SQ.mono_lp (b i cy : Int) (f f' : Int → Int → List Int → Int → List Int → Option (List Int × Int × List Int)) (hf : ∀ x y S c F, LeO (f x y S c F) (f' x y S c F)) : ∀ j s S c F, LeO (SQ.lp b i cy f j s S c F) (SQ.lp b i cy f' (j + 1) s S c F)
  | 0, _, _, _, _ => LeO.none _
  | j + 1, s, S, c, F => by
    have ih := SQ.mono_lp b i cy f f' hf j
    unfold SQ.lp
    exact LeO.ite (LeO.ite (LeO.bind (hf _ _ _ _ _) (fun t => ih _ _ _ _)) (LeO.none _)) (LeO.refl _)
theorem impl_source_on.mono (D : List Int) (b m : Int) : ∀ k i cy S c F, LeO (impl_source_on.f D b m k i cy S c F) (impl_source_on.f D b m (k + 1) i cy S c F)
  | 0, _, _, _, _, _ => LeO.none _
  | k + 1, i, cy, S, c, F => by
    have ih := impl_source_on.mono D b m k
    unfold impl_source_on.f
    exact LeO.ite (LeO.bind (impl_source_check.mono _ _ _ _ _ _ _) (fun _ => LeO.refl _)) (LeO.ite (SQ.mono_lp _ _ _ _ _ ih _ _ _ _ _) (LeO.none _))
set_option maxHeartbeats 8000000 in
set_option maxRecDepth 100000 in
theorem impl_source_on.calls (D : List Int) (b m : Int) (w0 : World) (g : Nat) : ∀ (k : Nat) (w : World) (i cy : Int) (S : List Int) (c : Int) (F S' : List Int) (c' : Int) (F' : List Int) (_ : SR.St w0 w g D b m S c F) (_ : impl_source_on.f D b m k i cy S c F = some (S', c', F')),
    Calls Try.prog 90 #[.pointer (some ⟨g, 0, none⟩), .int .i64 i, .int .i64 cy] w fun e w' => e = .returned (.tuple #[]) ∧ SR.St w0 w' g D b m S' c' F' := by
  intro k
  induction k with
  | zero => intro w i cy S c F S' c' F' hI h; simp [impl_source_on.f] at h
  | succ k ih =>
    intro w i cy S c F S' c' F' hI h
    have IH := Aside0.mk ih
    clear ih
    have HI := Aside0.mk hI
    obtain ⟨Ad, cd, sv, fv, P, hG, _⟩ := hI
    have HPR := Aside0.mk (SR.pairs hG)
    clear hG
    simp only [impl_source_on.f] at h
    obtain ⟨p9, hp9⟩ : ∃ j, wrap64 (Int.tdiv (wrap64 (m + 1)) 2) = j := ⟨_, rfl⟩
    rw [hp9] at h HPR
    clear hp9
    by_cases q1 : i = p9
    · rw [if_pos q1] at h
      have q1b : (i == p9) = true := by simp [q1]
      obtain ⟨⟨c1, F1⟩, hck, h⟩ := Option.bind_eq_some_iff.mp h
      have HCK := Aside0.mk hck
      simp only [Option.some.injEq, Prod.mk.injEq] at h
      obtain ⟨rfl, rfl, rfl⟩ := h
      clear hck q1
      go_enter Try.func90, Try.ntmps90
      go_wp2_with (first | (go_at_call 105; (with_reducible refine HPR.out.mono ?_); rintro e w1 ⟨rfl, ⟨nd, hw1⟩⟩; have hb_ : Below w.heap.size w w1 := (by rw [hw1]; exact pw_below_drewN (Below.refl _ _) nd); have HI1 := Aside0.mk (SR.St.below HI.out hb_); clear hw1 hb_) | (go_at_call 106; (with_reducible refine (impl_source_check.calls k w0 w1 g D b m S c F _ _ HI1.out HCK.out).mono ?_); rintro e w2 ⟨rfl, hI2⟩; have HI2 := Aside0.mk hI2; clear hI2))
      refine bodyPost_ret (results_none rfl _ _ _) rfl ?_
      exact ⟨rfl, HI2.out⟩
    · rw [if_neg q1] at h
      have q1b : (i == p9) = false := by simp [q1]
      obtain ⟨J, hJ⟩ : ∃ j, wrap64 (wrap64 ((D.length : Int) - 1) - i) = j := ⟨_, rfl⟩
      rw [hJ] at h
      by_cases q2 : (0 ≤ J ∧ J < (D.length : Int)) ∧ b ≠ 0
      · rw [if_pos q2] at h
        have HLP := Aside0.mk h
        have HJ := Aside0.mk q2.1
        have p1 : (0 ≤ J) = True := eq_true q2.1.1
        have p2 : (J < (D.length : Int)) = True := eq_true q2.1.2
        have nb : (b = 0) = False := eq_false q2.2
        have nbb : (b == 0) = false := by simp [q2.2]
        have nbn : b ≠ 0 := q2.2
        clear h q1 q2
        go_enter Try.func90, Try.ntmps90
        go_wp2_with (first | (go_at_call 105; (with_reducible refine HPR.out.mono ?_); rintro e w1 ⟨rfl, ⟨nd, hw1⟩⟩; have hb_ : Below w.heap.size w w1 := (by rw [hw1]; exact pw_below_drewN (Below.refl _ _) nd); have HI1 := Aside0.mk (SR.St.below HI.out hb_); obtain ⟨Ad1, cd1, sv1, fv1, P1, hG1, hge1, hB1, hD1, hcd1, hS1, hF1⟩ := HI1.out; obtain ⟨ad, ea, hx⟩ := Kd.at_int (Kd.C_below hD1 hB1) J HJ.out.1 HJ.out.2; subst ea; have hc0 : w1.cell? ⟨g, 0, none⟩ = some (.slice (some ad) D.length cd1) := (blk_cell hG1 0).trans rfl; have hf0 := blk_frozen hG1 0; have hc1 : w1.cell? ⟨g, 1, none⟩ = some (.int .i64 b) := (blk_cell hG1 1).trans rfl; have hf1 := blk_frozen hG1 1; clear hG1 hge1 hB1 hD1 hcd1 hS1 hF1; clear hw1 hb_))
        go_quiet (fail)
        go_wp2
        (try rw [hJ])
        go_loopg [7] k (fun kq v7 wr => ∃ (s : Int) (S1 : List Int) (c1 : Int) (F1 : List Int), v7 = .int .i64 s ∧ Aside0 (SQ.lp b i cy (impl_source_on.f D b m k) kq s S1 c1 F1 = some (S', c', F')) ∧ Aside0 (SR.St w0 wr g D b m S1 c1 F1))
        case atStart => exact ⟨_, S, c, F, rfl, HLP, ⟨SR.St.below HI1.out (pw_below_drewN (Below.refl _ _) _)⟩⟩
        case round =>
          clear HLP hx hc0 hf0 hc1 hf1 HI1 p1 p2 HI HPR
          obtain ⟨s, S1, c1, F1, rfl, HA, HST⟩ := hrel
          obtain ⟨wo, rfl⟩ : ∃ x, x = wr := ⟨wr, rfl⟩
          obtain ⟨Ad, cd, sv, fv, P, hG, hge, hB, hD, hcd, hS, hF⟩ := id HST.out
          cases gk with
          | zero => exact absurd HA.out (by simp [SQ.lp])
          | succ k1 =>
            have H := HA.out
            clear HA
            simp only [SQ.lp] at H
            have hc1 : wo.cell? ⟨g, 1, none⟩ = some (.int .i64 b) := (blk_cell hG 1).trans rfl
            have hf1 := blk_frozen hG 1
            by_cases q3 : s ≤ wrap64 (2 * wrap64 (b - 1))
            · rw [if_pos q3] at H
              have q3b : decide (s ≤ wrap64 (2 * wrap64 (b - 1))) = true := decide_eq_true q3
              by_cases q4 : 0 ≤ i ∧ i ≤ (S1.length : Int) ∧ S1.length ≤ 1000
              · rw [if_pos q4] at H
                obtain ⟨⟨S2, c2, F2⟩, hon, H⟩ := Option.bind_eq_some_iff.mp H
                have HON := Aside0.mk hon
                have HN := Aside0.mk H
                obtain ⟨As, cs, es⟩ := Kd.R_slice hS
                subst es
                have HGLo := Aside0.mk (blk_lt hG)
                have HFo : Aside0 ((F1 = [] ∧ fv = .slice none 0 0) ∨ ((∃ ad cf, fv = .slice (some ad) F1.length cf) ∧ F1 ≠ [] ∧ Kd.R (Kd.int .i64) 3 wo w0.heap.size (fun k => ¬ (P k ∨ wo.heap.size ≤ k) ∧ k ≠ g) fv F1)) := ⟨hF.imp id (fun h => ⟨h.1, h.2.1, Kd.R_mono (Kd.R_bound h.2.2) (fun j hj => ⟨fun h1 => h1.elim hj.1.1 (fun h2 => absurd hj.2.2.1 (Nat.not_lt.mpr h2)), hj.1.2⟩)⟩)⟩
                obtain ⟨T, hT⟩ : ∃ T, S1.take i.toNat = T := ⟨_, rfl⟩
                have hTl : T.length = i.toNat := by rw [← hT, List.length_take]; omega
                have HTL : Aside0 (T.length ≤ 1000) := ⟨by omega⟩
                have HT : Aside0 (Kd.R (Kd.int .i64) 3 wo w0.heap.size (fun k => (P k ∨ wo.heap.size ≤ k) ∧ k ≠ g) (.slice As T.length cs) T) := ⟨by rw [hTl, ← hT]; exact Kd.R_mono (Kd.R_take hS (by omega)) (fun j hj => ⟨.inl hj.1, hj.2⟩)⟩
                obtain ⟨i0, hi0, _, _, _⟩ := info_parts info3
                have hcut := cut_to (P := Try.prog) 25 3 .i64 Try.underlying25 hi0 As S1.length cs i q4.1 q4.2.1 (Kd.R_reads' hS).2.1
                rw [← hTl] at hcut
                rw [hT] at HON
                obtain ⟨Y, hY⟩ : ∃ Y, T ++ [s] = Y := ⟨_, rfl⟩
                rw [hY] at HON
                have HY := Aside0.mk hY
                clear hY
                have hc3 : wo.cell? ⟨g, 3, none⟩ = some (.slice As S1.length cs) := (blk_cell hG 3).trans rfl
                have hf3 := blk_frozen hG 3
                have HG := Aside0.mk hG
                have HGE := Aside0.mk hge
                have HB := Aside0.mk hB
                have HD := Aside0.mk hD
                have HCD := Aside0.mk hcd
                clear hG hge hB hD hcd hS hF hi0 hTl hT q3 q4 H hon
                go_wp2_with (first | (at_builtin; refine Kd.R_append (Kd.int .i64) (w0 := w0) w0.heap.size rfl (.tmp 61) (.tmp 63) 25 3 (.int .i64 0) 8 rfl Try.underlying25 info3 rfl (by decide) (by omega) (.slice As T.length cs) T s [.int .i64 s] (fun j => (P j ∨ wo.heap.size ≤ j) ∧ j ≠ g) (fun _ => False) rfl rfl ?aP (fun _ hk => hk.elim) ?aF HT.out ?aB ?aS ?aL ?_; (case aP => exact rfl); (case aF => intro j hj; exact ⟨.inr hj, by have := HGLo.out; omega⟩); (case aB => exact HB.out); (case aS => exact HB.out.size); (case aL => have := HTL.out; omega); intro v5 w5 ho hb hg hat; rw [HY.out] at ho; obtain ⟨A5, c5, e5⟩ := Kd.R_slice ho; subst e5; have HS5 := Aside0.mk ho; have HB5 := Aside0.mk hb; have hG5 := blk_grown HG.out hg (fun e => (HT.out.1 g e.symm).2 rfl); have hc5 := blk_cell hG5 3; have hf5 := blk_frozen hG5 3; have HG5 := Aside0.mk hG5; have HF5 : Aside0 ((F1 = [] ∧ fv = .slice none 0 0) ∨ ((∃ ad cf, fv = .slice (some ad) F1.length cf) ∧ F1 ≠ [] ∧ Kd.R (Kd.int .i64) 3 w5 w0.heap.size (fun k => ¬ (P k ∨ wo.heap.size ≤ k) ∧ k ≠ g) fv F1)) := ⟨HFo.out.imp id (fun h => ⟨h.1, h.2.1, Kd.R_grown h.2.2 hg (fun j hj e => hj.1 (HT.out.1 j e.symm).1)⟩)⟩; (try simp only [List.getElem?_toArray, List.getElem?_cons_succ, List.getElem?_cons_zero] at hc5); clear ho hb hg hat hG5) | ((with_reducible refine gate_store (t := 25) (p := 66) rfl ?_); refine store_event (t := 25) (p := 66) (v := ?vq_w6) (w1 := (w5.setCell ⟨g, 3, none⟩ (.slice A5 Y.length c5))) ?hg ?ho ?hn ?hr ?_; (case ho => rfl); (case hg => rfl); (case hn => rfl); (case hr => first | (go_simp; done) | (go_simp; rfl)); intro w6 hw; have hI6 : SR.St w0 w6 g D b m Y c1 F1 := (by rw [hw]; exact ⟨Ad, cd, .slice A5 Y.length c5, fv, _, SR.put3 HG5.out (.slice A5 Y.length c5), HGE.out, below_set HB5.out HGE.out, HD.out, HCD.out, Kd.R_far HS5.out (p := ⟨g, 3, none⟩) (fun j hj => hj.2) (.slice A5 Y.length c5), HF5.out.imp id (fun h => ⟨h.1, h.2.1, Kd.R_far h.2.2 (p := ⟨g, 3, none⟩) (fun j hj => hj.2) (.slice A5 Y.length c5)⟩)⟩); have HST6 := Aside0.mk hI6; obtain ⟨Ad6, cd6, sv6, fv6, P6, hG6, hr6⟩ := hI6; have hc6 : w6.cell? ⟨g, 1, none⟩ = some (.int .i64 b) := (blk_cell hG6 1).trans rfl; have hf6 := blk_frozen hG6 1; clear hG6 hr6 hw) | (go_at_call 90; (with_reducible refine (IH.out w6 _ _ _ c1 F1 S2 c2 F2 HST6.out HON.out).mono ?_); rintro e w7 ⟨rfl, hI7⟩; have HST7 := Aside0.mk hI7; obtain ⟨Ad7, cd7, sv7, fv7, P7, hG7, hr7⟩ := hI7; have hc7 : w7.cell? ⟨g, 1, none⟩ = some (.int .i64 b) := (blk_cell hG7 1).trans rfl; have hf7 := blk_frozen hG7 1; clear hG7 hr7))
                go_roundg k1
                case measure => omega
                case rel => exact ⟨_, _, _, _, rfl, HN, HST7⟩
              · rw [if_neg q4] at H
                cases H
            · rw [if_neg q3] at H
              have q3b : decide (s ≤ wrap64 (2 * wrap64 (b - 1))) = false := decide_eq_false q3
              simp only [Option.some.injEq, Prod.mk.injEq] at H
              obtain ⟨rfl, rfl, rfl⟩ := H
              clear hG hge hB hD hcd hS hF q3
              go_wp2
              go_end0
              exact ⟨rfl, HST.out⟩
      · rw [if_neg q2] at h
        cases h

end Go.Proofs.Ytimimjmabnmeoaa.PFnExactFirstSource
