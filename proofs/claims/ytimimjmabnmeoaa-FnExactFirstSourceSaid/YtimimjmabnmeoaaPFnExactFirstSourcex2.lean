-- Written by a program of this session (hook.py): functions, contracts and walks in the printer's form; contracts of this session's own where the printer takes none
import Derived.Test.YtimimjmabnmeoaaPFnExactFirstSourcex0
import Derived.Test.YtimimjmabnmeoaaPFnExactFirstSourcex1
namespace Go.Proofs.Ytimimjmabnmeoaa.PFnExactFirstSource
open Go.RowKit Go.Proofs.YtimimjmabnmeoaaW.PrintWords Go.Proofs.YtimimjmabnmeoaaW.PrintLast Go.Proofs.YtimimjmabnmeoaaW.PrintMore
attribute [local go_sem] max2_int min2_int max_two min_two max_three min_three max_four min_four   -- for this text's walks alone
set_option linter.unusedVariables false
set_option linter.unusedSimpArgs false

/-! ### spec_rvWays: function 60 -/
mutual
def spec_rvWays.j0 : Nat → List Int → Int → Int → Int → Bool → Option ((List (List Int)) × Bool)
  | 0, _, _, _, _, _ => none
  | k + 1, x0, x1, x2, x8, x34 => if x34 = true then (some (([] : List (List Int)), false)) else (spec_rvWays.l0 k x0 x1 x2 x8 (wrap64 (Int.tdiv (wrap64 (x1 + 1)) 2)) ([] : List (List Int)) 0)
def spec_rvWays.l0 : Nat → List Int → Int → Int → Int → Int → List (List Int) → Int → Option ((List (List Int)) × Bool)
  | 0, _, _, _, _, _, _, _ => none
  | k + 1, x0, x1, x2, x8, x9, x10, x11 => if 0 ≤ x9 then (if x11 < (shl .i64 1 x9) then (if 0 ≤ x1 then (if (x1 : Int).toNat ≤ 35184372088832 then (spec_rvWays.l1 k x0 x1 x2 x8 x9 x10 x11 (List.replicate (x1 : Int).toNat 0) 0 true (wrap64 (x1 - 1))) else (none)) else (none)) else (some (x10, true))) else (none)
def spec_rvWays.l1 : Nat → List Int → Int → Int → Int → Int → List (List Int) → Int → List Int → Int → Bool → Int → Option ((List (List Int)) × Bool)
  | 0, _, _, _, _, _, _, _, _, _, _, _ => none
  | k + 1, x0, x1, x2, x8, x9, x10, x11, x12, x13, x14, x15 => if x15 ≥ 0 then (spec_rvWays.j3 k x0 x1 x2 x8 x9 x10 x11 x12 x13 x14 x15 x14) else (spec_rvWays.j3 k x0 x1 x2 x8 x9 x10 x11 x12 x13 x14 x15 false)
def spec_rvWays.j3 : Nat → List Int → Int → Int → Int → Int → List (List Int) → Int → List Int → Int → Bool → Int → Bool → Option ((List (List Int)) × Bool)
  | 0, _, _, _, _, _, _, _, _, _, _, _, _ => none
  | k + 1, x0, x1, x2, x8, x9, x10, x11, x12, x13, x14, x15, x52 => if x52 = true then ((spec_l1Least.f x15 (wrap64 ((wrap64 (x1 - 1)) - x15))).bind fun t125 => (if x15 ≥ (wrap64 (x1 - x9)) then (if 0 ≤ (wrap64 ((wrap64 (x1 - 1)) - x15)) then (if 0 ≤ (wrap64 (x8 + x15)) then (if (wrap64 (x8 + x15)) < (x0.length : Int) then (if 0 ≤ x15 then (if x15 < (x12.length : Int) then ((some (x12.set (x15 : Int).toNat (wrap64 ((wrap64 ((rd x0 (wrap64 (x8 + x15))) + (wrap64 (x2 * (Int.tmod (shr .i64 x11 (wrap64 ((wrap64 (x1 - 1)) - x15))) 2))))) - x13)) : List Int)).bind fun y127 => ((spec_l1In.f (rd y127 x15) 0 (wrap64 ((wrap64 (2 * x2)) - 2))).bind fun t129 => (if t129 = true then (if x2 = 0 then (none) else (if 0 ≤ t125 then (if t125 < (x12.length : Int) then (spec_rvWays.l1 k x0 x1 x2 x8 x9 x10 x11 (y127.set (t125 : Int).toNat (rd y127 x15)) (Int.tmod (shr .i64 x11 (wrap64 ((wrap64 (x1 - 1)) - x15))) 2) ((wrap64 (Int.tdiv (wrap64 ((rd y127 x15) + x13)) x2)) == (Int.tmod (shr .i64 x11 (wrap64 ((wrap64 (x1 - 1)) - x15))) 2)) (wrap64 (x15 - 1))) else (none)) else (none))) else (if 0 ≤ t125 then (if t125 < (x12.length : Int) then (spec_rvWays.l1 k x0 x1 x2 x8 x9 x10 x11 (y127.set (t125 : Int).toNat (rd y127 x15)) (Int.tmod (shr .i64 x11 (wrap64 ((wrap64 (x1 - 1)) - x15))) 2) false (wrap64 (x15 - 1))) else (none)) else (none))))) else (none)) else (none)) else (none)) else (none)) else (none)) else (if 0 ≤ t125 then (if t125 < (x12.length : Int) then (if x2 = 0 then (none) else (if 0 ≤ (wrap64 (x8 + x15)) then (if (wrap64 (x8 + x15)) < (x0.length : Int) then (spec_rvWays.l1 k x0 x1 x2 x8 x9 x10 x11 x12 (wrap64 (Int.tdiv (wrap64 ((rd x12 t125) + x13)) x2)) ((Int.tmod (wrap64 ((rd x12 t125) + x13)) x2) == (rd x0 (wrap64 (x8 + x15)))) (wrap64 (x15 - 1))) else (none)) else (none))) else (none)) else (none)))) else (if x14 = true then (if x13 = x8 then (if x10.length < 5864062014805 then (spec_rvWays.l0 k x0 x1 x2 x8 x9 (x10 ++ [x12]) (wrap64 (x11 + 1))) else (none)) else (spec_rvWays.l0 k x0 x1 x2 x8 x9 x10 (wrap64 (x11 + 1)))) else (spec_rvWays.l0 k x0 x1 x2 x8 x9 x10 (wrap64 (x11 + 1))))
end
def spec_rvWays.f (k : Nat) (l0 : List Int) (a1 : Int) (a2 : Int) : Option ((List (List Int)) × Bool) := (spec_l1In.f (wrap64 ((l0.length : Int) - a1)) 0 1).bind fun t117 => (if t117 = true then (if (wrap64 ((l0.length : Int) - a1)) = 1 then (if 0 < (l0.length : Int) then (spec_rvWays.j0 k l0 a1 a2 (wrap64 ((l0.length : Int) - a1)) ((rd l0 0) != 1)) else (none)) else (spec_rvWays.j0 k l0 a1 a2 (wrap64 ((l0.length : Int) - a1)) false)) else (spec_rvWays.j0 k l0 a1 a2 (wrap64 ((l0.length : Int) - a1)) true))
theorem spec_rvWays.mono_l : ∀ k, (∀ y0 y1 y2 y3 y4, LeO (spec_rvWays.j0 k y0 y1 y2 y3 y4) (spec_rvWays.j0 (k + 1) y0 y1 y2 y3 y4)) ∧ (∀ y0 y1 y2 y3 y4 y5 y6, LeO (spec_rvWays.l0 k y0 y1 y2 y3 y4 y5 y6) (spec_rvWays.l0 (k + 1) y0 y1 y2 y3 y4 y5 y6)) ∧ (∀ y0 y1 y2 y3 y4 y5 y6 y7 y8 y9 y10, LeO (spec_rvWays.l1 k y0 y1 y2 y3 y4 y5 y6 y7 y8 y9 y10) (spec_rvWays.l1 (k + 1) y0 y1 y2 y3 y4 y5 y6 y7 y8 y9 y10)) ∧ (∀ y0 y1 y2 y3 y4 y5 y6 y7 y8 y9 y10 y11, LeO (spec_rvWays.j3 k y0 y1 y2 y3 y4 y5 y6 y7 y8 y9 y10 y11) (spec_rvWays.j3 (k + 1) y0 y1 y2 y3 y4 y5 y6 y7 y8 y9 y10 y11))
  | 0 => ⟨fun _ _ _ _ _ r h => by simp [spec_rvWays.j0] at h, fun _ _ _ _ _ _ _ r h => by simp [spec_rvWays.l0] at h, fun _ _ _ _ _ _ _ _ _ _ _ r h => by simp [spec_rvWays.l1] at h, fun _ _ _ _ _ _ _ _ _ _ _ _ r h => by simp [spec_rvWays.j3] at h⟩
  | k + 1 => by
    obtain ⟨ih0, ih1, ih2, ih3⟩ := spec_rvWays.mono_l k
    refine ⟨?_, ?_, ?_, ?_⟩
    · intro y0 y1 y2 y3 y4
      unfold spec_rvWays.j0
      repeat' first
      | (with_reducible exact ih0 _ _ _ _ _)
      | (with_reducible exact ih1 _ _ _ _ _ _ _)
      | (with_reducible exact ih2 _ _ _ _ _ _ _ _ _ _ _)
      | (with_reducible exact ih3 _ _ _ _ _ _ _ _ _ _ _ _)
      | (with_reducible exact LeO.refl _)
      | (with_reducible exact LeO.none _)
      | (with_reducible refine LeO.ite ?_ ?_)
      | (with_reducible refine LeO.bind ?_ (fun _ => ?_))
      | exact ih0 _ _ _ _ _
      | exact ih1 _ _ _ _ _ _ _
      | exact ih2 _ _ _ _ _ _ _ _ _ _ _
      | exact ih3 _ _ _ _ _ _ _ _ _ _ _ _
      | exact LeO.none _
      | refine LeO.ite ?_ ?_
      | refine LeO.bind ?_ (fun _ => ?_)
    · intro y0 y1 y2 y3 y4 y5 y6
      unfold spec_rvWays.l0
      repeat' first
      | (with_reducible exact ih0 _ _ _ _ _)
      | (with_reducible exact ih1 _ _ _ _ _ _ _)
      | (with_reducible exact ih2 _ _ _ _ _ _ _ _ _ _ _)
      | (with_reducible exact ih3 _ _ _ _ _ _ _ _ _ _ _ _)
      | (with_reducible exact LeO.refl _)
      | (with_reducible exact LeO.none _)
      | (with_reducible refine LeO.ite ?_ ?_)
      | (with_reducible refine LeO.bind ?_ (fun _ => ?_))
      | exact ih0 _ _ _ _ _
      | exact ih1 _ _ _ _ _ _ _
      | exact ih2 _ _ _ _ _ _ _ _ _ _ _
      | exact ih3 _ _ _ _ _ _ _ _ _ _ _ _
      | exact LeO.none _
      | refine LeO.ite ?_ ?_
      | refine LeO.bind ?_ (fun _ => ?_)
    · intro y0 y1 y2 y3 y4 y5 y6 y7 y8 y9 y10
      unfold spec_rvWays.l1
      repeat' first
      | (with_reducible exact ih0 _ _ _ _ _)
      | (with_reducible exact ih1 _ _ _ _ _ _ _)
      | (with_reducible exact ih2 _ _ _ _ _ _ _ _ _ _ _)
      | (with_reducible exact ih3 _ _ _ _ _ _ _ _ _ _ _ _)
      | (with_reducible exact LeO.refl _)
      | (with_reducible exact LeO.none _)
      | (with_reducible refine LeO.ite ?_ ?_)
      | (with_reducible refine LeO.bind ?_ (fun _ => ?_))
      | exact ih0 _ _ _ _ _
      | exact ih1 _ _ _ _ _ _ _
      | exact ih2 _ _ _ _ _ _ _ _ _ _ _
      | exact ih3 _ _ _ _ _ _ _ _ _ _ _ _
      | exact LeO.none _
      | refine LeO.ite ?_ ?_
      | refine LeO.bind ?_ (fun _ => ?_)
    · intro y0 y1 y2 y3 y4 y5 y6 y7 y8 y9 y10 y11
      unfold spec_rvWays.j3
      repeat' first
      | (with_reducible exact ih0 _ _ _ _ _)
      | (with_reducible exact ih1 _ _ _ _ _ _ _)
      | (with_reducible exact ih2 _ _ _ _ _ _ _ _ _ _ _)
      | (with_reducible exact ih3 _ _ _ _ _ _ _ _ _ _ _ _)
      | (with_reducible exact LeO.refl _)
      | (with_reducible exact LeO.none _)
      | (with_reducible refine LeO.ite ?_ ?_)
      | (with_reducible refine LeO.bind ?_ (fun _ => ?_))
      | exact ih0 _ _ _ _ _
      | exact ih1 _ _ _ _ _ _ _
      | exact ih2 _ _ _ _ _ _ _ _ _ _ _
      | exact ih3 _ _ _ _ _ _ _ _ _ _ _ _
      | exact LeO.none _
      | refine LeO.ite ?_ ?_
      | refine LeO.bind ?_ (fun _ => ?_)
theorem spec_rvWays.mono : ∀ a0 a1 a2 k, LeO (spec_rvWays.f k a0 a1 a2) (spec_rvWays.f (k + 1) a0 a1 a2) := by
  intro a0 a1 a2 k
  obtain ⟨ih0, ih1, ih2, ih3⟩ := spec_rvWays.mono_l k
  unfold spec_rvWays.f
  repeat' first
      | (with_reducible exact ih0 _ _ _ _ _)
      | (with_reducible exact ih1 _ _ _ _ _ _ _)
      | (with_reducible exact ih2 _ _ _ _ _ _ _ _ _ _ _)
      | (with_reducible exact ih3 _ _ _ _ _ _ _ _ _ _ _ _)
      | (with_reducible exact LeO.refl _)
      | (with_reducible exact LeO.none _)
      | (with_reducible refine LeO.ite ?_ ?_)
      | (with_reducible refine LeO.bind ?_ (fun _ => ?_))
      | exact ih0 _ _ _ _ _
      | exact ih1 _ _ _ _ _ _ _
      | exact ih2 _ _ _ _ _ _ _ _ _ _ _
      | exact ih3 _ _ _ _ _ _ _ _ _ _ _ _
      | exact LeO.none _
      | refine LeO.ite ?_ ?_
      | refine LeO.bind ?_ (fun _ => ?_)
set_option maxHeartbeats 8000000 in
set_option maxRecDepth 100000 in
theorem spec_rvWays.calls (k : Nat) (A0 : Option Addr) (c0 : Nat) (l0 : List Int) (a1 : Int) (a2 : Int) (r1 : List (List Int)) (r2 : Bool) (w : World) (hr0 : Kd.C (Kd.int .i64) w A0 l0.length l0) (hc0 : l0.length ≤ c0) (h : spec_rvWays.f k l0 a1 a2 = some (r1, r2)) :
    Calls Try.prog 60 #[.slice A0 l0.length c0, .int .i64 a1, .int .i64 a2] w fun e w' => ∃ v0_ : Value, e = .returned (.tuple #[v0_, .bool r2]) ∧ Kd.S (Kd.slice 3 (Kd.int .i64)) 25 w' w.heap.size (fun _ => True) v0_ r1 ∧ Below w.heap.size w w' := by
  have HR0 := Aside0.mk hr0
  have HC0 := Aside0.mk hc0
  clear hr0 hc0
  have HB := Aside0.mk (Below.refl w.heap.size w)
  have H : ((spec_l1In.f (wrap64 ((l0.length : Int) - a1)) 0 1).bind fun t117 => (if t117 = true then (if (wrap64 ((l0.length : Int) - a1)) = 1 then (if 0 < (l0.length : Int) then (spec_rvWays.j0 k l0 a1 a2 (wrap64 ((l0.length : Int) - a1)) ((rd l0 0) != 1)) else (none)) else (spec_rvWays.j0 k l0 a1 a2 (wrap64 ((l0.length : Int) - a1)) false)) else (spec_rvWays.j0 k l0 a1 a2 (wrap64 ((l0.length : Int) - a1)) true))) = some (r1, r2) := h
  clear h
  have HC4 := Aside0.mk H
  clear H
  go_enter Try.func60, Try.ntmps60
  go_upto_region 2 with (fail)
  repeat (go_quiet (fail); go_upto_region 2 with (fail))
  go_cut [34] (fun v34 wc => ∃ (kq : Nat) (x34_3 : Bool), v34 = .bool x34_3 ∧ Aside0 (spec_rvWays.j0 kq l0 a1 a2 (wrap64 ((l0.length : Int) - a1)) x34_3 = some (r1, r2)) ∧ Aside0 (kq ≤ k) ∧ Aside0 (Below w.heap.size w wc))
  case first =>
    have H := HC4.out
    clear HC4
    replace H := Option.bind_eq_some_iff.mp H
    obtain ⟨t117, A50, H⟩ := H
    replace H : (if t117 = true then (if (wrap64 ((l0.length : Int) - a1)) = 1 then (if 0 < (l0.length : Int) then (spec_rvWays.j0 k l0 a1 a2 (wrap64 ((l0.length : Int) - a1)) ((rd l0 0) != 1)) else (none)) else (spec_rvWays.j0 k l0 a1 a2 (wrap64 ((l0.length : Int) - a1)) false)) else (spec_rvWays.j0 k l0 a1 a2 (wrap64 ((l0.length : Int) - a1)) true)) = some (r1, r2) := H
    have A5 := Aside0.mk A50
    clear A50
    by_cases c6 : t117 = true
    · subst c6
      have H1 : (if (wrap64 ((l0.length : Int) - a1)) = 1 then (if 0 < (l0.length : Int) then (spec_rvWays.j0 k l0 a1 a2 (wrap64 ((l0.length : Int) - a1)) ((rd l0 0) != 1)) else (none)) else (spec_rvWays.j0 k l0 a1 a2 (wrap64 ((l0.length : Int) - a1)) false)) = some (r1, r2) := by rw [if_pos rfl] at H; exact H
      clear H
      have H := H1
      clear H1
      by_cases c7 : (wrap64 ((l0.length : Int) - a1)) = 1
      · rw [if_pos c7] at H
        have c7b0 : ((wrap64 ((l0.length : Int) - a1)) == 1) = true := beq_iff_eq.mpr c7
        have c7b1 : ((wrap64 ((l0.length : Int) - a1)) != 1) = false := bne_eq_false_iff_eq.mpr c7
        clear c7
        (first | rw [c7b0] | (simp only [i64_w, i32_w]; rw [c7b0]) | skip)
        by_cases c8 : 0 < (l0.length : Int)
        · rw [if_pos c8] at H
          have c8b0 : decide (0 < (l0.length : Int)) = true := decide_eq_true c8
          have c8b1 : decide (0 < l0.length) = true := decide_eq_true (by omega)
          clear c8
          have H' := Aside0.mk H
          clear H
          go_wp2_with (first | (go_at_call 45; (with_reducible refine (spec_l1In.calls (wrap64 ((l0.length : Int) - a1)) 0 1 true _ A5.out).mono ?_); rintro e w' ⟨rfl, ⟨nd, rfl⟩⟩; (try first | exact ⟨rfl, _, World.drewN_drewN _ _ _⟩ | exact ⟨rfl, _, Eq.trans (World.drewN_drewN _ _ _) (congrArg (World.drewN _) (Nat.add_assoc _ _ _))⟩); have p118 : 0 ≤ (0 : Int) := (by omega); have q118 : 0 < (l0.length : Int) := of_decide_eq_true (by first | (with_reducible assumption) | assumption); obtain ⟨ad118, e118, hx118_0⟩ := Kd.at_int HR0.out 0 p118 q118; cases e118; have qi118 : (0 < l0.length) = True := eq_true (by omega); (try rw [show ((0 : Int)).toNat = 0 from rfl] at hx118_0); (try rw [Addr.add_zero'] at hx118_0); replace hx118_0 := (HB.out.cell (World.block_lt_of_cell? w _ hx118_0)).trans hx118_0; replace p118 := eq_true p118; replace q118 := eq_true q118))
          repeat (go_quiet (first | (go_at_call 45; (with_reducible refine (spec_l1In.calls (wrap64 ((l0.length : Int) - a1)) 0 1 true _ A5.out).mono ?_); rintro e w' ⟨rfl, ⟨nd, rfl⟩⟩; (try first | exact ⟨rfl, _, World.drewN_drewN _ _ _⟩ | exact ⟨rfl, _, Eq.trans (World.drewN_drewN _ _ _) (congrArg (World.drewN _) (Nat.add_assoc _ _ _))⟩); have p118 : 0 ≤ (0 : Int) := (by omega); have q118 : 0 < (l0.length : Int) := of_decide_eq_true (by first | (with_reducible assumption) | assumption); obtain ⟨ad118, e118, hx118_0⟩ := Kd.at_int HR0.out 0 p118 q118; cases e118; have qi118 : (0 < l0.length) = True := eq_true (by omega); (try rw [show ((0 : Int)).toNat = 0 from rfl] at hx118_0); (try rw [Addr.add_zero'] at hx118_0); replace hx118_0 := (HB.out.cell (World.block_lt_of_cell? w _ hx118_0)).trans hx118_0; replace p118 := eq_true p118; replace q118 := eq_true q118)); try go_wp2_with (first | (go_at_call 45; (with_reducible refine (spec_l1In.calls (wrap64 ((l0.length : Int) - a1)) 0 1 true _ A5.out).mono ?_); rintro e w' ⟨rfl, ⟨nd, rfl⟩⟩; (try first | exact ⟨rfl, _, World.drewN_drewN _ _ _⟩ | exact ⟨rfl, _, Eq.trans (World.drewN_drewN _ _ _) (congrArg (World.drewN _) (Nat.add_assoc _ _ _))⟩); have p118 : 0 ≤ (0 : Int) := (by omega); have q118 : 0 < (l0.length : Int) := of_decide_eq_true (by first | (with_reducible assumption) | assumption); obtain ⟨ad118, e118, hx118_0⟩ := Kd.at_int HR0.out 0 p118 q118; cases e118; have qi118 : (0 < l0.length) = True := eq_true (by omega); (try rw [show ((0 : Int)).toNat = 0 from rfl] at hx118_0); (try rw [Addr.add_zero'] at hx118_0); replace hx118_0 := (HB.out.cell (World.block_lt_of_cell? w _ hx118_0)).trans hx118_0; replace p118 := eq_true p118; replace q118 := eq_true q118)))
          go_meet
          case rel => exact ⟨_, (((rd l0 0) != 1)), (by first | rfl | (simp; done) | (simp [*]; done)), H', ⟨by first | omega | exact Nat.le_refl _⟩, ⟨by repeat (first | (with_reducible first | exact HB.out | apply below_alloc | apply pw_below_drewN | apply below_drew1) | exact HB.out)⟩⟩
        · rw [if_neg c8] at H
          exact absurd H (by simp)
      · rw [if_neg c7] at H
        have c7b0 : ((wrap64 ((l0.length : Int) - a1)) == 1) = false := beq_eq_false_iff_ne.mpr c7
        have c7b1 : ((wrap64 ((l0.length : Int) - a1)) != 1) = true := bne_iff_ne.mpr c7
        (first | rw [c7b0] | (simp only [i64_w, i32_w]; rw [c7b0]) | skip)
        have H' := Aside0.mk H
        clear H
        go_wp2_with (first | (go_at_call 45; (with_reducible refine (spec_l1In.calls (wrap64 ((l0.length : Int) - a1)) 0 1 true _ A5.out).mono ?_); rintro e w' ⟨rfl, ⟨nd, rfl⟩⟩; (try first | exact ⟨rfl, _, World.drewN_drewN _ _ _⟩ | exact ⟨rfl, _, Eq.trans (World.drewN_drewN _ _ _) (congrArg (World.drewN _) (Nat.add_assoc _ _ _))⟩)))
        repeat (go_quiet (first | (go_at_call 45; (with_reducible refine (spec_l1In.calls (wrap64 ((l0.length : Int) - a1)) 0 1 true _ A5.out).mono ?_); rintro e w' ⟨rfl, ⟨nd, rfl⟩⟩; (try first | exact ⟨rfl, _, World.drewN_drewN _ _ _⟩ | exact ⟨rfl, _, Eq.trans (World.drewN_drewN _ _ _) (congrArg (World.drewN _) (Nat.add_assoc _ _ _))⟩))); try go_wp2_with (first | (go_at_call 45; (with_reducible refine (spec_l1In.calls (wrap64 ((l0.length : Int) - a1)) 0 1 true _ A5.out).mono ?_); rintro e w' ⟨rfl, ⟨nd, rfl⟩⟩; (try first | exact ⟨rfl, _, World.drewN_drewN _ _ _⟩ | exact ⟨rfl, _, Eq.trans (World.drewN_drewN _ _ _) (congrArg (World.drewN _) (Nat.add_assoc _ _ _))⟩))))
        go_meet
        case rel => exact ⟨_, (false), (by first | rfl | (simp; done) | (simp [*]; done)), H', ⟨by first | omega | exact Nat.le_refl _⟩, ⟨by repeat (first | (with_reducible first | exact HB.out | apply below_alloc | apply pw_below_drewN | apply below_drew1) | exact HB.out)⟩⟩
    · replace c6 := Bool.eq_false_iff.mpr c6
      subst c6
      have H1 : (spec_rvWays.j0 k l0 a1 a2 (wrap64 ((l0.length : Int) - a1)) true) = some (r1, r2) := by rw [if_neg (show ¬ (false = true) by decide)] at H; exact H
      clear H
      have H := H1
      clear H1
      have H' := Aside0.mk H
      clear H
      go_wp2_with (first | (go_at_call 45; (with_reducible refine (spec_l1In.calls (wrap64 ((l0.length : Int) - a1)) 0 1 false _ A5.out).mono ?_); rintro e w' ⟨rfl, ⟨nd, rfl⟩⟩; (try first | exact ⟨rfl, _, World.drewN_drewN _ _ _⟩ | exact ⟨rfl, _, Eq.trans (World.drewN_drewN _ _ _) (congrArg (World.drewN _) (Nat.add_assoc _ _ _))⟩)))
      repeat (go_quiet (first | (go_at_call 45; (with_reducible refine (spec_l1In.calls (wrap64 ((l0.length : Int) - a1)) 0 1 false _ A5.out).mono ?_); rintro e w' ⟨rfl, ⟨nd, rfl⟩⟩; (try first | exact ⟨rfl, _, World.drewN_drewN _ _ _⟩ | exact ⟨rfl, _, Eq.trans (World.drewN_drewN _ _ _) (congrArg (World.drewN _) (Nat.add_assoc _ _ _))⟩))); try go_wp2_with (first | (go_at_call 45; (with_reducible refine (spec_l1In.calls (wrap64 ((l0.length : Int) - a1)) 0 1 false _ A5.out).mono ?_); rintro e w' ⟨rfl, ⟨nd, rfl⟩⟩; (try first | exact ⟨rfl, _, World.drewN_drewN _ _ _⟩ | exact ⟨rfl, _, Eq.trans (World.drewN_drewN _ _ _) (congrArg (World.drewN _) (Nat.add_assoc _ _ _))⟩))))
      go_meet
      case rel => exact ⟨_, (true), (by first | rfl | (simp; done) | (simp [*]; done)), H', ⟨by first | omega | exact Nat.le_refl _⟩, ⟨by repeat (first | (with_reducible first | exact HB.out | apply below_alloc | apply pw_below_drewN | apply below_drew1) | exact HB.out)⟩⟩
  case rest =>
    clear HC4
    try clear p1
    try clear q1
    try clear hx1
    try clear qi1
    try clear p2
    try clear c6
    try clear p6
    try clear c7
    try clear c7b0
    try clear c7b1
    try clear c8
    try clear c8b0
    try clear c8b1
    try clear hx118_0
    try clear p118
    try clear q118
    obtain ⟨kq, x34_3, rfl, HA, HJ3, HB⟩ := hcut
    cases kq with
    | zero => exact absurd HA.out (by simp [spec_rvWays.j0])
    | succ kj3 =>
      have H := HA.out
      clear HA
      simp only [spec_rvWays.j0] at H
      by_cases c9 : x34_3 = true
      · subst c9
        have H1 : (some (([] : List (List Int)), false)) = some (r1, r2) := by rw [if_pos rfl] at H; exact H
        clear H
        have H := H1
        clear H1
        simp only [Option.some.injEq, Prod.mk.injEq] at H
        obtain ⟨rfl, rfl⟩ := H
        go_wp2
        repeat (go_quiet (fail); try go_wp2)
        go_ret2
        exact ⟨_, by first | rfl | (simp [errW_none, errW_some] <;> rfl) | (simp [*, errW_none, errW_some] <;> rfl), by first | exact Kd.S_nil _ _ _ _ _ | exact Kd.N_nil _ _ _ _ _ | exact Kd.V_nil _ _ _ _ _ | exact Kd.Q_nil _ _ _ _ _ | exact Kd.R_nil _ _ _ _ _, by repeat (first | (with_reducible first | exact HB.out | apply below_alloc | apply pw_below_drewN | apply below_drew1) | exact HB.out)⟩
      · replace c9 := Bool.eq_false_iff.mpr c9
        subst c9
        have H1 : (spec_rvWays.l0 kj3 l0 a1 a2 (wrap64 ((l0.length : Int) - a1)) (wrap64 (Int.tdiv (wrap64 (a1 + 1)) 2)) ([] : List (List Int)) 0) = some (r1, r2) := by rw [if_neg (show ¬ (false = true) by decide)] at H; exact H
        clear H
        have H := H1
        clear H1
        have H' := Aside0.mk H
        clear H
        go_wp2
        repeat (go_quiet (fail); try go_wp2)
        go_loopg [10, 11] kj3 (fun kq v10 v11 w' => ∃ (x10_2 : List (List Int)) (x11_2 : Int), v11 = .int .i64 x11_2 ∧ Aside0 (spec_rvWays.l0 kq l0 a1 a2 (wrap64 ((l0.length : Int) - a1)) (wrap64 (Int.tdiv (wrap64 (a1 + 1)) 2)) x10_2 x11_2 = some (r1, r2)) ∧ Aside0 (kq ≤ kj3) ∧ Aside0 (Kd.S (Kd.slice 3 (Kd.int .i64)) 25 w' w.heap.size (fun _ => True) v10 x10_2) ∧ Aside0 (Below w.heap.size w w'))
        case atStart => exact ⟨(([] : List (List Int))), (0), (by first | rfl | (simp; done) | (simp [*]; done)), H', ⟨Nat.le_refl _⟩, ⟨by first | exact Kd.S_nil _ _ _ _ _ | exact Kd.N_nil _ _ _ _ _ | exact Kd.V_nil _ _ _ _ _ | exact Kd.Q_nil _ _ _ _ _ | exact Kd.R_nil _ _ _ _ _⟩, ⟨by repeat (first | (with_reducible first | exact HB.out | apply below_alloc | apply pw_below_drewN | apply below_drew1) | exact HB.out)⟩⟩
        case round =>
          clear H'
          try clear p1
          try clear q1
          try clear hx1
          try clear qi1
          try clear p2
          try clear c6
          try clear p6
          try clear c7
          try clear c7b0
          try clear c7b1
          try clear c8
          try clear c8b0
          try clear c8b1
          try clear c9
          try clear hx118_0
          try clear p1
          try clear p118
          try clear p2
          try clear p6
          try clear q1
          try clear q118
          obtain ⟨x10_2, x11_2, rfl, HA, HK2, HO_10, HB⟩ := hrel
          cases gk with
          | zero => exact absurd HA.out (by simp [spec_rvWays.l0])
          | succ k2 =>
            have H := HA.out
            clear HA
            simp only [spec_rvWays.l0] at H
            obtain ⟨ji10, hji10⟩ : ∃ j_ : Int, (wrap64 (Int.tdiv (wrap64 (a1 + 1)) 2)) = j_ := ⟨_, rfl⟩
            replace H : (if 0 ≤ (ji10) then (if x11_2 < (shl .i64 1 (ji10)) then (if 0 ≤ a1 then (if (a1 : Int).toNat ≤ 35184372088832 then (spec_rvWays.l1 k2 l0 a1 a2 (wrap64 ((l0.length : Int) - a1)) (ji10) x10_2 x11_2 (List.replicate (a1 : Int).toNat 0) 0 true (wrap64 (a1 - 1))) else (none)) else (none)) else (some (x10_2, true))) else (none)) = some (r1, r2) := by first | (rw [hji10] at H; exact H) | (simp only [hji10] at H ⊢; exact H)
            have hji10w : (IntKind.i64.wrap (Int.tdiv (wrap64 (a1 + 1)) 2)) = ji10 := (i64_w _).trans hji10
            by_cases c11 : 0 ≤ (ji10)
            · rw [if_pos c11] at H
              have c11b0 := eq_true c11
              have c11b1 : decide (0 ≤ (ji10)) = true := decide_eq_true c11
              clear c11
              obtain ⟨ji12, hji12⟩ : ∃ j_ : Int, (shl .i64 1 (ji10)) = j_ := ⟨_, rfl⟩
              replace H : (if x11_2 < (ji12) then (if 0 ≤ a1 then (if (a1 : Int).toNat ≤ 35184372088832 then (spec_rvWays.l1 k2 l0 a1 a2 (wrap64 ((l0.length : Int) - a1)) (ji10) x10_2 x11_2 (List.replicate (a1 : Int).toNat 0) 0 true (wrap64 (a1 - 1))) else (none)) else (none)) else (some (x10_2, true))) = some (r1, r2) := by first | (rw [hji12] at H; exact H) | (simp only [hji12] at H ⊢; exact H)
              have hji12_ : (IntKind.i64.wrap (1 * 2 ^ min (ji10).toNat 64)) = ji12 := hji12
              have hji12z : (ji10) ≤ 64 → (IntKind.i64.wrap (1 * 2 ^ (ji10).toNat)) = ji12 := shl_small hji12
              have hji12u : (IntKind.i64.wrap (2 ^ min (ji10).toNat 64)) = ji12 := by have h_ := hji12_; rw [Int.one_mul] at h_; exact h_
              have hji12v : (ji10) ≤ 64 → (IntKind.i64.wrap (2 ^ (ji10).toNat)) = ji12 := fun hle_ => by have h_ := hji12z hle_; rw [Int.one_mul] at h_; exact h_
              have hji12y : (wrap64 (1 * 2 ^ min (ji10).toNat 64)) = ji12 := (i64_w _).symm.trans hji12_
              have hji12x : (ji10) ≤ 64 → (wrap64 (1 * 2 ^ (ji10).toNat)) = ji12 := fun h_ => (i64_w _).symm.trans (hji12z h_)
              by_cases c13 : x11_2 < (ji12)
              · rw [if_pos c13] at H
                have c13b0 : decide (x11_2 < (ji12)) = true := decide_eq_true c13
                clear c13
                by_cases c14 : 0 ≤ a1
                · rw [if_pos c14] at H
                  have c14b0 := eq_true c14
                  have c14b1 : decide (0 ≤ a1) = true := decide_eq_true c14
                  clear c14
                  by_cases c15 : (a1 : Int).toNat ≤ 35184372088832
                  · rw [if_pos c15] at H
                    have c15b0 := eq_true c15
                    have c15b1 : decide ((a1 : Int).toNat ≤ 35184372088832) = true := decide_eq_true c15
                    clear c15
                    obtain ⟨y119, hy119⟩ : ∃ y_ : List Int, y_ = (List.replicate (a1 : Int).toNat 0) := ⟨_, rfl⟩
                    replace H : (spec_rvWays.l1 k2 l0 a1 a2 (wrap64 ((l0.length : Int) - a1)) (ji10) x10_2 x11_2 y119 0 true (wrap64 (a1 - 1))) = some (r1, r2) := by first | (rw [hy119]; with_reducible exact H) | (have H2_ := (Option.bind_some _ _).symm.trans H; rw [hy119]; with_reducible exact H2_) | (have H2_ := (Option.bind_some _ _).symm.trans H; with_reducible exact H2_) | with_reducible exact H | (rw [hy119]; exact H) | exact H
                    have Ny119 := Aside0.mk hy119
                    clear hy119
                    have H' := Aside0.mk H
                    clear H
                    go_wp2_with (first | ((with_reducible refine gate_dst (N := 45) rfl ?_); refine Kd.R_make (Kd.int .i64) _ 3 rfl (N := 45) rfl 25 _ _ rfl a1 rfl rfl Try.underlying25 (.int .i64 0) 8 info3 rfl (by decide) (by omega) 0 (ok := fun _ => True) (okp := fun _ => True) rfl (fun _ hk => hk) trivial (of_decide_eq_true (by first | (with_reducible assumption) | assumption)) (Nat.le_trans (Nat.mul_le_mul_right _ (of_decide_eq_true (by first | (with_reducible assumption) | assumption) : a1.toNat ≤ 35184372088832)) (by omega)) (Below.refl _ _) (Nat.le_refl _) ?_; intro v120 w16 ho17 hb hg_ hnew_; clear hg_ hnew_; (first | rw [← Ny119.out] at ho17 | (simp only [Int.reduceToNat] at ho17; rw [← Ny119.out] at ho17)); have n0_ := Aside0.mk (Kd.S_elder' (by (with_reducible repeat (first | apply Kd.S_alloc | apply Kd.S_drewN | apply Kd.S_drew)); exact HO_10.out) (Kd.R_base ho17) hb); have n1_ := Aside0.mk (Kd.R_lower ho17 (below_size (by repeat (first | (with_reducible first | exact HB.out | apply below_alloc | apply pw_below_drewN | apply below_drew1) | exact HB.out)))); have n2_ := Aside0.mk (below_step (by repeat (first | (with_reducible first | exact HB.out | apply below_alloc | apply pw_below_drewN | apply below_drew1) | exact HB.out)) hb); clear HO_10; clear HB; have HO_10 := n0_; have HO121 := n1_; have HB := n2_; clear n0_ n1_ n2_; clear hb ho17))
                    repeat (go_quiet (first | ((with_reducible refine gate_dst (N := 45) rfl ?_); refine Kd.R_make (Kd.int .i64) _ 3 rfl (N := 45) rfl 25 _ _ rfl a1 rfl rfl Try.underlying25 (.int .i64 0) 8 info3 rfl (by decide) (by omega) 0 (ok := fun _ => True) (okp := fun _ => True) rfl (fun _ hk => hk) trivial (of_decide_eq_true (by first | (with_reducible assumption) | assumption)) (Nat.le_trans (Nat.mul_le_mul_right _ (of_decide_eq_true (by first | (with_reducible assumption) | assumption) : a1.toNat ≤ 35184372088832)) (by omega)) (Below.refl _ _) (Nat.le_refl _) ?_; intro v120 w16 ho17 hb hg_ hnew_; clear hg_ hnew_; (first | rw [← Ny119.out] at ho17 | (simp only [Int.reduceToNat] at ho17; rw [← Ny119.out] at ho17)); have n0_ := Aside0.mk (Kd.S_elder' (by (with_reducible repeat (first | apply Kd.S_alloc | apply Kd.S_drewN | apply Kd.S_drew)); exact HO_10.out) (Kd.R_base ho17) hb); have n1_ := Aside0.mk (Kd.R_lower ho17 (below_size (by repeat (first | (with_reducible first | exact HB.out | apply below_alloc | apply pw_below_drewN | apply below_drew1) | exact HB.out)))); have n2_ := Aside0.mk (below_step (by repeat (first | (with_reducible first | exact HB.out | apply below_alloc | apply pw_below_drewN | apply below_drew1) | exact HB.out)) hb); clear HO_10; clear HB; have HO_10 := n0_; have HO121 := n1_; have HB := n2_; clear n0_ n1_ n2_; clear hb ho17)); try go_wp2_with (first | ((with_reducible refine gate_dst (N := 45) rfl ?_); refine Kd.R_make (Kd.int .i64) _ 3 rfl (N := 45) rfl 25 _ _ rfl a1 rfl rfl Try.underlying25 (.int .i64 0) 8 info3 rfl (by decide) (by omega) 0 (ok := fun _ => True) (okp := fun _ => True) rfl (fun _ hk => hk) trivial (of_decide_eq_true (by first | (with_reducible assumption) | assumption)) (Nat.le_trans (Nat.mul_le_mul_right _ (of_decide_eq_true (by first | (with_reducible assumption) | assumption) : a1.toNat ≤ 35184372088832)) (by omega)) (Below.refl _ _) (Nat.le_refl _) ?_; intro v120 w16 ho17 hb hg_ hnew_; clear hg_ hnew_; (first | rw [← Ny119.out] at ho17 | (simp only [Int.reduceToNat] at ho17; rw [← Ny119.out] at ho17)); have n0_ := Aside0.mk (Kd.S_elder' (by (with_reducible repeat (first | apply Kd.S_alloc | apply Kd.S_drewN | apply Kd.S_drew)); exact HO_10.out) (Kd.R_base ho17) hb); have n1_ := Aside0.mk (Kd.R_lower ho17 (below_size (by repeat (first | (with_reducible first | exact HB.out | apply below_alloc | apply pw_below_drewN | apply below_drew1) | exact HB.out)))); have n2_ := Aside0.mk (below_step (by repeat (first | (with_reducible first | exact HB.out | apply below_alloc | apply pw_below_drewN | apply below_drew1) | exact HB.out)) hb); clear HO_10; clear HB; have HO_10 := n0_; have HO121 := n1_; have HB := n2_; clear n0_ n1_ n2_; clear hb ho17)))
                    go_loopg [13, 14, 15] k2 (fun kq v13 v14 v15 w' => ∃ (x12_3 : List Int) (x13_3 : Int) (x14_3 : Bool) (x15_3 : Int), v13 = .int .i64 x13_3 ∧ v14 = .bool x14_3 ∧ v15 = .int .i64 x15_3 ∧ Aside0 (spec_rvWays.l1 kq l0 a1 a2 (wrap64 ((l0.length : Int) - a1)) (ji10) x10_2 x11_2 x12_3 x13_3 x14_3 x15_3 = some (r1, r2)) ∧ Aside0 (kq ≤ k2) ∧ Aside0 (Kd.S (Kd.slice 3 (Kd.int .i64)) 25 w' w.heap.size (fun k_ => some k_ ≠ (v120 : Value).ownBlock) u10 x10_2) ∧ Aside0 (Kd.R (Kd.int .i64) 3 w' w.heap.size (fun _ => True) v120 x12_3) ∧ Aside0 (Below w.heap.size w w'))
                    case atStart => exact ⟨(y119), (0), (true), (wrap64 (a1 - 1)), (by first | rfl | (simp; done) | (simp [*]; done)), (by first | rfl | (simp; done) | (simp [*]; done)), (by first | rfl | (simp; done) | (simp [*]; done)), H', ⟨Nat.le_refl _⟩, ⟨by (with_reducible repeat (first | apply Kd.S_alloc | apply Kd.S_drewN | apply Kd.S_drew)); exact Kd.S_mono HO_10.out (fun _ hk => hk.2)⟩, ⟨by (with_reducible repeat (first | apply Kd.R_alloc | apply Kd.R_drewN | apply Kd.R_drew)); exact HO121.out⟩, ⟨by repeat (first | (with_reducible first | exact HB.out | apply below_alloc | apply pw_below_drewN | apply below_drew1) | exact HB.out)⟩⟩
                    case round =>
                      clear H'
                      try clear c1
                      try clear p1
                      try clear q1
                      try clear hx1
                      try clear qi1
                      try clear p2
                      try clear c6
                      try clear p6
                      try clear c7
                      try clear c7b0
                      try clear c7b1
                      try clear c8
                      try clear c8b0
                      try clear c8b1
                      try clear c9
                      try clear c11
                      try clear c11b0
                      try clear c11b1
                      try clear p11
                      try clear q11
                      try clear hx11
                      try clear qi11
                      try clear c13
                      try clear c13b0
                      try clear c14
                      try clear c14b0
                      try clear c14b1
                      try clear c15
                      try clear c15b0
                      try clear c15b1
                      try clear hx118_0
                      try clear p1
                      try clear p118
                      try clear p2
                      try clear p6
                      try clear q1
                      try clear q118
                      obtain ⟨x12_3, x13_3, x14_3, x15_3, rfl, rfl, rfl, HA, HK3, HO_10, HO_12, HB⟩ := hrel
                      cases gk with
                      | zero => exact absurd HA.out (by simp [spec_rvWays.l1])
                      | succ k3 =>
                        have H := HA.out
                        clear HA
                        simp only [spec_rvWays.l1] at H
                        have HC18 := Aside0.mk H
                        clear H
                        go_upto_region 12 with (fail)
                        repeat (go_quiet (fail); go_upto_region 12 with (fail))
                        go_cut [52] (fun v52 wc => ∃ (kq : Nat) (x52_17 : Bool), v52 = .bool x52_17 ∧ Aside0 (spec_rvWays.j3 kq l0 a1 a2 (wrap64 ((l0.length : Int) - a1)) (ji10) x10_2 x11_2 x12_3 x13_3 x14_3 x15_3 x52_17 = some (r1, r2)) ∧ Aside0 (kq ≤ k3) ∧ Aside0 (Kd.S (Kd.slice 3 (Kd.int .i64)) 25 wc w.heap.size (fun k_ => some k_ ≠ (v120 : Value).ownBlock) u10 x10_2) ∧ Aside0 (Kd.R (Kd.int .i64) 3 wc w.heap.size (fun _ => True) v120 x12_3) ∧ Aside0 (Below w.heap.size w wc))
                        case first =>
                          have H := HC18.out
                          clear HC18
                          by_cases c19 : x15_3 ≥ 0
                          · rw [if_pos c19] at H
                            have c19b0 : decide (0 ≤ x15_3) = true := decide_eq_true c19
                            clear c19
                            (first | rw [c19b0] | (simp only [i64_w, i32_w]; rw [c19b0]) | skip)
                            have H' := Aside0.mk H
                            clear H
                            go_wp2
                            repeat (go_quiet (fail); try go_wp2)
                            go_meet
                            case rel => exact ⟨_, (x14_3), (by first | rfl | (simp; done) | (simp [*]; done)), H', ⟨by have := HJ3.out; have := HK2.out; have := HK3.out; first | omega | exact Nat.le_refl _⟩, ⟨by (with_reducible repeat (first | apply Kd.S_alloc | apply Kd.S_drewN | apply Kd.S_drew)); exact HO_10.out⟩, ⟨by (with_reducible repeat (first | apply Kd.R_alloc | apply Kd.R_drewN | apply Kd.R_drew)); exact HO_12.out⟩, ⟨by repeat (first | (with_reducible first | exact HB.out | apply below_alloc | apply pw_below_drewN | apply below_drew1) | exact HB.out)⟩⟩
                          · rw [if_neg c19] at H
                            have c19b0 : decide (0 ≤ x15_3) = false := decide_eq_false c19
                            clear c19
                            (first | rw [c19b0] | (simp only [i64_w, i32_w]; rw [c19b0]) | skip)
                            have H' := Aside0.mk H
                            clear H
                            go_wp2
                            repeat (go_quiet (fail); try go_wp2)
                            go_meet
                            case rel => exact ⟨_, (false), (by first | rfl | (simp; done) | (simp [*]; done)), H', ⟨by have := HJ3.out; have := HK2.out; have := HK3.out; first | omega | exact Nat.le_refl _⟩, ⟨by (with_reducible repeat (first | apply Kd.S_alloc | apply Kd.S_drewN | apply Kd.S_drew)); exact HO_10.out⟩, ⟨by (with_reducible repeat (first | apply Kd.R_alloc | apply Kd.R_drewN | apply Kd.R_drew)); exact HO_12.out⟩, ⟨by repeat (first | (with_reducible first | exact HB.out | apply below_alloc | apply pw_below_drewN | apply below_drew1) | exact HB.out)⟩⟩
                        case rest =>
                          clear HC18
                          try clear c1
                          try clear p1
                          try clear q1
                          try clear hx1
                          try clear qi1
                          try clear p2
                          try clear c6
                          try clear p6
                          try clear c7
                          try clear c7b0
                          try clear c7b1
                          try clear c8
                          try clear c8b0
                          try clear c8b1
                          try clear c9
                          try clear c11
                          try clear c11b0
                          try clear c11b1
                          try clear p11
                          try clear q11
                          try clear hx11
                          try clear qi11
                          try clear c13
                          try clear c13b0
                          try clear c14
                          try clear c14b0
                          try clear c14b1
                          try clear c15
                          try clear c15b0
                          try clear c15b1
                          try clear c19
                          try clear c19b0
                          try clear hx118_0
                          try clear p1
                          try clear p11
                          try clear p118
                          try clear p2
                          try clear p6
                          try clear q1
                          try clear q11
                          try clear q118
                          obtain ⟨kq, x52_17, rfl, HA, HJ17, HO_10, HO_12, HB⟩ := hcut
                          cases kq with
                          | zero => exact absurd HA.out (by simp [spec_rvWays.j3])
                          | succ kj17 =>
                            have H := HA.out
                            clear HA
                            simp only [spec_rvWays.j3] at H
                            by_cases c20 : x52_17 = true
                            · subst c20
                              have H1 : ((spec_l1Least.f x15_3 (wrap64 ((wrap64 (a1 - 1)) - x15_3))).bind fun t125 => (if x15_3 ≥ (wrap64 (a1 - (ji10))) then (if 0 ≤ (wrap64 ((wrap64 (a1 - 1)) - x15_3)) then (if 0 ≤ (wrap64 ((wrap64 ((l0.length : Int) - a1)) + x15_3)) then (if (wrap64 ((wrap64 ((l0.length : Int) - a1)) + x15_3)) < (l0.length : Int) then (if 0 ≤ x15_3 then (if x15_3 < (x12_3.length : Int) then ((some (x12_3.set (x15_3 : Int).toNat (wrap64 ((wrap64 ((rd l0 (wrap64 ((wrap64 ((l0.length : Int) - a1)) + x15_3))) + (wrap64 (a2 * (Int.tmod (shr .i64 x11_2 (wrap64 ((wrap64 (a1 - 1)) - x15_3))) 2))))) - x13_3)) : List Int)).bind fun y127 => ((spec_l1In.f (rd y127 x15_3) 0 (wrap64 ((wrap64 (2 * a2)) - 2))).bind fun t129 => (if t129 = true then (if a2 = 0 then (none) else (if 0 ≤ t125 then (if t125 < (x12_3.length : Int) then (spec_rvWays.l1 kj17 l0 a1 a2 (wrap64 ((l0.length : Int) - a1)) (ji10) x10_2 x11_2 (y127.set (t125 : Int).toNat (rd y127 x15_3)) (Int.tmod (shr .i64 x11_2 (wrap64 ((wrap64 (a1 - 1)) - x15_3))) 2) ((wrap64 (Int.tdiv (wrap64 ((rd y127 x15_3) + x13_3)) a2)) == (Int.tmod (shr .i64 x11_2 (wrap64 ((wrap64 (a1 - 1)) - x15_3))) 2)) (wrap64 (x15_3 - 1))) else (none)) else (none))) else (if 0 ≤ t125 then (if t125 < (x12_3.length : Int) then (spec_rvWays.l1 kj17 l0 a1 a2 (wrap64 ((l0.length : Int) - a1)) (ji10) x10_2 x11_2 (y127.set (t125 : Int).toNat (rd y127 x15_3)) (Int.tmod (shr .i64 x11_2 (wrap64 ((wrap64 (a1 - 1)) - x15_3))) 2) false (wrap64 (x15_3 - 1))) else (none)) else (none))))) else (none)) else (none)) else (none)) else (none)) else (none)) else (if 0 ≤ t125 then (if t125 < (x12_3.length : Int) then (if a2 = 0 then (none) else (if 0 ≤ (wrap64 ((wrap64 ((l0.length : Int) - a1)) + x15_3)) then (if (wrap64 ((wrap64 ((l0.length : Int) - a1)) + x15_3)) < (l0.length : Int) then (spec_rvWays.l1 kj17 l0 a1 a2 (wrap64 ((l0.length : Int) - a1)) (ji10) x10_2 x11_2 x12_3 (wrap64 (Int.tdiv (wrap64 ((rd x12_3 t125) + x13_3)) a2)) ((Int.tmod (wrap64 ((rd x12_3 t125) + x13_3)) a2) == (rd l0 (wrap64 ((wrap64 ((l0.length : Int) - a1)) + x15_3)))) (wrap64 (x15_3 - 1))) else (none)) else (none))) else (none)) else (none)))) = some (r1, r2) := by rw [if_pos rfl] at H; exact H
                              clear H
                              have H := H1
                              clear H1
                              replace H := Option.bind_eq_some_iff.mp H
                              obtain ⟨t125, A210, H⟩ := H
                              replace H : (if x15_3 ≥ (wrap64 (a1 - (ji10))) then (if 0 ≤ (wrap64 ((wrap64 (a1 - 1)) - x15_3)) then (if 0 ≤ (wrap64 ((wrap64 ((l0.length : Int) - a1)) + x15_3)) then (if (wrap64 ((wrap64 ((l0.length : Int) - a1)) + x15_3)) < (l0.length : Int) then (if 0 ≤ x15_3 then (if x15_3 < (x12_3.length : Int) then ((some (x12_3.set (x15_3 : Int).toNat (wrap64 ((wrap64 ((rd l0 (wrap64 ((wrap64 ((l0.length : Int) - a1)) + x15_3))) + (wrap64 (a2 * (Int.tmod (shr .i64 x11_2 (wrap64 ((wrap64 (a1 - 1)) - x15_3))) 2))))) - x13_3)) : List Int)).bind fun y127 => ((spec_l1In.f (rd y127 x15_3) 0 (wrap64 ((wrap64 (2 * a2)) - 2))).bind fun t129 => (if t129 = true then (if a2 = 0 then (none) else (if 0 ≤ t125 then (if t125 < (x12_3.length : Int) then (spec_rvWays.l1 kj17 l0 a1 a2 (wrap64 ((l0.length : Int) - a1)) (ji10) x10_2 x11_2 (y127.set (t125 : Int).toNat (rd y127 x15_3)) (Int.tmod (shr .i64 x11_2 (wrap64 ((wrap64 (a1 - 1)) - x15_3))) 2) ((wrap64 (Int.tdiv (wrap64 ((rd y127 x15_3) + x13_3)) a2)) == (Int.tmod (shr .i64 x11_2 (wrap64 ((wrap64 (a1 - 1)) - x15_3))) 2)) (wrap64 (x15_3 - 1))) else (none)) else (none))) else (if 0 ≤ t125 then (if t125 < (x12_3.length : Int) then (spec_rvWays.l1 kj17 l0 a1 a2 (wrap64 ((l0.length : Int) - a1)) (ji10) x10_2 x11_2 (y127.set (t125 : Int).toNat (rd y127 x15_3)) (Int.tmod (shr .i64 x11_2 (wrap64 ((wrap64 (a1 - 1)) - x15_3))) 2) false (wrap64 (x15_3 - 1))) else (none)) else (none))))) else (none)) else (none)) else (none)) else (none)) else (none)) else (if 0 ≤ t125 then (if t125 < (x12_3.length : Int) then (if a2 = 0 then (none) else (if 0 ≤ (wrap64 ((wrap64 ((l0.length : Int) - a1)) + x15_3)) then (if (wrap64 ((wrap64 ((l0.length : Int) - a1)) + x15_3)) < (l0.length : Int) then (spec_rvWays.l1 kj17 l0 a1 a2 (wrap64 ((l0.length : Int) - a1)) (ji10) x10_2 x11_2 x12_3 (wrap64 (Int.tdiv (wrap64 ((rd x12_3 t125) + x13_3)) a2)) ((Int.tmod (wrap64 ((rd x12_3 t125) + x13_3)) a2) == (rd l0 (wrap64 ((wrap64 ((l0.length : Int) - a1)) + x15_3)))) (wrap64 (x15_3 - 1))) else (none)) else (none))) else (none)) else (none))) = some (r1, r2) := H
                              have A21 := Aside0.mk A210
                              clear A210
                              by_cases c22 : x15_3 ≥ (wrap64 (a1 - (ji10)))
                              · rw [if_pos c22] at H
                                have c22b0 : decide ((wrap64 (a1 - (ji10))) ≤ x15_3) = true := decide_eq_true c22
                                clear c22
                                obtain ⟨ji23, hji23⟩ : ∃ j_ : Int, (wrap64 ((wrap64 (a1 - 1)) - x15_3)) = j_ := ⟨_, rfl⟩
                                replace H : (if 0 ≤ (ji23) then (if 0 ≤ (wrap64 ((wrap64 ((l0.length : Int) - a1)) + x15_3)) then (if (wrap64 ((wrap64 ((l0.length : Int) - a1)) + x15_3)) < (l0.length : Int) then (if 0 ≤ x15_3 then (if x15_3 < (x12_3.length : Int) then ((some (x12_3.set (x15_3 : Int).toNat (wrap64 ((wrap64 ((rd l0 (wrap64 ((wrap64 ((l0.length : Int) - a1)) + x15_3))) + (wrap64 (a2 * (Int.tmod (shr .i64 x11_2 (ji23)) 2))))) - x13_3)) : List Int)).bind fun y127 => ((spec_l1In.f (rd y127 x15_3) 0 (wrap64 ((wrap64 (2 * a2)) - 2))).bind fun t129 => (if t129 = true then (if a2 = 0 then (none) else (if 0 ≤ t125 then (if t125 < (x12_3.length : Int) then (spec_rvWays.l1 kj17 l0 a1 a2 (wrap64 ((l0.length : Int) - a1)) (ji10) x10_2 x11_2 (y127.set (t125 : Int).toNat (rd y127 x15_3)) (Int.tmod (shr .i64 x11_2 (ji23)) 2) ((wrap64 (Int.tdiv (wrap64 ((rd y127 x15_3) + x13_3)) a2)) == (Int.tmod (shr .i64 x11_2 (ji23)) 2)) (wrap64 (x15_3 - 1))) else (none)) else (none))) else (if 0 ≤ t125 then (if t125 < (x12_3.length : Int) then (spec_rvWays.l1 kj17 l0 a1 a2 (wrap64 ((l0.length : Int) - a1)) (ji10) x10_2 x11_2 (y127.set (t125 : Int).toNat (rd y127 x15_3)) (Int.tmod (shr .i64 x11_2 (ji23)) 2) false (wrap64 (x15_3 - 1))) else (none)) else (none))))) else (none)) else (none)) else (none)) else (none)) else (none)) = some (r1, r2) := by first | (rw [hji23] at H; exact H) | (simp only [hji23] at H ⊢; exact H)
                                (try rw [hji23] at A21)
                                have hji23w : (IntKind.i64.wrap ((wrap64 (a1 - 1)) - x15_3)) = ji23 := (i64_w _).trans hji23
                                by_cases c24 : 0 ≤ (ji23)
                                · rw [if_pos c24] at H
                                  have c24b0 := eq_true c24
                                  have c24b1 : decide (0 ≤ (ji23)) = true := decide_eq_true c24
                                  clear c24
                                  obtain ⟨ji25, hji25⟩ : ∃ j_ : Int, (shr .i64 x11_2 (ji23)) = j_ := ⟨_, rfl⟩
                                  replace H : (if 0 ≤ (wrap64 ((wrap64 ((l0.length : Int) - a1)) + x15_3)) then (if (wrap64 ((wrap64 ((l0.length : Int) - a1)) + x15_3)) < (l0.length : Int) then (if 0 ≤ x15_3 then (if x15_3 < (x12_3.length : Int) then ((some (x12_3.set (x15_3 : Int).toNat (wrap64 ((wrap64 ((rd l0 (wrap64 ((wrap64 ((l0.length : Int) - a1)) + x15_3))) + (wrap64 (a2 * (Int.tmod (ji25) 2))))) - x13_3)) : List Int)).bind fun y127 => ((spec_l1In.f (rd y127 x15_3) 0 (wrap64 ((wrap64 (2 * a2)) - 2))).bind fun t129 => (if t129 = true then (if a2 = 0 then (none) else (if 0 ≤ t125 then (if t125 < (x12_3.length : Int) then (spec_rvWays.l1 kj17 l0 a1 a2 (wrap64 ((l0.length : Int) - a1)) (ji10) x10_2 x11_2 (y127.set (t125 : Int).toNat (rd y127 x15_3)) (Int.tmod (ji25) 2) ((wrap64 (Int.tdiv (wrap64 ((rd y127 x15_3) + x13_3)) a2)) == (Int.tmod (ji25) 2)) (wrap64 (x15_3 - 1))) else (none)) else (none))) else (if 0 ≤ t125 then (if t125 < (x12_3.length : Int) then (spec_rvWays.l1 kj17 l0 a1 a2 (wrap64 ((l0.length : Int) - a1)) (ji10) x10_2 x11_2 (y127.set (t125 : Int).toNat (rd y127 x15_3)) (Int.tmod (ji25) 2) false (wrap64 (x15_3 - 1))) else (none)) else (none))))) else (none)) else (none)) else (none)) else (none)) = some (r1, r2) := by first | (rw [hji25] at H; exact H) | (simp only [hji25] at H ⊢; exact H)
                                  (try rw [hji25] at A21)
                                  have hji25_ : (x11_2 / 2 ^ min (ji23).toNat 64) = ji25 := hji25
                                  have hji25z : (ji23) ≤ 64 → (x11_2 / 2 ^ (ji23).toNat) = ji25 := shr_small hji25
                                  obtain ⟨ji26, hji26⟩ : ∃ j_ : Int, (wrap64 ((wrap64 ((l0.length : Int) - a1)) + x15_3)) = j_ := ⟨_, rfl⟩
                                  replace H : (if 0 ≤ (ji26) then (if (ji26) < (l0.length : Int) then (if 0 ≤ x15_3 then (if x15_3 < (x12_3.length : Int) then ((some (x12_3.set (x15_3 : Int).toNat (wrap64 ((wrap64 ((rd l0 (ji26)) + (wrap64 (a2 * (Int.tmod (ji25) 2))))) - x13_3)) : List Int)).bind fun y127 => ((spec_l1In.f (rd y127 x15_3) 0 (wrap64 ((wrap64 (2 * a2)) - 2))).bind fun t129 => (if t129 = true then (if a2 = 0 then (none) else (if 0 ≤ t125 then (if t125 < (x12_3.length : Int) then (spec_rvWays.l1 kj17 l0 a1 a2 (wrap64 ((l0.length : Int) - a1)) (ji10) x10_2 x11_2 (y127.set (t125 : Int).toNat (rd y127 x15_3)) (Int.tmod (ji25) 2) ((wrap64 (Int.tdiv (wrap64 ((rd y127 x15_3) + x13_3)) a2)) == (Int.tmod (ji25) 2)) (wrap64 (x15_3 - 1))) else (none)) else (none))) else (if 0 ≤ t125 then (if t125 < (x12_3.length : Int) then (spec_rvWays.l1 kj17 l0 a1 a2 (wrap64 ((l0.length : Int) - a1)) (ji10) x10_2 x11_2 (y127.set (t125 : Int).toNat (rd y127 x15_3)) (Int.tmod (ji25) 2) false (wrap64 (x15_3 - 1))) else (none)) else (none))))) else (none)) else (none)) else (none)) else (none)) = some (r1, r2) := by first | (rw [hji26] at H; exact H) | (simp only [hji26] at H ⊢; exact H)
                                  (try rw [hji26] at A21)
                                  have hji26w : (IntKind.i64.wrap ((wrap64 ((l0.length : Int) - a1)) + x15_3)) = ji26 := (i64_w _).trans hji26
                                  by_cases c27 : 0 ≤ (ji26)
                                  · rw [if_pos c27] at H
                                    have c27b0 : decide (0 ≤ (ji26)) = true := decide_eq_true c27
                                    clear c27
                                    by_cases c28 : (ji26) < (l0.length : Int)
                                    · rw [if_pos c28] at H
                                      have c28b0 : decide ((ji26) < (l0.length : Int)) = true := decide_eq_true c28
                                      clear c28
                                      by_cases c29 : 0 ≤ x15_3
                                      · rw [if_pos c29] at H
                                        have c29b0 : decide (0 ≤ x15_3) = true := decide_eq_true c29
                                        clear c29
                                        by_cases c30 : x15_3 < (x12_3.length : Int)
                                        · rw [if_pos c30] at H
                                          have c30b0 : decide (x15_3 < (x12_3.length : Int)) = true := decide_eq_true c30
                                          clear c30
                                          obtain ⟨y127, hy127⟩ : ∃ y_ : List Int, y_ = (x12_3.set (x15_3 : Int).toNat (wrap64 ((wrap64 ((rd l0 (ji26)) + (wrap64 (a2 * (Int.tmod (ji25) 2))))) - x13_3))) := ⟨_, rfl⟩
                                          replace H : ((spec_l1In.f (rd y127 x15_3) 0 (wrap64 ((wrap64 (2 * a2)) - 2))).bind fun t129 => (if t129 = true then (if a2 = 0 then (none) else (if 0 ≤ t125 then (if t125 < (x12_3.length : Int) then (spec_rvWays.l1 kj17 l0 a1 a2 (wrap64 ((l0.length : Int) - a1)) (ji10) x10_2 x11_2 (y127.set (t125 : Int).toNat (rd y127 x15_3)) (Int.tmod (ji25) 2) ((wrap64 (Int.tdiv (wrap64 ((rd y127 x15_3) + x13_3)) a2)) == (Int.tmod (ji25) 2)) (wrap64 (x15_3 - 1))) else (none)) else (none))) else (if 0 ≤ t125 then (if t125 < (x12_3.length : Int) then (spec_rvWays.l1 kj17 l0 a1 a2 (wrap64 ((l0.length : Int) - a1)) (ji10) x10_2 x11_2 (y127.set (t125 : Int).toNat (rd y127 x15_3)) (Int.tmod (ji25) 2) false (wrap64 (x15_3 - 1))) else (none)) else (none)))) = some (r1, r2) := by first | (rw [hy127]; with_reducible exact H) | (have H2_ := (Option.bind_some _ _).symm.trans H; rw [hy127]; with_reducible exact H2_) | (have H2_ := (Option.bind_some _ _).symm.trans H; with_reducible exact H2_) | with_reducible exact H | (rw [hy127]; exact H) | exact H
                                          have Ny127 := Aside0.mk hy127
                                          clear hy127
                                          replace H := Option.bind_eq_some_iff.mp H
                                          obtain ⟨t129, A320, H⟩ := H
                                          replace H : (if t129 = true then (if a2 = 0 then (none) else (if 0 ≤ t125 then (if t125 < (x12_3.length : Int) then (spec_rvWays.l1 kj17 l0 a1 a2 (wrap64 ((l0.length : Int) - a1)) (ji10) x10_2 x11_2 (y127.set (t125 : Int).toNat (rd y127 x15_3)) (Int.tmod (ji25) 2) ((wrap64 (Int.tdiv (wrap64 ((rd y127 x15_3) + x13_3)) a2)) == (Int.tmod (ji25) 2)) (wrap64 (x15_3 - 1))) else (none)) else (none))) else (if 0 ≤ t125 then (if t125 < (x12_3.length : Int) then (spec_rvWays.l1 kj17 l0 a1 a2 (wrap64 ((l0.length : Int) - a1)) (ji10) x10_2 x11_2 (y127.set (t125 : Int).toNat (rd y127 x15_3)) (Int.tmod (ji25) 2) false (wrap64 (x15_3 - 1))) else (none)) else (none))) = some (r1, r2) := H
                                          have A32 := Aside0.mk A320
                                          clear A320
                                          by_cases c33 : t129 = true
                                          · subst c33
                                            have H1 : (if a2 = 0 then (none) else (if 0 ≤ t125 then (if t125 < (x12_3.length : Int) then (spec_rvWays.l1 kj17 l0 a1 a2 (wrap64 ((l0.length : Int) - a1)) (ji10) x10_2 x11_2 (y127.set (t125 : Int).toNat (rd y127 x15_3)) (Int.tmod (ji25) 2) ((wrap64 (Int.tdiv (wrap64 ((rd y127 x15_3) + x13_3)) a2)) == (Int.tmod (ji25) 2)) (wrap64 (x15_3 - 1))) else (none)) else (none))) = some (r1, r2) := by rw [if_pos rfl] at H; exact H
                                            clear H
                                            have H := H1
                                            clear H1
                                            by_cases c34 : a2 = 0
                                            · rw [if_pos c34] at H
                                              exact absurd H (by simp)
                                            · rw [if_neg c34] at H
                                              have c34b0 : (a2 == 0) = false := beq_eq_false_iff_ne.mpr c34
                                              have c34b1 : (a2 != 0) = true := bne_iff_ne.mpr c34
                                              by_cases c35 : 0 ≤ t125
                                              · rw [if_pos c35] at H
                                                have c35b0 : decide (0 ≤ t125) = true := decide_eq_true c35
                                                clear c35
                                                by_cases c36 : t125 < (x12_3.length : Int)
                                                · rw [if_pos c36] at H
                                                  have c36b0 : decide (t125 < (x12_3.length : Int)) = true := decide_eq_true c36
                                                  clear c36
                                                  obtain ⟨y132, hy132⟩ : ∃ y_ : List Int, y_ = (y127.set (t125 : Int).toNat (rd y127 x15_3)) := ⟨_, rfl⟩
                                                  replace H : (spec_rvWays.l1 kj17 l0 a1 a2 (wrap64 ((l0.length : Int) - a1)) (ji10) x10_2 x11_2 y132 (Int.tmod (ji25) 2) ((wrap64 (Int.tdiv (wrap64 ((rd y127 x15_3) + x13_3)) a2)) == (Int.tmod (ji25) 2)) (wrap64 (x15_3 - 1))) = some (r1, r2) := by first | (rw [hy132]; with_reducible exact H) | (have H2_ := (Option.bind_some _ _).symm.trans H; rw [hy132]; with_reducible exact H2_) | (have H2_ := (Option.bind_some _ _).symm.trans H; with_reducible exact H2_) | with_reducible exact H | (rw [hy132]; exact H) | exact H
                                                  have Ny132 := Aside0.mk hy132
                                                  clear hy132
                                                  have H' := Aside0.mk H
                                                  clear H
                                                  go_wp2_with (first | (go_at_call 88; (with_reducible refine (spec_l1Least.calls x15_3 ji23 t125 _ A21.out).mono ?_); rintro e w' ⟨rfl, ⟨nd, rfl⟩⟩; (try first | exact ⟨rfl, _, World.drewN_drewN _ _ _⟩ | exact ⟨rfl, _, Eq.trans (World.drewN_drewN _ _ _) (congrArg (World.drewN _) (Nat.add_assoc _ _ _))⟩); have p126 : 0 ≤ ((ji26) : Int) := of_decide_eq_true (by first | (with_reducible assumption) | assumption); have q126 : (ji26) < (l0.length : Int) := of_decide_eq_true (by first | (with_reducible assumption) | assumption); obtain ⟨ad126, e126, hx126_0⟩ := Kd.at_int HR0.out (ji26) p126 q126; cases e126; replace hx126_0 := (HB.out.cell (World.block_lt_of_cell? w _ hx126_0)).trans hx126_0; replace p126 := eq_true p126; replace q126 := eq_true q126; have p31 : 0 ≤ (x15_3 : Int) := of_decide_eq_true (by first | (with_reducible assumption) | assumption); have q31 : (x15_3 : Int) < ((x12_3.length : Int) : Int) := of_decide_eq_true (by first | (with_reducible assumption) | assumption); obtain ⟨go31, co31, eo31, gb31, gl31, cl31, HG31⟩ := Kd.R_form HO_12.out (by omega); (first | cases eo31 | (injection eo31 with ea_ en_ ec_; (first | subst ea_ | (injection ea_ with ea_; subst ea_)); subst ec_; clear en_)); have GB31 := Aside0.mk gb31; have GG31 := Aside0.mk HG31; clear gb31 gl31 HG31; obtain ⟨hx31_0, hf31_0⟩ := Kd.R_celln 0 HO_12.out (x15_3 : Int) p31 q31; replace p31 := eq_true p31; replace q31 := eq_true q31; obtain ⟨hy38_, hz38_⟩ := Kd.R_celln 0 HO_12.out (x15_3 : Int) (of_decide_eq_true (by first | (with_reducible assumption) | assumption)) (of_decide_eq_true (by first | (with_reducible assumption) | assumption)); have HP38 := Kd.R_putg HO_12.out (x15_3 : Int) (wrap64 ((wrap64 ((rd l0 (ji26)) + (wrap64 (a2 * (Int.tmod (ji25) 2))))) - x13_3))) | ((with_reducible refine gate_store (t := 3) (p := 87) rfl ?_); (try (rw [drewN_self wc]; generalize hq_ : World.drewN wc _ = wc; have n0_ := Aside0.mk (Kd.S_at hq_ HO_10.out); have n1_ := Aside0.mk (Kd.R_at hq_ HO_12.out); have n2_ := Aside0.mk (below_at hq_ HB.out); clear hq_ HO_10 HO_12 HB; have HO_10 := n0_; have HO_12 := n1_; have HB := n2_; clear n0_ n1_ n2_; (try (obtain ⟨hy38_, hz38_⟩ := Kd.R_celln 0 HO_12.out (x15_3 : Int) (of_decide_eq_true (by first | (with_reducible assumption) | assumption)) (of_decide_eq_true (by first | (with_reducible assumption) | assumption)))); (try (have HP38 := Kd.R_putg HO_12.out (x15_3 : Int) (wrap64 ((wrap64 ((rd l0 (ji26)) + (wrap64 (a2 * (Int.tmod (ji25) 2))))) - x13_3)))))); refine store_event (t := 3) (p := 87) (v := ?vo_w39) (w1 := (wc.setCell ⟨go31, (x15_3 : Int).toNat, none⟩ (.int .i64 (wrap64 ((wrap64 ((rd l0 (ji26)) + (wrap64 (a2 * (Int.tmod (ji25) 2))))) - x13_3))))) ?hg ?ho ?hn ?hr ?_; (case ho => rfl); (case hg => rfl); (case hn => rfl); (case hr => first | (go_simp; done) | (go_simp; rfl)); intro w39 hw; have hg : wc.grownBy w39 (some go31) := (by rw [hw]; exact HP38.2); have hp_ : Kd.R (Kd.int .i64) 3 w39 w.heap.size (fun _ => True) (.slice (some ⟨go31, 0, none⟩) x12_3.length co31) y127 := (by rw [hw, Ny127.out]; exact HP38.1); clear HP38; have n0_ := Aside0.mk (Kd.S_after (v := (.slice (some ⟨go31, 0, none⟩) x12_3.length co31)) (v1 := (.slice (some ⟨go31, 0, none⟩) x12_3.length co31)) (ok := (fun _ => True)) (by (with_reducible repeat (first | apply Kd.S_alloc | apply Kd.S_drewN | apply Kd.S_drew)); exact Kd.S_mono HO_10.out (fun _ hk => ⟨trivial, hk⟩)) hg (.inl rfl)); have n1_ := Aside0.mk (hp_); have n2_ := Aside0.mk ((by rw [hw]; exact below_set (HB.out) GB31.out : Below w.heap.size w w39)); clear HO_10; clear HO_12; clear HB; have HO_10 := n0_; have HO_12 := n1_; have HB := n2_; clear n0_ n1_ n2_; clear hg hw hp_; have p128 : 0 ≤ (x15_3 : Int) := of_decide_eq_true (by first | (with_reducible assumption) | assumption); have q128 : x15_3 < (y127.length : Int) := (by have h_ : (x15_3 : Int) < ((x12_3.length : Int) : Int) := of_decide_eq_true (by first | (with_reducible assumption) | assumption); first | (have e_ := (Kd.R_reads' HO_12.out).1; omega) | simpa only [Ny127.out, List.length_set] using h_); have ql128 : ((x15_3 : Int) < ((x12_3.length : Int) : Int)) = True := eq_true (of_decide_eq_true (by first | (with_reducible assumption) | assumption)); obtain ⟨ad128, e128, hx128_0⟩ := Kd.at_int (Kd.R_reads' HO_12.out).2.2 x15_3 p128 q128; obtain rfl : (⟨go31, 0, none⟩ : Addr) = ad128 := (by injection e128); (first | simp only [add_plain] at hx128_0 | simp only [add_at] at hx128_0 | simp only [Addr.add, Nat.zero_add] at hx128_0 | skip); replace p128 := eq_true p128; replace q128 := eq_true q128) | (go_at_call 45; (with_reducible refine (spec_l1In.calls (rd y127 x15_3) 0 (wrap64 ((wrap64 (2 * a2)) - 2)) true _ A32.out).mono ?_); rintro e w' ⟨rfl, ⟨nd, rfl⟩⟩; (try first | exact ⟨rfl, _, World.drewN_drewN _ _ _⟩ | exact ⟨rfl, _, Eq.trans (World.drewN_drewN _ _ _) (congrArg (World.drewN _) (Nat.add_assoc _ _ _))⟩); have p130 : 0 ≤ (x15_3 : Int) := of_decide_eq_true (by first | (with_reducible assumption) | assumption); have q130 : x15_3 < (y127.length : Int) := (by have h_ : (x15_3 : Int) < ((x12_3.length : Int) : Int) := of_decide_eq_true (by first | (with_reducible assumption) | assumption); first | (have e_ := (Kd.R_reads' HO_12.out).1; omega) | simpa only [Ny127.out, List.length_set] using h_); have ql130 : ((x15_3 : Int) < ((x12_3.length : Int) : Int)) = True := eq_true (of_decide_eq_true (by first | (with_reducible assumption) | assumption)); obtain ⟨ad130, e130, hx130_0⟩ := Kd.at_int (Kd.R_reads' HO_12.out).2.2 x15_3 p130 q130; obtain rfl : (⟨go31, 0, none⟩ : Addr) = ad130 := (by injection e130); (first | simp only [add_plain] at hx130_0 | simp only [add_at] at hx130_0 | simp only [Addr.add, Nat.zero_add] at hx130_0 | skip); replace p130 := eq_true p130; replace q130 := eq_true q130; have p131 : 0 ≤ (x15_3 : Int) := of_decide_eq_true (by first | (with_reducible assumption) | assumption); have q131 : x15_3 < (y127.length : Int) := (by have h_ : (x15_3 : Int) < ((x12_3.length : Int) : Int) := of_decide_eq_true (by first | (with_reducible assumption) | assumption); first | (have e_ := (Kd.R_reads' HO_12.out).1; omega) | simpa only [Ny127.out, List.length_set] using h_); have ql131 : ((x15_3 : Int) < ((x12_3.length : Int) : Int)) = True := eq_true (of_decide_eq_true (by first | (with_reducible assumption) | assumption)); obtain ⟨ad131, e131, hx131_0⟩ := Kd.at_int (Kd.R_reads' HO_12.out).2.2 x15_3 p131 q131; obtain rfl : (⟨go31, 0, none⟩ : Addr) = ad131 := (by injection e131); (first | simp only [add_plain] at hx131_0 | simp only [add_at] at hx131_0 | simp only [Addr.add, Nat.zero_add] at hx131_0 | skip); replace p131 := eq_true p131; replace q131 := eq_true q131; have p37 : 0 ≤ (t125 : Int) := of_decide_eq_true (by first | (with_reducible assumption) | assumption); have q37 : (t125 : Int) < ((x12_3.length : Int) : Int) := of_decide_eq_true (by first | (with_reducible assumption) | assumption); obtain ⟨hx37_0, hf37_0⟩ := Kd.R_celln 0 HO_12.out (t125 : Int) p37 q37; replace p37 := eq_true p37; replace q37 := eq_true q37; obtain ⟨hy40_, hz40_⟩ := Kd.R_celln 0 HO_12.out (t125 : Int) (of_decide_eq_true (by first | (with_reducible assumption) | assumption)) (of_decide_eq_true (by first | (with_reducible assumption) | assumption)); have HP40 := Kd.R_putg HO_12.out (t125 : Int) (rd y127 x15_3)) | ((with_reducible refine gate_store (t := 3) (p := 114) rfl ?_); (try (rw [drewN_self w39]; generalize hq_ : World.drewN w39 _ = w39; have n0_ := Aside0.mk (Kd.S_at hq_ HO_10.out); have n1_ := Aside0.mk (Kd.R_at hq_ HO_12.out); have n2_ := Aside0.mk (below_at hq_ HB.out); clear hq_ HO_10 HO_12 HB; have HO_10 := n0_; have HO_12 := n1_; have HB := n2_; clear n0_ n1_ n2_; (try (obtain ⟨hy40_, hz40_⟩ := Kd.R_celln 0 HO_12.out (t125 : Int) (of_decide_eq_true (by first | (with_reducible assumption) | assumption)) (of_decide_eq_true (by first | (with_reducible assumption) | assumption)))); (try (have HP40 := Kd.R_putg HO_12.out (t125 : Int) (rd y127 x15_3))))); refine store_event (t := 3) (p := 114) (v := ?vo_w41) (w1 := (w39.setCell ⟨go31, (t125 : Int).toNat, none⟩ (.int .i64 (rd y127 x15_3)))) ?hg ?ho ?hn ?hr ?_; (case ho => rfl); (case hg => rfl); (case hn => rfl); (case hr => first | (go_simp; done) | (go_simp; rfl)); intro w41 hw; have hg : w39.grownBy w41 (some go31) := (by rw [hw]; exact HP40.2); have hp_ : Kd.R (Kd.int .i64) 3 w41 w.heap.size (fun _ => True) (.slice (some ⟨go31, 0, none⟩) x12_3.length co31) y132 := (by rw [hw, Ny132.out]; exact HP40.1); clear HP40; have n0_ := Aside0.mk (Kd.S_after (v := (.slice (some ⟨go31, 0, none⟩) x12_3.length co31)) (v1 := (.slice (some ⟨go31, 0, none⟩) x12_3.length co31)) (ok := (fun _ => True)) (by (with_reducible repeat (first | apply Kd.S_alloc | apply Kd.S_drewN | apply Kd.S_drew)); exact HO_10.out) hg (.inl rfl)); have n1_ := Aside0.mk (hp_); have n2_ := Aside0.mk ((by rw [hw]; exact below_set (HB.out) GB31.out : Below w.heap.size w w41)); clear HO_10; clear HO_12; clear HB; have HO_10 := n0_; have HO_12 := n1_; have HB := n2_; clear n0_ n1_ n2_; clear hg hw hp_))
                                                  repeat (go_quiet (first | (go_at_call 88; (with_reducible refine (spec_l1Least.calls x15_3 ji23 t125 _ A21.out).mono ?_); rintro e w' ⟨rfl, ⟨nd, rfl⟩⟩; (try first | exact ⟨rfl, _, World.drewN_drewN _ _ _⟩ | exact ⟨rfl, _, Eq.trans (World.drewN_drewN _ _ _) (congrArg (World.drewN _) (Nat.add_assoc _ _ _))⟩); have p126 : 0 ≤ ((ji26) : Int) := of_decide_eq_true (by first | (with_reducible assumption) | assumption); have q126 : (ji26) < (l0.length : Int) := of_decide_eq_true (by first | (with_reducible assumption) | assumption); obtain ⟨ad126, e126, hx126_0⟩ := Kd.at_int HR0.out (ji26) p126 q126; cases e126; replace hx126_0 := (HB.out.cell (World.block_lt_of_cell? w _ hx126_0)).trans hx126_0; replace p126 := eq_true p126; replace q126 := eq_true q126; have p31 : 0 ≤ (x15_3 : Int) := of_decide_eq_true (by first | (with_reducible assumption) | assumption); have q31 : (x15_3 : Int) < ((x12_3.length : Int) : Int) := of_decide_eq_true (by first | (with_reducible assumption) | assumption); obtain ⟨go31, co31, eo31, gb31, gl31, cl31, HG31⟩ := Kd.R_form HO_12.out (by omega); (first | cases eo31 | (injection eo31 with ea_ en_ ec_; (first | subst ea_ | (injection ea_ with ea_; subst ea_)); subst ec_; clear en_)); have GB31 := Aside0.mk gb31; have GG31 := Aside0.mk HG31; clear gb31 gl31 HG31; obtain ⟨hx31_0, hf31_0⟩ := Kd.R_celln 0 HO_12.out (x15_3 : Int) p31 q31; replace p31 := eq_true p31; replace q31 := eq_true q31; obtain ⟨hy38_, hz38_⟩ := Kd.R_celln 0 HO_12.out (x15_3 : Int) (of_decide_eq_true (by first | (with_reducible assumption) | assumption)) (of_decide_eq_true (by first | (with_reducible assumption) | assumption)); have HP38 := Kd.R_putg HO_12.out (x15_3 : Int) (wrap64 ((wrap64 ((rd l0 (ji26)) + (wrap64 (a2 * (Int.tmod (ji25) 2))))) - x13_3))) | ((with_reducible refine gate_store (t := 3) (p := 87) rfl ?_); (try (rw [drewN_self wc]; generalize hq_ : World.drewN wc _ = wc; have n0_ := Aside0.mk (Kd.S_at hq_ HO_10.out); have n1_ := Aside0.mk (Kd.R_at hq_ HO_12.out); have n2_ := Aside0.mk (below_at hq_ HB.out); clear hq_ HO_10 HO_12 HB; have HO_10 := n0_; have HO_12 := n1_; have HB := n2_; clear n0_ n1_ n2_; (try (obtain ⟨hy38_, hz38_⟩ := Kd.R_celln 0 HO_12.out (x15_3 : Int) (of_decide_eq_true (by first | (with_reducible assumption) | assumption)) (of_decide_eq_true (by first | (with_reducible assumption) | assumption)))); (try (have HP38 := Kd.R_putg HO_12.out (x15_3 : Int) (wrap64 ((wrap64 ((rd l0 (ji26)) + (wrap64 (a2 * (Int.tmod (ji25) 2))))) - x13_3)))))); refine store_event (t := 3) (p := 87) (v := ?vo_w39) (w1 := (wc.setCell ⟨go31, (x15_3 : Int).toNat, none⟩ (.int .i64 (wrap64 ((wrap64 ((rd l0 (ji26)) + (wrap64 (a2 * (Int.tmod (ji25) 2))))) - x13_3))))) ?hg ?ho ?hn ?hr ?_; (case ho => rfl); (case hg => rfl); (case hn => rfl); (case hr => first | (go_simp; done) | (go_simp; rfl)); intro w39 hw; have hg : wc.grownBy w39 (some go31) := (by rw [hw]; exact HP38.2); have hp_ : Kd.R (Kd.int .i64) 3 w39 w.heap.size (fun _ => True) (.slice (some ⟨go31, 0, none⟩) x12_3.length co31) y127 := (by rw [hw, Ny127.out]; exact HP38.1); clear HP38; have n0_ := Aside0.mk (Kd.S_after (v := (.slice (some ⟨go31, 0, none⟩) x12_3.length co31)) (v1 := (.slice (some ⟨go31, 0, none⟩) x12_3.length co31)) (ok := (fun _ => True)) (by (with_reducible repeat (first | apply Kd.S_alloc | apply Kd.S_drewN | apply Kd.S_drew)); exact Kd.S_mono HO_10.out (fun _ hk => ⟨trivial, hk⟩)) hg (.inl rfl)); have n1_ := Aside0.mk (hp_); have n2_ := Aside0.mk ((by rw [hw]; exact below_set (HB.out) GB31.out : Below w.heap.size w w39)); clear HO_10; clear HO_12; clear HB; have HO_10 := n0_; have HO_12 := n1_; have HB := n2_; clear n0_ n1_ n2_; clear hg hw hp_; have p128 : 0 ≤ (x15_3 : Int) := of_decide_eq_true (by first | (with_reducible assumption) | assumption); have q128 : x15_3 < (y127.length : Int) := (by have h_ : (x15_3 : Int) < ((x12_3.length : Int) : Int) := of_decide_eq_true (by first | (with_reducible assumption) | assumption); first | (have e_ := (Kd.R_reads' HO_12.out).1; omega) | simpa only [Ny127.out, List.length_set] using h_); have ql128 : ((x15_3 : Int) < ((x12_3.length : Int) : Int)) = True := eq_true (of_decide_eq_true (by first | (with_reducible assumption) | assumption)); obtain ⟨ad128, e128, hx128_0⟩ := Kd.at_int (Kd.R_reads' HO_12.out).2.2 x15_3 p128 q128; obtain rfl : (⟨go31, 0, none⟩ : Addr) = ad128 := (by injection e128); (first | simp only [add_plain] at hx128_0 | simp only [add_at] at hx128_0 | simp only [Addr.add, Nat.zero_add] at hx128_0 | skip); replace p128 := eq_true p128; replace q128 := eq_true q128) | (go_at_call 45; (with_reducible refine (spec_l1In.calls (rd y127 x15_3) 0 (wrap64 ((wrap64 (2 * a2)) - 2)) true _ A32.out).mono ?_); rintro e w' ⟨rfl, ⟨nd, rfl⟩⟩; (try first | exact ⟨rfl, _, World.drewN_drewN _ _ _⟩ | exact ⟨rfl, _, Eq.trans (World.drewN_drewN _ _ _) (congrArg (World.drewN _) (Nat.add_assoc _ _ _))⟩); have p130 : 0 ≤ (x15_3 : Int) := of_decide_eq_true (by first | (with_reducible assumption) | assumption); have q130 : x15_3 < (y127.length : Int) := (by have h_ : (x15_3 : Int) < ((x12_3.length : Int) : Int) := of_decide_eq_true (by first | (with_reducible assumption) | assumption); first | (have e_ := (Kd.R_reads' HO_12.out).1; omega) | simpa only [Ny127.out, List.length_set] using h_); have ql130 : ((x15_3 : Int) < ((x12_3.length : Int) : Int)) = True := eq_true (of_decide_eq_true (by first | (with_reducible assumption) | assumption)); obtain ⟨ad130, e130, hx130_0⟩ := Kd.at_int (Kd.R_reads' HO_12.out).2.2 x15_3 p130 q130; obtain rfl : (⟨go31, 0, none⟩ : Addr) = ad130 := (by injection e130); (first | simp only [add_plain] at hx130_0 | simp only [add_at] at hx130_0 | simp only [Addr.add, Nat.zero_add] at hx130_0 | skip); replace p130 := eq_true p130; replace q130 := eq_true q130; have p131 : 0 ≤ (x15_3 : Int) := of_decide_eq_true (by first | (with_reducible assumption) | assumption); have q131 : x15_3 < (y127.length : Int) := (by have h_ : (x15_3 : Int) < ((x12_3.length : Int) : Int) := of_decide_eq_true (by first | (with_reducible assumption) | assumption); first | (have e_ := (Kd.R_reads' HO_12.out).1; omega) | simpa only [Ny127.out, List.length_set] using h_); have ql131 : ((x15_3 : Int) < ((x12_3.length : Int) : Int)) = True := eq_true (of_decide_eq_true (by first | (with_reducible assumption) | assumption)); obtain ⟨ad131, e131, hx131_0⟩ := Kd.at_int (Kd.R_reads' HO_12.out).2.2 x15_3 p131 q131; obtain rfl : (⟨go31, 0, none⟩ : Addr) = ad131 := (by injection e131); (first | simp only [add_plain] at hx131_0 | simp only [add_at] at hx131_0 | simp only [Addr.add, Nat.zero_add] at hx131_0 | skip); replace p131 := eq_true p131; replace q131 := eq_true q131; have p37 : 0 ≤ (t125 : Int) := of_decide_eq_true (by first | (with_reducible assumption) | assumption); have q37 : (t125 : Int) < ((x12_3.length : Int) : Int) := of_decide_eq_true (by first | (with_reducible assumption) | assumption); obtain ⟨hx37_0, hf37_0⟩ := Kd.R_celln 0 HO_12.out (t125 : Int) p37 q37; replace p37 := eq_true p37; replace q37 := eq_true q37; obtain ⟨hy40_, hz40_⟩ := Kd.R_celln 0 HO_12.out (t125 : Int) (of_decide_eq_true (by first | (with_reducible assumption) | assumption)) (of_decide_eq_true (by first | (with_reducible assumption) | assumption)); have HP40 := Kd.R_putg HO_12.out (t125 : Int) (rd y127 x15_3)) | ((with_reducible refine gate_store (t := 3) (p := 114) rfl ?_); (try (rw [drewN_self w39]; generalize hq_ : World.drewN w39 _ = w39; have n0_ := Aside0.mk (Kd.S_at hq_ HO_10.out); have n1_ := Aside0.mk (Kd.R_at hq_ HO_12.out); have n2_ := Aside0.mk (below_at hq_ HB.out); clear hq_ HO_10 HO_12 HB; have HO_10 := n0_; have HO_12 := n1_; have HB := n2_; clear n0_ n1_ n2_; (try (obtain ⟨hy40_, hz40_⟩ := Kd.R_celln 0 HO_12.out (t125 : Int) (of_decide_eq_true (by first | (with_reducible assumption) | assumption)) (of_decide_eq_true (by first | (with_reducible assumption) | assumption)))); (try (have HP40 := Kd.R_putg HO_12.out (t125 : Int) (rd y127 x15_3))))); refine store_event (t := 3) (p := 114) (v := ?vo_w41) (w1 := (w39.setCell ⟨go31, (t125 : Int).toNat, none⟩ (.int .i64 (rd y127 x15_3)))) ?hg ?ho ?hn ?hr ?_; (case ho => rfl); (case hg => rfl); (case hn => rfl); (case hr => first | (go_simp; done) | (go_simp; rfl)); intro w41 hw; have hg : w39.grownBy w41 (some go31) := (by rw [hw]; exact HP40.2); have hp_ : Kd.R (Kd.int .i64) 3 w41 w.heap.size (fun _ => True) (.slice (some ⟨go31, 0, none⟩) x12_3.length co31) y132 := (by rw [hw, Ny132.out]; exact HP40.1); clear HP40; have n0_ := Aside0.mk (Kd.S_after (v := (.slice (some ⟨go31, 0, none⟩) x12_3.length co31)) (v1 := (.slice (some ⟨go31, 0, none⟩) x12_3.length co31)) (ok := (fun _ => True)) (by (with_reducible repeat (first | apply Kd.S_alloc | apply Kd.S_drewN | apply Kd.S_drew)); exact HO_10.out) hg (.inl rfl)); have n1_ := Aside0.mk (hp_); have n2_ := Aside0.mk ((by rw [hw]; exact below_set (HB.out) GB31.out : Below w.heap.size w w41)); clear HO_10; clear HO_12; clear HB; have HO_10 := n0_; have HO_12 := n1_; have HB := n2_; clear n0_ n1_ n2_; clear hg hw hp_)); try go_wp2_with (first | (go_at_call 88; (with_reducible refine (spec_l1Least.calls x15_3 ji23 t125 _ A21.out).mono ?_); rintro e w' ⟨rfl, ⟨nd, rfl⟩⟩; (try first | exact ⟨rfl, _, World.drewN_drewN _ _ _⟩ | exact ⟨rfl, _, Eq.trans (World.drewN_drewN _ _ _) (congrArg (World.drewN _) (Nat.add_assoc _ _ _))⟩); have p126 : 0 ≤ ((ji26) : Int) := of_decide_eq_true (by first | (with_reducible assumption) | assumption); have q126 : (ji26) < (l0.length : Int) := of_decide_eq_true (by first | (with_reducible assumption) | assumption); obtain ⟨ad126, e126, hx126_0⟩ := Kd.at_int HR0.out (ji26) p126 q126; cases e126; replace hx126_0 := (HB.out.cell (World.block_lt_of_cell? w _ hx126_0)).trans hx126_0; replace p126 := eq_true p126; replace q126 := eq_true q126; have p31 : 0 ≤ (x15_3 : Int) := of_decide_eq_true (by first | (with_reducible assumption) | assumption); have q31 : (x15_3 : Int) < ((x12_3.length : Int) : Int) := of_decide_eq_true (by first | (with_reducible assumption) | assumption); obtain ⟨go31, co31, eo31, gb31, gl31, cl31, HG31⟩ := Kd.R_form HO_12.out (by omega); (first | cases eo31 | (injection eo31 with ea_ en_ ec_; (first | subst ea_ | (injection ea_ with ea_; subst ea_)); subst ec_; clear en_)); have GB31 := Aside0.mk gb31; have GG31 := Aside0.mk HG31; clear gb31 gl31 HG31; obtain ⟨hx31_0, hf31_0⟩ := Kd.R_celln 0 HO_12.out (x15_3 : Int) p31 q31; replace p31 := eq_true p31; replace q31 := eq_true q31; obtain ⟨hy38_, hz38_⟩ := Kd.R_celln 0 HO_12.out (x15_3 : Int) (of_decide_eq_true (by first | (with_reducible assumption) | assumption)) (of_decide_eq_true (by first | (with_reducible assumption) | assumption)); have HP38 := Kd.R_putg HO_12.out (x15_3 : Int) (wrap64 ((wrap64 ((rd l0 (ji26)) + (wrap64 (a2 * (Int.tmod (ji25) 2))))) - x13_3))) | ((with_reducible refine gate_store (t := 3) (p := 87) rfl ?_); (try (rw [drewN_self wc]; generalize hq_ : World.drewN wc _ = wc; have n0_ := Aside0.mk (Kd.S_at hq_ HO_10.out); have n1_ := Aside0.mk (Kd.R_at hq_ HO_12.out); have n2_ := Aside0.mk (below_at hq_ HB.out); clear hq_ HO_10 HO_12 HB; have HO_10 := n0_; have HO_12 := n1_; have HB := n2_; clear n0_ n1_ n2_; (try (obtain ⟨hy38_, hz38_⟩ := Kd.R_celln 0 HO_12.out (x15_3 : Int) (of_decide_eq_true (by first | (with_reducible assumption) | assumption)) (of_decide_eq_true (by first | (with_reducible assumption) | assumption)))); (try (have HP38 := Kd.R_putg HO_12.out (x15_3 : Int) (wrap64 ((wrap64 ((rd l0 (ji26)) + (wrap64 (a2 * (Int.tmod (ji25) 2))))) - x13_3)))))); refine store_event (t := 3) (p := 87) (v := ?vo_w39) (w1 := (wc.setCell ⟨go31, (x15_3 : Int).toNat, none⟩ (.int .i64 (wrap64 ((wrap64 ((rd l0 (ji26)) + (wrap64 (a2 * (Int.tmod (ji25) 2))))) - x13_3))))) ?hg ?ho ?hn ?hr ?_; (case ho => rfl); (case hg => rfl); (case hn => rfl); (case hr => first | (go_simp; done) | (go_simp; rfl)); intro w39 hw; have hg : wc.grownBy w39 (some go31) := (by rw [hw]; exact HP38.2); have hp_ : Kd.R (Kd.int .i64) 3 w39 w.heap.size (fun _ => True) (.slice (some ⟨go31, 0, none⟩) x12_3.length co31) y127 := (by rw [hw, Ny127.out]; exact HP38.1); clear HP38; have n0_ := Aside0.mk (Kd.S_after (v := (.slice (some ⟨go31, 0, none⟩) x12_3.length co31)) (v1 := (.slice (some ⟨go31, 0, none⟩) x12_3.length co31)) (ok := (fun _ => True)) (by (with_reducible repeat (first | apply Kd.S_alloc | apply Kd.S_drewN | apply Kd.S_drew)); exact Kd.S_mono HO_10.out (fun _ hk => ⟨trivial, hk⟩)) hg (.inl rfl)); have n1_ := Aside0.mk (hp_); have n2_ := Aside0.mk ((by rw [hw]; exact below_set (HB.out) GB31.out : Below w.heap.size w w39)); clear HO_10; clear HO_12; clear HB; have HO_10 := n0_; have HO_12 := n1_; have HB := n2_; clear n0_ n1_ n2_; clear hg hw hp_; have p128 : 0 ≤ (x15_3 : Int) := of_decide_eq_true (by first | (with_reducible assumption) | assumption); have q128 : x15_3 < (y127.length : Int) := (by have h_ : (x15_3 : Int) < ((x12_3.length : Int) : Int) := of_decide_eq_true (by first | (with_reducible assumption) | assumption); first | (have e_ := (Kd.R_reads' HO_12.out).1; omega) | simpa only [Ny127.out, List.length_set] using h_); have ql128 : ((x15_3 : Int) < ((x12_3.length : Int) : Int)) = True := eq_true (of_decide_eq_true (by first | (with_reducible assumption) | assumption)); obtain ⟨ad128, e128, hx128_0⟩ := Kd.at_int (Kd.R_reads' HO_12.out).2.2 x15_3 p128 q128; obtain rfl : (⟨go31, 0, none⟩ : Addr) = ad128 := (by injection e128); (first | simp only [add_plain] at hx128_0 | simp only [add_at] at hx128_0 | simp only [Addr.add, Nat.zero_add] at hx128_0 | skip); replace p128 := eq_true p128; replace q128 := eq_true q128) | (go_at_call 45; (with_reducible refine (spec_l1In.calls (rd y127 x15_3) 0 (wrap64 ((wrap64 (2 * a2)) - 2)) true _ A32.out).mono ?_); rintro e w' ⟨rfl, ⟨nd, rfl⟩⟩; (try first | exact ⟨rfl, _, World.drewN_drewN _ _ _⟩ | exact ⟨rfl, _, Eq.trans (World.drewN_drewN _ _ _) (congrArg (World.drewN _) (Nat.add_assoc _ _ _))⟩); have p130 : 0 ≤ (x15_3 : Int) := of_decide_eq_true (by first | (with_reducible assumption) | assumption); have q130 : x15_3 < (y127.length : Int) := (by have h_ : (x15_3 : Int) < ((x12_3.length : Int) : Int) := of_decide_eq_true (by first | (with_reducible assumption) | assumption); first | (have e_ := (Kd.R_reads' HO_12.out).1; omega) | simpa only [Ny127.out, List.length_set] using h_); have ql130 : ((x15_3 : Int) < ((x12_3.length : Int) : Int)) = True := eq_true (of_decide_eq_true (by first | (with_reducible assumption) | assumption)); obtain ⟨ad130, e130, hx130_0⟩ := Kd.at_int (Kd.R_reads' HO_12.out).2.2 x15_3 p130 q130; obtain rfl : (⟨go31, 0, none⟩ : Addr) = ad130 := (by injection e130); (first | simp only [add_plain] at hx130_0 | simp only [add_at] at hx130_0 | simp only [Addr.add, Nat.zero_add] at hx130_0 | skip); replace p130 := eq_true p130; replace q130 := eq_true q130; have p131 : 0 ≤ (x15_3 : Int) := of_decide_eq_true (by first | (with_reducible assumption) | assumption); have q131 : x15_3 < (y127.length : Int) := (by have h_ : (x15_3 : Int) < ((x12_3.length : Int) : Int) := of_decide_eq_true (by first | (with_reducible assumption) | assumption); first | (have e_ := (Kd.R_reads' HO_12.out).1; omega) | simpa only [Ny127.out, List.length_set] using h_); have ql131 : ((x15_3 : Int) < ((x12_3.length : Int) : Int)) = True := eq_true (of_decide_eq_true (by first | (with_reducible assumption) | assumption)); obtain ⟨ad131, e131, hx131_0⟩ := Kd.at_int (Kd.R_reads' HO_12.out).2.2 x15_3 p131 q131; obtain rfl : (⟨go31, 0, none⟩ : Addr) = ad131 := (by injection e131); (first | simp only [add_plain] at hx131_0 | simp only [add_at] at hx131_0 | simp only [Addr.add, Nat.zero_add] at hx131_0 | skip); replace p131 := eq_true p131; replace q131 := eq_true q131; have p37 : 0 ≤ (t125 : Int) := of_decide_eq_true (by first | (with_reducible assumption) | assumption); have q37 : (t125 : Int) < ((x12_3.length : Int) : Int) := of_decide_eq_true (by first | (with_reducible assumption) | assumption); obtain ⟨hx37_0, hf37_0⟩ := Kd.R_celln 0 HO_12.out (t125 : Int) p37 q37; replace p37 := eq_true p37; replace q37 := eq_true q37; obtain ⟨hy40_, hz40_⟩ := Kd.R_celln 0 HO_12.out (t125 : Int) (of_decide_eq_true (by first | (with_reducible assumption) | assumption)) (of_decide_eq_true (by first | (with_reducible assumption) | assumption)); have HP40 := Kd.R_putg HO_12.out (t125 : Int) (rd y127 x15_3)) | ((with_reducible refine gate_store (t := 3) (p := 114) rfl ?_); (try (rw [drewN_self w39]; generalize hq_ : World.drewN w39 _ = w39; have n0_ := Aside0.mk (Kd.S_at hq_ HO_10.out); have n1_ := Aside0.mk (Kd.R_at hq_ HO_12.out); have n2_ := Aside0.mk (below_at hq_ HB.out); clear hq_ HO_10 HO_12 HB; have HO_10 := n0_; have HO_12 := n1_; have HB := n2_; clear n0_ n1_ n2_; (try (obtain ⟨hy40_, hz40_⟩ := Kd.R_celln 0 HO_12.out (t125 : Int) (of_decide_eq_true (by first | (with_reducible assumption) | assumption)) (of_decide_eq_true (by first | (with_reducible assumption) | assumption)))); (try (have HP40 := Kd.R_putg HO_12.out (t125 : Int) (rd y127 x15_3))))); refine store_event (t := 3) (p := 114) (v := ?vo_w41) (w1 := (w39.setCell ⟨go31, (t125 : Int).toNat, none⟩ (.int .i64 (rd y127 x15_3)))) ?hg ?ho ?hn ?hr ?_; (case ho => rfl); (case hg => rfl); (case hn => rfl); (case hr => first | (go_simp; done) | (go_simp; rfl)); intro w41 hw; have hg : w39.grownBy w41 (some go31) := (by rw [hw]; exact HP40.2); have hp_ : Kd.R (Kd.int .i64) 3 w41 w.heap.size (fun _ => True) (.slice (some ⟨go31, 0, none⟩) x12_3.length co31) y132 := (by rw [hw, Ny132.out]; exact HP40.1); clear HP40; have n0_ := Aside0.mk (Kd.S_after (v := (.slice (some ⟨go31, 0, none⟩) x12_3.length co31)) (v1 := (.slice (some ⟨go31, 0, none⟩) x12_3.length co31)) (ok := (fun _ => True)) (by (with_reducible repeat (first | apply Kd.S_alloc | apply Kd.S_drewN | apply Kd.S_drew)); exact HO_10.out) hg (.inl rfl)); have n1_ := Aside0.mk (hp_); have n2_ := Aside0.mk ((by rw [hw]; exact below_set (HB.out) GB31.out : Below w.heap.size w w41)); clear HO_10; clear HO_12; clear HB; have HO_10 := n0_; have HO_12 := n1_; have HB := n2_; clear n0_ n1_ n2_; clear hg hw hp_)))
                                                  (try subst hji10)
                                                  go_roundg kj17
                                                  case measure => have := HJ3.out; have := HK2.out; have := HK3.out; have := HJ17.out; omega
                                                  case rel => exact ⟨(y132), (Int.tmod (ji25) 2), (((wrap64 (Int.tdiv (wrap64 ((rd y127 x15_3) + x13_3)) a2)) == (Int.tmod (ji25) 2))), (wrap64 (x15_3 - 1)), (by first | rfl | (simp; done) | (simp only [← hji25] <;> (first | rfl | simp)) | (simp [*]; done)), (by first | rfl | (simp; done) | (simp only [← hji25] <;> (first | rfl | simp)) | (simp [*]; done)), (by first | rfl | (simp; done) | (simp [*]; done)), H', ⟨by have := HJ3.out; have := HK2.out; have := HK3.out; have := HJ17.out; omega⟩, ⟨by (with_reducible repeat (first | apply Kd.S_alloc | apply Kd.S_drewN | apply Kd.S_drew)); exact Kd.S_mono HO_10.out (fun _ hk => hk.2)⟩, ⟨by (with_reducible repeat (first | apply Kd.R_alloc | apply Kd.R_drewN | apply Kd.R_drew)); exact HO_12.out⟩, ⟨by repeat (first | (with_reducible first | exact HB.out | apply below_alloc | apply pw_below_drewN | apply below_drew1) | exact HB.out)⟩⟩
                                                · rw [if_neg c36] at H
                                                  exact absurd H (by simp)
                                              · rw [if_neg c35] at H
                                                exact absurd H (by simp)
                                          · replace c33 := Bool.eq_false_iff.mpr c33
                                            subst c33
                                            have H1 : (if 0 ≤ t125 then (if t125 < (x12_3.length : Int) then (spec_rvWays.l1 kj17 l0 a1 a2 (wrap64 ((l0.length : Int) - a1)) (ji10) x10_2 x11_2 (y127.set (t125 : Int).toNat (rd y127 x15_3)) (Int.tmod (ji25) 2) false (wrap64 (x15_3 - 1))) else (none)) else (none)) = some (r1, r2) := by rw [if_neg (show ¬ (false = true) by decide)] at H; exact H
                                            clear H
                                            have H := H1
                                            clear H1
                                            by_cases c42 : 0 ≤ t125
                                            · rw [if_pos c42] at H
                                              have c42b0 : decide (0 ≤ t125) = true := decide_eq_true c42
                                              clear c42
                                              by_cases c43 : t125 < (x12_3.length : Int)
                                              · rw [if_pos c43] at H
                                                have c43b0 : decide (t125 < (x12_3.length : Int)) = true := decide_eq_true c43
                                                clear c43
                                                obtain ⟨y134, hy134⟩ : ∃ y_ : List Int, y_ = (y127.set (t125 : Int).toNat (rd y127 x15_3)) := ⟨_, rfl⟩
                                                replace H : (spec_rvWays.l1 kj17 l0 a1 a2 (wrap64 ((l0.length : Int) - a1)) (ji10) x10_2 x11_2 y134 (Int.tmod (ji25) 2) false (wrap64 (x15_3 - 1))) = some (r1, r2) := by first | (rw [hy134]; with_reducible exact H) | (have H2_ := (Option.bind_some _ _).symm.trans H; rw [hy134]; with_reducible exact H2_) | (have H2_ := (Option.bind_some _ _).symm.trans H; with_reducible exact H2_) | with_reducible exact H | (rw [hy134]; exact H) | exact H
                                                have Ny134 := Aside0.mk hy134
                                                clear hy134
                                                have H' := Aside0.mk H
                                                clear H
                                                go_wp2_with (first | (go_at_call 88; (with_reducible refine (spec_l1Least.calls x15_3 ji23 t125 _ A21.out).mono ?_); rintro e w' ⟨rfl, ⟨nd, rfl⟩⟩; (try first | exact ⟨rfl, _, World.drewN_drewN _ _ _⟩ | exact ⟨rfl, _, Eq.trans (World.drewN_drewN _ _ _) (congrArg (World.drewN _) (Nat.add_assoc _ _ _))⟩); have p126 : 0 ≤ ((ji26) : Int) := of_decide_eq_true (by first | (with_reducible assumption) | assumption); have q126 : (ji26) < (l0.length : Int) := of_decide_eq_true (by first | (with_reducible assumption) | assumption); obtain ⟨ad126, e126, hx126_0⟩ := Kd.at_int HR0.out (ji26) p126 q126; cases e126; replace hx126_0 := (HB.out.cell (World.block_lt_of_cell? w _ hx126_0)).trans hx126_0; replace p126 := eq_true p126; replace q126 := eq_true q126; have p31 : 0 ≤ (x15_3 : Int) := of_decide_eq_true (by first | (with_reducible assumption) | assumption); have q31 : (x15_3 : Int) < ((x12_3.length : Int) : Int) := of_decide_eq_true (by first | (with_reducible assumption) | assumption); obtain ⟨go31, co31, eo31, gb31, gl31, cl31, HG31⟩ := Kd.R_form HO_12.out (by omega); (first | cases eo31 | (injection eo31 with ea_ en_ ec_; (first | subst ea_ | (injection ea_ with ea_; subst ea_)); subst ec_; clear en_)); have GB31 := Aside0.mk gb31; have GG31 := Aside0.mk HG31; clear gb31 gl31 HG31; obtain ⟨hx31_0, hf31_0⟩ := Kd.R_celln 0 HO_12.out (x15_3 : Int) p31 q31; replace p31 := eq_true p31; replace q31 := eq_true q31; obtain ⟨hy45_, hz45_⟩ := Kd.R_celln 0 HO_12.out (x15_3 : Int) (of_decide_eq_true (by first | (with_reducible assumption) | assumption)) (of_decide_eq_true (by first | (with_reducible assumption) | assumption)); have HP45 := Kd.R_putg HO_12.out (x15_3 : Int) (wrap64 ((wrap64 ((rd l0 (ji26)) + (wrap64 (a2 * (Int.tmod (ji25) 2))))) - x13_3))) | ((with_reducible refine gate_store (t := 3) (p := 87) rfl ?_); (try (rw [drewN_self wc]; generalize hq_ : World.drewN wc _ = wc; have n0_ := Aside0.mk (Kd.S_at hq_ HO_10.out); have n1_ := Aside0.mk (Kd.R_at hq_ HO_12.out); have n2_ := Aside0.mk (below_at hq_ HB.out); clear hq_ HO_10 HO_12 HB; have HO_10 := n0_; have HO_12 := n1_; have HB := n2_; clear n0_ n1_ n2_; (try (obtain ⟨hy45_, hz45_⟩ := Kd.R_celln 0 HO_12.out (x15_3 : Int) (of_decide_eq_true (by first | (with_reducible assumption) | assumption)) (of_decide_eq_true (by first | (with_reducible assumption) | assumption)))); (try (have HP45 := Kd.R_putg HO_12.out (x15_3 : Int) (wrap64 ((wrap64 ((rd l0 (ji26)) + (wrap64 (a2 * (Int.tmod (ji25) 2))))) - x13_3)))))); refine store_event (t := 3) (p := 87) (v := ?vo_w46) (w1 := (wc.setCell ⟨go31, (x15_3 : Int).toNat, none⟩ (.int .i64 (wrap64 ((wrap64 ((rd l0 (ji26)) + (wrap64 (a2 * (Int.tmod (ji25) 2))))) - x13_3))))) ?hg ?ho ?hn ?hr ?_; (case ho => rfl); (case hg => rfl); (case hn => rfl); (case hr => first | (go_simp; done) | (go_simp; rfl)); intro w46 hw; have hg : wc.grownBy w46 (some go31) := (by rw [hw]; exact HP45.2); have hp_ : Kd.R (Kd.int .i64) 3 w46 w.heap.size (fun _ => True) (.slice (some ⟨go31, 0, none⟩) x12_3.length co31) y127 := (by rw [hw, Ny127.out]; exact HP45.1); clear HP45; have n0_ := Aside0.mk (Kd.S_after (v := (.slice (some ⟨go31, 0, none⟩) x12_3.length co31)) (v1 := (.slice (some ⟨go31, 0, none⟩) x12_3.length co31)) (ok := (fun _ => True)) (by (with_reducible repeat (first | apply Kd.S_alloc | apply Kd.S_drewN | apply Kd.S_drew)); exact Kd.S_mono HO_10.out (fun _ hk => ⟨trivial, hk⟩)) hg (.inl rfl)); have n1_ := Aside0.mk (hp_); have n2_ := Aside0.mk ((by rw [hw]; exact below_set (HB.out) GB31.out : Below w.heap.size w w46)); clear HO_10; clear HO_12; clear HB; have HO_10 := n0_; have HO_12 := n1_; have HB := n2_; clear n0_ n1_ n2_; clear hg hw hp_; have p128 : 0 ≤ (x15_3 : Int) := of_decide_eq_true (by first | (with_reducible assumption) | assumption); have q128 : x15_3 < (y127.length : Int) := (by have h_ : (x15_3 : Int) < ((x12_3.length : Int) : Int) := of_decide_eq_true (by first | (with_reducible assumption) | assumption); first | (have e_ := (Kd.R_reads' HO_12.out).1; omega) | simpa only [Ny127.out, List.length_set] using h_); have ql128 : ((x15_3 : Int) < ((x12_3.length : Int) : Int)) = True := eq_true (of_decide_eq_true (by first | (with_reducible assumption) | assumption)); obtain ⟨ad128, e128, hx128_0⟩ := Kd.at_int (Kd.R_reads' HO_12.out).2.2 x15_3 p128 q128; obtain rfl : (⟨go31, 0, none⟩ : Addr) = ad128 := (by injection e128); (first | simp only [add_plain] at hx128_0 | simp only [add_at] at hx128_0 | simp only [Addr.add, Nat.zero_add] at hx128_0 | skip); replace p128 := eq_true p128; replace q128 := eq_true q128) | (go_at_call 45; (with_reducible refine (spec_l1In.calls (rd y127 x15_3) 0 (wrap64 ((wrap64 (2 * a2)) - 2)) false _ A32.out).mono ?_); rintro e w' ⟨rfl, ⟨nd, rfl⟩⟩; (try first | exact ⟨rfl, _, World.drewN_drewN _ _ _⟩ | exact ⟨rfl, _, Eq.trans (World.drewN_drewN _ _ _) (congrArg (World.drewN _) (Nat.add_assoc _ _ _))⟩); have p133 : 0 ≤ (x15_3 : Int) := of_decide_eq_true (by first | (with_reducible assumption) | assumption); have q133 : x15_3 < (y127.length : Int) := (by have h_ : (x15_3 : Int) < ((x12_3.length : Int) : Int) := of_decide_eq_true (by first | (with_reducible assumption) | assumption); first | (have e_ := (Kd.R_reads' HO_12.out).1; omega) | simpa only [Ny127.out, List.length_set] using h_); have ql133 : ((x15_3 : Int) < ((x12_3.length : Int) : Int)) = True := eq_true (of_decide_eq_true (by first | (with_reducible assumption) | assumption)); obtain ⟨ad133, e133, hx133_0⟩ := Kd.at_int (Kd.R_reads' HO_12.out).2.2 x15_3 p133 q133; obtain rfl : (⟨go31, 0, none⟩ : Addr) = ad133 := (by injection e133); (first | simp only [add_plain] at hx133_0 | simp only [add_at] at hx133_0 | simp only [Addr.add, Nat.zero_add] at hx133_0 | skip); replace p133 := eq_true p133; replace q133 := eq_true q133; have p44 : 0 ≤ (t125 : Int) := of_decide_eq_true (by first | (with_reducible assumption) | assumption); have q44 : (t125 : Int) < ((x12_3.length : Int) : Int) := of_decide_eq_true (by first | (with_reducible assumption) | assumption); obtain ⟨hx44_0, hf44_0⟩ := Kd.R_celln 0 HO_12.out (t125 : Int) p44 q44; replace p44 := eq_true p44; replace q44 := eq_true q44; obtain ⟨hy47_, hz47_⟩ := Kd.R_celln 0 HO_12.out (t125 : Int) (of_decide_eq_true (by first | (with_reducible assumption) | assumption)) (of_decide_eq_true (by first | (with_reducible assumption) | assumption)); have HP47 := Kd.R_putg HO_12.out (t125 : Int) (rd y127 x15_3)) | ((with_reducible refine gate_store (t := 3) (p := 114) rfl ?_); (try (rw [drewN_self w46]; generalize hq_ : World.drewN w46 _ = w46; have n0_ := Aside0.mk (Kd.S_at hq_ HO_10.out); have n1_ := Aside0.mk (Kd.R_at hq_ HO_12.out); have n2_ := Aside0.mk (below_at hq_ HB.out); clear hq_ HO_10 HO_12 HB; have HO_10 := n0_; have HO_12 := n1_; have HB := n2_; clear n0_ n1_ n2_; (try (obtain ⟨hy47_, hz47_⟩ := Kd.R_celln 0 HO_12.out (t125 : Int) (of_decide_eq_true (by first | (with_reducible assumption) | assumption)) (of_decide_eq_true (by first | (with_reducible assumption) | assumption)))); (try (have HP47 := Kd.R_putg HO_12.out (t125 : Int) (rd y127 x15_3))))); refine store_event (t := 3) (p := 114) (v := ?vo_w48) (w1 := (w46.setCell ⟨go31, (t125 : Int).toNat, none⟩ (.int .i64 (rd y127 x15_3)))) ?hg ?ho ?hn ?hr ?_; (case ho => rfl); (case hg => rfl); (case hn => rfl); (case hr => first | (go_simp; done) | (go_simp; rfl)); intro w48 hw; have hg : w46.grownBy w48 (some go31) := (by rw [hw]; exact HP47.2); have hp_ : Kd.R (Kd.int .i64) 3 w48 w.heap.size (fun _ => True) (.slice (some ⟨go31, 0, none⟩) x12_3.length co31) y134 := (by rw [hw, Ny134.out]; exact HP47.1); clear HP47; have n0_ := Aside0.mk (Kd.S_after (v := (.slice (some ⟨go31, 0, none⟩) x12_3.length co31)) (v1 := (.slice (some ⟨go31, 0, none⟩) x12_3.length co31)) (ok := (fun _ => True)) (by (with_reducible repeat (first | apply Kd.S_alloc | apply Kd.S_drewN | apply Kd.S_drew)); exact HO_10.out) hg (.inl rfl)); have n1_ := Aside0.mk (hp_); have n2_ := Aside0.mk ((by rw [hw]; exact below_set (HB.out) GB31.out : Below w.heap.size w w48)); clear HO_10; clear HO_12; clear HB; have HO_10 := n0_; have HO_12 := n1_; have HB := n2_; clear n0_ n1_ n2_; clear hg hw hp_))
                                                repeat (go_quiet (first | (go_at_call 88; (with_reducible refine (spec_l1Least.calls x15_3 ji23 t125 _ A21.out).mono ?_); rintro e w' ⟨rfl, ⟨nd, rfl⟩⟩; (try first | exact ⟨rfl, _, World.drewN_drewN _ _ _⟩ | exact ⟨rfl, _, Eq.trans (World.drewN_drewN _ _ _) (congrArg (World.drewN _) (Nat.add_assoc _ _ _))⟩); have p126 : 0 ≤ ((ji26) : Int) := of_decide_eq_true (by first | (with_reducible assumption) | assumption); have q126 : (ji26) < (l0.length : Int) := of_decide_eq_true (by first | (with_reducible assumption) | assumption); obtain ⟨ad126, e126, hx126_0⟩ := Kd.at_int HR0.out (ji26) p126 q126; cases e126; replace hx126_0 := (HB.out.cell (World.block_lt_of_cell? w _ hx126_0)).trans hx126_0; replace p126 := eq_true p126; replace q126 := eq_true q126; have p31 : 0 ≤ (x15_3 : Int) := of_decide_eq_true (by first | (with_reducible assumption) | assumption); have q31 : (x15_3 : Int) < ((x12_3.length : Int) : Int) := of_decide_eq_true (by first | (with_reducible assumption) | assumption); obtain ⟨go31, co31, eo31, gb31, gl31, cl31, HG31⟩ := Kd.R_form HO_12.out (by omega); (first | cases eo31 | (injection eo31 with ea_ en_ ec_; (first | subst ea_ | (injection ea_ with ea_; subst ea_)); subst ec_; clear en_)); have GB31 := Aside0.mk gb31; have GG31 := Aside0.mk HG31; clear gb31 gl31 HG31; obtain ⟨hx31_0, hf31_0⟩ := Kd.R_celln 0 HO_12.out (x15_3 : Int) p31 q31; replace p31 := eq_true p31; replace q31 := eq_true q31; obtain ⟨hy45_, hz45_⟩ := Kd.R_celln 0 HO_12.out (x15_3 : Int) (of_decide_eq_true (by first | (with_reducible assumption) | assumption)) (of_decide_eq_true (by first | (with_reducible assumption) | assumption)); have HP45 := Kd.R_putg HO_12.out (x15_3 : Int) (wrap64 ((wrap64 ((rd l0 (ji26)) + (wrap64 (a2 * (Int.tmod (ji25) 2))))) - x13_3))) | ((with_reducible refine gate_store (t := 3) (p := 87) rfl ?_); (try (rw [drewN_self wc]; generalize hq_ : World.drewN wc _ = wc; have n0_ := Aside0.mk (Kd.S_at hq_ HO_10.out); have n1_ := Aside0.mk (Kd.R_at hq_ HO_12.out); have n2_ := Aside0.mk (below_at hq_ HB.out); clear hq_ HO_10 HO_12 HB; have HO_10 := n0_; have HO_12 := n1_; have HB := n2_; clear n0_ n1_ n2_; (try (obtain ⟨hy45_, hz45_⟩ := Kd.R_celln 0 HO_12.out (x15_3 : Int) (of_decide_eq_true (by first | (with_reducible assumption) | assumption)) (of_decide_eq_true (by first | (with_reducible assumption) | assumption)))); (try (have HP45 := Kd.R_putg HO_12.out (x15_3 : Int) (wrap64 ((wrap64 ((rd l0 (ji26)) + (wrap64 (a2 * (Int.tmod (ji25) 2))))) - x13_3)))))); refine store_event (t := 3) (p := 87) (v := ?vo_w46) (w1 := (wc.setCell ⟨go31, (x15_3 : Int).toNat, none⟩ (.int .i64 (wrap64 ((wrap64 ((rd l0 (ji26)) + (wrap64 (a2 * (Int.tmod (ji25) 2))))) - x13_3))))) ?hg ?ho ?hn ?hr ?_; (case ho => rfl); (case hg => rfl); (case hn => rfl); (case hr => first | (go_simp; done) | (go_simp; rfl)); intro w46 hw; have hg : wc.grownBy w46 (some go31) := (by rw [hw]; exact HP45.2); have hp_ : Kd.R (Kd.int .i64) 3 w46 w.heap.size (fun _ => True) (.slice (some ⟨go31, 0, none⟩) x12_3.length co31) y127 := (by rw [hw, Ny127.out]; exact HP45.1); clear HP45; have n0_ := Aside0.mk (Kd.S_after (v := (.slice (some ⟨go31, 0, none⟩) x12_3.length co31)) (v1 := (.slice (some ⟨go31, 0, none⟩) x12_3.length co31)) (ok := (fun _ => True)) (by (with_reducible repeat (first | apply Kd.S_alloc | apply Kd.S_drewN | apply Kd.S_drew)); exact Kd.S_mono HO_10.out (fun _ hk => ⟨trivial, hk⟩)) hg (.inl rfl)); have n1_ := Aside0.mk (hp_); have n2_ := Aside0.mk ((by rw [hw]; exact below_set (HB.out) GB31.out : Below w.heap.size w w46)); clear HO_10; clear HO_12; clear HB; have HO_10 := n0_; have HO_12 := n1_; have HB := n2_; clear n0_ n1_ n2_; clear hg hw hp_; have p128 : 0 ≤ (x15_3 : Int) := of_decide_eq_true (by first | (with_reducible assumption) | assumption); have q128 : x15_3 < (y127.length : Int) := (by have h_ : (x15_3 : Int) < ((x12_3.length : Int) : Int) := of_decide_eq_true (by first | (with_reducible assumption) | assumption); first | (have e_ := (Kd.R_reads' HO_12.out).1; omega) | simpa only [Ny127.out, List.length_set] using h_); have ql128 : ((x15_3 : Int) < ((x12_3.length : Int) : Int)) = True := eq_true (of_decide_eq_true (by first | (with_reducible assumption) | assumption)); obtain ⟨ad128, e128, hx128_0⟩ := Kd.at_int (Kd.R_reads' HO_12.out).2.2 x15_3 p128 q128; obtain rfl : (⟨go31, 0, none⟩ : Addr) = ad128 := (by injection e128); (first | simp only [add_plain] at hx128_0 | simp only [add_at] at hx128_0 | simp only [Addr.add, Nat.zero_add] at hx128_0 | skip); replace p128 := eq_true p128; replace q128 := eq_true q128) | (go_at_call 45; (with_reducible refine (spec_l1In.calls (rd y127 x15_3) 0 (wrap64 ((wrap64 (2 * a2)) - 2)) false _ A32.out).mono ?_); rintro e w' ⟨rfl, ⟨nd, rfl⟩⟩; (try first | exact ⟨rfl, _, World.drewN_drewN _ _ _⟩ | exact ⟨rfl, _, Eq.trans (World.drewN_drewN _ _ _) (congrArg (World.drewN _) (Nat.add_assoc _ _ _))⟩); have p133 : 0 ≤ (x15_3 : Int) := of_decide_eq_true (by first | (with_reducible assumption) | assumption); have q133 : x15_3 < (y127.length : Int) := (by have h_ : (x15_3 : Int) < ((x12_3.length : Int) : Int) := of_decide_eq_true (by first | (with_reducible assumption) | assumption); first | (have e_ := (Kd.R_reads' HO_12.out).1; omega) | simpa only [Ny127.out, List.length_set] using h_); have ql133 : ((x15_3 : Int) < ((x12_3.length : Int) : Int)) = True := eq_true (of_decide_eq_true (by first | (with_reducible assumption) | assumption)); obtain ⟨ad133, e133, hx133_0⟩ := Kd.at_int (Kd.R_reads' HO_12.out).2.2 x15_3 p133 q133; obtain rfl : (⟨go31, 0, none⟩ : Addr) = ad133 := (by injection e133); (first | simp only [add_plain] at hx133_0 | simp only [add_at] at hx133_0 | simp only [Addr.add, Nat.zero_add] at hx133_0 | skip); replace p133 := eq_true p133; replace q133 := eq_true q133; have p44 : 0 ≤ (t125 : Int) := of_decide_eq_true (by first | (with_reducible assumption) | assumption); have q44 : (t125 : Int) < ((x12_3.length : Int) : Int) := of_decide_eq_true (by first | (with_reducible assumption) | assumption); obtain ⟨hx44_0, hf44_0⟩ := Kd.R_celln 0 HO_12.out (t125 : Int) p44 q44; replace p44 := eq_true p44; replace q44 := eq_true q44; obtain ⟨hy47_, hz47_⟩ := Kd.R_celln 0 HO_12.out (t125 : Int) (of_decide_eq_true (by first | (with_reducible assumption) | assumption)) (of_decide_eq_true (by first | (with_reducible assumption) | assumption)); have HP47 := Kd.R_putg HO_12.out (t125 : Int) (rd y127 x15_3)) | ((with_reducible refine gate_store (t := 3) (p := 114) rfl ?_); (try (rw [drewN_self w46]; generalize hq_ : World.drewN w46 _ = w46; have n0_ := Aside0.mk (Kd.S_at hq_ HO_10.out); have n1_ := Aside0.mk (Kd.R_at hq_ HO_12.out); have n2_ := Aside0.mk (below_at hq_ HB.out); clear hq_ HO_10 HO_12 HB; have HO_10 := n0_; have HO_12 := n1_; have HB := n2_; clear n0_ n1_ n2_; (try (obtain ⟨hy47_, hz47_⟩ := Kd.R_celln 0 HO_12.out (t125 : Int) (of_decide_eq_true (by first | (with_reducible assumption) | assumption)) (of_decide_eq_true (by first | (with_reducible assumption) | assumption)))); (try (have HP47 := Kd.R_putg HO_12.out (t125 : Int) (rd y127 x15_3))))); refine store_event (t := 3) (p := 114) (v := ?vo_w48) (w1 := (w46.setCell ⟨go31, (t125 : Int).toNat, none⟩ (.int .i64 (rd y127 x15_3)))) ?hg ?ho ?hn ?hr ?_; (case ho => rfl); (case hg => rfl); (case hn => rfl); (case hr => first | (go_simp; done) | (go_simp; rfl)); intro w48 hw; have hg : w46.grownBy w48 (some go31) := (by rw [hw]; exact HP47.2); have hp_ : Kd.R (Kd.int .i64) 3 w48 w.heap.size (fun _ => True) (.slice (some ⟨go31, 0, none⟩) x12_3.length co31) y134 := (by rw [hw, Ny134.out]; exact HP47.1); clear HP47; have n0_ := Aside0.mk (Kd.S_after (v := (.slice (some ⟨go31, 0, none⟩) x12_3.length co31)) (v1 := (.slice (some ⟨go31, 0, none⟩) x12_3.length co31)) (ok := (fun _ => True)) (by (with_reducible repeat (first | apply Kd.S_alloc | apply Kd.S_drewN | apply Kd.S_drew)); exact HO_10.out) hg (.inl rfl)); have n1_ := Aside0.mk (hp_); have n2_ := Aside0.mk ((by rw [hw]; exact below_set (HB.out) GB31.out : Below w.heap.size w w48)); clear HO_10; clear HO_12; clear HB; have HO_10 := n0_; have HO_12 := n1_; have HB := n2_; clear n0_ n1_ n2_; clear hg hw hp_)); try go_wp2_with (first | (go_at_call 88; (with_reducible refine (spec_l1Least.calls x15_3 ji23 t125 _ A21.out).mono ?_); rintro e w' ⟨rfl, ⟨nd, rfl⟩⟩; (try first | exact ⟨rfl, _, World.drewN_drewN _ _ _⟩ | exact ⟨rfl, _, Eq.trans (World.drewN_drewN _ _ _) (congrArg (World.drewN _) (Nat.add_assoc _ _ _))⟩); have p126 : 0 ≤ ((ji26) : Int) := of_decide_eq_true (by first | (with_reducible assumption) | assumption); have q126 : (ji26) < (l0.length : Int) := of_decide_eq_true (by first | (with_reducible assumption) | assumption); obtain ⟨ad126, e126, hx126_0⟩ := Kd.at_int HR0.out (ji26) p126 q126; cases e126; replace hx126_0 := (HB.out.cell (World.block_lt_of_cell? w _ hx126_0)).trans hx126_0; replace p126 := eq_true p126; replace q126 := eq_true q126; have p31 : 0 ≤ (x15_3 : Int) := of_decide_eq_true (by first | (with_reducible assumption) | assumption); have q31 : (x15_3 : Int) < ((x12_3.length : Int) : Int) := of_decide_eq_true (by first | (with_reducible assumption) | assumption); obtain ⟨go31, co31, eo31, gb31, gl31, cl31, HG31⟩ := Kd.R_form HO_12.out (by omega); (first | cases eo31 | (injection eo31 with ea_ en_ ec_; (first | subst ea_ | (injection ea_ with ea_; subst ea_)); subst ec_; clear en_)); have GB31 := Aside0.mk gb31; have GG31 := Aside0.mk HG31; clear gb31 gl31 HG31; obtain ⟨hx31_0, hf31_0⟩ := Kd.R_celln 0 HO_12.out (x15_3 : Int) p31 q31; replace p31 := eq_true p31; replace q31 := eq_true q31; obtain ⟨hy45_, hz45_⟩ := Kd.R_celln 0 HO_12.out (x15_3 : Int) (of_decide_eq_true (by first | (with_reducible assumption) | assumption)) (of_decide_eq_true (by first | (with_reducible assumption) | assumption)); have HP45 := Kd.R_putg HO_12.out (x15_3 : Int) (wrap64 ((wrap64 ((rd l0 (ji26)) + (wrap64 (a2 * (Int.tmod (ji25) 2))))) - x13_3))) | ((with_reducible refine gate_store (t := 3) (p := 87) rfl ?_); (try (rw [drewN_self wc]; generalize hq_ : World.drewN wc _ = wc; have n0_ := Aside0.mk (Kd.S_at hq_ HO_10.out); have n1_ := Aside0.mk (Kd.R_at hq_ HO_12.out); have n2_ := Aside0.mk (below_at hq_ HB.out); clear hq_ HO_10 HO_12 HB; have HO_10 := n0_; have HO_12 := n1_; have HB := n2_; clear n0_ n1_ n2_; (try (obtain ⟨hy45_, hz45_⟩ := Kd.R_celln 0 HO_12.out (x15_3 : Int) (of_decide_eq_true (by first | (with_reducible assumption) | assumption)) (of_decide_eq_true (by first | (with_reducible assumption) | assumption)))); (try (have HP45 := Kd.R_putg HO_12.out (x15_3 : Int) (wrap64 ((wrap64 ((rd l0 (ji26)) + (wrap64 (a2 * (Int.tmod (ji25) 2))))) - x13_3)))))); refine store_event (t := 3) (p := 87) (v := ?vo_w46) (w1 := (wc.setCell ⟨go31, (x15_3 : Int).toNat, none⟩ (.int .i64 (wrap64 ((wrap64 ((rd l0 (ji26)) + (wrap64 (a2 * (Int.tmod (ji25) 2))))) - x13_3))))) ?hg ?ho ?hn ?hr ?_; (case ho => rfl); (case hg => rfl); (case hn => rfl); (case hr => first | (go_simp; done) | (go_simp; rfl)); intro w46 hw; have hg : wc.grownBy w46 (some go31) := (by rw [hw]; exact HP45.2); have hp_ : Kd.R (Kd.int .i64) 3 w46 w.heap.size (fun _ => True) (.slice (some ⟨go31, 0, none⟩) x12_3.length co31) y127 := (by rw [hw, Ny127.out]; exact HP45.1); clear HP45; have n0_ := Aside0.mk (Kd.S_after (v := (.slice (some ⟨go31, 0, none⟩) x12_3.length co31)) (v1 := (.slice (some ⟨go31, 0, none⟩) x12_3.length co31)) (ok := (fun _ => True)) (by (with_reducible repeat (first | apply Kd.S_alloc | apply Kd.S_drewN | apply Kd.S_drew)); exact Kd.S_mono HO_10.out (fun _ hk => ⟨trivial, hk⟩)) hg (.inl rfl)); have n1_ := Aside0.mk (hp_); have n2_ := Aside0.mk ((by rw [hw]; exact below_set (HB.out) GB31.out : Below w.heap.size w w46)); clear HO_10; clear HO_12; clear HB; have HO_10 := n0_; have HO_12 := n1_; have HB := n2_; clear n0_ n1_ n2_; clear hg hw hp_; have p128 : 0 ≤ (x15_3 : Int) := of_decide_eq_true (by first | (with_reducible assumption) | assumption); have q128 : x15_3 < (y127.length : Int) := (by have h_ : (x15_3 : Int) < ((x12_3.length : Int) : Int) := of_decide_eq_true (by first | (with_reducible assumption) | assumption); first | (have e_ := (Kd.R_reads' HO_12.out).1; omega) | simpa only [Ny127.out, List.length_set] using h_); have ql128 : ((x15_3 : Int) < ((x12_3.length : Int) : Int)) = True := eq_true (of_decide_eq_true (by first | (with_reducible assumption) | assumption)); obtain ⟨ad128, e128, hx128_0⟩ := Kd.at_int (Kd.R_reads' HO_12.out).2.2 x15_3 p128 q128; obtain rfl : (⟨go31, 0, none⟩ : Addr) = ad128 := (by injection e128); (first | simp only [add_plain] at hx128_0 | simp only [add_at] at hx128_0 | simp only [Addr.add, Nat.zero_add] at hx128_0 | skip); replace p128 := eq_true p128; replace q128 := eq_true q128) | (go_at_call 45; (with_reducible refine (spec_l1In.calls (rd y127 x15_3) 0 (wrap64 ((wrap64 (2 * a2)) - 2)) false _ A32.out).mono ?_); rintro e w' ⟨rfl, ⟨nd, rfl⟩⟩; (try first | exact ⟨rfl, _, World.drewN_drewN _ _ _⟩ | exact ⟨rfl, _, Eq.trans (World.drewN_drewN _ _ _) (congrArg (World.drewN _) (Nat.add_assoc _ _ _))⟩); have p133 : 0 ≤ (x15_3 : Int) := of_decide_eq_true (by first | (with_reducible assumption) | assumption); have q133 : x15_3 < (y127.length : Int) := (by have h_ : (x15_3 : Int) < ((x12_3.length : Int) : Int) := of_decide_eq_true (by first | (with_reducible assumption) | assumption); first | (have e_ := (Kd.R_reads' HO_12.out).1; omega) | simpa only [Ny127.out, List.length_set] using h_); have ql133 : ((x15_3 : Int) < ((x12_3.length : Int) : Int)) = True := eq_true (of_decide_eq_true (by first | (with_reducible assumption) | assumption)); obtain ⟨ad133, e133, hx133_0⟩ := Kd.at_int (Kd.R_reads' HO_12.out).2.2 x15_3 p133 q133; obtain rfl : (⟨go31, 0, none⟩ : Addr) = ad133 := (by injection e133); (first | simp only [add_plain] at hx133_0 | simp only [add_at] at hx133_0 | simp only [Addr.add, Nat.zero_add] at hx133_0 | skip); replace p133 := eq_true p133; replace q133 := eq_true q133; have p44 : 0 ≤ (t125 : Int) := of_decide_eq_true (by first | (with_reducible assumption) | assumption); have q44 : (t125 : Int) < ((x12_3.length : Int) : Int) := of_decide_eq_true (by first | (with_reducible assumption) | assumption); obtain ⟨hx44_0, hf44_0⟩ := Kd.R_celln 0 HO_12.out (t125 : Int) p44 q44; replace p44 := eq_true p44; replace q44 := eq_true q44; obtain ⟨hy47_, hz47_⟩ := Kd.R_celln 0 HO_12.out (t125 : Int) (of_decide_eq_true (by first | (with_reducible assumption) | assumption)) (of_decide_eq_true (by first | (with_reducible assumption) | assumption)); have HP47 := Kd.R_putg HO_12.out (t125 : Int) (rd y127 x15_3)) | ((with_reducible refine gate_store (t := 3) (p := 114) rfl ?_); (try (rw [drewN_self w46]; generalize hq_ : World.drewN w46 _ = w46; have n0_ := Aside0.mk (Kd.S_at hq_ HO_10.out); have n1_ := Aside0.mk (Kd.R_at hq_ HO_12.out); have n2_ := Aside0.mk (below_at hq_ HB.out); clear hq_ HO_10 HO_12 HB; have HO_10 := n0_; have HO_12 := n1_; have HB := n2_; clear n0_ n1_ n2_; (try (obtain ⟨hy47_, hz47_⟩ := Kd.R_celln 0 HO_12.out (t125 : Int) (of_decide_eq_true (by first | (with_reducible assumption) | assumption)) (of_decide_eq_true (by first | (with_reducible assumption) | assumption)))); (try (have HP47 := Kd.R_putg HO_12.out (t125 : Int) (rd y127 x15_3))))); refine store_event (t := 3) (p := 114) (v := ?vo_w48) (w1 := (w46.setCell ⟨go31, (t125 : Int).toNat, none⟩ (.int .i64 (rd y127 x15_3)))) ?hg ?ho ?hn ?hr ?_; (case ho => rfl); (case hg => rfl); (case hn => rfl); (case hr => first | (go_simp; done) | (go_simp; rfl)); intro w48 hw; have hg : w46.grownBy w48 (some go31) := (by rw [hw]; exact HP47.2); have hp_ : Kd.R (Kd.int .i64) 3 w48 w.heap.size (fun _ => True) (.slice (some ⟨go31, 0, none⟩) x12_3.length co31) y134 := (by rw [hw, Ny134.out]; exact HP47.1); clear HP47; have n0_ := Aside0.mk (Kd.S_after (v := (.slice (some ⟨go31, 0, none⟩) x12_3.length co31)) (v1 := (.slice (some ⟨go31, 0, none⟩) x12_3.length co31)) (ok := (fun _ => True)) (by (with_reducible repeat (first | apply Kd.S_alloc | apply Kd.S_drewN | apply Kd.S_drew)); exact HO_10.out) hg (.inl rfl)); have n1_ := Aside0.mk (hp_); have n2_ := Aside0.mk ((by rw [hw]; exact below_set (HB.out) GB31.out : Below w.heap.size w w48)); clear HO_10; clear HO_12; clear HB; have HO_10 := n0_; have HO_12 := n1_; have HB := n2_; clear n0_ n1_ n2_; clear hg hw hp_)))
                                                (try subst hji10)
                                                go_roundg kj17
                                                case measure => have := HJ3.out; have := HK2.out; have := HK3.out; have := HJ17.out; omega
                                                case rel => exact ⟨(y134), (Int.tmod (ji25) 2), (false), (wrap64 (x15_3 - 1)), (by first | rfl | (simp; done) | (simp only [← hji25] <;> (first | rfl | simp)) | (simp [*]; done)), (by first | rfl | (simp; done) | (simp [*]; done)), (by first | rfl | (simp; done) | (simp [*]; done)), H', ⟨by have := HJ3.out; have := HK2.out; have := HK3.out; have := HJ17.out; omega⟩, ⟨by (with_reducible repeat (first | apply Kd.S_alloc | apply Kd.S_drewN | apply Kd.S_drew)); exact Kd.S_mono HO_10.out (fun _ hk => hk.2)⟩, ⟨by (with_reducible repeat (first | apply Kd.R_alloc | apply Kd.R_drewN | apply Kd.R_drew)); exact HO_12.out⟩, ⟨by repeat (first | (with_reducible first | exact HB.out | apply below_alloc | apply pw_below_drewN | apply below_drew1) | exact HB.out)⟩⟩
                                              · rw [if_neg c43] at H
                                                exact absurd H (by simp)
                                            · rw [if_neg c42] at H
                                              exact absurd H (by simp)
                                        · rw [if_neg c30] at H
                                          exact absurd H (by simp)
                                      · rw [if_neg c29] at H
                                        exact absurd H (by simp)
                                    · rw [if_neg c28] at H
                                      exact absurd H (by simp)
                                  · rw [if_neg c27] at H
                                    exact absurd H (by simp)
                                · rw [if_neg c24] at H
                                  exact absurd H (by simp)
                              · rw [if_neg c22] at H
                                have c22b0 : decide ((wrap64 (a1 - (ji10))) ≤ x15_3) = false := decide_eq_false c22
                                clear c22
                                by_cases c49 : 0 ≤ t125
                                · rw [if_pos c49] at H
                                  have c49b0 : decide (0 ≤ t125) = true := decide_eq_true c49
                                  clear c49
                                  by_cases c50 : t125 < (x12_3.length : Int)
                                  · rw [if_pos c50] at H
                                    have c50b0 : decide (t125 < (x12_3.length : Int)) = true := decide_eq_true c50
                                    clear c50
                                    by_cases c51 : a2 = 0
                                    · rw [if_pos c51] at H
                                      exact absurd H (by simp)
                                    · rw [if_neg c51] at H
                                      have c51b0 : (a2 == 0) = false := beq_eq_false_iff_ne.mpr c51
                                      have c51b1 : (a2 != 0) = true := bne_iff_ne.mpr c51
                                      obtain ⟨ji52, hji52⟩ : ∃ j_ : Int, (wrap64 ((wrap64 ((l0.length : Int) - a1)) + x15_3)) = j_ := ⟨_, rfl⟩
                                      replace H : (if 0 ≤ (ji52) then (if (ji52) < (l0.length : Int) then (spec_rvWays.l1 kj17 l0 a1 a2 (wrap64 ((l0.length : Int) - a1)) (ji10) x10_2 x11_2 x12_3 (wrap64 (Int.tdiv (wrap64 ((rd x12_3 t125) + x13_3)) a2)) ((Int.tmod (wrap64 ((rd x12_3 t125) + x13_3)) a2) == (rd l0 (ji52))) (wrap64 (x15_3 - 1))) else (none)) else (none)) = some (r1, r2) := by first | (rw [hji52] at H; exact H) | (simp only [hji52] at H ⊢; exact H)
                                      (try rw [hji52] at A21)
                                      have hji52w : (IntKind.i64.wrap ((wrap64 ((l0.length : Int) - a1)) + x15_3)) = ji52 := (i64_w _).trans hji52
                                      by_cases c53 : 0 ≤ (ji52)
                                      · rw [if_pos c53] at H
                                        have c53b0 : decide (0 ≤ (ji52)) = true := decide_eq_true c53
                                        clear c53
                                        by_cases c54 : (ji52) < (l0.length : Int)
                                        · rw [if_pos c54] at H
                                          have c54b0 : decide ((ji52) < (l0.length : Int)) = true := decide_eq_true c54
                                          clear c54
                                          have H' := Aside0.mk H
                                          clear H
                                          go_wp2_with (first | (go_at_call 88; (with_reducible refine (spec_l1Least.calls x15_3 (wrap64 ((wrap64 (a1 - 1)) - x15_3)) t125 _ A21.out).mono ?_); rintro e w' ⟨rfl, ⟨nd, rfl⟩⟩; (try first | exact ⟨rfl, _, World.drewN_drewN _ _ _⟩ | exact ⟨rfl, _, Eq.trans (World.drewN_drewN _ _ _) (congrArg (World.drewN _) (Nat.add_assoc _ _ _))⟩); obtain ⟨Ao55, co55, eo55⟩ := Kd.R_slice HO_12.out; subst eo55; have p135 : 0 ≤ (t125 : Int) := of_decide_eq_true (by first | (with_reducible assumption) | assumption); have q135 : t125 < (x12_3.length : Int) := of_decide_eq_true (by first | (with_reducible assumption) | assumption); obtain ⟨ad135, e135, hx135_0⟩ := Kd.at_int (Kd.R_reads' HO_12.out).2.2 t125 p135 q135; cases e135; replace p135 := eq_true p135; replace q135 := eq_true q135; have p136 : 0 ≤ ((ji52) : Int) := of_decide_eq_true (by first | (with_reducible assumption) | assumption); have q136 : (ji52) < (l0.length : Int) := of_decide_eq_true (by first | (with_reducible assumption) | assumption); obtain ⟨ad136, e136, hx136_0⟩ := Kd.at_int HR0.out (ji52) p136 q136; cases e136; replace hx136_0 := (HB.out.cell (World.block_lt_of_cell? w _ hx136_0)).trans hx136_0; replace p136 := eq_true p136; replace q136 := eq_true q136; have p137 : 0 ≤ (t125 : Int) := of_decide_eq_true (by first | (with_reducible assumption) | assumption); have q137 : t125 < (x12_3.length : Int) := of_decide_eq_true (by first | (with_reducible assumption) | assumption); obtain ⟨ad137, e137, hx137_0⟩ := Kd.at_int (Kd.R_reads' HO_12.out).2.2 t125 p137 q137; obtain rfl : ad135 = ad137 := (by injection e137); replace p137 := eq_true p137; replace q137 := eq_true q137))
                                          repeat (go_quiet (first | (go_at_call 88; (with_reducible refine (spec_l1Least.calls x15_3 (wrap64 ((wrap64 (a1 - 1)) - x15_3)) t125 _ A21.out).mono ?_); rintro e w' ⟨rfl, ⟨nd, rfl⟩⟩; (try first | exact ⟨rfl, _, World.drewN_drewN _ _ _⟩ | exact ⟨rfl, _, Eq.trans (World.drewN_drewN _ _ _) (congrArg (World.drewN _) (Nat.add_assoc _ _ _))⟩); obtain ⟨Ao55, co55, eo55⟩ := Kd.R_slice HO_12.out; subst eo55; have p135 : 0 ≤ (t125 : Int) := of_decide_eq_true (by first | (with_reducible assumption) | assumption); have q135 : t125 < (x12_3.length : Int) := of_decide_eq_true (by first | (with_reducible assumption) | assumption); obtain ⟨ad135, e135, hx135_0⟩ := Kd.at_int (Kd.R_reads' HO_12.out).2.2 t125 p135 q135; cases e135; replace p135 := eq_true p135; replace q135 := eq_true q135; have p136 : 0 ≤ ((ji52) : Int) := of_decide_eq_true (by first | (with_reducible assumption) | assumption); have q136 : (ji52) < (l0.length : Int) := of_decide_eq_true (by first | (with_reducible assumption) | assumption); obtain ⟨ad136, e136, hx136_0⟩ := Kd.at_int HR0.out (ji52) p136 q136; cases e136; replace hx136_0 := (HB.out.cell (World.block_lt_of_cell? w _ hx136_0)).trans hx136_0; replace p136 := eq_true p136; replace q136 := eq_true q136; have p137 : 0 ≤ (t125 : Int) := of_decide_eq_true (by first | (with_reducible assumption) | assumption); have q137 : t125 < (x12_3.length : Int) := of_decide_eq_true (by first | (with_reducible assumption) | assumption); obtain ⟨ad137, e137, hx137_0⟩ := Kd.at_int (Kd.R_reads' HO_12.out).2.2 t125 p137 q137; obtain rfl : ad135 = ad137 := (by injection e137); replace p137 := eq_true p137; replace q137 := eq_true q137)); try go_wp2_with (first | (go_at_call 88; (with_reducible refine (spec_l1Least.calls x15_3 (wrap64 ((wrap64 (a1 - 1)) - x15_3)) t125 _ A21.out).mono ?_); rintro e w' ⟨rfl, ⟨nd, rfl⟩⟩; (try first | exact ⟨rfl, _, World.drewN_drewN _ _ _⟩ | exact ⟨rfl, _, Eq.trans (World.drewN_drewN _ _ _) (congrArg (World.drewN _) (Nat.add_assoc _ _ _))⟩); obtain ⟨Ao55, co55, eo55⟩ := Kd.R_slice HO_12.out; subst eo55; have p135 : 0 ≤ (t125 : Int) := of_decide_eq_true (by first | (with_reducible assumption) | assumption); have q135 : t125 < (x12_3.length : Int) := of_decide_eq_true (by first | (with_reducible assumption) | assumption); obtain ⟨ad135, e135, hx135_0⟩ := Kd.at_int (Kd.R_reads' HO_12.out).2.2 t125 p135 q135; cases e135; replace p135 := eq_true p135; replace q135 := eq_true q135; have p136 : 0 ≤ ((ji52) : Int) := of_decide_eq_true (by first | (with_reducible assumption) | assumption); have q136 : (ji52) < (l0.length : Int) := of_decide_eq_true (by first | (with_reducible assumption) | assumption); obtain ⟨ad136, e136, hx136_0⟩ := Kd.at_int HR0.out (ji52) p136 q136; cases e136; replace hx136_0 := (HB.out.cell (World.block_lt_of_cell? w _ hx136_0)).trans hx136_0; replace p136 := eq_true p136; replace q136 := eq_true q136; have p137 : 0 ≤ (t125 : Int) := of_decide_eq_true (by first | (with_reducible assumption) | assumption); have q137 : t125 < (x12_3.length : Int) := of_decide_eq_true (by first | (with_reducible assumption) | assumption); obtain ⟨ad137, e137, hx137_0⟩ := Kd.at_int (Kd.R_reads' HO_12.out).2.2 t125 p137 q137; obtain rfl : ad135 = ad137 := (by injection e137); replace p137 := eq_true p137; replace q137 := eq_true q137)))
                                          (try subst hji10)
                                          go_roundg kj17
                                          case measure => have := HJ3.out; have := HK2.out; have := HK3.out; have := HJ17.out; omega
                                          case rel => exact ⟨(x12_3), (wrap64 (Int.tdiv (wrap64 ((rd x12_3 t125) + x13_3)) a2)), (((Int.tmod (wrap64 ((rd x12_3 t125) + x13_3)) a2) == (rd l0 (ji52)))), (wrap64 (x15_3 - 1)), (by first | rfl | (simp; done) | (simp [*]; done)), (by first | rfl | (simp; done) | (simp only [← hji52] <;> (first | rfl | simp)) | (simp [*]; done)), (by first | rfl | (simp; done) | (simp [*]; done)), H', ⟨by have := HJ3.out; have := HK2.out; have := HK3.out; have := HJ17.out; omega⟩, ⟨by (with_reducible repeat (first | apply Kd.S_alloc | apply Kd.S_drewN | apply Kd.S_drew)); exact HO_10.out⟩, ⟨by (with_reducible repeat (first | apply Kd.R_alloc | apply Kd.R_drewN | apply Kd.R_drew)); exact HO_12.out⟩, ⟨by repeat (first | (with_reducible first | exact HB.out | apply below_alloc | apply pw_below_drewN | apply below_drew1) | exact HB.out)⟩⟩
                                        · rw [if_neg c54] at H
                                          exact absurd H (by simp)
                                      · rw [if_neg c53] at H
                                        exact absurd H (by simp)
                                  · rw [if_neg c50] at H
                                    exact absurd H (by simp)
                                · rw [if_neg c49] at H
                                  exact absurd H (by simp)
                            · replace c20 := Bool.eq_false_iff.mpr c20
                              subst c20
                              have H1 : (if x14_3 = true then (if x13_3 = (wrap64 ((l0.length : Int) - a1)) then (if x10_2.length < 5864062014805 then (spec_rvWays.l0 kj17 l0 a1 a2 (wrap64 ((l0.length : Int) - a1)) (ji10) (x10_2 ++ [x12_3]) (wrap64 (x11_2 + 1))) else (none)) else (spec_rvWays.l0 kj17 l0 a1 a2 (wrap64 ((l0.length : Int) - a1)) (ji10) x10_2 (wrap64 (x11_2 + 1)))) else (spec_rvWays.l0 kj17 l0 a1 a2 (wrap64 ((l0.length : Int) - a1)) (ji10) x10_2 (wrap64 (x11_2 + 1)))) = some (r1, r2) := by rw [if_neg (show ¬ (false = true) by decide)] at H; exact H
                              clear H
                              have H := H1
                              clear H1
                              by_cases c56 : x14_3 = true
                              · subst c56
                                have H1 : (if x13_3 = (wrap64 ((l0.length : Int) - a1)) then (if x10_2.length < 5864062014805 then (spec_rvWays.l0 kj17 l0 a1 a2 (wrap64 ((l0.length : Int) - a1)) (ji10) (x10_2 ++ [x12_3]) (wrap64 (x11_2 + 1))) else (none)) else (spec_rvWays.l0 kj17 l0 a1 a2 (wrap64 ((l0.length : Int) - a1)) (ji10) x10_2 (wrap64 (x11_2 + 1)))) = some (r1, r2) := by rw [if_pos rfl] at H; exact H
                                clear H
                                have H := H1
                                clear H1
                                by_cases c57 : x13_3 = (wrap64 ((l0.length : Int) - a1))
                                · rw [if_pos c57] at H
                                  have c57b0 : (x13_3 == (wrap64 ((l0.length : Int) - a1))) = true := beq_iff_eq.mpr c57
                                  have c57b1 : (x13_3 != (wrap64 ((l0.length : Int) - a1))) = false := bne_eq_false_iff_eq.mpr c57
                                  clear c57
                                  by_cases c58 : x10_2.length < 5864062014805
                                  · rw [if_pos c58] at H
                                    have LMc58 := Aside0.mk c58
                                    clear c58
                                    obtain ⟨y122, hy122⟩ : ∃ y_ : List (List Int), y_ = (x10_2 ++ [x12_3]) := ⟨_, rfl⟩
                                    replace H : (spec_rvWays.l0 kj17 l0 a1 a2 (wrap64 ((l0.length : Int) - a1)) (ji10) y122 (wrap64 (x11_2 + 1))) = some (r1, r2) := by first | (rw [hy122]; with_reducible exact H) | (have H2_ := (Option.bind_some _ _).symm.trans H; rw [hy122]; with_reducible exact H2_) | (have H2_ := (Option.bind_some _ _).symm.trans H; with_reducible exact H2_) | with_reducible exact H | (rw [hy122]; exact H) | exact H
                                    have Ny122 := Aside0.mk hy122
                                    clear hy122
                                    have H' := Aside0.mk H
                                    clear H
                                    obtain ⟨Ao60, co60, eo60⟩ := Kd.R_slice HO_12.out
                                    subst eo60
                                    go_wp2_with (first | ((with_reducible refine gate_builtin (b := .append) (xs := #[.tmp 145, .tmp 147]) rfl ?_); at_builtin; refine Kd.S_append (Kd.slice 3 (Kd.int .i64)) (w0 := w) w.heap.size rfl (.tmp 145) (.tmp 147) 26 25 (.slice none 0 0) 24 rfl Try.underlying26 info25 rfl (by decide) (by omega) u10 x10_2 x12_3 [.slice Ao60 x12_3.length co60] (fun _ => True) (fun k_ => some k_ = (.slice Ao60 x12_3.length co60 : Value).ownBlock) rfl rfl ?aP (fun k_ hk_ => ((Kd.R_mono (ok' := fun k_ => ((fun _ => True)) k_ ∧ some k_ ≠ (u10 : Value).ownBlock) (Kd.R_apart' (HO_12.out) (Kd.S_typed HO_10.out) (by decide)) (fun k_ hk => ⟨trivial, hk.2⟩))).1 k_ hk_.symm) ?aF ?aO ?aB ?aS ?aL ?_; (case aP => exact Kd.M_row (Kd.R_mono (Kd.R_tight rfl (Kd.R_mono (ok' := fun k_ => ((fun _ => True)) k_ ∧ some k_ ≠ (u10 : Value).ownBlock) (Kd.R_apart' (HO_12.out) (Kd.S_typed HO_10.out) (by decide)) (fun k_ hk => ⟨trivial, hk.2⟩))) (fun _ h_ => h_))); (case aB => exact (by repeat (first | (with_reducible first | exact HB.out | apply below_alloc | apply pw_below_drewN | apply below_drew1) | exact HB.out))); (case aF => exact (fun _ _ => trivial)); (case aO => exact (by (with_reducible repeat (first | apply Kd.S_alloc | apply Kd.S_drewN | apply Kd.S_drew)); exact Kd.S_mono HO_10.out (fun k_ hk => ⟨trivial, fun e_ => hk e_⟩))); (case aS => exact (below_size (by repeat (first | (with_reducible first | exact HB.out | apply below_alloc | apply pw_below_drewN | apply below_drew1) | exact HB.out)))); (case aL => have := LMc58.out; omega); intro v123 w59 ho hb hg hat; rw [← Ny122.out] at ho; have n0_ := Aside0.mk (hb); have n1_ := Aside0.mk (ho); clear HB; clear HO_10; clear HO_12; have HB := n0_; have HO124 := n1_; clear n0_ n1_; clear ho hb hg hat))
                                    repeat (go_quiet (first | ((with_reducible refine gate_builtin (b := .append) (xs := #[.tmp 145, .tmp 147]) rfl ?_); at_builtin; refine Kd.S_append (Kd.slice 3 (Kd.int .i64)) (w0 := w) w.heap.size rfl (.tmp 145) (.tmp 147) 26 25 (.slice none 0 0) 24 rfl Try.underlying26 info25 rfl (by decide) (by omega) u10 x10_2 x12_3 [.slice Ao60 x12_3.length co60] (fun _ => True) (fun k_ => some k_ = (.slice Ao60 x12_3.length co60 : Value).ownBlock) rfl rfl ?aP (fun k_ hk_ => ((Kd.R_mono (ok' := fun k_ => ((fun _ => True)) k_ ∧ some k_ ≠ (u10 : Value).ownBlock) (Kd.R_apart' (HO_12.out) (Kd.S_typed HO_10.out) (by decide)) (fun k_ hk => ⟨trivial, hk.2⟩))).1 k_ hk_.symm) ?aF ?aO ?aB ?aS ?aL ?_; (case aP => exact Kd.M_row (Kd.R_mono (Kd.R_tight rfl (Kd.R_mono (ok' := fun k_ => ((fun _ => True)) k_ ∧ some k_ ≠ (u10 : Value).ownBlock) (Kd.R_apart' (HO_12.out) (Kd.S_typed HO_10.out) (by decide)) (fun k_ hk => ⟨trivial, hk.2⟩))) (fun _ h_ => h_))); (case aB => exact (by repeat (first | (with_reducible first | exact HB.out | apply below_alloc | apply pw_below_drewN | apply below_drew1) | exact HB.out))); (case aF => exact (fun _ _ => trivial)); (case aO => exact (by (with_reducible repeat (first | apply Kd.S_alloc | apply Kd.S_drewN | apply Kd.S_drew)); exact Kd.S_mono HO_10.out (fun k_ hk => ⟨trivial, fun e_ => hk e_⟩))); (case aS => exact (below_size (by repeat (first | (with_reducible first | exact HB.out | apply below_alloc | apply pw_below_drewN | apply below_drew1) | exact HB.out)))); (case aL => have := LMc58.out; omega); intro v123 w59 ho hb hg hat; rw [← Ny122.out] at ho; have n0_ := Aside0.mk (hb); have n1_ := Aside0.mk (ho); clear HB; clear HO_10; clear HO_12; have HB := n0_; have HO124 := n1_; clear n0_ n1_; clear ho hb hg hat)); try go_wp2_with (first | ((with_reducible refine gate_builtin (b := .append) (xs := #[.tmp 145, .tmp 147]) rfl ?_); at_builtin; refine Kd.S_append (Kd.slice 3 (Kd.int .i64)) (w0 := w) w.heap.size rfl (.tmp 145) (.tmp 147) 26 25 (.slice none 0 0) 24 rfl Try.underlying26 info25 rfl (by decide) (by omega) u10 x10_2 x12_3 [.slice Ao60 x12_3.length co60] (fun _ => True) (fun k_ => some k_ = (.slice Ao60 x12_3.length co60 : Value).ownBlock) rfl rfl ?aP (fun k_ hk_ => ((Kd.R_mono (ok' := fun k_ => ((fun _ => True)) k_ ∧ some k_ ≠ (u10 : Value).ownBlock) (Kd.R_apart' (HO_12.out) (Kd.S_typed HO_10.out) (by decide)) (fun k_ hk => ⟨trivial, hk.2⟩))).1 k_ hk_.symm) ?aF ?aO ?aB ?aS ?aL ?_; (case aP => exact Kd.M_row (Kd.R_mono (Kd.R_tight rfl (Kd.R_mono (ok' := fun k_ => ((fun _ => True)) k_ ∧ some k_ ≠ (u10 : Value).ownBlock) (Kd.R_apart' (HO_12.out) (Kd.S_typed HO_10.out) (by decide)) (fun k_ hk => ⟨trivial, hk.2⟩))) (fun _ h_ => h_))); (case aB => exact (by repeat (first | (with_reducible first | exact HB.out | apply below_alloc | apply pw_below_drewN | apply below_drew1) | exact HB.out))); (case aF => exact (fun _ _ => trivial)); (case aO => exact (by (with_reducible repeat (first | apply Kd.S_alloc | apply Kd.S_drewN | apply Kd.S_drew)); exact Kd.S_mono HO_10.out (fun k_ hk => ⟨trivial, fun e_ => hk e_⟩))); (case aS => exact (below_size (by repeat (first | (with_reducible first | exact HB.out | apply below_alloc | apply pw_below_drewN | apply below_drew1) | exact HB.out)))); (case aL => have := LMc58.out; omega); intro v123 w59 ho hb hg hat; rw [← Ny122.out] at ho; have n0_ := Aside0.mk (hb); have n1_ := Aside0.mk (ho); clear HB; clear HO_10; clear HO_12; have HB := n0_; have HO124 := n1_; clear n0_ n1_; clear ho hb hg hat)))
                                    (try subst hji10)
                                    go_roundg kj17
                                    case measure => have := HJ3.out; have := HK2.out; have := HK3.out; have := HJ17.out; omega
                                    case rel => exact ⟨(y122), (wrap64 (x11_2 + 1)), (by first | rfl | (simp; done) | (simp [*]; done)), H', ⟨by have := HJ3.out; have := HK2.out; have := HK3.out; have := HJ17.out; omega⟩, ⟨by (with_reducible repeat (first | apply Kd.S_alloc | apply Kd.S_drewN | apply Kd.S_drew)); exact HO124.out⟩, ⟨by repeat (first | (with_reducible first | exact HB.out | apply below_alloc | apply pw_below_drewN | apply below_drew1) | exact HB.out)⟩⟩
                                  · rw [if_neg c58] at H
                                    exact absurd H (by simp)
                                · rw [if_neg c57] at H
                                  have c57b0 : (x13_3 == (wrap64 ((l0.length : Int) - a1))) = false := beq_eq_false_iff_ne.mpr c57
                                  have c57b1 : (x13_3 != (wrap64 ((l0.length : Int) - a1))) = true := bne_iff_ne.mpr c57
                                  have H' := Aside0.mk H
                                  clear H
                                  go_wp2
                                  repeat (go_quiet (fail); try go_wp2)
                                  (try subst hji10)
                                  go_roundg kj17
                                  case measure => have := HJ3.out; have := HK2.out; have := HK3.out; have := HJ17.out; omega
                                  case rel => exact ⟨(x10_2), (wrap64 (x11_2 + 1)), (by first | rfl | (simp; done) | (simp [*]; done)), H', ⟨by have := HJ3.out; have := HK2.out; have := HK3.out; have := HJ17.out; omega⟩, ⟨by (with_reducible repeat (first | apply Kd.S_alloc | apply Kd.S_drewN | apply Kd.S_drew)); exact Kd.S_mono HO_10.out (fun _ hk => trivial)⟩, ⟨by repeat (first | (with_reducible first | exact HB.out | apply below_alloc | apply pw_below_drewN | apply below_drew1) | exact HB.out)⟩⟩
                              · replace c56 := Bool.eq_false_iff.mpr c56
                                subst c56
                                have H1 : (spec_rvWays.l0 kj17 l0 a1 a2 (wrap64 ((l0.length : Int) - a1)) (ji10) x10_2 (wrap64 (x11_2 + 1))) = some (r1, r2) := by rw [if_neg (show ¬ (false = true) by decide)] at H; exact H
                                clear H
                                have H := H1
                                clear H1
                                have H' := Aside0.mk H
                                clear H
                                go_wp2
                                repeat (go_quiet (fail); try go_wp2)
                                (try subst hji10)
                                go_roundg kj17
                                case measure => have := HJ3.out; have := HK2.out; have := HK3.out; have := HJ17.out; omega
                                case rel => exact ⟨(x10_2), (wrap64 (x11_2 + 1)), (by first | rfl | (simp; done) | (simp [*]; done)), H', ⟨by have := HJ3.out; have := HK2.out; have := HK3.out; have := HJ17.out; omega⟩, ⟨by (with_reducible repeat (first | apply Kd.S_alloc | apply Kd.S_drewN | apply Kd.S_drew)); exact Kd.S_mono HO_10.out (fun _ hk => trivial)⟩, ⟨by repeat (first | (with_reducible first | exact HB.out | apply below_alloc | apply pw_below_drewN | apply below_drew1) | exact HB.out)⟩⟩
                  · rw [if_neg c15] at H
                    exact absurd H (by simp)
                · rw [if_neg c14] at H
                  exact absurd H (by simp)
              · rw [if_neg c13] at H
                have c13b0 : decide (x11_2 < (ji12)) = false := decide_eq_false c13
                clear c13
                simp only [Option.some.injEq, Prod.mk.injEq] at H
                obtain ⟨rfl, rfl⟩ := H
                go_wp2
                repeat (go_quiet (fail); try go_wp2)
                go_ret2
                exact ⟨_, by first | rfl | (simp [errW_none, errW_some] <;> rfl) | (simp only [← hji10, ← hji12]; first | rfl | (simp [errW_none, errW_some] <;> rfl)) | (simp [*, errW_none, errW_some] <;> rfl), by (with_reducible repeat (first | apply Kd.S_alloc | apply Kd.S_drewN | apply Kd.S_drew)); exact HO_10.out, by repeat (first | (with_reducible first | exact HB.out | apply below_alloc | apply pw_below_drewN | apply below_drew1) | exact HB.out)⟩
            · rw [if_neg c11] at H
              exact absurd H (by simp)

/-! ### spec_rvPair: function 89 -/
def spec_rvPair.l0 : Nat → Int → Int → Int → Int → Option (Int)
  | 0, _, _, _, _ => none
  | k + 1, x0, x1, x7, x8 => if x8 < x1 then ((spec_l1In.f (wrap64 (x0 - x8)) 0 (wrap64 (x1 - 1))).bind fun t138 => (if t138 = true then (spec_rvPair.l0 k x0 x1 (wrap64 (x7 + 1)) (wrap64 (x8 + 1))) else (spec_rvPair.l0 k x0 x1 x7 (wrap64 (x8 + 1))))) else (some x7)
def spec_rvPair.f (k : Nat) (a0 : Int) (a1 : Int) (a2 : Int) : Option (Int) := spec_rvPair.l0 k a0 a1 0 a2
theorem spec_rvPair.mono_l : ∀ k, (∀ y0 y1 y2 y3, LeO (spec_rvPair.l0 k y0 y1 y2 y3) (spec_rvPair.l0 (k + 1) y0 y1 y2 y3))
  | 0 => fun _ _ _ _ r h => by simp [spec_rvPair.l0] at h
  | k + 1 => by
    have ih0 := spec_rvPair.mono_l k
    · intro y0 y1 y2 y3
      unfold spec_rvPair.l0
      repeat' first
      | (with_reducible exact ih0 _ _ _ _)
      | (with_reducible exact LeO.refl _)
      | (with_reducible exact LeO.none _)
      | (with_reducible refine LeO.ite ?_ ?_)
      | (with_reducible refine LeO.bind ?_ (fun _ => ?_))
      | exact ih0 _ _ _ _
      | exact LeO.none _
      | refine LeO.ite ?_ ?_
      | refine LeO.bind ?_ (fun _ => ?_)
theorem spec_rvPair.mono : ∀ a0 a1 a2 k, LeO (spec_rvPair.f k a0 a1 a2) (spec_rvPair.f (k + 1) a0 a1 a2) := by
  intro a0 a1 a2 k
  have ih0 := spec_rvPair.mono_l k
  unfold spec_rvPair.f
  repeat' first
      | (with_reducible exact ih0 _ _ _ _)
      | (with_reducible exact LeO.refl _)
      | (with_reducible exact LeO.none _)
      | (with_reducible refine LeO.ite ?_ ?_)
      | (with_reducible refine LeO.bind ?_ (fun _ => ?_))
      | exact ih0 _ _ _ _
      | exact LeO.none _
      | refine LeO.ite ?_ ?_
      | refine LeO.bind ?_ (fun _ => ?_)
set_option maxHeartbeats 8000000 in
set_option maxRecDepth 100000 in
theorem spec_rvPair.calls (k : Nat) (a0 : Int) (a1 : Int) (a2 : Int) (r : Int) (w : World) (h : spec_rvPair.f k a0 a1 a2 = some r) :
    Calls Try.prog 89 #[.int .i64 a0, .int .i64 a1, .int .i64 a2] w fun e w' => e = .returned (.int .i64 r) ∧ Drawn0 w w' := by
  have H : (spec_rvPair.l0 k a0 a1 0 a2) = some r := h
  clear h
  have H' := Aside0.mk H
  clear H
  go_enter Try.func89, Try.ntmps89
  go_wp2
  go_loopg [7, 8] k (fun kq v7 v8 w' => ∃ (x7_1 : Int) (x8_1 : Int), v7 = .int .i64 x7_1 ∧ v8 = .int .i64 x8_1 ∧ Aside0 (spec_rvPair.l0 kq a0 a1 x7_1 x8_1 = some r) ∧ Aside0 (kq ≤ k) ∧ Drawn0 w w')
  case atStart => exact ⟨(0), (a2), (by first | rfl | (simp; done) | (simp [*]; done)), (by first | rfl | (simp; done) | (simp [*]; done)), H', ⟨Nat.le_refl _⟩, by repeat (first | exact Drawn0.refl _ | apply Drawn0.step)⟩
  case round =>
    clear H'
    try clear p2
    obtain ⟨x7_1, x8_1, rfl, rfl, HA, HK1, ⟨m1, rfl⟩⟩ := hrel
    cases gk with
    | zero => exact absurd HA.out (by simp [spec_rvPair.l0])
    | succ k1 =>
      have H := HA.out
      clear HA
      simp only [spec_rvPair.l0] at H
      by_cases c4 : x8_1 < a1
      · rw [if_pos c4] at H
        have c4b0 : decide (x8_1 < a1) = true := decide_eq_true c4
        clear c4
        replace H := Option.bind_eq_some_iff.mp H
        obtain ⟨t138, A50, H⟩ := H
        replace H : (if t138 = true then (spec_rvPair.l0 k1 a0 a1 (wrap64 (x7_1 + 1)) (wrap64 (x8_1 + 1))) else (spec_rvPair.l0 k1 a0 a1 x7_1 (wrap64 (x8_1 + 1)))) = some r := H
        have A5 := Aside0.mk A50
        clear A50
        by_cases c6 : t138 = true
        · subst c6
          have H1 : (spec_rvPair.l0 k1 a0 a1 (wrap64 (x7_1 + 1)) (wrap64 (x8_1 + 1))) = some r := by rw [if_pos rfl] at H; exact H
          clear H
          have H := H1
          clear H1
          have H' := Aside0.mk H
          clear H
          go_wp2_with (first | ((with_reducible refine gate_callee (f := 45) rfl ?_); refine goesL_ (some 20) rfl rfl Try.func45 (by kernel_rfl) rfl #[.int .i64 (wrap64 (a0 - x8_1)), .int .i64 0, .int .i64 (wrap64 (a1 - 1))] rfl (by (try simp only [List.map_toArray, List.map_cons, List.map_nil]); first | done | rfl | (simp only [List.length_drop, List.length_take]; rfl)) ?_; (with_reducible refine (spec_l1In.calls (wrap64 (a0 - x8_1)) 0 (wrap64 (a1 - 1)) true _ A5.out).mono ?_); rintro e w' ⟨rfl, ⟨nd, rfl⟩⟩; refine ⟨_, rfl, ?_⟩))
          go_roundg k1
          case measure => have := HK1.out; omega
          case rel => exact ⟨(wrap64 (x7_1 + 1)), (wrap64 (x8_1 + 1)), (by first | rfl | (simp; done) | (simp [*]; done)), (by first | rfl | (simp; done) | (simp [*]; done)), H', ⟨by have := HK1.out; omega⟩, by repeat (first | exact Drawn0.refl _ | apply Drawn0.step)⟩
        · replace c6 := Bool.eq_false_iff.mpr c6
          subst c6
          have H1 : (spec_rvPair.l0 k1 a0 a1 x7_1 (wrap64 (x8_1 + 1))) = some r := by rw [if_neg (show ¬ (false = true) by decide)] at H; exact H
          clear H
          have H := H1
          clear H1
          have H' := Aside0.mk H
          clear H
          go_wp2_with (first | ((with_reducible refine gate_callee (f := 45) rfl ?_); refine goesL_ (some 20) rfl rfl Try.func45 (by kernel_rfl) rfl #[.int .i64 (wrap64 (a0 - x8_1)), .int .i64 0, .int .i64 (wrap64 (a1 - 1))] rfl (by (try simp only [List.map_toArray, List.map_cons, List.map_nil]); first | done | rfl | (simp only [List.length_drop, List.length_take]; rfl)) ?_; (with_reducible refine (spec_l1In.calls (wrap64 (a0 - x8_1)) 0 (wrap64 (a1 - 1)) false _ A5.out).mono ?_); rintro e w' ⟨rfl, ⟨nd, rfl⟩⟩; refine ⟨_, rfl, ?_⟩))
          go_roundg k1
          case measure => have := HK1.out; omega
          case rel => exact ⟨(x7_1), (wrap64 (x8_1 + 1)), (by first | rfl | (simp; done) | (simp [*]; done)), (by first | rfl | (simp; done) | (simp [*]; done)), H', ⟨by have := HK1.out; omega⟩, by repeat (first | exact Drawn0.refl _ | apply Drawn0.step)⟩
      · rw [if_neg c4] at H
        have c4b0 : decide (x8_1 < a1) = false := decide_eq_false c4
        clear c4
        obtain rfl := Option.some.inj H
        go_wp2
        go_ret
        exact ⟨by first | rfl | (simp; done) | (simp [*]; done), by repeat (first | exact Drawn0.refl _ | apply Drawn0.step)⟩

end Go.Proofs.Ytimimjmabnmeoaa.PFnExactFirstSource
