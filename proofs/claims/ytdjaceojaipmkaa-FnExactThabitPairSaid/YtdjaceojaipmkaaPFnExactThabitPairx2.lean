-- PRINTED BY print.sh 35421559b90ae4d0a3588c463048766b98c2df88dd9212a6774a882060cdf62d: not written by this session
import Derived.Test.YtdjaceojaipmkaaPFnExactThabitPairx0
import Derived.Test.YtdjaceojaipmkaaPFnExactThabitPairx1
namespace Go.Proofs.Ytdjaceojaipmkaa.PFnExactThabitPair
open Go.RowKit Go.Proofs.YtdjaceojaipmkaaW.PrintWords Go.Proofs.YtdjaceojaipmkaaW.PrintLast Go.Proofs.YtdjaceojaipmkaaW.PrintMore
attribute [local go_sem] max2_int min2_int max_two min_two max_three min_three max_four min_four   -- for this text's walks alone
set_option linter.unusedVariables false
set_option linter.unusedSimpArgs false

/-! ### impl_ThabitPair: function 28 -/
def impl_ThabitPair.f (k : Nat) (a0 : Int) : Option (Int × Int × Bool) := (impl_in.f a0 2 7).bind fun t126 => (if t126 = true then (if 0 ≤ (wrap64 (a0 - 1)) then (if 0 ≤ a0 then (if 0 ≤ (wrap64 ((wrap64 (2 * a0)) - 1)) then ((impl_isPrime.f k (wrap64 ((shl .i64 3 (wrap64 (a0 - 1))) - 1))).bind fun t127 => (if t127 = true then ((impl_isPrime.f k (wrap64 ((shl .i64 3 a0) - 1))).bind fun t128 => (if t128 = true then ((impl_isPrime.f k (wrap64 ((shl .i64 9 (wrap64 ((wrap64 (2 * a0)) - 1))) - 1))).bind fun t129 => (if t129 = true then (some (shl .i64 (wrap64 ((wrap64 ((shl .i64 3 (wrap64 (a0 - 1))) - 1)) * (wrap64 ((shl .i64 3 a0) - 1)))) a0, shl .i64 (wrap64 ((shl .i64 9 (wrap64 ((wrap64 (2 * a0)) - 1))) - 1)) a0, true)) else (some (0, 0, false)))) else (some (0, 0, false)))) else (some (0, 0, false)))) else (none)) else (none)) else (none)) else (some (0, 0, false)))
theorem impl_ThabitPair.mono : ∀ a0 k, LeO (impl_ThabitPair.f k a0) (impl_ThabitPair.f (k + 1) a0) := by
  intro a0 k
  unfold impl_ThabitPair.f
  repeat' first
      | (with_reducible exact impl_isPrime.mono _ _)
      | (with_reducible exact LeO.refl _)
      | (with_reducible exact LeO.none _)
      | (with_reducible refine LeO.ite ?_ ?_)
      | (with_reducible refine LeO.bind ?_ (fun _ => ?_))
      | exact impl_isPrime.mono _ _
      | exact LeO.none _
      | refine LeO.ite ?_ ?_
      | refine LeO.bind ?_ (fun _ => ?_)
set_option maxHeartbeats 8000000 in
set_option maxRecDepth 100000 in
theorem impl_ThabitPair.calls (k : Nat) (a0 : Int) (r1 : Int) (r2 : Int) (r3 : Bool) (w : World) (h : impl_ThabitPair.f k a0 = some (r1, r2, r3)) :
    Calls Try.prog 28 #[.int .i64 a0] w fun e w' => e = .returned (.tuple #[.int .i64 r1, .int .i64 r2, .bool r3]) ∧ Below w.heap.size w w' := by
  have HB := Aside0.mk (Below.refl w.heap.size w)
  have H : ((impl_in.f a0 2 7).bind fun t126 => (if t126 = true then (if 0 ≤ (wrap64 (a0 - 1)) then (if 0 ≤ a0 then (if 0 ≤ (wrap64 ((wrap64 (2 * a0)) - 1)) then ((impl_isPrime.f k (wrap64 ((shl .i64 3 (wrap64 (a0 - 1))) - 1))).bind fun t127 => (if t127 = true then ((impl_isPrime.f k (wrap64 ((shl .i64 3 a0) - 1))).bind fun t128 => (if t128 = true then ((impl_isPrime.f k (wrap64 ((shl .i64 9 (wrap64 ((wrap64 (2 * a0)) - 1))) - 1))).bind fun t129 => (if t129 = true then (some (shl .i64 (wrap64 ((wrap64 ((shl .i64 3 (wrap64 (a0 - 1))) - 1)) * (wrap64 ((shl .i64 3 a0) - 1)))) a0, shl .i64 (wrap64 ((shl .i64 9 (wrap64 ((wrap64 (2 * a0)) - 1))) - 1)) a0, true)) else (some (0, 0, false)))) else (some (0, 0, false)))) else (some (0, 0, false)))) else (none)) else (none)) else (none)) else (some (0, 0, false)))) = some (r1, r2, r3) := h
  clear h
  replace H := Option.bind_eq_some_iff.mp H
  obtain ⟨t126, A20, H⟩ := H
  replace H : (if t126 = true then (if 0 ≤ (wrap64 (a0 - 1)) then (if 0 ≤ a0 then (if 0 ≤ (wrap64 ((wrap64 (2 * a0)) - 1)) then ((impl_isPrime.f k (wrap64 ((shl .i64 3 (wrap64 (a0 - 1))) - 1))).bind fun t127 => (if t127 = true then ((impl_isPrime.f k (wrap64 ((shl .i64 3 a0) - 1))).bind fun t128 => (if t128 = true then ((impl_isPrime.f k (wrap64 ((shl .i64 9 (wrap64 ((wrap64 (2 * a0)) - 1))) - 1))).bind fun t129 => (if t129 = true then (some (shl .i64 (wrap64 ((wrap64 ((shl .i64 3 (wrap64 (a0 - 1))) - 1)) * (wrap64 ((shl .i64 3 a0) - 1)))) a0, shl .i64 (wrap64 ((shl .i64 9 (wrap64 ((wrap64 (2 * a0)) - 1))) - 1)) a0, true)) else (some (0, 0, false)))) else (some (0, 0, false)))) else (some (0, 0, false)))) else (none)) else (none)) else (none)) else (some (0, 0, false))) = some (r1, r2, r3) := H
  have A2 := Aside0.mk A20
  clear A20
  by_cases c3 : t126 = true
  · subst c3
    have H1 : (if 0 ≤ (wrap64 (a0 - 1)) then (if 0 ≤ a0 then (if 0 ≤ (wrap64 ((wrap64 (2 * a0)) - 1)) then ((impl_isPrime.f k (wrap64 ((shl .i64 3 (wrap64 (a0 - 1))) - 1))).bind fun t127 => (if t127 = true then ((impl_isPrime.f k (wrap64 ((shl .i64 3 a0) - 1))).bind fun t128 => (if t128 = true then ((impl_isPrime.f k (wrap64 ((shl .i64 9 (wrap64 ((wrap64 (2 * a0)) - 1))) - 1))).bind fun t129 => (if t129 = true then (some (shl .i64 (wrap64 ((wrap64 ((shl .i64 3 (wrap64 (a0 - 1))) - 1)) * (wrap64 ((shl .i64 3 a0) - 1)))) a0, shl .i64 (wrap64 ((shl .i64 9 (wrap64 ((wrap64 (2 * a0)) - 1))) - 1)) a0, true)) else (some (0, 0, false)))) else (some (0, 0, false)))) else (some (0, 0, false)))) else (none)) else (none)) else (none)) = some (r1, r2, r3) := by rw [if_pos rfl] at H; exact H
    clear H
    have H := H1
    clear H1
    obtain ⟨ji4, hji4⟩ : ∃ j_ : Int, (wrap64 (a0 - 1)) = j_ := ⟨_, rfl⟩
    replace H : (if 0 ≤ (ji4) then (if 0 ≤ a0 then (if 0 ≤ (wrap64 ((wrap64 (2 * a0)) - 1)) then ((impl_isPrime.f k (wrap64 ((shl .i64 3 (ji4)) - 1))).bind fun t127 => (if t127 = true then ((impl_isPrime.f k (wrap64 ((shl .i64 3 a0) - 1))).bind fun t128 => (if t128 = true then ((impl_isPrime.f k (wrap64 ((shl .i64 9 (wrap64 ((wrap64 (2 * a0)) - 1))) - 1))).bind fun t129 => (if t129 = true then (some (shl .i64 (wrap64 ((wrap64 ((shl .i64 3 (ji4)) - 1)) * (wrap64 ((shl .i64 3 a0) - 1)))) a0, shl .i64 (wrap64 ((shl .i64 9 (wrap64 ((wrap64 (2 * a0)) - 1))) - 1)) a0, true)) else (some (0, 0, false)))) else (some (0, 0, false)))) else (some (0, 0, false)))) else (none)) else (none)) else (none)) = some (r1, r2, r3) := by first | (rw [hji4] at H; exact H) | (simp only [hji4] at H ⊢; exact H)
    (try rw [hji4] at A2)
    have hji4w : (IntKind.i64.wrap (a0 - 1)) = ji4 := (i64_w _).trans hji4
    by_cases c5 : 0 ≤ (ji4)
    · rw [if_pos c5] at H
      have c5b0 := eq_true c5
      have c5b1 : decide (0 ≤ (ji4)) = true := decide_eq_true c5
      clear c5
      obtain ⟨ji6, hji6⟩ : ∃ j_ : Int, (shl .i64 3 (ji4)) = j_ := ⟨_, rfl⟩
      replace H : (if 0 ≤ a0 then (if 0 ≤ (wrap64 ((wrap64 (2 * a0)) - 1)) then ((impl_isPrime.f k (wrap64 ((ji6) - 1))).bind fun t127 => (if t127 = true then ((impl_isPrime.f k (wrap64 ((shl .i64 3 a0) - 1))).bind fun t128 => (if t128 = true then ((impl_isPrime.f k (wrap64 ((shl .i64 9 (wrap64 ((wrap64 (2 * a0)) - 1))) - 1))).bind fun t129 => (if t129 = true then (some (shl .i64 (wrap64 ((wrap64 ((ji6) - 1)) * (wrap64 ((shl .i64 3 a0) - 1)))) a0, shl .i64 (wrap64 ((shl .i64 9 (wrap64 ((wrap64 (2 * a0)) - 1))) - 1)) a0, true)) else (some (0, 0, false)))) else (some (0, 0, false)))) else (some (0, 0, false)))) else (none)) else (none)) = some (r1, r2, r3) := by first | (rw [hji6] at H; exact H) | (simp only [hji6] at H ⊢; exact H)
      (try rw [hji6] at A2)
      have hji6_ : (IntKind.i64.wrap (3 * 2 ^ min (ji4).toNat 64)) = ji6 := hji6
      have hji6z : (ji4) ≤ 64 → (IntKind.i64.wrap (3 * 2 ^ (ji4).toNat)) = ji6 := shl_small hji6
      have hji6y : (wrap64 (3 * 2 ^ min (ji4).toNat 64)) = ji6 := (i64_w _).symm.trans hji6_
      have hji6x : (ji4) ≤ 64 → (wrap64 (3 * 2 ^ (ji4).toNat)) = ji6 := fun h_ => (i64_w _).symm.trans (hji6z h_)
      by_cases c7 : 0 ≤ a0
      · rw [if_pos c7] at H
        have c7b0 := eq_true c7
        have c7b1 : decide (0 ≤ a0) = true := decide_eq_true c7
        clear c7
        obtain ⟨ji8, hji8⟩ : ∃ j_ : Int, (shl .i64 3 a0) = j_ := ⟨_, rfl⟩
        replace H : (if 0 ≤ (wrap64 ((wrap64 (2 * a0)) - 1)) then ((impl_isPrime.f k (wrap64 ((ji6) - 1))).bind fun t127 => (if t127 = true then ((impl_isPrime.f k (wrap64 ((ji8) - 1))).bind fun t128 => (if t128 = true then ((impl_isPrime.f k (wrap64 ((shl .i64 9 (wrap64 ((wrap64 (2 * a0)) - 1))) - 1))).bind fun t129 => (if t129 = true then (some (shl .i64 (wrap64 ((wrap64 ((ji6) - 1)) * (wrap64 ((ji8) - 1)))) a0, shl .i64 (wrap64 ((shl .i64 9 (wrap64 ((wrap64 (2 * a0)) - 1))) - 1)) a0, true)) else (some (0, 0, false)))) else (some (0, 0, false)))) else (some (0, 0, false)))) else (none)) = some (r1, r2, r3) := by first | (rw [hji8] at H; exact H) | (simp only [hji8] at H ⊢; exact H)
        (try rw [hji8] at A2)
        have hji8_ : (IntKind.i64.wrap (3 * 2 ^ min a0.toNat 64)) = ji8 := hji8
        have hji8z : a0 ≤ 64 → (IntKind.i64.wrap (3 * 2 ^ a0.toNat)) = ji8 := shl_small hji8
        have hji8y : (wrap64 (3 * 2 ^ min a0.toNat 64)) = ji8 := (i64_w _).symm.trans hji8_
        have hji8x : a0 ≤ 64 → (wrap64 (3 * 2 ^ a0.toNat)) = ji8 := fun h_ => (i64_w _).symm.trans (hji8z h_)
        obtain ⟨ji9, hji9⟩ : ∃ j_ : Int, (wrap64 ((wrap64 (2 * a0)) - 1)) = j_ := ⟨_, rfl⟩
        replace H : (if 0 ≤ (ji9) then ((impl_isPrime.f k (wrap64 ((ji6) - 1))).bind fun t127 => (if t127 = true then ((impl_isPrime.f k (wrap64 ((ji8) - 1))).bind fun t128 => (if t128 = true then ((impl_isPrime.f k (wrap64 ((shl .i64 9 (ji9)) - 1))).bind fun t129 => (if t129 = true then (some (shl .i64 (wrap64 ((wrap64 ((ji6) - 1)) * (wrap64 ((ji8) - 1)))) a0, shl .i64 (wrap64 ((shl .i64 9 (ji9)) - 1)) a0, true)) else (some (0, 0, false)))) else (some (0, 0, false)))) else (some (0, 0, false)))) else (none)) = some (r1, r2, r3) := by first | (rw [hji9] at H; exact H) | (simp only [hji9] at H ⊢; exact H)
        (try rw [hji9] at A2)
        have hji9w : (IntKind.i64.wrap ((wrap64 (2 * a0)) - 1)) = ji9 := (i64_w _).trans hji9
        by_cases c10 : 0 ≤ (ji9)
        · rw [if_pos c10] at H
          have c10b0 := eq_true c10
          have c10b1 : decide (0 ≤ (ji9)) = true := decide_eq_true c10
          clear c10
          obtain ⟨ji11, hji11⟩ : ∃ j_ : Int, (shl .i64 9 (ji9)) = j_ := ⟨_, rfl⟩
          replace H : ((impl_isPrime.f k (wrap64 ((ji6) - 1))).bind fun t127 => (if t127 = true then ((impl_isPrime.f k (wrap64 ((ji8) - 1))).bind fun t128 => (if t128 = true then ((impl_isPrime.f k (wrap64 ((ji11) - 1))).bind fun t129 => (if t129 = true then (some (shl .i64 (wrap64 ((wrap64 ((ji6) - 1)) * (wrap64 ((ji8) - 1)))) a0, shl .i64 (wrap64 ((ji11) - 1)) a0, true)) else (some (0, 0, false)))) else (some (0, 0, false)))) else (some (0, 0, false)))) = some (r1, r2, r3) := by first | (rw [hji11] at H; exact H) | (simp only [hji11] at H ⊢; exact H)
          (try rw [hji11] at A2)
          have hji11_ : (IntKind.i64.wrap (9 * 2 ^ min (ji9).toNat 64)) = ji11 := hji11
          have hji11z : (ji9) ≤ 64 → (IntKind.i64.wrap (9 * 2 ^ (ji9).toNat)) = ji11 := shl_small hji11
          have hji11y : (wrap64 (9 * 2 ^ min (ji9).toNat 64)) = ji11 := (i64_w _).symm.trans hji11_
          have hji11x : (ji9) ≤ 64 → (wrap64 (9 * 2 ^ (ji9).toNat)) = ji11 := fun h_ => (i64_w _).symm.trans (hji11z h_)
          replace H := Option.bind_eq_some_iff.mp H
          obtain ⟨t127, A120, H⟩ := H
          replace H : (if t127 = true then ((impl_isPrime.f k (wrap64 ((ji8) - 1))).bind fun t128 => (if t128 = true then ((impl_isPrime.f k (wrap64 ((ji11) - 1))).bind fun t129 => (if t129 = true then (some (shl .i64 (wrap64 ((wrap64 ((ji6) - 1)) * (wrap64 ((ji8) - 1)))) a0, shl .i64 (wrap64 ((ji11) - 1)) a0, true)) else (some (0, 0, false)))) else (some (0, 0, false)))) else (some (0, 0, false))) = some (r1, r2, r3) := H
          have A12 := Aside0.mk A120
          clear A120
          by_cases c13 : t127 = true
          · subst c13
            have H1 : ((impl_isPrime.f k (wrap64 ((ji8) - 1))).bind fun t128 => (if t128 = true then ((impl_isPrime.f k (wrap64 ((ji11) - 1))).bind fun t129 => (if t129 = true then (some (shl .i64 (wrap64 ((wrap64 ((ji6) - 1)) * (wrap64 ((ji8) - 1)))) a0, shl .i64 (wrap64 ((ji11) - 1)) a0, true)) else (some (0, 0, false)))) else (some (0, 0, false)))) = some (r1, r2, r3) := by rw [if_pos rfl] at H; exact H
            clear H
            have H := H1
            clear H1
            replace H := Option.bind_eq_some_iff.mp H
            obtain ⟨t128, A140, H⟩ := H
            replace H : (if t128 = true then ((impl_isPrime.f k (wrap64 ((ji11) - 1))).bind fun t129 => (if t129 = true then (some (shl .i64 (wrap64 ((wrap64 ((ji6) - 1)) * (wrap64 ((ji8) - 1)))) a0, shl .i64 (wrap64 ((ji11) - 1)) a0, true)) else (some (0, 0, false)))) else (some (0, 0, false))) = some (r1, r2, r3) := H
            have A14 := Aside0.mk A140
            clear A140
            by_cases c15 : t128 = true
            · subst c15
              have H1 : ((impl_isPrime.f k (wrap64 ((ji11) - 1))).bind fun t129 => (if t129 = true then (some (shl .i64 (wrap64 ((wrap64 ((ji6) - 1)) * (wrap64 ((ji8) - 1)))) a0, shl .i64 (wrap64 ((ji11) - 1)) a0, true)) else (some (0, 0, false)))) = some (r1, r2, r3) := by rw [if_pos rfl] at H; exact H
              clear H
              have H := H1
              clear H1
              replace H := Option.bind_eq_some_iff.mp H
              obtain ⟨t129, A160, H⟩ := H
              replace H : (if t129 = true then (some (shl .i64 (wrap64 ((wrap64 ((ji6) - 1)) * (wrap64 ((ji8) - 1)))) a0, shl .i64 (wrap64 ((ji11) - 1)) a0, true)) else (some (0, 0, false))) = some (r1, r2, r3) := H
              have A16 := Aside0.mk A160
              clear A160
              by_cases c17 : t129 = true
              · subst c17
                have H1 : (some (shl .i64 (wrap64 ((wrap64 ((ji6) - 1)) * (wrap64 ((ji8) - 1)))) a0, shl .i64 (wrap64 ((ji11) - 1)) a0, true)) = some (r1, r2, r3) := by rw [if_pos rfl] at H; exact H
                clear H
                have H := H1
                clear H1
                have c18b0 := eq_true (of_decide_eq_true (by first | (with_reducible assumption) | assumption) : 0 ≤ a0)
                obtain ⟨ji19, hji19⟩ : ∃ j_ : Int, (shl .i64 (wrap64 ((wrap64 ((ji6) - 1)) * (wrap64 ((ji8) - 1)))) a0) = j_ := ⟨_, rfl⟩
                replace H : (some (ji19, shl .i64 (wrap64 ((ji11) - 1)) a0, true)) = some (r1, r2, r3) := by first | (rw [hji19] at H; exact H) | (simp only [hji19] at H ⊢; exact H)
                (try rw [hji19] at A2)
                (try rw [hji19] at A12)
                (try rw [hji19] at A14)
                (try rw [hji19] at A16)
                have hji19_ : (IntKind.i64.wrap ((wrap64 ((wrap64 ((ji6) - 1)) * (wrap64 ((ji8) - 1)))) * 2 ^ min a0.toNat 64)) = ji19 := hji19
                have hji19z : a0 ≤ 64 → (IntKind.i64.wrap ((wrap64 ((wrap64 ((ji6) - 1)) * (wrap64 ((ji8) - 1)))) * 2 ^ a0.toNat)) = ji19 := shl_small hji19
                have hji19y : (wrap64 ((wrap64 ((wrap64 ((ji6) - 1)) * (wrap64 ((ji8) - 1)))) * 2 ^ min a0.toNat 64)) = ji19 := (i64_w _).symm.trans hji19_
                have hji19x : a0 ≤ 64 → (wrap64 ((wrap64 ((wrap64 ((ji6) - 1)) * (wrap64 ((ji8) - 1)))) * 2 ^ a0.toNat)) = ji19 := fun h_ => (i64_w _).symm.trans (hji19z h_)
                have c20b0 := eq_true (of_decide_eq_true (by first | (with_reducible assumption) | assumption) : 0 ≤ a0)
                obtain ⟨ji21, hji21⟩ : ∃ j_ : Int, (shl .i64 (wrap64 ((ji11) - 1)) a0) = j_ := ⟨_, rfl⟩
                replace H : (some (ji19, ji21, true)) = some (r1, r2, r3) := by first | (rw [hji21] at H; exact H) | (simp only [hji21] at H ⊢; exact H)
                (try rw [hji21] at A2)
                (try rw [hji21] at A12)
                (try rw [hji21] at A14)
                (try rw [hji21] at A16)
                have hji21_ : (IntKind.i64.wrap ((wrap64 ((ji11) - 1)) * 2 ^ min a0.toNat 64)) = ji21 := hji21
                have hji21z : a0 ≤ 64 → (IntKind.i64.wrap ((wrap64 ((ji11) - 1)) * 2 ^ a0.toNat)) = ji21 := shl_small hji21
                have hji21y : (wrap64 ((wrap64 ((ji11) - 1)) * 2 ^ min a0.toNat 64)) = ji21 := (i64_w _).symm.trans hji21_
                have hji21x : a0 ≤ 64 → (wrap64 ((wrap64 ((ji11) - 1)) * 2 ^ a0.toNat)) = ji21 := fun h_ => (i64_w _).symm.trans (hji21z h_)
                simp only [Option.some.injEq, Prod.mk.injEq] at H
                obtain ⟨rfl, rfl, rfl⟩ := H
                go_enter Try.func28, Try.ntmps28
                go_wp2_with (first | (go_at_call 56; (with_reducible refine (impl_in.calls a0 2 7 true _ A2.out).mono ?_); rintro e w' ⟨rfl, ⟨nd, rfl⟩⟩; (try first | exact ⟨rfl, _, World.drewN_drewN _ _ _⟩ | exact ⟨rfl, _, Eq.trans (World.drewN_drewN _ _ _) (congrArg (World.drewN _) (Nat.add_assoc _ _ _))⟩)) | (go_at_call 57; (with_reducible refine (impl_isPrime.calls k (wrap64 ((ji6) - 1)) true _ A12.out).mono ?_); rintro e w22 ⟨rfl, hb⟩; have n0_ := Aside0.mk (below_step (by repeat (first | (with_reducible first | exact HB.out | apply below_alloc | apply pw_below_drewN | apply below_drew1) | exact HB.out)) hb); clear HB; have HB := n0_; clear n0_; (try clear hb); (try clear hb2); (try clear hk); (try clear hi)) | (go_at_call 57; (with_reducible refine (impl_isPrime.calls k (wrap64 ((ji8) - 1)) true _ A14.out).mono ?_); rintro e w23 ⟨rfl, hb⟩; have n0_ := Aside0.mk (below_step (by repeat (first | (with_reducible first | exact HB.out | apply below_alloc | apply pw_below_drewN | apply below_drew1) | exact HB.out)) hb); clear HB; have HB := n0_; clear n0_; (try clear hb); (try clear hb2); (try clear hk); (try clear hi)) | (go_at_call 57; (with_reducible refine (impl_isPrime.calls k (wrap64 ((ji11) - 1)) true _ A16.out).mono ?_); rintro e w24 ⟨rfl, hb⟩; have n0_ := Aside0.mk (below_step (by repeat (first | (with_reducible first | exact HB.out | apply below_alloc | apply pw_below_drewN | apply below_drew1) | exact HB.out)) hb); clear HB; have HB := n0_; clear n0_; (try clear hb); (try clear hb2); (try clear hk); (try clear hi)))
                repeat (go_quiet (first | (go_at_call 56; (with_reducible refine (impl_in.calls a0 2 7 true _ A2.out).mono ?_); rintro e w' ⟨rfl, ⟨nd, rfl⟩⟩; (try first | exact ⟨rfl, _, World.drewN_drewN _ _ _⟩ | exact ⟨rfl, _, Eq.trans (World.drewN_drewN _ _ _) (congrArg (World.drewN _) (Nat.add_assoc _ _ _))⟩)) | (go_at_call 57; (with_reducible refine (impl_isPrime.calls k (wrap64 ((ji6) - 1)) true _ A12.out).mono ?_); rintro e w22 ⟨rfl, hb⟩; have n0_ := Aside0.mk (below_step (by repeat (first | (with_reducible first | exact HB.out | apply below_alloc | apply pw_below_drewN | apply below_drew1) | exact HB.out)) hb); clear HB; have HB := n0_; clear n0_; (try clear hb); (try clear hb2); (try clear hk); (try clear hi)) | (go_at_call 57; (with_reducible refine (impl_isPrime.calls k (wrap64 ((ji8) - 1)) true _ A14.out).mono ?_); rintro e w23 ⟨rfl, hb⟩; have n0_ := Aside0.mk (below_step (by repeat (first | (with_reducible first | exact HB.out | apply below_alloc | apply pw_below_drewN | apply below_drew1) | exact HB.out)) hb); clear HB; have HB := n0_; clear n0_; (try clear hb); (try clear hb2); (try clear hk); (try clear hi)) | (go_at_call 57; (with_reducible refine (impl_isPrime.calls k (wrap64 ((ji11) - 1)) true _ A16.out).mono ?_); rintro e w24 ⟨rfl, hb⟩; have n0_ := Aside0.mk (below_step (by repeat (first | (with_reducible first | exact HB.out | apply below_alloc | apply pw_below_drewN | apply below_drew1) | exact HB.out)) hb); clear HB; have HB := n0_; clear n0_; (try clear hb); (try clear hb2); (try clear hk); (try clear hi))); try go_wp2_with (first | (go_at_call 56; (with_reducible refine (impl_in.calls a0 2 7 true _ A2.out).mono ?_); rintro e w' ⟨rfl, ⟨nd, rfl⟩⟩; (try first | exact ⟨rfl, _, World.drewN_drewN _ _ _⟩ | exact ⟨rfl, _, Eq.trans (World.drewN_drewN _ _ _) (congrArg (World.drewN _) (Nat.add_assoc _ _ _))⟩)) | (go_at_call 57; (with_reducible refine (impl_isPrime.calls k (wrap64 ((ji6) - 1)) true _ A12.out).mono ?_); rintro e w22 ⟨rfl, hb⟩; have n0_ := Aside0.mk (below_step (by repeat (first | (with_reducible first | exact HB.out | apply below_alloc | apply pw_below_drewN | apply below_drew1) | exact HB.out)) hb); clear HB; have HB := n0_; clear n0_; (try clear hb); (try clear hb2); (try clear hk); (try clear hi)) | (go_at_call 57; (with_reducible refine (impl_isPrime.calls k (wrap64 ((ji8) - 1)) true _ A14.out).mono ?_); rintro e w23 ⟨rfl, hb⟩; have n0_ := Aside0.mk (below_step (by repeat (first | (with_reducible first | exact HB.out | apply below_alloc | apply pw_below_drewN | apply below_drew1) | exact HB.out)) hb); clear HB; have HB := n0_; clear n0_; (try clear hb); (try clear hb2); (try clear hk); (try clear hi)) | (go_at_call 57; (with_reducible refine (impl_isPrime.calls k (wrap64 ((ji11) - 1)) true _ A16.out).mono ?_); rintro e w24 ⟨rfl, hb⟩; have n0_ := Aside0.mk (below_step (by repeat (first | (with_reducible first | exact HB.out | apply below_alloc | apply pw_below_drewN | apply below_drew1) | exact HB.out)) hb); clear HB; have HB := n0_; clear n0_; (try clear hb); (try clear hb2); (try clear hk); (try clear hi))))
                go_ret3
                exact ⟨by first | rfl | (simp [errW_none, errW_some] <;> rfl) | (simp only [← hji4, ← hji6, ← hji8, ← hji9, ← hji11, ← hji19, ← hji21]; first | rfl | (simp [errW_none, errW_some] <;> rfl)) | (simp [*, errW_none, errW_some] <;> rfl), by repeat (first | (with_reducible first | exact HB.out | apply below_alloc | apply pw_below_drewN | apply below_drew1) | exact HB.out)⟩
              · replace c17 := Bool.eq_false_iff.mpr c17
                subst c17
                have H1 : (some (0, 0, false)) = some (r1, r2, r3) := by rw [if_neg (show ¬ (false = true) by decide)] at H; exact H
                clear H
                have H := H1
                clear H1
                simp only [Option.some.injEq, Prod.mk.injEq] at H
                obtain ⟨rfl, rfl, rfl⟩ := H
                go_enter Try.func28, Try.ntmps28
                go_wp2_with (first | (go_at_call 56; (with_reducible refine (impl_in.calls a0 2 7 true _ A2.out).mono ?_); rintro e w' ⟨rfl, ⟨nd, rfl⟩⟩; (try first | exact ⟨rfl, _, World.drewN_drewN _ _ _⟩ | exact ⟨rfl, _, Eq.trans (World.drewN_drewN _ _ _) (congrArg (World.drewN _) (Nat.add_assoc _ _ _))⟩)) | (go_at_call 57; (with_reducible refine (impl_isPrime.calls k (wrap64 ((ji6) - 1)) true _ A12.out).mono ?_); rintro e w25 ⟨rfl, hb⟩; have n0_ := Aside0.mk (below_step (by repeat (first | (with_reducible first | exact HB.out | apply below_alloc | apply pw_below_drewN | apply below_drew1) | exact HB.out)) hb); clear HB; have HB := n0_; clear n0_; (try clear hb); (try clear hb2); (try clear hk); (try clear hi)) | (go_at_call 57; (with_reducible refine (impl_isPrime.calls k (wrap64 ((ji8) - 1)) true _ A14.out).mono ?_); rintro e w26 ⟨rfl, hb⟩; have n0_ := Aside0.mk (below_step (by repeat (first | (with_reducible first | exact HB.out | apply below_alloc | apply pw_below_drewN | apply below_drew1) | exact HB.out)) hb); clear HB; have HB := n0_; clear n0_; (try clear hb); (try clear hb2); (try clear hk); (try clear hi)) | (go_at_call 57; (with_reducible refine (impl_isPrime.calls k (wrap64 ((ji11) - 1)) false _ A16.out).mono ?_); rintro e w27 ⟨rfl, hb⟩; have n0_ := Aside0.mk (below_step (by repeat (first | (with_reducible first | exact HB.out | apply below_alloc | apply pw_below_drewN | apply below_drew1) | exact HB.out)) hb); clear HB; have HB := n0_; clear n0_; (try clear hb); (try clear hb2); (try clear hk); (try clear hi)))
                repeat (go_quiet (first | (go_at_call 56; (with_reducible refine (impl_in.calls a0 2 7 true _ A2.out).mono ?_); rintro e w' ⟨rfl, ⟨nd, rfl⟩⟩; (try first | exact ⟨rfl, _, World.drewN_drewN _ _ _⟩ | exact ⟨rfl, _, Eq.trans (World.drewN_drewN _ _ _) (congrArg (World.drewN _) (Nat.add_assoc _ _ _))⟩)) | (go_at_call 57; (with_reducible refine (impl_isPrime.calls k (wrap64 ((ji6) - 1)) true _ A12.out).mono ?_); rintro e w25 ⟨rfl, hb⟩; have n0_ := Aside0.mk (below_step (by repeat (first | (with_reducible first | exact HB.out | apply below_alloc | apply pw_below_drewN | apply below_drew1) | exact HB.out)) hb); clear HB; have HB := n0_; clear n0_; (try clear hb); (try clear hb2); (try clear hk); (try clear hi)) | (go_at_call 57; (with_reducible refine (impl_isPrime.calls k (wrap64 ((ji8) - 1)) true _ A14.out).mono ?_); rintro e w26 ⟨rfl, hb⟩; have n0_ := Aside0.mk (below_step (by repeat (first | (with_reducible first | exact HB.out | apply below_alloc | apply pw_below_drewN | apply below_drew1) | exact HB.out)) hb); clear HB; have HB := n0_; clear n0_; (try clear hb); (try clear hb2); (try clear hk); (try clear hi)) | (go_at_call 57; (with_reducible refine (impl_isPrime.calls k (wrap64 ((ji11) - 1)) false _ A16.out).mono ?_); rintro e w27 ⟨rfl, hb⟩; have n0_ := Aside0.mk (below_step (by repeat (first | (with_reducible first | exact HB.out | apply below_alloc | apply pw_below_drewN | apply below_drew1) | exact HB.out)) hb); clear HB; have HB := n0_; clear n0_; (try clear hb); (try clear hb2); (try clear hk); (try clear hi))); try go_wp2_with (first | (go_at_call 56; (with_reducible refine (impl_in.calls a0 2 7 true _ A2.out).mono ?_); rintro e w' ⟨rfl, ⟨nd, rfl⟩⟩; (try first | exact ⟨rfl, _, World.drewN_drewN _ _ _⟩ | exact ⟨rfl, _, Eq.trans (World.drewN_drewN _ _ _) (congrArg (World.drewN _) (Nat.add_assoc _ _ _))⟩)) | (go_at_call 57; (with_reducible refine (impl_isPrime.calls k (wrap64 ((ji6) - 1)) true _ A12.out).mono ?_); rintro e w25 ⟨rfl, hb⟩; have n0_ := Aside0.mk (below_step (by repeat (first | (with_reducible first | exact HB.out | apply below_alloc | apply pw_below_drewN | apply below_drew1) | exact HB.out)) hb); clear HB; have HB := n0_; clear n0_; (try clear hb); (try clear hb2); (try clear hk); (try clear hi)) | (go_at_call 57; (with_reducible refine (impl_isPrime.calls k (wrap64 ((ji8) - 1)) true _ A14.out).mono ?_); rintro e w26 ⟨rfl, hb⟩; have n0_ := Aside0.mk (below_step (by repeat (first | (with_reducible first | exact HB.out | apply below_alloc | apply pw_below_drewN | apply below_drew1) | exact HB.out)) hb); clear HB; have HB := n0_; clear n0_; (try clear hb); (try clear hb2); (try clear hk); (try clear hi)) | (go_at_call 57; (with_reducible refine (impl_isPrime.calls k (wrap64 ((ji11) - 1)) false _ A16.out).mono ?_); rintro e w27 ⟨rfl, hb⟩; have n0_ := Aside0.mk (below_step (by repeat (first | (with_reducible first | exact HB.out | apply below_alloc | apply pw_below_drewN | apply below_drew1) | exact HB.out)) hb); clear HB; have HB := n0_; clear n0_; (try clear hb); (try clear hb2); (try clear hk); (try clear hi))))
                go_ret3
                exact ⟨by first | rfl | (simp [errW_none, errW_some] <;> rfl) | (simp only [← hji4, ← hji6, ← hji8, ← hji9, ← hji11]; first | rfl | (simp [errW_none, errW_some] <;> rfl)) | (simp [*, errW_none, errW_some] <;> rfl), by repeat (first | (with_reducible first | exact HB.out | apply below_alloc | apply pw_below_drewN | apply below_drew1) | exact HB.out)⟩
            · replace c15 := Bool.eq_false_iff.mpr c15
              subst c15
              have H1 : (some (0, 0, false)) = some (r1, r2, r3) := by rw [if_neg (show ¬ (false = true) by decide)] at H; exact H
              clear H
              have H := H1
              clear H1
              simp only [Option.some.injEq, Prod.mk.injEq] at H
              obtain ⟨rfl, rfl, rfl⟩ := H
              go_enter Try.func28, Try.ntmps28
              go_wp2_with (first | (go_at_call 56; (with_reducible refine (impl_in.calls a0 2 7 true _ A2.out).mono ?_); rintro e w' ⟨rfl, ⟨nd, rfl⟩⟩; (try first | exact ⟨rfl, _, World.drewN_drewN _ _ _⟩ | exact ⟨rfl, _, Eq.trans (World.drewN_drewN _ _ _) (congrArg (World.drewN _) (Nat.add_assoc _ _ _))⟩)) | (go_at_call 57; (with_reducible refine (impl_isPrime.calls k (wrap64 ((ji6) - 1)) true _ A12.out).mono ?_); rintro e w28 ⟨rfl, hb⟩; have n0_ := Aside0.mk (below_step (by repeat (first | (with_reducible first | exact HB.out | apply below_alloc | apply pw_below_drewN | apply below_drew1) | exact HB.out)) hb); clear HB; have HB := n0_; clear n0_; (try clear hb); (try clear hb2); (try clear hk); (try clear hi)) | (go_at_call 57; (with_reducible refine (impl_isPrime.calls k (wrap64 ((ji8) - 1)) false _ A14.out).mono ?_); rintro e w29 ⟨rfl, hb⟩; have n0_ := Aside0.mk (below_step (by repeat (first | (with_reducible first | exact HB.out | apply below_alloc | apply pw_below_drewN | apply below_drew1) | exact HB.out)) hb); clear HB; have HB := n0_; clear n0_; (try clear hb); (try clear hb2); (try clear hk); (try clear hi)))
              repeat (go_quiet (first | (go_at_call 56; (with_reducible refine (impl_in.calls a0 2 7 true _ A2.out).mono ?_); rintro e w' ⟨rfl, ⟨nd, rfl⟩⟩; (try first | exact ⟨rfl, _, World.drewN_drewN _ _ _⟩ | exact ⟨rfl, _, Eq.trans (World.drewN_drewN _ _ _) (congrArg (World.drewN _) (Nat.add_assoc _ _ _))⟩)) | (go_at_call 57; (with_reducible refine (impl_isPrime.calls k (wrap64 ((ji6) - 1)) true _ A12.out).mono ?_); rintro e w28 ⟨rfl, hb⟩; have n0_ := Aside0.mk (below_step (by repeat (first | (with_reducible first | exact HB.out | apply below_alloc | apply pw_below_drewN | apply below_drew1) | exact HB.out)) hb); clear HB; have HB := n0_; clear n0_; (try clear hb); (try clear hb2); (try clear hk); (try clear hi)) | (go_at_call 57; (with_reducible refine (impl_isPrime.calls k (wrap64 ((ji8) - 1)) false _ A14.out).mono ?_); rintro e w29 ⟨rfl, hb⟩; have n0_ := Aside0.mk (below_step (by repeat (first | (with_reducible first | exact HB.out | apply below_alloc | apply pw_below_drewN | apply below_drew1) | exact HB.out)) hb); clear HB; have HB := n0_; clear n0_; (try clear hb); (try clear hb2); (try clear hk); (try clear hi))); try go_wp2_with (first | (go_at_call 56; (with_reducible refine (impl_in.calls a0 2 7 true _ A2.out).mono ?_); rintro e w' ⟨rfl, ⟨nd, rfl⟩⟩; (try first | exact ⟨rfl, _, World.drewN_drewN _ _ _⟩ | exact ⟨rfl, _, Eq.trans (World.drewN_drewN _ _ _) (congrArg (World.drewN _) (Nat.add_assoc _ _ _))⟩)) | (go_at_call 57; (with_reducible refine (impl_isPrime.calls k (wrap64 ((ji6) - 1)) true _ A12.out).mono ?_); rintro e w28 ⟨rfl, hb⟩; have n0_ := Aside0.mk (below_step (by repeat (first | (with_reducible first | exact HB.out | apply below_alloc | apply pw_below_drewN | apply below_drew1) | exact HB.out)) hb); clear HB; have HB := n0_; clear n0_; (try clear hb); (try clear hb2); (try clear hk); (try clear hi)) | (go_at_call 57; (with_reducible refine (impl_isPrime.calls k (wrap64 ((ji8) - 1)) false _ A14.out).mono ?_); rintro e w29 ⟨rfl, hb⟩; have n0_ := Aside0.mk (below_step (by repeat (first | (with_reducible first | exact HB.out | apply below_alloc | apply pw_below_drewN | apply below_drew1) | exact HB.out)) hb); clear HB; have HB := n0_; clear n0_; (try clear hb); (try clear hb2); (try clear hk); (try clear hi))))
              go_ret3
              exact ⟨by first | rfl | (simp [errW_none, errW_some] <;> rfl) | (simp only [← hji4, ← hji6, ← hji8, ← hji9, ← hji11]; first | rfl | (simp [errW_none, errW_some] <;> rfl)) | (simp [*, errW_none, errW_some] <;> rfl), by repeat (first | (with_reducible first | exact HB.out | apply below_alloc | apply pw_below_drewN | apply below_drew1) | exact HB.out)⟩
          · replace c13 := Bool.eq_false_iff.mpr c13
            subst c13
            have H1 : (some (0, 0, false)) = some (r1, r2, r3) := by rw [if_neg (show ¬ (false = true) by decide)] at H; exact H
            clear H
            have H := H1
            clear H1
            simp only [Option.some.injEq, Prod.mk.injEq] at H
            obtain ⟨rfl, rfl, rfl⟩ := H
            go_enter Try.func28, Try.ntmps28
            go_wp2_with (first | (go_at_call 56; (with_reducible refine (impl_in.calls a0 2 7 true _ A2.out).mono ?_); rintro e w' ⟨rfl, ⟨nd, rfl⟩⟩; (try first | exact ⟨rfl, _, World.drewN_drewN _ _ _⟩ | exact ⟨rfl, _, Eq.trans (World.drewN_drewN _ _ _) (congrArg (World.drewN _) (Nat.add_assoc _ _ _))⟩)) | (go_at_call 57; (with_reducible refine (impl_isPrime.calls k (wrap64 ((ji6) - 1)) false _ A12.out).mono ?_); rintro e w30 ⟨rfl, hb⟩; have n0_ := Aside0.mk (below_step (by repeat (first | (with_reducible first | exact HB.out | apply below_alloc | apply pw_below_drewN | apply below_drew1) | exact HB.out)) hb); clear HB; have HB := n0_; clear n0_; (try clear hb); (try clear hb2); (try clear hk); (try clear hi)))
            repeat (go_quiet (first | (go_at_call 56; (with_reducible refine (impl_in.calls a0 2 7 true _ A2.out).mono ?_); rintro e w' ⟨rfl, ⟨nd, rfl⟩⟩; (try first | exact ⟨rfl, _, World.drewN_drewN _ _ _⟩ | exact ⟨rfl, _, Eq.trans (World.drewN_drewN _ _ _) (congrArg (World.drewN _) (Nat.add_assoc _ _ _))⟩)) | (go_at_call 57; (with_reducible refine (impl_isPrime.calls k (wrap64 ((ji6) - 1)) false _ A12.out).mono ?_); rintro e w30 ⟨rfl, hb⟩; have n0_ := Aside0.mk (below_step (by repeat (first | (with_reducible first | exact HB.out | apply below_alloc | apply pw_below_drewN | apply below_drew1) | exact HB.out)) hb); clear HB; have HB := n0_; clear n0_; (try clear hb); (try clear hb2); (try clear hk); (try clear hi))); try go_wp2_with (first | (go_at_call 56; (with_reducible refine (impl_in.calls a0 2 7 true _ A2.out).mono ?_); rintro e w' ⟨rfl, ⟨nd, rfl⟩⟩; (try first | exact ⟨rfl, _, World.drewN_drewN _ _ _⟩ | exact ⟨rfl, _, Eq.trans (World.drewN_drewN _ _ _) (congrArg (World.drewN _) (Nat.add_assoc _ _ _))⟩)) | (go_at_call 57; (with_reducible refine (impl_isPrime.calls k (wrap64 ((ji6) - 1)) false _ A12.out).mono ?_); rintro e w30 ⟨rfl, hb⟩; have n0_ := Aside0.mk (below_step (by repeat (first | (with_reducible first | exact HB.out | apply below_alloc | apply pw_below_drewN | apply below_drew1) | exact HB.out)) hb); clear HB; have HB := n0_; clear n0_; (try clear hb); (try clear hb2); (try clear hk); (try clear hi))))
            go_ret3
            exact ⟨by first | rfl | (simp [errW_none, errW_some] <;> rfl) | (simp only [← hji4, ← hji6, ← hji8, ← hji9, ← hji11]; first | rfl | (simp [errW_none, errW_some] <;> rfl)) | (simp [*, errW_none, errW_some] <;> rfl), by repeat (first | (with_reducible first | exact HB.out | apply below_alloc | apply pw_below_drewN | apply below_drew1) | exact HB.out)⟩
        · rw [if_neg c10] at H
          exact absurd H (by simp)
      · rw [if_neg c7] at H
        exact absurd H (by simp)
    · rw [if_neg c5] at H
      exact absurd H (by simp)
  · replace c3 := Bool.eq_false_iff.mpr c3
    subst c3
    have H1 : (some (0, 0, false)) = some (r1, r2, r3) := by rw [if_neg (show ¬ (false = true) by decide)] at H; exact H
    clear H
    have H := H1
    clear H1
    simp only [Option.some.injEq, Prod.mk.injEq] at H
    obtain ⟨rfl, rfl, rfl⟩ := H
    go_enter Try.func28, Try.ntmps28
    go_wp2_with (first | (go_at_call 56; (with_reducible refine (impl_in.calls a0 2 7 false _ A2.out).mono ?_); rintro e w' ⟨rfl, ⟨nd, rfl⟩⟩; (try first | exact ⟨rfl, _, World.drewN_drewN _ _ _⟩ | exact ⟨rfl, _, Eq.trans (World.drewN_drewN _ _ _) (congrArg (World.drewN _) (Nat.add_assoc _ _ _))⟩)))
    repeat (go_quiet (first | (go_at_call 56; (with_reducible refine (impl_in.calls a0 2 7 false _ A2.out).mono ?_); rintro e w' ⟨rfl, ⟨nd, rfl⟩⟩; (try first | exact ⟨rfl, _, World.drewN_drewN _ _ _⟩ | exact ⟨rfl, _, Eq.trans (World.drewN_drewN _ _ _) (congrArg (World.drewN _) (Nat.add_assoc _ _ _))⟩))); try go_wp2_with (first | (go_at_call 56; (with_reducible refine (impl_in.calls a0 2 7 false _ A2.out).mono ?_); rintro e w' ⟨rfl, ⟨nd, rfl⟩⟩; (try first | exact ⟨rfl, _, World.drewN_drewN _ _ _⟩ | exact ⟨rfl, _, Eq.trans (World.drewN_drewN _ _ _) (congrArg (World.drewN _) (Nat.add_assoc _ _ _))⟩))))
    go_ret3
    exact ⟨by first | rfl | (simp [errW_none, errW_some] <;> rfl) | (simp [*, errW_none, errW_some] <;> rfl), by repeat (first | (with_reducible first | exact HB.out | apply below_alloc | apply pw_below_drewN | apply below_drew1) | exact HB.out)⟩

/-! ### laws_FnExactThabitPair: function 9 -/
def laws_FnExactThabitPair.f (k : Nat) (a0 : Int) : Option (Bool) := (spec_ThabitPair.f k a0).bind fun bt130 => ((impl_ThabitPair.f k a0).bind fun bt133 => (if bt133.1 = bt130.1 then (if bt133.2.1 = bt130.2.1 then (if (bt133.2.2 != bt130.2.2) = true then (some false) else (some true)) else (some false)) else (some false)))
theorem laws_FnExactThabitPair.mono : ∀ a0 k, LeO (laws_FnExactThabitPair.f k a0) (laws_FnExactThabitPair.f (k + 1) a0) := by
  intro a0 k
  unfold laws_FnExactThabitPair.f
  repeat' first
      | (with_reducible exact impl_ThabitPair.mono _ _)
      | (with_reducible exact spec_ThabitPair.mono _ _)
      | (with_reducible exact LeO.refl _)
      | (with_reducible exact LeO.none _)
      | (with_reducible refine LeO.ite ?_ ?_)
      | (with_reducible refine LeO.bind ?_ (fun _ => ?_))
      | exact impl_ThabitPair.mono _ _
      | exact spec_ThabitPair.mono _ _
      | exact LeO.none _
      | refine LeO.ite ?_ ?_
      | refine LeO.bind ?_ (fun _ => ?_)
set_option maxHeartbeats 8000000 in
set_option maxRecDepth 100000 in
theorem laws_FnExactThabitPair.calls (k : Nat) (a0 : Int) (r : Bool) (w : World) (h : laws_FnExactThabitPair.f k a0 = some r) :
    Calls Try.prog 9 #[.int .i64 a0] w fun e w' => e = .returned (.bool r) ∧ Below w.heap.size w w' := by
  have HB := Aside0.mk (Below.refl w.heap.size w)
  have H : ((spec_ThabitPair.f k a0).bind fun bt130 => ((impl_ThabitPair.f k a0).bind fun bt133 => (if bt133.1 = bt130.1 then (if bt133.2.1 = bt130.2.1 then (if (bt133.2.2 != bt130.2.2) = true then (some false) else (some true)) else (some false)) else (some false)))) = some r := h
  clear h
  replace H := Option.bind_eq_some_iff.mp H
  obtain ⟨⟨t130, t131, t132⟩, A20, H⟩ := H
  replace H : ((impl_ThabitPair.f k a0).bind fun bt133 => (if bt133.1 = t130 then (if bt133.2.1 = t131 then (if (bt133.2.2 != t132) = true then (some false) else (some true)) else (some false)) else (some false))) = some r := H
  have A2 := Aside0.mk A20
  clear A20
  replace H := Option.bind_eq_some_iff.mp H
  obtain ⟨⟨t133, t134, t135⟩, A30, H⟩ := H
  replace H : (if t133 = t130 then (if t134 = t131 then (if (t135 != t132) = true then (some false) else (some true)) else (some false)) else (some false)) = some r := H
  have A3 := Aside0.mk A30
  clear A30
  by_cases c4 : t133 = t130
  · rw [if_pos c4] at H
    have c4b0 : (t133 == t130) = true := beq_iff_eq.mpr c4
    have c4b1 : (t133 != t130) = false := bne_eq_false_iff_eq.mpr c4
    clear c4
    by_cases c5 : t134 = t131
    · rw [if_pos c5] at H
      have c5b0 : (t134 == t131) = true := beq_iff_eq.mpr c5
      have c5b1 : (t134 != t131) = false := bne_eq_false_iff_eq.mpr c5
      clear c5
      by_cases c6 : (t135 != t132) = true
      · rw [if_pos c6] at H
        have c6b0 : (t135 != t132) = true := c6
        (try (have c6b1 : decide (t135 = t132) = false := by simpa using c6))
        (try (have c6b2 : (t135 == t132) = false := by simpa using c6))
        (try (have c6b3 : ¬ (t135 = t132) := by simpa using c6))
        clear c6
        obtain rfl := Option.some.inj H
        go_enter Try.func9, Try.ntmps9
        go_wp2_with (first | ((with_reducible refine gate_callee (f := 27) rfl ?_); refine goesL_ (some 11) rfl rfl Try.func27 (by kernel_rfl) rfl #[.int .i64 a0] rfl (by (try simp only [List.map_toArray, List.map_cons, List.map_nil]); first | done | rfl | (simp only [List.length_drop, List.length_take]; rfl)) ?_; (with_reducible refine (spec_ThabitPair.calls k a0 t130 t131 t132 _ A2.out).mono ?_); rintro e w7 ⟨rfl, hb⟩; refine ⟨_, rfl, ?_⟩; have n0_ := Aside0.mk (below_step (by repeat (first | (with_reducible first | exact HB.out | apply below_alloc | apply pw_below_drewN | apply below_drew1) | exact HB.out)) hb); clear HB; have HB := n0_; clear n0_; (try clear hb); (try clear hb2); (try clear hk); (try clear hi)) | ((with_reducible refine gate_callee (f := 28) rfl ?_); refine goesL_ (some 17) rfl rfl Try.func28 (by kernel_rfl) rfl #[.int .i64 a0] rfl (by (try simp only [List.map_toArray, List.map_cons, List.map_nil]); first | done | rfl | (simp only [List.length_drop, List.length_take]; rfl)) ?_; (with_reducible refine (impl_ThabitPair.calls k a0 t133 t134 t135 _ A3.out).mono ?_); rintro e w8 ⟨rfl, hb⟩; refine ⟨_, rfl, ?_⟩; have n0_ := Aside0.mk (below_step (by repeat (first | (with_reducible first | exact HB.out | apply below_alloc | apply pw_below_drewN | apply below_drew1) | exact HB.out)) hb); clear HB; have HB := n0_; clear n0_; (try clear hb); (try clear hb2); (try clear hk); (try clear hi)))
        go_ret
        exact ⟨by first | rfl | (simp [errW_none, errW_some] <;> rfl) | (simp [*, errW_none, errW_some] <;> rfl), by repeat (first | (with_reducible first | exact HB.out | apply below_alloc | apply pw_below_drewN | apply below_drew1) | exact HB.out)⟩
      · rw [if_neg c6] at H
        have c6b0 : (t135 != t132) = false := by simpa using c6
        (try (have c6b1 : decide (t135 = t132) = true := by simpa using c6))
        (try (have c6b2 : (t135 == t132) = true := by simpa using c6))
        clear c6
        obtain rfl := Option.some.inj H
        go_enter Try.func9, Try.ntmps9
        go_wp2_with (first | ((with_reducible refine gate_callee (f := 27) rfl ?_); refine goesL_ (some 11) rfl rfl Try.func27 (by kernel_rfl) rfl #[.int .i64 a0] rfl (by (try simp only [List.map_toArray, List.map_cons, List.map_nil]); first | done | rfl | (simp only [List.length_drop, List.length_take]; rfl)) ?_; (with_reducible refine (spec_ThabitPair.calls k a0 t130 t131 t132 _ A2.out).mono ?_); rintro e w9 ⟨rfl, hb⟩; refine ⟨_, rfl, ?_⟩; have n0_ := Aside0.mk (below_step (by repeat (first | (with_reducible first | exact HB.out | apply below_alloc | apply pw_below_drewN | apply below_drew1) | exact HB.out)) hb); clear HB; have HB := n0_; clear n0_; (try clear hb); (try clear hb2); (try clear hk); (try clear hi)) | ((with_reducible refine gate_callee (f := 28) rfl ?_); refine goesL_ (some 17) rfl rfl Try.func28 (by kernel_rfl) rfl #[.int .i64 a0] rfl (by (try simp only [List.map_toArray, List.map_cons, List.map_nil]); first | done | rfl | (simp only [List.length_drop, List.length_take]; rfl)) ?_; (with_reducible refine (impl_ThabitPair.calls k a0 t133 t134 t135 _ A3.out).mono ?_); rintro e w10 ⟨rfl, hb⟩; refine ⟨_, rfl, ?_⟩; have n0_ := Aside0.mk (below_step (by repeat (first | (with_reducible first | exact HB.out | apply below_alloc | apply pw_below_drewN | apply below_drew1) | exact HB.out)) hb); clear HB; have HB := n0_; clear n0_; (try clear hb); (try clear hb2); (try clear hk); (try clear hi)))
        go_ret
        exact ⟨by first | rfl | (simp [errW_none, errW_some] <;> rfl) | (simp [*, errW_none, errW_some] <;> rfl), by repeat (first | (with_reducible first | exact HB.out | apply below_alloc | apply pw_below_drewN | apply below_drew1) | exact HB.out)⟩
    · rw [if_neg c5] at H
      have c5b0 : (t134 == t131) = false := beq_eq_false_iff_ne.mpr c5
      have c5b1 : (t134 != t131) = true := bne_iff_ne.mpr c5
      obtain rfl := Option.some.inj H
      go_enter Try.func9, Try.ntmps9
      go_wp2_with (first | ((with_reducible refine gate_callee (f := 27) rfl ?_); refine goesL_ (some 11) rfl rfl Try.func27 (by kernel_rfl) rfl #[.int .i64 a0] rfl (by (try simp only [List.map_toArray, List.map_cons, List.map_nil]); first | done | rfl | (simp only [List.length_drop, List.length_take]; rfl)) ?_; (with_reducible refine (spec_ThabitPair.calls k a0 t130 t131 t132 _ A2.out).mono ?_); rintro e w11 ⟨rfl, hb⟩; refine ⟨_, rfl, ?_⟩; have n0_ := Aside0.mk (below_step (by repeat (first | (with_reducible first | exact HB.out | apply below_alloc | apply pw_below_drewN | apply below_drew1) | exact HB.out)) hb); clear HB; have HB := n0_; clear n0_; (try clear hb); (try clear hb2); (try clear hk); (try clear hi)) | ((with_reducible refine gate_callee (f := 28) rfl ?_); refine goesL_ (some 17) rfl rfl Try.func28 (by kernel_rfl) rfl #[.int .i64 a0] rfl (by (try simp only [List.map_toArray, List.map_cons, List.map_nil]); first | done | rfl | (simp only [List.length_drop, List.length_take]; rfl)) ?_; (with_reducible refine (impl_ThabitPair.calls k a0 t133 t134 t135 _ A3.out).mono ?_); rintro e w12 ⟨rfl, hb⟩; refine ⟨_, rfl, ?_⟩; have n0_ := Aside0.mk (below_step (by repeat (first | (with_reducible first | exact HB.out | apply below_alloc | apply pw_below_drewN | apply below_drew1) | exact HB.out)) hb); clear HB; have HB := n0_; clear n0_; (try clear hb); (try clear hb2); (try clear hk); (try clear hi)))
      go_ret
      exact ⟨by first | rfl | (simp [errW_none, errW_some] <;> rfl) | (simp [*, errW_none, errW_some] <;> rfl), by repeat (first | (with_reducible first | exact HB.out | apply below_alloc | apply pw_below_drewN | apply below_drew1) | exact HB.out)⟩
  · rw [if_neg c4] at H
    have c4b0 : (t133 == t130) = false := beq_eq_false_iff_ne.mpr c4
    have c4b1 : (t133 != t130) = true := bne_iff_ne.mpr c4
    obtain rfl := Option.some.inj H
    go_enter Try.func9, Try.ntmps9
    go_wp2_with (first | ((with_reducible refine gate_callee (f := 27) rfl ?_); refine goesL_ (some 11) rfl rfl Try.func27 (by kernel_rfl) rfl #[.int .i64 a0] rfl (by (try simp only [List.map_toArray, List.map_cons, List.map_nil]); first | done | rfl | (simp only [List.length_drop, List.length_take]; rfl)) ?_; (with_reducible refine (spec_ThabitPair.calls k a0 t130 t131 t132 _ A2.out).mono ?_); rintro e w13 ⟨rfl, hb⟩; refine ⟨_, rfl, ?_⟩; have n0_ := Aside0.mk (below_step (by repeat (first | (with_reducible first | exact HB.out | apply below_alloc | apply pw_below_drewN | apply below_drew1) | exact HB.out)) hb); clear HB; have HB := n0_; clear n0_; (try clear hb); (try clear hb2); (try clear hk); (try clear hi)) | ((with_reducible refine gate_callee (f := 28) rfl ?_); refine goesL_ (some 17) rfl rfl Try.func28 (by kernel_rfl) rfl #[.int .i64 a0] rfl (by (try simp only [List.map_toArray, List.map_cons, List.map_nil]); first | done | rfl | (simp only [List.length_drop, List.length_take]; rfl)) ?_; (with_reducible refine (impl_ThabitPair.calls k a0 t133 t134 t135 _ A3.out).mono ?_); rintro e w14 ⟨rfl, hb⟩; refine ⟨_, rfl, ?_⟩; have n0_ := Aside0.mk (below_step (by repeat (first | (with_reducible first | exact HB.out | apply below_alloc | apply pw_below_drewN | apply below_drew1) | exact HB.out)) hb); clear HB; have HB := n0_; clear n0_; (try clear hb); (try clear hb2); (try clear hk); (try clear hi)))
    go_ret
    exact ⟨by first | rfl | (simp [errW_none, errW_some] <;> rfl) | (simp [*, errW_none, errW_some] <;> rfl), by repeat (first | (with_reducible first | exact HB.out | apply below_alloc | apply pw_below_drewN | apply below_drew1) | exact HB.out)⟩

/-- THE ONE PURE STATEMENT of laws_FnExactThabitPair: yours. -/
def laws_FnExactThabitPair.Pure : Prop := ∀ (a0 : Int), (Lit.int .i64 a0).wf = true → ∃ k, laws_FnExactThabitPair.f k a0 = some true
theorem laws_FnExactThabitPair.walk (P : laws_FnExactThabitPair.Pure) (a0 : Int) (w : World) (w0 : (Lit.int .i64 a0).wf = true) :
    Calls Try.prog 9 #[.int .i64 a0] w fun e w' => e = .returned (.bool true) ∧ Below w.heap.size w w' := by
  obtain ⟨k, h⟩ := P a0 w0
  refine (laws_FnExactThabitPair.calls k a0 true w h).mono ?_
  rintro e w' ⟨rfl, hd⟩
  exact ⟨rfl, hd⟩

end Go.Proofs.Ytdjaceojaipmkaa.PFnExactThabitPair
