-- Written by a program of this session (hook.py): functions, contracts and walks in the printer's form; contracts of this session's own where the printer takes none
import Derived.Test.YteojcnegdcopdaaPFnExactFixedWordsx0
import Derived.Test.YteojcnegdcopdaaPFnExactFixedWordsx2
import Derived.Test.YteojcnegdcopdaaPFnExactFixedWordsx3
import Derived.Test.YteojcnegdcopdaaPFnExactFixedWordsx4
namespace Go.Proofs.Yteojcnegdcopdaa.PFnExactFixedWords
open Go.RowKit Go.Proofs.YteojcnegdcopdaaW.PrintWords Go.Proofs.YteojcnegdcopdaaW.PrintLast Go.Proofs.YteojcnegdcopdaaW.PrintMore
attribute [local go_sem] max2_int min2_int max_two min_two max_three min_three max_four min_four   -- for this text's walks alone
set_option linter.unusedVariables false
set_option linter.unusedSimpArgs false

/-! ### spec_gpCycles: function 57 -/
mutual
def spec_gpCycles.l0 : Nat → Int → Int → List (List (List Int)) → List (List Int) → Int → Int → Option ((List (List (List Int))))
  | 0, _, _, _, _, _, _ => none
  | k + 1, x0, x1, x5, x18, x19, x20 => if x20 < x19 then (if 0 ≤ x20 then (if x20 < (x18.length : Int) then ((spec_gpBy.f k (rd_L1 x18 x20) x0 x1).bind fun t237 => ((spec_gpCycle.f k t237 x1).bind fun t240 => (spec_gpCycles.l1 k x0 x1 x5 t240 0 false x18 x19 x20 x5 (x5.length : Int) 0))) else (none)) else (none)) else (some x5)
def spec_gpCycles.l1 : Nat → Int → Int → List (List (List Int)) → List (List Int) → Int → Bool → List (List Int) → Int → Int → List (List (List Int)) → Int → Int → Option ((List (List (List Int))))
  | 0, _, _, _, _, _, _, _, _, _, _, _, _ => none
  | k + 1, x0, x1, x5, x8, x9, x10, x18, x19, x20, x30, x31, x32 => if x32 < x31 then (if 0 ≤ x32 then (if x32 < (x30.length : Int) then (if x10 = true then (if 0 < ((rd_L2 x30 x32).length : Int) then ((spec_gpValue.f k (rd_L1 (rd_L2 x30 x32) 0) x1).bind fun t245 => (if 0 < (x8.length : Int) then ((spec_gpValue.f k (rd_L1 x8 0) x1).bind fun t247 => (if t245 < t247 then (spec_gpCycles.l1 k x0 x1 x5 x8 (wrap64 (x9 + 1)) true x18 x19 x20 x30 x31 (wrap64 (x32 + 1))) else (spec_gpCycles.l1 k x0 x1 x5 x8 x9 true x18 x19 x20 x30 x31 (wrap64 (x32 + 1))))) else (none))) else (none)) else (if 0 < ((rd_L2 x30 x32).length : Int) then (if 0 < (x8.length : Int) then ((spec_l1Same.f k (rd_L1 (rd_L2 x30 x32) 0) (rd_L1 x8 0)).bind fun t250 => ((spec_gpValue.f k (rd_L1 (rd_L2 x30 x32) 0) x1).bind fun t252 => ((spec_gpValue.f k (rd_L1 x8 0) x1).bind fun t254 => (if t252 < t254 then (spec_gpCycles.l1 k x0 x1 x5 x8 (wrap64 (x9 + 1)) t250 x18 x19 x20 x30 x31 (wrap64 (x32 + 1))) else (spec_gpCycles.l1 k x0 x1 x5 x8 x9 t250 x18 x19 x20 x30 x31 (wrap64 (x32 + 1))))))) else (none)) else (none))) else (none)) else (none)) else (if x10 = true then (spec_gpCycles.l0 k x0 x1 x5 x18 x19 (wrap64 (x20 + 1))) else ((some (([] : List (List (List Int))) : List (List (List Int)))).bind fun y255 => (if 0 ≤ x9 then (if x9 ≤ (x5.length : Int) then ((some (x5.take (x9 : Int).toNat : List (List (List Int)))).bind fun y258 => (if y255.length + y258.length < 5864062014805 then ((some (y255 ++ y258 : List (List (List Int)))).bind fun y263 => (if y263.length < 5864062014805 then ((some (y263 ++ [x8] : List (List (List Int)))).bind fun y266 => ((some (x5.drop (x9 : Int).toNat : List (List (List Int)))).bind fun y269 => (if y266.length + y269.length < 5864062014805 then (spec_gpCycles.l0 k x0 x1 (y266 ++ y269) x18 x19 (wrap64 (x20 + 1))) else (none)))) else (none))) else (none))) else (none)) else (none))))
end
def spec_gpCycles.f (k : Nat) (a0 : Int) (a1 : Int) : Option ((List (List (List Int)))) := (spec_gpAll.f k ([] : List Int) (wrap64 (Int.tdiv a0 2)) (wrap64 (a1 - 1))).bind fun t233 => (spec_gpCycles.l0 k a0 a1 ([] : List (List (List Int))) t233 (t233.length : Int) 0)
theorem spec_gpCycles.mono_l : ∀ k, (∀ y0 y1 y2 y3 y4 y5, LeO (spec_gpCycles.l0 k y0 y1 y2 y3 y4 y5) (spec_gpCycles.l0 (k + 1) y0 y1 y2 y3 y4 y5)) ∧ (∀ y0 y1 y2 y3 y4 y5 y6 y7 y8 y9 y10 y11, LeO (spec_gpCycles.l1 k y0 y1 y2 y3 y4 y5 y6 y7 y8 y9 y10 y11) (spec_gpCycles.l1 (k + 1) y0 y1 y2 y3 y4 y5 y6 y7 y8 y9 y10 y11))
  | 0 => ⟨fun _ _ _ _ _ _ r h => by simp [spec_gpCycles.l0] at h, fun _ _ _ _ _ _ _ _ _ _ _ _ r h => by simp [spec_gpCycles.l1] at h⟩
  | k + 1 => by
    obtain ⟨ih0, ih1⟩ := spec_gpCycles.mono_l k
    refine ⟨?_, ?_⟩
    · intro y0 y1 y2 y3 y4 y5
      unfold spec_gpCycles.l0
      repeat' first
      | (with_reducible exact ih0 _ _ _ _ _ _)
      | (with_reducible exact ih1 _ _ _ _ _ _ _ _ _ _ _ _)
      | (with_reducible exact spec_gpAll.mono _ _ _ _)
      | (with_reducible exact spec_gpBy.mono _ _ _ _)
      | (with_reducible exact spec_gpCycle.mono _ _ _)
      | (with_reducible exact spec_gpValue.mono _ _ _)
      | (with_reducible exact spec_l1Same.mono _ _ _)
      | (with_reducible exact LeO.refl _)
      | (with_reducible exact LeO.none _)
      | (with_reducible refine LeO.ite ?_ ?_)
      | (with_reducible refine LeO.bind ?_ (fun _ => ?_))
      | exact ih0 _ _ _ _ _ _
      | exact ih1 _ _ _ _ _ _ _ _ _ _ _ _
      | exact spec_gpAll.mono _ _ _ _
      | exact spec_gpBy.mono _ _ _ _
      | exact spec_gpCycle.mono _ _ _
      | exact spec_gpValue.mono _ _ _
      | exact spec_l1Same.mono _ _ _
      | exact LeO.none _
      | refine LeO.ite ?_ ?_
      | refine LeO.bind ?_ (fun _ => ?_)
    · intro y0 y1 y2 y3 y4 y5 y6 y7 y8 y9 y10 y11
      unfold spec_gpCycles.l1
      repeat' first
      | (with_reducible exact ih0 _ _ _ _ _ _)
      | (with_reducible exact ih1 _ _ _ _ _ _ _ _ _ _ _ _)
      | (with_reducible exact spec_gpAll.mono _ _ _ _)
      | (with_reducible exact spec_gpBy.mono _ _ _ _)
      | (with_reducible exact spec_gpCycle.mono _ _ _)
      | (with_reducible exact spec_gpValue.mono _ _ _)
      | (with_reducible exact spec_l1Same.mono _ _ _)
      | (with_reducible exact LeO.refl _)
      | (with_reducible exact LeO.none _)
      | (with_reducible refine LeO.ite ?_ ?_)
      | (with_reducible refine LeO.bind ?_ (fun _ => ?_))
      | exact ih0 _ _ _ _ _ _
      | exact ih1 _ _ _ _ _ _ _ _ _ _ _ _
      | exact spec_gpAll.mono _ _ _ _
      | exact spec_gpBy.mono _ _ _ _
      | exact spec_gpCycle.mono _ _ _
      | exact spec_gpValue.mono _ _ _
      | exact spec_l1Same.mono _ _ _
      | exact LeO.none _
      | refine LeO.ite ?_ ?_
      | refine LeO.bind ?_ (fun _ => ?_)
theorem spec_gpCycles.mono : ∀ a0 a1 k, LeO (spec_gpCycles.f k a0 a1) (spec_gpCycles.f (k + 1) a0 a1) := by
  intro a0 a1 k
  obtain ⟨ih0, ih1⟩ := spec_gpCycles.mono_l k
  unfold spec_gpCycles.f
  repeat' first
      | (with_reducible exact ih0 _ _ _ _ _ _)
      | (with_reducible exact ih1 _ _ _ _ _ _ _ _ _ _ _ _)
      | (with_reducible exact spec_gpAll.mono _ _ _ _)
      | (with_reducible exact spec_gpBy.mono _ _ _ _)
      | (with_reducible exact spec_gpCycle.mono _ _ _)
      | (with_reducible exact spec_gpValue.mono _ _ _)
      | (with_reducible exact spec_l1Same.mono _ _ _)
      | (with_reducible exact LeO.refl _)
      | (with_reducible exact LeO.none _)
      | (with_reducible refine LeO.ite ?_ ?_)
      | (with_reducible refine LeO.bind ?_ (fun _ => ?_))
      | exact ih0 _ _ _ _ _ _
      | exact ih1 _ _ _ _ _ _ _ _ _ _ _ _
      | exact spec_gpAll.mono _ _ _ _
      | exact spec_gpBy.mono _ _ _ _
      | exact spec_gpCycle.mono _ _ _
      | exact spec_gpValue.mono _ _ _
      | exact spec_l1Same.mono _ _ _
      | exact LeO.none _
      | refine LeO.ite ?_ ?_
      | refine LeO.bind ?_ (fun _ => ?_)
def spec_gpCycles.T10 : Bool × List (List Nat × List Nat) := (true, [([], []), ([0], [0]), ([1], [1]), ([2, 1], [1, 2]), ([3, 1], [1, 3]), ([1], [1]), ([5, 1], [1, 5]), ([6, 1], [1, 6]), ([4, 7, 1, 1], [1, 4, 7]), ([1, 8], [1, 8]), ([9, 8, 0, 1, 2, 3, 4, 5, 6, 7, 8, 9], [0, 9])])
def spec_gpCycles.B10 : List Nat := [0, 1, 3, 7, 15, 3, 35, 99, 255, 511, 1023]
theorem spec_gpCycles.tab10 : rtab .any (opsOf Try.f57 10) = spec_gpCycles.T10 := by kernel_rfl
theorem spec_gpCycles.bits10 : waitsOk spec_gpCycles.T10.2 spec_gpCycles.B10 = true := by kernel_rfl
def spec_gpCycles.T11 : Bool × List (List Nat × List Nat) := (true, [([], []), ([0], [0]), ([1], [1]), ([], []), ([2, 3], [2, 3]), ([], []), ([5], [5]), ([6], [6]), ([], []), ([7, 8, 4], [7, 8]), ([4, 9], [4, 9])])
def spec_gpCycles.B11 : List Nat := [0, 1, 3, 0, 15, 0, 32, 96, 0, 511, 1023]
theorem spec_gpCycles.tab11 : rtab .any (opsOf Try.f57 11) = spec_gpCycles.T11 := by kernel_rfl
theorem spec_gpCycles.bits11 : waitsOk spec_gpCycles.T11.2 spec_gpCycles.B11 = true := by kernel_rfl
def spec_gpCycles.T16 : Bool × List (List Nat × List Nat) := (true, [([], []), ([], []), ([1], [1]), ([0, 2], [0, 2]), ([], []), ([], []), ([4, 5], [4, 5]), ([3, 6, 3], [3, 6]), ([7, 7, 0, 1, 2, 3, 4, 5, 6, 7], [4, 7])])
def spec_gpCycles.B16 : List Nat := [0, 0, 2, 7, 0, 0, 48, 127, 255]
theorem spec_gpCycles.tab16 : rtab .any (opsOf Try.f57 16) = spec_gpCycles.T16 := by kernel_rfl
theorem spec_gpCycles.bits16 : waitsOk spec_gpCycles.T16.2 spec_gpCycles.B16 = true := by kernel_rfl
set_option maxHeartbeats 8000000 in
set_option maxRecDepth 100000 in
theorem spec_gpCycles.calls (k : Nat) (a0 : Int) (a1 : Int) (r : List (List (List Int))) (w : World) (h : spec_gpCycles.f k a0 a1 = some r) :
    Calls Try.prog 57 #[.int .i64 a0, .int .i64 a1] w fun e w' => ∃ v0_ : Value, e = .returned (v0_) ∧ Kd.N (Kd.slice 22 (Kd.slice 3 (Kd.int .i64))) 31 w' w.heap.size (fun k_ => (w.heap.size ≤ k_)) v0_ r ∧ Below w.heap.size w w' := by
  have HB := Aside0.mk (Below.refl w.heap.size w)
  have H : ((spec_gpAll.f k ([] : List Int) (wrap64 (Int.tdiv a0 2)) (wrap64 (a1 - 1))).bind fun t233 => (spec_gpCycles.l0 k a0 a1 ([] : List (List (List Int))) t233 (t233.length : Int) 0)) = some r := h
  clear h
  replace H := Option.bind_eq_some_iff.mp H
  obtain ⟨t233, A30, H⟩ := H
  replace H : (spec_gpCycles.l0 k a0 a1 ([] : List (List (List Int))) t233 (t233.length : Int) 0) = some r := H
  have A3 := Aside0.mk A30
  clear A30
  have H' := Aside0.mk H
  clear H
  go_enter Try.func57, Try.ntmps57
  go_wp2_with (first | ((with_reducible refine gate_callee (f := 53) rfl ?_); refine goesL_ (some 18) rfl rfl Try.func53 (by kernel_rfl) rfl #[.slice none 0 0, .int .i64 (wrap64 (Int.tdiv a0 2)), .int .i64 (wrap64 (a1 - 1))] rfl (by (try simp only [List.map_toArray, List.map_cons, List.map_nil]); first | done | rfl | (simp only [List.length_drop, List.length_take]; rfl)) ?_; (refine (spec_gpAll.calls k _ _ ([] : List Int) (wrap64 (Int.tdiv a0 2)) (wrap64 (a1 - 1)) t233 _ ?side1 ?side2 A3.out).mono ?_); (case side1 => exact Kd.C_nil _ _); (case side2 => exact Nat.le_refl _); rintro e w4 ⟨v234, rfl, ho0, hb⟩; refine ⟨_, rfl, ?_⟩; have n0_ := Aside0.mk (Kd.N_lower (Kd.N_mono (ok' := fun k_ => (w.heap.size ≤ k_)) ho0 (fun k_ hk_ => (Nat.le_trans (below_size (by repeat (first | (with_reducible first | exact HB.out | apply below_alloc | apply pw_below_drewN | apply below_drew1) | exact HB.out))) hk_))) (below_size (by repeat (first | (with_reducible first | exact HB.out | apply below_alloc | apply pw_below_drewN | apply below_drew1) | exact HB.out)))); have n1_ := Aside0.mk (below_step (by repeat (first | (with_reducible first | exact HB.out | apply below_alloc | apply pw_below_drewN | apply below_drew1) | exact HB.out)) hb); clear HB; have HO235 := n0_; have HB := n1_; clear n0_ n1_; (try clear hb); (try clear hb2); (try clear hk); (try clear hi); (try clear ho0); obtain ⟨Ao5, co5, eo5⟩ := Kd.N_slice HO235.out; subst eo5))
  go_loopg [5, 20] k (fun kq v5 v20 w' => ∃ (x5_1 : List (List (List Int))) (x20_1 : Int), v20 = .int .i64 x20_1 ∧ Aside0 (spec_gpCycles.l0 kq a0 a1 x5_1 t233 (t233.length : Int) x20_1 = some r) ∧ Aside0 (kq ≤ k) ∧ Aside0 (Kd.N (Kd.slice 22 (Kd.slice 3 (Kd.int .i64))) 31 w' w.heap.size (fun k_ => (w.heap.size ≤ k_) ∧ some k_ ≠ ((.slice Ao5 t233.length co5) : Value).ownBlock) v5 x5_1) ∧ Aside0 (Kd.N (Kd.slice 3 (Kd.int .i64)) 22 w' w.heap.size (fun k_ => (w.heap.size ≤ k_) ∧ some k_ ≠ (v5 : Value).ownBlock) (.slice Ao5 t233.length co5) t233) ∧ Aside0 (Below w.heap.size w w'))
  case atStart => exact ⟨(([] : List (List (List Int)))), (0), (by first | rfl | (simp; done) | (simp [*]; done)), H', ⟨Nat.le_refl _⟩, ⟨by first | exact Kd.R_nil _ _ _ _ _ | exact Kd.N_nil _ _ _ _ _ | exact Kd.V_nil _ _ _ _ _ | exact Kd.Q_nil _ _ _ _ _ | exact Kd.S_nil _ _ _ _ _⟩, ⟨by (with_reducible repeat (first | apply Kd.N_alloc | apply Kd.N_drewN | apply Kd.N_drew)); exact Kd.N_mono HO235.out (fun _ hk => ⟨hk, (by simp [Value.ownBlock])⟩)⟩, ⟨by repeat (first | (with_reducible first | exact HB.out | apply below_alloc | apply pw_below_drewN | apply below_drew1) | exact HB.out)⟩⟩
  case round =>
    clear H'
    try clear p2
    try clear c5
    obtain ⟨x5_1, x20_1, rfl, HA, HK1, HO_5, HO_18, HB⟩ := hrel
    cases gk with
    | zero => exact absurd HA.out (by simp [spec_gpCycles.l0])
    | succ k1 =>
      have H := HA.out
      clear HA
      simp only [spec_gpCycles.l0] at H
      by_cases c6 : x20_1 < (t233.length : Int)
      · rw [if_pos c6] at H
        have c6b0 : decide (x20_1 < (t233.length : Int)) = true := decide_eq_true c6
        clear c6
        by_cases c7 : 0 ≤ x20_1
        · rw [if_pos c7] at H
          have c7b0 : decide (0 ≤ x20_1) = true := decide_eq_true c7
          clear c7
          by_cases c8 : x20_1 < (t233.length : Int)
          · rw [if_pos c8] at H
            have c8b0 : decide (x20_1 < (t233.length : Int)) = true := decide_eq_true c8
            clear c8
            replace H := Option.bind_eq_some_iff.mp H
            obtain ⟨t237, A90, H⟩ := H
            replace H : ((spec_gpCycle.f k1 t237 a1).bind fun t240 => (spec_gpCycles.l1 k1 a0 a1 x5_1 t240 0 false t233 (t233.length : Int) x20_1 x5_1 (x5_1.length : Int) 0)) = some r := H
            have A9 := Aside0.mk A90
            clear A90
            replace H := Option.bind_eq_some_iff.mp H
            obtain ⟨t240, A100, H⟩ := H
            replace H : (spec_gpCycles.l1 k1 a0 a1 x5_1 t240 0 false t233 (t233.length : Int) x20_1 x5_1 (x5_1.length : Int) 0) = some r := H
            have A10 := Aside0.mk A100
            clear A100
            have H' := Aside0.mk H
            clear H
            have p236 : 0 ≤ (x20_1 : Int) := of_decide_eq_true (by first | (with_reducible assumption) | assumption)
            have q236 : x20_1 < (t233.length : Int) := of_decide_eq_true (by first | (with_reducible assumption) | assumption)
            obtain ⟨ad236, A236_0, c236_0, e236, hx236_0, hl236_0, hi236_0⟩ := at_L1 (Kd.N_reads' HO_18.out).2.2 x20_1 p236 q236
            cases e236
            obtain ⟨ce236, hce236, hMe236, hcc236⟩ := Kd.N_get HO_18.out [] x20_1 p236 (by first | exact q236 | exact of_decide_eq_true (by first | (with_reducible assumption) | assumption) | (have e_ := (Kd.N_reads' HO_18.out).1; omega))
            obtain ⟨ua236_0, uc236_0, rfl, ul236_0, ge236_0⟩ := Kd.FK_slice_open hMe236
            have hv236_0 := hcc236 0 _ rfl
            rw [Nat.add_zero, show ((Kd.slice 3 (Kd.int .i64))).sz = 1 from rfl, Nat.mul_one] at hv236_0
            replace hv236_0 := Option.some.inj (hv236_0.symm.trans hx236_0)
            injection hv236_0 with hva_ hvn_ hvc_
            rw [hva_] at ge236_0
            rw [hvc_] at ul236_0
            have HL236_0 := Aside0.mk (show Kd.V (Kd.int .i64) 3 _ w.heap.size _ _ (rd_L1 t233 x20_1) from Kd.V_mk ul236_0 ge236_0)
            clear hva_ hvn_ hvc_ ge236_0 ul236_0
            clear hcc236 hce236
            have HR236_0 := Aside0.mk hi236_0
            have HC236_0 := Aside0.mk hl236_0
            clear hi236_0 hl236_0
            replace p236 := eq_true p236
            replace q236 := eq_true q236
            go_wp2_with (first | ((with_reducible refine gate_callee (f := 89) rfl ?_); refine goesL_ (some 27) rfl rfl Try.func89 (by kernel_rfl) rfl #[.slice A236_0 (rd_L1 t233 x20_1).length c236_0, .int .i64 a0, .int .i64 a1] rfl (by (try simp only [List.map_toArray, List.map_cons, List.map_nil]); first | done | rfl | (simp only [List.length_drop, List.length_take]; rfl)) ?_; (with_reducible refine (spec_gpBy.calls k1 _ _ (rd_L1 t233 x20_1) a0 a1 t237 _ ?side1 ?side2 A9.out).mono ?_); (case side1 => repeat (first | exact (by repeat (first | (with_reducible exact HR236_0.out) | (with_reducible refine Kd.C_alloc ?_ _) | (with_reducible refine Kd.C_drewN ?_ _) | (with_reducible refine Kd.C_drew ?_) | exact HR236_0.out)) | (with_reducible refine Kd.C_alloc ?_ _) | (with_reducible refine Kd.C_drewN ?_ _) | (with_reducible refine Kd.C_drew ?_))); (case side2 => exact HC236_0.out); rintro e w11 ⟨v238, rfl, ho0, hb⟩; refine ⟨_, rfl, ?_⟩; have n0_ := Aside0.mk (Kd.N_elder' (by (with_reducible repeat (first | apply Kd.N_alloc | apply Kd.N_drewN | apply Kd.N_drew)); exact HO_5.out) (Kd.R_base ho0) hb); have n1_ := Aside0.mk (Kd.N_elder' (by (with_reducible repeat (first | apply Kd.N_alloc | apply Kd.N_drewN | apply Kd.N_drew)); exact HO_18.out) (Kd.R_base ho0) hb); have n2_ := Aside0.mk (Kd.V_elder' (by (with_reducible repeat (first | apply Kd.V_alloc | apply Kd.V_drewN | apply Kd.V_drew)); exact HL236_0.out) (Kd.R_base ho0) hb); have n3_ := Aside0.mk (Kd.R_lower (Kd.R_newM (M := fun k_ => (w.heap.size ≤ k_)) ho0 (below_size (by repeat (first | (with_reducible first | exact HB.out | apply below_alloc | apply pw_below_drewN | apply below_drew1) | exact HB.out))) (fun k_ h_ => h_)) (below_size (by repeat (first | (with_reducible first | exact HB.out | apply below_alloc | apply pw_below_drewN | apply below_drew1) | exact HB.out)))); have n4_ := Aside0.mk (Kd.C_below (by repeat (first | (with_reducible exact HR236_0.out) | (with_reducible refine Kd.C_alloc ?_ _) | (with_reducible refine Kd.C_drewN ?_ _) | (with_reducible refine Kd.C_drew ?_) | exact HR236_0.out)) hb); have n5_ := Aside0.mk (below_step (by repeat (first | (with_reducible first | exact HB.out | apply below_alloc | apply pw_below_drewN | apply below_drew1) | exact HB.out)) hb); clear HO_5; clear HO_18; clear HL236_0; clear HR236_0; clear HB; have HO_5 := n0_; have HO_18 := n1_; have HL236_0 := n2_; have HO239 := n3_; have HR236_0 := n4_; have HB := n5_; clear n0_ n1_ n2_ n3_ n4_ n5_; (try clear hb); (try clear hb2); (try clear hk); (try clear hi); (try clear ho0); obtain ⟨Ao12, co12, eo12⟩ := Kd.R_slice HO239.out; subst eo12) | ((with_reducible refine gate_callee (f := 50) rfl ?_); refine goesL_ (some 29) rfl rfl Try.func50 (by kernel_rfl) rfl #[.slice Ao12 t237.length co12, .int .i64 a1] rfl (by (try simp only [List.map_toArray, List.map_cons, List.map_nil]); first | done | rfl | (simp only [List.length_drop, List.length_take]; rfl)) ?_; (with_reducible refine (spec_gpCycle.calls k1 _ _ t237 a1 t240 _ ?side1 ?side2 A10.out).mono ?_); (case side1 => repeat (first | exact (Kd.R_reads' HO239.out).2.2 | (with_reducible refine Kd.C_alloc ?_ _) | (with_reducible refine Kd.C_drewN ?_ _) | (with_reducible refine Kd.C_drew ?_))); (case side2 => exact (Kd.R_reads' HO239.out).2.1); rintro e w13 ⟨v241, rfl, ho0, hb⟩; refine ⟨_, rfl, ?_⟩; have n0_ := Aside0.mk (Kd.N_elder' (by (with_reducible repeat (first | apply Kd.N_alloc | apply Kd.N_drewN | apply Kd.N_drew)); exact HO_5.out) (Kd.N_base ho0) hb); have n1_ := Aside0.mk (Kd.N_elder' (by (with_reducible repeat (first | apply Kd.N_alloc | apply Kd.N_drewN | apply Kd.N_drew)); exact HO_18.out) (Kd.N_base ho0) hb); have n2_ := Aside0.mk (Kd.V_elder' (by (with_reducible repeat (first | apply Kd.V_alloc | apply Kd.V_drewN | apply Kd.V_drew)); exact HL236_0.out) (Kd.N_base ho0) hb); have n3_ := Aside0.mk (Kd.R_below (by (with_reducible repeat (first | apply Kd.R_alloc | apply Kd.R_drewN | apply Kd.R_drew)); exact HO239.out) hb); have n4_ := Aside0.mk (Kd.N_lower (Kd.N_mono (ok' := fun k_ => (w.heap.size ≤ k_) ∧ some k_ ≠ (u5 : Value).ownBlock ∧ some k_ ≠ (.slice (some ad236) t233.length co5 : Value).ownBlock ∧ some k_ ≠ (.slice Ao12 t237.length co12 : Value).ownBlock) ho0 (fun k_ hk_ => ⟨(Nat.le_trans (below_size (by repeat (first | (with_reducible first | exact HB.out | apply below_alloc | apply pw_below_drewN | apply below_drew1) | exact HB.out))) hk_), (Kd.fresh' (Kd.N_lt (by (with_reducible repeat (first | apply Kd.N_alloc | apply Kd.N_drewN | apply Kd.N_drew)); exact HO_5.out)) k_ hk_), (Kd.fresh' (Kd.N_lt (by (with_reducible repeat (first | apply Kd.N_alloc | apply Kd.N_drewN | apply Kd.N_drew)); exact HO_18.out)) k_ hk_), (Kd.fresh' (Kd.R_lt (by (with_reducible repeat (first | apply Kd.R_alloc | apply Kd.R_drewN | apply Kd.R_drew)); exact HO239.out)) k_ hk_)⟩)) (below_size (by repeat (first | (with_reducible first | exact HB.out | apply below_alloc | apply pw_below_drewN | apply below_drew1) | exact HB.out)))); have n5_ := Aside0.mk (Kd.C_below (by repeat (first | (with_reducible exact HR236_0.out) | (with_reducible refine Kd.C_alloc ?_ _) | (with_reducible refine Kd.C_drewN ?_ _) | (with_reducible refine Kd.C_drew ?_) | exact HR236_0.out)) hb); have n6_ := Aside0.mk (below_step (by repeat (first | (with_reducible first | exact HB.out | apply below_alloc | apply pw_below_drewN | apply below_drew1) | exact HB.out)) hb); clear HO_5; clear HO_18; clear HL236_0; clear HO239; clear HR236_0; clear HB; have HO_5 := n0_; have HO_18 := n1_; have HL236_0 := n2_; have HO239 := n3_; have HO242 := n4_; have HR236_0 := n5_; have HB := n6_; clear n0_ n1_ n2_ n3_ n4_ n5_ n6_; (try clear hb); (try clear hb2); (try clear hk); (try clear hi); (try clear ho0); obtain ⟨Ao14, co14, eo14⟩ := Kd.N_slice HO_5.out; subst eo14))
            go_loopg [9, 10, 32] k1 (fun kq v9 v10 v32 w' => ∃ (x9_2 : Int) (x10_2 : Bool) (x32_2 : Int), v9 = .int .i64 x9_2 ∧ v10 = .bool x10_2 ∧ v32 = .int .i64 x32_2 ∧ Aside0 (spec_gpCycles.l1 kq a0 a1 x5_1 t240 x9_2 x10_2 t233 (t233.length : Int) x20_1 x5_1 (x5_1.length : Int) x32_2 = some r) ∧ Aside0 (kq ≤ k1) ∧ Aside0 (Kd.N (Kd.slice 22 (Kd.slice 3 (Kd.int .i64))) 31 w' w.heap.size (fun k_ => (w.heap.size ≤ k_) ∧ some k_ ≠ (v241 : Value).ownBlock ∧ some k_ ≠ ((.slice (some ad236) t233.length co5) : Value).ownBlock) (.slice Ao14 x5_1.length co14) x5_1) ∧ Aside0 (Kd.N (Kd.slice 3 (Kd.int .i64)) 22 w' w.heap.size (fun k_ => (w.heap.size ≤ k_) ∧ some k_ ≠ ((.slice Ao14 x5_1.length co14) : Value).ownBlock ∧ some k_ ≠ ((.slice (some ad236) t233.length co5) : Value).ownBlock ∧ some k_ ≠ ((.slice Ao14 x5_1.length co14) : Value).ownBlock) v241 t240) ∧ Aside0 (Kd.N (Kd.slice 3 (Kd.int .i64)) 22 w' w.heap.size (fun k_ => (w.heap.size ≤ k_) ∧ some k_ ≠ ((.slice Ao14 x5_1.length co14) : Value).ownBlock ∧ some k_ ≠ (v241 : Value).ownBlock ∧ some k_ ≠ ((.slice Ao14 x5_1.length co14) : Value).ownBlock) (.slice (some ad236) t233.length co5) t233) ∧ Aside0 (Kd.N (Kd.slice 22 (Kd.slice 3 (Kd.int .i64))) 31 w' w.heap.size (fun k_ => (w.heap.size ≤ k_) ∧ some k_ ≠ (v241 : Value).ownBlock ∧ some k_ ≠ ((.slice (some ad236) t233.length co5) : Value).ownBlock) (.slice Ao14 x5_1.length co14) x5_1) ∧ Aside0 (Kd.C (Kd.int .i64) w' A236_0 (rd_L1 t233 x20_1).length (rd_L1 t233 x20_1)) ∧ Aside0 (Below w.heap.size w w'))
            case atStart => exact ⟨(0), (false), (0), (by first | rfl | (simp; done) | (simp [*]; done)), (by first | rfl | (simp; done) | (simp [*]; done)), (by first | rfl | (simp; done) | (simp [*]; done)), H', ⟨Nat.le_refl _⟩, ⟨by (with_reducible repeat (first | apply Kd.N_alloc | apply Kd.N_drewN | apply Kd.N_drew)); exact Kd.N_mono HO_5.out (fun _ hk => ⟨hk.1.1.1, ⟨hk.2, hk.1.1.2⟩⟩)⟩, ⟨by (with_reducible repeat (first | apply Kd.N_alloc | apply Kd.N_drewN | apply Kd.N_drew)); exact Kd.N_mono HO242.out (fun _ hk => ⟨hk.1, ⟨hk.2.1, ⟨hk.2.2.1, hk.2.1⟩⟩⟩)⟩, ⟨by (with_reducible repeat (first | apply Kd.N_alloc | apply Kd.N_drewN | apply Kd.N_drew)); exact Kd.N_mono HO_18.out (fun _ hk => ⟨hk.1.1.1, ⟨hk.1.1.2, ⟨hk.2, hk.1.1.2⟩⟩⟩)⟩, ⟨by (with_reducible repeat (first | apply Kd.N_alloc | apply Kd.N_drewN | apply Kd.N_drew)); exact Kd.N_mono HO_5.out (fun _ hk => ⟨hk.1.1.1, ⟨hk.2, hk.1.1.2⟩⟩)⟩, ⟨by repeat (first | (with_reducible exact HR236_0.out) | (with_reducible refine Kd.C_alloc ?_ _) | (with_reducible refine Kd.C_drewN ?_ _) | (with_reducible refine Kd.C_drew ?_) | exact HR236_0.out)⟩, ⟨by repeat (first | (with_reducible first | exact HB.out | apply below_alloc | apply pw_below_drewN | apply below_drew1) | exact HB.out)⟩⟩
            case round =>
              clear H'
              try clear c2
              try clear p2
              try clear q2
              try clear hx2
              try clear c5
              try clear c6
              try clear c6b0
              try clear p6
              try clear c7
              try clear c7b0
              try clear c8
              try clear c8b0
              try clear hx236_0
              try clear p2
              try clear p236
              try clear q236
              obtain ⟨x9_2, x10_2, x32_2, rfl, rfl, rfl, HA, HK2, HO_5, HO_8, HO_18, HO_30, HR236_0, HB⟩ := hrel
              cases gk with
              | zero => exact absurd HA.out (by simp [spec_gpCycles.l1])
              | succ k2 =>
                have H := HA.out
                clear HA
                simp only [spec_gpCycles.l1] at H
                by_cases c15 : x32_2 < (x5_1.length : Int)
                · rw [if_pos c15] at H
                  have c15b0 : decide (x32_2 < (x5_1.length : Int)) = true := decide_eq_true c15
                  clear c15
                  by_cases c16 : 0 ≤ x32_2
                  · rw [if_pos c16] at H
                    have c16b0 : decide (0 ≤ x32_2) = true := decide_eq_true c16
                    clear c16
                    by_cases c17 : x32_2 < (x5_1.length : Int)
                    · rw [if_pos c17] at H
                      have c17b0 : decide (x32_2 < (x5_1.length : Int)) = true := decide_eq_true c17
                      clear c17
                      by_cases c18 : x10_2 = true
                      · subst c18
                        have H1 : (if 0 < ((rd_L2 x5_1 x32_2).length : Int) then ((spec_gpValue.f k2 (rd_L1 (rd_L2 x5_1 x32_2) 0) a1).bind fun t245 => (if 0 < (t240.length : Int) then ((spec_gpValue.f k2 (rd_L1 t240 0) a1).bind fun t247 => (if t245 < t247 then (spec_gpCycles.l1 k2 a0 a1 x5_1 t240 (wrap64 (x9_2 + 1)) true t233 (t233.length : Int) x20_1 x5_1 (x5_1.length : Int) (wrap64 (x32_2 + 1))) else (spec_gpCycles.l1 k2 a0 a1 x5_1 t240 x9_2 true t233 (t233.length : Int) x20_1 x5_1 (x5_1.length : Int) (wrap64 (x32_2 + 1))))) else (none))) else (none)) = some r := by rw [if_pos rfl] at H; exact H
                        clear H
                        have H := H1
                        clear H1
                        by_cases c19 : 0 < ((rd_L2 x5_1 x32_2).length : Int)
                        · rw [if_pos c19] at H
                          have c19b0 : decide (0 < ((rd_L2 x5_1 x32_2).length : Int)) = true := decide_eq_true c19
                          have c19b1 : decide (0 < (rd_L2 x5_1 x32_2).length) = true := decide_eq_true (by omega)
                          clear c19
                          replace H := Option.bind_eq_some_iff.mp H
                          obtain ⟨t245, A200, H⟩ := H
                          replace H : (if 0 < (t240.length : Int) then ((spec_gpValue.f k2 (rd_L1 t240 0) a1).bind fun t247 => (if t245 < t247 then (spec_gpCycles.l1 k2 a0 a1 x5_1 t240 (wrap64 (x9_2 + 1)) true t233 (t233.length : Int) x20_1 x5_1 (x5_1.length : Int) (wrap64 (x32_2 + 1))) else (spec_gpCycles.l1 k2 a0 a1 x5_1 t240 x9_2 true t233 (t233.length : Int) x20_1 x5_1 (x5_1.length : Int) (wrap64 (x32_2 + 1))))) else (none)) = some r := H
                          have A20 := Aside0.mk A200
                          clear A200
                          by_cases c21 : 0 < (t240.length : Int)
                          · rw [if_pos c21] at H
                            have c21b0 : decide (0 < (t240.length : Int)) = true := decide_eq_true c21
                            have c21b1 : decide (0 < t240.length) = true := decide_eq_true (by omega)
                            clear c21
                            replace H := Option.bind_eq_some_iff.mp H
                            obtain ⟨t247, A220, H⟩ := H
                            replace H : (if t245 < t247 then (spec_gpCycles.l1 k2 a0 a1 x5_1 t240 (wrap64 (x9_2 + 1)) true t233 (t233.length : Int) x20_1 x5_1 (x5_1.length : Int) (wrap64 (x32_2 + 1))) else (spec_gpCycles.l1 k2 a0 a1 x5_1 t240 x9_2 true t233 (t233.length : Int) x20_1 x5_1 (x5_1.length : Int) (wrap64 (x32_2 + 1)))) = some r := H
                            have A22 := Aside0.mk A220
                            clear A220
                            by_cases c23 : t245 < t247
                            · rw [if_pos c23] at H
                              have c23b0 : decide (t245 < t247) = true := decide_eq_true c23
                              clear c23
                              have H' := Aside0.mk H
                              clear H
                              have p243 : 0 ≤ (x32_2 : Int) := of_decide_eq_true (by first | (with_reducible assumption) | assumption)
                              have q243 : x32_2 < (x5_1.length : Int) := of_decide_eq_true (by first | (with_reducible assumption) | assumption)
                              obtain ⟨ad243, A243_0, c243_0, e243, hx243_0, hl243_0, hi243_0⟩ := at_L2 (Kd.N_reads' HO_30.out).2.2 x32_2 p243 q243
                              cases e243
                              obtain ⟨ce243, hce243, hMe243, hcc243⟩ := Kd.N_get HO_30.out [] x32_2 p243 (by first | exact q243 | exact of_decide_eq_true (by first | (with_reducible assumption) | assumption) | (have e_ := (Kd.N_reads' HO_30.out).1; omega))
                              obtain ⟨ua243_0, uc243_0, rfl, ul243_0, ge243_0⟩ := Kd.FK_slice_open hMe243
                              have hv243_0 := hcc243 0 _ rfl
                              rw [Nat.add_zero, show ((Kd.slice 22 (Kd.slice 3 (Kd.int .i64)))).sz = 1 from rfl, Nat.mul_one] at hv243_0
                              replace hv243_0 := Option.some.inj (hv243_0.symm.trans hx243_0)
                              injection hv243_0 with hva_ hvn_ hvc_
                              rw [hva_] at ge243_0
                              rw [hvc_] at ul243_0
                              have HL243_0 := Aside0.mk (show Kd.V (Kd.slice 3 (Kd.int .i64)) 22 _ w.heap.size _ _ (rd_L2 x5_1 x32_2) from Kd.V_mk ul243_0 ge243_0)
                              clear hva_ hvn_ hvc_ ge243_0 ul243_0
                              clear hcc243 hce243
                              have HR243_0 := Aside0.mk hi243_0
                              have HC243_0 := Aside0.mk hl243_0
                              clear hi243_0 hl243_0
                              replace p243 := eq_true p243
                              replace q243 := eq_true q243
                              try go_wp2
                              have n0_ := Aside0.mk (Kd.N_drew HO_5.out)
                              have n1_ := Aside0.mk (Kd.N_drew HO_8.out)
                              have n2_ := Aside0.mk (Kd.N_drew HO_18.out)
                              have n3_ := Aside0.mk (Kd.N_drew HO_30.out)
                              have n4_ := Aside0.mk (Kd.V_drew HL243_0.out)
                              have n5_ := Aside0.mk (Kd.C_drew HR236_0.out)
                              have n6_ := Aside0.mk (Kd.C_drew HR243_0.out)
                              have n7_ := Aside0.mk (below_drew1 HB.out)
                              clear HO_5
                              clear HO_8
                              clear HO_18
                              clear HO_30
                              clear HL243_0
                              clear HR236_0
                              clear HR243_0
                              clear HB
                              have HO_5 := n0_
                              have HO_8 := n1_
                              have HO_18 := n2_
                              have HO_30 := n3_
                              have HL243_0 := n4_
                              have HR236_0 := n5_
                              have HR243_0 := n6_
                              have HB := n7_
                              clear n0_ n1_ n2_ n3_ n4_ n5_ n6_ n7_
                              refine start_ (n := 11) (S := fun w' => True) (ds := []) #[false, false, false, false, false, false, false, false, false, false, false] (by kernel_rfl) rfl rfl trivial (fun hHeld => ?_); refine with_tabW spec_gpCycles.tab10 spec_gpCycles.bits10 (fun HT_ HW_ => ?_)
                              generalize wr.drew = w24 at HO_5 HO_8 HO_18 HO_30 HL243_0 HR236_0 HR243_0 HB hHeld ⊢
                              refine pure_ (i := 0) (N := some 36) (v := ?_) (a' := ?_) #[true, false, false, false, false, false, false, false, false, false, false] rfl rfl (any_of HT_.out (by kernel_rfl)) (fun _ _ _ h => h) (Or.inl ⟨by rfl, ?_⟩) ?_ ?_
                              rotate_left
                              · intro w'
                                go_simp
                                with_reducible rfl
                              rotate_left
                              · simp only [Act.put, List.setIfInBounds_toArray, List.set_cons_zero, List.set_cons_succ, i64_w, i32_w]
                                rfl
                              refine pure_ (i := 1) (N := some 37) (v := ?_) (a' := ?_) #[true, true, false, false, false, false, false, false, false, false, false] rfl rfl (any_of HT_.out (by kernel_rfl)) (fun _ _ _ h => h) (Or.inl ⟨by rfl, ?_⟩) ?_ ?_
                              rotate_left
                              · intro w'
                                go_simp
                                with_reducible rfl
                              rotate_left
                              · simp only [Act.put, List.setIfInBounds_toArray, List.set_cons_zero, List.set_cons_succ, i64_w, i32_w]
                                rfl
                              refine pure_ (i := 2) (N := some 38) (v := undef) (a' := ?_) #[true, true, true, false, false, false, false, false, false, false, false] rfl rfl (any_of HT_.out (by kernel_rfl)) (fun _ _ _ h => h) (Or.inr ⟨by rfl, rfl⟩) ?_ ?_
                              rotate_left
                              · simp only [Act.put, List.setIfInBounds_toArray, List.set_cons_zero, List.set_cons_succ, i64_w, i32_w]
                                rfl
                              refine pure_ (i := 3) (N := some 39) (v := undef) (a' := ?_) #[true, true, true, true, false, false, false, false, false, false, false] rfl rfl (any_of HT_.out (by kernel_rfl)) (fun _ _ _ h => h) (Or.inr ⟨by rfl, rfl⟩) ?_ ?_
                              rotate_left
                              · simp only [Act.put, List.setIfInBounds_toArray, List.set_cons_zero, List.set_cons_succ, i64_w, i32_w]
                                rfl
                              refine pure_ (i := 4) (N := some 40) (v := undef) (a' := ?_) #[true, true, true, true, true, false, false, false, false, false, false] rfl rfl (any_of HT_.out (by kernel_rfl)) (fun _ _ _ h => h) (Or.inr ⟨by rfl, rfl⟩) ?_ ?_
                              rotate_left
                              · simp only [Act.put, List.setIfInBounds_toArray, List.set_cons_zero, List.set_cons_succ, i64_w, i32_w]
                                rfl
                              refine pure_ (i := 5) (N := some 41) (v := undef) (a' := ?_) #[true, true, true, true, true, true, false, false, false, false, false] rfl rfl (any_of HT_.out (by kernel_rfl)) (fun _ _ _ h => h) (Or.inr ⟨by rfl, rfl⟩) ?_ ?_
                              rotate_left
                              · simp only [Act.put, List.setIfInBounds_toArray, List.set_cons_zero, List.set_cons_succ, i64_w, i32_w]
                                rfl
                              refine pure_ (i := 6) (N := some 42) (v := undef) (a' := ?_) #[true, true, true, true, true, true, true, false, false, false, false] rfl rfl (any_of HT_.out (by kernel_rfl)) (fun _ _ _ h => h) (Or.inr ⟨by rfl, rfl⟩) ?_ ?_
                              rotate_left
                              · simp only [Act.put, List.setIfInBounds_toArray, List.set_cons_zero, List.set_cons_succ, i64_w, i32_w]
                                rfl
                              refine pure_ (i := 7) (N := some 43) (v := undef) (a' := ?_) #[true, true, true, true, true, true, true, true, false, false, false] rfl rfl (any_of HT_.out (by kernel_rfl)) (fun _ _ _ h => h) (Or.inr ⟨by rfl, rfl⟩) ?_ ?_
                              rotate_left
                              · simp only [Act.put, List.setIfInBounds_toArray, List.set_cons_zero, List.set_cons_succ, i64_w, i32_w]
                                rfl
                              refine pure_ (i := 8) (N := some 44) (v := undef) (a' := ?_) #[true, true, true, true, true, true, true, true, true, false, false] rfl rfl (any_of HT_.out (by kernel_rfl)) (fun _ _ _ h => h) (Or.inr ⟨by rfl, rfl⟩) ?_ ?_
                              rotate_left
                              · simp only [Act.put, List.setIfInBounds_toArray, List.set_cons_zero, List.set_cons_succ, i64_w, i32_w]
                                rfl
                              refine pure_ (i := 9) (N := some 45) (v := ?_) (a' := ?_) #[true, true, true, true, true, true, true, true, true, true, false] rfl rfl (any_of HT_.out (by kernel_rfl)) (fun _ _ _ h => h) (Or.inl ⟨by rfl, ?_⟩) ?_ ?_
                              rotate_left
                              · intro w'
                                go_simp
                                with_reducible rfl
                              rotate_left
                              · simp only [Act.put, List.setIfInBounds_toArray, List.set_cons_zero, List.set_cons_succ, i64_w, i32_w]
                                rfl
                              refine pure_ (i := 10) (N := some 10) (v := ?_) (a' := ?_) #[true, true, true, true, true, true, true, true, true, true, true] rfl rfl (any_of HT_.out (by kernel_rfl)) (fun _ _ _ h => h) (Or.inl ⟨by rfl, ?_⟩) ?_ ?_
                              rotate_left
                              · intro w'
                                go_simp
                                with_reducible rfl
                              rotate_left
                              · simp only [Act.put, List.setIfInBounds_toArray, List.set_cons_zero, List.set_cons_succ, i64_w, i32_w]
                                rfl
                              refine done_ (done_of HT_.out (by kernel_rfl)) ?_
                              try go_wp2
                              have n0_ := Aside0.mk (Kd.N_drew HO_5.out)
                              have n1_ := Aside0.mk (Kd.N_drew HO_8.out)
                              have n2_ := Aside0.mk (Kd.N_drew HO_18.out)
                              have n3_ := Aside0.mk (Kd.N_drew HO_30.out)
                              have n4_ := Aside0.mk (Kd.V_drew HL243_0.out)
                              have n5_ := Aside0.mk (Kd.C_drew HR236_0.out)
                              have n6_ := Aside0.mk (Kd.C_drew HR243_0.out)
                              have n7_ := Aside0.mk (below_drew1 HB.out)
                              clear HO_5
                              clear HO_8
                              clear HO_18
                              clear HO_30
                              clear HL243_0
                              clear HR236_0
                              clear HR243_0
                              clear HB
                              have HO_5 := n0_
                              have HO_8 := n1_
                              have HO_18 := n2_
                              have HO_30 := n3_
                              have HL243_0 := n4_
                              have HR236_0 := n5_
                              have HR243_0 := n6_
                              have HB := n7_
                              clear n0_ n1_ n2_ n3_ n4_ n5_ n6_ n7_
                              have p244 : 0 ≤ (0 : Int) := (by omega)
                              have q244 : 0 < ((rd_L2 x5_1 x32_2).length : Int) := of_decide_eq_true (by first | (with_reducible assumption) | assumption)
                              obtain ⟨ad244, A244_0, c244_0, e244, hx244_0, hl244_0, hi244_0⟩ := at_L1 (by repeat (first | (with_reducible exact HR243_0.out) | (with_reducible refine Kd.C_alloc ?_ _) | (with_reducible refine Kd.C_drewN ?_ _) | (with_reducible refine Kd.C_drew ?_) | exact HR243_0.out)) 0 p244 q244
                              cases e244
                              obtain ⟨ce244, hce244, hMe244, hcc244⟩ := Kd.V_get HL243_0.out [] 0 p244 (by first | exact q244 | exact of_decide_eq_true (by first | (with_reducible assumption) | assumption) | (have e_ := (Kd.V_reads' HL243_0.out).1; omega))
                              obtain ⟨ua244_0, uc244_0, rfl, ul244_0, ge244_0⟩ := Kd.FK_slice_open hMe244
                              have hv244_0 := hcc244 0 _ rfl
                              rw [Nat.add_zero, show ((Kd.slice 3 (Kd.int .i64))).sz = 1 from rfl, Nat.mul_one] at hv244_0
                              replace hv244_0 := Option.some.inj (hv244_0.symm.trans hx244_0)
                              injection hv244_0 with hva_ hvn_ hvc_
                              rw [hva_] at ge244_0
                              rw [hvc_] at ul244_0
                              have HL244_0 := Aside0.mk (show Kd.V (Kd.int .i64) 3 _ w.heap.size _ _ (rd_L1 (rd_L2 x5_1 x32_2) 0) from Kd.V_mk ul244_0 ge244_0)
                              clear hva_ hvn_ hvc_ ge244_0 ul244_0
                              clear hcc244 hce244
                              have qi244 : (0 < (rd_L2 x5_1 x32_2).length) = True := eq_true (by omega)
                              (try rw [show ((0 : Int)).toNat = 0 from rfl] at hx244_0)
                              (try rw [Addr.add_zero'] at hx244_0)
                              have HR244_0 := Aside0.mk hi244_0
                              have HC244_0 := Aside0.mk hl244_0
                              clear hi244_0 hl244_0
                              replace p244 := eq_true p244
                              replace q244 := eq_true q244
                              obtain ⟨Ao26, co26, eo26⟩ := Kd.N_slice HO_8.out
                              (first | subst eo26 | (injection eo26 with f1_ f2_ f3_; have f4_ := f1_.symm; have f5_ := f3_.symm; clear f1_ f2_ f3_; subst f4_; subst f5_))
                              have p246 : 0 ≤ (0 : Int) := (by omega)
                              have q246 : 0 < (t240.length : Int) := of_decide_eq_true (by first | (with_reducible assumption) | assumption)
                              obtain ⟨ad246, A246_0, c246_0, e246, hx246_0, hl246_0, hi246_0⟩ := at_L1 (Kd.N_reads' HO_8.out).2.2 0 p246 q246
                              cases e246
                              obtain ⟨ce246, hce246, hMe246, hcc246⟩ := Kd.N_get HO_8.out [] 0 p246 (by first | exact q246 | exact of_decide_eq_true (by first | (with_reducible assumption) | assumption) | (have e_ := (Kd.N_reads' HO_8.out).1; omega))
                              obtain ⟨ua246_0, uc246_0, rfl, ul246_0, ge246_0⟩ := Kd.FK_slice_open hMe246
                              have hv246_0 := hcc246 0 _ rfl
                              rw [Nat.add_zero, show ((Kd.slice 3 (Kd.int .i64))).sz = 1 from rfl, Nat.mul_one] at hv246_0
                              replace hv246_0 := Option.some.inj (hv246_0.symm.trans hx246_0)
                              injection hv246_0 with hva_ hvn_ hvc_
                              rw [hva_] at ge246_0
                              rw [hvc_] at ul246_0
                              have HL246_0 := Aside0.mk (show Kd.V (Kd.int .i64) 3 _ w.heap.size _ _ (rd_L1 t240 0) from Kd.V_mk ul246_0 ge246_0)
                              clear hva_ hvn_ hvc_ ge246_0 ul246_0
                              clear hcc246 hce246
                              have qi246 : (0 < t240.length) = True := eq_true (by omega)
                              (try rw [show ((0 : Int)).toNat = 0 from rfl] at hx246_0)
                              (try rw [Addr.add_zero'] at hx246_0)
                              have HR246_0 := Aside0.mk hi246_0
                              have HC246_0 := Aside0.mk hl246_0
                              clear hi246_0 hl246_0
                              replace p246 := eq_true p246
                              replace q246 := eq_true q246
                              refine start_ (n := 11) (S := fun w' => w'.cell? ad244 = some (.slice A244_0 (rd_L1 (rd_L2 x5_1 x32_2) 0).length c244_0) ∧ w'.cell? ad246 = some (.slice A246_0 (rd_L1 t240 0).length c246_0)) (ds := []) #[false, false, false, false, false, false, false, false, false, false, false] (by kernel_rfl) rfl rfl ⟨hx244_0, hx246_0⟩ (fun hHeld => ?_); refine with_tabW spec_gpCycles.tab11 spec_gpCycles.bits11 (fun HT_ HW_ => ?_)
                              generalize w24.drew = w25 at HO_5 HO_8 HO_18 HO_30 HL243_0 HR236_0 HR243_0 HB HL244_0 HL246_0 HR244_0 HR246_0 hx244_0 hx246_0 hHeld ⊢
                              refine pure_ (i := 0) (N := some 46) (v := ?_) (a' := ?_) #[true, false, false, false, false, false, false, false, false, false, false] rfl rfl (any_of HT_.out (by kernel_rfl)) (fun _ _ _ h => h) (Or.inl ⟨by rfl, ?_⟩) ?_ ?_
                              rotate_left
                              · intro w'
                                go_simp
                                with_reducible rfl
                              rotate_left
                              · simp only [Act.put, List.setIfInBounds_toArray, List.set_cons_zero, List.set_cons_succ, i64_w, i32_w]
                                rfl
                              refine pure_ (i := 1) (N := some 47) (v := ?_) (a' := ?_) #[true, true, false, false, false, false, false, false, false, false, false] rfl rfl (any_of HT_.out (by kernel_rfl)) (fun _ _ _ h => h) (Or.inl ⟨by rfl, ?_⟩) ?_ ?_
                              rotate_left
                              · intro w'
                                go_simp
                                with_reducible rfl
                              rotate_left
                              · simp only [Act.put, List.setIfInBounds_toArray, List.set_cons_zero, List.set_cons_succ, i64_w, i32_w]
                                rfl
                              refine pure_ (i := 3) (N := some 49) (v := ?_) (a' := ?_) #[true, true, false, true, false, false, false, false, false, false, false] rfl rfl (any_of HT_.out (by kernel_rfl)) (fun _ _ _ h => h) (Or.inl ⟨by rfl, ?_⟩) ?_ ?_
                              rotate_left
                              · intro w'
                                go_simp
                                with_reducible rfl
                              rotate_left
                              · simp only [Act.put, List.setIfInBounds_toArray, List.set_cons_zero, List.set_cons_succ, i64_w, i32_w]
                                rfl
                              refine pure_ (i := 5) (N := some 51) (v := ?_) (a' := ?_) #[true, true, false, true, false, true, false, false, false, false, false] rfl rfl (any_of HT_.out (by kernel_rfl)) (fun _ _ _ h => h) (Or.inl ⟨by rfl, ?_⟩) ?_ ?_
                              rotate_left
                              · intro w'
                                go_simp
                                with_reducible rfl
                              rotate_left
                              · simp only [Act.put, List.setIfInBounds_toArray, List.set_cons_zero, List.set_cons_succ, i64_w, i32_w]
                                rfl
                              refine pure_ (i := 6) (N := some 52) (v := ?_) (a' := ?_) #[true, true, false, true, false, true, true, false, false, false, false] rfl rfl (any_of HT_.out (by kernel_rfl)) (fun _ _ _ h => h) (Or.inl ⟨by rfl, ?_⟩) ?_ ?_
                              rotate_left
                              · intro w'
                                go_simp
                                with_reducible rfl
                              rotate_left
                              · simp only [Act.put, List.setIfInBounds_toArray, List.set_cons_zero, List.set_cons_succ, i64_w, i32_w]
                                rfl
                              refine pure_ (i := 8) (N := some 54) (v := ?_) (a' := ?_) #[true, true, false, true, false, true, true, false, true, false, false] rfl rfl (any_of HT_.out (by kernel_rfl)) (fun _ _ _ h => h) (Or.inl ⟨by rfl, ?_⟩) ?_ ?_
                              rotate_left
                              · intro w'
                                go_simp
                                with_reducible rfl
                              rotate_left
                              · simp only [Act.put, List.setIfInBounds_toArray, List.set_cons_zero, List.set_cons_succ, i64_w, i32_w]
                                rfl
                              refine take_ (i := 2) (N := some 48) (v := ?_) (a' := ?_) #[true, true, true, true, false, true, true, false, true, false, false] rfl rfl (take_ofW HT_.out HW_.out (by kernel_rfl)) (fun _ _ _ h => h) (Or.inl ⟨by rfl, ?_⟩) hHeld ?_ ?_
                              rotate_left
                              · rintro w' ⟨s0, s1⟩
                                go_simp
                                with_reducible rfl
                              rotate_left
                              · simp only [Act.put, List.setIfInBounds_toArray, List.set_cons_zero, List.set_cons_succ, i64_w, i32_w]
                                rfl
                              refine take_ (i := 7) (N := some 53) (v := ?_) (a' := ?_) #[true, true, true, true, false, true, true, true, true, false, false] rfl rfl (take_ofW HT_.out HW_.out (by kernel_rfl)) (fun _ _ _ h => h) (Or.inl ⟨by rfl, ?_⟩) hHeld ?_ ?_
                              rotate_left
                              · rintro w' ⟨s0, s1⟩
                                go_simp
                                with_reducible rfl
                              rotate_left
                              · simp only [Act.put, List.setIfInBounds_toArray, List.set_cons_zero, List.set_cons_succ, i64_w, i32_w]
                                rfl
                              refine one_ (i := 4) (N := some 50) #[true, true, true, true, true, true, true, true, true, false, false] rfl rfl (one_of HT_.out (by kernel_rfl)) (by decide) (fun K hK => ?_)
                              refine goes_ Try.func73 (by kernel_rfl) rfl #[.slice A244_0 (rd_L1 (rd_L2 x5_1 x32_2) 0).length c244_0, .int .i64 a1] (by rfl) rfl rfl (by (try simp only [List.map_toArray, List.map_cons, List.map_nil]); first | done | rfl | (simp only [List.length_drop, List.length_take]; rfl)) ?_
                              with_reducible refine (spec_gpValue.calls k2 _ _ (rd_L1 (rd_L2 x5_1 x32_2) 0) a1 t245 _ ?side1 ?side2 A20.out).mono ?_
                              (case side1 => repeat (first | exact (by repeat (first | (with_reducible exact HR244_0.out) | (with_reducible refine Kd.C_alloc ?_ _) | (with_reducible refine Kd.C_drewN ?_ _) | (with_reducible refine Kd.C_drew ?_) | exact HR244_0.out)) | (with_reducible refine Kd.C_alloc ?_ _) | (with_reducible refine Kd.C_drewN ?_ _) | (with_reducible refine Kd.C_drew ?_)))
                              (case side2 => exact HC244_0.out)
                              rintro e w' ⟨rfl, ⟨nd, rfl⟩⟩
                              refine ⟨_, rfl, ?_⟩
                              refine hK.out _ _ ⟨hHeld.1, hHeld.2⟩ (fun hHeld => ?_)
                              clear hK K
                              refine norm_ (a' := ?_) ?_ ?_
                              rotate_left
                              · show Act.put _ (some 50) _ = _
                                simp only [Act.put, List.setIfInBounds_toArray, List.set_cons_zero, List.set_cons_succ, i64_w, i32_w]
                                rfl
                              refine one_ (i := 9) (N := some 55) #[true, true, true, true, true, true, true, true, true, true, false] rfl rfl (one_of HT_.out (by kernel_rfl)) (by decide) (fun K hK => ?_)
                              refine goes_ Try.func73 (by kernel_rfl) rfl #[.slice A246_0 (rd_L1 t240 0).length c246_0, .int .i64 a1] (by rfl) rfl rfl (by (try simp only [List.map_toArray, List.map_cons, List.map_nil]); first | done | rfl | (simp only [List.length_drop, List.length_take]; rfl)) ?_
                              with_reducible refine (spec_gpValue.calls k2 _ _ (rd_L1 t240 0) a1 t247 _ ?side1 ?side2 A22.out).mono ?_
                              (case side1 => repeat (first | exact (by repeat (first | (with_reducible exact HR246_0.out) | (with_reducible refine Kd.C_alloc ?_ _) | (with_reducible refine Kd.C_drewN ?_ _) | (with_reducible refine Kd.C_drew ?_) | exact HR246_0.out)) | (with_reducible refine Kd.C_alloc ?_ _) | (with_reducible refine Kd.C_drewN ?_ _) | (with_reducible refine Kd.C_drew ?_)))
                              (case side2 => exact HC246_0.out)
                              rintro e w' ⟨rfl, ⟨nd, rfl⟩⟩
                              refine ⟨_, rfl, ?_⟩
                              refine hK.out _ _ ⟨hHeld.1, hHeld.2⟩ (fun hHeld => ?_)
                              clear hK K
                              refine norm_ (a' := ?_) ?_ ?_
                              rotate_left
                              · show Act.put _ (some 55) _ = _
                                simp only [Act.put, List.setIfInBounds_toArray, List.set_cons_zero, List.set_cons_succ, i64_w, i32_w]
                                rfl
                              refine pure_ (i := 10) (N := some 56) (v := ?_) (a' := ?_) #[true, true, true, true, true, true, true, true, true, true, true] rfl rfl (any_of HT_.out (by kernel_rfl)) (fun _ _ _ h => h) (Or.inl ⟨by rfl, ?_⟩) ?_ ?_
                              rotate_left
                              · intro w'
                                go_simp
                                with_reducible rfl
                              rotate_left
                              · simp only [Act.put, List.setIfInBounds_toArray, List.set_cons_zero, List.set_cons_succ, i64_w, i32_w]
                                rfl
                              refine done_ (done_of HT_.out (by kernel_rfl)) ?_
                              try go_wp2
                              go_roundg k2
                              case measure => have := HK1.out; have := HK2.out; omega
                              case rel => exact ⟨(wrap64 (x9_2 + 1)), (true), (wrap64 (x32_2 + 1)), (by first | rfl | (simp; done) | (simp [*]; done)), (by first | rfl | (simp; done) | (simp [*]; done)), (by first | rfl | (simp; done) | (simp [*]; done)), H', ⟨by have := HK1.out; have := HK2.out; omega⟩, ⟨by (with_reducible repeat (first | apply Kd.N_alloc | apply Kd.N_drewN | apply Kd.N_drew)); first | exact HO_5.out | exact Kd.N_mono HO_5.out (fun k_ hk => by repeat' (first | exact hk.1 | exact hk.2.1 | exact hk.2.2.1 | exact hk.2.2.2 | exact hk.2.2 | constructor))⟩, ⟨by (with_reducible repeat (first | apply Kd.N_alloc | apply Kd.N_drewN | apply Kd.N_drew)); first | exact HO_8.out | exact Kd.N_mono HO_8.out (fun k_ hk => by repeat' (first | exact hk.1 | exact hk.2.1 | exact hk.2.2.1 | exact hk.2.2.2 | exact hk.2.2 | constructor))⟩, ⟨by (with_reducible repeat (first | apply Kd.N_alloc | apply Kd.N_drewN | apply Kd.N_drew)); first | exact HO_18.out | exact Kd.N_mono HO_18.out (fun k_ hk => by repeat' (first | exact hk.1 | exact hk.2.1 | exact hk.2.2.1 | exact hk.2.2.2 | exact hk.2.2 | constructor))⟩, ⟨by (with_reducible repeat (first | apply Kd.N_alloc | apply Kd.N_drewN | apply Kd.N_drew)); first | exact HO_30.out | exact Kd.N_mono HO_30.out (fun k_ hk => by repeat' (first | exact hk.1 | exact hk.2.1 | exact hk.2.2.1 | exact hk.2.2.2 | exact hk.2.2 | constructor))⟩, ⟨by repeat (first | (with_reducible exact HR236_0.out) | (with_reducible refine Kd.C_alloc ?_ _) | (with_reducible refine Kd.C_drewN ?_ _) | (with_reducible refine Kd.C_drew ?_) | exact HR236_0.out)⟩, ⟨by repeat (first | (with_reducible first | exact HB.out | apply below_alloc | apply pw_below_drewN | apply below_drew1) | exact HB.out)⟩⟩
                            · rw [if_neg c23] at H
                              have c23b0 : decide (t245 < t247) = false := decide_eq_false c23
                              clear c23
                              have H' := Aside0.mk H
                              clear H
                              have p243 : 0 ≤ (x32_2 : Int) := of_decide_eq_true (by first | (with_reducible assumption) | assumption)
                              have q243 : x32_2 < (x5_1.length : Int) := of_decide_eq_true (by first | (with_reducible assumption) | assumption)
                              obtain ⟨ad243, A243_0, c243_0, e243, hx243_0, hl243_0, hi243_0⟩ := at_L2 (Kd.N_reads' HO_30.out).2.2 x32_2 p243 q243
                              cases e243
                              obtain ⟨ce243, hce243, hMe243, hcc243⟩ := Kd.N_get HO_30.out [] x32_2 p243 (by first | exact q243 | exact of_decide_eq_true (by first | (with_reducible assumption) | assumption) | (have e_ := (Kd.N_reads' HO_30.out).1; omega))
                              obtain ⟨ua243_0, uc243_0, rfl, ul243_0, ge243_0⟩ := Kd.FK_slice_open hMe243
                              have hv243_0 := hcc243 0 _ rfl
                              rw [Nat.add_zero, show ((Kd.slice 22 (Kd.slice 3 (Kd.int .i64)))).sz = 1 from rfl, Nat.mul_one] at hv243_0
                              replace hv243_0 := Option.some.inj (hv243_0.symm.trans hx243_0)
                              injection hv243_0 with hva_ hvn_ hvc_
                              rw [hva_] at ge243_0
                              rw [hvc_] at ul243_0
                              have HL243_0 := Aside0.mk (show Kd.V (Kd.slice 3 (Kd.int .i64)) 22 _ w.heap.size _ _ (rd_L2 x5_1 x32_2) from Kd.V_mk ul243_0 ge243_0)
                              clear hva_ hvn_ hvc_ ge243_0 ul243_0
                              clear hcc243 hce243
                              have HR243_0 := Aside0.mk hi243_0
                              have HC243_0 := Aside0.mk hl243_0
                              clear hi243_0 hl243_0
                              replace p243 := eq_true p243
                              replace q243 := eq_true q243
                              try go_wp2
                              have n0_ := Aside0.mk (Kd.N_drew HO_5.out)
                              have n1_ := Aside0.mk (Kd.N_drew HO_8.out)
                              have n2_ := Aside0.mk (Kd.N_drew HO_18.out)
                              have n3_ := Aside0.mk (Kd.N_drew HO_30.out)
                              have n4_ := Aside0.mk (Kd.V_drew HL243_0.out)
                              have n5_ := Aside0.mk (Kd.C_drew HR236_0.out)
                              have n6_ := Aside0.mk (Kd.C_drew HR243_0.out)
                              have n7_ := Aside0.mk (below_drew1 HB.out)
                              clear HO_5
                              clear HO_8
                              clear HO_18
                              clear HO_30
                              clear HL243_0
                              clear HR236_0
                              clear HR243_0
                              clear HB
                              have HO_5 := n0_
                              have HO_8 := n1_
                              have HO_18 := n2_
                              have HO_30 := n3_
                              have HL243_0 := n4_
                              have HR236_0 := n5_
                              have HR243_0 := n6_
                              have HB := n7_
                              clear n0_ n1_ n2_ n3_ n4_ n5_ n6_ n7_
                              refine start_ (n := 11) (S := fun w' => True) (ds := []) #[false, false, false, false, false, false, false, false, false, false, false] (by kernel_rfl) rfl rfl trivial (fun hHeld => ?_); refine with_tabW spec_gpCycles.tab10 spec_gpCycles.bits10 (fun HT_ HW_ => ?_)
                              generalize wr.drew = w27 at HO_5 HO_8 HO_18 HO_30 HL243_0 HR236_0 HR243_0 HB hHeld ⊢
                              refine pure_ (i := 0) (N := some 36) (v := ?_) (a' := ?_) #[true, false, false, false, false, false, false, false, false, false, false] rfl rfl (any_of HT_.out (by kernel_rfl)) (fun _ _ _ h => h) (Or.inl ⟨by rfl, ?_⟩) ?_ ?_
                              rotate_left
                              · intro w'
                                go_simp
                                with_reducible rfl
                              rotate_left
                              · simp only [Act.put, List.setIfInBounds_toArray, List.set_cons_zero, List.set_cons_succ, i64_w, i32_w]
                                rfl
                              refine pure_ (i := 1) (N := some 37) (v := ?_) (a' := ?_) #[true, true, false, false, false, false, false, false, false, false, false] rfl rfl (any_of HT_.out (by kernel_rfl)) (fun _ _ _ h => h) (Or.inl ⟨by rfl, ?_⟩) ?_ ?_
                              rotate_left
                              · intro w'
                                go_simp
                                with_reducible rfl
                              rotate_left
                              · simp only [Act.put, List.setIfInBounds_toArray, List.set_cons_zero, List.set_cons_succ, i64_w, i32_w]
                                rfl
                              refine pure_ (i := 2) (N := some 38) (v := undef) (a' := ?_) #[true, true, true, false, false, false, false, false, false, false, false] rfl rfl (any_of HT_.out (by kernel_rfl)) (fun _ _ _ h => h) (Or.inr ⟨by rfl, rfl⟩) ?_ ?_
                              rotate_left
                              · simp only [Act.put, List.setIfInBounds_toArray, List.set_cons_zero, List.set_cons_succ, i64_w, i32_w]
                                rfl
                              refine pure_ (i := 3) (N := some 39) (v := undef) (a' := ?_) #[true, true, true, true, false, false, false, false, false, false, false] rfl rfl (any_of HT_.out (by kernel_rfl)) (fun _ _ _ h => h) (Or.inr ⟨by rfl, rfl⟩) ?_ ?_
                              rotate_left
                              · simp only [Act.put, List.setIfInBounds_toArray, List.set_cons_zero, List.set_cons_succ, i64_w, i32_w]
                                rfl
                              refine pure_ (i := 4) (N := some 40) (v := undef) (a' := ?_) #[true, true, true, true, true, false, false, false, false, false, false] rfl rfl (any_of HT_.out (by kernel_rfl)) (fun _ _ _ h => h) (Or.inr ⟨by rfl, rfl⟩) ?_ ?_
                              rotate_left
                              · simp only [Act.put, List.setIfInBounds_toArray, List.set_cons_zero, List.set_cons_succ, i64_w, i32_w]
                                rfl
                              refine pure_ (i := 5) (N := some 41) (v := undef) (a' := ?_) #[true, true, true, true, true, true, false, false, false, false, false] rfl rfl (any_of HT_.out (by kernel_rfl)) (fun _ _ _ h => h) (Or.inr ⟨by rfl, rfl⟩) ?_ ?_
                              rotate_left
                              · simp only [Act.put, List.setIfInBounds_toArray, List.set_cons_zero, List.set_cons_succ, i64_w, i32_w]
                                rfl
                              refine pure_ (i := 6) (N := some 42) (v := undef) (a' := ?_) #[true, true, true, true, true, true, true, false, false, false, false] rfl rfl (any_of HT_.out (by kernel_rfl)) (fun _ _ _ h => h) (Or.inr ⟨by rfl, rfl⟩) ?_ ?_
                              rotate_left
                              · simp only [Act.put, List.setIfInBounds_toArray, List.set_cons_zero, List.set_cons_succ, i64_w, i32_w]
                                rfl
                              refine pure_ (i := 7) (N := some 43) (v := undef) (a' := ?_) #[true, true, true, true, true, true, true, true, false, false, false] rfl rfl (any_of HT_.out (by kernel_rfl)) (fun _ _ _ h => h) (Or.inr ⟨by rfl, rfl⟩) ?_ ?_
                              rotate_left
                              · simp only [Act.put, List.setIfInBounds_toArray, List.set_cons_zero, List.set_cons_succ, i64_w, i32_w]
                                rfl
                              refine pure_ (i := 8) (N := some 44) (v := undef) (a' := ?_) #[true, true, true, true, true, true, true, true, true, false, false] rfl rfl (any_of HT_.out (by kernel_rfl)) (fun _ _ _ h => h) (Or.inr ⟨by rfl, rfl⟩) ?_ ?_
                              rotate_left
                              · simp only [Act.put, List.setIfInBounds_toArray, List.set_cons_zero, List.set_cons_succ, i64_w, i32_w]
                                rfl
                              refine pure_ (i := 9) (N := some 45) (v := ?_) (a' := ?_) #[true, true, true, true, true, true, true, true, true, true, false] rfl rfl (any_of HT_.out (by kernel_rfl)) (fun _ _ _ h => h) (Or.inl ⟨by rfl, ?_⟩) ?_ ?_
                              rotate_left
                              · intro w'
                                go_simp
                                with_reducible rfl
                              rotate_left
                              · simp only [Act.put, List.setIfInBounds_toArray, List.set_cons_zero, List.set_cons_succ, i64_w, i32_w]
                                rfl
                              refine pure_ (i := 10) (N := some 10) (v := ?_) (a' := ?_) #[true, true, true, true, true, true, true, true, true, true, true] rfl rfl (any_of HT_.out (by kernel_rfl)) (fun _ _ _ h => h) (Or.inl ⟨by rfl, ?_⟩) ?_ ?_
                              rotate_left
                              · intro w'
                                go_simp
                                with_reducible rfl
                              rotate_left
                              · simp only [Act.put, List.setIfInBounds_toArray, List.set_cons_zero, List.set_cons_succ, i64_w, i32_w]
                                rfl
                              refine done_ (done_of HT_.out (by kernel_rfl)) ?_
                              try go_wp2
                              have n0_ := Aside0.mk (Kd.N_drew HO_5.out)
                              have n1_ := Aside0.mk (Kd.N_drew HO_8.out)
                              have n2_ := Aside0.mk (Kd.N_drew HO_18.out)
                              have n3_ := Aside0.mk (Kd.N_drew HO_30.out)
                              have n4_ := Aside0.mk (Kd.V_drew HL243_0.out)
                              have n5_ := Aside0.mk (Kd.C_drew HR236_0.out)
                              have n6_ := Aside0.mk (Kd.C_drew HR243_0.out)
                              have n7_ := Aside0.mk (below_drew1 HB.out)
                              clear HO_5
                              clear HO_8
                              clear HO_18
                              clear HO_30
                              clear HL243_0
                              clear HR236_0
                              clear HR243_0
                              clear HB
                              have HO_5 := n0_
                              have HO_8 := n1_
                              have HO_18 := n2_
                              have HO_30 := n3_
                              have HL243_0 := n4_
                              have HR236_0 := n5_
                              have HR243_0 := n6_
                              have HB := n7_
                              clear n0_ n1_ n2_ n3_ n4_ n5_ n6_ n7_
                              have p244 : 0 ≤ (0 : Int) := (by omega)
                              have q244 : 0 < ((rd_L2 x5_1 x32_2).length : Int) := of_decide_eq_true (by first | (with_reducible assumption) | assumption)
                              obtain ⟨ad244, A244_0, c244_0, e244, hx244_0, hl244_0, hi244_0⟩ := at_L1 (by repeat (first | (with_reducible exact HR243_0.out) | (with_reducible refine Kd.C_alloc ?_ _) | (with_reducible refine Kd.C_drewN ?_ _) | (with_reducible refine Kd.C_drew ?_) | exact HR243_0.out)) 0 p244 q244
                              cases e244
                              obtain ⟨ce244, hce244, hMe244, hcc244⟩ := Kd.V_get HL243_0.out [] 0 p244 (by first | exact q244 | exact of_decide_eq_true (by first | (with_reducible assumption) | assumption) | (have e_ := (Kd.V_reads' HL243_0.out).1; omega))
                              obtain ⟨ua244_0, uc244_0, rfl, ul244_0, ge244_0⟩ := Kd.FK_slice_open hMe244
                              have hv244_0 := hcc244 0 _ rfl
                              rw [Nat.add_zero, show ((Kd.slice 3 (Kd.int .i64))).sz = 1 from rfl, Nat.mul_one] at hv244_0
                              replace hv244_0 := Option.some.inj (hv244_0.symm.trans hx244_0)
                              injection hv244_0 with hva_ hvn_ hvc_
                              rw [hva_] at ge244_0
                              rw [hvc_] at ul244_0
                              have HL244_0 := Aside0.mk (show Kd.V (Kd.int .i64) 3 _ w.heap.size _ _ (rd_L1 (rd_L2 x5_1 x32_2) 0) from Kd.V_mk ul244_0 ge244_0)
                              clear hva_ hvn_ hvc_ ge244_0 ul244_0
                              clear hcc244 hce244
                              have qi244 : (0 < (rd_L2 x5_1 x32_2).length) = True := eq_true (by omega)
                              (try rw [show ((0 : Int)).toNat = 0 from rfl] at hx244_0)
                              (try rw [Addr.add_zero'] at hx244_0)
                              have HR244_0 := Aside0.mk hi244_0
                              have HC244_0 := Aside0.mk hl244_0
                              clear hi244_0 hl244_0
                              replace p244 := eq_true p244
                              replace q244 := eq_true q244
                              obtain ⟨Ao29, co29, eo29⟩ := Kd.N_slice HO_8.out
                              (first | subst eo29 | (injection eo29 with f1_ f2_ f3_; have f4_ := f1_.symm; have f5_ := f3_.symm; clear f1_ f2_ f3_; subst f4_; subst f5_))
                              have p246 : 0 ≤ (0 : Int) := (by omega)
                              have q246 : 0 < (t240.length : Int) := of_decide_eq_true (by first | (with_reducible assumption) | assumption)
                              obtain ⟨ad246, A246_0, c246_0, e246, hx246_0, hl246_0, hi246_0⟩ := at_L1 (Kd.N_reads' HO_8.out).2.2 0 p246 q246
                              cases e246
                              obtain ⟨ce246, hce246, hMe246, hcc246⟩ := Kd.N_get HO_8.out [] 0 p246 (by first | exact q246 | exact of_decide_eq_true (by first | (with_reducible assumption) | assumption) | (have e_ := (Kd.N_reads' HO_8.out).1; omega))
                              obtain ⟨ua246_0, uc246_0, rfl, ul246_0, ge246_0⟩ := Kd.FK_slice_open hMe246
                              have hv246_0 := hcc246 0 _ rfl
                              rw [Nat.add_zero, show ((Kd.slice 3 (Kd.int .i64))).sz = 1 from rfl, Nat.mul_one] at hv246_0
                              replace hv246_0 := Option.some.inj (hv246_0.symm.trans hx246_0)
                              injection hv246_0 with hva_ hvn_ hvc_
                              rw [hva_] at ge246_0
                              rw [hvc_] at ul246_0
                              have HL246_0 := Aside0.mk (show Kd.V (Kd.int .i64) 3 _ w.heap.size _ _ (rd_L1 t240 0) from Kd.V_mk ul246_0 ge246_0)
                              clear hva_ hvn_ hvc_ ge246_0 ul246_0
                              clear hcc246 hce246
                              have qi246 : (0 < t240.length) = True := eq_true (by omega)
                              (try rw [show ((0 : Int)).toNat = 0 from rfl] at hx246_0)
                              (try rw [Addr.add_zero'] at hx246_0)
                              have HR246_0 := Aside0.mk hi246_0
                              have HC246_0 := Aside0.mk hl246_0
                              clear hi246_0 hl246_0
                              replace p246 := eq_true p246
                              replace q246 := eq_true q246
                              refine start_ (n := 11) (S := fun w' => w'.cell? ad244 = some (.slice A244_0 (rd_L1 (rd_L2 x5_1 x32_2) 0).length c244_0) ∧ w'.cell? ad246 = some (.slice A246_0 (rd_L1 t240 0).length c246_0)) (ds := []) #[false, false, false, false, false, false, false, false, false, false, false] (by kernel_rfl) rfl rfl ⟨hx244_0, hx246_0⟩ (fun hHeld => ?_); refine with_tabW spec_gpCycles.tab11 spec_gpCycles.bits11 (fun HT_ HW_ => ?_)
                              generalize w27.drew = w28 at HO_5 HO_8 HO_18 HO_30 HL243_0 HR236_0 HR243_0 HB HL244_0 HL246_0 HR244_0 HR246_0 hx244_0 hx246_0 hHeld ⊢
                              refine pure_ (i := 0) (N := some 46) (v := ?_) (a' := ?_) #[true, false, false, false, false, false, false, false, false, false, false] rfl rfl (any_of HT_.out (by kernel_rfl)) (fun _ _ _ h => h) (Or.inl ⟨by rfl, ?_⟩) ?_ ?_
                              rotate_left
                              · intro w'
                                go_simp
                                with_reducible rfl
                              rotate_left
                              · simp only [Act.put, List.setIfInBounds_toArray, List.set_cons_zero, List.set_cons_succ, i64_w, i32_w]
                                rfl
                              refine pure_ (i := 1) (N := some 47) (v := ?_) (a' := ?_) #[true, true, false, false, false, false, false, false, false, false, false] rfl rfl (any_of HT_.out (by kernel_rfl)) (fun _ _ _ h => h) (Or.inl ⟨by rfl, ?_⟩) ?_ ?_
                              rotate_left
                              · intro w'
                                go_simp
                                with_reducible rfl
                              rotate_left
                              · simp only [Act.put, List.setIfInBounds_toArray, List.set_cons_zero, List.set_cons_succ, i64_w, i32_w]
                                rfl
                              refine pure_ (i := 3) (N := some 49) (v := ?_) (a' := ?_) #[true, true, false, true, false, false, false, false, false, false, false] rfl rfl (any_of HT_.out (by kernel_rfl)) (fun _ _ _ h => h) (Or.inl ⟨by rfl, ?_⟩) ?_ ?_
                              rotate_left
                              · intro w'
                                go_simp
                                with_reducible rfl
                              rotate_left
                              · simp only [Act.put, List.setIfInBounds_toArray, List.set_cons_zero, List.set_cons_succ, i64_w, i32_w]
                                rfl
                              refine pure_ (i := 5) (N := some 51) (v := ?_) (a' := ?_) #[true, true, false, true, false, true, false, false, false, false, false] rfl rfl (any_of HT_.out (by kernel_rfl)) (fun _ _ _ h => h) (Or.inl ⟨by rfl, ?_⟩) ?_ ?_
                              rotate_left
                              · intro w'
                                go_simp
                                with_reducible rfl
                              rotate_left
                              · simp only [Act.put, List.setIfInBounds_toArray, List.set_cons_zero, List.set_cons_succ, i64_w, i32_w]
                                rfl
                              refine pure_ (i := 6) (N := some 52) (v := ?_) (a' := ?_) #[true, true, false, true, false, true, true, false, false, false, false] rfl rfl (any_of HT_.out (by kernel_rfl)) (fun _ _ _ h => h) (Or.inl ⟨by rfl, ?_⟩) ?_ ?_
                              rotate_left
                              · intro w'
                                go_simp
                                with_reducible rfl
                              rotate_left
                              · simp only [Act.put, List.setIfInBounds_toArray, List.set_cons_zero, List.set_cons_succ, i64_w, i32_w]
                                rfl
                              refine pure_ (i := 8) (N := some 54) (v := ?_) (a' := ?_) #[true, true, false, true, false, true, true, false, true, false, false] rfl rfl (any_of HT_.out (by kernel_rfl)) (fun _ _ _ h => h) (Or.inl ⟨by rfl, ?_⟩) ?_ ?_
                              rotate_left
                              · intro w'
                                go_simp
                                with_reducible rfl
                              rotate_left
                              · simp only [Act.put, List.setIfInBounds_toArray, List.set_cons_zero, List.set_cons_succ, i64_w, i32_w]
                                rfl
                              refine take_ (i := 2) (N := some 48) (v := ?_) (a' := ?_) #[true, true, true, true, false, true, true, false, true, false, false] rfl rfl (take_ofW HT_.out HW_.out (by kernel_rfl)) (fun _ _ _ h => h) (Or.inl ⟨by rfl, ?_⟩) hHeld ?_ ?_
                              rotate_left
                              · rintro w' ⟨s0, s1⟩
                                go_simp
                                with_reducible rfl
                              rotate_left
                              · simp only [Act.put, List.setIfInBounds_toArray, List.set_cons_zero, List.set_cons_succ, i64_w, i32_w]
                                rfl
                              refine take_ (i := 7) (N := some 53) (v := ?_) (a' := ?_) #[true, true, true, true, false, true, true, true, true, false, false] rfl rfl (take_ofW HT_.out HW_.out (by kernel_rfl)) (fun _ _ _ h => h) (Or.inl ⟨by rfl, ?_⟩) hHeld ?_ ?_
                              rotate_left
                              · rintro w' ⟨s0, s1⟩
                                go_simp
                                with_reducible rfl
                              rotate_left
                              · simp only [Act.put, List.setIfInBounds_toArray, List.set_cons_zero, List.set_cons_succ, i64_w, i32_w]
                                rfl
                              refine one_ (i := 4) (N := some 50) #[true, true, true, true, true, true, true, true, true, false, false] rfl rfl (one_of HT_.out (by kernel_rfl)) (by decide) (fun K hK => ?_)
                              refine goes_ Try.func73 (by kernel_rfl) rfl #[.slice A244_0 (rd_L1 (rd_L2 x5_1 x32_2) 0).length c244_0, .int .i64 a1] (by rfl) rfl rfl (by (try simp only [List.map_toArray, List.map_cons, List.map_nil]); first | done | rfl | (simp only [List.length_drop, List.length_take]; rfl)) ?_
                              with_reducible refine (spec_gpValue.calls k2 _ _ (rd_L1 (rd_L2 x5_1 x32_2) 0) a1 t245 _ ?side1 ?side2 A20.out).mono ?_
                              (case side1 => repeat (first | exact (by repeat (first | (with_reducible exact HR244_0.out) | (with_reducible refine Kd.C_alloc ?_ _) | (with_reducible refine Kd.C_drewN ?_ _) | (with_reducible refine Kd.C_drew ?_) | exact HR244_0.out)) | (with_reducible refine Kd.C_alloc ?_ _) | (with_reducible refine Kd.C_drewN ?_ _) | (with_reducible refine Kd.C_drew ?_)))
                              (case side2 => exact HC244_0.out)
                              rintro e w' ⟨rfl, ⟨nd, rfl⟩⟩
                              refine ⟨_, rfl, ?_⟩
                              refine hK.out _ _ ⟨hHeld.1, hHeld.2⟩ (fun hHeld => ?_)
                              clear hK K
                              refine norm_ (a' := ?_) ?_ ?_
                              rotate_left
                              · show Act.put _ (some 50) _ = _
                                simp only [Act.put, List.setIfInBounds_toArray, List.set_cons_zero, List.set_cons_succ, i64_w, i32_w]
                                rfl
                              refine one_ (i := 9) (N := some 55) #[true, true, true, true, true, true, true, true, true, true, false] rfl rfl (one_of HT_.out (by kernel_rfl)) (by decide) (fun K hK => ?_)
                              refine goes_ Try.func73 (by kernel_rfl) rfl #[.slice A246_0 (rd_L1 t240 0).length c246_0, .int .i64 a1] (by rfl) rfl rfl (by (try simp only [List.map_toArray, List.map_cons, List.map_nil]); first | done | rfl | (simp only [List.length_drop, List.length_take]; rfl)) ?_
                              with_reducible refine (spec_gpValue.calls k2 _ _ (rd_L1 t240 0) a1 t247 _ ?side1 ?side2 A22.out).mono ?_
                              (case side1 => repeat (first | exact (by repeat (first | (with_reducible exact HR246_0.out) | (with_reducible refine Kd.C_alloc ?_ _) | (with_reducible refine Kd.C_drewN ?_ _) | (with_reducible refine Kd.C_drew ?_) | exact HR246_0.out)) | (with_reducible refine Kd.C_alloc ?_ _) | (with_reducible refine Kd.C_drewN ?_ _) | (with_reducible refine Kd.C_drew ?_)))
                              (case side2 => exact HC246_0.out)
                              rintro e w' ⟨rfl, ⟨nd, rfl⟩⟩
                              refine ⟨_, rfl, ?_⟩
                              refine hK.out _ _ ⟨hHeld.1, hHeld.2⟩ (fun hHeld => ?_)
                              clear hK K
                              refine norm_ (a' := ?_) ?_ ?_
                              rotate_left
                              · show Act.put _ (some 55) _ = _
                                simp only [Act.put, List.setIfInBounds_toArray, List.set_cons_zero, List.set_cons_succ, i64_w, i32_w]
                                rfl
                              refine pure_ (i := 10) (N := some 56) (v := ?_) (a' := ?_) #[true, true, true, true, true, true, true, true, true, true, true] rfl rfl (any_of HT_.out (by kernel_rfl)) (fun _ _ _ h => h) (Or.inl ⟨by rfl, ?_⟩) ?_ ?_
                              rotate_left
                              · intro w'
                                go_simp
                                with_reducible rfl
                              rotate_left
                              · simp only [Act.put, List.setIfInBounds_toArray, List.set_cons_zero, List.set_cons_succ, i64_w, i32_w]
                                rfl
                              refine done_ (done_of HT_.out (by kernel_rfl)) ?_
                              try go_wp2
                              go_roundg k2
                              case measure => have := HK1.out; have := HK2.out; omega
                              case rel => exact ⟨(x9_2), (true), (wrap64 (x32_2 + 1)), (by first | rfl | (simp; done) | (simp [*]; done)), (by first | rfl | (simp; done) | (simp [*]; done)), (by first | rfl | (simp; done) | (simp [*]; done)), H', ⟨by have := HK1.out; have := HK2.out; omega⟩, ⟨by (with_reducible repeat (first | apply Kd.N_alloc | apply Kd.N_drewN | apply Kd.N_drew)); first | exact HO_5.out | exact Kd.N_mono HO_5.out (fun k_ hk => by repeat' (first | exact hk.1 | exact hk.2.1 | exact hk.2.2.1 | exact hk.2.2.2 | exact hk.2.2 | constructor))⟩, ⟨by (with_reducible repeat (first | apply Kd.N_alloc | apply Kd.N_drewN | apply Kd.N_drew)); first | exact HO_8.out | exact Kd.N_mono HO_8.out (fun k_ hk => by repeat' (first | exact hk.1 | exact hk.2.1 | exact hk.2.2.1 | exact hk.2.2.2 | exact hk.2.2 | constructor))⟩, ⟨by (with_reducible repeat (first | apply Kd.N_alloc | apply Kd.N_drewN | apply Kd.N_drew)); first | exact HO_18.out | exact Kd.N_mono HO_18.out (fun k_ hk => by repeat' (first | exact hk.1 | exact hk.2.1 | exact hk.2.2.1 | exact hk.2.2.2 | exact hk.2.2 | constructor))⟩, ⟨by (with_reducible repeat (first | apply Kd.N_alloc | apply Kd.N_drewN | apply Kd.N_drew)); first | exact HO_30.out | exact Kd.N_mono HO_30.out (fun k_ hk => by repeat' (first | exact hk.1 | exact hk.2.1 | exact hk.2.2.1 | exact hk.2.2.2 | exact hk.2.2 | constructor))⟩, ⟨by repeat (first | (with_reducible exact HR236_0.out) | (with_reducible refine Kd.C_alloc ?_ _) | (with_reducible refine Kd.C_drewN ?_ _) | (with_reducible refine Kd.C_drew ?_) | exact HR236_0.out)⟩, ⟨by repeat (first | (with_reducible first | exact HB.out | apply below_alloc | apply pw_below_drewN | apply below_drew1) | exact HB.out)⟩⟩
                          · rw [if_neg c21] at H
                            exact absurd H (by simp)
                        · rw [if_neg c19] at H
                          exact absurd H (by simp)
                      · replace c18 := Bool.eq_false_iff.mpr c18
                        subst c18
                        have H1 : (if 0 < ((rd_L2 x5_1 x32_2).length : Int) then (if 0 < (t240.length : Int) then ((spec_l1Same.f k2 (rd_L1 (rd_L2 x5_1 x32_2) 0) (rd_L1 t240 0)).bind fun t250 => ((spec_gpValue.f k2 (rd_L1 (rd_L2 x5_1 x32_2) 0) a1).bind fun t252 => ((spec_gpValue.f k2 (rd_L1 t240 0) a1).bind fun t254 => (if t252 < t254 then (spec_gpCycles.l1 k2 a0 a1 x5_1 t240 (wrap64 (x9_2 + 1)) t250 t233 (t233.length : Int) x20_1 x5_1 (x5_1.length : Int) (wrap64 (x32_2 + 1))) else (spec_gpCycles.l1 k2 a0 a1 x5_1 t240 x9_2 t250 t233 (t233.length : Int) x20_1 x5_1 (x5_1.length : Int) (wrap64 (x32_2 + 1))))))) else (none)) else (none)) = some r := by rw [if_neg (show ¬ (false = true) by decide)] at H; exact H
                        clear H
                        have H := H1
                        clear H1
                        by_cases c30 : 0 < ((rd_L2 x5_1 x32_2).length : Int)
                        · rw [if_pos c30] at H
                          have c30b0 : decide (0 < ((rd_L2 x5_1 x32_2).length : Int)) = true := decide_eq_true c30
                          have c30b1 : decide (0 < (rd_L2 x5_1 x32_2).length) = true := decide_eq_true (by omega)
                          clear c30
                          by_cases c31 : 0 < (t240.length : Int)
                          · rw [if_pos c31] at H
                            have c31b0 : decide (0 < (t240.length : Int)) = true := decide_eq_true c31
                            have c31b1 : decide (0 < t240.length) = true := decide_eq_true (by omega)
                            clear c31
                            replace H := Option.bind_eq_some_iff.mp H
                            obtain ⟨t250, A320, H⟩ := H
                            replace H : ((spec_gpValue.f k2 (rd_L1 (rd_L2 x5_1 x32_2) 0) a1).bind fun t252 => ((spec_gpValue.f k2 (rd_L1 t240 0) a1).bind fun t254 => (if t252 < t254 then (spec_gpCycles.l1 k2 a0 a1 x5_1 t240 (wrap64 (x9_2 + 1)) t250 t233 (t233.length : Int) x20_1 x5_1 (x5_1.length : Int) (wrap64 (x32_2 + 1))) else (spec_gpCycles.l1 k2 a0 a1 x5_1 t240 x9_2 t250 t233 (t233.length : Int) x20_1 x5_1 (x5_1.length : Int) (wrap64 (x32_2 + 1)))))) = some r := H
                            have A32 := Aside0.mk A320
                            clear A320
                            replace H := Option.bind_eq_some_iff.mp H
                            obtain ⟨t252, A330, H⟩ := H
                            replace H : ((spec_gpValue.f k2 (rd_L1 t240 0) a1).bind fun t254 => (if t252 < t254 then (spec_gpCycles.l1 k2 a0 a1 x5_1 t240 (wrap64 (x9_2 + 1)) t250 t233 (t233.length : Int) x20_1 x5_1 (x5_1.length : Int) (wrap64 (x32_2 + 1))) else (spec_gpCycles.l1 k2 a0 a1 x5_1 t240 x9_2 t250 t233 (t233.length : Int) x20_1 x5_1 (x5_1.length : Int) (wrap64 (x32_2 + 1))))) = some r := H
                            have A33 := Aside0.mk A330
                            clear A330
                            replace H := Option.bind_eq_some_iff.mp H
                            obtain ⟨t254, A340, H⟩ := H
                            replace H : (if t252 < t254 then (spec_gpCycles.l1 k2 a0 a1 x5_1 t240 (wrap64 (x9_2 + 1)) t250 t233 (t233.length : Int) x20_1 x5_1 (x5_1.length : Int) (wrap64 (x32_2 + 1))) else (spec_gpCycles.l1 k2 a0 a1 x5_1 t240 x9_2 t250 t233 (t233.length : Int) x20_1 x5_1 (x5_1.length : Int) (wrap64 (x32_2 + 1)))) = some r := H
                            have A34 := Aside0.mk A340
                            clear A340
                            by_cases c35 : t252 < t254
                            · rw [if_pos c35] at H
                              have c35b0 : decide (t252 < t254) = true := decide_eq_true c35
                              clear c35
                              have H' := Aside0.mk H
                              clear H
                              have p243 : 0 ≤ (x32_2 : Int) := of_decide_eq_true (by first | (with_reducible assumption) | assumption)
                              have q243 : x32_2 < (x5_1.length : Int) := of_decide_eq_true (by first | (with_reducible assumption) | assumption)
                              obtain ⟨ad243, A243_0, c243_0, e243, hx243_0, hl243_0, hi243_0⟩ := at_L2 (Kd.N_reads' HO_30.out).2.2 x32_2 p243 q243
                              cases e243
                              obtain ⟨ce243, hce243, hMe243, hcc243⟩ := Kd.N_get HO_30.out [] x32_2 p243 (by first | exact q243 | exact of_decide_eq_true (by first | (with_reducible assumption) | assumption) | (have e_ := (Kd.N_reads' HO_30.out).1; omega))
                              obtain ⟨ua243_0, uc243_0, rfl, ul243_0, ge243_0⟩ := Kd.FK_slice_open hMe243
                              have hv243_0 := hcc243 0 _ rfl
                              rw [Nat.add_zero, show ((Kd.slice 22 (Kd.slice 3 (Kd.int .i64)))).sz = 1 from rfl, Nat.mul_one] at hv243_0
                              replace hv243_0 := Option.some.inj (hv243_0.symm.trans hx243_0)
                              injection hv243_0 with hva_ hvn_ hvc_
                              rw [hva_] at ge243_0
                              rw [hvc_] at ul243_0
                              have HL243_0 := Aside0.mk (show Kd.V (Kd.slice 3 (Kd.int .i64)) 22 _ w.heap.size _ _ (rd_L2 x5_1 x32_2) from Kd.V_mk ul243_0 ge243_0)
                              clear hva_ hvn_ hvc_ ge243_0 ul243_0
                              clear hcc243 hce243
                              have HR243_0 := Aside0.mk hi243_0
                              have HC243_0 := Aside0.mk hl243_0
                              clear hi243_0 hl243_0
                              replace p243 := eq_true p243
                              replace q243 := eq_true q243
                              try go_wp2
                              have n0_ := Aside0.mk (Kd.N_drew HO_5.out)
                              have n1_ := Aside0.mk (Kd.N_drew HO_8.out)
                              have n2_ := Aside0.mk (Kd.N_drew HO_18.out)
                              have n3_ := Aside0.mk (Kd.N_drew HO_30.out)
                              have n4_ := Aside0.mk (Kd.V_drew HL243_0.out)
                              have n5_ := Aside0.mk (Kd.C_drew HR236_0.out)
                              have n6_ := Aside0.mk (Kd.C_drew HR243_0.out)
                              have n7_ := Aside0.mk (below_drew1 HB.out)
                              clear HO_5
                              clear HO_8
                              clear HO_18
                              clear HO_30
                              clear HL243_0
                              clear HR236_0
                              clear HR243_0
                              clear HB
                              have HO_5 := n0_
                              have HO_8 := n1_
                              have HO_18 := n2_
                              have HO_30 := n3_
                              have HL243_0 := n4_
                              have HR236_0 := n5_
                              have HR243_0 := n6_
                              have HB := n7_
                              clear n0_ n1_ n2_ n3_ n4_ n5_ n6_ n7_
                              have p248 : 0 ≤ (0 : Int) := (by omega)
                              have q248 : 0 < ((rd_L2 x5_1 x32_2).length : Int) := of_decide_eq_true (by first | (with_reducible assumption) | assumption)
                              obtain ⟨ad248, A248_0, c248_0, e248, hx248_0, hl248_0, hi248_0⟩ := at_L1 (by repeat (first | (with_reducible exact HR243_0.out) | (with_reducible refine Kd.C_alloc ?_ _) | (with_reducible refine Kd.C_drewN ?_ _) | (with_reducible refine Kd.C_drew ?_) | exact HR243_0.out)) 0 p248 q248
                              cases e248
                              obtain ⟨ce248, hce248, hMe248, hcc248⟩ := Kd.V_get HL243_0.out [] 0 p248 (by first | exact q248 | exact of_decide_eq_true (by first | (with_reducible assumption) | assumption) | (have e_ := (Kd.V_reads' HL243_0.out).1; omega))
                              obtain ⟨ua248_0, uc248_0, rfl, ul248_0, ge248_0⟩ := Kd.FK_slice_open hMe248
                              have hv248_0 := hcc248 0 _ rfl
                              rw [Nat.add_zero, show ((Kd.slice 3 (Kd.int .i64))).sz = 1 from rfl, Nat.mul_one] at hv248_0
                              replace hv248_0 := Option.some.inj (hv248_0.symm.trans hx248_0)
                              injection hv248_0 with hva_ hvn_ hvc_
                              rw [hva_] at ge248_0
                              rw [hvc_] at ul248_0
                              have HL248_0 := Aside0.mk (show Kd.V (Kd.int .i64) 3 _ w.heap.size _ _ (rd_L1 (rd_L2 x5_1 x32_2) 0) from Kd.V_mk ul248_0 ge248_0)
                              clear hva_ hvn_ hvc_ ge248_0 ul248_0
                              clear hcc248 hce248
                              have qi248 : (0 < (rd_L2 x5_1 x32_2).length) = True := eq_true (by omega)
                              (try rw [show ((0 : Int)).toNat = 0 from rfl] at hx248_0)
                              (try rw [Addr.add_zero'] at hx248_0)
                              have HR248_0 := Aside0.mk hi248_0
                              have HC248_0 := Aside0.mk hl248_0
                              clear hi248_0 hl248_0
                              replace p248 := eq_true p248
                              replace q248 := eq_true q248
                              obtain ⟨Ao37, co37, eo37⟩ := Kd.N_slice HO_8.out
                              (first | subst eo37 | (injection eo37 with f1_ f2_ f3_; have f4_ := f1_.symm; have f5_ := f3_.symm; clear f1_ f2_ f3_; subst f4_; subst f5_))
                              have p249 : 0 ≤ (0 : Int) := (by omega)
                              have q249 : 0 < (t240.length : Int) := of_decide_eq_true (by first | (with_reducible assumption) | assumption)
                              obtain ⟨ad249, A249_0, c249_0, e249, hx249_0, hl249_0, hi249_0⟩ := at_L1 (Kd.N_reads' HO_8.out).2.2 0 p249 q249
                              cases e249
                              obtain ⟨ce249, hce249, hMe249, hcc249⟩ := Kd.N_get HO_8.out [] 0 p249 (by first | exact q249 | exact of_decide_eq_true (by first | (with_reducible assumption) | assumption) | (have e_ := (Kd.N_reads' HO_8.out).1; omega))
                              obtain ⟨ua249_0, uc249_0, rfl, ul249_0, ge249_0⟩ := Kd.FK_slice_open hMe249
                              have hv249_0 := hcc249 0 _ rfl
                              rw [Nat.add_zero, show ((Kd.slice 3 (Kd.int .i64))).sz = 1 from rfl, Nat.mul_one] at hv249_0
                              replace hv249_0 := Option.some.inj (hv249_0.symm.trans hx249_0)
                              injection hv249_0 with hva_ hvn_ hvc_
                              rw [hva_] at ge249_0
                              rw [hvc_] at ul249_0
                              have HL249_0 := Aside0.mk (show Kd.V (Kd.int .i64) 3 _ w.heap.size _ _ (rd_L1 t240 0) from Kd.V_mk ul249_0 ge249_0)
                              clear hva_ hvn_ hvc_ ge249_0 ul249_0
                              clear hcc249 hce249
                              have qi249 : (0 < t240.length) = True := eq_true (by omega)
                              (try rw [show ((0 : Int)).toNat = 0 from rfl] at hx249_0)
                              (try rw [Addr.add_zero'] at hx249_0)
                              have HR249_0 := Aside0.mk hi249_0
                              have HC249_0 := Aside0.mk hl249_0
                              clear hi249_0 hl249_0
                              replace p249 := eq_true p249
                              replace q249 := eq_true q249
                              refine start_ (n := 11) (S := fun w' => w'.cell? ad248 = some (.slice A248_0 (rd_L1 (rd_L2 x5_1 x32_2) 0).length c248_0) ∧ w'.cell? ad249 = some (.slice A249_0 (rd_L1 t240 0).length c249_0)) (ds := []) #[false, false, false, false, false, false, false, false, false, false, false] (by kernel_rfl) rfl rfl ⟨hx248_0, hx249_0⟩ (fun hHeld => ?_); refine with_tabW spec_gpCycles.tab10 spec_gpCycles.bits10 (fun HT_ HW_ => ?_)
                              generalize wr.drew = w36 at HO_5 HO_8 HO_18 HO_30 HL243_0 HR236_0 HR243_0 HB HL248_0 HL249_0 HR248_0 HR249_0 hx248_0 hx249_0 hHeld ⊢
                              refine pure_ (i := 0) (N := some 36) (v := ?_) (a' := ?_) #[true, false, false, false, false, false, false, false, false, false, false] rfl rfl (any_of HT_.out (by kernel_rfl)) (fun _ _ _ h => h) (Or.inl ⟨by rfl, ?_⟩) ?_ ?_
                              rotate_left
                              · intro w'
                                go_simp
                                with_reducible rfl
                              rotate_left
                              · simp only [Act.put, List.setIfInBounds_toArray, List.set_cons_zero, List.set_cons_succ, i64_w, i32_w]
                                rfl
                              refine pure_ (i := 1) (N := some 37) (v := ?_) (a' := ?_) #[true, true, false, false, false, false, false, false, false, false, false] rfl rfl (any_of HT_.out (by kernel_rfl)) (fun _ _ _ h => h) (Or.inl ⟨by rfl, ?_⟩) ?_ ?_
                              rotate_left
                              · intro w'
                                go_simp
                                with_reducible rfl
                              rotate_left
                              · simp only [Act.put, List.setIfInBounds_toArray, List.set_cons_zero, List.set_cons_succ, i64_w, i32_w]
                                rfl
                              refine pure_ (i := 2) (N := some 38) (v := ?_) (a' := ?_) #[true, true, true, false, false, false, false, false, false, false, false] rfl rfl (any_of HT_.out (by kernel_rfl)) (fun _ _ _ h => h) (Or.inl ⟨by rfl, ?_⟩) ?_ ?_
                              rotate_left
                              · intro w'
                                go_simp
                                with_reducible rfl
                              rotate_left
                              · simp only [Act.put, List.setIfInBounds_toArray, List.set_cons_zero, List.set_cons_succ, i64_w, i32_w]
                                rfl
                              refine pure_ (i := 3) (N := some 39) (v := ?_) (a' := ?_) #[true, true, true, true, false, false, false, false, false, false, false] rfl rfl (any_of HT_.out (by kernel_rfl)) (fun _ _ _ h => h) (Or.inl ⟨by rfl, ?_⟩) ?_ ?_
                              rotate_left
                              · intro w'
                                go_simp
                                with_reducible rfl
                              rotate_left
                              · simp only [Act.put, List.setIfInBounds_toArray, List.set_cons_zero, List.set_cons_succ, i64_w, i32_w]
                                rfl
                              refine pure_ (i := 5) (N := some 41) (v := ?_) (a' := ?_) #[true, true, true, true, false, true, false, false, false, false, false] rfl rfl (any_of HT_.out (by kernel_rfl)) (fun _ _ _ h => h) (Or.inl ⟨by rfl, ?_⟩) ?_ ?_
                              rotate_left
                              · intro w'
                                go_simp
                                with_reducible rfl
                              rotate_left
                              · simp only [Act.put, List.setIfInBounds_toArray, List.set_cons_zero, List.set_cons_succ, i64_w, i32_w]
                                rfl
                              refine pure_ (i := 6) (N := some 42) (v := ?_) (a' := ?_) #[true, true, true, true, false, true, true, false, false, false, false] rfl rfl (any_of HT_.out (by kernel_rfl)) (fun _ _ _ h => h) (Or.inl ⟨by rfl, ?_⟩) ?_ ?_
                              rotate_left
                              · intro w'
                                go_simp
                                with_reducible rfl
                              rotate_left
                              · simp only [Act.put, List.setIfInBounds_toArray, List.set_cons_zero, List.set_cons_succ, i64_w, i32_w]
                                rfl
                              refine take_ (i := 4) (N := some 40) (v := ?_) (a' := ?_) #[true, true, true, true, true, true, true, false, false, false, false] rfl rfl (take_ofW HT_.out HW_.out (by kernel_rfl)) (fun _ _ _ h => h) (Or.inl ⟨by rfl, ?_⟩) hHeld ?_ ?_
                              rotate_left
                              · rintro w' ⟨s0, s1⟩
                                go_simp
                                with_reducible rfl
                              rotate_left
                              · simp only [Act.put, List.setIfInBounds_toArray, List.set_cons_zero, List.set_cons_succ, i64_w, i32_w]
                                rfl
                              refine take_ (i := 7) (N := some 43) (v := ?_) (a' := ?_) #[true, true, true, true, true, true, true, true, false, false, false] rfl rfl (take_ofW HT_.out HW_.out (by kernel_rfl)) (fun _ _ _ h => h) (Or.inl ⟨by rfl, ?_⟩) hHeld ?_ ?_
                              rotate_left
                              · rintro w' ⟨s0, s1⟩
                                go_simp
                                with_reducible rfl
                              rotate_left
                              · simp only [Act.put, List.setIfInBounds_toArray, List.set_cons_zero, List.set_cons_succ, i64_w, i32_w]
                                rfl
                              refine one_ (i := 8) (N := some 44) #[true, true, true, true, true, true, true, true, true, false, false] rfl rfl (one_of HT_.out (by kernel_rfl)) (by decide) (fun K hK => ?_)
                              refine goes_ Try.func63 (by kernel_rfl) rfl #[.slice A248_0 (rd_L1 (rd_L2 x5_1 x32_2) 0).length c248_0, .slice A249_0 (rd_L1 t240 0).length c249_0] (by rfl) rfl rfl (by (try simp only [List.map_toArray, List.map_cons, List.map_nil]); first | done | rfl | (simp only [List.length_drop, List.length_take]; rfl)) ?_
                              with_reducible refine (spec_l1Same.calls k2 _ _ (rd_L1 (rd_L2 x5_1 x32_2) 0) _ _ (rd_L1 t240 0) t250 _ ?side1 ?side2 ?side3 ?side4 A32.out).mono ?_
                              (case side1 => repeat (first | exact (by repeat (first | (with_reducible exact HR248_0.out) | (with_reducible refine Kd.C_alloc ?_ _) | (with_reducible refine Kd.C_drewN ?_ _) | (with_reducible refine Kd.C_drew ?_) | exact HR248_0.out)) | (with_reducible refine Kd.C_alloc ?_ _) | (with_reducible refine Kd.C_drewN ?_ _) | (with_reducible refine Kd.C_drew ?_)))
                              (case side2 => exact HC248_0.out)
                              (case side3 => repeat (first | exact (by repeat (first | (with_reducible exact HR249_0.out) | (with_reducible refine Kd.C_alloc ?_ _) | (with_reducible refine Kd.C_drewN ?_ _) | (with_reducible refine Kd.C_drew ?_) | exact HR249_0.out)) | (with_reducible refine Kd.C_alloc ?_ _) | (with_reducible refine Kd.C_drewN ?_ _) | (with_reducible refine Kd.C_drew ?_)))
                              (case side4 => exact HC249_0.out)
                              rintro e w' ⟨rfl, ⟨nd, rfl⟩⟩
                              refine ⟨_, rfl, ?_⟩
                              refine hK.out _ _ ⟨hHeld.1, hHeld.2⟩ (fun hHeld => ?_)
                              clear hK K
                              refine norm_ (a' := ?_) ?_ ?_
                              rotate_left
                              · show Act.put _ (some 44) _ = _
                                simp only [Act.put, List.setIfInBounds_toArray, List.set_cons_zero, List.set_cons_succ, i64_w, i32_w]
                                rfl
                              refine pure_ (i := 9) (N := some 45) (v := ?_) (a' := ?_) #[true, true, true, true, true, true, true, true, true, true, false] rfl rfl (any_of HT_.out (by kernel_rfl)) (fun _ _ _ h => h) (Or.inl ⟨by rfl, ?_⟩) ?_ ?_
                              rotate_left
                              · intro w'
                                go_simp
                                with_reducible rfl
                              rotate_left
                              · simp only [Act.put, List.setIfInBounds_toArray, List.set_cons_zero, List.set_cons_succ, i64_w, i32_w]
                                rfl
                              refine pure_ (i := 10) (N := some 10) (v := ?_) (a' := ?_) #[true, true, true, true, true, true, true, true, true, true, true] rfl rfl (any_of HT_.out (by kernel_rfl)) (fun _ _ _ h => h) (Or.inl ⟨by rfl, ?_⟩) ?_ ?_
                              rotate_left
                              · intro w'
                                go_simp
                                with_reducible rfl
                              rotate_left
                              · simp only [Act.put, List.setIfInBounds_toArray, List.set_cons_zero, List.set_cons_succ, i64_w, i32_w]
                                rfl
                              refine done_ (done_of HT_.out (by kernel_rfl)) ?_
                              try go_wp2
                              (try (rw [drewN_self w36]; generalize hq_ : World.drewN w36 _ = w36; have n0_ : Aside0 (Kd.V (Kd.slice 3 (Kd.int .i64)) 22 w36 w.heap.size (fun k_ => (w.heap.size ≤ k_) ∧ some k_ ≠ (.slice (some ad236) t233.length co5 : Value).ownBlock ∧ some k_ ≠ (.slice (some ad243) x5_1.length co14 : Value).ownBlock ∧ some k_ ≠ (.slice (some ad249) t240.length co37 : Value).ownBlock) (.slice (some ad248) (rd_L2 x5_1 x32_2).length c243_0) (rd_L2 x5_1 x32_2)) := ⟨by rw [← hq_]; exact (by (with_reducible repeat (first | apply Kd.V_alloc | apply Kd.V_drewN | apply Kd.V_drew)); exact Kd.V_mono HL243_0.out (fun _ hk => ⟨hk.1.1, ⟨hk.1.2.2, ⟨hk.2, hk.1.2.1⟩⟩⟩))⟩; have n1_ : Aside0 (Kd.V (Kd.int .i64) 3 w36 w.heap.size (fun k_ => (w.heap.size ≤ k_) ∧ some k_ ≠ (.slice (some ad236) t233.length co5 : Value).ownBlock ∧ some k_ ≠ (.slice (some ad243) x5_1.length co14 : Value).ownBlock ∧ some k_ ≠ (.slice (some ad249) t240.length co37 : Value).ownBlock) (.slice A248_0 (rd_L1 (rd_L2 x5_1 x32_2) 0).length c248_0) (rd_L1 (rd_L2 x5_1 x32_2) 0)) := ⟨by rw [← hq_]; exact (by (with_reducible repeat (first | apply Kd.V_alloc | apply Kd.V_drewN | apply Kd.V_drew)); exact Kd.V_mono HL248_0.out (fun _ hk => ⟨hk.1.1, ⟨hk.1.2.2, ⟨hk.2, hk.1.2.1⟩⟩⟩))⟩; have n2_ : Aside0 (Kd.V (Kd.int .i64) 3 w36 w.heap.size (fun k_ => (w.heap.size ≤ k_) ∧ some k_ ≠ (.slice (some ad236) t233.length co5 : Value).ownBlock ∧ some k_ ≠ (.slice (some ad243) x5_1.length co14 : Value).ownBlock ∧ some k_ ≠ (.slice (some ad243) x5_1.length co14 : Value).ownBlock ∧ some k_ ≠ (.slice (some ad249) t240.length co37 : Value).ownBlock) (.slice A249_0 (rd_L1 t240 0).length c249_0) (rd_L1 t240 0)) := ⟨by rw [← hq_]; exact (by (with_reducible repeat (first | apply Kd.V_alloc | apply Kd.V_drewN | apply Kd.V_drew)); exact Kd.V_mono HL249_0.out (fun _ hk => ⟨hk.1.1, ⟨hk.1.2.2.1, ⟨hk.1.2.2.2, ⟨hk.1.2.1, hk.2⟩⟩⟩⟩))⟩; have n3_ : Aside0 (Kd.N (Kd.slice 3 (Kd.int .i64)) 22 w36 w.heap.size (fun k_ => (w.heap.size ≤ k_) ∧ some k_ ≠ (.slice (some ad243) x5_1.length co14 : Value).ownBlock ∧ some k_ ≠ (.slice (some ad243) x5_1.length co14 : Value).ownBlock ∧ some k_ ≠ (.slice (some ad249) t240.length co37 : Value).ownBlock) (.slice (some ad236) t233.length co5) t233) := ⟨by rw [← hq_]; exact (by (with_reducible repeat (first | apply Kd.N_alloc | apply Kd.N_drewN | apply Kd.N_drew)); exact Kd.N_mono HO_18.out (fun _ hk => ⟨hk.1, ⟨hk.2.2.2, ⟨hk.2.1, hk.2.2.1⟩⟩⟩))⟩; have n4_ : Aside0 (Kd.N (Kd.slice 22 (Kd.slice 3 (Kd.int .i64))) 31 w36 w.heap.size (fun k_ => (w.heap.size ≤ k_) ∧ some k_ ≠ (.slice (some ad236) t233.length co5 : Value).ownBlock ∧ some k_ ≠ (.slice (some ad249) t240.length co37 : Value).ownBlock) (.slice (some ad243) x5_1.length co14) x5_1) := ⟨by rw [← hq_]; exact (by (with_reducible repeat (first | apply Kd.N_alloc | apply Kd.N_drewN | apply Kd.N_drew)); exact Kd.N_mono HO_30.out (fun _ hk => ⟨hk.1, ⟨hk.2.2, hk.2.1⟩⟩))⟩; have n5_ : Aside0 (Kd.N (Kd.slice 22 (Kd.slice 3 (Kd.int .i64))) 31 w36 w.heap.size (fun k_ => (w.heap.size ≤ k_) ∧ some k_ ≠ (.slice (some ad236) t233.length co5 : Value).ownBlock ∧ some k_ ≠ (.slice (some ad249) t240.length co37 : Value).ownBlock) (.slice (some ad243) x5_1.length co14) x5_1) := ⟨by rw [← hq_]; exact (by (with_reducible repeat (first | apply Kd.N_alloc | apply Kd.N_drewN | apply Kd.N_drew)); exact Kd.N_mono HO_5.out (fun _ hk => ⟨hk.1, ⟨hk.2.2, hk.2.1⟩⟩))⟩; have n6_ : Aside0 (Kd.N (Kd.slice 3 (Kd.int .i64)) 22 w36 w.heap.size (fun k_ => (w.heap.size ≤ k_) ∧ some k_ ≠ (.slice (some ad236) t233.length co5 : Value).ownBlock ∧ some k_ ≠ (.slice (some ad243) x5_1.length co14 : Value).ownBlock ∧ some k_ ≠ (.slice (some ad243) x5_1.length co14 : Value).ownBlock) (.slice (some ad249) t240.length co37) t240) := ⟨by rw [← hq_]; exact (by (with_reducible repeat (first | apply Kd.N_alloc | apply Kd.N_drewN | apply Kd.N_drew)); exact Kd.N_mono HO_8.out (fun _ hk => ⟨hk.1, ⟨hk.2.2.1, ⟨hk.2.2.2, hk.2.1⟩⟩⟩))⟩; have n7_ : Aside0 (Below w.heap.size w w36) := ⟨by rw [← hq_]; exact (by repeat (first | (with_reducible first | exact HB.out | apply below_alloc | apply pw_below_drewN | apply below_drew1) | exact HB.out))⟩; have n8_ : Aside0 (Kd.C (Kd.int .i64) w36 A236_0 (rd_L1 t233 x20_1).length (rd_L1 t233 x20_1)) := ⟨by rw [← hq_]; exact (by repeat (first | (with_reducible exact HR236_0.out) | (with_reducible refine Kd.C_alloc ?_ _) | (with_reducible refine Kd.C_drewN ?_ _) | (with_reducible refine Kd.C_drew ?_) | exact HR236_0.out))⟩; have n9_ : Aside0 (Kd.C (Kd.slice 3 (Kd.int .i64)) w36 (some ad248) (rd_L2 x5_1 x32_2).length (rd_L2 x5_1 x32_2)) := ⟨by rw [← hq_]; exact (by repeat (first | (with_reducible exact HR243_0.out) | (with_reducible refine Kd.C_alloc ?_ _) | (with_reducible refine Kd.C_drewN ?_ _) | (with_reducible refine Kd.C_drew ?_) | exact HR243_0.out))⟩; have n10_ : Aside0 (Kd.C (Kd.int .i64) w36 A248_0 (rd_L1 (rd_L2 x5_1 x32_2) 0).length (rd_L1 (rd_L2 x5_1 x32_2) 0)) := ⟨by rw [← hq_]; exact (by repeat (first | (with_reducible exact HR248_0.out) | (with_reducible refine Kd.C_alloc ?_ _) | (with_reducible refine Kd.C_drewN ?_ _) | (with_reducible refine Kd.C_drew ?_) | exact HR248_0.out))⟩; have n11_ : Aside0 (Kd.C (Kd.int .i64) w36 A249_0 (rd_L1 t240 0).length (rd_L1 t240 0)) := ⟨by rw [← hq_]; exact (by repeat (first | (with_reducible exact HR249_0.out) | (with_reducible refine Kd.C_alloc ?_ _) | (with_reducible refine Kd.C_drewN ?_ _) | (with_reducible refine Kd.C_drew ?_) | exact HR249_0.out))⟩; clear HL243_0 HL248_0 HL249_0 HO_18 HO_30 HO_5 HO_8 HB HR236_0 HR243_0 HR248_0 HR249_0 hq_; have HL243_0 := n0_; have HL248_0 := n1_; have HL249_0 := n2_; have HO_18 := n3_; have HO_30 := n4_; have HO_5 := n5_; have HO_8 := n6_; have HB := n7_; have HR236_0 := n8_; have HR243_0 := n9_; have HR248_0 := n10_; have HR249_0 := n11_; clear n0_ n1_ n2_ n3_ n4_ n5_ n6_ n7_ n8_ n9_ n10_ n11_))
                              have n0_ := Aside0.mk (Kd.N_drew HO_5.out)
                              have n1_ := Aside0.mk (Kd.N_drew HO_8.out)
                              have n2_ := Aside0.mk (Kd.N_drew HO_18.out)
                              have n3_ := Aside0.mk (Kd.N_drew HO_30.out)
                              have n4_ := Aside0.mk (Kd.V_drew HL243_0.out)
                              have n5_ := Aside0.mk (Kd.V_drew HL248_0.out)
                              have n6_ := Aside0.mk (Kd.V_drew HL249_0.out)
                              have n7_ := Aside0.mk (Kd.C_drew HR236_0.out)
                              have n8_ := Aside0.mk (Kd.C_drew HR243_0.out)
                              have n9_ := Aside0.mk (Kd.C_drew HR248_0.out)
                              have n10_ := Aside0.mk (Kd.C_drew HR249_0.out)
                              have n11_ := Aside0.mk (below_drew1 HB.out)
                              clear HO_5
                              clear HO_8
                              clear HO_18
                              clear HO_30
                              clear HL243_0
                              clear HL248_0
                              clear HL249_0
                              clear HR236_0
                              clear HR243_0
                              clear HR248_0
                              clear HR249_0
                              clear HB
                              have HO_5 := n0_
                              have HO_8 := n1_
                              have HO_18 := n2_
                              have HO_30 := n3_
                              have HL243_0 := n4_
                              have HL248_0 := n5_
                              have HL249_0 := n6_
                              have HR236_0 := n7_
                              have HR243_0 := n8_
                              have HR248_0 := n9_
                              have HR249_0 := n10_
                              have HB := n11_
                              clear n0_ n1_ n2_ n3_ n4_ n5_ n6_ n7_ n8_ n9_ n10_ n11_
                              have p251 : 0 ≤ (0 : Int) := (by omega)
                              have q251 : 0 < ((rd_L2 x5_1 x32_2).length : Int) := of_decide_eq_true (by first | (with_reducible assumption) | assumption)
                              obtain ⟨ad251, A251_0, c251_0, e251, hx251_0, hl251_0, hi251_0⟩ := at_L1 (by repeat (first | (with_reducible exact HR243_0.out) | (with_reducible refine Kd.C_alloc ?_ _) | (with_reducible refine Kd.C_drewN ?_ _) | (with_reducible refine Kd.C_drew ?_) | exact HR243_0.out)) 0 p251 q251
                              obtain rfl : ad248 = ad251 := (by injection e251)
                              obtain ⟨ce251, hce251, hMe251, hcc251⟩ := Kd.V_get HL243_0.out [] 0 p251 (by first | exact q251 | exact of_decide_eq_true (by first | (with_reducible assumption) | assumption) | (have e_ := (Kd.V_reads' HL243_0.out).1; omega))
                              obtain ⟨ua251_0, uc251_0, rfl, ul251_0, ge251_0⟩ := Kd.FK_slice_open hMe251
                              have hv251_0 := hcc251 0 _ rfl
                              rw [Nat.add_zero, show ((Kd.slice 3 (Kd.int .i64))).sz = 1 from rfl, Nat.mul_one] at hv251_0
                              replace hv251_0 := Option.some.inj (hv251_0.symm.trans hx251_0)
                              injection hv251_0 with hva_ hvn_ hvc_
                              rw [hva_] at ge251_0
                              rw [hvc_] at ul251_0
                              have HL251_0 := Aside0.mk (show Kd.V (Kd.int .i64) 3 _ w.heap.size _ _ (rd_L1 (rd_L2 x5_1 x32_2) 0) from Kd.V_mk ul251_0 ge251_0)
                              clear hva_ hvn_ hvc_ ge251_0 ul251_0
                              clear hcc251 hce251
                              have qi251 : (0 < (rd_L2 x5_1 x32_2).length) = True := eq_true (by omega)
                              (try rw [show ((0 : Int)).toNat = 0 from rfl] at hx251_0)
                              (try rw [Addr.add_zero'] at hx251_0)
                              have HR251_0 := Aside0.mk hi251_0
                              have HC251_0 := Aside0.mk hl251_0
                              clear hi251_0 hl251_0
                              replace p251 := eq_true p251
                              replace q251 := eq_true q251
                              have p253 : 0 ≤ (0 : Int) := (by omega)
                              have q253 : 0 < (t240.length : Int) := of_decide_eq_true (by first | (with_reducible assumption) | assumption)
                              obtain ⟨ad253, A253_0, c253_0, e253, hx253_0, hl253_0, hi253_0⟩ := at_L1 (Kd.N_reads' HO_8.out).2.2 0 p253 q253
                              obtain rfl : ad249 = ad253 := (by injection e253)
                              obtain ⟨ce253, hce253, hMe253, hcc253⟩ := Kd.N_get HO_8.out [] 0 p253 (by first | exact q253 | exact of_decide_eq_true (by first | (with_reducible assumption) | assumption) | (have e_ := (Kd.N_reads' HO_8.out).1; omega))
                              obtain ⟨ua253_0, uc253_0, rfl, ul253_0, ge253_0⟩ := Kd.FK_slice_open hMe253
                              have hv253_0 := hcc253 0 _ rfl
                              rw [Nat.add_zero, show ((Kd.slice 3 (Kd.int .i64))).sz = 1 from rfl, Nat.mul_one] at hv253_0
                              replace hv253_0 := Option.some.inj (hv253_0.symm.trans hx253_0)
                              injection hv253_0 with hva_ hvn_ hvc_
                              rw [hva_] at ge253_0
                              rw [hvc_] at ul253_0
                              have HL253_0 := Aside0.mk (show Kd.V (Kd.int .i64) 3 _ w.heap.size _ _ (rd_L1 t240 0) from Kd.V_mk ul253_0 ge253_0)
                              clear hva_ hvn_ hvc_ ge253_0 ul253_0
                              clear hcc253 hce253
                              have qi253 : (0 < t240.length) = True := eq_true (by omega)
                              (try rw [show ((0 : Int)).toNat = 0 from rfl] at hx253_0)
                              (try rw [Addr.add_zero'] at hx253_0)
                              have HR253_0 := Aside0.mk hi253_0
                              have HC253_0 := Aside0.mk hl253_0
                              clear hi253_0 hl253_0
                              replace p253 := eq_true p253
                              replace q253 := eq_true q253
                              refine start_ (n := 11) (S := fun w' => w'.cell? ad248 = some (.slice A251_0 (rd_L1 (rd_L2 x5_1 x32_2) 0).length c251_0) ∧ w'.cell? ad249 = some (.slice A253_0 (rd_L1 t240 0).length c253_0)) (ds := []) #[false, false, false, false, false, false, false, false, false, false, false] (by kernel_rfl) rfl rfl ⟨hx251_0, hx253_0⟩ (fun hHeld => ?_); refine with_tabW spec_gpCycles.tab11 spec_gpCycles.bits11 (fun HT_ HW_ => ?_)
                              generalize w36.drew = w38 at HO_5 HO_8 HO_18 HO_30 HL243_0 HL248_0 HL249_0 HR236_0 HR243_0 HR248_0 HR249_0 HB HL251_0 HL253_0 HR251_0 HR253_0 hx251_0 hx253_0 hHeld ⊢
                              refine pure_ (i := 0) (N := some 46) (v := ?_) (a' := ?_) #[true, false, false, false, false, false, false, false, false, false, false] rfl rfl (any_of HT_.out (by kernel_rfl)) (fun _ _ _ h => h) (Or.inl ⟨by rfl, ?_⟩) ?_ ?_
                              rotate_left
                              · intro w'
                                go_simp
                                with_reducible rfl
                              rotate_left
                              · simp only [Act.put, List.setIfInBounds_toArray, List.set_cons_zero, List.set_cons_succ, i64_w, i32_w]
                                rfl
                              refine pure_ (i := 1) (N := some 47) (v := ?_) (a' := ?_) #[true, true, false, false, false, false, false, false, false, false, false] rfl rfl (any_of HT_.out (by kernel_rfl)) (fun _ _ _ h => h) (Or.inl ⟨by rfl, ?_⟩) ?_ ?_
                              rotate_left
                              · intro w'
                                go_simp
                                with_reducible rfl
                              rotate_left
                              · simp only [Act.put, List.setIfInBounds_toArray, List.set_cons_zero, List.set_cons_succ, i64_w, i32_w]
                                rfl
                              refine pure_ (i := 3) (N := some 49) (v := ?_) (a' := ?_) #[true, true, false, true, false, false, false, false, false, false, false] rfl rfl (any_of HT_.out (by kernel_rfl)) (fun _ _ _ h => h) (Or.inl ⟨by rfl, ?_⟩) ?_ ?_
                              rotate_left
                              · intro w'
                                go_simp
                                with_reducible rfl
                              rotate_left
                              · simp only [Act.put, List.setIfInBounds_toArray, List.set_cons_zero, List.set_cons_succ, i64_w, i32_w]
                                rfl
                              refine pure_ (i := 5) (N := some 51) (v := ?_) (a' := ?_) #[true, true, false, true, false, true, false, false, false, false, false] rfl rfl (any_of HT_.out (by kernel_rfl)) (fun _ _ _ h => h) (Or.inl ⟨by rfl, ?_⟩) ?_ ?_
                              rotate_left
                              · intro w'
                                go_simp
                                with_reducible rfl
                              rotate_left
                              · simp only [Act.put, List.setIfInBounds_toArray, List.set_cons_zero, List.set_cons_succ, i64_w, i32_w]
                                rfl
                              refine pure_ (i := 6) (N := some 52) (v := ?_) (a' := ?_) #[true, true, false, true, false, true, true, false, false, false, false] rfl rfl (any_of HT_.out (by kernel_rfl)) (fun _ _ _ h => h) (Or.inl ⟨by rfl, ?_⟩) ?_ ?_
                              rotate_left
                              · intro w'
                                go_simp
                                with_reducible rfl
                              rotate_left
                              · simp only [Act.put, List.setIfInBounds_toArray, List.set_cons_zero, List.set_cons_succ, i64_w, i32_w]
                                rfl
                              refine pure_ (i := 8) (N := some 54) (v := ?_) (a' := ?_) #[true, true, false, true, false, true, true, false, true, false, false] rfl rfl (any_of HT_.out (by kernel_rfl)) (fun _ _ _ h => h) (Or.inl ⟨by rfl, ?_⟩) ?_ ?_
                              rotate_left
                              · intro w'
                                go_simp
                                with_reducible rfl
                              rotate_left
                              · simp only [Act.put, List.setIfInBounds_toArray, List.set_cons_zero, List.set_cons_succ, i64_w, i32_w]
                                rfl
                              refine take_ (i := 2) (N := some 48) (v := ?_) (a' := ?_) #[true, true, true, true, false, true, true, false, true, false, false] rfl rfl (take_ofW HT_.out HW_.out (by kernel_rfl)) (fun _ _ _ h => h) (Or.inl ⟨by rfl, ?_⟩) hHeld ?_ ?_
                              rotate_left
                              · rintro w' ⟨s0, s1⟩
                                go_simp
                                with_reducible rfl
                              rotate_left
                              · simp only [Act.put, List.setIfInBounds_toArray, List.set_cons_zero, List.set_cons_succ, i64_w, i32_w]
                                rfl
                              refine take_ (i := 7) (N := some 53) (v := ?_) (a' := ?_) #[true, true, true, true, false, true, true, true, true, false, false] rfl rfl (take_ofW HT_.out HW_.out (by kernel_rfl)) (fun _ _ _ h => h) (Or.inl ⟨by rfl, ?_⟩) hHeld ?_ ?_
                              rotate_left
                              · rintro w' ⟨s0, s1⟩
                                go_simp
                                with_reducible rfl
                              rotate_left
                              · simp only [Act.put, List.setIfInBounds_toArray, List.set_cons_zero, List.set_cons_succ, i64_w, i32_w]
                                rfl
                              refine one_ (i := 4) (N := some 50) #[true, true, true, true, true, true, true, true, true, false, false] rfl rfl (one_of HT_.out (by kernel_rfl)) (by decide) (fun K hK => ?_)
                              refine goes_ Try.func73 (by kernel_rfl) rfl #[.slice A251_0 (rd_L1 (rd_L2 x5_1 x32_2) 0).length c251_0, .int .i64 a1] (by rfl) rfl rfl (by (try simp only [List.map_toArray, List.map_cons, List.map_nil]); first | done | rfl | (simp only [List.length_drop, List.length_take]; rfl)) ?_
                              with_reducible refine (spec_gpValue.calls k2 _ _ (rd_L1 (rd_L2 x5_1 x32_2) 0) a1 t252 _ ?side1 ?side2 A33.out).mono ?_
                              (case side1 => repeat (first | exact (by repeat (first | (with_reducible exact HR251_0.out) | (with_reducible refine Kd.C_alloc ?_ _) | (with_reducible refine Kd.C_drewN ?_ _) | (with_reducible refine Kd.C_drew ?_) | exact HR251_0.out)) | (with_reducible refine Kd.C_alloc ?_ _) | (with_reducible refine Kd.C_drewN ?_ _) | (with_reducible refine Kd.C_drew ?_)))
                              (case side2 => exact HC251_0.out)
                              rintro e w' ⟨rfl, ⟨nd, rfl⟩⟩
                              refine ⟨_, rfl, ?_⟩
                              refine hK.out _ _ ⟨hHeld.1, hHeld.2⟩ (fun hHeld => ?_)
                              clear hK K
                              refine norm_ (a' := ?_) ?_ ?_
                              rotate_left
                              · show Act.put _ (some 50) _ = _
                                simp only [Act.put, List.setIfInBounds_toArray, List.set_cons_zero, List.set_cons_succ, i64_w, i32_w]
                                rfl
                              refine one_ (i := 9) (N := some 55) #[true, true, true, true, true, true, true, true, true, true, false] rfl rfl (one_of HT_.out (by kernel_rfl)) (by decide) (fun K hK => ?_)
                              refine goes_ Try.func73 (by kernel_rfl) rfl #[.slice A253_0 (rd_L1 t240 0).length c253_0, .int .i64 a1] (by rfl) rfl rfl (by (try simp only [List.map_toArray, List.map_cons, List.map_nil]); first | done | rfl | (simp only [List.length_drop, List.length_take]; rfl)) ?_
                              with_reducible refine (spec_gpValue.calls k2 _ _ (rd_L1 t240 0) a1 t254 _ ?side1 ?side2 A34.out).mono ?_
                              (case side1 => repeat (first | exact (by repeat (first | (with_reducible exact HR253_0.out) | (with_reducible refine Kd.C_alloc ?_ _) | (with_reducible refine Kd.C_drewN ?_ _) | (with_reducible refine Kd.C_drew ?_) | exact HR253_0.out)) | (with_reducible refine Kd.C_alloc ?_ _) | (with_reducible refine Kd.C_drewN ?_ _) | (with_reducible refine Kd.C_drew ?_)))
                              (case side2 => exact HC253_0.out)
                              rintro e w' ⟨rfl, ⟨nd, rfl⟩⟩
                              refine ⟨_, rfl, ?_⟩
                              refine hK.out _ _ ⟨hHeld.1, hHeld.2⟩ (fun hHeld => ?_)
                              clear hK K
                              refine norm_ (a' := ?_) ?_ ?_
                              rotate_left
                              · show Act.put _ (some 55) _ = _
                                simp only [Act.put, List.setIfInBounds_toArray, List.set_cons_zero, List.set_cons_succ, i64_w, i32_w]
                                rfl
                              refine pure_ (i := 10) (N := some 56) (v := ?_) (a' := ?_) #[true, true, true, true, true, true, true, true, true, true, true] rfl rfl (any_of HT_.out (by kernel_rfl)) (fun _ _ _ h => h) (Or.inl ⟨by rfl, ?_⟩) ?_ ?_
                              rotate_left
                              · intro w'
                                go_simp
                                with_reducible rfl
                              rotate_left
                              · simp only [Act.put, List.setIfInBounds_toArray, List.set_cons_zero, List.set_cons_succ, i64_w, i32_w]
                                rfl
                              refine done_ (done_of HT_.out (by kernel_rfl)) ?_
                              try go_wp2
                              go_roundg k2
                              case measure => have := HK1.out; have := HK2.out; omega
                              case rel => exact ⟨(wrap64 (x9_2 + 1)), (t250), (wrap64 (x32_2 + 1)), (by first | rfl | (simp; done) | (simp [*]; done)), (by first | rfl | (simp; done) | (simp [*]; done)), (by first | rfl | (simp; done) | (simp [*]; done)), H', ⟨by have := HK1.out; have := HK2.out; omega⟩, ⟨by (with_reducible repeat (first | apply Kd.N_alloc | apply Kd.N_drewN | apply Kd.N_drew)); first | exact HO_5.out | exact Kd.N_mono HO_5.out (fun k_ hk => by repeat' (first | exact hk.1 | exact hk.2.1 | exact hk.2.2.1 | exact hk.2.2.2 | exact hk.2.2 | constructor))⟩, ⟨by (with_reducible repeat (first | apply Kd.N_alloc | apply Kd.N_drewN | apply Kd.N_drew)); first | exact HO_8.out | exact Kd.N_mono HO_8.out (fun k_ hk => by repeat' (first | exact hk.1 | exact hk.2.1 | exact hk.2.2.1 | exact hk.2.2.2 | exact hk.2.2 | constructor))⟩, ⟨by (with_reducible repeat (first | apply Kd.N_alloc | apply Kd.N_drewN | apply Kd.N_drew)); first | exact HO_18.out | exact Kd.N_mono HO_18.out (fun k_ hk => by repeat' (first | exact hk.1 | exact hk.2.1 | exact hk.2.2.1 | exact hk.2.2.2 | exact hk.2.2 | constructor))⟩, ⟨by (with_reducible repeat (first | apply Kd.N_alloc | apply Kd.N_drewN | apply Kd.N_drew)); first | exact HO_30.out | exact Kd.N_mono HO_30.out (fun k_ hk => by repeat' (first | exact hk.1 | exact hk.2.1 | exact hk.2.2.1 | exact hk.2.2.2 | exact hk.2.2 | constructor))⟩, ⟨by repeat (first | (with_reducible exact HR236_0.out) | (with_reducible refine Kd.C_alloc ?_ _) | (with_reducible refine Kd.C_drewN ?_ _) | (with_reducible refine Kd.C_drew ?_) | exact HR236_0.out)⟩, ⟨by repeat (first | (with_reducible first | exact HB.out | apply below_alloc | apply pw_below_drewN | apply below_drew1) | exact HB.out)⟩⟩
                            · rw [if_neg c35] at H
                              have c35b0 : decide (t252 < t254) = false := decide_eq_false c35
                              clear c35
                              have H' := Aside0.mk H
                              clear H
                              have p243 : 0 ≤ (x32_2 : Int) := of_decide_eq_true (by first | (with_reducible assumption) | assumption)
                              have q243 : x32_2 < (x5_1.length : Int) := of_decide_eq_true (by first | (with_reducible assumption) | assumption)
                              obtain ⟨ad243, A243_0, c243_0, e243, hx243_0, hl243_0, hi243_0⟩ := at_L2 (Kd.N_reads' HO_30.out).2.2 x32_2 p243 q243
                              cases e243
                              obtain ⟨ce243, hce243, hMe243, hcc243⟩ := Kd.N_get HO_30.out [] x32_2 p243 (by first | exact q243 | exact of_decide_eq_true (by first | (with_reducible assumption) | assumption) | (have e_ := (Kd.N_reads' HO_30.out).1; omega))
                              obtain ⟨ua243_0, uc243_0, rfl, ul243_0, ge243_0⟩ := Kd.FK_slice_open hMe243
                              have hv243_0 := hcc243 0 _ rfl
                              rw [Nat.add_zero, show ((Kd.slice 22 (Kd.slice 3 (Kd.int .i64)))).sz = 1 from rfl, Nat.mul_one] at hv243_0
                              replace hv243_0 := Option.some.inj (hv243_0.symm.trans hx243_0)
                              injection hv243_0 with hva_ hvn_ hvc_
                              rw [hva_] at ge243_0
                              rw [hvc_] at ul243_0
                              have HL243_0 := Aside0.mk (show Kd.V (Kd.slice 3 (Kd.int .i64)) 22 _ w.heap.size _ _ (rd_L2 x5_1 x32_2) from Kd.V_mk ul243_0 ge243_0)
                              clear hva_ hvn_ hvc_ ge243_0 ul243_0
                              clear hcc243 hce243
                              have HR243_0 := Aside0.mk hi243_0
                              have HC243_0 := Aside0.mk hl243_0
                              clear hi243_0 hl243_0
                              replace p243 := eq_true p243
                              replace q243 := eq_true q243
                              try go_wp2
                              have n0_ := Aside0.mk (Kd.N_drew HO_5.out)
                              have n1_ := Aside0.mk (Kd.N_drew HO_8.out)
                              have n2_ := Aside0.mk (Kd.N_drew HO_18.out)
                              have n3_ := Aside0.mk (Kd.N_drew HO_30.out)
                              have n4_ := Aside0.mk (Kd.V_drew HL243_0.out)
                              have n5_ := Aside0.mk (Kd.C_drew HR236_0.out)
                              have n6_ := Aside0.mk (Kd.C_drew HR243_0.out)
                              have n7_ := Aside0.mk (below_drew1 HB.out)
                              clear HO_5
                              clear HO_8
                              clear HO_18
                              clear HO_30
                              clear HL243_0
                              clear HR236_0
                              clear HR243_0
                              clear HB
                              have HO_5 := n0_
                              have HO_8 := n1_
                              have HO_18 := n2_
                              have HO_30 := n3_
                              have HL243_0 := n4_
                              have HR236_0 := n5_
                              have HR243_0 := n6_
                              have HB := n7_
                              clear n0_ n1_ n2_ n3_ n4_ n5_ n6_ n7_
                              have p248 : 0 ≤ (0 : Int) := (by omega)
                              have q248 : 0 < ((rd_L2 x5_1 x32_2).length : Int) := of_decide_eq_true (by first | (with_reducible assumption) | assumption)
                              obtain ⟨ad248, A248_0, c248_0, e248, hx248_0, hl248_0, hi248_0⟩ := at_L1 (by repeat (first | (with_reducible exact HR243_0.out) | (with_reducible refine Kd.C_alloc ?_ _) | (with_reducible refine Kd.C_drewN ?_ _) | (with_reducible refine Kd.C_drew ?_) | exact HR243_0.out)) 0 p248 q248
                              cases e248
                              obtain ⟨ce248, hce248, hMe248, hcc248⟩ := Kd.V_get HL243_0.out [] 0 p248 (by first | exact q248 | exact of_decide_eq_true (by first | (with_reducible assumption) | assumption) | (have e_ := (Kd.V_reads' HL243_0.out).1; omega))
                              obtain ⟨ua248_0, uc248_0, rfl, ul248_0, ge248_0⟩ := Kd.FK_slice_open hMe248
                              have hv248_0 := hcc248 0 _ rfl
                              rw [Nat.add_zero, show ((Kd.slice 3 (Kd.int .i64))).sz = 1 from rfl, Nat.mul_one] at hv248_0
                              replace hv248_0 := Option.some.inj (hv248_0.symm.trans hx248_0)
                              injection hv248_0 with hva_ hvn_ hvc_
                              rw [hva_] at ge248_0
                              rw [hvc_] at ul248_0
                              have HL248_0 := Aside0.mk (show Kd.V (Kd.int .i64) 3 _ w.heap.size _ _ (rd_L1 (rd_L2 x5_1 x32_2) 0) from Kd.V_mk ul248_0 ge248_0)
                              clear hva_ hvn_ hvc_ ge248_0 ul248_0
                              clear hcc248 hce248
                              have qi248 : (0 < (rd_L2 x5_1 x32_2).length) = True := eq_true (by omega)
                              (try rw [show ((0 : Int)).toNat = 0 from rfl] at hx248_0)
                              (try rw [Addr.add_zero'] at hx248_0)
                              have HR248_0 := Aside0.mk hi248_0
                              have HC248_0 := Aside0.mk hl248_0
                              clear hi248_0 hl248_0
                              replace p248 := eq_true p248
                              replace q248 := eq_true q248
                              obtain ⟨Ao40, co40, eo40⟩ := Kd.N_slice HO_8.out
                              (first | subst eo40 | (injection eo40 with f1_ f2_ f3_; have f4_ := f1_.symm; have f5_ := f3_.symm; clear f1_ f2_ f3_; subst f4_; subst f5_))
                              have p249 : 0 ≤ (0 : Int) := (by omega)
                              have q249 : 0 < (t240.length : Int) := of_decide_eq_true (by first | (with_reducible assumption) | assumption)
                              obtain ⟨ad249, A249_0, c249_0, e249, hx249_0, hl249_0, hi249_0⟩ := at_L1 (Kd.N_reads' HO_8.out).2.2 0 p249 q249
                              cases e249
                              obtain ⟨ce249, hce249, hMe249, hcc249⟩ := Kd.N_get HO_8.out [] 0 p249 (by first | exact q249 | exact of_decide_eq_true (by first | (with_reducible assumption) | assumption) | (have e_ := (Kd.N_reads' HO_8.out).1; omega))
                              obtain ⟨ua249_0, uc249_0, rfl, ul249_0, ge249_0⟩ := Kd.FK_slice_open hMe249
                              have hv249_0 := hcc249 0 _ rfl
                              rw [Nat.add_zero, show ((Kd.slice 3 (Kd.int .i64))).sz = 1 from rfl, Nat.mul_one] at hv249_0
                              replace hv249_0 := Option.some.inj (hv249_0.symm.trans hx249_0)
                              injection hv249_0 with hva_ hvn_ hvc_
                              rw [hva_] at ge249_0
                              rw [hvc_] at ul249_0
                              have HL249_0 := Aside0.mk (show Kd.V (Kd.int .i64) 3 _ w.heap.size _ _ (rd_L1 t240 0) from Kd.V_mk ul249_0 ge249_0)
                              clear hva_ hvn_ hvc_ ge249_0 ul249_0
                              clear hcc249 hce249
                              have qi249 : (0 < t240.length) = True := eq_true (by omega)
                              (try rw [show ((0 : Int)).toNat = 0 from rfl] at hx249_0)
                              (try rw [Addr.add_zero'] at hx249_0)
                              have HR249_0 := Aside0.mk hi249_0
                              have HC249_0 := Aside0.mk hl249_0
                              clear hi249_0 hl249_0
                              replace p249 := eq_true p249
                              replace q249 := eq_true q249
                              refine start_ (n := 11) (S := fun w' => w'.cell? ad248 = some (.slice A248_0 (rd_L1 (rd_L2 x5_1 x32_2) 0).length c248_0) ∧ w'.cell? ad249 = some (.slice A249_0 (rd_L1 t240 0).length c249_0)) (ds := []) #[false, false, false, false, false, false, false, false, false, false, false] (by kernel_rfl) rfl rfl ⟨hx248_0, hx249_0⟩ (fun hHeld => ?_); refine with_tabW spec_gpCycles.tab10 spec_gpCycles.bits10 (fun HT_ HW_ => ?_)
                              generalize wr.drew = w39 at HO_5 HO_8 HO_18 HO_30 HL243_0 HR236_0 HR243_0 HB HL248_0 HL249_0 HR248_0 HR249_0 hx248_0 hx249_0 hHeld ⊢
                              refine pure_ (i := 0) (N := some 36) (v := ?_) (a' := ?_) #[true, false, false, false, false, false, false, false, false, false, false] rfl rfl (any_of HT_.out (by kernel_rfl)) (fun _ _ _ h => h) (Or.inl ⟨by rfl, ?_⟩) ?_ ?_
                              rotate_left
                              · intro w'
                                go_simp
                                with_reducible rfl
                              rotate_left
                              · simp only [Act.put, List.setIfInBounds_toArray, List.set_cons_zero, List.set_cons_succ, i64_w, i32_w]
                                rfl
                              refine pure_ (i := 1) (N := some 37) (v := ?_) (a' := ?_) #[true, true, false, false, false, false, false, false, false, false, false] rfl rfl (any_of HT_.out (by kernel_rfl)) (fun _ _ _ h => h) (Or.inl ⟨by rfl, ?_⟩) ?_ ?_
                              rotate_left
                              · intro w'
                                go_simp
                                with_reducible rfl
                              rotate_left
                              · simp only [Act.put, List.setIfInBounds_toArray, List.set_cons_zero, List.set_cons_succ, i64_w, i32_w]
                                rfl
                              refine pure_ (i := 2) (N := some 38) (v := ?_) (a' := ?_) #[true, true, true, false, false, false, false, false, false, false, false] rfl rfl (any_of HT_.out (by kernel_rfl)) (fun _ _ _ h => h) (Or.inl ⟨by rfl, ?_⟩) ?_ ?_
                              rotate_left
                              · intro w'
                                go_simp
                                with_reducible rfl
                              rotate_left
                              · simp only [Act.put, List.setIfInBounds_toArray, List.set_cons_zero, List.set_cons_succ, i64_w, i32_w]
                                rfl
                              refine pure_ (i := 3) (N := some 39) (v := ?_) (a' := ?_) #[true, true, true, true, false, false, false, false, false, false, false] rfl rfl (any_of HT_.out (by kernel_rfl)) (fun _ _ _ h => h) (Or.inl ⟨by rfl, ?_⟩) ?_ ?_
                              rotate_left
                              · intro w'
                                go_simp
                                with_reducible rfl
                              rotate_left
                              · simp only [Act.put, List.setIfInBounds_toArray, List.set_cons_zero, List.set_cons_succ, i64_w, i32_w]
                                rfl
                              refine pure_ (i := 5) (N := some 41) (v := ?_) (a' := ?_) #[true, true, true, true, false, true, false, false, false, false, false] rfl rfl (any_of HT_.out (by kernel_rfl)) (fun _ _ _ h => h) (Or.inl ⟨by rfl, ?_⟩) ?_ ?_
                              rotate_left
                              · intro w'
                                go_simp
                                with_reducible rfl
                              rotate_left
                              · simp only [Act.put, List.setIfInBounds_toArray, List.set_cons_zero, List.set_cons_succ, i64_w, i32_w]
                                rfl
                              refine pure_ (i := 6) (N := some 42) (v := ?_) (a' := ?_) #[true, true, true, true, false, true, true, false, false, false, false] rfl rfl (any_of HT_.out (by kernel_rfl)) (fun _ _ _ h => h) (Or.inl ⟨by rfl, ?_⟩) ?_ ?_
                              rotate_left
                              · intro w'
                                go_simp
                                with_reducible rfl
                              rotate_left
                              · simp only [Act.put, List.setIfInBounds_toArray, List.set_cons_zero, List.set_cons_succ, i64_w, i32_w]
                                rfl
                              refine take_ (i := 4) (N := some 40) (v := ?_) (a' := ?_) #[true, true, true, true, true, true, true, false, false, false, false] rfl rfl (take_ofW HT_.out HW_.out (by kernel_rfl)) (fun _ _ _ h => h) (Or.inl ⟨by rfl, ?_⟩) hHeld ?_ ?_
                              rotate_left
                              · rintro w' ⟨s0, s1⟩
                                go_simp
                                with_reducible rfl
                              rotate_left
                              · simp only [Act.put, List.setIfInBounds_toArray, List.set_cons_zero, List.set_cons_succ, i64_w, i32_w]
                                rfl
                              refine take_ (i := 7) (N := some 43) (v := ?_) (a' := ?_) #[true, true, true, true, true, true, true, true, false, false, false] rfl rfl (take_ofW HT_.out HW_.out (by kernel_rfl)) (fun _ _ _ h => h) (Or.inl ⟨by rfl, ?_⟩) hHeld ?_ ?_
                              rotate_left
                              · rintro w' ⟨s0, s1⟩
                                go_simp
                                with_reducible rfl
                              rotate_left
                              · simp only [Act.put, List.setIfInBounds_toArray, List.set_cons_zero, List.set_cons_succ, i64_w, i32_w]
                                rfl
                              refine one_ (i := 8) (N := some 44) #[true, true, true, true, true, true, true, true, true, false, false] rfl rfl (one_of HT_.out (by kernel_rfl)) (by decide) (fun K hK => ?_)
                              refine goes_ Try.func63 (by kernel_rfl) rfl #[.slice A248_0 (rd_L1 (rd_L2 x5_1 x32_2) 0).length c248_0, .slice A249_0 (rd_L1 t240 0).length c249_0] (by rfl) rfl rfl (by (try simp only [List.map_toArray, List.map_cons, List.map_nil]); first | done | rfl | (simp only [List.length_drop, List.length_take]; rfl)) ?_
                              with_reducible refine (spec_l1Same.calls k2 _ _ (rd_L1 (rd_L2 x5_1 x32_2) 0) _ _ (rd_L1 t240 0) t250 _ ?side1 ?side2 ?side3 ?side4 A32.out).mono ?_
                              (case side1 => repeat (first | exact (by repeat (first | (with_reducible exact HR248_0.out) | (with_reducible refine Kd.C_alloc ?_ _) | (with_reducible refine Kd.C_drewN ?_ _) | (with_reducible refine Kd.C_drew ?_) | exact HR248_0.out)) | (with_reducible refine Kd.C_alloc ?_ _) | (with_reducible refine Kd.C_drewN ?_ _) | (with_reducible refine Kd.C_drew ?_)))
                              (case side2 => exact HC248_0.out)
                              (case side3 => repeat (first | exact (by repeat (first | (with_reducible exact HR249_0.out) | (with_reducible refine Kd.C_alloc ?_ _) | (with_reducible refine Kd.C_drewN ?_ _) | (with_reducible refine Kd.C_drew ?_) | exact HR249_0.out)) | (with_reducible refine Kd.C_alloc ?_ _) | (with_reducible refine Kd.C_drewN ?_ _) | (with_reducible refine Kd.C_drew ?_)))
                              (case side4 => exact HC249_0.out)
                              rintro e w' ⟨rfl, ⟨nd, rfl⟩⟩
                              refine ⟨_, rfl, ?_⟩
                              refine hK.out _ _ ⟨hHeld.1, hHeld.2⟩ (fun hHeld => ?_)
                              clear hK K
                              refine norm_ (a' := ?_) ?_ ?_
                              rotate_left
                              · show Act.put _ (some 44) _ = _
                                simp only [Act.put, List.setIfInBounds_toArray, List.set_cons_zero, List.set_cons_succ, i64_w, i32_w]
                                rfl
                              refine pure_ (i := 9) (N := some 45) (v := ?_) (a' := ?_) #[true, true, true, true, true, true, true, true, true, true, false] rfl rfl (any_of HT_.out (by kernel_rfl)) (fun _ _ _ h => h) (Or.inl ⟨by rfl, ?_⟩) ?_ ?_
                              rotate_left
                              · intro w'
                                go_simp
                                with_reducible rfl
                              rotate_left
                              · simp only [Act.put, List.setIfInBounds_toArray, List.set_cons_zero, List.set_cons_succ, i64_w, i32_w]
                                rfl
                              refine pure_ (i := 10) (N := some 10) (v := ?_) (a' := ?_) #[true, true, true, true, true, true, true, true, true, true, true] rfl rfl (any_of HT_.out (by kernel_rfl)) (fun _ _ _ h => h) (Or.inl ⟨by rfl, ?_⟩) ?_ ?_
                              rotate_left
                              · intro w'
                                go_simp
                                with_reducible rfl
                              rotate_left
                              · simp only [Act.put, List.setIfInBounds_toArray, List.set_cons_zero, List.set_cons_succ, i64_w, i32_w]
                                rfl
                              refine done_ (done_of HT_.out (by kernel_rfl)) ?_
                              try go_wp2
                              (try (rw [drewN_self w39]; generalize hq_ : World.drewN w39 _ = w39; have n0_ : Aside0 (Kd.V (Kd.slice 3 (Kd.int .i64)) 22 w39 w.heap.size (fun k_ => (w.heap.size ≤ k_) ∧ some k_ ≠ (.slice (some ad236) t233.length co5 : Value).ownBlock ∧ some k_ ≠ (.slice (some ad243) x5_1.length co14 : Value).ownBlock ∧ some k_ ≠ (.slice (some ad249) t240.length co40 : Value).ownBlock) (.slice (some ad248) (rd_L2 x5_1 x32_2).length c243_0) (rd_L2 x5_1 x32_2)) := ⟨by rw [← hq_]; exact (by (with_reducible repeat (first | apply Kd.V_alloc | apply Kd.V_drewN | apply Kd.V_drew)); exact Kd.V_mono HL243_0.out (fun _ hk => ⟨hk.1.1, ⟨hk.1.2.2, ⟨hk.2, hk.1.2.1⟩⟩⟩))⟩; have n1_ : Aside0 (Kd.V (Kd.int .i64) 3 w39 w.heap.size (fun k_ => (w.heap.size ≤ k_) ∧ some k_ ≠ (.slice (some ad236) t233.length co5 : Value).ownBlock ∧ some k_ ≠ (.slice (some ad243) x5_1.length co14 : Value).ownBlock ∧ some k_ ≠ (.slice (some ad249) t240.length co40 : Value).ownBlock) (.slice A248_0 (rd_L1 (rd_L2 x5_1 x32_2) 0).length c248_0) (rd_L1 (rd_L2 x5_1 x32_2) 0)) := ⟨by rw [← hq_]; exact (by (with_reducible repeat (first | apply Kd.V_alloc | apply Kd.V_drewN | apply Kd.V_drew)); exact Kd.V_mono HL248_0.out (fun _ hk => ⟨hk.1.1, ⟨hk.1.2.2, ⟨hk.2, hk.1.2.1⟩⟩⟩))⟩; have n2_ : Aside0 (Kd.V (Kd.int .i64) 3 w39 w.heap.size (fun k_ => (w.heap.size ≤ k_) ∧ some k_ ≠ (.slice (some ad236) t233.length co5 : Value).ownBlock ∧ some k_ ≠ (.slice (some ad243) x5_1.length co14 : Value).ownBlock ∧ some k_ ≠ (.slice (some ad243) x5_1.length co14 : Value).ownBlock ∧ some k_ ≠ (.slice (some ad249) t240.length co40 : Value).ownBlock) (.slice A249_0 (rd_L1 t240 0).length c249_0) (rd_L1 t240 0)) := ⟨by rw [← hq_]; exact (by (with_reducible repeat (first | apply Kd.V_alloc | apply Kd.V_drewN | apply Kd.V_drew)); exact Kd.V_mono HL249_0.out (fun _ hk => ⟨hk.1.1, ⟨hk.1.2.2.1, ⟨hk.1.2.2.2, ⟨hk.1.2.1, hk.2⟩⟩⟩⟩))⟩; have n3_ : Aside0 (Kd.N (Kd.slice 3 (Kd.int .i64)) 22 w39 w.heap.size (fun k_ => (w.heap.size ≤ k_) ∧ some k_ ≠ (.slice (some ad243) x5_1.length co14 : Value).ownBlock ∧ some k_ ≠ (.slice (some ad243) x5_1.length co14 : Value).ownBlock ∧ some k_ ≠ (.slice (some ad249) t240.length co40 : Value).ownBlock) (.slice (some ad236) t233.length co5) t233) := ⟨by rw [← hq_]; exact (by (with_reducible repeat (first | apply Kd.N_alloc | apply Kd.N_drewN | apply Kd.N_drew)); exact Kd.N_mono HO_18.out (fun _ hk => ⟨hk.1, ⟨hk.2.2.2, ⟨hk.2.1, hk.2.2.1⟩⟩⟩))⟩; have n4_ : Aside0 (Kd.N (Kd.slice 22 (Kd.slice 3 (Kd.int .i64))) 31 w39 w.heap.size (fun k_ => (w.heap.size ≤ k_) ∧ some k_ ≠ (.slice (some ad236) t233.length co5 : Value).ownBlock ∧ some k_ ≠ (.slice (some ad249) t240.length co40 : Value).ownBlock) (.slice (some ad243) x5_1.length co14) x5_1) := ⟨by rw [← hq_]; exact (by (with_reducible repeat (first | apply Kd.N_alloc | apply Kd.N_drewN | apply Kd.N_drew)); exact Kd.N_mono HO_30.out (fun _ hk => ⟨hk.1, ⟨hk.2.2, hk.2.1⟩⟩))⟩; have n5_ : Aside0 (Kd.N (Kd.slice 22 (Kd.slice 3 (Kd.int .i64))) 31 w39 w.heap.size (fun k_ => (w.heap.size ≤ k_) ∧ some k_ ≠ (.slice (some ad236) t233.length co5 : Value).ownBlock ∧ some k_ ≠ (.slice (some ad249) t240.length co40 : Value).ownBlock) (.slice (some ad243) x5_1.length co14) x5_1) := ⟨by rw [← hq_]; exact (by (with_reducible repeat (first | apply Kd.N_alloc | apply Kd.N_drewN | apply Kd.N_drew)); exact Kd.N_mono HO_5.out (fun _ hk => ⟨hk.1, ⟨hk.2.2, hk.2.1⟩⟩))⟩; have n6_ : Aside0 (Kd.N (Kd.slice 3 (Kd.int .i64)) 22 w39 w.heap.size (fun k_ => (w.heap.size ≤ k_) ∧ some k_ ≠ (.slice (some ad236) t233.length co5 : Value).ownBlock ∧ some k_ ≠ (.slice (some ad243) x5_1.length co14 : Value).ownBlock ∧ some k_ ≠ (.slice (some ad243) x5_1.length co14 : Value).ownBlock) (.slice (some ad249) t240.length co40) t240) := ⟨by rw [← hq_]; exact (by (with_reducible repeat (first | apply Kd.N_alloc | apply Kd.N_drewN | apply Kd.N_drew)); exact Kd.N_mono HO_8.out (fun _ hk => ⟨hk.1, ⟨hk.2.2.1, ⟨hk.2.2.2, hk.2.1⟩⟩⟩))⟩; have n7_ : Aside0 (Below w.heap.size w w39) := ⟨by rw [← hq_]; exact (by repeat (first | (with_reducible first | exact HB.out | apply below_alloc | apply pw_below_drewN | apply below_drew1) | exact HB.out))⟩; have n8_ : Aside0 (Kd.C (Kd.int .i64) w39 A236_0 (rd_L1 t233 x20_1).length (rd_L1 t233 x20_1)) := ⟨by rw [← hq_]; exact (by repeat (first | (with_reducible exact HR236_0.out) | (with_reducible refine Kd.C_alloc ?_ _) | (with_reducible refine Kd.C_drewN ?_ _) | (with_reducible refine Kd.C_drew ?_) | exact HR236_0.out))⟩; have n9_ : Aside0 (Kd.C (Kd.slice 3 (Kd.int .i64)) w39 (some ad248) (rd_L2 x5_1 x32_2).length (rd_L2 x5_1 x32_2)) := ⟨by rw [← hq_]; exact (by repeat (first | (with_reducible exact HR243_0.out) | (with_reducible refine Kd.C_alloc ?_ _) | (with_reducible refine Kd.C_drewN ?_ _) | (with_reducible refine Kd.C_drew ?_) | exact HR243_0.out))⟩; have n10_ : Aside0 (Kd.C (Kd.int .i64) w39 A248_0 (rd_L1 (rd_L2 x5_1 x32_2) 0).length (rd_L1 (rd_L2 x5_1 x32_2) 0)) := ⟨by rw [← hq_]; exact (by repeat (first | (with_reducible exact HR248_0.out) | (with_reducible refine Kd.C_alloc ?_ _) | (with_reducible refine Kd.C_drewN ?_ _) | (with_reducible refine Kd.C_drew ?_) | exact HR248_0.out))⟩; have n11_ : Aside0 (Kd.C (Kd.int .i64) w39 A249_0 (rd_L1 t240 0).length (rd_L1 t240 0)) := ⟨by rw [← hq_]; exact (by repeat (first | (with_reducible exact HR249_0.out) | (with_reducible refine Kd.C_alloc ?_ _) | (with_reducible refine Kd.C_drewN ?_ _) | (with_reducible refine Kd.C_drew ?_) | exact HR249_0.out))⟩; clear HL243_0 HL248_0 HL249_0 HO_18 HO_30 HO_5 HO_8 HB HR236_0 HR243_0 HR248_0 HR249_0 hq_; have HL243_0 := n0_; have HL248_0 := n1_; have HL249_0 := n2_; have HO_18 := n3_; have HO_30 := n4_; have HO_5 := n5_; have HO_8 := n6_; have HB := n7_; have HR236_0 := n8_; have HR243_0 := n9_; have HR248_0 := n10_; have HR249_0 := n11_; clear n0_ n1_ n2_ n3_ n4_ n5_ n6_ n7_ n8_ n9_ n10_ n11_))
                              have n0_ := Aside0.mk (Kd.N_drew HO_5.out)
                              have n1_ := Aside0.mk (Kd.N_drew HO_8.out)
                              have n2_ := Aside0.mk (Kd.N_drew HO_18.out)
                              have n3_ := Aside0.mk (Kd.N_drew HO_30.out)
                              have n4_ := Aside0.mk (Kd.V_drew HL243_0.out)
                              have n5_ := Aside0.mk (Kd.V_drew HL248_0.out)
                              have n6_ := Aside0.mk (Kd.V_drew HL249_0.out)
                              have n7_ := Aside0.mk (Kd.C_drew HR236_0.out)
                              have n8_ := Aside0.mk (Kd.C_drew HR243_0.out)
                              have n9_ := Aside0.mk (Kd.C_drew HR248_0.out)
                              have n10_ := Aside0.mk (Kd.C_drew HR249_0.out)
                              have n11_ := Aside0.mk (below_drew1 HB.out)
                              clear HO_5
                              clear HO_8
                              clear HO_18
                              clear HO_30
                              clear HL243_0
                              clear HL248_0
                              clear HL249_0
                              clear HR236_0
                              clear HR243_0
                              clear HR248_0
                              clear HR249_0
                              clear HB
                              have HO_5 := n0_
                              have HO_8 := n1_
                              have HO_18 := n2_
                              have HO_30 := n3_
                              have HL243_0 := n4_
                              have HL248_0 := n5_
                              have HL249_0 := n6_
                              have HR236_0 := n7_
                              have HR243_0 := n8_
                              have HR248_0 := n9_
                              have HR249_0 := n10_
                              have HB := n11_
                              clear n0_ n1_ n2_ n3_ n4_ n5_ n6_ n7_ n8_ n9_ n10_ n11_
                              have p251 : 0 ≤ (0 : Int) := (by omega)
                              have q251 : 0 < ((rd_L2 x5_1 x32_2).length : Int) := of_decide_eq_true (by first | (with_reducible assumption) | assumption)
                              obtain ⟨ad251, A251_0, c251_0, e251, hx251_0, hl251_0, hi251_0⟩ := at_L1 (by repeat (first | (with_reducible exact HR243_0.out) | (with_reducible refine Kd.C_alloc ?_ _) | (with_reducible refine Kd.C_drewN ?_ _) | (with_reducible refine Kd.C_drew ?_) | exact HR243_0.out)) 0 p251 q251
                              obtain rfl : ad248 = ad251 := (by injection e251)
                              obtain ⟨ce251, hce251, hMe251, hcc251⟩ := Kd.V_get HL243_0.out [] 0 p251 (by first | exact q251 | exact of_decide_eq_true (by first | (with_reducible assumption) | assumption) | (have e_ := (Kd.V_reads' HL243_0.out).1; omega))
                              obtain ⟨ua251_0, uc251_0, rfl, ul251_0, ge251_0⟩ := Kd.FK_slice_open hMe251
                              have hv251_0 := hcc251 0 _ rfl
                              rw [Nat.add_zero, show ((Kd.slice 3 (Kd.int .i64))).sz = 1 from rfl, Nat.mul_one] at hv251_0
                              replace hv251_0 := Option.some.inj (hv251_0.symm.trans hx251_0)
                              injection hv251_0 with hva_ hvn_ hvc_
                              rw [hva_] at ge251_0
                              rw [hvc_] at ul251_0
                              have HL251_0 := Aside0.mk (show Kd.V (Kd.int .i64) 3 _ w.heap.size _ _ (rd_L1 (rd_L2 x5_1 x32_2) 0) from Kd.V_mk ul251_0 ge251_0)
                              clear hva_ hvn_ hvc_ ge251_0 ul251_0
                              clear hcc251 hce251
                              have qi251 : (0 < (rd_L2 x5_1 x32_2).length) = True := eq_true (by omega)
                              (try rw [show ((0 : Int)).toNat = 0 from rfl] at hx251_0)
                              (try rw [Addr.add_zero'] at hx251_0)
                              have HR251_0 := Aside0.mk hi251_0
                              have HC251_0 := Aside0.mk hl251_0
                              clear hi251_0 hl251_0
                              replace p251 := eq_true p251
                              replace q251 := eq_true q251
                              have p253 : 0 ≤ (0 : Int) := (by omega)
                              have q253 : 0 < (t240.length : Int) := of_decide_eq_true (by first | (with_reducible assumption) | assumption)
                              obtain ⟨ad253, A253_0, c253_0, e253, hx253_0, hl253_0, hi253_0⟩ := at_L1 (Kd.N_reads' HO_8.out).2.2 0 p253 q253
                              obtain rfl : ad249 = ad253 := (by injection e253)
                              obtain ⟨ce253, hce253, hMe253, hcc253⟩ := Kd.N_get HO_8.out [] 0 p253 (by first | exact q253 | exact of_decide_eq_true (by first | (with_reducible assumption) | assumption) | (have e_ := (Kd.N_reads' HO_8.out).1; omega))
                              obtain ⟨ua253_0, uc253_0, rfl, ul253_0, ge253_0⟩ := Kd.FK_slice_open hMe253
                              have hv253_0 := hcc253 0 _ rfl
                              rw [Nat.add_zero, show ((Kd.slice 3 (Kd.int .i64))).sz = 1 from rfl, Nat.mul_one] at hv253_0
                              replace hv253_0 := Option.some.inj (hv253_0.symm.trans hx253_0)
                              injection hv253_0 with hva_ hvn_ hvc_
                              rw [hva_] at ge253_0
                              rw [hvc_] at ul253_0
                              have HL253_0 := Aside0.mk (show Kd.V (Kd.int .i64) 3 _ w.heap.size _ _ (rd_L1 t240 0) from Kd.V_mk ul253_0 ge253_0)
                              clear hva_ hvn_ hvc_ ge253_0 ul253_0
                              clear hcc253 hce253
                              have qi253 : (0 < t240.length) = True := eq_true (by omega)
                              (try rw [show ((0 : Int)).toNat = 0 from rfl] at hx253_0)
                              (try rw [Addr.add_zero'] at hx253_0)
                              have HR253_0 := Aside0.mk hi253_0
                              have HC253_0 := Aside0.mk hl253_0
                              clear hi253_0 hl253_0
                              replace p253 := eq_true p253
                              replace q253 := eq_true q253
                              refine start_ (n := 11) (S := fun w' => w'.cell? ad248 = some (.slice A251_0 (rd_L1 (rd_L2 x5_1 x32_2) 0).length c251_0) ∧ w'.cell? ad249 = some (.slice A253_0 (rd_L1 t240 0).length c253_0)) (ds := []) #[false, false, false, false, false, false, false, false, false, false, false] (by kernel_rfl) rfl rfl ⟨hx251_0, hx253_0⟩ (fun hHeld => ?_); refine with_tabW spec_gpCycles.tab11 spec_gpCycles.bits11 (fun HT_ HW_ => ?_)
                              generalize w39.drew = w41 at HO_5 HO_8 HO_18 HO_30 HL243_0 HL248_0 HL249_0 HR236_0 HR243_0 HR248_0 HR249_0 HB HL251_0 HL253_0 HR251_0 HR253_0 hx251_0 hx253_0 hHeld ⊢
                              refine pure_ (i := 0) (N := some 46) (v := ?_) (a' := ?_) #[true, false, false, false, false, false, false, false, false, false, false] rfl rfl (any_of HT_.out (by kernel_rfl)) (fun _ _ _ h => h) (Or.inl ⟨by rfl, ?_⟩) ?_ ?_
                              rotate_left
                              · intro w'
                                go_simp
                                with_reducible rfl
                              rotate_left
                              · simp only [Act.put, List.setIfInBounds_toArray, List.set_cons_zero, List.set_cons_succ, i64_w, i32_w]
                                rfl
                              refine pure_ (i := 1) (N := some 47) (v := ?_) (a' := ?_) #[true, true, false, false, false, false, false, false, false, false, false] rfl rfl (any_of HT_.out (by kernel_rfl)) (fun _ _ _ h => h) (Or.inl ⟨by rfl, ?_⟩) ?_ ?_
                              rotate_left
                              · intro w'
                                go_simp
                                with_reducible rfl
                              rotate_left
                              · simp only [Act.put, List.setIfInBounds_toArray, List.set_cons_zero, List.set_cons_succ, i64_w, i32_w]
                                rfl
                              refine pure_ (i := 3) (N := some 49) (v := ?_) (a' := ?_) #[true, true, false, true, false, false, false, false, false, false, false] rfl rfl (any_of HT_.out (by kernel_rfl)) (fun _ _ _ h => h) (Or.inl ⟨by rfl, ?_⟩) ?_ ?_
                              rotate_left
                              · intro w'
                                go_simp
                                with_reducible rfl
                              rotate_left
                              · simp only [Act.put, List.setIfInBounds_toArray, List.set_cons_zero, List.set_cons_succ, i64_w, i32_w]
                                rfl
                              refine pure_ (i := 5) (N := some 51) (v := ?_) (a' := ?_) #[true, true, false, true, false, true, false, false, false, false, false] rfl rfl (any_of HT_.out (by kernel_rfl)) (fun _ _ _ h => h) (Or.inl ⟨by rfl, ?_⟩) ?_ ?_
                              rotate_left
                              · intro w'
                                go_simp
                                with_reducible rfl
                              rotate_left
                              · simp only [Act.put, List.setIfInBounds_toArray, List.set_cons_zero, List.set_cons_succ, i64_w, i32_w]
                                rfl
                              refine pure_ (i := 6) (N := some 52) (v := ?_) (a' := ?_) #[true, true, false, true, false, true, true, false, false, false, false] rfl rfl (any_of HT_.out (by kernel_rfl)) (fun _ _ _ h => h) (Or.inl ⟨by rfl, ?_⟩) ?_ ?_
                              rotate_left
                              · intro w'
                                go_simp
                                with_reducible rfl
                              rotate_left
                              · simp only [Act.put, List.setIfInBounds_toArray, List.set_cons_zero, List.set_cons_succ, i64_w, i32_w]
                                rfl
                              refine pure_ (i := 8) (N := some 54) (v := ?_) (a' := ?_) #[true, true, false, true, false, true, true, false, true, false, false] rfl rfl (any_of HT_.out (by kernel_rfl)) (fun _ _ _ h => h) (Or.inl ⟨by rfl, ?_⟩) ?_ ?_
                              rotate_left
                              · intro w'
                                go_simp
                                with_reducible rfl
                              rotate_left
                              · simp only [Act.put, List.setIfInBounds_toArray, List.set_cons_zero, List.set_cons_succ, i64_w, i32_w]
                                rfl
                              refine take_ (i := 2) (N := some 48) (v := ?_) (a' := ?_) #[true, true, true, true, false, true, true, false, true, false, false] rfl rfl (take_ofW HT_.out HW_.out (by kernel_rfl)) (fun _ _ _ h => h) (Or.inl ⟨by rfl, ?_⟩) hHeld ?_ ?_
                              rotate_left
                              · rintro w' ⟨s0, s1⟩
                                go_simp
                                with_reducible rfl
                              rotate_left
                              · simp only [Act.put, List.setIfInBounds_toArray, List.set_cons_zero, List.set_cons_succ, i64_w, i32_w]
                                rfl
                              refine take_ (i := 7) (N := some 53) (v := ?_) (a' := ?_) #[true, true, true, true, false, true, true, true, true, false, false] rfl rfl (take_ofW HT_.out HW_.out (by kernel_rfl)) (fun _ _ _ h => h) (Or.inl ⟨by rfl, ?_⟩) hHeld ?_ ?_
                              rotate_left
                              · rintro w' ⟨s0, s1⟩
                                go_simp
                                with_reducible rfl
                              rotate_left
                              · simp only [Act.put, List.setIfInBounds_toArray, List.set_cons_zero, List.set_cons_succ, i64_w, i32_w]
                                rfl
                              refine one_ (i := 4) (N := some 50) #[true, true, true, true, true, true, true, true, true, false, false] rfl rfl (one_of HT_.out (by kernel_rfl)) (by decide) (fun K hK => ?_)
                              refine goes_ Try.func73 (by kernel_rfl) rfl #[.slice A251_0 (rd_L1 (rd_L2 x5_1 x32_2) 0).length c251_0, .int .i64 a1] (by rfl) rfl rfl (by (try simp only [List.map_toArray, List.map_cons, List.map_nil]); first | done | rfl | (simp only [List.length_drop, List.length_take]; rfl)) ?_
                              with_reducible refine (spec_gpValue.calls k2 _ _ (rd_L1 (rd_L2 x5_1 x32_2) 0) a1 t252 _ ?side1 ?side2 A33.out).mono ?_
                              (case side1 => repeat (first | exact (by repeat (first | (with_reducible exact HR251_0.out) | (with_reducible refine Kd.C_alloc ?_ _) | (with_reducible refine Kd.C_drewN ?_ _) | (with_reducible refine Kd.C_drew ?_) | exact HR251_0.out)) | (with_reducible refine Kd.C_alloc ?_ _) | (with_reducible refine Kd.C_drewN ?_ _) | (with_reducible refine Kd.C_drew ?_)))
                              (case side2 => exact HC251_0.out)
                              rintro e w' ⟨rfl, ⟨nd, rfl⟩⟩
                              refine ⟨_, rfl, ?_⟩
                              refine hK.out _ _ ⟨hHeld.1, hHeld.2⟩ (fun hHeld => ?_)
                              clear hK K
                              refine norm_ (a' := ?_) ?_ ?_
                              rotate_left
                              · show Act.put _ (some 50) _ = _
                                simp only [Act.put, List.setIfInBounds_toArray, List.set_cons_zero, List.set_cons_succ, i64_w, i32_w]
                                rfl
                              refine one_ (i := 9) (N := some 55) #[true, true, true, true, true, true, true, true, true, true, false] rfl rfl (one_of HT_.out (by kernel_rfl)) (by decide) (fun K hK => ?_)
                              refine goes_ Try.func73 (by kernel_rfl) rfl #[.slice A253_0 (rd_L1 t240 0).length c253_0, .int .i64 a1] (by rfl) rfl rfl (by (try simp only [List.map_toArray, List.map_cons, List.map_nil]); first | done | rfl | (simp only [List.length_drop, List.length_take]; rfl)) ?_
                              with_reducible refine (spec_gpValue.calls k2 _ _ (rd_L1 t240 0) a1 t254 _ ?side1 ?side2 A34.out).mono ?_
                              (case side1 => repeat (first | exact (by repeat (first | (with_reducible exact HR253_0.out) | (with_reducible refine Kd.C_alloc ?_ _) | (with_reducible refine Kd.C_drewN ?_ _) | (with_reducible refine Kd.C_drew ?_) | exact HR253_0.out)) | (with_reducible refine Kd.C_alloc ?_ _) | (with_reducible refine Kd.C_drewN ?_ _) | (with_reducible refine Kd.C_drew ?_)))
                              (case side2 => exact HC253_0.out)
                              rintro e w' ⟨rfl, ⟨nd, rfl⟩⟩
                              refine ⟨_, rfl, ?_⟩
                              refine hK.out _ _ ⟨hHeld.1, hHeld.2⟩ (fun hHeld => ?_)
                              clear hK K
                              refine norm_ (a' := ?_) ?_ ?_
                              rotate_left
                              · show Act.put _ (some 55) _ = _
                                simp only [Act.put, List.setIfInBounds_toArray, List.set_cons_zero, List.set_cons_succ, i64_w, i32_w]
                                rfl
                              refine pure_ (i := 10) (N := some 56) (v := ?_) (a' := ?_) #[true, true, true, true, true, true, true, true, true, true, true] rfl rfl (any_of HT_.out (by kernel_rfl)) (fun _ _ _ h => h) (Or.inl ⟨by rfl, ?_⟩) ?_ ?_
                              rotate_left
                              · intro w'
                                go_simp
                                with_reducible rfl
                              rotate_left
                              · simp only [Act.put, List.setIfInBounds_toArray, List.set_cons_zero, List.set_cons_succ, i64_w, i32_w]
                                rfl
                              refine done_ (done_of HT_.out (by kernel_rfl)) ?_
                              try go_wp2
                              go_roundg k2
                              case measure => have := HK1.out; have := HK2.out; omega
                              case rel => exact ⟨(x9_2), (t250), (wrap64 (x32_2 + 1)), (by first | rfl | (simp; done) | (simp [*]; done)), (by first | rfl | (simp; done) | (simp [*]; done)), (by first | rfl | (simp; done) | (simp [*]; done)), H', ⟨by have := HK1.out; have := HK2.out; omega⟩, ⟨by (with_reducible repeat (first | apply Kd.N_alloc | apply Kd.N_drewN | apply Kd.N_drew)); first | exact HO_5.out | exact Kd.N_mono HO_5.out (fun k_ hk => by repeat' (first | exact hk.1 | exact hk.2.1 | exact hk.2.2.1 | exact hk.2.2.2 | exact hk.2.2 | constructor))⟩, ⟨by (with_reducible repeat (first | apply Kd.N_alloc | apply Kd.N_drewN | apply Kd.N_drew)); first | exact HO_8.out | exact Kd.N_mono HO_8.out (fun k_ hk => by repeat' (first | exact hk.1 | exact hk.2.1 | exact hk.2.2.1 | exact hk.2.2.2 | exact hk.2.2 | constructor))⟩, ⟨by (with_reducible repeat (first | apply Kd.N_alloc | apply Kd.N_drewN | apply Kd.N_drew)); first | exact HO_18.out | exact Kd.N_mono HO_18.out (fun k_ hk => by repeat' (first | exact hk.1 | exact hk.2.1 | exact hk.2.2.1 | exact hk.2.2.2 | exact hk.2.2 | constructor))⟩, ⟨by (with_reducible repeat (first | apply Kd.N_alloc | apply Kd.N_drewN | apply Kd.N_drew)); first | exact HO_30.out | exact Kd.N_mono HO_30.out (fun k_ hk => by repeat' (first | exact hk.1 | exact hk.2.1 | exact hk.2.2.1 | exact hk.2.2.2 | exact hk.2.2 | constructor))⟩, ⟨by repeat (first | (with_reducible exact HR236_0.out) | (with_reducible refine Kd.C_alloc ?_ _) | (with_reducible refine Kd.C_drewN ?_ _) | (with_reducible refine Kd.C_drew ?_) | exact HR236_0.out)⟩, ⟨by repeat (first | (with_reducible first | exact HB.out | apply below_alloc | apply pw_below_drewN | apply below_drew1) | exact HB.out)⟩⟩
                          · rw [if_neg c31] at H
                            exact absurd H (by simp)
                        · rw [if_neg c30] at H
                          exact absurd H (by simp)
                    · rw [if_neg c17] at H
                      exact absurd H (by simp)
                  · rw [if_neg c16] at H
                    exact absurd H (by simp)
                · rw [if_neg c15] at H
                  have c15b0 : decide (x32_2 < (x5_1.length : Int)) = false := decide_eq_false c15
                  clear c15
                  by_cases c42 : x10_2 = true
                  · subst c42
                    have H1 : (spec_gpCycles.l0 k2 a0 a1 x5_1 t233 (t233.length : Int) (wrap64 (x20_1 + 1))) = some r := by rw [if_pos rfl] at H; exact H
                    clear H
                    have H := H1
                    clear H1
                    have H' := Aside0.mk H
                    clear H
                    go_wp2
                    go_roundg k2
                    case measure => have := HK1.out; have := HK2.out; omega
                    case rel => exact ⟨(x5_1), (wrap64 (x20_1 + 1)), (by first | rfl | (simp; done) | (simp [*]; done)), H', ⟨by have := HK1.out; have := HK2.out; omega⟩, ⟨by (with_reducible repeat (first | apply Kd.N_alloc | apply Kd.N_drewN | apply Kd.N_drew)); exact Kd.N_mono HO_5.out (fun _ hk => ⟨hk.1, hk.2.2⟩)⟩, ⟨by (with_reducible repeat (first | apply Kd.N_alloc | apply Kd.N_drewN | apply Kd.N_drew)); exact Kd.N_mono HO_18.out (fun _ hk => ⟨hk.1, hk.2.1⟩)⟩, ⟨by repeat (first | (with_reducible first | exact HB.out | apply below_alloc | apply pw_below_drewN | apply below_drew1) | exact HB.out)⟩⟩
                  · replace c42 := Bool.eq_false_iff.mpr c42
                    subst c42
                    have H1 : ((some (([] : List (List (List Int))) : List (List (List Int)))).bind fun y255 => (if 0 ≤ x9_2 then (if x9_2 ≤ (x5_1.length : Int) then ((some (x5_1.take (x9_2 : Int).toNat : List (List (List Int)))).bind fun y258 => (if y255.length + y258.length < 5864062014805 then ((some (y255 ++ y258 : List (List (List Int)))).bind fun y263 => (if y263.length < 5864062014805 then ((some (y263 ++ [t240] : List (List (List Int)))).bind fun y266 => ((some (x5_1.drop (x9_2 : Int).toNat : List (List (List Int)))).bind fun y269 => (if y266.length + y269.length < 5864062014805 then (spec_gpCycles.l0 k2 a0 a1 (y266 ++ y269) t233 (t233.length : Int) (wrap64 (x20_1 + 1))) else (none)))) else (none))) else (none))) else (none)) else (none))) = some r := by rw [if_neg (show ¬ (false = true) by decide)] at H; exact H
                    clear H
                    have H := H1
                    clear H1
                    obtain ⟨y255, hy255⟩ : ∃ y_ : List (List (List Int)), y_ = (([] : List (List (List Int)))) := ⟨_, rfl⟩
                    replace H : (if 0 ≤ x9_2 then (if x9_2 ≤ (x5_1.length : Int) then ((some (x5_1.take (x9_2 : Int).toNat : List (List (List Int)))).bind fun y258 => (if y255.length + y258.length < 5864062014805 then ((some (y255 ++ y258 : List (List (List Int)))).bind fun y263 => (if y263.length < 5864062014805 then ((some (y263 ++ [t240] : List (List (List Int)))).bind fun y266 => ((some (x5_1.drop (x9_2 : Int).toNat : List (List (List Int)))).bind fun y269 => (if y266.length + y269.length < 5864062014805 then (spec_gpCycles.l0 k2 a0 a1 (y266 ++ y269) t233 (t233.length : Int) (wrap64 (x20_1 + 1))) else (none)))) else (none))) else (none))) else (none)) else (none)) = some r := by first | (rw [hy255]; with_reducible exact H) | (have H2_ := (Option.bind_some _ _).symm.trans H; rw [hy255]; with_reducible exact H2_) | (have H2_ := (Option.bind_some _ _).symm.trans H; with_reducible exact H2_) | with_reducible exact H | (rw [hy255]; exact H) | exact H
                    have Ny255 := Aside0.mk hy255
                    clear hy255
                    by_cases c43 : 0 ≤ x9_2
                    · rw [if_pos c43] at H
                      have c43b0 := eq_true c43
                      have c43b1 : decide (0 ≤ x9_2) = true := decide_eq_true c43
                      clear c43
                      by_cases c44 : x9_2 ≤ (x5_1.length : Int)
                      · rw [if_pos c44] at H
                        have c44b0 := eq_true c44
                        have c44b1 : decide (x9_2 ≤ (x5_1.length : Int)) = true := decide_eq_true c44
                        clear c44
                        obtain ⟨y258, hy258⟩ : ∃ y_ : List (List (List Int)), y_ = (x5_1.take (x9_2 : Int).toNat) := ⟨_, rfl⟩
                        replace H : (if y255.length + y258.length < 5864062014805 then ((some (y255 ++ y258 : List (List (List Int)))).bind fun y263 => (if y263.length < 5864062014805 then ((some (y263 ++ [t240] : List (List (List Int)))).bind fun y266 => ((some (x5_1.drop (x9_2 : Int).toNat : List (List (List Int)))).bind fun y269 => (if y266.length + y269.length < 5864062014805 then (spec_gpCycles.l0 k2 a0 a1 (y266 ++ y269) t233 (t233.length : Int) (wrap64 (x20_1 + 1))) else (none)))) else (none))) else (none)) = some r := by first | (rw [hy258]; with_reducible exact H) | (have H2_ := (Option.bind_some _ _).symm.trans H; rw [hy258]; with_reducible exact H2_) | (have H2_ := (Option.bind_some _ _).symm.trans H; with_reducible exact H2_) | with_reducible exact H | (rw [hy258]; exact H) | exact H
                        have Ny258 := Aside0.mk hy258
                        clear hy258
                        by_cases c45 : y255.length + y258.length < 5864062014805
                        · rw [if_pos c45] at H
                          have LMc45 := Aside0.mk c45
                          clear c45
                          obtain ⟨y263, hy263⟩ : ∃ y_ : List (List (List Int)), y_ = (y255 ++ y258) := ⟨_, rfl⟩
                          replace H : (if y263.length < 5864062014805 then ((some (y263 ++ [t240] : List (List (List Int)))).bind fun y266 => ((some (x5_1.drop (x9_2 : Int).toNat : List (List (List Int)))).bind fun y269 => (if y266.length + y269.length < 5864062014805 then (spec_gpCycles.l0 k2 a0 a1 (y266 ++ y269) t233 (t233.length : Int) (wrap64 (x20_1 + 1))) else (none)))) else (none)) = some r := by first | (rw [hy263]; with_reducible exact H) | (have H2_ := (Option.bind_some _ _).symm.trans H; rw [hy263]; with_reducible exact H2_) | (have H2_ := (Option.bind_some _ _).symm.trans H; with_reducible exact H2_) | with_reducible exact H | (rw [hy263]; exact H) | exact H
                          have Ny263 := Aside0.mk hy263
                          clear hy263
                          by_cases c46 : y263.length < 5864062014805
                          · rw [if_pos c46] at H
                            have LMc46 := Aside0.mk c46
                            clear c46
                            obtain ⟨y266, hy266⟩ : ∃ y_ : List (List (List Int)), y_ = (y263 ++ [t240]) := ⟨_, rfl⟩
                            replace H : ((some (x5_1.drop (x9_2 : Int).toNat : List (List (List Int)))).bind fun y269 => (if y266.length + y269.length < 5864062014805 then (spec_gpCycles.l0 k2 a0 a1 (y266 ++ y269) t233 (t233.length : Int) (wrap64 (x20_1 + 1))) else (none))) = some r := by first | (rw [hy266]; with_reducible exact H) | (have H2_ := (Option.bind_some _ _).symm.trans H; rw [hy266]; with_reducible exact H2_) | (have H2_ := (Option.bind_some _ _).symm.trans H; with_reducible exact H2_) | with_reducible exact H | (rw [hy266]; exact H) | exact H
                            have Ny266 := Aside0.mk hy266
                            clear hy266
                            have c47b0 := eq_true (of_decide_eq_true (by first | (with_reducible assumption) | assumption) : 0 ≤ x9_2)
                            have c48b0 := eq_true (of_decide_eq_true (by first | (with_reducible assumption) | assumption) : x9_2 ≤ (x5_1.length : Int))
                            obtain ⟨y269, hy269⟩ : ∃ y_ : List (List (List Int)), y_ = (x5_1.drop (x9_2 : Int).toNat) := ⟨_, rfl⟩
                            replace H : (if y266.length + y269.length < 5864062014805 then (spec_gpCycles.l0 k2 a0 a1 (y266 ++ y269) t233 (t233.length : Int) (wrap64 (x20_1 + 1))) else (none)) = some r := by first | (rw [hy269]; with_reducible exact H) | (have H2_ := (Option.bind_some _ _).symm.trans H; rw [hy269]; with_reducible exact H2_) | (have H2_ := (Option.bind_some _ _).symm.trans H; with_reducible exact H2_) | with_reducible exact H | (rw [hy269]; exact H) | exact H
                            have Ny269 := Aside0.mk hy269
                            clear hy269
                            by_cases c49 : y266.length + y269.length < 5864062014805
                            · rw [if_pos c49] at H
                              have LMc49 := Aside0.mk c49
                              clear c49
                              obtain ⟨y274, hy274⟩ : ∃ y_ : List (List (List Int)), y_ = (y266 ++ y269) := ⟨_, rfl⟩
                              replace H : (spec_gpCycles.l0 k2 a0 a1 y274 t233 (t233.length : Int) (wrap64 (x20_1 + 1))) = some r := by first | (rw [hy274]; with_reducible exact H) | (have H2_ := (Option.bind_some _ _).symm.trans H; rw [hy274]; with_reducible exact H2_) | (have H2_ := (Option.bind_some _ _).symm.trans H; with_reducible exact H2_) | with_reducible exact H | (rw [hy274]; exact H) | exact H
                              have Ny274 := Aside0.mk hy274
                              clear hy274
                              have H' := Aside0.mk H
                              clear H
                              try go_wp2_with (first | ((with_reducible refine gate_dst (N := 62) rfl ?_); refine Kd.N_lit (Kd.slice 22 (Kd.slice 3 (Kd.int .i64))) _ 31 ?hg (N' := 62) ?hd (xs := ([] : List (List (List Int)))) (inner := []) (ok := (fun k_ => (w.heap.size ≤ k_) ∧ some k_ ≠ (.slice Ao14 x5_1.length co14 : Value).ownBlock ∧ some k_ ≠ (v241 : Value).ownBlock ∧ some k_ ≠ (.slice (some ad236) t233.length co5 : Value).ownBlock ∧ some k_ ≠ (.slice Ao14 x5_1.length co14 : Value).ownBlock)) (okp := (fun k_ => (w.heap.size ≤ k_) ∧ some k_ ≠ (.slice Ao14 x5_1.length co14 : Value).ownBlock ∧ some k_ ≠ (v241 : Value).ownBlock ∧ some k_ ≠ (.slice (some ad236) t233.length co5 : Value).ownBlock ∧ some k_ ≠ (.slice Ao14 x5_1.length co14 : Value).ownBlock)) ?hr ?hp (fun _ hk => hk) ((show ∀ k_, wr.heap.size ≤ k_ → (fun k_ => (w.heap.size ≤ k_) ∧ some k_ ≠ (.slice Ao14 x5_1.length co14 : Value).ownBlock ∧ some k_ ≠ (v241 : Value).ownBlock ∧ some k_ ≠ (.slice (some ad236) t233.length co5 : Value).ownBlock ∧ some k_ ≠ (.slice Ao14 x5_1.length co14 : Value).ownBlock) k_ from fun k_ hk => ⟨(Nat.le_trans (below_size (by repeat (first | (with_reducible first | exact HB.out | apply below_alloc | apply pw_below_drewN | apply below_drew1) | exact HB.out))) hk), Kd.fresh' (Kd.N_lt (by (with_reducible repeat (first | apply Kd.N_alloc | apply Kd.N_drewN | apply Kd.N_drew)); exact HO_5.out)) k_ hk, Kd.fresh' (Kd.N_lt (by (with_reducible repeat (first | apply Kd.N_alloc | apply Kd.N_drewN | apply Kd.N_drew)); exact HO_8.out)) k_ hk, Kd.fresh' (Kd.N_lt (by (with_reducible repeat (first | apply Kd.N_alloc | apply Kd.N_drewN | apply Kd.N_drew)); exact HO_18.out)) k_ hk, Kd.fresh' (Kd.N_lt (by (with_reducible repeat (first | apply Kd.N_alloc | apply Kd.N_drewN | apply Kd.N_drew)); exact HO_30.out)) k_ hk⟩) _ (Nat.le_refl _)) (Below.refl _ _) (Nat.le_refl _) (by simp) ?_; (case hd => rfl); (case hg => rfl); (case hr => first | (go_simp; done) | (go_simp; rfl)); (case hp => exact (Reps.none _ _)); intro v256 w50 ho51 hb hg_ hnew_; clear hg_ hnew_; (first | rw [← Ny255.out] at ho51 | (simp only [Int.reduceToNat] at ho51; rw [← Ny255.out] at ho51)); have n0_ := Aside0.mk (Kd.N_elder' (by (with_reducible repeat (first | apply Kd.N_alloc | apply Kd.N_drewN | apply Kd.N_drew)); exact HO_5.out) (Kd.N_base ho51) hb); have n1_ := Aside0.mk (Kd.N_elder' (by (with_reducible repeat (first | apply Kd.N_alloc | apply Kd.N_drewN | apply Kd.N_drew)); exact HO_8.out) (Kd.N_base ho51) hb); have n2_ := Aside0.mk (Kd.N_elder' (by (with_reducible repeat (first | apply Kd.N_alloc | apply Kd.N_drewN | apply Kd.N_drew)); exact HO_18.out) (Kd.N_base ho51) hb); have n3_ := Aside0.mk (Kd.N_elder' (by (with_reducible repeat (first | apply Kd.N_alloc | apply Kd.N_drewN | apply Kd.N_drew)); exact HO_30.out) (Kd.N_base ho51) hb); have n4_ := Aside0.mk (Kd.N_lower ho51 (below_size (by repeat (first | (with_reducible first | exact HB.out | apply below_alloc | apply pw_below_drewN | apply below_drew1) | exact HB.out)))); have n5_ := Aside0.mk (Kd.C_below (by repeat (first | (with_reducible exact HR236_0.out) | (with_reducible refine Kd.C_alloc ?_ _) | (with_reducible refine Kd.C_drewN ?_ _) | (with_reducible refine Kd.C_drew ?_) | exact HR236_0.out)) hb); have n6_ := Aside0.mk (below_step (by repeat (first | (with_reducible first | exact HB.out | apply below_alloc | apply pw_below_drewN | apply below_drew1) | exact HB.out)) hb); clear HO_5; clear HO_8; clear HO_18; clear HO_30; clear HR236_0; clear HB; have HO_5 := n0_; have HO_8 := n1_; have HO_18 := n2_; have HO_30 := n3_; have HO257 := n4_; have HR236_0 := n5_; have HB := n6_; clear n0_ n1_ n2_ n3_ n4_ n5_ n6_; clear hb ho51; have q52 : (x9_2 : Int) ≤ ((x5_1.length : Int) : Int) := of_decide_eq_true (by first | (with_reducible assumption) | assumption); obtain ⟨i052, hi052, _, hsz52, _⟩ := info_parts info31; have hroom52 : x5_1.length ≤ co14 := (Kd.N_reads' HO_5.out).2.1; have hC52 : Kd.F (Kd.slice 22 (Kd.slice 3 (Kd.int .i64))) _ _ Ao14 x5_1.length x5_1 := (Kd.V_at (base := w.heap.size) (Kd.N_V HO_5.out)).2.2; have hcut52 := cut_to (P := Try.prog) 38 31 .i64 Try.underlying38 hi052 Ao14 x5_1.length co14 x9_2 (of_decide_eq_true (by first | (with_reducible assumption) | assumption)) q52 hroom52; have hr52 := Kd.F_take (m := (x9_2 : Int).toNat) hC52 (by omega); have hy52 : y258.length = (x9_2 : Int).toNat := (by rw [Ny258.out, List.length_take]; omega); rw [← Ny258.out] at hr52; rw [← hy52] at hcut52; have HO262 := Aside0.mk (show Kd.V (Kd.slice 22 (Kd.slice 3 (Kd.int .i64))) 31 _ w.heap.size _ (.slice Ao14 y258.length co14) y258 from Kd.V_mk (by omega) hr52); have HC262 := Aside0.mk (show y258.length ≤ co14 from by omega); clear hr52 hC52 hroom52 hi052 hsz52; have KY52 := Aside0.mk hy52; clear hy52; replace q52 := eq_true q52) | ((with_reducible refine gate_builtin (b := .append) (xs := #[.tmp 62, .tmp 65]) rfl ?_); at_builtin; refine Kd.N_append_rows (Kd.slice 22 (Kd.slice 3 (Kd.int .i64))) (w0 := w) w.heap.size rfl (.tmp 62) (.tmp 65) 38 31 (.slice none 0 0) 24 rfl Try.underlying38 info31 rfl (by decide) (by omega) v256 y255 y258 _ _ _ (fun k_ => (w.heap.size ≤ k_) ∧ some k_ ≠ (v241 : Value).ownBlock ∧ some k_ ≠ (.slice (some ad236) t233.length co5 : Value).ownBlock) (fun k_ => ((fun k_ => (w.heap.size ≤ k_) ∧ some k_ ≠ (v241 : Value).ownBlock ∧ some k_ ≠ (.slice (some ad236) t233.length co5 : Value).ownBlock)) k_ ∧ some k_ ≠ (v256 : Value).ownBlock) rfl rfl ?aO ?aR (fun _ hk => hk) ?aF ?aB ?aS ?aL ?_; (case aR => exact (by skip; exact Kd.V_F (Kd.V_mono (ok' := (fun k_ => ((fun k_ => (w.heap.size ≤ k_) ∧ some k_ ≠ (v241 : Value).ownBlock ∧ some k_ ≠ (.slice (some ad236) t233.length co5 : Value).ownBlock)) k_ ∧ some k_ ≠ (v256 : Value).ownBlock)) (HO262.out) (fun k_ hk => ⟨⟨hk.1.1, ⟨hk.1.2.1, hk.1.2.2⟩⟩, hk.2⟩)))); (case aB => exact (by repeat (first | (with_reducible first | exact HB.out | apply below_alloc | apply pw_below_drewN | apply below_drew1) | exact HB.out))); (case aF => exact (fun k_ hk => ⟨(Nat.le_trans (below_size (by repeat (first | (with_reducible first | exact HB.out | apply below_alloc | apply pw_below_drewN | apply below_drew1) | exact HB.out))) hk), Kd.fresh' (Kd.N_lt (by (with_reducible repeat (first | apply Kd.N_alloc | apply Kd.N_drewN | apply Kd.N_drew)); exact HO_8.out)) k_ hk, Kd.fresh' (Kd.N_lt (by (with_reducible repeat (first | apply Kd.N_alloc | apply Kd.N_drewN | apply Kd.N_drew)); exact HO_18.out)) k_ hk⟩)); (case aO => exact (by (with_reducible repeat (first | apply Kd.N_alloc | apply Kd.N_drewN | apply Kd.N_drew)); exact Kd.N_mono HO257.out (fun _ hk => ⟨hk.1, ⟨hk.2.2.1, hk.2.2.2.1⟩⟩))); (case aS => exact (below_size (by repeat (first | (with_reducible first | exact HB.out | apply below_alloc | apply pw_below_drewN | apply below_drew1) | exact HB.out)))); (case aL => have := LMc45.out; omega); intro v264 w53 ho hb hg hat; rw [← Ny263.out] at ho; have n0_ := Aside0.mk (Kd.N_afterv (ok := (fun k_ => (w.heap.size ≤ k_) ∧ some k_ ≠ (v241 : Value).ownBlock ∧ some k_ ≠ (.slice (some ad236) t233.length co5 : Value).ownBlock)) (by (with_reducible repeat (first | apply Kd.N_alloc | apply Kd.N_drewN | apply Kd.N_drew)); exact HO_5.out) hg hat); have n1_ := Aside0.mk (Kd.N_afterv (ok := (fun k_ => (w.heap.size ≤ k_) ∧ some k_ ≠ (.slice Ao14 x5_1.length co14 : Value).ownBlock ∧ some k_ ≠ (.slice (some ad236) t233.length co5 : Value).ownBlock ∧ some k_ ≠ (.slice Ao14 x5_1.length co14 : Value).ownBlock)) (by (with_reducible repeat (first | apply Kd.N_alloc | apply Kd.N_drewN | apply Kd.N_drew)); exact HO_8.out) hg hat); have n2_ := Aside0.mk (Kd.N_afterv (ok := (fun k_ => (w.heap.size ≤ k_) ∧ some k_ ≠ (.slice Ao14 x5_1.length co14 : Value).ownBlock ∧ some k_ ≠ (v241 : Value).ownBlock ∧ some k_ ≠ (.slice Ao14 x5_1.length co14 : Value).ownBlock)) (by (with_reducible repeat (first | apply Kd.N_alloc | apply Kd.N_drewN | apply Kd.N_drew)); exact HO_18.out) hg hat); have n3_ := Aside0.mk (Kd.N_afterv (ok := (fun k_ => (w.heap.size ≤ k_) ∧ some k_ ≠ (v241 : Value).ownBlock ∧ some k_ ≠ (.slice (some ad236) t233.length co5 : Value).ownBlock)) (by (with_reducible repeat (first | apply Kd.N_alloc | apply Kd.N_drewN | apply Kd.N_drew)); exact HO_30.out) hg hat); have n4_ := Aside0.mk (Kd.V_afterv (ok := (fun k_ => (w.heap.size ≤ k_) ∧ some k_ ≠ (v241 : Value).ownBlock ∧ some k_ ≠ (.slice (some ad236) t233.length co5 : Value).ownBlock)) (by (with_reducible repeat (first | apply Kd.V_alloc | apply Kd.V_drewN | apply Kd.V_drew)); exact HO262.out) hg hat); have n5_ := Aside0.mk (hb); have n6_ := Aside0.mk (ho); clear HO_5; clear HO_8; clear HO_18; clear HO_30; clear HO262; clear HB; clear HO257; have HO_5 := n0_; have HO_8 := n1_; have HO_18 := n2_; have HO_30 := n3_; have HO262 := n4_; have HB := n5_; have HO265 := n6_; clear n0_ n1_ n2_ n3_ n4_ n5_ n6_; clear ho hb hg hat))
                              have n0_ := Aside0.mk (Kd.N_drew HO_5.out)
                              have n1_ := Aside0.mk (Kd.N_drew HO_8.out)
                              have n2_ := Aside0.mk (Kd.N_drew HO_18.out)
                              have n3_ := Aside0.mk (Kd.N_drew HO_30.out)
                              have n4_ := Aside0.mk (Kd.V_drew HO262.out)
                              have n5_ := Aside0.mk (Kd.N_drew HO265.out)
                              have n6_ := Aside0.mk (below_drew1 HB.out)
                              clear HO_5
                              clear HO_8
                              clear HO_18
                              clear HO_30
                              clear HO262
                              clear HO265
                              clear HB
                              have HO_5 := n0_
                              have HO_8 := n1_
                              have HO_18 := n2_
                              have HO_30 := n3_
                              have HO262 := n4_
                              have HO265 := n5_
                              have HB := n6_
                              clear n0_ n1_ n2_ n3_ n4_ n5_ n6_
                              have q55 : (x9_2 : Int) ≤ ((x5_1.length : Int) : Int) := of_decide_eq_true (by first | (with_reducible assumption) | assumption)
                              obtain ⟨i055, hi055, _, hsz55, _⟩ := info_parts info31
                              have hroom55 : x5_1.length ≤ co14 := (Kd.N_reads' HO_5.out).2.1
                              have hC55 : Kd.F (Kd.slice 22 (Kd.slice 3 (Kd.int .i64))) _ _ Ao14 x5_1.length x5_1 := (Kd.V_at (base := w.heap.size) (Kd.N_V HO_5.out)).2.2
                              have q055 : (0 : Int) ≤ (x9_2 : Int) := of_decide_eq_true (by first | (with_reducible assumption) | assumption)
                              have hcut55 := cut_from (P := Try.prog) 38 31 .i64 Try.underlying38 hi055 1 hsz55 Ao14 x5_1.length co14 x9_2 q055 q55
                              have hr55 := Kd.F_cut (m := (x9_2 : Int).toNat) (c := co14) hC55 (by omega) hroom55
                              obtain ⟨A55, hA55⟩ : ∃ A1, A1 = (if co14 = (x9_2 : Int).toNat then Ao14 else (Ao14 : Option Addr).map (·.add ((x9_2 : Int).toNat * 1))) := ⟨_, rfl⟩
                              obtain ⟨c55, hc55⟩ : ∃ c1, c1 = co14 - (x9_2 : Int).toNat := ⟨_, rfl⟩
                              have hy55 : y269.length = x5_1.length - (x9_2 : Int).toNat := (by rw [Ny269.out, List.length_drop] <;> omega)
                              rw [show (x5_1).drop (x9_2 : Int).toNat = y269 from Ny269.out.symm] at hr55
                              replace hr55 : Kd.F (Kd.slice 22 (Kd.slice 3 (Kd.int .i64))) _ _ A55 y269.length y269 := (by rw [hA55]; exact hr55)
                              rw [← hy55, ← hA55, ← hc55] at hcut55
                              have HO273 := Aside0.mk (show Kd.V (Kd.slice 22 (Kd.slice 3 (Kd.int .i64))) 31 _ w.heap.size _ (.slice A55 y269.length c55) y269 from Kd.V_mk (by rw [hy55, hc55]; exact Nat.sub_le_sub_right hroom55 _) hr55)
                              have HC273 := Aside0.mk (show y269.length ≤ c55 from by rw [hy55, hc55]; exact Nat.sub_le_sub_right hroom55 _)
                              clear hr55 hC55 hroom55 hi055 hsz55 hc55
                              have KY55 := Aside0.mk hy55
                              have KA55 := Aside0.mk hA55
                              clear hy55 hA55
                              replace q55 := eq_true q55
                              obtain ⟨Ao57, co57, eo57⟩ := Kd.N_slice HO_8.out
                              (first | subst eo57 | (injection eo57 with f1_ f2_ f3_; have f4_ := f1_.symm; have f5_ := f3_.symm; clear f1_ f2_ f3_; subst f4_; subst f5_))
                              refine start_ (n := 9) (S := fun w' => True) (ds := []) #[false, false, false, false, false, false, false, false, false] (by kernel_rfl) rfl rfl trivial (fun hHeld => ?_); refine with_tabW spec_gpCycles.tab16 spec_gpCycles.bits16 (fun HT_ HW_ => ?_)
                              generalize w53.drew = w54 at HO_5 HO_8 HO_18 HO_30 HO262 HO265 HB HO273 hHeld ⊢
                              refine pure_ (i := 0) (N := some 67) (v := ?_) (a' := ?_) #[true, false, false, false, false, false, false, false, false] rfl rfl (any_of HT_.out (by kernel_rfl)) (fun _ _ _ h => h) (Or.inl ⟨by rfl, ?_⟩) ?_ ?_
                              rotate_left
                              · intro w'
                                go_simp
                                with_reducible rfl
                              rotate_left
                              · simp only [Act.put, List.setIfInBounds_toArray, List.set_cons_zero, List.set_cons_succ, i64_w, i32_w]
                                rfl
                              refine pure_ (i := 1) (N := some 68) (v := ?_) (a' := ?_) #[true, true, false, false, false, false, false, false, false] rfl rfl (any_of HT_.out (by kernel_rfl)) (fun _ _ _ h => h) (Or.inl ⟨by rfl, ?_⟩) ?_ ?_
                              rotate_left
                              · intro w'
                                go_simp
                                with_reducible rfl
                              rotate_left
                              · simp only [Act.put, List.setIfInBounds_toArray, List.set_cons_zero, List.set_cons_succ, i64_w, i32_w]
                                rfl
                              refine pure_ (i := 4) (N := some 71) (v := ?_) (a' := ?_) #[true, true, false, false, true, false, false, false, false] rfl rfl (any_of HT_.out (by kernel_rfl)) (fun _ _ _ h => h) (Or.inl ⟨by rfl, ?_⟩) ?_ ?_
                              rotate_left
                              · intro w'
                                go_simp
                                with_reducible rfl
                              rotate_left
                              · simp only [Act.put, List.setIfInBounds_toArray, List.set_cons_zero, List.set_cons_succ, i64_w, i32_w]
                                rfl
                              refine pure_ (i := 5) (N := some 72) (v := ?_) (a' := ?_) #[true, true, false, false, true, true, false, false, false] rfl rfl (any_of HT_.out (by kernel_rfl)) (fun _ _ _ h => h) (Or.inl ⟨by rfl, ?_⟩) ?_ ?_
                              rotate_left
                              · intro w'
                                go_simp
                                with_reducible rfl
                              rotate_left
                              · simp only [Act.put, List.setIfInBounds_toArray, List.set_cons_zero, List.set_cons_succ, i64_w, i32_w]
                                rfl
                              refine pure_ (i := 6) (N := some 73) (v := ?_) (a' := ?_) #[true, true, false, false, true, true, true, false, false] rfl rfl (any_of HT_.out (by kernel_rfl)) (fun _ _ _ h => h) (Or.inl ⟨by rfl, ?_⟩) ?_ ?_
                              rotate_left
                              · intro w'
                                go_simp
                                with_reducible rfl
                              rotate_left
                              · simp only [Act.put, List.setIfInBounds_toArray, List.set_cons_zero, List.set_cons_succ, i64_w, i32_w]
                                rfl
                              refine one_ (i := 2) (N := some 69) #[true, true, true, false, true, true, true, false, false] rfl rfl (one_of HT_.out (by kernel_rfl)) (by decide) (fun K hK => ?_)
                              refine value_ (w1 := ?_) (v := ?_) (by rfl) rfl ?_ ?_
                              rotate_left 2
                              · go_simp
                                constructor
                                · rfl
                                · rfl
                              refine hK.out _ _ trivial (fun hHeld => ?_)
                              clear hK K
                              refine norm_ (a' := ?_) ?_ ?_
                              rotate_left
                              · show Act.put _ (some 69) _ = _
                                simp only [Act.put, List.setIfInBounds_toArray, List.set_cons_zero, List.set_cons_succ, i64_w, i32_w]
                                rfl
                              refine one_ (i := 3) (N := some 70) #[true, true, true, true, true, true, true, false, false] rfl rfl (one_of HT_.out (by kernel_rfl)) (by decide) (fun K hK => ?_)
                              refine Kd.N_append_step (Kd.slice 22 (Kd.slice 3 (Kd.int .i64))) (w0 := w) w.heap.size (by rfl) (.tmp 67) (.tmp 69) 38 31 (.slice none 0 0) 24 rfl Try.underlying38 info31 rfl (by decide) (by omega) v264 y263 t240 [.slice Ao57 t240.length co57] (fun k_ => (w.heap.size ≤ k_) ∧ some k_ ≠ (.slice (some ad236) t233.length co5 : Value).ownBlock) (fun k_ => ((fun k_ => (w.heap.size ≤ k_) ∧ some k_ ≠ (.slice (some ad236) t233.length co5 : Value).ownBlock)) k_ ∧ some k_ ≠ (v264 : Value).ownBlock) rfl rfl ?aP (fun _ hk => hk) ?aF ?aO ?aB ?aS ?aL ?_
                              (case aP => exact (Kd.FK_slice_mk (Kd.N_reads' (Kd.N_mono (ok' := (fun k_ => ((fun k_ => (w.heap.size ≤ k_) ∧ some k_ ≠ (.slice (some ad236) t233.length co5 : Value).ownBlock)) k_ ∧ some k_ ≠ (v264 : Value).ownBlock)) (HO_8.out) (fun k_ hk => ⟨⟨hk.1.1, hk.1.2.2.1⟩, hk.2⟩))).2.1 (Kd.N_F (Kd.N_mono (ok' := (fun k_ => ((fun k_ => (w.heap.size ≤ k_) ∧ some k_ ≠ (.slice (some ad236) t233.length co5 : Value).ownBlock)) k_ ∧ some k_ ≠ (v264 : Value).ownBlock)) (HO_8.out) (fun k_ hk => ⟨⟨hk.1.1, hk.1.2.2.1⟩, hk.2⟩)))))
                              (case aB => exact (by repeat (first | (with_reducible first | exact HB.out | apply below_alloc | apply pw_below_drewN | apply below_drew1) | exact HB.out)))
                              (case aF => exact (fun k_ hk => ⟨(Nat.le_trans (below_size (by repeat (first | (with_reducible first | exact HB.out | apply below_alloc | apply pw_below_drewN | apply below_drew1) | exact HB.out))) hk), Kd.fresh' (Kd.N_lt (by (with_reducible repeat (first | apply Kd.N_alloc | apply Kd.N_drewN | apply Kd.N_drew)); exact HO_18.out)) k_ hk⟩))
                              (case aO => exact (by (with_reducible repeat (first | apply Kd.N_alloc | apply Kd.N_drewN | apply Kd.N_drew)); exact Kd.N_mono HO265.out (fun _ hk => ⟨hk.1, hk.2.2⟩)))
                              (case aS => exact (below_size (by repeat (first | (with_reducible first | exact HB.out | apply below_alloc | apply pw_below_drewN | apply below_drew1) | exact HB.out))))
                              (case aL => have := LMc46.out; omega)
                              intro v267 w56 ho hb hg hat
                              rw [← Ny266.out] at ho
                              have n0_ := Aside0.mk (Kd.N_afterv (ok := (fun k_ => (w.heap.size ≤ k_) ∧ some k_ ≠ (.slice Ao57 t240.length co57 : Value).ownBlock ∧ some k_ ≠ (.slice (some ad236) t233.length co5 : Value).ownBlock)) (by (with_reducible repeat (first | apply Kd.N_alloc | apply Kd.N_drewN | apply Kd.N_drew)); exact HO_5.out) hg hat)
                              have n1_ := Aside0.mk (Kd.N_afterv (ok := (fun k_ => (w.heap.size ≤ k_) ∧ some k_ ≠ (.slice Ao14 x5_1.length co14 : Value).ownBlock ∧ some k_ ≠ (.slice Ao57 t240.length co57 : Value).ownBlock ∧ some k_ ≠ (.slice Ao14 x5_1.length co14 : Value).ownBlock)) (by (with_reducible repeat (first | apply Kd.N_alloc | apply Kd.N_drewN | apply Kd.N_drew)); exact HO_18.out) hg hat)
                              have n2_ := Aside0.mk (Kd.N_afterv (ok := (fun k_ => (w.heap.size ≤ k_) ∧ some k_ ≠ (.slice Ao57 t240.length co57 : Value).ownBlock ∧ some k_ ≠ (.slice (some ad236) t233.length co5 : Value).ownBlock)) (by (with_reducible repeat (first | apply Kd.N_alloc | apply Kd.N_drewN | apply Kd.N_drew)); exact HO_30.out) hg hat)
                              have n3_ := Aside0.mk (Kd.V_afterv (ok := (fun k_ => (w.heap.size ≤ k_) ∧ some k_ ≠ (.slice Ao57 t240.length co57 : Value).ownBlock ∧ some k_ ≠ (.slice (some ad236) t233.length co5 : Value).ownBlock)) (by (with_reducible repeat (first | apply Kd.V_alloc | apply Kd.V_drewN | apply Kd.V_drew)); exact HO262.out) hg hat)
                              have n4_ := Aside0.mk (Kd.V_afterv (ok := (fun k_ => (w.heap.size ≤ k_) ∧ some k_ ≠ (.slice Ao57 t240.length co57 : Value).ownBlock ∧ some k_ ≠ (.slice (some ad236) t233.length co5 : Value).ownBlock)) (by (with_reducible repeat (first | apply Kd.V_alloc | apply Kd.V_drewN | apply Kd.V_drew)); exact HO273.out) hg hat)
                              have n5_ := Aside0.mk (hb)
                              have n6_ := Aside0.mk (ho)
                              clear HO_5
                              clear HO_18
                              clear HO_30
                              clear HO262
                              clear HO273
                              clear HB
                              clear HO265
                              clear HO_8
                              have HO_5 := n0_
                              have HO_18 := n1_
                              have HO_30 := n2_
                              have HO262 := n3_
                              have HO273 := n4_
                              have HB := n5_
                              have HO268 := n6_
                              clear n0_ n1_ n2_ n3_ n4_ n5_ n6_
                              clear ho hb hg hat
                              refine hK.out _ _ trivial (fun hHeld => ?_)
                              clear hK K
                              refine norm_ (a' := ?_) ?_ ?_
                              rotate_left
                              · show Act.put _ (some 70) _ = _
                                simp only [Act.put, List.setIfInBounds_toArray, List.set_cons_zero, List.set_cons_succ, i64_w, i32_w]
                                rfl
                              refine one_ (i := 7) (N := some 74) #[true, true, true, true, true, true, true, true, false] rfl rfl (one_of HT_.out (by kernel_rfl)) (by decide) (fun K hK => ?_)
                              refine Kd.N_append_rows_step (Kd.slice 22 (Kd.slice 3 (Kd.int .i64))) (w0 := w) w.heap.size (by rfl) (.tmp 70) (.tmp 73) 38 31 (.slice none 0 0) 24 rfl Try.underlying38 info31 rfl (by decide) (by omega) v267 y266 y269 _ _ _ (fun k_ => (w.heap.size ≤ k_) ∧ some k_ ≠ (.slice (some ad236) t233.length co5 : Value).ownBlock) (fun k_ => ((fun k_ => (w.heap.size ≤ k_) ∧ some k_ ≠ (.slice (some ad236) t233.length co5 : Value).ownBlock)) k_ ∧ some k_ ≠ (v267 : Value).ownBlock) rfl rfl ?aO ?aR (fun _ hk => hk) ?aF ?aB ?aS ?aL ?_
                              (case aR => exact (by skip; exact Kd.V_F (Kd.V_mono (ok' := (fun k_ => ((fun k_ => (w.heap.size ≤ k_) ∧ some k_ ≠ (.slice (some ad236) t233.length co5 : Value).ownBlock)) k_ ∧ some k_ ≠ (v267 : Value).ownBlock)) (HO273.out) (fun k_ hk => ⟨⟨hk.1.1, hk.1.2.2⟩, hk.2⟩))))
                              (case aB => exact (by repeat (first | (with_reducible first | exact HB.out | apply below_alloc | apply pw_below_drewN | apply below_drew1) | exact HB.out)))
                              (case aF => exact (fun k_ hk => ⟨(Nat.le_trans (below_size (by repeat (first | (with_reducible first | exact HB.out | apply below_alloc | apply pw_below_drewN | apply below_drew1) | exact HB.out))) hk), Kd.fresh' (Kd.N_lt (by (with_reducible repeat (first | apply Kd.N_alloc | apply Kd.N_drewN | apply Kd.N_drew)); exact HO_18.out)) k_ hk⟩))
                              (case aO => exact (by (with_reducible repeat (first | apply Kd.N_alloc | apply Kd.N_drewN | apply Kd.N_drew)); exact HO268.out))
                              (case aS => exact (below_size (by repeat (first | (with_reducible first | exact HB.out | apply below_alloc | apply pw_below_drewN | apply below_drew1) | exact HB.out))))
                              (case aL => have := LMc49.out; omega)
                              intro v275 w58 ho hb hg hat
                              rw [← Ny274.out] at ho
                              have n0_ := Aside0.mk (Kd.N_afterv (ok := (fun k_ => (w.heap.size ≤ k_) ∧ some k_ ≠ (.slice (some ad236) t233.length co5 : Value).ownBlock)) (by (with_reducible repeat (first | apply Kd.N_alloc | apply Kd.N_drewN | apply Kd.N_drew)); exact Kd.N_mono HO_5.out (fun _ hk => ⟨⟨hk.1.1, hk.1.2.2⟩, hk.2⟩)) hg hat)
                              have n1_ := Aside0.mk (Kd.N_afterv (ok := (fun k_ => (w.heap.size ≤ k_) ∧ some k_ ≠ (.slice Ao14 x5_1.length co14 : Value).ownBlock ∧ some k_ ≠ (.slice Ao14 x5_1.length co14 : Value).ownBlock)) (by (with_reducible repeat (first | apply Kd.N_alloc | apply Kd.N_drewN | apply Kd.N_drew)); exact Kd.N_mono HO_18.out (fun _ hk => ⟨⟨hk.1.1, ⟨hk.1.2.1, hk.1.2.2.2⟩⟩, hk.2⟩)) hg hat)
                              have n2_ := Aside0.mk (Kd.N_afterv (ok := (fun k_ => (w.heap.size ≤ k_) ∧ some k_ ≠ (.slice (some ad236) t233.length co5 : Value).ownBlock)) (by (with_reducible repeat (first | apply Kd.N_alloc | apply Kd.N_drewN | apply Kd.N_drew)); exact Kd.N_mono HO_30.out (fun _ hk => ⟨⟨hk.1.1, hk.1.2.2⟩, hk.2⟩)) hg hat)
                              have n3_ := Aside0.mk (Kd.V_afterv (ok := (fun k_ => (w.heap.size ≤ k_) ∧ some k_ ≠ (.slice (some ad236) t233.length co5 : Value).ownBlock)) (by (with_reducible repeat (first | apply Kd.V_alloc | apply Kd.V_drewN | apply Kd.V_drew)); exact Kd.V_mono HO262.out (fun _ hk => ⟨⟨hk.1.1, hk.1.2.2⟩, hk.2⟩)) hg hat)
                              have n4_ := Aside0.mk (Kd.V_afterv (ok := (fun k_ => (w.heap.size ≤ k_) ∧ some k_ ≠ (.slice (some ad236) t233.length co5 : Value).ownBlock)) (by (with_reducible repeat (first | apply Kd.V_alloc | apply Kd.V_drewN | apply Kd.V_drew)); exact Kd.V_mono HO273.out (fun _ hk => ⟨⟨hk.1.1, hk.1.2.2⟩, hk.2⟩)) hg hat)
                              have n5_ := Aside0.mk (hb)
                              have n6_ := Aside0.mk (ho)
                              clear HO_5
                              clear HO_18
                              clear HO_30
                              clear HO262
                              clear HO273
                              clear HB
                              clear HO268
                              have HO_5 := n0_
                              have HO_18 := n1_
                              have HO_30 := n2_
                              have HO262 := n3_
                              have HO273 := n4_
                              have HB := n5_
                              have HO276 := n6_
                              clear n0_ n1_ n2_ n3_ n4_ n5_ n6_
                              clear ho hb hg hat
                              refine hK.out _ _ trivial (fun hHeld => ?_)
                              clear hK K
                              refine norm_ (a' := ?_) ?_ ?_
                              rotate_left
                              · show Act.put _ (some 74) _ = _
                                simp only [Act.put, List.setIfInBounds_toArray, List.set_cons_zero, List.set_cons_succ, i64_w, i32_w]
                                rfl
                              refine pure_ (i := 8) (N := some 5) (v := ?_) (a' := ?_) #[true, true, true, true, true, true, true, true, true] rfl rfl (any_of HT_.out (by kernel_rfl)) (fun _ _ _ h => h) (Or.inl ⟨by rfl, ?_⟩) ?_ ?_
                              rotate_left
                              · intro w'
                                go_simp
                                with_reducible rfl
                              rotate_left
                              · simp only [Act.put, List.setIfInBounds_toArray, List.set_cons_zero, List.set_cons_succ, i64_w, i32_w]
                                rfl
                              refine done_ (done_of HT_.out (by kernel_rfl)) ?_
                              try go_wp2
                              go_roundg k2
                              case measure => have := HK1.out; have := HK2.out; omega
                              case rel => exact ⟨(y274), (wrap64 (x20_1 + 1)), (by first | rfl | (simp; done) | (simp [*]; done)), H', ⟨by have := HK1.out; have := HK2.out; omega⟩, ⟨by (with_reducible repeat (first | apply Kd.N_alloc | apply Kd.N_drewN | apply Kd.N_drew)); exact HO276.out⟩, ⟨by (with_reducible repeat (first | apply Kd.N_alloc | apply Kd.N_drewN | apply Kd.N_drew)); exact Kd.N_mono HO_18.out (fun _ hk => ⟨hk.1.1, hk.2⟩)⟩, ⟨by repeat (first | (with_reducible first | exact HB.out | apply below_alloc | apply pw_below_drewN | apply below_drew1) | exact HB.out)⟩⟩
                            · rw [if_neg c49] at H
                              exact absurd H (by simp)
                          · rw [if_neg c46] at H
                            exact absurd H (by simp)
                        · rw [if_neg c45] at H
                          exact absurd H (by simp)
                      · rw [if_neg c44] at H
                        exact absurd H (by simp)
                    · rw [if_neg c43] at H
                      exact absurd H (by simp)
          · rw [if_neg c8] at H
            exact absurd H (by simp)
        · rw [if_neg c7] at H
          exact absurd H (by simp)
      · rw [if_neg c6] at H
        have c6b0 : decide (x20_1 < (t233.length : Int)) = false := decide_eq_false c6
        clear c6
        obtain rfl := Option.some.inj H
        go_wp2
        go_ret
        exact ⟨_, by first | rfl | (simp [errW_none, errW_some] <;> rfl) | (simp [*, errW_none, errW_some] <;> rfl), by (with_reducible repeat (first | apply Kd.N_alloc | apply Kd.N_drewN | apply Kd.N_drew)); exact Kd.N_mono HO_5.out (fun _ hk => hk.1), by repeat (first | (with_reducible first | exact HB.out | apply below_alloc | apply pw_below_drewN | apply below_drew1) | exact HB.out)⟩

end Go.Proofs.Yteojcnegdcopdaa.PFnExactFixedWords
