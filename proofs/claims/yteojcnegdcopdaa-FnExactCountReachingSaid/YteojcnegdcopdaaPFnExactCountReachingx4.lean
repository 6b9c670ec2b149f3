-- Written by a program of this session (hook.py): functions, contracts and walks in the printer's form; contracts of this session's own where the printer takes none
import Derived.Test.YteojcnegdcopdaaPFnExactCountReachingx0
import Derived.Test.YteojcnegdcopdaaPFnExactCountReachingx2
import Derived.Test.YteojcnegdcopdaaPFnExactCountReachingx3
namespace Go.Proofs.Yteojcnegdcopdaa.PFnExactCountReaching
open Go.RowKit Go.Proofs.YteojcnegdcopdaaW.PrintWords Go.Proofs.YteojcnegdcopdaaW.PrintLast Go.Proofs.YteojcnegdcopdaaW.PrintMore
attribute [local go_sem] max2_int min2_int max_two min_two max_three min_three max_four min_four   -- for this text's walks alone
set_option linter.unusedVariables false
set_option linter.unusedSimpArgs false

/-! ### spec_gpCycles: function 57 -/
mutual
def spec_gpCycles.l0 : Nat → Int → Int → List (List (List Int)) → List (List Int) → Int → Int → Option ((List (List (List Int))))
  | 0, _, _, _, _, _, _ => none
  | k + 1, x0, x1, x5, x18, x19, x20 => if x20 < x19 then (if 0 ≤ x20 then (if x20 < (x18.length : Int) then ((spec_gpBy.f k (rd_L1 x18 x20) x0 x1).bind fun t232 => ((spec_gpCycle.f k t232 x1).bind fun t235 => (spec_gpCycles.l1 k x0 x1 x5 t235 0 false x18 x19 x20 x5 (x5.length : Int) 0))) else (none)) else (none)) else (some x5)
def spec_gpCycles.l1 : Nat → Int → Int → List (List (List Int)) → List (List Int) → Int → Bool → List (List Int) → Int → Int → List (List (List Int)) → Int → Int → Option ((List (List (List Int))))
  | 0, _, _, _, _, _, _, _, _, _, _, _, _ => none
  | k + 1, x0, x1, x5, x8, x9, x10, x18, x19, x20, x30, x31, x32 => if x32 < x31 then (if 0 ≤ x32 then (if x32 < (x30.length : Int) then (if x10 = true then (if 0 < ((rd_L2 x30 x32).length : Int) then ((spec_gpValue.f k (rd_L1 (rd_L2 x30 x32) 0) x1).bind fun t240 => (if 0 < (x8.length : Int) then ((spec_gpValue.f k (rd_L1 x8 0) x1).bind fun t242 => (if t240 < t242 then (spec_gpCycles.l1 k x0 x1 x5 x8 (wrap64 (x9 + 1)) true x18 x19 x20 x30 x31 (wrap64 (x32 + 1))) else (spec_gpCycles.l1 k x0 x1 x5 x8 x9 true x18 x19 x20 x30 x31 (wrap64 (x32 + 1))))) else (none))) else (none)) else (if 0 < ((rd_L2 x30 x32).length : Int) then (if 0 < (x8.length : Int) then ((spec_l1Same.f k (rd_L1 (rd_L2 x30 x32) 0) (rd_L1 x8 0)).bind fun t245 => ((spec_gpValue.f k (rd_L1 (rd_L2 x30 x32) 0) x1).bind fun t247 => ((spec_gpValue.f k (rd_L1 x8 0) x1).bind fun t249 => (if t247 < t249 then (spec_gpCycles.l1 k x0 x1 x5 x8 (wrap64 (x9 + 1)) t245 x18 x19 x20 x30 x31 (wrap64 (x32 + 1))) else (spec_gpCycles.l1 k x0 x1 x5 x8 x9 t245 x18 x19 x20 x30 x31 (wrap64 (x32 + 1))))))) else (none)) else (none))) else (none)) else (none)) else (if x10 = true then (spec_gpCycles.l0 k x0 x1 x5 x18 x19 (wrap64 (x20 + 1))) else ((some (([] : List (List (List Int))) : List (List (List Int)))).bind fun y250 => (if 0 ≤ x9 then (if x9 ≤ (x5.length : Int) then ((some (x5.take (x9 : Int).toNat : List (List (List Int)))).bind fun y253 => (if y250.length + y253.length < 5864062014805 then ((some (y250 ++ y253 : List (List (List Int)))).bind fun y258 => (if y258.length < 5864062014805 then ((some (y258 ++ [x8] : List (List (List Int)))).bind fun y261 => ((some (x5.drop (x9 : Int).toNat : List (List (List Int)))).bind fun y264 => (if y261.length + y264.length < 5864062014805 then (spec_gpCycles.l0 k x0 x1 (y261 ++ y264) x18 x19 (wrap64 (x20 + 1))) else (none)))) else (none))) else (none))) else (none)) else (none))))
end
def spec_gpCycles.f (k : Nat) (a0 : Int) (a1 : Int) : Option ((List (List (List Int)))) := (spec_gpAll.f k ([] : List Int) (wrap64 (Int.tdiv a0 2)) (wrap64 (a1 - 1))).bind fun t228 => (spec_gpCycles.l0 k a0 a1 ([] : List (List (List Int))) t228 (t228.length : Int) 0)
def spec_gpCycles.T10 : Bool × List (List Nat × List Nat) := (true, [([], []), ([0], [0]), ([1], [1]), ([2, 1], [1, 2]), ([3, 1], [1, 3]), ([1], [1]), ([5, 1], [1, 5]), ([6, 1], [1, 6]), ([4, 7, 1, 1], [1, 4, 7]), ([1, 8], [1, 8]), ([9, 8, 0, 1, 2, 3, 4, 5, 6, 7, 8, 9], [0, 9])])
def spec_gpCycles.B10 : List Nat := [0, 1, 3, 7, 15, 3, 35, 99, 255, 511, 1023]
theorem spec_gpCycles.tab10 : rtab .any (opsOf Try.f57 10) = spec_gpCycles.T10 := by kernel_rfl
theorem spec_gpCycles.bits10 : waitsOk spec_gpCycles.T10.2 spec_gpCycles.B10 = true := by kernel_rfl
def spec_gpCycles.T11 : Bool × List (List Nat × List Nat) := (true, [([], []), ([0], [0]), ([1], [1]), ([], []), ([2, 3], [2, 3]), ([], []), ([5], [5]), ([6], [6]), ([], []), ([7, 8, 4], [7, 8]), ([4, 9], [4, 9])])
def spec_gpCycles.B11 : List Nat := [0, 1, 3, 0, 15, 0, 32, 96, 0, 511, 1023]
theorem spec_gpCycles.tab11 : rtab .any (opsOf Try.f57 11) = spec_gpCycles.T11 := by kernel_rfl
theorem spec_gpCycles.bits11 : waitsOk spec_gpCycles.T11.2 spec_gpCycles.B11 = true := by kernel_rfl
def spec_gpCycles.T16 : Bool × List (List Nat × List Nat) := (true, [([], []), ([], []), ([1], [1]), ([0, 2], [0, 2]), ([], []), ([], []), ([4, 5], [4, 5]), ([3, 6, 3], [3, 6]), ([7, 7, 0, 1, 2, 3, 4, 5, 6, 7], [4, 7])])
def spec_gpCycles.B16 : List Nat := [0, 0, 2, 7, 0, 0, 48, 127, 255]
theorem spec_gpCycles.tab16 : rtab .any (opsOf Try.f57 16) = spec_gpCycles.T16 := by kernel_rfl
theorem spec_gpCycles.bits16 : waitsOk spec_gpCycles.T16.2 spec_gpCycles.B16 = true := by kernel_rfl
set_option maxHeartbeats 8000000 in
set_option maxRecDepth 100000 in
theorem spec_gpCycles.calls (k : Nat) (a0 : Int) (a1 : Int) (r : List (List (List Int))) (w : World) (h : spec_gpCycles.f k a0 a1 = some r) :
    Calls Try.prog 57 #[.int .i64 a0, .int .i64 a1] w fun e w' => ∃ v0_ : Value, e = .returned (v0_) ∧ Kd.N (Kd.slice 22 (Kd.slice 3 (Kd.int .i64))) 31 w' w.heap.size (fun k_ => (w.heap.size ≤ k_)) v0_ r ∧ Below w.heap.size w w' := by
  have HB := Aside0.mk (Below.refl w.heap.size w)
  have H : ((spec_gpAll.f k ([] : List Int) (wrap64 (Int.tdiv a0 2)) (wrap64 (a1 - 1))).bind fun t228 => (spec_gpCycles.l0 k a0 a1 ([] : List (List (List Int))) t228 (t228.length : Int) 0)) = some r := h
  clear h
  replace H := Option.bind_eq_some_iff.mp H
  obtain ⟨t228, A30, H⟩ := H
  replace H : (spec_gpCycles.l0 k a0 a1 ([] : List (List (List Int))) t228 (t228.length : Int) 0) = some r := H
  have A3 := Aside0.mk A30
  clear A30
  have H' := Aside0.mk H
  clear H
  go_enter Try.func57, Try.ntmps57
  go_wp2_with (first | ((with_reducible refine gate_callee (f := 53) rfl ?_); refine goesL_ (some 18) rfl rfl Try.func53 (by kernel_rfl) rfl #[.slice none 0 0, .int .i64 (wrap64 (Int.tdiv a0 2)), .int .i64 (wrap64 (a1 - 1))] rfl (by (try simp only [List.map_toArray, List.map_cons, List.map_nil]); first | done | rfl | (simp only [List.length_drop, List.length_take]; rfl)) ?_; (refine (spec_gpAll.calls k _ _ ([] : List Int) (wrap64 (Int.tdiv a0 2)) (wrap64 (a1 - 1)) t228 _ ?side1 ?side2 A3.out).mono ?_); (case side1 => exact Kd.C_nil _ _); (case side2 => exact Nat.le_refl _); rintro e w4 ⟨v229, rfl, ho0, hb⟩; refine ⟨_, rfl, ?_⟩; have n0_ := Aside0.mk (Kd.N_lower (Kd.N_mono (ok' := fun k_ => (w.heap.size ≤ k_)) ho0 (fun k_ hk_ => (Nat.le_trans (below_size (by repeat (first | (with_reducible first | exact HB.out | apply below_alloc | apply pw_below_drewN | apply below_drew1) | exact HB.out))) hk_))) (below_size (by repeat (first | (with_reducible first | exact HB.out | apply below_alloc | apply pw_below_drewN | apply below_drew1) | exact HB.out)))); have n1_ := Aside0.mk (below_step (by repeat (first | (with_reducible first | exact HB.out | apply below_alloc | apply pw_below_drewN | apply below_drew1) | exact HB.out)) hb); clear HB; have HO230 := n0_; have HB := n1_; clear n0_ n1_; (try clear hb); (try clear hb2); (try clear hk); (try clear hi); (try clear ho0); obtain ⟨Ao5, co5, eo5⟩ := Kd.N_slice HO230.out; subst eo5))
  go_loopg [5, 20] k (fun kq v5 v20 w' => ∃ (x5_1 : List (List (List Int))) (x20_1 : Int), v20 = .int .i64 x20_1 ∧ Aside0 (spec_gpCycles.l0 kq a0 a1 x5_1 t228 (t228.length : Int) x20_1 = some r) ∧ Aside0 (kq ≤ k) ∧ Aside0 (Kd.N (Kd.slice 22 (Kd.slice 3 (Kd.int .i64))) 31 w' w.heap.size (fun k_ => (w.heap.size ≤ k_) ∧ some k_ ≠ ((.slice Ao5 t228.length co5) : Value).ownBlock) v5 x5_1) ∧ Aside0 (Kd.N (Kd.slice 3 (Kd.int .i64)) 22 w' w.heap.size (fun k_ => (w.heap.size ≤ k_) ∧ some k_ ≠ (v5 : Value).ownBlock) (.slice Ao5 t228.length co5) t228) ∧ Aside0 (Below w.heap.size w w'))
  case atStart => exact ⟨(([] : List (List (List Int)))), (0), (by first | rfl | (simp; done) | (simp [*]; done)), H', ⟨Nat.le_refl _⟩, ⟨by first | exact Kd.R_nil _ _ _ _ _ | exact Kd.N_nil _ _ _ _ _ | exact Kd.V_nil _ _ _ _ _ | exact Kd.Q_nil _ _ _ _ _ | exact Kd.S_nil _ _ _ _ _⟩, ⟨by (with_reducible repeat (first | apply Kd.N_alloc | apply Kd.N_drewN | apply Kd.N_drew)); exact Kd.N_mono HO230.out (fun _ hk => ⟨hk, (by simp [Value.ownBlock])⟩)⟩, ⟨by repeat (first | (with_reducible first | exact HB.out | apply below_alloc | apply pw_below_drewN | apply below_drew1) | exact HB.out)⟩⟩
  case round =>
    clear H'
    try clear p2
    try clear c5
    obtain ⟨x5_1, x20_1, rfl, HA, HK1, HO_5, HO_18, HB⟩ := hrel
    cases gk with
    | zero => exact absurd HA.out (by simp [spec_gpCycles.l0])
    | succ k1 =>
      have H := HA.out
      clear HA
      simp only [spec_gpCycles.l0] at H
      by_cases c6 : x20_1 < (t228.length : Int)
      · rw [if_pos c6] at H
        have c6b0 : decide (x20_1 < (t228.length : Int)) = true := decide_eq_true c6
        clear c6
        by_cases c7 : 0 ≤ x20_1
        · rw [if_pos c7] at H
          have c7b0 : decide (0 ≤ x20_1) = true := decide_eq_true c7
          clear c7
          by_cases c8 : x20_1 < (t228.length : Int)
          · rw [if_pos c8] at H
            have c8b0 : decide (x20_1 < (t228.length : Int)) = true := decide_eq_true c8
            clear c8
            replace H := Option.bind_eq_some_iff.mp H
            obtain ⟨t232, A90, H⟩ := H
            replace H : ((spec_gpCycle.f k1 t232 a1).bind fun t235 => (spec_gpCycles.l1 k1 a0 a1 x5_1 t235 0 false t228 (t228.length : Int) x20_1 x5_1 (x5_1.length : Int) 0)) = some r := H
            have A9 := Aside0.mk A90
            clear A90
            replace H := Option.bind_eq_some_iff.mp H
            obtain ⟨t235, A100, H⟩ := H
            replace H : (spec_gpCycles.l1 k1 a0 a1 x5_1 t235 0 false t228 (t228.length : Int) x20_1 x5_1 (x5_1.length : Int) 0) = some r := H
            have A10 := Aside0.mk A100
            clear A100
            have H' := Aside0.mk H
            clear H
            have p231 : 0 ≤ (x20_1 : Int) := of_decide_eq_true (by first | (with_reducible assumption) | assumption)
            have q231 : x20_1 < (t228.length : Int) := of_decide_eq_true (by first | (with_reducible assumption) | assumption)
            obtain ⟨ad231, A231_0, c231_0, e231, hx231_0, hl231_0, hi231_0⟩ := at_L1 (Kd.N_reads' HO_18.out).2.2 x20_1 p231 q231
            cases e231
            obtain ⟨ce231, hce231, hMe231, hcc231⟩ := Kd.N_get HO_18.out [] x20_1 p231 (by first | exact q231 | exact of_decide_eq_true (by first | (with_reducible assumption) | assumption) | (have e_ := (Kd.N_reads' HO_18.out).1; omega))
            obtain ⟨ua231_0, uc231_0, rfl, ul231_0, ge231_0⟩ := Kd.FK_slice_open hMe231
            have hv231_0 := hcc231 0 _ rfl
            rw [Nat.add_zero, show ((Kd.slice 3 (Kd.int .i64))).sz = 1 from rfl, Nat.mul_one] at hv231_0
            replace hv231_0 := Option.some.inj (hv231_0.symm.trans hx231_0)
            injection hv231_0 with hva_ hvn_ hvc_
            rw [hva_] at ge231_0
            rw [hvc_] at ul231_0
            have HL231_0 := Aside0.mk (show Kd.V (Kd.int .i64) 3 _ w.heap.size _ _ (rd_L1 t228 x20_1) from Kd.V_mk ul231_0 ge231_0)
            clear hva_ hvn_ hvc_ ge231_0 ul231_0
            clear hcc231 hce231
            have HR231_0 := Aside0.mk hi231_0
            have HC231_0 := Aside0.mk hl231_0
            clear hi231_0 hl231_0
            replace p231 := eq_true p231
            replace q231 := eq_true q231
            go_wp2_with (first | ((with_reducible refine gate_callee (f := 89) rfl ?_); refine goesL_ (some 27) rfl rfl Try.func89 (by kernel_rfl) rfl #[.slice A231_0 (rd_L1 t228 x20_1).length c231_0, .int .i64 a0, .int .i64 a1] rfl (by (try simp only [List.map_toArray, List.map_cons, List.map_nil]); first | done | rfl | (simp only [List.length_drop, List.length_take]; rfl)) ?_; (with_reducible refine (spec_gpBy.calls k1 _ _ (rd_L1 t228 x20_1) a0 a1 t232 _ ?side1 ?side2 A9.out).mono ?_); (case side1 => repeat (first | exact (by repeat (first | (with_reducible exact HR231_0.out) | (with_reducible refine Kd.C_alloc ?_ _) | (with_reducible refine Kd.C_drewN ?_ _) | (with_reducible refine Kd.C_drew ?_) | exact HR231_0.out)) | (with_reducible refine Kd.C_alloc ?_ _) | (with_reducible refine Kd.C_drewN ?_ _) | (with_reducible refine Kd.C_drew ?_))); (case side2 => exact HC231_0.out); rintro e w11 ⟨v233, rfl, ho0, hb⟩; refine ⟨_, rfl, ?_⟩; have n0_ := Aside0.mk (Kd.N_elder' (by (with_reducible repeat (first | apply Kd.N_alloc | apply Kd.N_drewN | apply Kd.N_drew)); exact HO_5.out) (Kd.R_base ho0) hb); have n1_ := Aside0.mk (Kd.N_elder' (by (with_reducible repeat (first | apply Kd.N_alloc | apply Kd.N_drewN | apply Kd.N_drew)); exact HO_18.out) (Kd.R_base ho0) hb); have n2_ := Aside0.mk (Kd.V_elder' (by (with_reducible repeat (first | apply Kd.V_alloc | apply Kd.V_drewN | apply Kd.V_drew)); exact HL231_0.out) (Kd.R_base ho0) hb); have n3_ := Aside0.mk (Kd.R_lower (Kd.R_newM (M := fun k_ => (w.heap.size ≤ k_)) ho0 (below_size (by repeat (first | (with_reducible first | exact HB.out | apply below_alloc | apply pw_below_drewN | apply below_drew1) | exact HB.out))) (fun k_ h_ => h_)) (below_size (by repeat (first | (with_reducible first | exact HB.out | apply below_alloc | apply pw_below_drewN | apply below_drew1) | exact HB.out)))); have n4_ := Aside0.mk (Kd.C_below (by repeat (first | (with_reducible exact HR231_0.out) | (with_reducible refine Kd.C_alloc ?_ _) | (with_reducible refine Kd.C_drewN ?_ _) | (with_reducible refine Kd.C_drew ?_) | exact HR231_0.out)) hb); have n5_ := Aside0.mk (below_step (by repeat (first | (with_reducible first | exact HB.out | apply below_alloc | apply pw_below_drewN | apply below_drew1) | exact HB.out)) hb); clear HO_5; clear HO_18; clear HL231_0; clear HR231_0; clear HB; have HO_5 := n0_; have HO_18 := n1_; have HL231_0 := n2_; have HO234 := n3_; have HR231_0 := n4_; have HB := n5_; clear n0_ n1_ n2_ n3_ n4_ n5_; (try clear hb); (try clear hb2); (try clear hk); (try clear hi); (try clear ho0); obtain ⟨Ao12, co12, eo12⟩ := Kd.R_slice HO234.out; subst eo12) | ((with_reducible refine gate_callee (f := 50) rfl ?_); refine goesL_ (some 29) rfl rfl Try.func50 (by kernel_rfl) rfl #[.slice Ao12 t232.length co12, .int .i64 a1] rfl (by (try simp only [List.map_toArray, List.map_cons, List.map_nil]); first | done | rfl | (simp only [List.length_drop, List.length_take]; rfl)) ?_; (with_reducible refine (spec_gpCycle.calls k1 _ _ t232 a1 t235 _ ?side1 ?side2 A10.out).mono ?_); (case side1 => repeat (first | exact (Kd.R_reads' HO234.out).2.2 | (with_reducible refine Kd.C_alloc ?_ _) | (with_reducible refine Kd.C_drewN ?_ _) | (with_reducible refine Kd.C_drew ?_))); (case side2 => exact (Kd.R_reads' HO234.out).2.1); rintro e w13 ⟨v236, rfl, ho0, hb⟩; refine ⟨_, rfl, ?_⟩; have n0_ := Aside0.mk (Kd.N_elder' (by (with_reducible repeat (first | apply Kd.N_alloc | apply Kd.N_drewN | apply Kd.N_drew)); exact HO_5.out) (Kd.N_base ho0) hb); have n1_ := Aside0.mk (Kd.N_elder' (by (with_reducible repeat (first | apply Kd.N_alloc | apply Kd.N_drewN | apply Kd.N_drew)); exact HO_18.out) (Kd.N_base ho0) hb); have n2_ := Aside0.mk (Kd.V_elder' (by (with_reducible repeat (first | apply Kd.V_alloc | apply Kd.V_drewN | apply Kd.V_drew)); exact HL231_0.out) (Kd.N_base ho0) hb); have n3_ := Aside0.mk (Kd.R_below (by (with_reducible repeat (first | apply Kd.R_alloc | apply Kd.R_drewN | apply Kd.R_drew)); exact HO234.out) hb); have n4_ := Aside0.mk (Kd.N_lower (Kd.N_mono (ok' := fun k_ => (w.heap.size ≤ k_) ∧ some k_ ≠ (u5 : Value).ownBlock ∧ some k_ ≠ (.slice (some ad231) t228.length co5 : Value).ownBlock ∧ some k_ ≠ (.slice Ao12 t232.length co12 : Value).ownBlock) ho0 (fun k_ hk_ => ⟨(Nat.le_trans (below_size (by repeat (first | (with_reducible first | exact HB.out | apply below_alloc | apply pw_below_drewN | apply below_drew1) | exact HB.out))) hk_), (Kd.fresh' (Kd.N_lt (by (with_reducible repeat (first | apply Kd.N_alloc | apply Kd.N_drewN | apply Kd.N_drew)); exact HO_5.out)) k_ hk_), (Kd.fresh' (Kd.N_lt (by (with_reducible repeat (first | apply Kd.N_alloc | apply Kd.N_drewN | apply Kd.N_drew)); exact HO_18.out)) k_ hk_), (Kd.fresh' (Kd.R_lt (by (with_reducible repeat (first | apply Kd.R_alloc | apply Kd.R_drewN | apply Kd.R_drew)); exact HO234.out)) k_ hk_)⟩)) (below_size (by repeat (first | (with_reducible first | exact HB.out | apply below_alloc | apply pw_below_drewN | apply below_drew1) | exact HB.out)))); have n5_ := Aside0.mk (Kd.C_below (by repeat (first | (with_reducible exact HR231_0.out) | (with_reducible refine Kd.C_alloc ?_ _) | (with_reducible refine Kd.C_drewN ?_ _) | (with_reducible refine Kd.C_drew ?_) | exact HR231_0.out)) hb); have n6_ := Aside0.mk (below_step (by repeat (first | (with_reducible first | exact HB.out | apply below_alloc | apply pw_below_drewN | apply below_drew1) | exact HB.out)) hb); clear HO_5; clear HO_18; clear HL231_0; clear HO234; clear HR231_0; clear HB; have HO_5 := n0_; have HO_18 := n1_; have HL231_0 := n2_; have HO234 := n3_; have HO237 := n4_; have HR231_0 := n5_; have HB := n6_; clear n0_ n1_ n2_ n3_ n4_ n5_ n6_; (try clear hb); (try clear hb2); (try clear hk); (try clear hi); (try clear ho0); obtain ⟨Ao14, co14, eo14⟩ := Kd.N_slice HO_5.out; subst eo14))
            go_loopg [9, 10, 32] k1 (fun kq v9 v10 v32 w' => ∃ (x9_2 : Int) (x10_2 : Bool) (x32_2 : Int), v9 = .int .i64 x9_2 ∧ v10 = .bool x10_2 ∧ v32 = .int .i64 x32_2 ∧ Aside0 (spec_gpCycles.l1 kq a0 a1 x5_1 t235 x9_2 x10_2 t228 (t228.length : Int) x20_1 x5_1 (x5_1.length : Int) x32_2 = some r) ∧ Aside0 (kq ≤ k1) ∧ Aside0 (Kd.N (Kd.slice 22 (Kd.slice 3 (Kd.int .i64))) 31 w' w.heap.size (fun k_ => (w.heap.size ≤ k_) ∧ some k_ ≠ (v236 : Value).ownBlock ∧ some k_ ≠ ((.slice (some ad231) t228.length co5) : Value).ownBlock) (.slice Ao14 x5_1.length co14) x5_1) ∧ Aside0 (Kd.N (Kd.slice 3 (Kd.int .i64)) 22 w' w.heap.size (fun k_ => (w.heap.size ≤ k_) ∧ some k_ ≠ ((.slice Ao14 x5_1.length co14) : Value).ownBlock ∧ some k_ ≠ ((.slice (some ad231) t228.length co5) : Value).ownBlock ∧ some k_ ≠ ((.slice Ao14 x5_1.length co14) : Value).ownBlock) v236 t235) ∧ Aside0 (Kd.N (Kd.slice 3 (Kd.int .i64)) 22 w' w.heap.size (fun k_ => (w.heap.size ≤ k_) ∧ some k_ ≠ ((.slice Ao14 x5_1.length co14) : Value).ownBlock ∧ some k_ ≠ (v236 : Value).ownBlock ∧ some k_ ≠ ((.slice Ao14 x5_1.length co14) : Value).ownBlock) (.slice (some ad231) t228.length co5) t228) ∧ Aside0 (Kd.N (Kd.slice 22 (Kd.slice 3 (Kd.int .i64))) 31 w' w.heap.size (fun k_ => (w.heap.size ≤ k_) ∧ some k_ ≠ (v236 : Value).ownBlock ∧ some k_ ≠ ((.slice (some ad231) t228.length co5) : Value).ownBlock) (.slice Ao14 x5_1.length co14) x5_1) ∧ Aside0 (Kd.C (Kd.int .i64) w' A231_0 (rd_L1 t228 x20_1).length (rd_L1 t228 x20_1)) ∧ Aside0 (Below w.heap.size w w'))
            case atStart => exact ⟨(0), (false), (0), (by first | rfl | (simp; done) | (simp [*]; done)), (by first | rfl | (simp; done) | (simp [*]; done)), (by first | rfl | (simp; done) | (simp [*]; done)), H', ⟨Nat.le_refl _⟩, ⟨by (with_reducible repeat (first | apply Kd.N_alloc | apply Kd.N_drewN | apply Kd.N_drew)); exact Kd.N_mono HO_5.out (fun _ hk => ⟨hk.1.1.1, ⟨hk.2, hk.1.1.2⟩⟩)⟩, ⟨by (with_reducible repeat (first | apply Kd.N_alloc | apply Kd.N_drewN | apply Kd.N_drew)); exact Kd.N_mono HO237.out (fun _ hk => ⟨hk.1, ⟨hk.2.1, ⟨hk.2.2.1, hk.2.1⟩⟩⟩)⟩, ⟨by (with_reducible repeat (first | apply Kd.N_alloc | apply Kd.N_drewN | apply Kd.N_drew)); exact Kd.N_mono HO_18.out (fun _ hk => ⟨hk.1.1.1, ⟨hk.1.1.2, ⟨hk.2, hk.1.1.2⟩⟩⟩)⟩, ⟨by (with_reducible repeat (first | apply Kd.N_alloc | apply Kd.N_drewN | apply Kd.N_drew)); exact Kd.N_mono HO_5.out (fun _ hk => ⟨hk.1.1.1, ⟨hk.2, hk.1.1.2⟩⟩)⟩, ⟨by repeat (first | (with_reducible exact HR231_0.out) | (with_reducible refine Kd.C_alloc ?_ _) | (with_reducible refine Kd.C_drewN ?_ _) | (with_reducible refine Kd.C_drew ?_) | exact HR231_0.out)⟩, ⟨by repeat (first | (with_reducible first | exact HB.out | apply below_alloc | apply pw_below_drewN | apply below_drew1) | exact HB.out)⟩⟩
            case round =>
              clear H'
              try clear c2
              try clear p2
              try clear q2
              try clear hx2
              try clear c5
              try clear c6
              try clear c6b0
              try clear p6
              try clear c7
              try clear c7b0
              try clear c8
              try clear c8b0
              try clear hx231_0
              try clear p2
              try clear p231
              try clear q231
              obtain ⟨x9_2, x10_2, x32_2, rfl, rfl, rfl, HA, HK2, HO_5, HO_8, HO_18, HO_30, HR231_0, HB⟩ := hrel
              cases gk with
              | zero => exact absurd HA.out (by simp [spec_gpCycles.l1])
              | succ k2 =>
                have H := HA.out
                clear HA
                simp only [spec_gpCycles.l1] at H
                by_cases c15 : x32_2 < (x5_1.length : Int)
                · rw [if_pos c15] at H
                  have c15b0 : decide (x32_2 < (x5_1.length : Int)) = true := decide_eq_true c15
                  clear c15
                  by_cases c16 : 0 ≤ x32_2
                  · rw [if_pos c16] at H
                    have c16b0 : decide (0 ≤ x32_2) = true := decide_eq_true c16
                    clear c16
                    by_cases c17 : x32_2 < (x5_1.length : Int)
                    · rw [if_pos c17] at H
                      have c17b0 : decide (x32_2 < (x5_1.length : Int)) = true := decide_eq_true c17
                      clear c17
                      by_cases c18 : x10_2 = true
                      · subst c18
                        have H1 : (if 0 < ((rd_L2 x5_1 x32_2).length : Int) then ((spec_gpValue.f k2 (rd_L1 (rd_L2 x5_1 x32_2) 0) a1).bind fun t240 => (if 0 < (t235.length : Int) then ((spec_gpValue.f k2 (rd_L1 t235 0) a1).bind fun t242 => (if t240 < t242 then (spec_gpCycles.l1 k2 a0 a1 x5_1 t235 (wrap64 (x9_2 + 1)) true t228 (t228.length : Int) x20_1 x5_1 (x5_1.length : Int) (wrap64 (x32_2 + 1))) else (spec_gpCycles.l1 k2 a0 a1 x5_1 t235 x9_2 true t228 (t228.length : Int) x20_1 x5_1 (x5_1.length : Int) (wrap64 (x32_2 + 1))))) else (none))) else (none)) = some r := by rw [if_pos rfl] at H; exact H
                        clear H
                        have H := H1
                        clear H1
                        by_cases c19 : 0 < ((rd_L2 x5_1 x32_2).length : Int)
                        · rw [if_pos c19] at H
                          have c19b0 : decide (0 < ((rd_L2 x5_1 x32_2).length : Int)) = true := decide_eq_true c19
                          have c19b1 : decide (0 < (rd_L2 x5_1 x32_2).length) = true := decide_eq_true (by omega)
                          clear c19
                          replace H := Option.bind_eq_some_iff.mp H
                          obtain ⟨t240, A200, H⟩ := H
                          replace H : (if 0 < (t235.length : Int) then ((spec_gpValue.f k2 (rd_L1 t235 0) a1).bind fun t242 => (if t240 < t242 then (spec_gpCycles.l1 k2 a0 a1 x5_1 t235 (wrap64 (x9_2 + 1)) true t228 (t228.length : Int) x20_1 x5_1 (x5_1.length : Int) (wrap64 (x32_2 + 1))) else (spec_gpCycles.l1 k2 a0 a1 x5_1 t235 x9_2 true t228 (t228.length : Int) x20_1 x5_1 (x5_1.length : Int) (wrap64 (x32_2 + 1))))) else (none)) = some r := H
                          have A20 := Aside0.mk A200
                          clear A200
                          by_cases c21 : 0 < (t235.length : Int)
                          · rw [if_pos c21] at H
                            have c21b0 : decide (0 < (t235.length : Int)) = true := decide_eq_true c21
                            have c21b1 : decide (0 < t235.length) = true := decide_eq_true (by omega)
                            clear c21
                            replace H := Option.bind_eq_some_iff.mp H
                            obtain ⟨t242, A220, H⟩ := H
                            replace H : (if t240 < t242 then (spec_gpCycles.l1 k2 a0 a1 x5_1 t235 (wrap64 (x9_2 + 1)) true t228 (t228.length : Int) x20_1 x5_1 (x5_1.length : Int) (wrap64 (x32_2 + 1))) else (spec_gpCycles.l1 k2 a0 a1 x5_1 t235 x9_2 true t228 (t228.length : Int) x20_1 x5_1 (x5_1.length : Int) (wrap64 (x32_2 + 1)))) = some r := H
                            have A22 := Aside0.mk A220
                            clear A220
                            by_cases c23 : t240 < t242
                            · rw [if_pos c23] at H
                              have c23b0 : decide (t240 < t242) = true := decide_eq_true c23
                              clear c23
                              have H' := Aside0.mk H
                              clear H
                              have p238 : 0 ≤ (x32_2 : Int) := of_decide_eq_true (by first | (with_reducible assumption) | assumption)
                              have q238 : x32_2 < (x5_1.length : Int) := of_decide_eq_true (by first | (with_reducible assumption) | assumption)
                              obtain ⟨ad238, A238_0, c238_0, e238, hx238_0, hl238_0, hi238_0⟩ := at_L2 (Kd.N_reads' HO_30.out).2.2 x32_2 p238 q238
                              cases e238
                              obtain ⟨ce238, hce238, hMe238, hcc238⟩ := Kd.N_get HO_30.out [] x32_2 p238 (by first | exact q238 | exact of_decide_eq_true (by first | (with_reducible assumption) | assumption) | (have e_ := (Kd.N_reads' HO_30.out).1; omega))
                              obtain ⟨ua238_0, uc238_0, rfl, ul238_0, ge238_0⟩ := Kd.FK_slice_open hMe238
                              have hv238_0 := hcc238 0 _ rfl
                              rw [Nat.add_zero, show ((Kd.slice 22 (Kd.slice 3 (Kd.int .i64)))).sz = 1 from rfl, Nat.mul_one] at hv238_0
                              replace hv238_0 := Option.some.inj (hv238_0.symm.trans hx238_0)
                              injection hv238_0 with hva_ hvn_ hvc_
                              rw [hva_] at ge238_0
                              rw [hvc_] at ul238_0
                              have HL238_0 := Aside0.mk (show Kd.V (Kd.slice 3 (Kd.int .i64)) 22 _ w.heap.size _ _ (rd_L2 x5_1 x32_2) from Kd.V_mk ul238_0 ge238_0)
                              clear hva_ hvn_ hvc_ ge238_0 ul238_0
                              clear hcc238 hce238
                              have HR238_0 := Aside0.mk hi238_0
                              have HC238_0 := Aside0.mk hl238_0
                              clear hi238_0 hl238_0
                              replace p238 := eq_true p238
                              replace q238 := eq_true q238
                              try go_wp2
                              have n0_ := Aside0.mk (Kd.N_drew HO_5.out)
                              have n1_ := Aside0.mk (Kd.N_drew HO_8.out)
                              have n2_ := Aside0.mk (Kd.N_drew HO_18.out)
                              have n3_ := Aside0.mk (Kd.N_drew HO_30.out)
                              have n4_ := Aside0.mk (Kd.V_drew HL238_0.out)
                              have n5_ := Aside0.mk (Kd.C_drew HR231_0.out)
                              have n6_ := Aside0.mk (Kd.C_drew HR238_0.out)
                              have n7_ := Aside0.mk (below_drew1 HB.out)
                              clear HO_5
                              clear HO_8
                              clear HO_18
                              clear HO_30
                              clear HL238_0
                              clear HR231_0
                              clear HR238_0
                              clear HB
                              have HO_5 := n0_
                              have HO_8 := n1_
                              have HO_18 := n2_
                              have HO_30 := n3_
                              have HL238_0 := n4_
                              have HR231_0 := n5_
                              have HR238_0 := n6_
                              have HB := n7_
                              clear n0_ n1_ n2_ n3_ n4_ n5_ n6_ n7_
                              refine start_ (n := 11) (S := fun w' => True) (ds := []) #[false, false, false, false, false, false, false, false, false, false, false] (by kernel_rfl) rfl rfl trivial (fun hHeld => ?_); refine with_tabW spec_gpCycles.tab10 spec_gpCycles.bits10 (fun HT_ HW_ => ?_)
                              generalize wr.drew = w24 at HO_5 HO_8 HO_18 HO_30 HL238_0 HR231_0 HR238_0 HB hHeld ⊢
                              refine pure_ (i := 0) (N := some 36) (v := ?_) (a' := ?_) #[true, false, false, false, false, false, false, false, false, false, false] rfl rfl (any_of HT_.out (by kernel_rfl)) (fun _ _ _ h => h) (Or.inl ⟨by rfl, ?_⟩) ?_ ?_
                              rotate_left
                              · intro w'
                                go_simp
                                with_reducible rfl
                              rotate_left
                              · simp only [Act.put, List.setIfInBounds_toArray, List.set_cons_zero, List.set_cons_succ, i64_w, i32_w]
                                rfl
                              refine pure_ (i := 1) (N := some 37) (v := ?_) (a' := ?_) #[true, true, false, false, false, false, false, false, false, false, false] rfl rfl (any_of HT_.out (by kernel_rfl)) (fun _ _ _ h => h) (Or.inl ⟨by rfl, ?_⟩) ?_ ?_
                              rotate_left
                              · intro w'
                                go_simp
                                with_reducible rfl
                              rotate_left
                              · simp only [Act.put, List.setIfInBounds_toArray, List.set_cons_zero, List.set_cons_succ, i64_w, i32_w]
                                rfl
                              refine pure_ (i := 2) (N := some 38) (v := undef) (a' := ?_) #[true, true, true, false, false, false, false, false, false, false, false] rfl rfl (any_of HT_.out (by kernel_rfl)) (fun _ _ _ h => h) (Or.inr ⟨by rfl, rfl⟩) ?_ ?_
                              rotate_left
                              · simp only [Act.put, List.setIfInBounds_toArray, List.set_cons_zero, List.set_cons_succ, i64_w, i32_w]
                                rfl
                              refine pure_ (i := 3) (N := some 39) (v := undef) (a' := ?_) #[true, true, true, true, false, false, false, false, false, false, false] rfl rfl (any_of HT_.out (by kernel_rfl)) (fun _ _ _ h => h) (Or.inr ⟨by rfl, rfl⟩) ?_ ?_
                              rotate_left
                              · simp only [Act.put, List.setIfInBounds_toArray, List.set_cons_zero, List.set_cons_succ, i64_w, i32_w]
                                rfl
                              refine pure_ (i := 4) (N := some 40) (v := undef) (a' := ?_) #[true, true, true, true, true, false, false, false, false, false, false] rfl rfl (any_of HT_.out (by kernel_rfl)) (fun _ _ _ h => h) (Or.inr ⟨by rfl, rfl⟩) ?_ ?_
                              rotate_left
                              · simp only [Act.put, List.setIfInBounds_toArray, List.set_cons_zero, List.set_cons_succ, i64_w, i32_w]
                                rfl
                              refine pure_ (i := 5) (N := some 41) (v := undef) (a' := ?_) #[true, true, true, true, true, true, false, false, false, false, false] rfl rfl (any_of HT_.out (by kernel_rfl)) (fun _ _ _ h => h) (Or.inr ⟨by rfl, rfl⟩) ?_ ?_
                              rotate_left
                              · simp only [Act.put, List.setIfInBounds_toArray, List.set_cons_zero, List.set_cons_succ, i64_w, i32_w]
                                rfl
                              refine pure_ (i := 6) (N := some 42) (v := undef) (a' := ?_) #[true, true, true, true, true, true, true, false, false, false, false] rfl rfl (any_of HT_.out (by kernel_rfl)) (fun _ _ _ h => h) (Or.inr ⟨by rfl, rfl⟩) ?_ ?_
                              rotate_left
                              · simp only [Act.put, List.setIfInBounds_toArray, List.set_cons_zero, List.set_cons_succ, i64_w, i32_w]
                                rfl
                              refine pure_ (i := 7) (N := some 43) (v := undef) (a' := ?_) #[true, true, true, true, true, true, true, true, false, false, false] rfl rfl (any_of HT_.out (by kernel_rfl)) (fun _ _ _ h => h) (Or.inr ⟨by rfl, rfl⟩) ?_ ?_
                              rotate_left
                              · simp only [Act.put, List.setIfInBounds_toArray, List.set_cons_zero, List.set_cons_succ, i64_w, i32_w]
                                rfl
                              refine pure_ (i := 8) (N := some 44) (v := undef) (a' := ?_) #[true, true, true, true, true, true, true, true, true, false, false] rfl rfl (any_of HT_.out (by kernel_rfl)) (fun _ _ _ h => h) (Or.inr ⟨by rfl, rfl⟩) ?_ ?_
                              rotate_left
                              · simp only [Act.put, List.setIfInBounds_toArray, List.set_cons_zero, List.set_cons_succ, i64_w, i32_w]
                                rfl
                              refine pure_ (i := 9) (N := some 45) (v := ?_) (a' := ?_) #[true, true, true, true, true, true, true, true, true, true, false] rfl rfl (any_of HT_.out (by kernel_rfl)) (fun _ _ _ h => h) (Or.inl ⟨by rfl, ?_⟩) ?_ ?_
                              rotate_left
                              · intro w'
                                go_simp
                                with_reducible rfl
                              rotate_left
                              · simp only [Act.put, List.setIfInBounds_toArray, List.set_cons_zero, List.set_cons_succ, i64_w, i32_w]
                                rfl
                              refine pure_ (i := 10) (N := some 10) (v := ?_) (a' := ?_) #[true, true, true, true, true, true, true, true, true, true, true] rfl rfl (any_of HT_.out (by kernel_rfl)) (fun _ _ _ h => h) (Or.inl ⟨by rfl, ?_⟩) ?_ ?_
                              rotate_left
                              · intro w'
                                go_simp
                                with_reducible rfl
                              rotate_left
                              · simp only [Act.put, List.setIfInBounds_toArray, List.set_cons_zero, List.set_cons_succ, i64_w, i32_w]
                                rfl
                              refine done_ (done_of HT_.out (by kernel_rfl)) ?_
                              try go_wp2
                              have n0_ := Aside0.mk (Kd.N_drew HO_5.out)
                              have n1_ := Aside0.mk (Kd.N_drew HO_8.out)
                              have n2_ := Aside0.mk (Kd.N_drew HO_18.out)
                              have n3_ := Aside0.mk (Kd.N_drew HO_30.out)
                              have n4_ := Aside0.mk (Kd.V_drew HL238_0.out)
                              have n5_ := Aside0.mk (Kd.C_drew HR231_0.out)
                              have n6_ := Aside0.mk (Kd.C_drew HR238_0.out)
                              have n7_ := Aside0.mk (below_drew1 HB.out)
                              clear HO_5
                              clear HO_8
                              clear HO_18
                              clear HO_30
                              clear HL238_0
                              clear HR231_0
                              clear HR238_0
                              clear HB
                              have HO_5 := n0_
                              have HO_8 := n1_
                              have HO_18 := n2_
                              have HO_30 := n3_
                              have HL238_0 := n4_
                              have HR231_0 := n5_
                              have HR238_0 := n6_
                              have HB := n7_
                              clear n0_ n1_ n2_ n3_ n4_ n5_ n6_ n7_
                              have p239 : 0 ≤ (0 : Int) := (by omega)
                              have q239 : 0 < ((rd_L2 x5_1 x32_2).length : Int) := of_decide_eq_true (by first | (with_reducible assumption) | assumption)
                              obtain ⟨ad239, A239_0, c239_0, e239, hx239_0, hl239_0, hi239_0⟩ := at_L1 (by repeat (first | (with_reducible exact HR238_0.out) | (with_reducible refine Kd.C_alloc ?_ _) | (with_reducible refine Kd.C_drewN ?_ _) | (with_reducible refine Kd.C_drew ?_) | exact HR238_0.out)) 0 p239 q239
                              cases e239
                              obtain ⟨ce239, hce239, hMe239, hcc239⟩ := Kd.V_get HL238_0.out [] 0 p239 (by first | exact q239 | exact of_decide_eq_true (by first | (with_reducible assumption) | assumption) | (have e_ := (Kd.V_reads' HL238_0.out).1; omega))
                              obtain ⟨ua239_0, uc239_0, rfl, ul239_0, ge239_0⟩ := Kd.FK_slice_open hMe239
                              have hv239_0 := hcc239 0 _ rfl
                              rw [Nat.add_zero, show ((Kd.slice 3 (Kd.int .i64))).sz = 1 from rfl, Nat.mul_one] at hv239_0
                              replace hv239_0 := Option.some.inj (hv239_0.symm.trans hx239_0)
                              injection hv239_0 with hva_ hvn_ hvc_
                              rw [hva_] at ge239_0
                              rw [hvc_] at ul239_0
                              have HL239_0 := Aside0.mk (show Kd.V (Kd.int .i64) 3 _ w.heap.size _ _ (rd_L1 (rd_L2 x5_1 x32_2) 0) from Kd.V_mk ul239_0 ge239_0)
                              clear hva_ hvn_ hvc_ ge239_0 ul239_0
                              clear hcc239 hce239
                              have qi239 : (0 < (rd_L2 x5_1 x32_2).length) = True := eq_true (by omega)
                              (try rw [show ((0 : Int)).toNat = 0 from rfl] at hx239_0)
                              (try rw [Addr.add_zero'] at hx239_0)
                              have HR239_0 := Aside0.mk hi239_0
                              have HC239_0 := Aside0.mk hl239_0
                              clear hi239_0 hl239_0
                              replace p239 := eq_true p239
                              replace q239 := eq_true q239
                              obtain ⟨Ao26, co26, eo26⟩ := Kd.N_slice HO_8.out
                              (first | subst eo26 | (injection eo26 with f1_ f2_ f3_; have f4_ := f1_.symm; have f5_ := f3_.symm; clear f1_ f2_ f3_; subst f4_; subst f5_))
                              have p241 : 0 ≤ (0 : Int) := (by omega)
                              have q241 : 0 < (t235.length : Int) := of_decide_eq_true (by first | (with_reducible assumption) | assumption)
                              obtain ⟨ad241, A241_0, c241_0, e241, hx241_0, hl241_0, hi241_0⟩ := at_L1 (Kd.N_reads' HO_8.out).2.2 0 p241 q241
                              cases e241
                              obtain ⟨ce241, hce241, hMe241, hcc241⟩ := Kd.N_get HO_8.out [] 0 p241 (by first | exact q241 | exact of_decide_eq_true (by first | (with_reducible assumption) | assumption) | (have e_ := (Kd.N_reads' HO_8.out).1; omega))
                              obtain ⟨ua241_0, uc241_0, rfl, ul241_0, ge241_0⟩ := Kd.FK_slice_open hMe241
                              have hv241_0 := hcc241 0 _ rfl
                              rw [Nat.add_zero, show ((Kd.slice 3 (Kd.int .i64))).sz = 1 from rfl, Nat.mul_one] at hv241_0
                              replace hv241_0 := Option.some.inj (hv241_0.symm.trans hx241_0)
                              injection hv241_0 with hva_ hvn_ hvc_
                              rw [hva_] at ge241_0
                              rw [hvc_] at ul241_0
                              have HL241_0 := Aside0.mk (show Kd.V (Kd.int .i64) 3 _ w.heap.size _ _ (rd_L1 t235 0) from Kd.V_mk ul241_0 ge241_0)
                              clear hva_ hvn_ hvc_ ge241_0 ul241_0
                              clear hcc241 hce241
                              have qi241 : (0 < t235.length) = True := eq_true (by omega)
                              (try rw [show ((0 : Int)).toNat = 0 from rfl] at hx241_0)
                              (try rw [Addr.add_zero'] at hx241_0)
                              have HR241_0 := Aside0.mk hi241_0
                              have HC241_0 := Aside0.mk hl241_0
                              clear hi241_0 hl241_0
                              replace p241 := eq_true p241
                              replace q241 := eq_true q241
                              refine start_ (n := 11) (S := fun w' => w'.cell? ad239 = some (.slice A239_0 (rd_L1 (rd_L2 x5_1 x32_2) 0).length c239_0) ∧ w'.cell? ad241 = some (.slice A241_0 (rd_L1 t235 0).length c241_0)) (ds := []) #[false, false, false, false, false, false, false, false, false, false, false] (by kernel_rfl) rfl rfl ⟨hx239_0, hx241_0⟩ (fun hHeld => ?_); refine with_tabW spec_gpCycles.tab11 spec_gpCycles.bits11 (fun HT_ HW_ => ?_)
                              generalize w24.drew = w25 at HO_5 HO_8 HO_18 HO_30 HL238_0 HR231_0 HR238_0 HB HL239_0 HL241_0 HR239_0 HR241_0 hx239_0 hx241_0 hHeld ⊢
                              refine pure_ (i := 0) (N := some 46) (v := ?_) (a' := ?_) #[true, false, false, false, false, false, false, false, false, false, false] rfl rfl (any_of HT_.out (by kernel_rfl)) (fun _ _ _ h => h) (Or.inl ⟨by rfl, ?_⟩) ?_ ?_
                              rotate_left
                              · intro w'
                                go_simp
                                with_reducible rfl
                              rotate_left
                              · simp only [Act.put, List.setIfInBounds_toArray, List.set_cons_zero, List.set_cons_succ, i64_w, i32_w]
                                rfl
                              refine pure_ (i := 1) (N := some 47) (v := ?_) (a' := ?_) #[true, true, false, false, false, false, false, false, false, false, false] rfl rfl (any_of HT_.out (by kernel_rfl)) (fun _ _ _ h => h) (Or.inl ⟨by rfl, ?_⟩) ?_ ?_
                              rotate_left
                              · intro w'
                                go_simp
                                with_reducible rfl
                              rotate_left
                              · simp only [Act.put, List.setIfInBounds_toArray, List.set_cons_zero, List.set_cons_succ, i64_w, i32_w]
                                rfl
                              refine pure_ (i := 3) (N := some 49) (v := ?_) (a' := ?_) #[true, true, false, true, false, false, false, false, false, false, false] rfl rfl (any_of HT_.out (by kernel_rfl)) (fun _ _ _ h => h) (Or.inl ⟨by rfl, ?_⟩) ?_ ?_
                              rotate_left
                              · intro w'
                                go_simp
                                with_reducible rfl
                              rotate_left
                              · simp only [Act.put, List.setIfInBounds_toArray, List.set_cons_zero, List.set_cons_succ, i64_w, i32_w]
                                rfl
                              refine pure_ (i := 5) (N := some 51) (v := ?_) (a' := ?_) #[true, true, false, true, false, true, false, false, false, false, false] rfl rfl (any_of HT_.out (by kernel_rfl)) (fun _ _ _ h => h) (Or.inl ⟨by rfl, ?_⟩) ?_ ?_
                              rotate_left
                              · intro w'
                                go_simp
                                with_reducible rfl
                              rotate_left
                              · simp only [Act.put, List.setIfInBounds_toArray, List.set_cons_zero, List.set_cons_succ, i64_w, i32_w]
                                rfl
                              refine pure_ (i := 6) (N := some 52) (v := ?_) (a' := ?_) #[true, true, false, true, false, true, true, false, false, false, false] rfl rfl (any_of HT_.out (by kernel_rfl)) (fun _ _ _ h => h) (Or.inl ⟨by rfl, ?_⟩) ?_ ?_
                              rotate_left
                              · intro w'
                                go_simp
                                with_reducible rfl
                              rotate_left
                              · simp only [Act.put, List.setIfInBounds_toArray, List.set_cons_zero, List.set_cons_succ, i64_w, i32_w]
                                rfl
                              refine pure_ (i := 8) (N := some 54) (v := ?_) (a' := ?_) #[true, true, false, true, false, true, true, false, true, false, false] rfl rfl (any_of HT_.out (by kernel_rfl)) (fun _ _ _ h => h) (Or.inl ⟨by rfl, ?_⟩) ?_ ?_
                              rotate_left
                              · intro w'
                                go_simp
                                with_reducible rfl
                              rotate_left
                              · simp only [Act.put, List.setIfInBounds_toArray, List.set_cons_zero, List.set_cons_succ, i64_w, i32_w]
                                rfl
                              refine take_ (i := 2) (N := some 48) (v := ?_) (a' := ?_) #[true, true, true, true, false, true, true, false, true, false, false] rfl rfl (take_ofW HT_.out HW_.out (by kernel_rfl)) (fun _ _ _ h => h) (Or.inl ⟨by rfl, ?_⟩) hHeld ?_ ?_
                              rotate_left
                              · rintro w' ⟨s0, s1⟩
                                go_simp
                                with_reducible rfl
                              rotate_left
                              · simp only [Act.put, List.setIfInBounds_toArray, List.set_cons_zero, List.set_cons_succ, i64_w, i32_w]
                                rfl
                              refine take_ (i := 7) (N := some 53) (v := ?_) (a' := ?_) #[true, true, true, true, false, true, true, true, true, false, false] rfl rfl (take_ofW HT_.out HW_.out (by kernel_rfl)) (fun _ _ _ h => h) (Or.inl ⟨by rfl, ?_⟩) hHeld ?_ ?_
                              rotate_left
                              · rintro w' ⟨s0, s1⟩
                                go_simp
                                with_reducible rfl
                              rotate_left
                              · simp only [Act.put, List.setIfInBounds_toArray, List.set_cons_zero, List.set_cons_succ, i64_w, i32_w]
                                rfl
                              refine one_ (i := 4) (N := some 50) #[true, true, true, true, true, true, true, true, true, false, false] rfl rfl (one_of HT_.out (by kernel_rfl)) (by decide) (fun K hK => ?_)
                              refine goes_ Try.func73 (by kernel_rfl) rfl #[.slice A239_0 (rd_L1 (rd_L2 x5_1 x32_2) 0).length c239_0, .int .i64 a1] (by rfl) rfl rfl (by (try simp only [List.map_toArray, List.map_cons, List.map_nil]); first | done | rfl | (simp only [List.length_drop, List.length_take]; rfl)) ?_
                              with_reducible refine (spec_gpValue.calls k2 _ _ (rd_L1 (rd_L2 x5_1 x32_2) 0) a1 t240 _ ?side1 ?side2 A20.out).mono ?_
                              (case side1 => repeat (first | exact (by repeat (first | (with_reducible exact HR239_0.out) | (with_reducible refine Kd.C_alloc ?_ _) | (with_reducible refine Kd.C_drewN ?_ _) | (with_reducible refine Kd.C_drew ?_) | exact HR239_0.out)) | (with_reducible refine Kd.C_alloc ?_ _) | (with_reducible refine Kd.C_drewN ?_ _) | (with_reducible refine Kd.C_drew ?_)))
                              (case side2 => exact HC239_0.out)
                              rintro e w' ⟨rfl, ⟨nd, rfl⟩⟩
                              refine ⟨_, rfl, ?_⟩
                              refine hK.out _ _ ⟨hHeld.1, hHeld.2⟩ (fun hHeld => ?_)
                              clear hK K
                              refine norm_ (a' := ?_) ?_ ?_
                              rotate_left
                              · show Act.put _ (some 50) _ = _
                                simp only [Act.put, List.setIfInBounds_toArray, List.set_cons_zero, List.set_cons_succ, i64_w, i32_w]
                                rfl
                              refine one_ (i := 9) (N := some 55) #[true, true, true, true, true, true, true, true, true, true, false] rfl rfl (one_of HT_.out (by kernel_rfl)) (by decide) (fun K hK => ?_)
                              refine goes_ Try.func73 (by kernel_rfl) rfl #[.slice A241_0 (rd_L1 t235 0).length c241_0, .int .i64 a1] (by rfl) rfl rfl (by (try simp only [List.map_toArray, List.map_cons, List.map_nil]); first | done | rfl | (simp only [List.length_drop, List.length_take]; rfl)) ?_
                              with_reducible refine (spec_gpValue.calls k2 _ _ (rd_L1 t235 0) a1 t242 _ ?side1 ?side2 A22.out).mono ?_
                              (case side1 => repeat (first | exact (by repeat (first | (with_reducible exact HR241_0.out) | (with_reducible refine Kd.C_alloc ?_ _) | (with_reducible refine Kd.C_drewN ?_ _) | (with_reducible refine Kd.C_drew ?_) | exact HR241_0.out)) | (with_reducible refine Kd.C_alloc ?_ _) | (with_reducible refine Kd.C_drewN ?_ _) | (with_reducible refine Kd.C_drew ?_)))
                              (case side2 => exact HC241_0.out)
                              rintro e w' ⟨rfl, ⟨nd, rfl⟩⟩
                              refine ⟨_, rfl, ?_⟩
                              refine hK.out _ _ ⟨hHeld.1, hHeld.2⟩ (fun hHeld => ?_)
                              clear hK K
                              refine norm_ (a' := ?_) ?_ ?_
                              rotate_left
                              · show Act.put _ (some 55) _ = _
                                simp only [Act.put, List.setIfInBounds_toArray, List.set_cons_zero, List.set_cons_succ, i64_w, i32_w]
                                rfl
                              refine pure_ (i := 10) (N := some 56) (v := ?_) (a' := ?_) #[true, true, true, true, true, true, true, true, true, true, true] rfl rfl (any_of HT_.out (by kernel_rfl)) (fun _ _ _ h => h) (Or.inl ⟨by rfl, ?_⟩) ?_ ?_
                              rotate_left
                              · intro w'
                                go_simp
                                with_reducible rfl
                              rotate_left
                              · simp only [Act.put, List.setIfInBounds_toArray, List.set_cons_zero, List.set_cons_succ, i64_w, i32_w]
                                rfl
                              refine done_ (done_of HT_.out (by kernel_rfl)) ?_
                              try go_wp2
                              go_roundg k2
                              case measure => have := HK1.out; have := HK2.out; omega
                              case rel => exact ⟨(wrap64 (x9_2 + 1)), (true), (wrap64 (x32_2 + 1)), (by first | rfl | (simp; done) | (simp [*]; done)), (by first | rfl | (simp; done) | (simp [*]; done)), (by first | rfl | (simp; done) | (simp [*]; done)), H', ⟨by have := HK1.out; have := HK2.out; omega⟩, ⟨by (with_reducible repeat (first | apply Kd.N_alloc | apply Kd.N_drewN | apply Kd.N_drew)); first | exact HO_5.out | exact Kd.N_mono HO_5.out (fun k_ hk => by repeat' (first | exact hk.1 | exact hk.2.1 | exact hk.2.2.1 | exact hk.2.2.2 | exact hk.2.2 | constructor))⟩, ⟨by (with_reducible repeat (first | apply Kd.N_alloc | apply Kd.N_drewN | apply Kd.N_drew)); first | exact HO_8.out | exact Kd.N_mono HO_8.out (fun k_ hk => by repeat' (first | exact hk.1 | exact hk.2.1 | exact hk.2.2.1 | exact hk.2.2.2 | exact hk.2.2 | constructor))⟩, ⟨by (with_reducible repeat (first | apply Kd.N_alloc | apply Kd.N_drewN | apply Kd.N_drew)); first | exact HO_18.out | exact Kd.N_mono HO_18.out (fun k_ hk => by repeat' (first | exact hk.1 | exact hk.2.1 | exact hk.2.2.1 | exact hk.2.2.2 | exact hk.2.2 | constructor))⟩, ⟨by (with_reducible repeat (first | apply Kd.N_alloc | apply Kd.N_drewN | apply Kd.N_drew)); first | exact HO_30.out | exact Kd.N_mono HO_30.out (fun k_ hk => by repeat' (first | exact hk.1 | exact hk.2.1 | exact hk.2.2.1 | exact hk.2.2.2 | exact hk.2.2 | constructor))⟩, ⟨by repeat (first | (with_reducible exact HR231_0.out) | (with_reducible refine Kd.C_alloc ?_ _) | (with_reducible refine Kd.C_drewN ?_ _) | (with_reducible refine Kd.C_drew ?_) | exact HR231_0.out)⟩, ⟨by repeat (first | (with_reducible first | exact HB.out | apply below_alloc | apply pw_below_drewN | apply below_drew1) | exact HB.out)⟩⟩
                            · rw [if_neg c23] at H
                              have c23b0 : decide (t240 < t242) = false := decide_eq_false c23
                              clear c23
                              have H' := Aside0.mk H
                              clear H
                              have p238 : 0 ≤ (x32_2 : Int) := of_decide_eq_true (by first | (with_reducible assumption) | assumption)
                              have q238 : x32_2 < (x5_1.length : Int) := of_decide_eq_true (by first | (with_reducible assumption) | assumption)
                              obtain ⟨ad238, A238_0, c238_0, e238, hx238_0, hl238_0, hi238_0⟩ := at_L2 (Kd.N_reads' HO_30.out).2.2 x32_2 p238 q238
                              cases e238
                              obtain ⟨ce238, hce238, hMe238, hcc238⟩ := Kd.N_get HO_30.out [] x32_2 p238 (by first | exact q238 | exact of_decide_eq_true (by first | (with_reducible assumption) | assumption) | (have e_ := (Kd.N_reads' HO_30.out).1; omega))
                              obtain ⟨ua238_0, uc238_0, rfl, ul238_0, ge238_0⟩ := Kd.FK_slice_open hMe238
                              have hv238_0 := hcc238 0 _ rfl
                              rw [Nat.add_zero, show ((Kd.slice 22 (Kd.slice 3 (Kd.int .i64)))).sz = 1 from rfl, Nat.mul_one] at hv238_0
                              replace hv238_0 := Option.some.inj (hv238_0.symm.trans hx238_0)
                              injection hv238_0 with hva_ hvn_ hvc_
                              rw [hva_] at ge238_0
                              rw [hvc_] at ul238_0
                              have HL238_0 := Aside0.mk (show Kd.V (Kd.slice 3 (Kd.int .i64)) 22 _ w.heap.size _ _ (rd_L2 x5_1 x32_2) from Kd.V_mk ul238_0 ge238_0)
                              clear hva_ hvn_ hvc_ ge238_0 ul238_0
                              clear hcc238 hce238
                              have HR238_0 := Aside0.mk hi238_0
                              have HC238_0 := Aside0.mk hl238_0
                              clear hi238_0 hl238_0
                              replace p238 := eq_true p238
                              replace q238 := eq_true q238
                              try go_wp2
                              have n0_ := Aside0.mk (Kd.N_drew HO_5.out)
                              have n1_ := Aside0.mk (Kd.N_drew HO_8.out)
                              have n2_ := Aside0.mk (Kd.N_drew HO_18.out)
                              have n3_ := Aside0.mk (Kd.N_drew HO_30.out)
                              have n4_ := Aside0.mk (Kd.V_drew HL238_0.out)
                              have n5_ := Aside0.mk (Kd.C_drew HR231_0.out)
                              have n6_ := Aside0.mk (Kd.C_drew HR238_0.out)
                              have n7_ := Aside0.mk (below_drew1 HB.out)
                              clear HO_5
                              clear HO_8
                              clear HO_18
                              clear HO_30
                              clear HL238_0
                              clear HR231_0
                              clear HR238_0
                              clear HB
                              have HO_5 := n0_
                              have HO_8 := n1_
                              have HO_18 := n2_
                              have HO_30 := n3_
                              have HL238_0 := n4_
                              have HR231_0 := n5_
                              have HR238_0 := n6_
                              have HB := n7_
                              clear n0_ n1_ n2_ n3_ n4_ n5_ n6_ n7_
                              refine start_ (n := 11) (S := fun w' => True) (ds := []) #[false, false, false, false, false, false, false, false, false, false, false] (by kernel_rfl) rfl rfl trivial (fun hHeld => ?_); refine with_tabW spec_gpCycles.tab10 spec_gpCycles.bits10 (fun HT_ HW_ => ?_)
                              generalize wr.drew = w27 at HO_5 HO_8 HO_18 HO_30 HL238_0 HR231_0 HR238_0 HB hHeld ⊢
                              refine pure_ (i := 0) (N := some 36) (v := ?_) (a' := ?_) #[true, false, false, false, false, false, false, false, false, false, false] rfl rfl (any_of HT_.out (by kernel_rfl)) (fun _ _ _ h => h) (Or.inl ⟨by rfl, ?_⟩) ?_ ?_
                              rotate_left
                              · intro w'
                                go_simp
                                with_reducible rfl
                              rotate_left
                              · simp only [Act.put, List.setIfInBounds_toArray, List.set_cons_zero, List.set_cons_succ, i64_w, i32_w]
                                rfl
                              refine pure_ (i := 1) (N := some 37) (v := ?_) (a' := ?_) #[true, true, false, false, false, false, false, false, false, false, false] rfl rfl (any_of HT_.out (by kernel_rfl)) (fun _ _ _ h => h) (Or.inl ⟨by rfl, ?_⟩) ?_ ?_
                              rotate_left
                              · intro w'
                                go_simp
                                with_reducible rfl
                              rotate_left
                              · simp only [Act.put, List.setIfInBounds_toArray, List.set_cons_zero, List.set_cons_succ, i64_w, i32_w]
                                rfl
                              refine pure_ (i := 2) (N := some 38) (v := undef) (a' := ?_) #[true, true, true, false, false, false, false, false, false, false, false] rfl rfl (any_of HT_.out (by kernel_rfl)) (fun _ _ _ h => h) (Or.inr ⟨by rfl, rfl⟩) ?_ ?_
                              rotate_left
                              · simp only [Act.put, List.setIfInBounds_toArray, List.set_cons_zero, List.set_cons_succ, i64_w, i32_w]
                                rfl
                              refine pure_ (i := 3) (N := some 39) (v := undef) (a' := ?_) #[true, true, true, true, false, false, false, false, false, false, false] rfl rfl (any_of HT_.out (by kernel_rfl)) (fun _ _ _ h => h) (Or.inr ⟨by rfl, rfl⟩) ?_ ?_
                              rotate_left
                              · simp only [Act.put, List.setIfInBounds_toArray, List.set_cons_zero, List.set_cons_succ, i64_w, i32_w]
                                rfl
                              refine pure_ (i := 4) (N := some 40) (v := undef) (a' := ?_) #[true, true, true, true, true, false, false, false, false, false, false] rfl rfl (any_of HT_.out (by kernel_rfl)) (fun _ _ _ h => h) (Or.inr ⟨by rfl, rfl⟩) ?_ ?_
                              rotate_left
                              · simp only [Act.put, List.setIfInBounds_toArray, List.set_cons_zero, List.set_cons_succ, i64_w, i32_w]
                                rfl
                              refine pure_ (i := 5) (N := some 41) (v := undef) (a' := ?_) #[true, true, true, true, true, true, false, false, false, false, false] rfl rfl (any_of HT_.out (by kernel_rfl)) (fun _ _ _ h => h) (Or.inr ⟨by rfl, rfl⟩) ?_ ?_
                              rotate_left
                              · simp only [Act.put, List.setIfInBounds_toArray, List.set_cons_zero, List.set_cons_succ, i64_w, i32_w]
                                rfl
                              refine pure_ (i := 6) (N := some 42) (v := undef) (a' := ?_) #[true, true, true, true, true, true, true, false, false, false, false] rfl rfl (any_of HT_.out (by kernel_rfl)) (fun _ _ _ h => h) (Or.inr ⟨by rfl, rfl⟩) ?_ ?_
                              rotate_left
                              · simp only [Act.put, List.setIfInBounds_toArray, List.set_cons_zero, List.set_cons_succ, i64_w, i32_w]
                                rfl
                              refine pure_ (i := 7) (N := some 43) (v := undef) (a' := ?_) #[true, true, true, true, true, true, true, true, false, false, false] rfl rfl (any_of HT_.out (by kernel_rfl)) (fun _ _ _ h => h) (Or.inr ⟨by rfl, rfl⟩) ?_ ?_
                              rotate_left
                              · simp only [Act.put, List.setIfInBounds_toArray, List.set_cons_zero, List.set_cons_succ, i64_w, i32_w]
                                rfl
                              refine pure_ (i := 8) (N := some 44) (v := undef) (a' := ?_) #[true, true, true, true, true, true, true, true, true, false, false] rfl rfl (any_of HT_.out (by kernel_rfl)) (fun _ _ _ h => h) (Or.inr ⟨by rfl, rfl⟩) ?_ ?_
                              rotate_left
                              · simp only [Act.put, List.setIfInBounds_toArray, List.set_cons_zero, List.set_cons_succ, i64_w, i32_w]
                                rfl
                              refine pure_ (i := 9) (N := some 45) (v := ?_) (a' := ?_) #[true, true, true, true, true, true, true, true, true, true, false] rfl rfl (any_of HT_.out (by kernel_rfl)) (fun _ _ _ h => h) (Or.inl ⟨by rfl, ?_⟩) ?_ ?_
                              rotate_left
                              · intro w'
                                go_simp
                                with_reducible rfl
                              rotate_left
                              · simp only [Act.put, List.setIfInBounds_toArray, List.set_cons_zero, List.set_cons_succ, i64_w, i32_w]
                                rfl
                              refine pure_ (i := 10) (N := some 10) (v := ?_) (a' := ?_) #[true, true, true, true, true, true, true, true, true, true, true] rfl rfl (any_of HT_.out (by kernel_rfl)) (fun _ _ _ h => h) (Or.inl ⟨by rfl, ?_⟩) ?_ ?_
                              rotate_left
                              · intro w'
                                go_simp
                                with_reducible rfl
                              rotate_left
                              · simp only [Act.put, List.setIfInBounds_toArray, List.set_cons_zero, List.set_cons_succ, i64_w, i32_w]
                                rfl
                              refine done_ (done_of HT_.out (by kernel_rfl)) ?_
                              try go_wp2
                              have n0_ := Aside0.mk (Kd.N_drew HO_5.out)
                              have n1_ := Aside0.mk (Kd.N_drew HO_8.out)
                              have n2_ := Aside0.mk (Kd.N_drew HO_18.out)
                              have n3_ := Aside0.mk (Kd.N_drew HO_30.out)
                              have n4_ := Aside0.mk (Kd.V_drew HL238_0.out)
                              have n5_ := Aside0.mk (Kd.C_drew HR231_0.out)
                              have n6_ := Aside0.mk (Kd.C_drew HR238_0.out)
                              have n7_ := Aside0.mk (below_drew1 HB.out)
                              clear HO_5
                              clear HO_8
                              clear HO_18
                              clear HO_30
                              clear HL238_0
                              clear HR231_0
                              clear HR238_0
                              clear HB
                              have HO_5 := n0_
                              have HO_8 := n1_
                              have HO_18 := n2_
                              have HO_30 := n3_
                              have HL238_0 := n4_
                              have HR231_0 := n5_
                              have HR238_0 := n6_
                              have HB := n7_
                              clear n0_ n1_ n2_ n3_ n4_ n5_ n6_ n7_
                              have p239 : 0 ≤ (0 : Int) := (by omega)
                              have q239 : 0 < ((rd_L2 x5_1 x32_2).length : Int) := of_decide_eq_true (by first | (with_reducible assumption) | assumption)
                              obtain ⟨ad239, A239_0, c239_0, e239, hx239_0, hl239_0, hi239_0⟩ := at_L1 (by repeat (first | (with_reducible exact HR238_0.out) | (with_reducible refine Kd.C_alloc ?_ _) | (with_reducible refine Kd.C_drewN ?_ _) | (with_reducible refine Kd.C_drew ?_) | exact HR238_0.out)) 0 p239 q239
                              cases e239
                              obtain ⟨ce239, hce239, hMe239, hcc239⟩ := Kd.V_get HL238_0.out [] 0 p239 (by first | exact q239 | exact of_decide_eq_true (by first | (with_reducible assumption) | assumption) | (have e_ := (Kd.V_reads' HL238_0.out).1; omega))
                              obtain ⟨ua239_0, uc239_0, rfl, ul239_0, ge239_0⟩ := Kd.FK_slice_open hMe239
                              have hv239_0 := hcc239 0 _ rfl
                              rw [Nat.add_zero, show ((Kd.slice 3 (Kd.int .i64))).sz = 1 from rfl, Nat.mul_one] at hv239_0
                              replace hv239_0 := Option.some.inj (hv239_0.symm.trans hx239_0)
                              injection hv239_0 with hva_ hvn_ hvc_
                              rw [hva_] at ge239_0
                              rw [hvc_] at ul239_0
                              have HL239_0 := Aside0.mk (show Kd.V (Kd.int .i64) 3 _ w.heap.size _ _ (rd_L1 (rd_L2 x5_1 x32_2) 0) from Kd.V_mk ul239_0 ge239_0)
                              clear hva_ hvn_ hvc_ ge239_0 ul239_0
                              clear hcc239 hce239
                              have qi239 : (0 < (rd_L2 x5_1 x32_2).length) = True := eq_true (by omega)
                              (try rw [show ((0 : Int)).toNat = 0 from rfl] at hx239_0)
                              (try rw [Addr.add_zero'] at hx239_0)
                              have HR239_0 := Aside0.mk hi239_0
                              have HC239_0 := Aside0.mk hl239_0
                              clear hi239_0 hl239_0
                              replace p239 := eq_true p239
                              replace q239 := eq_true q239
                              obtain ⟨Ao29, co29, eo29⟩ := Kd.N_slice HO_8.out
                              (first | subst eo29 | (injection eo29 with f1_ f2_ f3_; have f4_ := f1_.symm; have f5_ := f3_.symm; clear f1_ f2_ f3_; subst f4_; subst f5_))
                              have p241 : 0 ≤ (0 : Int) := (by omega)
                              have q241 : 0 < (t235.length : Int) := of_decide_eq_true (by first | (with_reducible assumption) | assumption)
                              obtain ⟨ad241, A241_0, c241_0, e241, hx241_0, hl241_0, hi241_0⟩ := at_L1 (Kd.N_reads' HO_8.out).2.2 0 p241 q241
                              cases e241
                              obtain ⟨ce241, hce241, hMe241, hcc241⟩ := Kd.N_get HO_8.out [] 0 p241 (by first | exact q241 | exact of_decide_eq_true (by first | (with_reducible assumption) | assumption) | (have e_ := (Kd.N_reads' HO_8.out).1; omega))
                              obtain ⟨ua241_0, uc241_0, rfl, ul241_0, ge241_0⟩ := Kd.FK_slice_open hMe241
                              have hv241_0 := hcc241 0 _ rfl
                              rw [Nat.add_zero, show ((Kd.slice 3 (Kd.int .i64))).sz = 1 from rfl, Nat.mul_one] at hv241_0
                              replace hv241_0 := Option.some.inj (hv241_0.symm.trans hx241_0)
                              injection hv241_0 with hva_ hvn_ hvc_
                              rw [hva_] at ge241_0
                              rw [hvc_] at ul241_0
                              have HL241_0 := Aside0.mk (show Kd.V (Kd.int .i64) 3 _ w.heap.size _ _ (rd_L1 t235 0) from Kd.V_mk ul241_0 ge241_0)
                              clear hva_ hvn_ hvc_ ge241_0 ul241_0
                              clear hcc241 hce241
                              have qi241 : (0 < t235.length) = True := eq_true (by omega)
                              (try rw [show ((0 : Int)).toNat = 0 from rfl] at hx241_0)
                              (try rw [Addr.add_zero'] at hx241_0)
                              have HR241_0 := Aside0.mk hi241_0
                              have HC241_0 := Aside0.mk hl241_0
                              clear hi241_0 hl241_0
                              replace p241 := eq_true p241
                              replace q241 := eq_true q241
                              refine start_ (n := 11) (S := fun w' => w'.cell? ad239 = some (.slice A239_0 (rd_L1 (rd_L2 x5_1 x32_2) 0).length c239_0) ∧ w'.cell? ad241 = some (.slice A241_0 (rd_L1 t235 0).length c241_0)) (ds := []) #[false, false, false, false, false, false, false, false, false, false, false] (by kernel_rfl) rfl rfl ⟨hx239_0, hx241_0⟩ (fun hHeld => ?_); refine with_tabW spec_gpCycles.tab11 spec_gpCycles.bits11 (fun HT_ HW_ => ?_)
                              generalize w27.drew = w28 at HO_5 HO_8 HO_18 HO_30 HL238_0 HR231_0 HR238_0 HB HL239_0 HL241_0 HR239_0 HR241_0 hx239_0 hx241_0 hHeld ⊢
                              refine pure_ (i := 0) (N := some 46) (v := ?_) (a' := ?_) #[true, false, false, false, false, false, false, false, false, false, false] rfl rfl (any_of HT_.out (by kernel_rfl)) (fun _ _ _ h => h) (Or.inl ⟨by rfl, ?_⟩) ?_ ?_
                              rotate_left
                              · intro w'
                                go_simp
                                with_reducible rfl
                              rotate_left
                              · simp only [Act.put, List.setIfInBounds_toArray, List.set_cons_zero, List.set_cons_succ, i64_w, i32_w]
                                rfl
                              refine pure_ (i := 1) (N := some 47) (v := ?_) (a' := ?_) #[true, true, false, false, false, false, false, false, false, false, false] rfl rfl (any_of HT_.out (by kernel_rfl)) (fun _ _ _ h => h) (Or.inl ⟨by rfl, ?_⟩) ?_ ?_
                              rotate_left
                              · intro w'
                                go_simp
                                with_reducible rfl
                              rotate_left
                              · simp only [Act.put, List.setIfInBounds_toArray, List.set_cons_zero, List.set_cons_succ, i64_w, i32_w]
                                rfl
                              refine pure_ (i := 3) (N := some 49) (v := ?_) (a' := ?_) #[true, true, false, true, false, false, false, false, false, false, false] rfl rfl (any_of HT_.out (by kernel_rfl)) (fun _ _ _ h => h) (Or.inl ⟨by rfl, ?_⟩) ?_ ?_
                              rotate_left
                              · intro w'
                                go_simp
                                with_reducible rfl
                              rotate_left
                              · simp only [Act.put, List.setIfInBounds_toArray, List.set_cons_zero, List.set_cons_succ, i64_w, i32_w]
                                rfl
                              refine pure_ (i := 5) (N := some 51) (v := ?_) (a' := ?_) #[true, true, false, true, false, true, false, false, false, false, false] rfl rfl (any_of HT_.out (by kernel_rfl)) (fun _ _ _ h => h) (Or.inl ⟨by rfl, ?_⟩) ?_ ?_
                              rotate_left
                              · intro w'
                                go_simp
                                with_reducible rfl
                              rotate_left
                              · simp only [Act.put, List.setIfInBounds_toArray, List.set_cons_zero, List.set_cons_succ, i64_w, i32_w]
                                rfl
                              refine pure_ (i := 6) (N := some 52) (v := ?_) (a' := ?_) #[true, true, false, true, false, true, true, false, false, false, false] rfl rfl (any_of HT_.out (by kernel_rfl)) (fun _ _ _ h => h) (Or.inl ⟨by rfl, ?_⟩) ?_ ?_
                              rotate_left
                              · intro w'
                                go_simp
                                with_reducible rfl
                              rotate_left
                              · simp only [Act.put, List.setIfInBounds_toArray, List.set_cons_zero, List.set_cons_succ, i64_w, i32_w]
                                rfl
                              refine pure_ (i := 8) (N := some 54) (v := ?_) (a' := ?_) #[true, true, false, true, false, true, true, false, true, false, false] rfl rfl (any_of HT_.out (by kernel_rfl)) (fun _ _ _ h => h) (Or.inl ⟨by rfl, ?_⟩) ?_ ?_
                              rotate_left
                              · intro w'
                                go_simp
                                with_reducible rfl
                              rotate_left
                              · simp only [Act.put, List.setIfInBounds_toArray, List.set_cons_zero, List.set_cons_succ, i64_w, i32_w]
                                rfl
                              refine take_ (i := 2) (N := some 48) (v := ?_) (a' := ?_) #[true, true, true, true, false, true, true, false, true, false, false] rfl rfl (take_ofW HT_.out HW_.out (by kernel_rfl)) (fun _ _ _ h => h) (Or.inl ⟨by rfl, ?_⟩) hHeld ?_ ?_
                              rotate_left
                              · rintro w' ⟨s0, s1⟩
                                go_simp
                                with_reducible rfl
                              rotate_left
                              · simp only [Act.put, List.setIfInBounds_toArray, List.set_cons_zero, List.set_cons_succ, i64_w, i32_w]
                                rfl
                              refine take_ (i := 7) (N := some 53) (v := ?_) (a' := ?_) #[true, true, true, true, false, true, true, true, true, false, false] rfl rfl (take_ofW HT_.out HW_.out (by kernel_rfl)) (fun _ _ _ h => h) (Or.inl ⟨by rfl, ?_⟩) hHeld ?_ ?_
                              rotate_left
                              · rintro w' ⟨s0, s1⟩
                                go_simp
                                with_reducible rfl
                              rotate_left
                              · simp only [Act.put, List.setIfInBounds_toArray, List.set_cons_zero, List.set_cons_succ, i64_w, i32_w]
                                rfl
                              refine one_ (i := 4) (N := some 50) #[true, true, true, true, true, true, true, true, true, false, false] rfl rfl (one_of HT_.out (by kernel_rfl)) (by decide) (fun K hK => ?_)
                              refine goes_ Try.func73 (by kernel_rfl) rfl #[.slice A239_0 (rd_L1 (rd_L2 x5_1 x32_2) 0).length c239_0, .int .i64 a1] (by rfl) rfl rfl (by (try simp only [List.map_toArray, List.map_cons, List.map_nil]); first | done | rfl | (simp only [List.length_drop, List.length_take]; rfl)) ?_
                              with_reducible refine (spec_gpValue.calls k2 _ _ (rd_L1 (rd_L2 x5_1 x32_2) 0) a1 t240 _ ?side1 ?side2 A20.out).mono ?_
                              (case side1 => repeat (first | exact (by repeat (first | (with_reducible exact HR239_0.out) | (with_reducible refine Kd.C_alloc ?_ _) | (with_reducible refine Kd.C_drewN ?_ _) | (with_reducible refine Kd.C_drew ?_) | exact HR239_0.out)) | (with_reducible refine Kd.C_alloc ?_ _) | (with_reducible refine Kd.C_drewN ?_ _) | (with_reducible refine Kd.C_drew ?_)))
                              (case side2 => exact HC239_0.out)
                              rintro e w' ⟨rfl, ⟨nd, rfl⟩⟩
                              refine ⟨_, rfl, ?_⟩
                              refine hK.out _ _ ⟨hHeld.1, hHeld.2⟩ (fun hHeld => ?_)
                              clear hK K
                              refine norm_ (a' := ?_) ?_ ?_
                              rotate_left
                              · show Act.put _ (some 50) _ = _
                                simp only [Act.put, List.setIfInBounds_toArray, List.set_cons_zero, List.set_cons_succ, i64_w, i32_w]
                                rfl
                              refine one_ (i := 9) (N := some 55) #[true, true, true, true, true, true, true, true, true, true, false] rfl rfl (one_of HT_.out (by kernel_rfl)) (by decide) (fun K hK => ?_)
                              refine goes_ Try.func73 (by kernel_rfl) rfl #[.slice A241_0 (rd_L1 t235 0).length c241_0, .int .i64 a1] (by rfl) rfl rfl (by (try simp only [List.map_toArray, List.map_cons, List.map_nil]); first | done | rfl | (simp only [List.length_drop, List.length_take]; rfl)) ?_
                              with_reducible refine (spec_gpValue.calls k2 _ _ (rd_L1 t235 0) a1 t242 _ ?side1 ?side2 A22.out).mono ?_
                              (case side1 => repeat (first | exact (by repeat (first | (with_reducible exact HR241_0.out) | (with_reducible refine Kd.C_alloc ?_ _) | (with_reducible refine Kd.C_drewN ?_ _) | (with_reducible refine Kd.C_drew ?_) | exact HR241_0.out)) | (with_reducible refine Kd.C_alloc ?_ _) | (with_reducible refine Kd.C_drewN ?_ _) | (with_reducible refine Kd.C_drew ?_)))
                              (case side2 => exact HC241_0.out)
                              rintro e w' ⟨rfl, ⟨nd, rfl⟩⟩
                              refine ⟨_, rfl, ?_⟩
                              refine hK.out _ _ ⟨hHeld.1, hHeld.2⟩ (fun hHeld => ?_)
                              clear hK K
                              refine norm_ (a' := ?_) ?_ ?_
                              rotate_left
                              · show Act.put _ (some 55) _ = _
                                simp only [Act.put, List.setIfInBounds_toArray, List.set_cons_zero, List.set_cons_succ, i64_w, i32_w]
                                rfl
                              refine pure_ (i := 10) (N := some 56) (v := ?_) (a' := ?_) #[true, true, true, true, true, true, true, true, true, true, true] rfl rfl (any_of HT_.out (by kernel_rfl)) (fun _ _ _ h => h) (Or.inl ⟨by rfl, ?_⟩) ?_ ?_
                              rotate_left
                              · intro w'
                                go_simp
                                with_reducible rfl
                              rotate_left
                              · simp only [Act.put, List.setIfInBounds_toArray, List.set_cons_zero, List.set_cons_succ, i64_w, i32_w]
                                rfl
                              refine done_ (done_of HT_.out (by kernel_rfl)) ?_
                              try go_wp2
                              go_roundg k2
                              case measure => have := HK1.out; have := HK2.out; omega
                              case rel => exact ⟨(x9_2), (true), (wrap64 (x32_2 + 1)), (by first | rfl | (simp; done) | (simp [*]; done)), (by first | rfl | (simp; done) | (simp [*]; done)), (by first | rfl | (simp; done) | (simp [*]; done)), H', ⟨by have := HK1.out; have := HK2.out; omega⟩, ⟨by (with_reducible repeat (first | apply Kd.N_alloc | apply Kd.N_drewN | apply Kd.N_drew)); first | exact HO_5.out | exact Kd.N_mono HO_5.out (fun k_ hk => by repeat' (first | exact hk.1 | exact hk.2.1 | exact hk.2.2.1 | exact hk.2.2.2 | exact hk.2.2 | constructor))⟩, ⟨by (with_reducible repeat (first | apply Kd.N_alloc | apply Kd.N_drewN | apply Kd.N_drew)); first | exact HO_8.out | exact Kd.N_mono HO_8.out (fun k_ hk => by repeat' (first | exact hk.1 | exact hk.2.1 | exact hk.2.2.1 | exact hk.2.2.2 | exact hk.2.2 | constructor))⟩, ⟨by (with_reducible repeat (first | apply Kd.N_alloc | apply Kd.N_drewN | apply Kd.N_drew)); first | exact HO_18.out | exact Kd.N_mono HO_18.out (fun k_ hk => by repeat' (first | exact hk.1 | exact hk.2.1 | exact hk.2.2.1 | exact hk.2.2.2 | exact hk.2.2 | constructor))⟩, ⟨by (with_reducible repeat (first | apply Kd.N_alloc | apply Kd.N_drewN | apply Kd.N_drew)); first | exact HO_30.out | exact Kd.N_mono HO_30.out (fun k_ hk => by repeat' (first | exact hk.1 | exact hk.2.1 | exact hk.2.2.1 | exact hk.2.2.2 | exact hk.2.2 | constructor))⟩, ⟨by repeat (first | (with_reducible exact HR231_0.out) | (with_reducible refine Kd.C_alloc ?_ _) | (with_reducible refine Kd.C_drewN ?_ _) | (with_reducible refine Kd.C_drew ?_) | exact HR231_0.out)⟩, ⟨by repeat (first | (with_reducible first | exact HB.out | apply below_alloc | apply pw_below_drewN | apply below_drew1) | exact HB.out)⟩⟩
                          · rw [if_neg c21] at H
                            exact absurd H (by simp)
                        · rw [if_neg c19] at H
                          exact absurd H (by simp)
                      · replace c18 := Bool.eq_false_iff.mpr c18
                        subst c18
                        have H1 : (if 0 < ((rd_L2 x5_1 x32_2).length : Int) then (if 0 < (t235.length : Int) then ((spec_l1Same.f k2 (rd_L1 (rd_L2 x5_1 x32_2) 0) (rd_L1 t235 0)).bind fun t245 => ((spec_gpValue.f k2 (rd_L1 (rd_L2 x5_1 x32_2) 0) a1).bind fun t247 => ((spec_gpValue.f k2 (rd_L1 t235 0) a1).bind fun t249 => (if t247 < t249 then (spec_gpCycles.l1 k2 a0 a1 x5_1 t235 (wrap64 (x9_2 + 1)) t245 t228 (t228.length : Int) x20_1 x5_1 (x5_1.length : Int) (wrap64 (x32_2 + 1))) else (spec_gpCycles.l1 k2 a0 a1 x5_1 t235 x9_2 t245 t228 (t228.length : Int) x20_1 x5_1 (x5_1.length : Int) (wrap64 (x32_2 + 1))))))) else (none)) else (none)) = some r := by rw [if_neg (show ¬ (false = true) by decide)] at H; exact H
                        clear H
                        have H := H1
                        clear H1
                        by_cases c30 : 0 < ((rd_L2 x5_1 x32_2).length : Int)
                        · rw [if_pos c30] at H
                          have c30b0 : decide (0 < ((rd_L2 x5_1 x32_2).length : Int)) = true := decide_eq_true c30
                          have c30b1 : decide (0 < (rd_L2 x5_1 x32_2).length) = true := decide_eq_true (by omega)
                          clear c30
                          by_cases c31 : 0 < (t235.length : Int)
                          · rw [if_pos c31] at H
                            have c31b0 : decide (0 < (t235.length : Int)) = true := decide_eq_true c31
                            have c31b1 : decide (0 < t235.length) = true := decide_eq_true (by omega)
                            clear c31
                            replace H := Option.bind_eq_some_iff.mp H
                            obtain ⟨t245, A320, H⟩ := H
                            replace H : ((spec_gpValue.f k2 (rd_L1 (rd_L2 x5_1 x32_2) 0) a1).bind fun t247 => ((spec_gpValue.f k2 (rd_L1 t235 0) a1).bind fun t249 => (if t247 < t249 then (spec_gpCycles.l1 k2 a0 a1 x5_1 t235 (wrap64 (x9_2 + 1)) t245 t228 (t228.length : Int) x20_1 x5_1 (x5_1.length : Int) (wrap64 (x32_2 + 1))) else (spec_gpCycles.l1 k2 a0 a1 x5_1 t235 x9_2 t245 t228 (t228.length : Int) x20_1 x5_1 (x5_1.length : Int) (wrap64 (x32_2 + 1)))))) = some r := H
                            have A32 := Aside0.mk A320
                            clear A320
                            replace H := Option.bind_eq_some_iff.mp H
                            obtain ⟨t247, A330, H⟩ := H
                            replace H : ((spec_gpValue.f k2 (rd_L1 t235 0) a1).bind fun t249 => (if t247 < t249 then (spec_gpCycles.l1 k2 a0 a1 x5_1 t235 (wrap64 (x9_2 + 1)) t245 t228 (t228.length : Int) x20_1 x5_1 (x5_1.length : Int) (wrap64 (x32_2 + 1))) else (spec_gpCycles.l1 k2 a0 a1 x5_1 t235 x9_2 t245 t228 (t228.length : Int) x20_1 x5_1 (x5_1.length : Int) (wrap64 (x32_2 + 1))))) = some r := H
                            have A33 := Aside0.mk A330
                            clear A330
                            replace H := Option.bind_eq_some_iff.mp H
                            obtain ⟨t249, A340, H⟩ := H
                            replace H : (if t247 < t249 then (spec_gpCycles.l1 k2 a0 a1 x5_1 t235 (wrap64 (x9_2 + 1)) t245 t228 (t228.length : Int) x20_1 x5_1 (x5_1.length : Int) (wrap64 (x32_2 + 1))) else (spec_gpCycles.l1 k2 a0 a1 x5_1 t235 x9_2 t245 t228 (t228.length : Int) x20_1 x5_1 (x5_1.length : Int) (wrap64 (x32_2 + 1)))) = some r := H
                            have A34 := Aside0.mk A340
                            clear A340
                            by_cases c35 : t247 < t249
                            · rw [if_pos c35] at H
                              have c35b0 : decide (t247 < t249) = true := decide_eq_true c35
                              clear c35
                              have H' := Aside0.mk H
                              clear H
                              have p238 : 0 ≤ (x32_2 : Int) := of_decide_eq_true (by first | (with_reducible assumption) | assumption)
                              have q238 : x32_2 < (x5_1.length : Int) := of_decide_eq_true (by first | (with_reducible assumption) | assumption)
                              obtain ⟨ad238, A238_0, c238_0, e238, hx238_0, hl238_0, hi238_0⟩ := at_L2 (Kd.N_reads' HO_30.out).2.2 x32_2 p238 q238
                              cases e238
                              obtain ⟨ce238, hce238, hMe238, hcc238⟩ := Kd.N_get HO_30.out [] x32_2 p238 (by first | exact q238 | exact of_decide_eq_true (by first | (with_reducible assumption) | assumption) | (have e_ := (Kd.N_reads' HO_30.out).1; omega))
                              obtain ⟨ua238_0, uc238_0, rfl, ul238_0, ge238_0⟩ := Kd.FK_slice_open hMe238
                              have hv238_0 := hcc238 0 _ rfl
                              rw [Nat.add_zero, show ((Kd.slice 22 (Kd.slice 3 (Kd.int .i64)))).sz = 1 from rfl, Nat.mul_one] at hv238_0
                              replace hv238_0 := Option.some.inj (hv238_0.symm.trans hx238_0)
                              injection hv238_0 with hva_ hvn_ hvc_
                              rw [hva_] at ge238_0
                              rw [hvc_] at ul238_0
                              have HL238_0 := Aside0.mk (show Kd.V (Kd.slice 3 (Kd.int .i64)) 22 _ w.heap.size _ _ (rd_L2 x5_1 x32_2) from Kd.V_mk ul238_0 ge238_0)
                              clear hva_ hvn_ hvc_ ge238_0 ul238_0
                              clear hcc238 hce238
                              have HR238_0 := Aside0.mk hi238_0
                              have HC238_0 := Aside0.mk hl238_0
                              clear hi238_0 hl238_0
                              replace p238 := eq_true p238
                              replace q238 := eq_true q238
                              try go_wp2
                              have n0_ := Aside0.mk (Kd.N_drew HO_5.out)
                              have n1_ := Aside0.mk (Kd.N_drew HO_8.out)
                              have n2_ := Aside0.mk (Kd.N_drew HO_18.out)
                              have n3_ := Aside0.mk (Kd.N_drew HO_30.out)
                              have n4_ := Aside0.mk (Kd.V_drew HL238_0.out)
                              have n5_ := Aside0.mk (Kd.C_drew HR231_0.out)
                              have n6_ := Aside0.mk (Kd.C_drew HR238_0.out)
                              have n7_ := Aside0.mk (below_drew1 HB.out)
                              clear HO_5
                              clear HO_8
                              clear HO_18
                              clear HO_30
                              clear HL238_0
                              clear HR231_0
                              clear HR238_0
                              clear HB
                              have HO_5 := n0_
                              have HO_8 := n1_
                              have HO_18 := n2_
                              have HO_30 := n3_
                              have HL238_0 := n4_
                              have HR231_0 := n5_
                              have HR238_0 := n6_
                              have HB := n7_
                              clear n0_ n1_ n2_ n3_ n4_ n5_ n6_ n7_
                              have p243 : 0 ≤ (0 : Int) := (by omega)
                              have q243 : 0 < ((rd_L2 x5_1 x32_2).length : Int) := of_decide_eq_true (by first | (with_reducible assumption) | assumption)
                              obtain ⟨ad243, A243_0, c243_0, e243, hx243_0, hl243_0, hi243_0⟩ := at_L1 (by repeat (first | (with_reducible exact HR238_0.out) | (with_reducible refine Kd.C_alloc ?_ _) | (with_reducible refine Kd.C_drewN ?_ _) | (with_reducible refine Kd.C_drew ?_) | exact HR238_0.out)) 0 p243 q243
                              cases e243
                              obtain ⟨ce243, hce243, hMe243, hcc243⟩ := Kd.V_get HL238_0.out [] 0 p243 (by first | exact q243 | exact of_decide_eq_true (by first | (with_reducible assumption) | assumption) | (have e_ := (Kd.V_reads' HL238_0.out).1; omega))
                              obtain ⟨ua243_0, uc243_0, rfl, ul243_0, ge243_0⟩ := Kd.FK_slice_open hMe243
                              have hv243_0 := hcc243 0 _ rfl
                              rw [Nat.add_zero, show ((Kd.slice 3 (Kd.int .i64))).sz = 1 from rfl, Nat.mul_one] at hv243_0
                              replace hv243_0 := Option.some.inj (hv243_0.symm.trans hx243_0)
                              injection hv243_0 with hva_ hvn_ hvc_
                              rw [hva_] at ge243_0
                              rw [hvc_] at ul243_0
                              have HL243_0 := Aside0.mk (show Kd.V (Kd.int .i64) 3 _ w.heap.size _ _ (rd_L1 (rd_L2 x5_1 x32_2) 0) from Kd.V_mk ul243_0 ge243_0)
                              clear hva_ hvn_ hvc_ ge243_0 ul243_0
                              clear hcc243 hce243
                              have qi243 : (0 < (rd_L2 x5_1 x32_2).length) = True := eq_true (by omega)
                              (try rw [show ((0 : Int)).toNat = 0 from rfl] at hx243_0)
                              (try rw [Addr.add_zero'] at hx243_0)
                              have HR243_0 := Aside0.mk hi243_0
                              have HC243_0 := Aside0.mk hl243_0
                              clear hi243_0 hl243_0
                              replace p243 := eq_true p243
                              replace q243 := eq_true q243
                              obtain ⟨Ao37, co37, eo37⟩ := Kd.N_slice HO_8.out
                              (first | subst eo37 | (injection eo37 with f1_ f2_ f3_; have f4_ := f1_.symm; have f5_ := f3_.symm; clear f1_ f2_ f3_; subst f4_; subst f5_))
                              have p244 : 0 ≤ (0 : Int) := (by omega)
                              have q244 : 0 < (t235.length : Int) := of_decide_eq_true (by first | (with_reducible assumption) | assumption)
                              obtain ⟨ad244, A244_0, c244_0, e244, hx244_0, hl244_0, hi244_0⟩ := at_L1 (Kd.N_reads' HO_8.out).2.2 0 p244 q244
                              cases e244
                              obtain ⟨ce244, hce244, hMe244, hcc244⟩ := Kd.N_get HO_8.out [] 0 p244 (by first | exact q244 | exact of_decide_eq_true (by first | (with_reducible assumption) | assumption) | (have e_ := (Kd.N_reads' HO_8.out).1; omega))
                              obtain ⟨ua244_0, uc244_0, rfl, ul244_0, ge244_0⟩ := Kd.FK_slice_open hMe244
                              have hv244_0 := hcc244 0 _ rfl
                              rw [Nat.add_zero, show ((Kd.slice 3 (Kd.int .i64))).sz = 1 from rfl, Nat.mul_one] at hv244_0
                              replace hv244_0 := Option.some.inj (hv244_0.symm.trans hx244_0)
                              injection hv244_0 with hva_ hvn_ hvc_
                              rw [hva_] at ge244_0
                              rw [hvc_] at ul244_0
                              have HL244_0 := Aside0.mk (show Kd.V (Kd.int .i64) 3 _ w.heap.size _ _ (rd_L1 t235 0) from Kd.V_mk ul244_0 ge244_0)
                              clear hva_ hvn_ hvc_ ge244_0 ul244_0
                              clear hcc244 hce244
                              have qi244 : (0 < t235.length) = True := eq_true (by omega)
                              (try rw [show ((0 : Int)).toNat = 0 from rfl] at hx244_0)
                              (try rw [Addr.add_zero'] at hx244_0)
                              have HR244_0 := Aside0.mk hi244_0
                              have HC244_0 := Aside0.mk hl244_0
                              clear hi244_0 hl244_0
                              replace p244 := eq_true p244
                              replace q244 := eq_true q244
                              refine start_ (n := 11) (S := fun w' => w'.cell? ad243 = some (.slice A243_0 (rd_L1 (rd_L2 x5_1 x32_2) 0).length c243_0) ∧ w'.cell? ad244 = some (.slice A244_0 (rd_L1 t235 0).length c244_0)) (ds := []) #[false, false, false, false, false, false, false, false, false, false, false] (by kernel_rfl) rfl rfl ⟨hx243_0, hx244_0⟩ (fun hHeld => ?_); refine with_tabW spec_gpCycles.tab10 spec_gpCycles.bits10 (fun HT_ HW_ => ?_)
                              generalize wr.drew = w36 at HO_5 HO_8 HO_18 HO_30 HL238_0 HR231_0 HR238_0 HB HL243_0 HL244_0 HR243_0 HR244_0 hx243_0 hx244_0 hHeld ⊢
                              refine pure_ (i := 0) (N := some 36) (v := ?_) (a' := ?_) #[true, false, false, false, false, false, false, false, false, false, false] rfl rfl (any_of HT_.out (by kernel_rfl)) (fun _ _ _ h => h) (Or.inl ⟨by rfl, ?_⟩) ?_ ?_
                              rotate_left
                              · intro w'
                                go_simp
                                with_reducible rfl
                              rotate_left
                              · simp only [Act.put, List.setIfInBounds_toArray, List.set_cons_zero, List.set_cons_succ, i64_w, i32_w]
                                rfl
                              refine pure_ (i := 1) (N := some 37) (v := ?_) (a' := ?_) #[true, true, false, false, false, false, false, false, false, false, false] rfl rfl (any_of HT_.out (by kernel_rfl)) (fun _ _ _ h => h) (Or.inl ⟨by rfl, ?_⟩) ?_ ?_
                              rotate_left
                              · intro w'
                                go_simp
                                with_reducible rfl
                              rotate_left
                              · simp only [Act.put, List.setIfInBounds_toArray, List.set_cons_zero, List.set_cons_succ, i64_w, i32_w]
                                rfl
                              refine pure_ (i := 2) (N := some 38) (v := ?_) (a' := ?_) #[true, true, true, false, false, false, false, false, false, false, false] rfl rfl (any_of HT_.out (by kernel_rfl)) (fun _ _ _ h => h) (Or.inl ⟨by rfl, ?_⟩) ?_ ?_
                              rotate_left
                              · intro w'
                                go_simp
                                with_reducible rfl
                              rotate_left
                              · simp only [Act.put, List.setIfInBounds_toArray, List.set_cons_zero, List.set_cons_succ, i64_w, i32_w]
                                rfl
                              refine pure_ (i := 3) (N := some 39) (v := ?_) (a' := ?_) #[true, true, true, true, false, false, false, false, false, false, false] rfl rfl (any_of HT_.out (by kernel_rfl)) (fun _ _ _ h => h) (Or.inl ⟨by rfl, ?_⟩) ?_ ?_
                              rotate_left
                              · intro w'
                                go_simp
                                with_reducible rfl
                              rotate_left
                              · simp only [Act.put, List.setIfInBounds_toArray, List.set_cons_zero, List.set_cons_succ, i64_w, i32_w]
                                rfl
                              refine pure_ (i := 5) (N := some 41) (v := ?_) (a' := ?_) #[true, true, true, true, false, true, false, false, false, false, false] rfl rfl (any_of HT_.out (by kernel_rfl)) (fun _ _ _ h => h) (Or.inl ⟨by rfl, ?_⟩) ?_ ?_
                              rotate_left
                              · intro w'
                                go_simp
                                with_reducible rfl
                              rotate_left
                              · simp only [Act.put, List.setIfInBounds_toArray, List.set_cons_zero, List.set_cons_succ, i64_w, i32_w]
                                rfl
                              refine pure_ (i := 6) (N := some 42) (v := ?_) (a' := ?_) #[true, true, true, true, false, true, true, false, false, false, false] rfl rfl (any_of HT_.out (by kernel_rfl)) (fun _ _ _ h => h) (Or.inl ⟨by rfl, ?_⟩) ?_ ?_
                              rotate_left
                              · intro w'
                                go_simp
                                with_reducible rfl
                              rotate_left
                              · simp only [Act.put, List.setIfInBounds_toArray, List.set_cons_zero, List.set_cons_succ, i64_w, i32_w]
                                rfl
                              refine take_ (i := 4) (N := some 40) (v := ?_) (a' := ?_) #[true, true, true, true, true, true, true, false, false, false, false] rfl rfl (take_ofW HT_.out HW_.out (by kernel_rfl)) (fun _ _ _ h => h) (Or.inl ⟨by rfl, ?_⟩) hHeld ?_ ?_
                              rotate_left
                              · rintro w' ⟨s0, s1⟩
                                go_simp
                                with_reducible rfl
                              rotate_left
                              · simp only [Act.put, List.setIfInBounds_toArray, List.set_cons_zero, List.set_cons_succ, i64_w, i32_w]
                                rfl
                              refine take_ (i := 7) (N := some 43) (v := ?_) (a' := ?_) #[true, true, true, true, true, true, true, true, false, false, false] rfl rfl (take_ofW HT_.out HW_.out (by kernel_rfl)) (fun _ _ _ h => h) (Or.inl ⟨by rfl, ?_⟩) hHeld ?_ ?_
                              rotate_left
                              · rintro w' ⟨s0, s1⟩
                                go_simp
                                with_reducible rfl
                              rotate_left
                              · simp only [Act.put, List.setIfInBounds_toArray, List.set_cons_zero, List.set_cons_succ, i64_w, i32_w]
                                rfl
                              refine one_ (i := 8) (N := some 44) #[true, true, true, true, true, true, true, true, true, false, false] rfl rfl (one_of HT_.out (by kernel_rfl)) (by decide) (fun K hK => ?_)
                              refine goes_ Try.func63 (by kernel_rfl) rfl #[.slice A243_0 (rd_L1 (rd_L2 x5_1 x32_2) 0).length c243_0, .slice A244_0 (rd_L1 t235 0).length c244_0] (by rfl) rfl rfl (by (try simp only [List.map_toArray, List.map_cons, List.map_nil]); first | done | rfl | (simp only [List.length_drop, List.length_take]; rfl)) ?_
                              with_reducible refine (spec_l1Same.calls k2 _ _ (rd_L1 (rd_L2 x5_1 x32_2) 0) _ _ (rd_L1 t235 0) t245 _ ?side1 ?side2 ?side3 ?side4 A32.out).mono ?_
                              (case side1 => repeat (first | exact (by repeat (first | (with_reducible exact HR243_0.out) | (with_reducible refine Kd.C_alloc ?_ _) | (with_reducible refine Kd.C_drewN ?_ _) | (with_reducible refine Kd.C_drew ?_) | exact HR243_0.out)) | (with_reducible refine Kd.C_alloc ?_ _) | (with_reducible refine Kd.C_drewN ?_ _) | (with_reducible refine Kd.C_drew ?_)))
                              (case side2 => exact HC243_0.out)
                              (case side3 => repeat (first | exact (by repeat (first | (with_reducible exact HR244_0.out) | (with_reducible refine Kd.C_alloc ?_ _) | (with_reducible refine Kd.C_drewN ?_ _) | (with_reducible refine Kd.C_drew ?_) | exact HR244_0.out)) | (with_reducible refine Kd.C_alloc ?_ _) | (with_reducible refine Kd.C_drewN ?_ _) | (with_reducible refine Kd.C_drew ?_)))
                              (case side4 => exact HC244_0.out)
                              rintro e w' ⟨rfl, ⟨nd, rfl⟩⟩
                              refine ⟨_, rfl, ?_⟩
                              refine hK.out _ _ ⟨hHeld.1, hHeld.2⟩ (fun hHeld => ?_)
                              clear hK K
                              refine norm_ (a' := ?_) ?_ ?_
                              rotate_left
                              · show Act.put _ (some 44) _ = _
                                simp only [Act.put, List.setIfInBounds_toArray, List.set_cons_zero, List.set_cons_succ, i64_w, i32_w]
                                rfl
                              refine pure_ (i := 9) (N := some 45) (v := ?_) (a' := ?_) #[true, true, true, true, true, true, true, true, true, true, false] rfl rfl (any_of HT_.out (by kernel_rfl)) (fun _ _ _ h => h) (Or.inl ⟨by rfl, ?_⟩) ?_ ?_
                              rotate_left
                              · intro w'
                                go_simp
                                with_reducible rfl
                              rotate_left
                              · simp only [Act.put, List.setIfInBounds_toArray, List.set_cons_zero, List.set_cons_succ, i64_w, i32_w]
                                rfl
                              refine pure_ (i := 10) (N := some 10) (v := ?_) (a' := ?_) #[true, true, true, true, true, true, true, true, true, true, true] rfl rfl (any_of HT_.out (by kernel_rfl)) (fun _ _ _ h => h) (Or.inl ⟨by rfl, ?_⟩) ?_ ?_
                              rotate_left
                              · intro w'
                                go_simp
                                with_reducible rfl
                              rotate_left
                              · simp only [Act.put, List.setIfInBounds_toArray, List.set_cons_zero, List.set_cons_succ, i64_w, i32_w]
                                rfl
                              refine done_ (done_of HT_.out (by kernel_rfl)) ?_
                              try go_wp2
                              (try (rw [drewN_self w36]; generalize hq_ : World.drewN w36 _ = w36; have n0_ : Aside0 (Kd.V (Kd.slice 3 (Kd.int .i64)) 22 w36 w.heap.size (fun k_ => (w.heap.size ≤ k_) ∧ some k_ ≠ (.slice (some ad231) t228.length co5 : Value).ownBlock ∧ some k_ ≠ (.slice (some ad238) x5_1.length co14 : Value).ownBlock ∧ some k_ ≠ (.slice (some ad244) t235.length co37 : Value).ownBlock) (.slice (some ad243) (rd_L2 x5_1 x32_2).length c238_0) (rd_L2 x5_1 x32_2)) := ⟨by rw [← hq_]; exact (by (with_reducible repeat (first | apply Kd.V_alloc | apply Kd.V_drewN | apply Kd.V_drew)); exact Kd.V_mono HL238_0.out (fun _ hk => ⟨hk.1.1, ⟨hk.1.2.2, ⟨hk.2, hk.1.2.1⟩⟩⟩))⟩; have n1_ : Aside0 (Kd.V (Kd.int .i64) 3 w36 w.heap.size (fun k_ => (w.heap.size ≤ k_) ∧ some k_ ≠ (.slice (some ad231) t228.length co5 : Value).ownBlock ∧ some k_ ≠ (.slice (some ad238) x5_1.length co14 : Value).ownBlock ∧ some k_ ≠ (.slice (some ad244) t235.length co37 : Value).ownBlock) (.slice A243_0 (rd_L1 (rd_L2 x5_1 x32_2) 0).length c243_0) (rd_L1 (rd_L2 x5_1 x32_2) 0)) := ⟨by rw [← hq_]; exact (by (with_reducible repeat (first | apply Kd.V_alloc | apply Kd.V_drewN | apply Kd.V_drew)); exact Kd.V_mono HL243_0.out (fun _ hk => ⟨hk.1.1, ⟨hk.1.2.2, ⟨hk.2, hk.1.2.1⟩⟩⟩))⟩; have n2_ : Aside0 (Kd.V (Kd.int .i64) 3 w36 w.heap.size (fun k_ => (w.heap.size ≤ k_) ∧ some k_ ≠ (.slice (some ad231) t228.length co5 : Value).ownBlock ∧ some k_ ≠ (.slice (some ad238) x5_1.length co14 : Value).ownBlock ∧ some k_ ≠ (.slice (some ad238) x5_1.length co14 : Value).ownBlock ∧ some k_ ≠ (.slice (some ad244) t235.length co37 : Value).ownBlock) (.slice A244_0 (rd_L1 t235 0).length c244_0) (rd_L1 t235 0)) := ⟨by rw [← hq_]; exact (by (with_reducible repeat (first | apply Kd.V_alloc | apply Kd.V_drewN | apply Kd.V_drew)); exact Kd.V_mono HL244_0.out (fun _ hk => ⟨hk.1.1, ⟨hk.1.2.2.1, ⟨hk.1.2.2.2, ⟨hk.1.2.1, hk.2⟩⟩⟩⟩))⟩; have n3_ : Aside0 (Kd.N (Kd.slice 3 (Kd.int .i64)) 22 w36 w.heap.size (fun k_ => (w.heap.size ≤ k_) ∧ some k_ ≠ (.slice (some ad238) x5_1.length co14 : Value).ownBlock ∧ some k_ ≠ (.slice (some ad238) x5_1.length co14 : Value).ownBlock ∧ some k_ ≠ (.slice (some ad244) t235.length co37 : Value).ownBlock) (.slice (some ad231) t228.length co5) t228) := ⟨by rw [← hq_]; exact (by (with_reducible repeat (first | apply Kd.N_alloc | apply Kd.N_drewN | apply Kd.N_drew)); exact Kd.N_mono HO_18.out (fun _ hk => ⟨hk.1, ⟨hk.2.2.2, ⟨hk.2.1, hk.2.2.1⟩⟩⟩))⟩; have n4_ : Aside0 (Kd.N (Kd.slice 22 (Kd.slice 3 (Kd.int .i64))) 31 w36 w.heap.size (fun k_ => (w.heap.size ≤ k_) ∧ some k_ ≠ (.slice (some ad231) t228.length co5 : Value).ownBlock ∧ some k_ ≠ (.slice (some ad244) t235.length co37 : Value).ownBlock) (.slice (some ad238) x5_1.length co14) x5_1) := ⟨by rw [← hq_]; exact (by (with_reducible repeat (first | apply Kd.N_alloc | apply Kd.N_drewN | apply Kd.N_drew)); exact Kd.N_mono HO_30.out (fun _ hk => ⟨hk.1, ⟨hk.2.2, hk.2.1⟩⟩))⟩; have n5_ : Aside0 (Kd.N (Kd.slice 22 (Kd.slice 3 (Kd.int .i64))) 31 w36 w.heap.size (fun k_ => (w.heap.size ≤ k_) ∧ some k_ ≠ (.slice (some ad231) t228.length co5 : Value).ownBlock ∧ some k_ ≠ (.slice (some ad244) t235.length co37 : Value).ownBlock) (.slice (some ad238) x5_1.length co14) x5_1) := ⟨by rw [← hq_]; exact (by (with_reducible repeat (first | apply Kd.N_alloc | apply Kd.N_drewN | apply Kd.N_drew)); exact Kd.N_mono HO_5.out (fun _ hk => ⟨hk.1, ⟨hk.2.2, hk.2.1⟩⟩))⟩; have n6_ : Aside0 (Kd.N (Kd.slice 3 (Kd.int .i64)) 22 w36 w.heap.size (fun k_ => (w.heap.size ≤ k_) ∧ some k_ ≠ (.slice (some ad231) t228.length co5 : Value).ownBlock ∧ some k_ ≠ (.slice (some ad238) x5_1.length co14 : Value).ownBlock ∧ some k_ ≠ (.slice (some ad238) x5_1.length co14 : Value).ownBlock) (.slice (some ad244) t235.length co37) t235) := ⟨by rw [← hq_]; exact (by (with_reducible repeat (first | apply Kd.N_alloc | apply Kd.N_drewN | apply Kd.N_drew)); exact Kd.N_mono HO_8.out (fun _ hk => ⟨hk.1, ⟨hk.2.2.1, ⟨hk.2.2.2, hk.2.1⟩⟩⟩))⟩; have n7_ : Aside0 (Below w.heap.size w w36) := ⟨by rw [← hq_]; exact (by repeat (first | (with_reducible first | exact HB.out | apply below_alloc | apply pw_below_drewN | apply below_drew1) | exact HB.out))⟩; have n8_ : Aside0 (Kd.C (Kd.int .i64) w36 A231_0 (rd_L1 t228 x20_1).length (rd_L1 t228 x20_1)) := ⟨by rw [← hq_]; exact (by repeat (first | (with_reducible exact HR231_0.out) | (with_reducible refine Kd.C_alloc ?_ _) | (with_reducible refine Kd.C_drewN ?_ _) | (with_reducible refine Kd.C_drew ?_) | exact HR231_0.out))⟩; have n9_ : Aside0 (Kd.C (Kd.slice 3 (Kd.int .i64)) w36 (some ad243) (rd_L2 x5_1 x32_2).length (rd_L2 x5_1 x32_2)) := ⟨by rw [← hq_]; exact (by repeat (first | (with_reducible exact HR238_0.out) | (with_reducible refine Kd.C_alloc ?_ _) | (with_reducible refine Kd.C_drewN ?_ _) | (with_reducible refine Kd.C_drew ?_) | exact HR238_0.out))⟩; have n10_ : Aside0 (Kd.C (Kd.int .i64) w36 A243_0 (rd_L1 (rd_L2 x5_1 x32_2) 0).length (rd_L1 (rd_L2 x5_1 x32_2) 0)) := ⟨by rw [← hq_]; exact (by repeat (first | (with_reducible exact HR243_0.out) | (with_reducible refine Kd.C_alloc ?_ _) | (with_reducible refine Kd.C_drewN ?_ _) | (with_reducible refine Kd.C_drew ?_) | exact HR243_0.out))⟩; have n11_ : Aside0 (Kd.C (Kd.int .i64) w36 A244_0 (rd_L1 t235 0).length (rd_L1 t235 0)) := ⟨by rw [← hq_]; exact (by repeat (first | (with_reducible exact HR244_0.out) | (with_reducible refine Kd.C_alloc ?_ _) | (with_reducible refine Kd.C_drewN ?_ _) | (with_reducible refine Kd.C_drew ?_) | exact HR244_0.out))⟩; clear HL238_0 HL243_0 HL244_0 HO_18 HO_30 HO_5 HO_8 HB HR231_0 HR238_0 HR243_0 HR244_0 hq_; have HL238_0 := n0_; have HL243_0 := n1_; have HL244_0 := n2_; have HO_18 := n3_; have HO_30 := n4_; have HO_5 := n5_; have HO_8 := n6_; have HB := n7_; have HR231_0 := n8_; have HR238_0 := n9_; have HR243_0 := n10_; have HR244_0 := n11_; clear n0_ n1_ n2_ n3_ n4_ n5_ n6_ n7_ n8_ n9_ n10_ n11_))
                              have n0_ := Aside0.mk (Kd.N_drew HO_5.out)
                              have n1_ := Aside0.mk (Kd.N_drew HO_8.out)
                              have n2_ := Aside0.mk (Kd.N_drew HO_18.out)
                              have n3_ := Aside0.mk (Kd.N_drew HO_30.out)
                              have n4_ := Aside0.mk (Kd.V_drew HL238_0.out)
                              have n5_ := Aside0.mk (Kd.V_drew HL243_0.out)
                              have n6_ := Aside0.mk (Kd.V_drew HL244_0.out)
                              have n7_ := Aside0.mk (Kd.C_drew HR231_0.out)
                              have n8_ := Aside0.mk (Kd.C_drew HR238_0.out)
                              have n9_ := Aside0.mk (Kd.C_drew HR243_0.out)
                              have n10_ := Aside0.mk (Kd.C_drew HR244_0.out)
                              have n11_ := Aside0.mk (below_drew1 HB.out)
                              clear HO_5
                              clear HO_8
                              clear HO_18
                              clear HO_30
                              clear HL238_0
                              clear HL243_0
                              clear HL244_0
                              clear HR231_0
                              clear HR238_0
                              clear HR243_0
                              clear HR244_0
                              clear HB
                              have HO_5 := n0_
                              have HO_8 := n1_
                              have HO_18 := n2_
                              have HO_30 := n3_
                              have HL238_0 := n4_
                              have HL243_0 := n5_
                              have HL244_0 := n6_
                              have HR231_0 := n7_
                              have HR238_0 := n8_
                              have HR243_0 := n9_
                              have HR244_0 := n10_
                              have HB := n11_
                              clear n0_ n1_ n2_ n3_ n4_ n5_ n6_ n7_ n8_ n9_ n10_ n11_
                              have p246 : 0 ≤ (0 : Int) := (by omega)
                              have q246 : 0 < ((rd_L2 x5_1 x32_2).length : Int) := of_decide_eq_true (by first | (with_reducible assumption) | assumption)
                              obtain ⟨ad246, A246_0, c246_0, e246, hx246_0, hl246_0, hi246_0⟩ := at_L1 (by repeat (first | (with_reducible exact HR238_0.out) | (with_reducible refine Kd.C_alloc ?_ _) | (with_reducible refine Kd.C_drewN ?_ _) | (with_reducible refine Kd.C_drew ?_) | exact HR238_0.out)) 0 p246 q246
                              obtain rfl : ad243 = ad246 := (by injection e246)
                              obtain ⟨ce246, hce246, hMe246, hcc246⟩ := Kd.V_get HL238_0.out [] 0 p246 (by first | exact q246 | exact of_decide_eq_true (by first | (with_reducible assumption) | assumption) | (have e_ := (Kd.V_reads' HL238_0.out).1; omega))
                              obtain ⟨ua246_0, uc246_0, rfl, ul246_0, ge246_0⟩ := Kd.FK_slice_open hMe246
                              have hv246_0 := hcc246 0 _ rfl
                              rw [Nat.add_zero, show ((Kd.slice 3 (Kd.int .i64))).sz = 1 from rfl, Nat.mul_one] at hv246_0
                              replace hv246_0 := Option.some.inj (hv246_0.symm.trans hx246_0)
                              injection hv246_0 with hva_ hvn_ hvc_
                              rw [hva_] at ge246_0
                              rw [hvc_] at ul246_0
                              have HL246_0 := Aside0.mk (show Kd.V (Kd.int .i64) 3 _ w.heap.size _ _ (rd_L1 (rd_L2 x5_1 x32_2) 0) from Kd.V_mk ul246_0 ge246_0)
                              clear hva_ hvn_ hvc_ ge246_0 ul246_0
                              clear hcc246 hce246
                              have qi246 : (0 < (rd_L2 x5_1 x32_2).length) = True := eq_true (by omega)
                              (try rw [show ((0 : Int)).toNat = 0 from rfl] at hx246_0)
                              (try rw [Addr.add_zero'] at hx246_0)
                              have HR246_0 := Aside0.mk hi246_0
                              have HC246_0 := Aside0.mk hl246_0
                              clear hi246_0 hl246_0
                              replace p246 := eq_true p246
                              replace q246 := eq_true q246
                              have p248 : 0 ≤ (0 : Int) := (by omega)
                              have q248 : 0 < (t235.length : Int) := of_decide_eq_true (by first | (with_reducible assumption) | assumption)
                              obtain ⟨ad248, A248_0, c248_0, e248, hx248_0, hl248_0, hi248_0⟩ := at_L1 (Kd.N_reads' HO_8.out).2.2 0 p248 q248
                              obtain rfl : ad244 = ad248 := (by injection e248)
                              obtain ⟨ce248, hce248, hMe248, hcc248⟩ := Kd.N_get HO_8.out [] 0 p248 (by first | exact q248 | exact of_decide_eq_true (by first | (with_reducible assumption) | assumption) | (have e_ := (Kd.N_reads' HO_8.out).1; omega))
                              obtain ⟨ua248_0, uc248_0, rfl, ul248_0, ge248_0⟩ := Kd.FK_slice_open hMe248
                              have hv248_0 := hcc248 0 _ rfl
                              rw [Nat.add_zero, show ((Kd.slice 3 (Kd.int .i64))).sz = 1 from rfl, Nat.mul_one] at hv248_0
                              replace hv248_0 := Option.some.inj (hv248_0.symm.trans hx248_0)
                              injection hv248_0 with hva_ hvn_ hvc_
                              rw [hva_] at ge248_0
                              rw [hvc_] at ul248_0
                              have HL248_0 := Aside0.mk (show Kd.V (Kd.int .i64) 3 _ w.heap.size _ _ (rd_L1 t235 0) from Kd.V_mk ul248_0 ge248_0)
                              clear hva_ hvn_ hvc_ ge248_0 ul248_0
                              clear hcc248 hce248
                              have qi248 : (0 < t235.length) = True := eq_true (by omega)
                              (try rw [show ((0 : Int)).toNat = 0 from rfl] at hx248_0)
                              (try rw [Addr.add_zero'] at hx248_0)
                              have HR248_0 := Aside0.mk hi248_0
                              have HC248_0 := Aside0.mk hl248_0
                              clear hi248_0 hl248_0
                              replace p248 := eq_true p248
                              replace q248 := eq_true q248
                              refine start_ (n := 11) (S := fun w' => w'.cell? ad243 = some (.slice A246_0 (rd_L1 (rd_L2 x5_1 x32_2) 0).length c246_0) ∧ w'.cell? ad244 = some (.slice A248_0 (rd_L1 t235 0).length c248_0)) (ds := []) #[false, false, false, false, false, false, false, false, false, false, false] (by kernel_rfl) rfl rfl ⟨hx246_0, hx248_0⟩ (fun hHeld => ?_); refine with_tabW spec_gpCycles.tab11 spec_gpCycles.bits11 (fun HT_ HW_ => ?_)
                              generalize w36.drew = w38 at HO_5 HO_8 HO_18 HO_30 HL238_0 HL243_0 HL244_0 HR231_0 HR238_0 HR243_0 HR244_0 HB HL246_0 HL248_0 HR246_0 HR248_0 hx246_0 hx248_0 hHeld ⊢
                              refine pure_ (i := 0) (N := some 46) (v := ?_) (a' := ?_) #[true, false, false, false, false, false, false, false, false, false, false] rfl rfl (any_of HT_.out (by kernel_rfl)) (fun _ _ _ h => h) (Or.inl ⟨by rfl, ?_⟩) ?_ ?_
                              rotate_left
                              · intro w'
                                go_simp
                                with_reducible rfl
                              rotate_left
                              · simp only [Act.put, List.setIfInBounds_toArray, List.set_cons_zero, List.set_cons_succ, i64_w, i32_w]
                                rfl
                              refine pure_ (i := 1) (N := some 47) (v := ?_) (a' := ?_) #[true, true, false, false, false, false, false, false, false, false, false] rfl rfl (any_of HT_.out (by kernel_rfl)) (fun _ _ _ h => h) (Or.inl ⟨by rfl, ?_⟩) ?_ ?_
                              rotate_left
                              · intro w'
                                go_simp
                                with_reducible rfl
                              rotate_left
                              · simp only [Act.put, List.setIfInBounds_toArray, List.set_cons_zero, List.set_cons_succ, i64_w, i32_w]
                                rfl
                              refine pure_ (i := 3) (N := some 49) (v := ?_) (a' := ?_) #[true, true, false, true, false, false, false, false, false, false, false] rfl rfl (any_of HT_.out (by kernel_rfl)) (fun _ _ _ h => h) (Or.inl ⟨by rfl, ?_⟩) ?_ ?_
                              rotate_left
                              · intro w'
                                go_simp
                                with_reducible rfl
                              rotate_left
                              · simp only [Act.put, List.setIfInBounds_toArray, List.set_cons_zero, List.set_cons_succ, i64_w, i32_w]
                                rfl
                              refine pure_ (i := 5) (N := some 51) (v := ?_) (a' := ?_) #[true, true, false, true, false, true, false, false, false, false, false] rfl rfl (any_of HT_.out (by kernel_rfl)) (fun _ _ _ h => h) (Or.inl ⟨by rfl, ?_⟩) ?_ ?_
                              rotate_left
                              · intro w'
                                go_simp
                                with_reducible rfl
                              rotate_left
                              · simp only [Act.put, List.setIfInBounds_toArray, List.set_cons_zero, List.set_cons_succ, i64_w, i32_w]
                                rfl
                              refine pure_ (i := 6) (N := some 52) (v := ?_) (a' := ?_) #[true, true, false, true, false, true, true, false, false, false, false] rfl rfl (any_of HT_.out (by kernel_rfl)) (fun _ _ _ h => h) (Or.inl ⟨by rfl, ?_⟩) ?_ ?_
                              rotate_left
                              · intro w'
                                go_simp
                                with_reducible rfl
                              rotate_left
                              · simp only [Act.put, List.setIfInBounds_toArray, List.set_cons_zero, List.set_cons_succ, i64_w, i32_w]
                                rfl
                              refine pure_ (i := 8) (N := some 54) (v := ?_) (a' := ?_) #[true, true, false, true, false, true, true, false, true, false, false] rfl rfl (any_of HT_.out (by kernel_rfl)) (fun _ _ _ h => h) (Or.inl ⟨by rfl, ?_⟩) ?_ ?_
                              rotate_left
                              · intro w'
                                go_simp
                                with_reducible rfl
                              rotate_left
                              · simp only [Act.put, List.setIfInBounds_toArray, List.set_cons_zero, List.set_cons_succ, i64_w, i32_w]
                                rfl
                              refine take_ (i := 2) (N := some 48) (v := ?_) (a' := ?_) #[true, true, true, true, false, true, true, false, true, false, false] rfl rfl (take_ofW HT_.out HW_.out (by kernel_rfl)) (fun _ _ _ h => h) (Or.inl ⟨by rfl, ?_⟩) hHeld ?_ ?_
                              rotate_left
                              · rintro w' ⟨s0, s1⟩
                                go_simp
                                with_reducible rfl
                              rotate_left
                              · simp only [Act.put, List.setIfInBounds_toArray, List.set_cons_zero, List.set_cons_succ, i64_w, i32_w]
                                rfl
                              refine take_ (i := 7) (N := some 53) (v := ?_) (a' := ?_) #[true, true, true, true, false, true, true, true, true, false, false] rfl rfl (take_ofW HT_.out HW_.out (by kernel_rfl)) (fun _ _ _ h => h) (Or.inl ⟨by rfl, ?_⟩) hHeld ?_ ?_
                              rotate_left
                              · rintro w' ⟨s0, s1⟩
                                go_simp
                                with_reducible rfl
                              rotate_left
                              · simp only [Act.put, List.setIfInBounds_toArray, List.set_cons_zero, List.set_cons_succ, i64_w, i32_w]
                                rfl
                              refine one_ (i := 4) (N := some 50) #[true, true, true, true, true, true, true, true, true, false, false] rfl rfl (one_of HT_.out (by kernel_rfl)) (by decide) (fun K hK => ?_)
                              refine goes_ Try.func73 (by kernel_rfl) rfl #[.slice A246_0 (rd_L1 (rd_L2 x5_1 x32_2) 0).length c246_0, .int .i64 a1] (by rfl) rfl rfl (by (try simp only [List.map_toArray, List.map_cons, List.map_nil]); first | done | rfl | (simp only [List.length_drop, List.length_take]; rfl)) ?_
                              with_reducible refine (spec_gpValue.calls k2 _ _ (rd_L1 (rd_L2 x5_1 x32_2) 0) a1 t247 _ ?side1 ?side2 A33.out).mono ?_
                              (case side1 => repeat (first | exact (by repeat (first | (with_reducible exact HR246_0.out) | (with_reducible refine Kd.C_alloc ?_ _) | (with_reducible refine Kd.C_drewN ?_ _) | (with_reducible refine Kd.C_drew ?_) | exact HR246_0.out)) | (with_reducible refine Kd.C_alloc ?_ _) | (with_reducible refine Kd.C_drewN ?_ _) | (with_reducible refine Kd.C_drew ?_)))
                              (case side2 => exact HC246_0.out)
                              rintro e w' ⟨rfl, ⟨nd, rfl⟩⟩
                              refine ⟨_, rfl, ?_⟩
                              refine hK.out _ _ ⟨hHeld.1, hHeld.2⟩ (fun hHeld => ?_)
                              clear hK K
                              refine norm_ (a' := ?_) ?_ ?_
                              rotate_left
                              · show Act.put _ (some 50) _ = _
                                simp only [Act.put, List.setIfInBounds_toArray, List.set_cons_zero, List.set_cons_succ, i64_w, i32_w]
                                rfl
                              refine one_ (i := 9) (N := some 55) #[true, true, true, true, true, true, true, true, true, true, false] rfl rfl (one_of HT_.out (by kernel_rfl)) (by decide) (fun K hK => ?_)
                              refine goes_ Try.func73 (by kernel_rfl) rfl #[.slice A248_0 (rd_L1 t235 0).length c248_0, .int .i64 a1] (by rfl) rfl rfl (by (try simp only [List.map_toArray, List.map_cons, List.map_nil]); first | done | rfl | (simp only [List.length_drop, List.length_take]; rfl)) ?_
                              with_reducible refine (spec_gpValue.calls k2 _ _ (rd_L1 t235 0) a1 t249 _ ?side1 ?side2 A34.out).mono ?_
                              (case side1 => repeat (first | exact (by repeat (first | (with_reducible exact HR248_0.out) | (with_reducible refine Kd.C_alloc ?_ _) | (with_reducible refine Kd.C_drewN ?_ _) | (with_reducible refine Kd.C_drew ?_) | exact HR248_0.out)) | (with_reducible refine Kd.C_alloc ?_ _) | (with_reducible refine Kd.C_drewN ?_ _) | (with_reducible refine Kd.C_drew ?_)))
                              (case side2 => exact HC248_0.out)
                              rintro e w' ⟨rfl, ⟨nd, rfl⟩⟩
                              refine ⟨_, rfl, ?_⟩
                              refine hK.out _ _ ⟨hHeld.1, hHeld.2⟩ (fun hHeld => ?_)
                              clear hK K
                              refine norm_ (a' := ?_) ?_ ?_
                              rotate_left
                              · show Act.put _ (some 55) _ = _
                                simp only [Act.put, List.setIfInBounds_toArray, List.set_cons_zero, List.set_cons_succ, i64_w, i32_w]
                                rfl
                              refine pure_ (i := 10) (N := some 56) (v := ?_) (a' := ?_) #[true, true, true, true, true, true, true, true, true, true, true] rfl rfl (any_of HT_.out (by kernel_rfl)) (fun _ _ _ h => h) (Or.inl ⟨by rfl, ?_⟩) ?_ ?_
                              rotate_left
                              · intro w'
                                go_simp
                                with_reducible rfl
                              rotate_left
                              · simp only [Act.put, List.setIfInBounds_toArray, List.set_cons_zero, List.set_cons_succ, i64_w, i32_w]
                                rfl
                              refine done_ (done_of HT_.out (by kernel_rfl)) ?_
                              try go_wp2
                              go_roundg k2
                              case measure => have := HK1.out; have := HK2.out; omega
                              case rel => exact ⟨(wrap64 (x9_2 + 1)), (t245), (wrap64 (x32_2 + 1)), (by first | rfl | (simp; done) | (simp [*]; done)), (by first | rfl | (simp; done) | (simp [*]; done)), (by first | rfl | (simp; done) | (simp [*]; done)), H', ⟨by have := HK1.out; have := HK2.out; omega⟩, ⟨by (with_reducible repeat (first | apply Kd.N_alloc | apply Kd.N_drewN | apply Kd.N_drew)); first | exact HO_5.out | exact Kd.N_mono HO_5.out (fun k_ hk => by repeat' (first | exact hk.1 | exact hk.2.1 | exact hk.2.2.1 | exact hk.2.2.2 | exact hk.2.2 | constructor))⟩, ⟨by (with_reducible repeat (first | apply Kd.N_alloc | apply Kd.N_drewN | apply Kd.N_drew)); first | exact HO_8.out | exact Kd.N_mono HO_8.out (fun k_ hk => by repeat' (first | exact hk.1 | exact hk.2.1 | exact hk.2.2.1 | exact hk.2.2.2 | exact hk.2.2 | constructor))⟩, ⟨by (with_reducible repeat (first | apply Kd.N_alloc | apply Kd.N_drewN | apply Kd.N_drew)); first | exact HO_18.out | exact Kd.N_mono HO_18.out (fun k_ hk => by repeat' (first | exact hk.1 | exact hk.2.1 | exact hk.2.2.1 | exact hk.2.2.2 | exact hk.2.2 | constructor))⟩, ⟨by (with_reducible repeat (first | apply Kd.N_alloc | apply Kd.N_drewN | apply Kd.N_drew)); first | exact HO_30.out | exact Kd.N_mono HO_30.out (fun k_ hk => by repeat' (first | exact hk.1 | exact hk.2.1 | exact hk.2.2.1 | exact hk.2.2.2 | exact hk.2.2 | constructor))⟩, ⟨by repeat (first | (with_reducible exact HR231_0.out) | (with_reducible refine Kd.C_alloc ?_ _) | (with_reducible refine Kd.C_drewN ?_ _) | (with_reducible refine Kd.C_drew ?_) | exact HR231_0.out)⟩, ⟨by repeat (first | (with_reducible first | exact HB.out | apply below_alloc | apply pw_below_drewN | apply below_drew1) | exact HB.out)⟩⟩
                            · rw [if_neg c35] at H
                              have c35b0 : decide (t247 < t249) = false := decide_eq_false c35
                              clear c35
                              have H' := Aside0.mk H
                              clear H
                              have p238 : 0 ≤ (x32_2 : Int) := of_decide_eq_true (by first | (with_reducible assumption) | assumption)
                              have q238 : x32_2 < (x5_1.length : Int) := of_decide_eq_true (by first | (with_reducible assumption) | assumption)
                              obtain ⟨ad238, A238_0, c238_0, e238, hx238_0, hl238_0, hi238_0⟩ := at_L2 (Kd.N_reads' HO_30.out).2.2 x32_2 p238 q238
                              cases e238
                              obtain ⟨ce238, hce238, hMe238, hcc238⟩ := Kd.N_get HO_30.out [] x32_2 p238 (by first | exact q238 | exact of_decide_eq_true (by first | (with_reducible assumption) | assumption) | (have e_ := (Kd.N_reads' HO_30.out).1; omega))
                              obtain ⟨ua238_0, uc238_0, rfl, ul238_0, ge238_0⟩ := Kd.FK_slice_open hMe238
                              have hv238_0 := hcc238 0 _ rfl
                              rw [Nat.add_zero, show ((Kd.slice 22 (Kd.slice 3 (Kd.int .i64)))).sz = 1 from rfl, Nat.mul_one] at hv238_0
                              replace hv238_0 := Option.some.inj (hv238_0.symm.trans hx238_0)
                              injection hv238_0 with hva_ hvn_ hvc_
                              rw [hva_] at ge238_0
                              rw [hvc_] at ul238_0
                              have HL238_0 := Aside0.mk (show Kd.V (Kd.slice 3 (Kd.int .i64)) 22 _ w.heap.size _ _ (rd_L2 x5_1 x32_2) from Kd.V_mk ul238_0 ge238_0)
                              clear hva_ hvn_ hvc_ ge238_0 ul238_0
                              clear hcc238 hce238
                              have HR238_0 := Aside0.mk hi238_0
                              have HC238_0 := Aside0.mk hl238_0
                              clear hi238_0 hl238_0
                              replace p238 := eq_true p238
                              replace q238 := eq_true q238
                              try go_wp2
                              have n0_ := Aside0.mk (Kd.N_drew HO_5.out)
                              have n1_ := Aside0.mk (Kd.N_drew HO_8.out)
                              have n2_ := Aside0.mk (Kd.N_drew HO_18.out)
                              have n3_ := Aside0.mk (Kd.N_drew HO_30.out)
                              have n4_ := Aside0.mk (Kd.V_drew HL238_0.out)
                              have n5_ := Aside0.mk (Kd.C_drew HR231_0.out)
                              have n6_ := Aside0.mk (Kd.C_drew HR238_0.out)
                              have n7_ := Aside0.mk (below_drew1 HB.out)
                              clear HO_5
                              clear HO_8
                              clear HO_18
                              clear HO_30
                              clear HL238_0
                              clear HR231_0
                              clear HR238_0
                              clear HB
                              have HO_5 := n0_
                              have HO_8 := n1_
                              have HO_18 := n2_
                              have HO_30 := n3_
                              have HL238_0 := n4_
                              have HR231_0 := n5_
                              have HR238_0 := n6_
                              have HB := n7_
                              clear n0_ n1_ n2_ n3_ n4_ n5_ n6_ n7_
                              have p243 : 0 ≤ (0 : Int) := (by omega)
                              have q243 : 0 < ((rd_L2 x5_1 x32_2).length : Int) := of_decide_eq_true (by first | (with_reducible assumption) | assumption)
                              obtain ⟨ad243, A243_0, c243_0, e243, hx243_0, hl243_0, hi243_0⟩ := at_L1 (by repeat (first | (with_reducible exact HR238_0.out) | (with_reducible refine Kd.C_alloc ?_ _) | (with_reducible refine Kd.C_drewN ?_ _) | (with_reducible refine Kd.C_drew ?_) | exact HR238_0.out)) 0 p243 q243
                              cases e243
                              obtain ⟨ce243, hce243, hMe243, hcc243⟩ := Kd.V_get HL238_0.out [] 0 p243 (by first | exact q243 | exact of_decide_eq_true (by first | (with_reducible assumption) | assumption) | (have e_ := (Kd.V_reads' HL238_0.out).1; omega))
                              obtain ⟨ua243_0, uc243_0, rfl, ul243_0, ge243_0⟩ := Kd.FK_slice_open hMe243
                              have hv243_0 := hcc243 0 _ rfl
                              rw [Nat.add_zero, show ((Kd.slice 3 (Kd.int .i64))).sz = 1 from rfl, Nat.mul_one] at hv243_0
                              replace hv243_0 := Option.some.inj (hv243_0.symm.trans hx243_0)
                              injection hv243_0 with hva_ hvn_ hvc_
                              rw [hva_] at ge243_0
                              rw [hvc_] at ul243_0
                              have HL243_0 := Aside0.mk (show Kd.V (Kd.int .i64) 3 _ w.heap.size _ _ (rd_L1 (rd_L2 x5_1 x32_2) 0) from Kd.V_mk ul243_0 ge243_0)
                              clear hva_ hvn_ hvc_ ge243_0 ul243_0
                              clear hcc243 hce243
                              have qi243 : (0 < (rd_L2 x5_1 x32_2).length) = True := eq_true (by omega)
                              (try rw [show ((0 : Int)).toNat = 0 from rfl] at hx243_0)
                              (try rw [Addr.add_zero'] at hx243_0)
                              have HR243_0 := Aside0.mk hi243_0
                              have HC243_0 := Aside0.mk hl243_0
                              clear hi243_0 hl243_0
                              replace p243 := eq_true p243
                              replace q243 := eq_true q243
                              obtain ⟨Ao40, co40, eo40⟩ := Kd.N_slice HO_8.out
                              (first | subst eo40 | (injection eo40 with f1_ f2_ f3_; have f4_ := f1_.symm; have f5_ := f3_.symm; clear f1_ f2_ f3_; subst f4_; subst f5_))
                              have p244 : 0 ≤ (0 : Int) := (by omega)
                              have q244 : 0 < (t235.length : Int) := of_decide_eq_true (by first | (with_reducible assumption) | assumption)
                              obtain ⟨ad244, A244_0, c244_0, e244, hx244_0, hl244_0, hi244_0⟩ := at_L1 (Kd.N_reads' HO_8.out).2.2 0 p244 q244
                              cases e244
                              obtain ⟨ce244, hce244, hMe244, hcc244⟩ := Kd.N_get HO_8.out [] 0 p244 (by first | exact q244 | exact of_decide_eq_true (by first | (with_reducible assumption) | assumption) | (have e_ := (Kd.N_reads' HO_8.out).1; omega))
                              obtain ⟨ua244_0, uc244_0, rfl, ul244_0, ge244_0⟩ := Kd.FK_slice_open hMe244
                              have hv244_0 := hcc244 0 _ rfl
                              rw [Nat.add_zero, show ((Kd.slice 3 (Kd.int .i64))).sz = 1 from rfl, Nat.mul_one] at hv244_0
                              replace hv244_0 := Option.some.inj (hv244_0.symm.trans hx244_0)
                              injection hv244_0 with hva_ hvn_ hvc_
                              rw [hva_] at ge244_0
                              rw [hvc_] at ul244_0
                              have HL244_0 := Aside0.mk (show Kd.V (Kd.int .i64) 3 _ w.heap.size _ _ (rd_L1 t235 0) from Kd.V_mk ul244_0 ge244_0)
                              clear hva_ hvn_ hvc_ ge244_0 ul244_0
                              clear hcc244 hce244
                              have qi244 : (0 < t235.length) = True := eq_true (by omega)
                              (try rw [show ((0 : Int)).toNat = 0 from rfl] at hx244_0)
                              (try rw [Addr.add_zero'] at hx244_0)
                              have HR244_0 := Aside0.mk hi244_0
                              have HC244_0 := Aside0.mk hl244_0
                              clear hi244_0 hl244_0
                              replace p244 := eq_true p244
                              replace q244 := eq_true q244
                              refine start_ (n := 11) (S := fun w' => w'.cell? ad243 = some (.slice A243_0 (rd_L1 (rd_L2 x5_1 x32_2) 0).length c243_0) ∧ w'.cell? ad244 = some (.slice A244_0 (rd_L1 t235 0).length c244_0)) (ds := []) #[false, false, false, false, false, false, false, false, false, false, false] (by kernel_rfl) rfl rfl ⟨hx243_0, hx244_0⟩ (fun hHeld => ?_); refine with_tabW spec_gpCycles.tab10 spec_gpCycles.bits10 (fun HT_ HW_ => ?_)
                              generalize wr.drew = w39 at HO_5 HO_8 HO_18 HO_30 HL238_0 HR231_0 HR238_0 HB HL243_0 HL244_0 HR243_0 HR244_0 hx243_0 hx244_0 hHeld ⊢
                              refine pure_ (i := 0) (N := some 36) (v := ?_) (a' := ?_) #[true, false, false, false, false, false, false, false, false, false, false] rfl rfl (any_of HT_.out (by kernel_rfl)) (fun _ _ _ h => h) (Or.inl ⟨by rfl, ?_⟩) ?_ ?_
                              rotate_left
                              · intro w'
                                go_simp
                                with_reducible rfl
                              rotate_left
                              · simp only [Act.put, List.setIfInBounds_toArray, List.set_cons_zero, List.set_cons_succ, i64_w, i32_w]
                                rfl
                              refine pure_ (i := 1) (N := some 37) (v := ?_) (a' := ?_) #[true, true, false, false, false, false, false, false, false, false, false] rfl rfl (any_of HT_.out (by kernel_rfl)) (fun _ _ _ h => h) (Or.inl ⟨by rfl, ?_⟩) ?_ ?_
                              rotate_left
                              · intro w'
                                go_simp
                                with_reducible rfl
                              rotate_left
                              · simp only [Act.put, List.setIfInBounds_toArray, List.set_cons_zero, List.set_cons_succ, i64_w, i32_w]
                                rfl
                              refine pure_ (i := 2) (N := some 38) (v := ?_) (a' := ?_) #[true, true, true, false, false, false, false, false, false, false, false] rfl rfl (any_of HT_.out (by kernel_rfl)) (fun _ _ _ h => h) (Or.inl ⟨by rfl, ?_⟩) ?_ ?_
                              rotate_left
                              · intro w'
                                go_simp
                                with_reducible rfl
                              rotate_left
                              · simp only [Act.put, List.setIfInBounds_toArray, List.set_cons_zero, List.set_cons_succ, i64_w, i32_w]
                                rfl
                              refine pure_ (i := 3) (N := some 39) (v := ?_) (a' := ?_) #[true, true, true, true, false, false, false, false, false, false, false] rfl rfl (any_of HT_.out (by kernel_rfl)) (fun _ _ _ h => h) (Or.inl ⟨by rfl, ?_⟩) ?_ ?_
                              rotate_left
                              · intro w'
                                go_simp
                                with_reducible rfl
                              rotate_left
                              · simp only [Act.put, List.setIfInBounds_toArray, List.set_cons_zero, List.set_cons_succ, i64_w, i32_w]
                                rfl
                              refine pure_ (i := 5) (N := some 41) (v := ?_) (a' := ?_) #[true, true, true, true, false, true, false, false, false, false, false] rfl rfl (any_of HT_.out (by kernel_rfl)) (fun _ _ _ h => h) (Or.inl ⟨by rfl, ?_⟩) ?_ ?_
                              rotate_left
                              · intro w'
                                go_simp
                                with_reducible rfl
                              rotate_left
                              · simp only [Act.put, List.setIfInBounds_toArray, List.set_cons_zero, List.set_cons_succ, i64_w, i32_w]
                                rfl
                              refine pure_ (i := 6) (N := some 42) (v := ?_) (a' := ?_) #[true, true, true, true, false, true, true, false, false, false, false] rfl rfl (any_of HT_.out (by kernel_rfl)) (fun _ _ _ h => h) (Or.inl ⟨by rfl, ?_⟩) ?_ ?_
                              rotate_left
                              · intro w'
                                go_simp
                                with_reducible rfl
                              rotate_left
                              · simp only [Act.put, List.setIfInBounds_toArray, List.set_cons_zero, List.set_cons_succ, i64_w, i32_w]
                                rfl
                              refine take_ (i := 4) (N := some 40) (v := ?_) (a' := ?_) #[true, true, true, true, true, true, true, false, false, false, false] rfl rfl (take_ofW HT_.out HW_.out (by kernel_rfl)) (fun _ _ _ h => h) (Or.inl ⟨by rfl, ?_⟩) hHeld ?_ ?_
                              rotate_left
                              · rintro w' ⟨s0, s1⟩
                                go_simp
                                with_reducible rfl
                              rotate_left
                              · simp only [Act.put, List.setIfInBounds_toArray, List.set_cons_zero, List.set_cons_succ, i64_w, i32_w]
                                rfl
                              refine take_ (i := 7) (N := some 43) (v := ?_) (a' := ?_) #[true, true, true, true, true, true, true, true, false, false, false] rfl rfl (take_ofW HT_.out HW_.out (by kernel_rfl)) (fun _ _ _ h => h) (Or.inl ⟨by rfl, ?_⟩) hHeld ?_ ?_
                              rotate_left
                              · rintro w' ⟨s0, s1⟩
                                go_simp
                                with_reducible rfl
                              rotate_left
                              · simp only [Act.put, List.setIfInBounds_toArray, List.set_cons_zero, List.set_cons_succ, i64_w, i32_w]
                                rfl
                              refine one_ (i := 8) (N := some 44) #[true, true, true, true, true, true, true, true, true, false, false] rfl rfl (one_of HT_.out (by kernel_rfl)) (by decide) (fun K hK => ?_)
                              refine goes_ Try.func63 (by kernel_rfl) rfl #[.slice A243_0 (rd_L1 (rd_L2 x5_1 x32_2) 0).length c243_0, .slice A244_0 (rd_L1 t235 0).length c244_0] (by rfl) rfl rfl (by (try simp only [List.map_toArray, List.map_cons, List.map_nil]); first | done | rfl | (simp only [List.length_drop, List.length_take]; rfl)) ?_
                              with_reducible refine (spec_l1Same.calls k2 _ _ (rd_L1 (rd_L2 x5_1 x32_2) 0) _ _ (rd_L1 t235 0) t245 _ ?side1 ?side2 ?side3 ?side4 A32.out).mono ?_
                              (case side1 => repeat (first | exact (by repeat (first | (with_reducible exact HR243_0.out) | (with_reducible refine Kd.C_alloc ?_ _) | (with_reducible refine Kd.C_drewN ?_ _) | (with_reducible refine Kd.C_drew ?_) | exact HR243_0.out)) | (with_reducible refine Kd.C_alloc ?_ _) | (with_reducible refine Kd.C_drewN ?_ _) | (with_reducible refine Kd.C_drew ?_)))
                              (case side2 => exact HC243_0.out)
                              (case side3 => repeat (first | exact (by repeat (first | (with_reducible exact HR244_0.out) | (with_reducible refine Kd.C_alloc ?_ _) | (with_reducible refine Kd.C_drewN ?_ _) | (with_reducible refine Kd.C_drew ?_) | exact HR244_0.out)) | (with_reducible refine Kd.C_alloc ?_ _) | (with_reducible refine Kd.C_drewN ?_ _) | (with_reducible refine Kd.C_drew ?_)))
                              (case side4 => exact HC244_0.out)
                              rintro e w' ⟨rfl, ⟨nd, rfl⟩⟩
                              refine ⟨_, rfl, ?_⟩
                              refine hK.out _ _ ⟨hHeld.1, hHeld.2⟩ (fun hHeld => ?_)
                              clear hK K
                              refine norm_ (a' := ?_) ?_ ?_
                              rotate_left
                              · show Act.put _ (some 44) _ = _
                                simp only [Act.put, List.setIfInBounds_toArray, List.set_cons_zero, List.set_cons_succ, i64_w, i32_w]
                                rfl
                              refine pure_ (i := 9) (N := some 45) (v := ?_) (a' := ?_) #[true, true, true, true, true, true, true, true, true, true, false] rfl rfl (any_of HT_.out (by kernel_rfl)) (fun _ _ _ h => h) (Or.inl ⟨by rfl, ?_⟩) ?_ ?_
                              rotate_left
                              · intro w'
                                go_simp
                                with_reducible rfl
                              rotate_left
                              · simp only [Act.put, List.setIfInBounds_toArray, List.set_cons_zero, List.set_cons_succ, i64_w, i32_w]
                                rfl
                              refine pure_ (i := 10) (N := some 10) (v := ?_) (a' := ?_) #[true, true, true, true, true, true, true, true, true, true, true] rfl rfl (any_of HT_.out (by kernel_rfl)) (fun _ _ _ h => h) (Or.inl ⟨by rfl, ?_⟩) ?_ ?_
                              rotate_left
                              · intro w'
                                go_simp
                                with_reducible rfl
                              rotate_left
                              · simp only [Act.put, List.setIfInBounds_toArray, List.set_cons_zero, List.set_cons_succ, i64_w, i32_w]
                                rfl
                              refine done_ (done_of HT_.out (by kernel_rfl)) ?_
                              try go_wp2
                              (try (rw [drewN_self w39]; generalize hq_ : World.drewN w39 _ = w39; have n0_ : Aside0 (Kd.V (Kd.slice 3 (Kd.int .i64)) 22 w39 w.heap.size (fun k_ => (w.heap.size ≤ k_) ∧ some k_ ≠ (.slice (some ad231) t228.length co5 : Value).ownBlock ∧ some k_ ≠ (.slice (some ad238) x5_1.length co14 : Value).ownBlock ∧ some k_ ≠ (.slice (some ad244) t235.length co40 : Value).ownBlock) (.slice (some ad243) (rd_L2 x5_1 x32_2).length c238_0) (rd_L2 x5_1 x32_2)) := ⟨by rw [← hq_]; exact (by (with_reducible repeat (first | apply Kd.V_alloc | apply Kd.V_drewN | apply Kd.V_drew)); exact Kd.V_mono HL238_0.out (fun _ hk => ⟨hk.1.1, ⟨hk.1.2.2, ⟨hk.2, hk.1.2.1⟩⟩⟩))⟩; have n1_ : Aside0 (Kd.V (Kd.int .i64) 3 w39 w.heap.size (fun k_ => (w.heap.size ≤ k_) ∧ some k_ ≠ (.slice (some ad231) t228.length co5 : Value).ownBlock ∧ some k_ ≠ (.slice (some ad238) x5_1.length co14 : Value).ownBlock ∧ some k_ ≠ (.slice (some ad244) t235.length co40 : Value).ownBlock) (.slice A243_0 (rd_L1 (rd_L2 x5_1 x32_2) 0).length c243_0) (rd_L1 (rd_L2 x5_1 x32_2) 0)) := ⟨by rw [← hq_]; exact (by (with_reducible repeat (first | apply Kd.V_alloc | apply Kd.V_drewN | apply Kd.V_drew)); exact Kd.V_mono HL243_0.out (fun _ hk => ⟨hk.1.1, ⟨hk.1.2.2, ⟨hk.2, hk.1.2.1⟩⟩⟩))⟩; have n2_ : Aside0 (Kd.V (Kd.int .i64) 3 w39 w.heap.size (fun k_ => (w.heap.size ≤ k_) ∧ some k_ ≠ (.slice (some ad231) t228.length co5 : Value).ownBlock ∧ some k_ ≠ (.slice (some ad238) x5_1.length co14 : Value).ownBlock ∧ some k_ ≠ (.slice (some ad238) x5_1.length co14 : Value).ownBlock ∧ some k_ ≠ (.slice (some ad244) t235.length co40 : Value).ownBlock) (.slice A244_0 (rd_L1 t235 0).length c244_0) (rd_L1 t235 0)) := ⟨by rw [← hq_]; exact (by (with_reducible repeat (first | apply Kd.V_alloc | apply Kd.V_drewN | apply Kd.V_drew)); exact Kd.V_mono HL244_0.out (fun _ hk => ⟨hk.1.1, ⟨hk.1.2.2.1, ⟨hk.1.2.2.2, ⟨hk.1.2.1, hk.2⟩⟩⟩⟩))⟩; have n3_ : Aside0 (Kd.N (Kd.slice 3 (Kd.int .i64)) 22 w39 w.heap.size (fun k_ => (w.heap.size ≤ k_) ∧ some k_ ≠ (.slice (some ad238) x5_1.length co14 : Value).ownBlock ∧ some k_ ≠ (.slice (some ad238) x5_1.length co14 : Value).ownBlock ∧ some k_ ≠ (.slice (some ad244) t235.length co40 : Value).ownBlock) (.slice (some ad231) t228.length co5) t228) := ⟨by rw [← hq_]; exact (by (with_reducible repeat (first | apply Kd.N_alloc | apply Kd.N_drewN | apply Kd.N_drew)); exact Kd.N_mono HO_18.out (fun _ hk => ⟨hk.1, ⟨hk.2.2.2, ⟨hk.2.1, hk.2.2.1⟩⟩⟩))⟩; have n4_ : Aside0 (Kd.N (Kd.slice 22 (Kd.slice 3 (Kd.int .i64))) 31 w39 w.heap.size (fun k_ => (w.heap.size ≤ k_) ∧ some k_ ≠ (.slice (some ad231) t228.length co5 : Value).ownBlock ∧ some k_ ≠ (.slice (some ad244) t235.length co40 : Value).ownBlock) (.slice (some ad238) x5_1.length co14) x5_1) := ⟨by rw [← hq_]; exact (by (with_reducible repeat (first | apply Kd.N_alloc | apply Kd.N_drewN | apply Kd.N_drew)); exact Kd.N_mono HO_30.out (fun _ hk => ⟨hk.1, ⟨hk.2.2, hk.2.1⟩⟩))⟩; have n5_ : Aside0 (Kd.N (Kd.slice 22 (Kd.slice 3 (Kd.int .i64))) 31 w39 w.heap.size (fun k_ => (w.heap.size ≤ k_) ∧ some k_ ≠ (.slice (some ad231) t228.length co5 : Value).ownBlock ∧ some k_ ≠ (.slice (some ad244) t235.length co40 : Value).ownBlock) (.slice (some ad238) x5_1.length co14) x5_1) := ⟨by rw [← hq_]; exact (by (with_reducible repeat (first | apply Kd.N_alloc | apply Kd.N_drewN | apply Kd.N_drew)); exact Kd.N_mono HO_5.out (fun _ hk => ⟨hk.1, ⟨hk.2.2, hk.2.1⟩⟩))⟩; have n6_ : Aside0 (Kd.N (Kd.slice 3 (Kd.int .i64)) 22 w39 w.heap.size (fun k_ => (w.heap.size ≤ k_) ∧ some k_ ≠ (.slice (some ad231) t228.length co5 : Value).ownBlock ∧ some k_ ≠ (.slice (some ad238) x5_1.length co14 : Value).ownBlock ∧ some k_ ≠ (.slice (some ad238) x5_1.length co14 : Value).ownBlock) (.slice (some ad244) t235.length co40) t235) := ⟨by rw [← hq_]; exact (by (with_reducible repeat (first | apply Kd.N_alloc | apply Kd.N_drewN | apply Kd.N_drew)); exact Kd.N_mono HO_8.out (fun _ hk => ⟨hk.1, ⟨hk.2.2.1, ⟨hk.2.2.2, hk.2.1⟩⟩⟩))⟩; have n7_ : Aside0 (Below w.heap.size w w39) := ⟨by rw [← hq_]; exact (by repeat (first | (with_reducible first | exact HB.out | apply below_alloc | apply pw_below_drewN | apply below_drew1) | exact HB.out))⟩; have n8_ : Aside0 (Kd.C (Kd.int .i64) w39 A231_0 (rd_L1 t228 x20_1).length (rd_L1 t228 x20_1)) := ⟨by rw [← hq_]; exact (by repeat (first | (with_reducible exact HR231_0.out) | (with_reducible refine Kd.C_alloc ?_ _) | (with_reducible refine Kd.C_drewN ?_ _) | (with_reducible refine Kd.C_drew ?_) | exact HR231_0.out))⟩; have n9_ : Aside0 (Kd.C (Kd.slice 3 (Kd.int .i64)) w39 (some ad243) (rd_L2 x5_1 x32_2).length (rd_L2 x5_1 x32_2)) := ⟨by rw [← hq_]; exact (by repeat (first | (with_reducible exact HR238_0.out) | (with_reducible refine Kd.C_alloc ?_ _) | (with_reducible refine Kd.C_drewN ?_ _) | (with_reducible refine Kd.C_drew ?_) | exact HR238_0.out))⟩; have n10_ : Aside0 (Kd.C (Kd.int .i64) w39 A243_0 (rd_L1 (rd_L2 x5_1 x32_2) 0).length (rd_L1 (rd_L2 x5_1 x32_2) 0)) := ⟨by rw [← hq_]; exact (by repeat (first | (with_reducible exact HR243_0.out) | (with_reducible refine Kd.C_alloc ?_ _) | (with_reducible refine Kd.C_drewN ?_ _) | (with_reducible refine Kd.C_drew ?_) | exact HR243_0.out))⟩; have n11_ : Aside0 (Kd.C (Kd.int .i64) w39 A244_0 (rd_L1 t235 0).length (rd_L1 t235 0)) := ⟨by rw [← hq_]; exact (by repeat (first | (with_reducible exact HR244_0.out) | (with_reducible refine Kd.C_alloc ?_ _) | (with_reducible refine Kd.C_drewN ?_ _) | (with_reducible refine Kd.C_drew ?_) | exact HR244_0.out))⟩; clear HL238_0 HL243_0 HL244_0 HO_18 HO_30 HO_5 HO_8 HB HR231_0 HR238_0 HR243_0 HR244_0 hq_; have HL238_0 := n0_; have HL243_0 := n1_; have HL244_0 := n2_; have HO_18 := n3_; have HO_30 := n4_; have HO_5 := n5_; have HO_8 := n6_; have HB := n7_; have HR231_0 := n8_; have HR238_0 := n9_; have HR243_0 := n10_; have HR244_0 := n11_; clear n0_ n1_ n2_ n3_ n4_ n5_ n6_ n7_ n8_ n9_ n10_ n11_))
                              have n0_ := Aside0.mk (Kd.N_drew HO_5.out)
                              have n1_ := Aside0.mk (Kd.N_drew HO_8.out)
                              have n2_ := Aside0.mk (Kd.N_drew HO_18.out)
                              have n3_ := Aside0.mk (Kd.N_drew HO_30.out)
                              have n4_ := Aside0.mk (Kd.V_drew HL238_0.out)
                              have n5_ := Aside0.mk (Kd.V_drew HL243_0.out)
                              have n6_ := Aside0.mk (Kd.V_drew HL244_0.out)
                              have n7_ := Aside0.mk (Kd.C_drew HR231_0.out)
                              have n8_ := Aside0.mk (Kd.C_drew HR238_0.out)
                              have n9_ := Aside0.mk (Kd.C_drew HR243_0.out)
                              have n10_ := Aside0.mk (Kd.C_drew HR244_0.out)
                              have n11_ := Aside0.mk (below_drew1 HB.out)
                              clear HO_5
                              clear HO_8
                              clear HO_18
                              clear HO_30
                              clear HL238_0
                              clear HL243_0
                              clear HL244_0
                              clear HR231_0
                              clear HR238_0
                              clear HR243_0
                              clear HR244_0
                              clear HB
                              have HO_5 := n0_
                              have HO_8 := n1_
                              have HO_18 := n2_
                              have HO_30 := n3_
                              have HL238_0 := n4_
                              have HL243_0 := n5_
                              have HL244_0 := n6_
                              have HR231_0 := n7_
                              have HR238_0 := n8_
                              have HR243_0 := n9_
                              have HR244_0 := n10_
                              have HB := n11_
                              clear n0_ n1_ n2_ n3_ n4_ n5_ n6_ n7_ n8_ n9_ n10_ n11_
                              have p246 : 0 ≤ (0 : Int) := (by omega)
                              have q246 : 0 < ((rd_L2 x5_1 x32_2).length : Int) := of_decide_eq_true (by first | (with_reducible assumption) | assumption)
                              obtain ⟨ad246, A246_0, c246_0, e246, hx246_0, hl246_0, hi246_0⟩ := at_L1 (by repeat (first | (with_reducible exact HR238_0.out) | (with_reducible refine Kd.C_alloc ?_ _) | (with_reducible refine Kd.C_drewN ?_ _) | (with_reducible refine Kd.C_drew ?_) | exact HR238_0.out)) 0 p246 q246
                              obtain rfl : ad243 = ad246 := (by injection e246)
                              obtain ⟨ce246, hce246, hMe246, hcc246⟩ := Kd.V_get HL238_0.out [] 0 p246 (by first | exact q246 | exact of_decide_eq_true (by first | (with_reducible assumption) | assumption) | (have e_ := (Kd.V_reads' HL238_0.out).1; omega))
                              obtain ⟨ua246_0, uc246_0, rfl, ul246_0, ge246_0⟩ := Kd.FK_slice_open hMe246
                              have hv246_0 := hcc246 0 _ rfl
                              rw [Nat.add_zero, show ((Kd.slice 3 (Kd.int .i64))).sz = 1 from rfl, Nat.mul_one] at hv246_0
                              replace hv246_0 := Option.some.inj (hv246_0.symm.trans hx246_0)
                              injection hv246_0 with hva_ hvn_ hvc_
                              rw [hva_] at ge246_0
                              rw [hvc_] at ul246_0
                              have HL246_0 := Aside0.mk (show Kd.V (Kd.int .i64) 3 _ w.heap.size _ _ (rd_L1 (rd_L2 x5_1 x32_2) 0) from Kd.V_mk ul246_0 ge246_0)
                              clear hva_ hvn_ hvc_ ge246_0 ul246_0
                              clear hcc246 hce246
                              have qi246 : (0 < (rd_L2 x5_1 x32_2).length) = True := eq_true (by omega)
                              (try rw [show ((0 : Int)).toNat = 0 from rfl] at hx246_0)
                              (try rw [Addr.add_zero'] at hx246_0)
                              have HR246_0 := Aside0.mk hi246_0
                              have HC246_0 := Aside0.mk hl246_0
                              clear hi246_0 hl246_0
                              replace p246 := eq_true p246
                              replace q246 := eq_true q246
                              have p248 : 0 ≤ (0 : Int) := (by omega)
                              have q248 : 0 < (t235.length : Int) := of_decide_eq_true (by first | (with_reducible assumption) | assumption)
                              obtain ⟨ad248, A248_0, c248_0, e248, hx248_0, hl248_0, hi248_0⟩ := at_L1 (Kd.N_reads' HO_8.out).2.2 0 p248 q248
                              obtain rfl : ad244 = ad248 := (by injection e248)
                              obtain ⟨ce248, hce248, hMe248, hcc248⟩ := Kd.N_get HO_8.out [] 0 p248 (by first | exact q248 | exact of_decide_eq_true (by first | (with_reducible assumption) | assumption) | (have e_ := (Kd.N_reads' HO_8.out).1; omega))
                              obtain ⟨ua248_0, uc248_0, rfl, ul248_0, ge248_0⟩ := Kd.FK_slice_open hMe248
                              have hv248_0 := hcc248 0 _ rfl
                              rw [Nat.add_zero, show ((Kd.slice 3 (Kd.int .i64))).sz = 1 from rfl, Nat.mul_one] at hv248_0
                              replace hv248_0 := Option.some.inj (hv248_0.symm.trans hx248_0)
                              injection hv248_0 with hva_ hvn_ hvc_
                              rw [hva_] at ge248_0
                              rw [hvc_] at ul248_0
                              have HL248_0 := Aside0.mk (show Kd.V (Kd.int .i64) 3 _ w.heap.size _ _ (rd_L1 t235 0) from Kd.V_mk ul248_0 ge248_0)
                              clear hva_ hvn_ hvc_ ge248_0 ul248_0
                              clear hcc248 hce248
                              have qi248 : (0 < t235.length) = True := eq_true (by omega)
                              (try rw [show ((0 : Int)).toNat = 0 from rfl] at hx248_0)
                              (try rw [Addr.add_zero'] at hx248_0)
                              have HR248_0 := Aside0.mk hi248_0
                              have HC248_0 := Aside0.mk hl248_0
                              clear hi248_0 hl248_0
                              replace p248 := eq_true p248
                              replace q248 := eq_true q248
                              refine start_ (n := 11) (S := fun w' => w'.cell? ad243 = some (.slice A246_0 (rd_L1 (rd_L2 x5_1 x32_2) 0).length c246_0) ∧ w'.cell? ad244 = some (.slice A248_0 (rd_L1 t235 0).length c248_0)) (ds := []) #[false, false, false, false, false, false, false, false, false, false, false] (by kernel_rfl) rfl rfl ⟨hx246_0, hx248_0⟩ (fun hHeld => ?_); refine with_tabW spec_gpCycles.tab11 spec_gpCycles.bits11 (fun HT_ HW_ => ?_)
                              generalize w39.drew = w41 at HO_5 HO_8 HO_18 HO_30 HL238_0 HL243_0 HL244_0 HR231_0 HR238_0 HR243_0 HR244_0 HB HL246_0 HL248_0 HR246_0 HR248_0 hx246_0 hx248_0 hHeld ⊢
                              refine pure_ (i := 0) (N := some 46) (v := ?_) (a' := ?_) #[true, false, false, false, false, false, false, false, false, false, false] rfl rfl (any_of HT_.out (by kernel_rfl)) (fun _ _ _ h => h) (Or.inl ⟨by rfl, ?_⟩) ?_ ?_
                              rotate_left
                              · intro w'
                                go_simp
                                with_reducible rfl
                              rotate_left
                              · simp only [Act.put, List.setIfInBounds_toArray, List.set_cons_zero, List.set_cons_succ, i64_w, i32_w]
                                rfl
                              refine pure_ (i := 1) (N := some 47) (v := ?_) (a' := ?_) #[true, true, false, false, false, false, false, false, false, false, false] rfl rfl (any_of HT_.out (by kernel_rfl)) (fun _ _ _ h => h) (Or.inl ⟨by rfl, ?_⟩) ?_ ?_
                              rotate_left
                              · intro w'
                                go_simp
                                with_reducible rfl
                              rotate_left
                              · simp only [Act.put, List.setIfInBounds_toArray, List.set_cons_zero, List.set_cons_succ, i64_w, i32_w]
                                rfl
                              refine pure_ (i := 3) (N := some 49) (v := ?_) (a' := ?_) #[true, true, false, true, false, false, false, false, false, false, false] rfl rfl (any_of HT_.out (by kernel_rfl)) (fun _ _ _ h => h) (Or.inl ⟨by rfl, ?_⟩) ?_ ?_
                              rotate_left
                              · intro w'
                                go_simp
                                with_reducible rfl
                              rotate_left
                              · simp only [Act.put, List.setIfInBounds_toArray, List.set_cons_zero, List.set_cons_succ, i64_w, i32_w]
                                rfl
                              refine pure_ (i := 5) (N := some 51) (v := ?_) (a' := ?_) #[true, true, false, true, false, true, false, false, false, false, false] rfl rfl (any_of HT_.out (by kernel_rfl)) (fun _ _ _ h => h) (Or.inl ⟨by rfl, ?_⟩) ?_ ?_
                              rotate_left
                              · intro w'
                                go_simp
                                with_reducible rfl
                              rotate_left
                              · simp only [Act.put, List.setIfInBounds_toArray, List.set_cons_zero, List.set_cons_succ, i64_w, i32_w]
                                rfl
                              refine pure_ (i := 6) (N := some 52) (v := ?_) (a' := ?_) #[true, true, false, true, false, true, true, false, false, false, false] rfl rfl (any_of HT_.out (by kernel_rfl)) (fun _ _ _ h => h) (Or.inl ⟨by rfl, ?_⟩) ?_ ?_
                              rotate_left
                              · intro w'
                                go_simp
                                with_reducible rfl
                              rotate_left
                              · simp only [Act.put, List.setIfInBounds_toArray, List.set_cons_zero, List.set_cons_succ, i64_w, i32_w]
                                rfl
                              refine pure_ (i := 8) (N := some 54) (v := ?_) (a' := ?_) #[true, true, false, true, false, true, true, false, true, false, false] rfl rfl (any_of HT_.out (by kernel_rfl)) (fun _ _ _ h => h) (Or.inl ⟨by rfl, ?_⟩) ?_ ?_
                              rotate_left
                              · intro w'
                                go_simp
                                with_reducible rfl
                              rotate_left
                              · simp only [Act.put, List.setIfInBounds_toArray, List.set_cons_zero, List.set_cons_succ, i64_w, i32_w]
                                rfl
                              refine take_ (i := 2) (N := some 48) (v := ?_) (a' := ?_) #[true, true, true, true, false, true, true, false, true, false, false] rfl rfl (take_ofW HT_.out HW_.out (by kernel_rfl)) (fun _ _ _ h => h) (Or.inl ⟨by rfl, ?_⟩) hHeld ?_ ?_
                              rotate_left
                              · rintro w' ⟨s0, s1⟩
                                go_simp
                                with_reducible rfl
                              rotate_left
                              · simp only [Act.put, List.setIfInBounds_toArray, List.set_cons_zero, List.set_cons_succ, i64_w, i32_w]
                                rfl
                              refine take_ (i := 7) (N := some 53) (v := ?_) (a' := ?_) #[true, true, true, true, false, true, true, true, true, false, false] rfl rfl (take_ofW HT_.out HW_.out (by kernel_rfl)) (fun _ _ _ h => h) (Or.inl ⟨by rfl, ?_⟩) hHeld ?_ ?_
                              rotate_left
                              · rintro w' ⟨s0, s1⟩
                                go_simp
                                with_reducible rfl
                              rotate_left
                              · simp only [Act.put, List.setIfInBounds_toArray, List.set_cons_zero, List.set_cons_succ, i64_w, i32_w]
                                rfl
                              refine one_ (i := 4) (N := some 50) #[true, true, true, true, true, true, true, true, true, false, false] rfl rfl (one_of HT_.out (by kernel_rfl)) (by decide) (fun K hK => ?_)
                              refine goes_ Try.func73 (by kernel_rfl) rfl #[.slice A246_0 (rd_L1 (rd_L2 x5_1 x32_2) 0).length c246_0, .int .i64 a1] (by rfl) rfl rfl (by (try simp only [List.map_toArray, List.map_cons, List.map_nil]); first | done | rfl | (simp only [List.length_drop, List.length_take]; rfl)) ?_
                              with_reducible refine (spec_gpValue.calls k2 _ _ (rd_L1 (rd_L2 x5_1 x32_2) 0) a1 t247 _ ?side1 ?side2 A33.out).mono ?_
                              (case side1 => repeat (first | exact (by repeat (first | (with_reducible exact HR246_0.out) | (with_reducible refine Kd.C_alloc ?_ _) | (with_reducible refine Kd.C_drewN ?_ _) | (with_reducible refine Kd.C_drew ?_) | exact HR246_0.out)) | (with_reducible refine Kd.C_alloc ?_ _) | (with_reducible refine Kd.C_drewN ?_ _) | (with_reducible refine Kd.C_drew ?_)))
                              (case side2 => exact HC246_0.out)
                              rintro e w' ⟨rfl, ⟨nd, rfl⟩⟩
                              refine ⟨_, rfl, ?_⟩
                              refine hK.out _ _ ⟨hHeld.1, hHeld.2⟩ (fun hHeld => ?_)
                              clear hK K
                              refine norm_ (a' := ?_) ?_ ?_
                              rotate_left
                              · show Act.put _ (some 50) _ = _
                                simp only [Act.put, List.setIfInBounds_toArray, List.set_cons_zero, List.set_cons_succ, i64_w, i32_w]
                                rfl
                              refine one_ (i := 9) (N := some 55) #[true, true, true, true, true, true, true, true, true, true, false] rfl rfl (one_of HT_.out (by kernel_rfl)) (by decide) (fun K hK => ?_)
                              refine goes_ Try.func73 (by kernel_rfl) rfl #[.slice A248_0 (rd_L1 t235 0).length c248_0, .int .i64 a1] (by rfl) rfl rfl (by (try simp only [List.map_toArray, List.map_cons, List.map_nil]); first | done | rfl | (simp only [List.length_drop, List.length_take]; rfl)) ?_
                              with_reducible refine (spec_gpValue.calls k2 _ _ (rd_L1 t235 0) a1 t249 _ ?side1 ?side2 A34.out).mono ?_
                              (case side1 => repeat (first | exact (by repeat (first | (with_reducible exact HR248_0.out) | (with_reducible refine Kd.C_alloc ?_ _) | (with_reducible refine Kd.C_drewN ?_ _) | (with_reducible refine Kd.C_drew ?_) | exact HR248_0.out)) | (with_reducible refine Kd.C_alloc ?_ _) | (with_reducible refine Kd.C_drewN ?_ _) | (with_reducible refine Kd.C_drew ?_)))
                              (case side2 => exact HC248_0.out)
                              rintro e w' ⟨rfl, ⟨nd, rfl⟩⟩
                              refine ⟨_, rfl, ?_⟩
                              refine hK.out _ _ ⟨hHeld.1, hHeld.2⟩ (fun hHeld => ?_)
                              clear hK K
                              refine norm_ (a' := ?_) ?_ ?_
                              rotate_left
                              · show Act.put _ (some 55) _ = _
                                simp only [Act.put, List.setIfInBounds_toArray, List.set_cons_zero, List.set_cons_succ, i64_w, i32_w]
                                rfl
                              refine pure_ (i := 10) (N := some 56) (v := ?_) (a' := ?_) #[true, true, true, true, true, true, true, true, true, true, true] rfl rfl (any_of HT_.out (by kernel_rfl)) (fun _ _ _ h => h) (Or.inl ⟨by rfl, ?_⟩) ?_ ?_
                              rotate_left
                              · intro w'
                                go_simp
                                with_reducible rfl
                              rotate_left
                              · simp only [Act.put, List.setIfInBounds_toArray, List.set_cons_zero, List.set_cons_succ, i64_w, i32_w]
                                rfl
                              refine done_ (done_of HT_.out (by kernel_rfl)) ?_
                              try go_wp2
                              go_roundg k2
                              case measure => have := HK1.out; have := HK2.out; omega
                              case rel => exact ⟨(x9_2), (t245), (wrap64 (x32_2 + 1)), (by first | rfl | (simp; done) | (simp [*]; done)), (by first | rfl | (simp; done) | (simp [*]; done)), (by first | rfl | (simp; done) | (simp [*]; done)), H', ⟨by have := HK1.out; have := HK2.out; omega⟩, ⟨by (with_reducible repeat (first | apply Kd.N_alloc | apply Kd.N_drewN | apply Kd.N_drew)); first | exact HO_5.out | exact Kd.N_mono HO_5.out (fun k_ hk => by repeat' (first | exact hk.1 | exact hk.2.1 | exact hk.2.2.1 | exact hk.2.2.2 | exact hk.2.2 | constructor))⟩, ⟨by (with_reducible repeat (first | apply Kd.N_alloc | apply Kd.N_drewN | apply Kd.N_drew)); first | exact HO_8.out | exact Kd.N_mono HO_8.out (fun k_ hk => by repeat' (first | exact hk.1 | exact hk.2.1 | exact hk.2.2.1 | exact hk.2.2.2 | exact hk.2.2 | constructor))⟩, ⟨by (with_reducible repeat (first | apply Kd.N_alloc | apply Kd.N_drewN | apply Kd.N_drew)); first | exact HO_18.out | exact Kd.N_mono HO_18.out (fun k_ hk => by repeat' (first | exact hk.1 | exact hk.2.1 | exact hk.2.2.1 | exact hk.2.2.2 | exact hk.2.2 | constructor))⟩, ⟨by (with_reducible repeat (first | apply Kd.N_alloc | apply Kd.N_drewN | apply Kd.N_drew)); first | exact HO_30.out | exact Kd.N_mono HO_30.out (fun k_ hk => by repeat' (first | exact hk.1 | exact hk.2.1 | exact hk.2.2.1 | exact hk.2.2.2 | exact hk.2.2 | constructor))⟩, ⟨by repeat (first | (with_reducible exact HR231_0.out) | (with_reducible refine Kd.C_alloc ?_ _) | (with_reducible refine Kd.C_drewN ?_ _) | (with_reducible refine Kd.C_drew ?_) | exact HR231_0.out)⟩, ⟨by repeat (first | (with_reducible first | exact HB.out | apply below_alloc | apply pw_below_drewN | apply below_drew1) | exact HB.out)⟩⟩
                          · rw [if_neg c31] at H
                            exact absurd H (by simp)
                        · rw [if_neg c30] at H
                          exact absurd H (by simp)
                    · rw [if_neg c17] at H
                      exact absurd H (by simp)
                  · rw [if_neg c16] at H
                    exact absurd H (by simp)
                · rw [if_neg c15] at H
                  have c15b0 : decide (x32_2 < (x5_1.length : Int)) = false := decide_eq_false c15
                  clear c15
                  by_cases c42 : x10_2 = true
                  · subst c42
                    have H1 : (spec_gpCycles.l0 k2 a0 a1 x5_1 t228 (t228.length : Int) (wrap64 (x20_1 + 1))) = some r := by rw [if_pos rfl] at H; exact H
                    clear H
                    have H := H1
                    clear H1
                    have H' := Aside0.mk H
                    clear H
                    go_wp2
                    go_roundg k2
                    case measure => have := HK1.out; have := HK2.out; omega
                    case rel => exact ⟨(x5_1), (wrap64 (x20_1 + 1)), (by first | rfl | (simp; done) | (simp [*]; done)), H', ⟨by have := HK1.out; have := HK2.out; omega⟩, ⟨by (with_reducible repeat (first | apply Kd.N_alloc | apply Kd.N_drewN | apply Kd.N_drew)); exact Kd.N_mono HO_5.out (fun _ hk => ⟨hk.1, hk.2.2⟩)⟩, ⟨by (with_reducible repeat (first | apply Kd.N_alloc | apply Kd.N_drewN | apply Kd.N_drew)); exact Kd.N_mono HO_18.out (fun _ hk => ⟨hk.1, hk.2.1⟩)⟩, ⟨by repeat (first | (with_reducible first | exact HB.out | apply below_alloc | apply pw_below_drewN | apply below_drew1) | exact HB.out)⟩⟩
                  · replace c42 := Bool.eq_false_iff.mpr c42
                    subst c42
                    have H1 : ((some (([] : List (List (List Int))) : List (List (List Int)))).bind fun y250 => (if 0 ≤ x9_2 then (if x9_2 ≤ (x5_1.length : Int) then ((some (x5_1.take (x9_2 : Int).toNat : List (List (List Int)))).bind fun y253 => (if y250.length + y253.length < 5864062014805 then ((some (y250 ++ y253 : List (List (List Int)))).bind fun y258 => (if y258.length < 5864062014805 then ((some (y258 ++ [t235] : List (List (List Int)))).bind fun y261 => ((some (x5_1.drop (x9_2 : Int).toNat : List (List (List Int)))).bind fun y264 => (if y261.length + y264.length < 5864062014805 then (spec_gpCycles.l0 k2 a0 a1 (y261 ++ y264) t228 (t228.length : Int) (wrap64 (x20_1 + 1))) else (none)))) else (none))) else (none))) else (none)) else (none))) = some r := by rw [if_neg (show ¬ (false = true) by decide)] at H; exact H
                    clear H
                    have H := H1
                    clear H1
                    obtain ⟨y250, hy250⟩ : ∃ y_ : List (List (List Int)), y_ = (([] : List (List (List Int)))) := ⟨_, rfl⟩
                    replace H : (if 0 ≤ x9_2 then (if x9_2 ≤ (x5_1.length : Int) then ((some (x5_1.take (x9_2 : Int).toNat : List (List (List Int)))).bind fun y253 => (if y250.length + y253.length < 5864062014805 then ((some (y250 ++ y253 : List (List (List Int)))).bind fun y258 => (if y258.length < 5864062014805 then ((some (y258 ++ [t235] : List (List (List Int)))).bind fun y261 => ((some (x5_1.drop (x9_2 : Int).toNat : List (List (List Int)))).bind fun y264 => (if y261.length + y264.length < 5864062014805 then (spec_gpCycles.l0 k2 a0 a1 (y261 ++ y264) t228 (t228.length : Int) (wrap64 (x20_1 + 1))) else (none)))) else (none))) else (none))) else (none)) else (none)) = some r := by first | (rw [hy250]; with_reducible exact H) | (have H2_ := (Option.bind_some _ _).symm.trans H; rw [hy250]; with_reducible exact H2_) | (have H2_ := (Option.bind_some _ _).symm.trans H; with_reducible exact H2_) | with_reducible exact H | (rw [hy250]; exact H) | exact H
                    have Ny250 := Aside0.mk hy250
                    clear hy250
                    by_cases c43 : 0 ≤ x9_2
                    · rw [if_pos c43] at H
                      have c43b0 := eq_true c43
                      have c43b1 : decide (0 ≤ x9_2) = true := decide_eq_true c43
                      clear c43
                      by_cases c44 : x9_2 ≤ (x5_1.length : Int)
                      · rw [if_pos c44] at H
                        have c44b0 := eq_true c44
                        have c44b1 : decide (x9_2 ≤ (x5_1.length : Int)) = true := decide_eq_true c44
                        clear c44
                        obtain ⟨y253, hy253⟩ : ∃ y_ : List (List (List Int)), y_ = (x5_1.take (x9_2 : Int).toNat) := ⟨_, rfl⟩
                        replace H : (if y250.length + y253.length < 5864062014805 then ((some (y250 ++ y253 : List (List (List Int)))).bind fun y258 => (if y258.length < 5864062014805 then ((some (y258 ++ [t235] : List (List (List Int)))).bind fun y261 => ((some (x5_1.drop (x9_2 : Int).toNat : List (List (List Int)))).bind fun y264 => (if y261.length + y264.length < 5864062014805 then (spec_gpCycles.l0 k2 a0 a1 (y261 ++ y264) t228 (t228.length : Int) (wrap64 (x20_1 + 1))) else (none)))) else (none))) else (none)) = some r := by first | (rw [hy253]; with_reducible exact H) | (have H2_ := (Option.bind_some _ _).symm.trans H; rw [hy253]; with_reducible exact H2_) | (have H2_ := (Option.bind_some _ _).symm.trans H; with_reducible exact H2_) | with_reducible exact H | (rw [hy253]; exact H) | exact H
                        have Ny253 := Aside0.mk hy253
                        clear hy253
                        by_cases c45 : y250.length + y253.length < 5864062014805
                        · rw [if_pos c45] at H
                          have LMc45 := Aside0.mk c45
                          clear c45
                          obtain ⟨y258, hy258⟩ : ∃ y_ : List (List (List Int)), y_ = (y250 ++ y253) := ⟨_, rfl⟩
                          replace H : (if y258.length < 5864062014805 then ((some (y258 ++ [t235] : List (List (List Int)))).bind fun y261 => ((some (x5_1.drop (x9_2 : Int).toNat : List (List (List Int)))).bind fun y264 => (if y261.length + y264.length < 5864062014805 then (spec_gpCycles.l0 k2 a0 a1 (y261 ++ y264) t228 (t228.length : Int) (wrap64 (x20_1 + 1))) else (none)))) else (none)) = some r := by first | (rw [hy258]; with_reducible exact H) | (have H2_ := (Option.bind_some _ _).symm.trans H; rw [hy258]; with_reducible exact H2_) | (have H2_ := (Option.bind_some _ _).symm.trans H; with_reducible exact H2_) | with_reducible exact H | (rw [hy258]; exact H) | exact H
                          have Ny258 := Aside0.mk hy258
                          clear hy258
                          by_cases c46 : y258.length < 5864062014805
                          · rw [if_pos c46] at H
                            have LMc46 := Aside0.mk c46
                            clear c46
                            obtain ⟨y261, hy261⟩ : ∃ y_ : List (List (List Int)), y_ = (y258 ++ [t235]) := ⟨_, rfl⟩
                            replace H : ((some (x5_1.drop (x9_2 : Int).toNat : List (List (List Int)))).bind fun y264 => (if y261.length + y264.length < 5864062014805 then (spec_gpCycles.l0 k2 a0 a1 (y261 ++ y264) t228 (t228.length : Int) (wrap64 (x20_1 + 1))) else (none))) = some r := by first | (rw [hy261]; with_reducible exact H) | (have H2_ := (Option.bind_some _ _).symm.trans H; rw [hy261]; with_reducible exact H2_) | (have H2_ := (Option.bind_some _ _).symm.trans H; with_reducible exact H2_) | with_reducible exact H | (rw [hy261]; exact H) | exact H
                            have Ny261 := Aside0.mk hy261
                            clear hy261
                            have c47b0 := eq_true (of_decide_eq_true (by first | (with_reducible assumption) | assumption) : 0 ≤ x9_2)
                            have c48b0 := eq_true (of_decide_eq_true (by first | (with_reducible assumption) | assumption) : x9_2 ≤ (x5_1.length : Int))
                            obtain ⟨y264, hy264⟩ : ∃ y_ : List (List (List Int)), y_ = (x5_1.drop (x9_2 : Int).toNat) := ⟨_, rfl⟩
                            replace H : (if y261.length + y264.length < 5864062014805 then (spec_gpCycles.l0 k2 a0 a1 (y261 ++ y264) t228 (t228.length : Int) (wrap64 (x20_1 + 1))) else (none)) = some r := by first | (rw [hy264]; with_reducible exact H) | (have H2_ := (Option.bind_some _ _).symm.trans H; rw [hy264]; with_reducible exact H2_) | (have H2_ := (Option.bind_some _ _).symm.trans H; with_reducible exact H2_) | with_reducible exact H | (rw [hy264]; exact H) | exact H
                            have Ny264 := Aside0.mk hy264
                            clear hy264
                            by_cases c49 : y261.length + y264.length < 5864062014805
                            · rw [if_pos c49] at H
                              have LMc49 := Aside0.mk c49
                              clear c49
                              obtain ⟨y269, hy269⟩ : ∃ y_ : List (List (List Int)), y_ = (y261 ++ y264) := ⟨_, rfl⟩
                              replace H : (spec_gpCycles.l0 k2 a0 a1 y269 t228 (t228.length : Int) (wrap64 (x20_1 + 1))) = some r := by first | (rw [hy269]; with_reducible exact H) | (have H2_ := (Option.bind_some _ _).symm.trans H; rw [hy269]; with_reducible exact H2_) | (have H2_ := (Option.bind_some _ _).symm.trans H; with_reducible exact H2_) | with_reducible exact H | (rw [hy269]; exact H) | exact H
                              have Ny269 := Aside0.mk hy269
                              clear hy269
                              have H' := Aside0.mk H
                              clear H
                              try go_wp2_with (first | ((with_reducible refine gate_dst (N := 62) rfl ?_); refine Kd.N_lit (Kd.slice 22 (Kd.slice 3 (Kd.int .i64))) _ 31 ?hg (N' := 62) ?hd (xs := ([] : List (List (List Int)))) (inner := []) (ok := (fun k_ => (w.heap.size ≤ k_) ∧ some k_ ≠ (.slice Ao14 x5_1.length co14 : Value).ownBlock ∧ some k_ ≠ (v236 : Value).ownBlock ∧ some k_ ≠ (.slice (some ad231) t228.length co5 : Value).ownBlock ∧ some k_ ≠ (.slice Ao14 x5_1.length co14 : Value).ownBlock)) (okp := (fun k_ => (w.heap.size ≤ k_) ∧ some k_ ≠ (.slice Ao14 x5_1.length co14 : Value).ownBlock ∧ some k_ ≠ (v236 : Value).ownBlock ∧ some k_ ≠ (.slice (some ad231) t228.length co5 : Value).ownBlock ∧ some k_ ≠ (.slice Ao14 x5_1.length co14 : Value).ownBlock)) ?hr ?hp (fun _ hk => hk) ((show ∀ k_, wr.heap.size ≤ k_ → (fun k_ => (w.heap.size ≤ k_) ∧ some k_ ≠ (.slice Ao14 x5_1.length co14 : Value).ownBlock ∧ some k_ ≠ (v236 : Value).ownBlock ∧ some k_ ≠ (.slice (some ad231) t228.length co5 : Value).ownBlock ∧ some k_ ≠ (.slice Ao14 x5_1.length co14 : Value).ownBlock) k_ from fun k_ hk => ⟨(Nat.le_trans (below_size (by repeat (first | (with_reducible first | exact HB.out | apply below_alloc | apply pw_below_drewN | apply below_drew1) | exact HB.out))) hk), Kd.fresh' (Kd.N_lt (by (with_reducible repeat (first | apply Kd.N_alloc | apply Kd.N_drewN | apply Kd.N_drew)); exact HO_5.out)) k_ hk, Kd.fresh' (Kd.N_lt (by (with_reducible repeat (first | apply Kd.N_alloc | apply Kd.N_drewN | apply Kd.N_drew)); exact HO_8.out)) k_ hk, Kd.fresh' (Kd.N_lt (by (with_reducible repeat (first | apply Kd.N_alloc | apply Kd.N_drewN | apply Kd.N_drew)); exact HO_18.out)) k_ hk, Kd.fresh' (Kd.N_lt (by (with_reducible repeat (first | apply Kd.N_alloc | apply Kd.N_drewN | apply Kd.N_drew)); exact HO_30.out)) k_ hk⟩) _ (Nat.le_refl _)) (Below.refl _ _) (Nat.le_refl _) (by simp) ?_; (case hd => rfl); (case hg => rfl); (case hr => first | (go_simp; done) | (go_simp; rfl)); (case hp => exact (Reps.none _ _)); intro v251 w50 ho51 hb hg_ hnew_; clear hg_ hnew_; (first | rw [← Ny250.out] at ho51 | (simp only [Int.reduceToNat] at ho51; rw [← Ny250.out] at ho51)); have n0_ := Aside0.mk (Kd.N_elder' (by (with_reducible repeat (first | apply Kd.N_alloc | apply Kd.N_drewN | apply Kd.N_drew)); exact HO_5.out) (Kd.N_base ho51) hb); have n1_ := Aside0.mk (Kd.N_elder' (by (with_reducible repeat (first | apply Kd.N_alloc | apply Kd.N_drewN | apply Kd.N_drew)); exact HO_8.out) (Kd.N_base ho51) hb); have n2_ := Aside0.mk (Kd.N_elder' (by (with_reducible repeat (first | apply Kd.N_alloc | apply Kd.N_drewN | apply Kd.N_drew)); exact HO_18.out) (Kd.N_base ho51) hb); have n3_ := Aside0.mk (Kd.N_elder' (by (with_reducible repeat (first | apply Kd.N_alloc | apply Kd.N_drewN | apply Kd.N_drew)); exact HO_30.out) (Kd.N_base ho51) hb); have n4_ := Aside0.mk (Kd.N_lower ho51 (below_size (by repeat (first | (with_reducible first | exact HB.out | apply below_alloc | apply pw_below_drewN | apply below_drew1) | exact HB.out)))); have n5_ := Aside0.mk (Kd.C_below (by repeat (first | (with_reducible exact HR231_0.out) | (with_reducible refine Kd.C_alloc ?_ _) | (with_reducible refine Kd.C_drewN ?_ _) | (with_reducible refine Kd.C_drew ?_) | exact HR231_0.out)) hb); have n6_ := Aside0.mk (below_step (by repeat (first | (with_reducible first | exact HB.out | apply below_alloc | apply pw_below_drewN | apply below_drew1) | exact HB.out)) hb); clear HO_5; clear HO_8; clear HO_18; clear HO_30; clear HR231_0; clear HB; have HO_5 := n0_; have HO_8 := n1_; have HO_18 := n2_; have HO_30 := n3_; have HO252 := n4_; have HR231_0 := n5_; have HB := n6_; clear n0_ n1_ n2_ n3_ n4_ n5_ n6_; clear hb ho51; have q52 : (x9_2 : Int) ≤ ((x5_1.length : Int) : Int) := of_decide_eq_true (by first | (with_reducible assumption) | assumption); obtain ⟨i052, hi052, _, hsz52, _⟩ := info_parts info31; have hroom52 : x5_1.length ≤ co14 := (Kd.N_reads' HO_5.out).2.1; have hC52 : Kd.F (Kd.slice 22 (Kd.slice 3 (Kd.int .i64))) _ _ Ao14 x5_1.length x5_1 := (Kd.V_at (base := w.heap.size) (Kd.N_V HO_5.out)).2.2; have hcut52 := cut_to (P := Try.prog) 38 31 .i64 Try.underlying38 hi052 Ao14 x5_1.length co14 x9_2 (of_decide_eq_true (by first | (with_reducible assumption) | assumption)) q52 hroom52; have hr52 := Kd.F_take (m := (x9_2 : Int).toNat) hC52 (by omega); have hy52 : y253.length = (x9_2 : Int).toNat := (by rw [Ny253.out, List.length_take]; omega); rw [← Ny253.out] at hr52; rw [← hy52] at hcut52; have HO257 := Aside0.mk (show Kd.V (Kd.slice 22 (Kd.slice 3 (Kd.int .i64))) 31 _ w.heap.size _ (.slice Ao14 y253.length co14) y253 from Kd.V_mk (by omega) hr52); have HC257 := Aside0.mk (show y253.length ≤ co14 from by omega); clear hr52 hC52 hroom52 hi052 hsz52; have KY52 := Aside0.mk hy52; clear hy52; replace q52 := eq_true q52) | ((with_reducible refine gate_builtin (b := .append) (xs := #[.tmp 62, .tmp 65]) rfl ?_); at_builtin; refine Kd.N_append_rows (Kd.slice 22 (Kd.slice 3 (Kd.int .i64))) (w0 := w) w.heap.size rfl (.tmp 62) (.tmp 65) 38 31 (.slice none 0 0) 24 rfl Try.underlying38 info31 rfl (by decide) (by omega) v251 y250 y253 _ _ _ (fun k_ => (w.heap.size ≤ k_) ∧ some k_ ≠ (v236 : Value).ownBlock ∧ some k_ ≠ (.slice (some ad231) t228.length co5 : Value).ownBlock) (fun k_ => ((fun k_ => (w.heap.size ≤ k_) ∧ some k_ ≠ (v236 : Value).ownBlock ∧ some k_ ≠ (.slice (some ad231) t228.length co5 : Value).ownBlock)) k_ ∧ some k_ ≠ (v251 : Value).ownBlock) rfl rfl ?aO ?aR (fun _ hk => hk) ?aF ?aB ?aS ?aL ?_; (case aR => exact (by skip; exact Kd.V_F (Kd.V_mono (ok' := (fun k_ => ((fun k_ => (w.heap.size ≤ k_) ∧ some k_ ≠ (v236 : Value).ownBlock ∧ some k_ ≠ (.slice (some ad231) t228.length co5 : Value).ownBlock)) k_ ∧ some k_ ≠ (v251 : Value).ownBlock)) (HO257.out) (fun k_ hk => ⟨⟨hk.1.1, ⟨hk.1.2.1, hk.1.2.2⟩⟩, hk.2⟩)))); (case aB => exact (by repeat (first | (with_reducible first | exact HB.out | apply below_alloc | apply pw_below_drewN | apply below_drew1) | exact HB.out))); (case aF => exact (fun k_ hk => ⟨(Nat.le_trans (below_size (by repeat (first | (with_reducible first | exact HB.out | apply below_alloc | apply pw_below_drewN | apply below_drew1) | exact HB.out))) hk), Kd.fresh' (Kd.N_lt (by (with_reducible repeat (first | apply Kd.N_alloc | apply Kd.N_drewN | apply Kd.N_drew)); exact HO_8.out)) k_ hk, Kd.fresh' (Kd.N_lt (by (with_reducible repeat (first | apply Kd.N_alloc | apply Kd.N_drewN | apply Kd.N_drew)); exact HO_18.out)) k_ hk⟩)); (case aO => exact (by (with_reducible repeat (first | apply Kd.N_alloc | apply Kd.N_drewN | apply Kd.N_drew)); exact Kd.N_mono HO252.out (fun _ hk => ⟨hk.1, ⟨hk.2.2.1, hk.2.2.2.1⟩⟩))); (case aS => exact (below_size (by repeat (first | (with_reducible first | exact HB.out | apply below_alloc | apply pw_below_drewN | apply below_drew1) | exact HB.out)))); (case aL => have := LMc45.out; omega); intro v259 w53 ho hb hg hat; rw [← Ny258.out] at ho; have n0_ := Aside0.mk (Kd.N_afterv (ok := (fun k_ => (w.heap.size ≤ k_) ∧ some k_ ≠ (v236 : Value).ownBlock ∧ some k_ ≠ (.slice (some ad231) t228.length co5 : Value).ownBlock)) (by (with_reducible repeat (first | apply Kd.N_alloc | apply Kd.N_drewN | apply Kd.N_drew)); exact HO_5.out) hg hat); have n1_ := Aside0.mk (Kd.N_afterv (ok := (fun k_ => (w.heap.size ≤ k_) ∧ some k_ ≠ (.slice Ao14 x5_1.length co14 : Value).ownBlock ∧ some k_ ≠ (.slice (some ad231) t228.length co5 : Value).ownBlock ∧ some k_ ≠ (.slice Ao14 x5_1.length co14 : Value).ownBlock)) (by (with_reducible repeat (first | apply Kd.N_alloc | apply Kd.N_drewN | apply Kd.N_drew)); exact HO_8.out) hg hat); have n2_ := Aside0.mk (Kd.N_afterv (ok := (fun k_ => (w.heap.size ≤ k_) ∧ some k_ ≠ (.slice Ao14 x5_1.length co14 : Value).ownBlock ∧ some k_ ≠ (v236 : Value).ownBlock ∧ some k_ ≠ (.slice Ao14 x5_1.length co14 : Value).ownBlock)) (by (with_reducible repeat (first | apply Kd.N_alloc | apply Kd.N_drewN | apply Kd.N_drew)); exact HO_18.out) hg hat); have n3_ := Aside0.mk (Kd.N_afterv (ok := (fun k_ => (w.heap.size ≤ k_) ∧ some k_ ≠ (v236 : Value).ownBlock ∧ some k_ ≠ (.slice (some ad231) t228.length co5 : Value).ownBlock)) (by (with_reducible repeat (first | apply Kd.N_alloc | apply Kd.N_drewN | apply Kd.N_drew)); exact HO_30.out) hg hat); have n4_ := Aside0.mk (Kd.V_afterv (ok := (fun k_ => (w.heap.size ≤ k_) ∧ some k_ ≠ (v236 : Value).ownBlock ∧ some k_ ≠ (.slice (some ad231) t228.length co5 : Value).ownBlock)) (by (with_reducible repeat (first | apply Kd.V_alloc | apply Kd.V_drewN | apply Kd.V_drew)); exact HO257.out) hg hat); have n5_ := Aside0.mk (hb); have n6_ := Aside0.mk (ho); clear HO_5; clear HO_8; clear HO_18; clear HO_30; clear HO257; clear HB; clear HO252; have HO_5 := n0_; have HO_8 := n1_; have HO_18 := n2_; have HO_30 := n3_; have HO257 := n4_; have HB := n5_; have HO260 := n6_; clear n0_ n1_ n2_ n3_ n4_ n5_ n6_; clear ho hb hg hat))
                              have n0_ := Aside0.mk (Kd.N_drew HO_5.out)
                              have n1_ := Aside0.mk (Kd.N_drew HO_8.out)
                              have n2_ := Aside0.mk (Kd.N_drew HO_18.out)
                              have n3_ := Aside0.mk (Kd.N_drew HO_30.out)
                              have n4_ := Aside0.mk (Kd.V_drew HO257.out)
                              have n5_ := Aside0.mk (Kd.N_drew HO260.out)
                              have n6_ := Aside0.mk (below_drew1 HB.out)
                              clear HO_5
                              clear HO_8
                              clear HO_18
                              clear HO_30
                              clear HO257
                              clear HO260
                              clear HB
                              have HO_5 := n0_
                              have HO_8 := n1_
                              have HO_18 := n2_
                              have HO_30 := n3_
                              have HO257 := n4_
                              have HO260 := n5_
                              have HB := n6_
                              clear n0_ n1_ n2_ n3_ n4_ n5_ n6_
                              have q55 : (x9_2 : Int) ≤ ((x5_1.length : Int) : Int) := of_decide_eq_true (by first | (with_reducible assumption) | assumption)
                              obtain ⟨i055, hi055, _, hsz55, _⟩ := info_parts info31
                              have hroom55 : x5_1.length ≤ co14 := (Kd.N_reads' HO_5.out).2.1
                              have hC55 : Kd.F (Kd.slice 22 (Kd.slice 3 (Kd.int .i64))) _ _ Ao14 x5_1.length x5_1 := (Kd.V_at (base := w.heap.size) (Kd.N_V HO_5.out)).2.2
                              have q055 : (0 : Int) ≤ (x9_2 : Int) := of_decide_eq_true (by first | (with_reducible assumption) | assumption)
                              have hcut55 := cut_from (P := Try.prog) 38 31 .i64 Try.underlying38 hi055 1 hsz55 Ao14 x5_1.length co14 x9_2 q055 q55
                              have hr55 := Kd.F_cut (m := (x9_2 : Int).toNat) (c := co14) hC55 (by omega) hroom55
                              obtain ⟨A55, hA55⟩ : ∃ A1, A1 = (if co14 = (x9_2 : Int).toNat then Ao14 else (Ao14 : Option Addr).map (·.add ((x9_2 : Int).toNat * 1))) := ⟨_, rfl⟩
                              obtain ⟨c55, hc55⟩ : ∃ c1, c1 = co14 - (x9_2 : Int).toNat := ⟨_, rfl⟩
                              have hy55 : y264.length = x5_1.length - (x9_2 : Int).toNat := (by rw [Ny264.out, List.length_drop] <;> omega)
                              rw [show (x5_1).drop (x9_2 : Int).toNat = y264 from Ny264.out.symm] at hr55
                              replace hr55 : Kd.F (Kd.slice 22 (Kd.slice 3 (Kd.int .i64))) _ _ A55 y264.length y264 := (by rw [hA55]; exact hr55)
                              rw [← hy55, ← hA55, ← hc55] at hcut55
                              have HO268 := Aside0.mk (show Kd.V (Kd.slice 22 (Kd.slice 3 (Kd.int .i64))) 31 _ w.heap.size _ (.slice A55 y264.length c55) y264 from Kd.V_mk (by rw [hy55, hc55]; exact Nat.sub_le_sub_right hroom55 _) hr55)
                              have HC268 := Aside0.mk (show y264.length ≤ c55 from by rw [hy55, hc55]; exact Nat.sub_le_sub_right hroom55 _)
                              clear hr55 hC55 hroom55 hi055 hsz55 hc55
                              have KY55 := Aside0.mk hy55
                              have KA55 := Aside0.mk hA55
                              clear hy55 hA55
                              replace q55 := eq_true q55
                              obtain ⟨Ao57, co57, eo57⟩ := Kd.N_slice HO_8.out
                              (first | subst eo57 | (injection eo57 with f1_ f2_ f3_; have f4_ := f1_.symm; have f5_ := f3_.symm; clear f1_ f2_ f3_; subst f4_; subst f5_))
                              refine start_ (n := 9) (S := fun w' => True) (ds := []) #[false, false, false, false, false, false, false, false, false] (by kernel_rfl) rfl rfl trivial (fun hHeld => ?_); refine with_tabW spec_gpCycles.tab16 spec_gpCycles.bits16 (fun HT_ HW_ => ?_)
                              generalize w53.drew = w54 at HO_5 HO_8 HO_18 HO_30 HO257 HO260 HB HO268 hHeld ⊢
                              refine pure_ (i := 0) (N := some 67) (v := ?_) (a' := ?_) #[true, false, false, false, false, false, false, false, false] rfl rfl (any_of HT_.out (by kernel_rfl)) (fun _ _ _ h => h) (Or.inl ⟨by rfl, ?_⟩) ?_ ?_
                              rotate_left
                              · intro w'
                                go_simp
                                with_reducible rfl
                              rotate_left
                              · simp only [Act.put, List.setIfInBounds_toArray, List.set_cons_zero, List.set_cons_succ, i64_w, i32_w]
                                rfl
                              refine pure_ (i := 1) (N := some 68) (v := ?_) (a' := ?_) #[true, true, false, false, false, false, false, false, false] rfl rfl (any_of HT_.out (by kernel_rfl)) (fun _ _ _ h => h) (Or.inl ⟨by rfl, ?_⟩) ?_ ?_
                              rotate_left
                              · intro w'
                                go_simp
                                with_reducible rfl
                              rotate_left
                              · simp only [Act.put, List.setIfInBounds_toArray, List.set_cons_zero, List.set_cons_succ, i64_w, i32_w]
                                rfl
                              refine pure_ (i := 4) (N := some 71) (v := ?_) (a' := ?_) #[true, true, false, false, true, false, false, false, false] rfl rfl (any_of HT_.out (by kernel_rfl)) (fun _ _ _ h => h) (Or.inl ⟨by rfl, ?_⟩) ?_ ?_
                              rotate_left
                              · intro w'
                                go_simp
                                with_reducible rfl
                              rotate_left
                              · simp only [Act.put, List.setIfInBounds_toArray, List.set_cons_zero, List.set_cons_succ, i64_w, i32_w]
                                rfl
                              refine pure_ (i := 5) (N := some 72) (v := ?_) (a' := ?_) #[true, true, false, false, true, true, false, false, false] rfl rfl (any_of HT_.out (by kernel_rfl)) (fun _ _ _ h => h) (Or.inl ⟨by rfl, ?_⟩) ?_ ?_
                              rotate_left
                              · intro w'
                                go_simp
                                with_reducible rfl
                              rotate_left
                              · simp only [Act.put, List.setIfInBounds_toArray, List.set_cons_zero, List.set_cons_succ, i64_w, i32_w]
                                rfl
                              refine pure_ (i := 6) (N := some 73) (v := ?_) (a' := ?_) #[true, true, false, false, true, true, true, false, false] rfl rfl (any_of HT_.out (by kernel_rfl)) (fun _ _ _ h => h) (Or.inl ⟨by rfl, ?_⟩) ?_ ?_
                              rotate_left
                              · intro w'
                                go_simp
                                with_reducible rfl
                              rotate_left
                              · simp only [Act.put, List.setIfInBounds_toArray, List.set_cons_zero, List.set_cons_succ, i64_w, i32_w]
                                rfl
                              refine one_ (i := 2) (N := some 69) #[true, true, true, false, true, true, true, false, false] rfl rfl (one_of HT_.out (by kernel_rfl)) (by decide) (fun K hK => ?_)
                              refine value_ (w1 := ?_) (v := ?_) (by rfl) rfl ?_ ?_
                              rotate_left 2
                              · go_simp
                                constructor
                                · rfl
                                · rfl
                              refine hK.out _ _ trivial (fun hHeld => ?_)
                              clear hK K
                              refine norm_ (a' := ?_) ?_ ?_
                              rotate_left
                              · show Act.put _ (some 69) _ = _
                                simp only [Act.put, List.setIfInBounds_toArray, List.set_cons_zero, List.set_cons_succ, i64_w, i32_w]
                                rfl
                              refine one_ (i := 3) (N := some 70) #[true, true, true, true, true, true, true, false, false] rfl rfl (one_of HT_.out (by kernel_rfl)) (by decide) (fun K hK => ?_)
                              refine Kd.N_append_step (Kd.slice 22 (Kd.slice 3 (Kd.int .i64))) (w0 := w) w.heap.size (by rfl) (.tmp 67) (.tmp 69) 38 31 (.slice none 0 0) 24 rfl Try.underlying38 info31 rfl (by decide) (by omega) v259 y258 t235 [.slice Ao57 t235.length co57] (fun k_ => (w.heap.size ≤ k_) ∧ some k_ ≠ (.slice (some ad231) t228.length co5 : Value).ownBlock) (fun k_ => ((fun k_ => (w.heap.size ≤ k_) ∧ some k_ ≠ (.slice (some ad231) t228.length co5 : Value).ownBlock)) k_ ∧ some k_ ≠ (v259 : Value).ownBlock) rfl rfl ?aP (fun _ hk => hk) ?aF ?aO ?aB ?aS ?aL ?_
                              (case aP => exact (Kd.FK_slice_mk (Kd.N_reads' (Kd.N_mono (ok' := (fun k_ => ((fun k_ => (w.heap.size ≤ k_) ∧ some k_ ≠ (.slice (some ad231) t228.length co5 : Value).ownBlock)) k_ ∧ some k_ ≠ (v259 : Value).ownBlock)) (HO_8.out) (fun k_ hk => ⟨⟨hk.1.1, hk.1.2.2.1⟩, hk.2⟩))).2.1 (Kd.N_F (Kd.N_mono (ok' := (fun k_ => ((fun k_ => (w.heap.size ≤ k_) ∧ some k_ ≠ (.slice (some ad231) t228.length co5 : Value).ownBlock)) k_ ∧ some k_ ≠ (v259 : Value).ownBlock)) (HO_8.out) (fun k_ hk => ⟨⟨hk.1.1, hk.1.2.2.1⟩, hk.2⟩)))))
                              (case aB => exact (by repeat (first | (with_reducible first | exact HB.out | apply below_alloc | apply pw_below_drewN | apply below_drew1) | exact HB.out)))
                              (case aF => exact (fun k_ hk => ⟨(Nat.le_trans (below_size (by repeat (first | (with_reducible first | exact HB.out | apply below_alloc | apply pw_below_drewN | apply below_drew1) | exact HB.out))) hk), Kd.fresh' (Kd.N_lt (by (with_reducible repeat (first | apply Kd.N_alloc | apply Kd.N_drewN | apply Kd.N_drew)); exact HO_18.out)) k_ hk⟩))
                              (case aO => exact (by (with_reducible repeat (first | apply Kd.N_alloc | apply Kd.N_drewN | apply Kd.N_drew)); exact Kd.N_mono HO260.out (fun _ hk => ⟨hk.1, hk.2.2⟩)))
                              (case aS => exact (below_size (by repeat (first | (with_reducible first | exact HB.out | apply below_alloc | apply pw_below_drewN | apply below_drew1) | exact HB.out))))
                              (case aL => have := LMc46.out; omega)
                              intro v262 w56 ho hb hg hat
                              rw [← Ny261.out] at ho
                              have n0_ := Aside0.mk (Kd.N_afterv (ok := (fun k_ => (w.heap.size ≤ k_) ∧ some k_ ≠ (.slice Ao57 t235.length co57 : Value).ownBlock ∧ some k_ ≠ (.slice (some ad231) t228.length co5 : Value).ownBlock)) (by (with_reducible repeat (first | apply Kd.N_alloc | apply Kd.N_drewN | apply Kd.N_drew)); exact HO_5.out) hg hat)
                              have n1_ := Aside0.mk (Kd.N_afterv (ok := (fun k_ => (w.heap.size ≤ k_) ∧ some k_ ≠ (.slice Ao14 x5_1.length co14 : Value).ownBlock ∧ some k_ ≠ (.slice Ao57 t235.length co57 : Value).ownBlock ∧ some k_ ≠ (.slice Ao14 x5_1.length co14 : Value).ownBlock)) (by (with_reducible repeat (first | apply Kd.N_alloc | apply Kd.N_drewN | apply Kd.N_drew)); exact HO_18.out) hg hat)
                              have n2_ := Aside0.mk (Kd.N_afterv (ok := (fun k_ => (w.heap.size ≤ k_) ∧ some k_ ≠ (.slice Ao57 t235.length co57 : Value).ownBlock ∧ some k_ ≠ (.slice (some ad231) t228.length co5 : Value).ownBlock)) (by (with_reducible repeat (first | apply Kd.N_alloc | apply Kd.N_drewN | apply Kd.N_drew)); exact HO_30.out) hg hat)
                              have n3_ := Aside0.mk (Kd.V_afterv (ok := (fun k_ => (w.heap.size ≤ k_) ∧ some k_ ≠ (.slice Ao57 t235.length co57 : Value).ownBlock ∧ some k_ ≠ (.slice (some ad231) t228.length co5 : Value).ownBlock)) (by (with_reducible repeat (first | apply Kd.V_alloc | apply Kd.V_drewN | apply Kd.V_drew)); exact HO257.out) hg hat)
                              have n4_ := Aside0.mk (Kd.V_afterv (ok := (fun k_ => (w.heap.size ≤ k_) ∧ some k_ ≠ (.slice Ao57 t235.length co57 : Value).ownBlock ∧ some k_ ≠ (.slice (some ad231) t228.length co5 : Value).ownBlock)) (by (with_reducible repeat (first | apply Kd.V_alloc | apply Kd.V_drewN | apply Kd.V_drew)); exact HO268.out) hg hat)
                              have n5_ := Aside0.mk (hb)
                              have n6_ := Aside0.mk (ho)
                              clear HO_5
                              clear HO_18
                              clear HO_30
                              clear HO257
                              clear HO268
                              clear HB
                              clear HO260
                              clear HO_8
                              have HO_5 := n0_
                              have HO_18 := n1_
                              have HO_30 := n2_
                              have HO257 := n3_
                              have HO268 := n4_
                              have HB := n5_
                              have HO263 := n6_
                              clear n0_ n1_ n2_ n3_ n4_ n5_ n6_
                              clear ho hb hg hat
                              refine hK.out _ _ trivial (fun hHeld => ?_)
                              clear hK K
                              refine norm_ (a' := ?_) ?_ ?_
                              rotate_left
                              · show Act.put _ (some 70) _ = _
                                simp only [Act.put, List.setIfInBounds_toArray, List.set_cons_zero, List.set_cons_succ, i64_w, i32_w]
                                rfl
                              refine one_ (i := 7) (N := some 74) #[true, true, true, true, true, true, true, true, false] rfl rfl (one_of HT_.out (by kernel_rfl)) (by decide) (fun K hK => ?_)
                              refine Kd.N_append_rows_step (Kd.slice 22 (Kd.slice 3 (Kd.int .i64))) (w0 := w) w.heap.size (by rfl) (.tmp 70) (.tmp 73) 38 31 (.slice none 0 0) 24 rfl Try.underlying38 info31 rfl (by decide) (by omega) v262 y261 y264 _ _ _ (fun k_ => (w.heap.size ≤ k_) ∧ some k_ ≠ (.slice (some ad231) t228.length co5 : Value).ownBlock) (fun k_ => ((fun k_ => (w.heap.size ≤ k_) ∧ some k_ ≠ (.slice (some ad231) t228.length co5 : Value).ownBlock)) k_ ∧ some k_ ≠ (v262 : Value).ownBlock) rfl rfl ?aO ?aR (fun _ hk => hk) ?aF ?aB ?aS ?aL ?_
                              (case aR => exact (by skip; exact Kd.V_F (Kd.V_mono (ok' := (fun k_ => ((fun k_ => (w.heap.size ≤ k_) ∧ some k_ ≠ (.slice (some ad231) t228.length co5 : Value).ownBlock)) k_ ∧ some k_ ≠ (v262 : Value).ownBlock)) (HO268.out) (fun k_ hk => ⟨⟨hk.1.1, hk.1.2.2⟩, hk.2⟩))))
                              (case aB => exact (by repeat (first | (with_reducible first | exact HB.out | apply below_alloc | apply pw_below_drewN | apply below_drew1) | exact HB.out)))
                              (case aF => exact (fun k_ hk => ⟨(Nat.le_trans (below_size (by repeat (first | (with_reducible first | exact HB.out | apply below_alloc | apply pw_below_drewN | apply below_drew1) | exact HB.out))) hk), Kd.fresh' (Kd.N_lt (by (with_reducible repeat (first | apply Kd.N_alloc | apply Kd.N_drewN | apply Kd.N_drew)); exact HO_18.out)) k_ hk⟩))
                              (case aO => exact (by (with_reducible repeat (first | apply Kd.N_alloc | apply Kd.N_drewN | apply Kd.N_drew)); exact HO263.out))
                              (case aS => exact (below_size (by repeat (first | (with_reducible first | exact HB.out | apply below_alloc | apply pw_below_drewN | apply below_drew1) | exact HB.out))))
                              (case aL => have := LMc49.out; omega)
                              intro v270 w58 ho hb hg hat
                              rw [← Ny269.out] at ho
                              have n0_ := Aside0.mk (Kd.N_afterv (ok := (fun k_ => (w.heap.size ≤ k_) ∧ some k_ ≠ (.slice (some ad231) t228.length co5 : Value).ownBlock)) (by (with_reducible repeat (first | apply Kd.N_alloc | apply Kd.N_drewN | apply Kd.N_drew)); exact Kd.N_mono HO_5.out (fun _ hk => ⟨⟨hk.1.1, hk.1.2.2⟩, hk.2⟩)) hg hat)
                              have n1_ := Aside0.mk (Kd.N_afterv (ok := (fun k_ => (w.heap.size ≤ k_) ∧ some k_ ≠ (.slice Ao14 x5_1.length co14 : Value).ownBlock ∧ some k_ ≠ (.slice Ao14 x5_1.length co14 : Value).ownBlock)) (by (with_reducible repeat (first | apply Kd.N_alloc | apply Kd.N_drewN | apply Kd.N_drew)); exact Kd.N_mono HO_18.out (fun _ hk => ⟨⟨hk.1.1, ⟨hk.1.2.1, hk.1.2.2.2⟩⟩, hk.2⟩)) hg hat)
                              have n2_ := Aside0.mk (Kd.N_afterv (ok := (fun k_ => (w.heap.size ≤ k_) ∧ some k_ ≠ (.slice (some ad231) t228.length co5 : Value).ownBlock)) (by (with_reducible repeat (first | apply Kd.N_alloc | apply Kd.N_drewN | apply Kd.N_drew)); exact Kd.N_mono HO_30.out (fun _ hk => ⟨⟨hk.1.1, hk.1.2.2⟩, hk.2⟩)) hg hat)
                              have n3_ := Aside0.mk (Kd.V_afterv (ok := (fun k_ => (w.heap.size ≤ k_) ∧ some k_ ≠ (.slice (some ad231) t228.length co5 : Value).ownBlock)) (by (with_reducible repeat (first | apply Kd.V_alloc | apply Kd.V_drewN | apply Kd.V_drew)); exact Kd.V_mono HO257.out (fun _ hk => ⟨⟨hk.1.1, hk.1.2.2⟩, hk.2⟩)) hg hat)
                              have n4_ := Aside0.mk (Kd.V_afterv (ok := (fun k_ => (w.heap.size ≤ k_) ∧ some k_ ≠ (.slice (some ad231) t228.length co5 : Value).ownBlock)) (by (with_reducible repeat (first | apply Kd.V_alloc | apply Kd.V_drewN | apply Kd.V_drew)); exact Kd.V_mono HO268.out (fun _ hk => ⟨⟨hk.1.1, hk.1.2.2⟩, hk.2⟩)) hg hat)
                              have n5_ := Aside0.mk (hb)
                              have n6_ := Aside0.mk (ho)
                              clear HO_5
                              clear HO_18
                              clear HO_30
                              clear HO257
                              clear HO268
                              clear HB
                              clear HO263
                              have HO_5 := n0_
                              have HO_18 := n1_
                              have HO_30 := n2_
                              have HO257 := n3_
                              have HO268 := n4_
                              have HB := n5_
                              have HO271 := n6_
                              clear n0_ n1_ n2_ n3_ n4_ n5_ n6_
                              clear ho hb hg hat
                              refine hK.out _ _ trivial (fun hHeld => ?_)
                              clear hK K
                              refine norm_ (a' := ?_) ?_ ?_
                              rotate_left
                              · show Act.put _ (some 74) _ = _
                                simp only [Act.put, List.setIfInBounds_toArray, List.set_cons_zero, List.set_cons_succ, i64_w, i32_w]
                                rfl
                              refine pure_ (i := 8) (N := some 5) (v := ?_) (a' := ?_) #[true, true, true, true, true, true, true, true, true] rfl rfl (any_of HT_.out (by kernel_rfl)) (fun _ _ _ h => h) (Or.inl ⟨by rfl, ?_⟩) ?_ ?_
                              rotate_left
                              · intro w'
                                go_simp
                                with_reducible rfl
                              rotate_left
                              · simp only [Act.put, List.setIfInBounds_toArray, List.set_cons_zero, List.set_cons_succ, i64_w, i32_w]
                                rfl
                              refine done_ (done_of HT_.out (by kernel_rfl)) ?_
                              try go_wp2
                              go_roundg k2
                              case measure => have := HK1.out; have := HK2.out; omega
                              case rel => exact ⟨(y269), (wrap64 (x20_1 + 1)), (by first | rfl | (simp; done) | (simp [*]; done)), H', ⟨by have := HK1.out; have := HK2.out; omega⟩, ⟨by (with_reducible repeat (first | apply Kd.N_alloc | apply Kd.N_drewN | apply Kd.N_drew)); exact HO271.out⟩, ⟨by (with_reducible repeat (first | apply Kd.N_alloc | apply Kd.N_drewN | apply Kd.N_drew)); exact Kd.N_mono HO_18.out (fun _ hk => ⟨hk.1.1, hk.2⟩)⟩, ⟨by repeat (first | (with_reducible first | exact HB.out | apply below_alloc | apply pw_below_drewN | apply below_drew1) | exact HB.out)⟩⟩
                            · rw [if_neg c49] at H
                              exact absurd H (by simp)
                          · rw [if_neg c46] at H
                            exact absurd H (by simp)
                        · rw [if_neg c45] at H
                          exact absurd H (by simp)
                      · rw [if_neg c44] at H
                        exact absurd H (by simp)
                    · rw [if_neg c43] at H
                      exact absurd H (by simp)
          · rw [if_neg c8] at H
            exact absurd H (by simp)
        · rw [if_neg c7] at H
          exact absurd H (by simp)
      · rw [if_neg c6] at H
        have c6b0 : decide (x20_1 < (t228.length : Int)) = false := decide_eq_false c6
        clear c6
        obtain rfl := Option.some.inj H
        go_wp2
        go_ret
        exact ⟨_, by first | rfl | (simp [errW_none, errW_some] <;> rfl) | (simp [*, errW_none, errW_some] <;> rfl), by (with_reducible repeat (first | apply Kd.N_alloc | apply Kd.N_drewN | apply Kd.N_drew)); exact Kd.N_mono HO_5.out (fun _ hk => hk.1), by repeat (first | (with_reducible first | exact HB.out | apply below_alloc | apply pw_below_drewN | apply below_drew1) | exact HB.out)⟩

end Go.Proofs.Yteojcnegdcopdaa.PFnExactCountReaching
