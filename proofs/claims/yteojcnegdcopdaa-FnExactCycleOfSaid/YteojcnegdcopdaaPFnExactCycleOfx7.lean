-- Written by a program of this session (hook.py): functions, contracts and walks in the printer's form; contracts of this session's own where the printer takes none
import Derived.Test.YteojcnegdcopdaaPFnExactCycleOfx0
import Derived.Test.YteojcnegdcopdaaPFnExactCycleOfx1
import Derived.Test.YteojcnegdcopdaaPFnExactCycleOfx2
import Derived.Test.YteojcnegdcopdaaPFnExactCycleOfx4
import Derived.Test.YteojcnegdcopdaaPFnExactCycleOfx5
import Derived.Test.YteojcnegdcopdaaPFnExactCycleOfx6
namespace Go.Proofs.Yteojcnegdcopdaa.PFnExactCycleOf
open Go.RowKit Go.Proofs.YteojcnegdcopdaaW.PrintWords Go.Proofs.YteojcnegdcopdaaW.PrintLast Go.Proofs.YteojcnegdcopdaaW.PrintMore
attribute [local go_sem] max2_int min2_int max_two min_two max_three min_three max_four min_four   -- for this text's walks alone
set_option linter.unusedVariables false
set_option linter.unusedSimpArgs false

/-! ### impl_leastFirst: function 51 -/
def impl_leastFirst.f (k : Nat) (l0 : List Int) : Option (List Int) := (slices_Min_int_int.f k l0).bind fun t269 => ((slices_Index_int_int.f k l0 t269).bind fun t270 => (if 0 ≤ t270 then (if t270 ≤ (l0.length : Int) then ((slices_Concat_int_int.f k (([(l0.drop (t270 : Int).toNat), (l0.take (t270 : Int).toNat)] : List (List Int)))).bind fun t284 => (some t284)) else (none)) else (none)))
theorem impl_leastFirst.mono : ∀ a0 k, LeO (impl_leastFirst.f k a0) (impl_leastFirst.f (k + 1) a0) := by
  intro a0 k
  unfold impl_leastFirst.f
  repeat' first
      | (with_reducible exact slices_Concat_int_int.mono _ _)
      | (with_reducible exact slices_Index_int_int.mono _ _ _)
      | (with_reducible exact slices_Min_int_int.mono _ _)
      | (with_reducible exact LeO.refl _)
      | (with_reducible exact LeO.none _)
      | (with_reducible refine LeO.ite ?_ ?_)
      | (with_reducible refine LeO.bind ?_ (fun _ => ?_))
      | exact slices_Concat_int_int.mono _ _
      | exact slices_Index_int_int.mono _ _ _
      | exact slices_Min_int_int.mono _ _
      | exact LeO.none _
      | refine LeO.ite ?_ ?_
      | refine LeO.bind ?_ (fun _ => ?_)
def impl_leastFirst.T2 : Bool × List (List Nat × List Nat) := (true, [([], []), ([], []), ([0, 1], [0, 1]), ([], []), ([], []), ([3, 4], [3, 4]), ([2, 5], [2, 5]), ([6], [6]), ([7, 7, 0, 1, 2, 3, 4, 5, 6, 7], [7])])
def impl_leastFirst.B2 : List Nat := [0, 0, 3, 0, 0, 24, 63, 127, 255]
theorem impl_leastFirst.tab2 : rtab .any (opsOf Try.f51 2) = impl_leastFirst.T2 := by kernel_rfl
theorem impl_leastFirst.bits2 : waitsOk impl_leastFirst.T2.2 impl_leastFirst.B2 = true := by kernel_rfl
set_option maxHeartbeats 8000000 in
set_option maxRecDepth 100000 in
theorem impl_leastFirst.callsV (k : Nat) (P0_ : Nat → Prop) (A0 : Option Addr) (c0 : Nat) (l0 : List Int) (r : List Int) (w : World) (hs0 : Kd.V (Kd.int .i64) 3 w w.heap.size (fun k_ => P0_ k_) (.slice A0 l0.length c0) l0) (h : impl_leastFirst.f k l0 = some r) :
    Calls Try.prog 51 #[.slice A0 l0.length c0] w fun e w' => ∃ v0_ : Value, e = .returned (v0_) ∧ Kd.R (Kd.int .i64) 3 w' w.heap.size (fun k_ => (w.heap.size ≤ k_)) v0_ r ∧ Below w.heap.size w w' := by
  have HO0 := Aside0.mk (show Kd.V (Kd.int .i64) 3 w w.heap.size (fun k_ => (P0_ k_ ∨ w.heap.size ≤ k_)) (.slice A0 l0.length c0) l0 from Kd.V_mono hs0 (fun k_ hk => .inl hk))
  have HB := Aside0.mk (Below.refl w.heap.size w)
  have H : ((slices_Min_int_int.f k l0).bind fun t269 => ((slices_Index_int_int.f k l0 t269).bind fun t270 => (if 0 ≤ t270 then (if t270 ≤ (l0.length : Int) then ((slices_Concat_int_int.f k (([(l0.drop (t270 : Int).toNat), (l0.take (t270 : Int).toNat)] : List (List Int)))).bind fun t284 => (some t284)) else (none)) else (none)))) = some r := h
  clear h
  replace H := Option.bind_eq_some_iff.mp H
  obtain ⟨t269, A20, H⟩ := H
  replace H : ((slices_Index_int_int.f k l0 t269).bind fun t270 => (if 0 ≤ t270 then (if t270 ≤ (l0.length : Int) then ((slices_Concat_int_int.f k (([(l0.drop (t270 : Int).toNat), (l0.take (t270 : Int).toNat)] : List (List Int)))).bind fun t284 => (some t284)) else (none)) else (none))) = some r := H
  have A2 := Aside0.mk A20
  clear A20
  replace H := Option.bind_eq_some_iff.mp H
  obtain ⟨t270, A30, H⟩ := H
  replace H : (if 0 ≤ t270 then (if t270 ≤ (l0.length : Int) then ((slices_Concat_int_int.f k (([(l0.drop (t270 : Int).toNat), (l0.take (t270 : Int).toNat)] : List (List Int)))).bind fun t284 => (some t284)) else (none)) else (none)) = some r := H
  have A3 := Aside0.mk A30
  clear A30
  by_cases c4 : 0 ≤ t270
  · rw [if_pos c4] at H
    have c4b0 := eq_true c4
    have c4b1 : decide (0 ≤ t270) = true := decide_eq_true c4
    clear c4
    by_cases c5 : t270 ≤ (l0.length : Int)
    · rw [if_pos c5] at H
      have c5b0 := eq_true c5
      have c5b1 : decide (t270 ≤ (l0.length : Int)) = true := decide_eq_true c5
      clear c5
      obtain ⟨y271, hy271⟩ : ∃ y_ : List Int, y_ = (l0.drop (t270 : Int).toNat) := ⟨_, rfl⟩
      replace H : ((slices_Concat_int_int.f k (([y271, (l0.take (t270 : Int).toNat)] : List (List Int)))).bind fun t284 => (some t284)) = some r := by first | (rw [hy271]; with_reducible exact H) | (have H2_ := (Option.bind_some _ _).symm.trans H; rw [hy271]; with_reducible exact H2_) | (have H2_ := (Option.bind_some _ _).symm.trans H; with_reducible exact H2_) | with_reducible exact H | (rw [hy271]; exact H) | exact H
      have Ny271 := Aside0.mk hy271
      clear hy271
      have c6b0 := eq_true (of_decide_eq_true (by first | (with_reducible assumption) | assumption) : 0 ≤ t270)
      have c7b0 := eq_true (of_decide_eq_true (by first | (with_reducible assumption) | assumption) : t270 ≤ (l0.length : Int))
      obtain ⟨y276, hy276⟩ : ∃ y_ : List Int, y_ = (l0.take (t270 : Int).toNat) := ⟨_, rfl⟩
      replace H : ((slices_Concat_int_int.f k (([y271, y276] : List (List Int)))).bind fun t284 => (some t284)) = some r := by first | (rw [hy276]; with_reducible exact H) | (have H2_ := (Option.bind_some _ _).symm.trans H; rw [hy276]; with_reducible exact H2_) | (have H2_ := (Option.bind_some _ _).symm.trans H; with_reducible exact H2_) | with_reducible exact H | (rw [hy276]; exact H) | exact H
      have Ny276 := Aside0.mk hy276
      clear hy276
      obtain ⟨y281, hy281⟩ : ∃ y_ : List (List Int), y_ = (([y271, y276] : List (List Int))) := ⟨_, rfl⟩
      replace H : ((slices_Concat_int_int.f k y281).bind fun t284 => (some t284)) = some r := by first | (rw [hy281]; with_reducible exact H) | (have H2_ := (Option.bind_some _ _).symm.trans H; rw [hy281]; with_reducible exact H2_) | (have H2_ := (Option.bind_some _ _).symm.trans H; with_reducible exact H2_) | with_reducible exact H | (rw [hy281]; exact H) | exact H
      have Ny281 := Aside0.mk hy281
      clear hy281
      replace H := Option.bind_eq_some_iff.mp H
      obtain ⟨t284, A80, H⟩ := H
      replace H : (some t284) = some r := H
      have A8 := Aside0.mk A80
      clear A80
      obtain rfl := Option.some.inj H
      go_enter Try.func51, Try.ntmps51
      try go_wp2_with (first | ((with_reducible refine gate_callee (f := 82) rfl ?_); refine goesL_ (some 6) rfl rfl Try.func82 (by kernel_rfl) rfl #[.slice A0 l0.length c0] rfl (by (try simp only [List.map_toArray, List.map_cons, List.map_nil]); first | done | rfl | (simp only [List.length_drop, List.length_take]; rfl)) ?_; (with_reducible refine (slices_Min_int_int.calls k _ _ l0 t269 _ ?side1 ?side2 A2.out).mono ?_); (case side1 => repeat (first | exact (Kd.V_reads' HO0.out).2.2 | (with_reducible refine Kd.C_alloc ?_ _) | (with_reducible refine Kd.C_drewN ?_ _) | (with_reducible refine Kd.C_drew ?_))); (case side2 => exact (Kd.V_reads' HO0.out).2.1); rintro e w9 ⟨rfl, hb⟩; refine ⟨_, rfl, ?_⟩; have n0_ := Aside0.mk (Kd.V_below (by (with_reducible repeat (first | apply Kd.V_alloc | apply Kd.V_drewN | apply Kd.V_drew)); exact HO0.out) hb); have n1_ := Aside0.mk (below_step (by repeat (first | (with_reducible first | exact HB.out | apply below_alloc | apply pw_below_drewN | apply below_drew1) | exact HB.out)) hb); clear HO0; clear HB; have HO0 := n0_; have HB := n1_; clear n0_ n1_; (try clear hb); (try clear hb2); (try clear hk); (try clear hi)) | ((with_reducible refine gate_callee (f := 81) rfl ?_); refine goesL_ (some 7) rfl rfl Try.func81 (by kernel_rfl) rfl #[.slice A0 l0.length c0, .int .i64 t269] rfl (by (try simp only [List.map_toArray, List.map_cons, List.map_nil]); first | done | rfl | (simp only [List.length_drop, List.length_take]; rfl)) ?_; (with_reducible refine (slices_Index_int_int.calls k _ _ l0 t269 t270 _ ?side1 ?side2 A3.out).mono ?_); (case side1 => repeat (first | exact (Kd.V_reads' HO0.out).2.2 | (with_reducible refine Kd.C_alloc ?_ _) | (with_reducible refine Kd.C_drewN ?_ _) | (with_reducible refine Kd.C_drew ?_))); (case side2 => exact (Kd.V_reads' HO0.out).2.1); rintro e w' ⟨rfl, ⟨nd, rfl⟩⟩; refine ⟨_, rfl, ?_⟩))
      (try (rw [drewN_self w9]; generalize hq_ : World.drewN w9 _ = w9; have n0_ : Aside0 (Kd.V (Kd.int .i64) 3 w9 w.heap.size (fun k_ => (P0_ k_ ∨ w.heap.size ≤ k_)) (.slice A0 l0.length c0) l0) := ⟨by rw [← hq_]; exact (by (with_reducible repeat (first | apply Kd.V_alloc | apply Kd.V_drewN | apply Kd.V_drew)); exact HO0.out)⟩; have n1_ : Aside0 (Below w.heap.size w w9) := ⟨by rw [← hq_]; exact (by repeat (first | (with_reducible first | exact HB.out | apply below_alloc | apply pw_below_drewN | apply below_drew1) | exact HB.out))⟩; clear HO0 HB hq_; have HO0 := n0_; have HB := n1_; clear n0_ n1_))
      have n0_ := Aside0.mk (Kd.V_drew HO0.out)
      have n1_ := Aside0.mk (below_drew1 HB.out)
      clear HO0
      clear HB
      have HO0 := n0_
      have HB := n1_
      clear n0_ n1_
      have q11 : (t270 : Int) ≤ ((l0.length : Int) : Int) := of_decide_eq_true (by first | (with_reducible assumption) | assumption)
      obtain ⟨i011, hi011, _, hsz11, _⟩ := info_parts info3
      have hroom11 : l0.length ≤ c0 := (Kd.V_reads' HO0.out).2.1
      have hC11 : Kd.F (Kd.int .i64) _ _ A0 l0.length l0 := (Kd.V_at (base := w.heap.size) HO0.out).2.2
      have q011 : (0 : Int) ≤ (t270 : Int) := of_decide_eq_true (by first | (with_reducible assumption) | assumption)
      have hcut11 := cut_from (P := Try.prog) 22 3 .i64 Try.underlying22 hi011 1 hsz11 A0 l0.length c0 t270 q011 q11
      have hr11 := Kd.F_cut (m := (t270 : Int).toNat) (c := c0) hC11 (by omega) hroom11
      obtain ⟨A11, hA11⟩ : ∃ A1, A1 = (if c0 = (t270 : Int).toNat then A0 else (A0 : Option Addr).map (·.add ((t270 : Int).toNat * 1))) := ⟨_, rfl⟩
      obtain ⟨c11, hc11⟩ : ∃ c1, c1 = c0 - (t270 : Int).toNat := ⟨_, rfl⟩
      have hy11 : y271.length = l0.length - (t270 : Int).toNat := (by rw [Ny271.out, List.length_drop] <;> omega)
      rw [show (l0).drop (t270 : Int).toNat = y271 from Ny271.out.symm] at hr11
      replace hr11 : Kd.F (Kd.int .i64) _ _ A11 y271.length y271 := (by rw [hA11]; exact hr11)
      rw [← hy11, ← hA11, ← hc11] at hcut11
      have HO275 := Aside0.mk (show Kd.V (Kd.int .i64) 3 _ w.heap.size _ (.slice A11 y271.length c11) y271 from Kd.V_mk (by rw [hy11, hc11]; exact Nat.sub_le_sub_right hroom11 _) hr11)
      have HC275 := Aside0.mk (show y271.length ≤ c11 from by rw [hy11, hc11]; exact Nat.sub_le_sub_right hroom11 _)
      clear hr11 hC11 hroom11 hi011 hsz11 hc11
      have KY11 := Aside0.mk hy11
      have KA11 := Aside0.mk hA11
      clear hy11 hA11
      replace q11 := eq_true q11
      have q12 : (t270 : Int) ≤ ((l0.length : Int) : Int) := of_decide_eq_true (by first | (with_reducible assumption) | assumption)
      obtain ⟨i012, hi012, _, hsz12, _⟩ := info_parts info3
      have hroom12 : l0.length ≤ c0 := (Kd.V_reads' HO0.out).2.1
      have hC12 : Kd.F (Kd.int .i64) _ _ A0 l0.length l0 := (Kd.V_at (base := w.heap.size) HO0.out).2.2
      have hcut12 := cut_to (P := Try.prog) 22 3 .i64 Try.underlying22 hi012 A0 l0.length c0 t270 (of_decide_eq_true (by first | (with_reducible assumption) | assumption)) q12 hroom12
      have hr12 := Kd.F_take (m := (t270 : Int).toNat) hC12 (by omega)
      have hy12 : y276.length = (t270 : Int).toNat := (by rw [Ny276.out, List.length_take]; omega)
      rw [← Ny276.out] at hr12
      rw [← hy12] at hcut12
      have HO280 := Aside0.mk (show Kd.V (Kd.int .i64) 3 _ w.heap.size _ (.slice A0 y276.length c0) y276 from Kd.V_mk (by omega) hr12)
      have HC280 := Aside0.mk (show y276.length ≤ c0 from by omega)
      clear hr12 hC12 hroom12 hi012 hsz12
      have KY12 := Aside0.mk hy12
      clear hy12
      replace q12 := eq_true q12
      refine start_ (n := 9) (S := fun w' => True) (ds := []) #[false, false, false, false, false, false, false, false, false] (by kernel_rfl) rfl rfl trivial (fun hHeld => ?_); refine with_tabW impl_leastFirst.tab2 impl_leastFirst.bits2 (fun HT_ HW_ => ?_)
      generalize w9.drew = w10 at HO0 HB HO275 HO280 hHeld ⊢
      refine pure_ (i := 0) (N := some 8) (v := ?_) (a' := ?_) #[true, false, false, false, false, false, false, false, false] rfl rfl (any_of HT_.out (by kernel_rfl)) (fun _ _ _ h => h) (Or.inl ⟨by rfl, ?_⟩) ?_ ?_
      rotate_left
      · intro w'
        go_simp
        with_reducible rfl
      rotate_left
      · simp only [Act.put, List.setIfInBounds_toArray, List.set_cons_zero, List.set_cons_succ, i64_w, i32_w]
        rfl
      refine pure_ (i := 1) (N := some 9) (v := ?_) (a' := ?_) #[true, true, false, false, false, false, false, false, false] rfl rfl (any_of HT_.out (by kernel_rfl)) (fun _ _ _ h => h) (Or.inl ⟨by rfl, ?_⟩) ?_ ?_
      rotate_left
      · intro w'
        go_simp
        with_reducible rfl
      rotate_left
      · simp only [Act.put, List.setIfInBounds_toArray, List.set_cons_zero, List.set_cons_succ, i64_w, i32_w]
        rfl
      refine pure_ (i := 2) (N := some 10) (v := ?_) (a' := ?_) #[true, true, true, false, false, false, false, false, false] rfl rfl (any_of HT_.out (by kernel_rfl)) (fun _ _ _ h => h) (Or.inl ⟨by rfl, ?_⟩) ?_ ?_
      rotate_left
      · intro w'
        go_simp
        with_reducible rfl
      rotate_left
      · simp only [Act.put, List.setIfInBounds_toArray, List.set_cons_zero, List.set_cons_succ, i64_w, i32_w]
        rfl
      refine pure_ (i := 3) (N := some 11) (v := ?_) (a' := ?_) #[true, true, true, true, false, false, false, false, false] rfl rfl (any_of HT_.out (by kernel_rfl)) (fun _ _ _ h => h) (Or.inl ⟨by rfl, ?_⟩) ?_ ?_
      rotate_left
      · intro w'
        go_simp
        with_reducible rfl
      rotate_left
      · simp only [Act.put, List.setIfInBounds_toArray, List.set_cons_zero, List.set_cons_succ, i64_w, i32_w]
        rfl
      refine pure_ (i := 4) (N := some 12) (v := ?_) (a' := ?_) #[true, true, true, true, true, false, false, false, false] rfl rfl (any_of HT_.out (by kernel_rfl)) (fun _ _ _ h => h) (Or.inl ⟨by rfl, ?_⟩) ?_ ?_
      rotate_left
      · intro w'
        go_simp
        with_reducible rfl
      rotate_left
      · simp only [Act.put, List.setIfInBounds_toArray, List.set_cons_zero, List.set_cons_succ, i64_w, i32_w]
        rfl
      refine pure_ (i := 5) (N := some 13) (v := ?_) (a' := ?_) #[true, true, true, true, true, true, false, false, false] rfl rfl (any_of HT_.out (by kernel_rfl)) (fun _ _ _ h => h) (Or.inl ⟨by rfl, ?_⟩) ?_ ?_
      rotate_left
      · intro w'
        go_simp
        with_reducible rfl
      rotate_left
      · simp only [Act.put, List.setIfInBounds_toArray, List.set_cons_zero, List.set_cons_succ, i64_w, i32_w]
        rfl
      refine one_ (i := 6) (N := some 14) #[true, true, true, true, true, true, true, false, false] rfl rfl (one_of HT_.out (by kernel_rfl)) (by decide) (fun K hK => ?_)
      refine Kd.N_lit_step (Kd.slice 3 (Kd.int .i64)) _ 22 ?hg (N' := 14) ?hd (xs := ([y271, y276] : List (List Int))) (inner := [.slice A11 y271.length c11, .slice A0 y276.length c0]) (ok := (fun k_ => (P0_ k_ ∨ w.heap.size ≤ k_))) (okp := (fun k_ => (P0_ k_ ∨ w.heap.size ≤ k_))) ?hr ?hp (fun _ hk => hk) ((show ∀ k_, w10.heap.size ≤ k_ → (fun k_ => (P0_ k_ ∨ w.heap.size ≤ k_)) k_ from fun k_ hk => (.inr (Nat.le_trans (below_size (by repeat (first | (with_reducible first | exact HB.out | apply below_alloc | apply pw_below_drewN | apply below_drew1) | exact HB.out))) hk))) _ (Nat.le_refl _)) (Below.refl _ _) (Nat.le_refl _) (by simp) ?_; (case hd => rfl); (case hg => rfl); (case hr => first | (go_simp; done) | (go_simp; rfl)); (case hp => exact (Reps.one (show Kd.FK (Kd.slice 3 (Kd.int .i64)) _ _ y271 [.slice A11 y271.length c11] from (Kd.FK_slice_mk (Kd.V_reads' (Kd.V_mono (ok' := (fun k_ => (P0_ k_ ∨ w.heap.size ≤ k_))) (HO275.out) (fun k_ hk => hk))).2.1 (Kd.V_F (Kd.V_mono (ok' := (fun k_ => (P0_ k_ ∨ w.heap.size ≤ k_))) (HO275.out) (fun k_ hk => hk))))) (Reps.one (show Kd.FK (Kd.slice 3 (Kd.int .i64)) _ _ y276 [.slice A0 y276.length c0] from (Kd.FK_slice_mk (Kd.V_reads' (Kd.V_mono (ok' := (fun k_ => (P0_ k_ ∨ w.heap.size ≤ k_))) (HO280.out) (fun k_ hk => hk))).2.1 (Kd.V_F (Kd.V_mono (ok' := (fun k_ => (P0_ k_ ∨ w.heap.size ≤ k_))) (HO280.out) (fun k_ hk => hk))))) (Reps.none _ _))))
      intro v282 w13 ho14 hb hg_ hnew_
      clear hg_ hnew_
      (first | rw [← Ny281.out] at ho14 | (simp only [Int.reduceToNat] at ho14; rw [← Ny281.out] at ho14))
      have n0_ := Aside0.mk (Kd.V_elder' (by (with_reducible repeat (first | apply Kd.V_alloc | apply Kd.V_drewN | apply Kd.V_drew)); exact HO0.out) (Kd.N_base ho14) hb)
      have n1_ := Aside0.mk (Kd.V_elder' (by (with_reducible repeat (first | apply Kd.V_alloc | apply Kd.V_drewN | apply Kd.V_drew)); exact HO275.out) (Kd.N_base ho14) hb)
      have n2_ := Aside0.mk (Kd.V_elder' (by (with_reducible repeat (first | apply Kd.V_alloc | apply Kd.V_drewN | apply Kd.V_drew)); exact HO280.out) (Kd.N_base ho14) hb)
      have n3_ := Aside0.mk (Kd.N_lower ho14 (below_size (by repeat (first | (with_reducible first | exact HB.out | apply below_alloc | apply pw_below_drewN | apply below_drew1) | exact HB.out))))
      have n4_ := Aside0.mk (below_step (by repeat (first | (with_reducible first | exact HB.out | apply below_alloc | apply pw_below_drewN | apply below_drew1) | exact HB.out)) hb)
      clear HO0
      clear HO275
      clear HO280
      clear HB
      have HO0 := n0_
      have HO275 := n1_
      have HO280 := n2_
      have HO283 := n3_
      have HB := n4_
      clear n0_ n1_ n2_ n3_ n4_
      clear hb ho14
      obtain ⟨Ao15, co15, eo15⟩ := Kd.N_slice HO283.out
      (first | subst eo15 | (injection eo15 with f1_ f2_ f3_; have f4_ := f1_.symm; have f5_ := f3_.symm; clear f1_ f2_ f3_; subst f4_; subst f5_))
      refine hK.out _ _ trivial (fun hHeld => ?_)
      clear hK K
      refine norm_ (a' := ?_) ?_ ?_
      rotate_left
      · show Act.put _ (some 14) _ = _
        simp only [Act.put, List.setIfInBounds_toArray, List.set_cons_zero, List.set_cons_succ, i64_w, i32_w]
        rfl
      refine one_ (i := 7) (N := some 15) #[true, true, true, true, true, true, true, true, false] rfl rfl (one_of HT_.out (by kernel_rfl)) (by decide) (fun K hK => ?_)
      refine goes_ Try.func83 (by kernel_rfl) rfl #[.slice Ao15 y281.length co15] (by rfl) rfl rfl (by (try simp only [List.map_toArray, List.map_cons, List.map_nil]); first | done | rfl | (simp only [List.length_drop, List.length_take]; rfl)) ?_
      with_reducible refine (slices_Concat_int_int.calls k _ _ y281 t284 _ ?side1 ?side2 A8.out).mono ?_
      (case side1 => repeat (first | exact (Kd.N_reads' HO283.out).2.2 | (with_reducible refine Kd.C_alloc ?_ _) | (with_reducible refine Kd.C_drewN ?_ _) | (with_reducible refine Kd.C_drew ?_)))
      (case side2 => exact (Kd.N_reads' HO283.out).2.1)
      rintro e w16 ⟨v285, rfl, ho0, hb⟩
      refine ⟨_, rfl, ?_⟩
      have n0_ := Aside0.mk (Kd.V_elder' (by (with_reducible repeat (first | apply Kd.V_alloc | apply Kd.V_drewN | apply Kd.V_drew)); exact HO0.out) (Kd.R_base ho0) hb)
      have n1_ := Aside0.mk (Kd.V_elder' (by (with_reducible repeat (first | apply Kd.V_alloc | apply Kd.V_drewN | apply Kd.V_drew)); exact HO275.out) (Kd.R_base ho0) hb)
      have n2_ := Aside0.mk (Kd.V_elder' (by (with_reducible repeat (first | apply Kd.V_alloc | apply Kd.V_drewN | apply Kd.V_drew)); exact HO280.out) (Kd.R_base ho0) hb)
      have n3_ := Aside0.mk (Kd.N_elder' (by (with_reducible repeat (first | apply Kd.N_alloc | apply Kd.N_drewN | apply Kd.N_drew)); exact HO283.out) (Kd.R_base ho0) hb)
      have n4_ := Aside0.mk (Kd.R_lower (Kd.R_newM (M := fun k_ => (w.heap.size ≤ k_)) ho0 (below_size (by repeat (first | (with_reducible first | exact HB.out | apply below_alloc | apply pw_below_drewN | apply below_drew1) | exact HB.out))) (fun k_ h_ => h_)) (below_size (by repeat (first | (with_reducible first | exact HB.out | apply below_alloc | apply pw_below_drewN | apply below_drew1) | exact HB.out))))
      have n5_ := Aside0.mk (below_step (by repeat (first | (with_reducible first | exact HB.out | apply below_alloc | apply pw_below_drewN | apply below_drew1) | exact HB.out)) hb)
      clear HO0
      clear HO275
      clear HO280
      clear HO283
      clear HB
      have HO0 := n0_
      have HO275 := n1_
      have HO280 := n2_
      have HO283 := n3_
      have HO286 := n4_
      have HB := n5_
      clear n0_ n1_ n2_ n3_ n4_ n5_
      (try clear hb)
      (try clear hb2)
      (try clear hk)
      (try clear hi)
      (try clear ho0)
      refine hK.out _ _ trivial (fun hHeld => ?_)
      clear hK K
      refine norm_ (a' := ?_) ?_ ?_
      rotate_left
      · show Act.put _ (some 15) _ = _
        simp only [Act.put, List.setIfInBounds_toArray, List.set_cons_zero, List.set_cons_succ, i64_w, i32_w]
        rfl
      refine pure_ (i := 8) (N := some 2) (v := ?_) (a' := ?_) #[true, true, true, true, true, true, true, true, true] rfl rfl (any_of HT_.out (by kernel_rfl)) (fun _ _ _ h => h) (Or.inl ⟨by rfl, ?_⟩) ?_ ?_
      rotate_left
      · intro w'
        go_simp
        with_reducible rfl
      rotate_left
      · simp only [Act.put, List.setIfInBounds_toArray, List.set_cons_zero, List.set_cons_succ, i64_w, i32_w]
        rfl
      refine done_ (done_of HT_.out (by kernel_rfl)) ?_
      try go_wp2
      go_ret
      exact ⟨_, by first | rfl | (simp [errW_none, errW_some] <;> rfl) | (simp [*, errW_none, errW_some] <;> rfl), by (with_reducible repeat (first | apply Kd.R_alloc | apply Kd.R_drewN | apply Kd.R_drew)); exact Kd.R_mono HO286.out (fun _ hk => hk.1), by repeat (first | (with_reducible first | exact HB.out | apply below_alloc | apply pw_below_drewN | apply below_drew1) | exact HB.out)⟩
    · rw [if_neg c5] at H
      exact absurd H (by simp)
  · rw [if_neg c4] at H
    exact absurd H (by simp)
theorem impl_leastFirst.calls (k : Nat) (A0 : Option Addr) (c0 : Nat) (l0 : List Int) (r : List Int) (w : World) (hr0 : Kd.C (Kd.int .i64) w A0 l0.length l0) (hc0 : l0.length ≤ c0) (h : impl_leastFirst.f k l0 = some r) :
    Calls Try.prog 51 #[.slice A0 l0.length c0] w fun e w' => ∃ v0_ : Value, e = .returned (v0_) ∧ Kd.R (Kd.int .i64) 3 w' w.heap.size (fun _ => True) v0_ r ∧ Below w.heap.size w w' := by
  refine (impl_leastFirst.callsV k _ A0 c0 l0 r w (Kd.V_mk hc0 (Kd.C_F (Kd.heap_int _) hr0)) h).mono ?_
  rintro e w' ⟨v, rfl, ho, hb⟩
  exact ⟨v, rfl, Kd.R_mono ho (fun _ _ => trivial), hb⟩

/-! ### impl_CycleOf: function 26 -/
def impl_CycleOf.f (k : Nat) (l0 : List Int) (a1 : Int) : Option ((List (List Int)) × Bool) := (impl_isWord.f l0 a1).bind fun t287 => (if t287 = true then ((impl_worth.f k l0 a1).bind fun t288 => ((impl_sortedRun.f k t288 (l0.length : Int) a1).bind fun bt289 => (if 0 ≤ bt289.2 then (if bt289.2 ≤ (bt289.1.length : Int) then ((impl_leastFirst.f k (bt289.1.drop (bt289.2 : Int).toNat)).bind fun t297 => ((impl_words.f k t297 (l0.length : Int) a1).bind fun t300 => (some (t300, true)))) else (none)) else (none)))) else (some (([] : List (List Int)), false)))
theorem impl_CycleOf.mono : ∀ a0 a1 k, LeO (impl_CycleOf.f k a0 a1) (impl_CycleOf.f (k + 1) a0 a1) := by
  intro a0 a1 k
  unfold impl_CycleOf.f
  repeat' first
      | (with_reducible exact impl_leastFirst.mono _ _)
      | (with_reducible exact impl_sortedRun.mono _ _ _ _)
      | (with_reducible exact impl_words.mono _ _ _ _)
      | (with_reducible exact impl_worth.mono _ _ _)
      | (with_reducible exact LeO.refl _)
      | (with_reducible exact LeO.none _)
      | (with_reducible refine LeO.ite ?_ ?_)
      | (with_reducible refine LeO.bind ?_ (fun _ => ?_))
      | exact impl_leastFirst.mono _ _
      | exact impl_sortedRun.mono _ _ _ _
      | exact impl_words.mono _ _ _ _
      | exact impl_worth.mono _ _ _
      | exact LeO.none _
      | refine LeO.ite ?_ ?_
      | refine LeO.bind ?_ (fun _ => ?_)
set_option maxHeartbeats 8000000 in
set_option maxRecDepth 100000 in
theorem impl_CycleOf.calls (k : Nat) (A0 : Option Addr) (c0 : Nat) (l0 : List Int) (a1 : Int) (r1 : List (List Int)) (r2 : Bool) (w : World) (hr0 : Kd.C (Kd.int .i64) w A0 l0.length l0) (hc0 : l0.length ≤ c0) (h : impl_CycleOf.f k l0 a1 = some (r1, r2)) :
    Calls Try.prog 26 #[.slice A0 l0.length c0, .int .i64 a1] w fun e w' => ∃ v0_ : Value, e = .returned (.tuple #[v0_, .bool r2]) ∧ Kd.S (Kd.slice 3 (Kd.int .i64)) 22 w' w.heap.size (fun _ => True) v0_ r1 ∧ Below w.heap.size w w' := by
  have HR0 := Aside0.mk hr0
  have HC0 := Aside0.mk hc0
  clear hr0 hc0
  have HB := Aside0.mk (Below.refl w.heap.size w)
  have H : ((impl_isWord.f l0 a1).bind fun t287 => (if t287 = true then ((impl_worth.f k l0 a1).bind fun t288 => ((impl_sortedRun.f k t288 (l0.length : Int) a1).bind fun bt289 => (if 0 ≤ bt289.2 then (if bt289.2 ≤ (bt289.1.length : Int) then ((impl_leastFirst.f k (bt289.1.drop (bt289.2 : Int).toNat)).bind fun t297 => ((impl_words.f k t297 (l0.length : Int) a1).bind fun t300 => (some (t300, true)))) else (none)) else (none)))) else (some (([] : List (List Int)), false)))) = some (r1, r2) := h
  clear h
  replace H := Option.bind_eq_some_iff.mp H
  obtain ⟨t287, A30, H⟩ := H
  replace H : (if t287 = true then ((impl_worth.f k l0 a1).bind fun t288 => ((impl_sortedRun.f k t288 (l0.length : Int) a1).bind fun bt289 => (if 0 ≤ bt289.2 then (if bt289.2 ≤ (bt289.1.length : Int) then ((impl_leastFirst.f k (bt289.1.drop (bt289.2 : Int).toNat)).bind fun t297 => ((impl_words.f k t297 (l0.length : Int) a1).bind fun t300 => (some (t300, true)))) else (none)) else (none)))) else (some (([] : List (List Int)), false))) = some (r1, r2) := H
  have A3 := Aside0.mk A30
  clear A30
  by_cases c4 : t287 = true
  · subst c4
    have H1 : ((impl_worth.f k l0 a1).bind fun t288 => ((impl_sortedRun.f k t288 (l0.length : Int) a1).bind fun bt289 => (if 0 ≤ bt289.2 then (if bt289.2 ≤ (bt289.1.length : Int) then ((impl_leastFirst.f k (bt289.1.drop (bt289.2 : Int).toNat)).bind fun t297 => ((impl_words.f k t297 (l0.length : Int) a1).bind fun t300 => (some (t300, true)))) else (none)) else (none)))) = some (r1, r2) := by rw [if_pos rfl] at H; exact H
    clear H
    have H := H1
    clear H1
    replace H := Option.bind_eq_some_iff.mp H
    obtain ⟨t288, A50, H⟩ := H
    replace H : ((impl_sortedRun.f k t288 (l0.length : Int) a1).bind fun bt289 => (if 0 ≤ bt289.2 then (if bt289.2 ≤ (bt289.1.length : Int) then ((impl_leastFirst.f k (bt289.1.drop (bt289.2 : Int).toNat)).bind fun t297 => ((impl_words.f k t297 (l0.length : Int) a1).bind fun t300 => (some (t300, true)))) else (none)) else (none))) = some (r1, r2) := H
    have A5 := Aside0.mk A50
    clear A50
    replace H := Option.bind_eq_some_iff.mp H
    obtain ⟨⟨t289, t290⟩, A60, H⟩ := H
    replace H : (if 0 ≤ t290 then (if t290 ≤ (t289.length : Int) then ((impl_leastFirst.f k (t289.drop (t290 : Int).toNat)).bind fun t297 => ((impl_words.f k t297 (l0.length : Int) a1).bind fun t300 => (some (t300, true)))) else (none)) else (none)) = some (r1, r2) := H
    have A6 := Aside0.mk A60
    clear A60
    by_cases c7 : 0 ≤ t290
    · rw [if_pos c7] at H
      have c7b0 := eq_true c7
      have c7b1 : decide (0 ≤ t290) = true := decide_eq_true c7
      clear c7
      by_cases c8 : t290 ≤ (t289.length : Int)
      · rw [if_pos c8] at H
        have c8b0 := eq_true c8
        have c8b1 : decide (t290 ≤ (t289.length : Int)) = true := decide_eq_true c8
        clear c8
        obtain ⟨y293, hy293⟩ : ∃ y_ : List Int, y_ = (t289.drop (t290 : Int).toNat) := ⟨_, rfl⟩
        replace H : ((impl_leastFirst.f k y293).bind fun t297 => ((impl_words.f k t297 (l0.length : Int) a1).bind fun t300 => (some (t300, true)))) = some (r1, r2) := by first | (rw [hy293]; with_reducible exact H) | (have H2_ := (Option.bind_some _ _).symm.trans H; rw [hy293]; with_reducible exact H2_) | (have H2_ := (Option.bind_some _ _).symm.trans H; with_reducible exact H2_) | with_reducible exact H | (rw [hy293]; exact H) | exact H
        have Ny293 := Aside0.mk hy293
        clear hy293
        replace H := Option.bind_eq_some_iff.mp H
        obtain ⟨t297, A90, H⟩ := H
        replace H : ((impl_words.f k t297 (l0.length : Int) a1).bind fun t300 => (some (t300, true))) = some (r1, r2) := H
        have A9 := Aside0.mk A90
        clear A90
        replace H := Option.bind_eq_some_iff.mp H
        obtain ⟨t300, A100, H⟩ := H
        replace H : (some (t300, true)) = some (r1, r2) := H
        have A10 := Aside0.mk A100
        clear A100
        simp only [Option.some.injEq, Prod.mk.injEq] at H
        obtain ⟨rfl, rfl⟩ := H
        go_enter Try.func26, Try.ntmps26
        go_wp2_with (first | ((with_reducible refine gate_callee (f := 42) rfl ?_); refine goesL_ (some 10) rfl rfl Try.func42 (by kernel_rfl) rfl #[.slice A0 l0.length c0, .int .i64 a1] rfl (by (try simp only [List.map_toArray, List.map_cons, List.map_nil]); first | done | rfl | (simp only [List.length_drop, List.length_take]; rfl)) ?_; (with_reducible refine (impl_isWord.calls _ _ l0 a1 true _ ?side1 ?side2 A3.out).mono ?_); (case side1 => repeat (first | exact HR0.out | (with_reducible refine Kd.C_alloc ?_ _) | (with_reducible refine Kd.C_drewN ?_ _) | (with_reducible refine Kd.C_drew ?_))); (case side2 => exact HC0.out); rintro e w11 ⟨rfl, hb⟩; refine ⟨_, rfl, ?_⟩; have n0_ := Aside0.mk (below_step (by repeat (first | (with_reducible first | exact HB.out | apply below_alloc | apply pw_below_drewN | apply below_drew1) | exact HB.out)) hb); clear HB; have HB := n0_; clear n0_; (try clear hb); (try clear hb2); (try clear hk); (try clear hi)) | ((with_reducible refine gate_callee (f := 48) rfl ?_); refine goesL_ (some 15) rfl rfl Try.func48 (by kernel_rfl) rfl #[.slice A0 l0.length c0, .int .i64 a1] rfl (by (try simp only [List.map_toArray, List.map_cons, List.map_nil]); first | done | rfl | (simp only [List.length_drop, List.length_take]; rfl)) ?_; (with_reducible refine (impl_worth.calls k _ _ l0 a1 t288 _ ?side1 ?side2 A5.out).mono ?_); (case side1 => repeat (first | exact (Kd.C_below HR0.out HB.out) | (with_reducible refine Kd.C_alloc ?_ _) | (with_reducible refine Kd.C_drewN ?_ _) | (with_reducible refine Kd.C_drew ?_))); (case side2 => exact HC0.out); rintro e w' ⟨rfl, ⟨nd, rfl⟩⟩; refine ⟨_, rfl, ?_⟩) | ((with_reducible refine gate_callee (f := 47) rfl ?_); refine goesL_ (some 19) rfl rfl Try.func47 (by kernel_rfl) rfl #[.int .i64 t288, .int .i64 (l0.length : Int), .int .i64 a1] rfl (by (try simp only [List.map_toArray, List.map_cons, List.map_nil]); first | done | rfl | (simp only [List.length_drop, List.length_take]; rfl)) ?_; (with_reducible refine (impl_sortedRun.calls k t288 (l0.length : Int) a1 t289 t290 _ A6.out).mono ?_); rintro e w12 ⟨v291, rfl, ho0, hb⟩; refine ⟨_, rfl, ?_⟩; have n0_ := Aside0.mk (Kd.R_lower ho0 (below_size (by repeat (first | (with_reducible first | exact HB.out | apply below_alloc | apply pw_below_drewN | apply below_drew1) | exact HB.out)))); have n1_ := Aside0.mk (below_step (by repeat (first | (with_reducible first | exact HB.out | apply below_alloc | apply pw_below_drewN | apply below_drew1) | exact HB.out)) hb); clear HB; have HO292 := n0_; have HB := n1_; clear n0_ n1_; (try clear hb); (try clear hb2); (try clear hk); (try clear hi); (try clear ho0); obtain ⟨Ao14, co14, eo14⟩ := Kd.R_slice HO292.out; subst eo14; have q13 : (t290 : Int) ≤ ((t289.length : Int) : Int) := of_decide_eq_true (by first | (with_reducible assumption) | assumption); obtain ⟨i013, hi013, _, hsz13, _⟩ := info_parts info3; have hroom13 : t289.length ≤ co14 := (Kd.R_reads' HO292.out).2.1; have hC13 : Kd.C (Kd.int .i64) _ Ao14 t289.length t289 := (Kd.R_reads' HO292.out).2.2; have q013 : (0 : Int) ≤ (t290 : Int) := of_decide_eq_true (by first | (with_reducible assumption) | assumption); have hcut13 := cut_from (P := Try.prog) 22 3 .i64 Try.underlying22 hi013 1 hsz13 Ao14 t289.length co14 t290 q013 q13; have hr13 := Kd.C_drop (m := (t290 : Int).toNat) (c := co14) hC13 (by omega) hroom13; obtain ⟨A13, hA13⟩ : ∃ A1, A1 = (if co14 = (t290 : Int).toNat then Ao14 else (Ao14 : Option Addr).map (·.add ((t290 : Int).toNat * 1))) := ⟨_, rfl⟩; obtain ⟨c13, hc13⟩ : ∃ c1, c1 = co14 - (t290 : Int).toNat := ⟨_, rfl⟩; have hy13 : y293.length = t289.length - (t290 : Int).toNat := (by rw [Ny293.out, List.length_drop] <;> omega); rw [show (t289).drop (t290 : Int).toNat = y293 from Ny293.out.symm] at hr13; replace hr13 : Kd.C (Kd.int .i64) _ A13 y293.length y293 := (by rw [hA13]; exact hr13); rw [← hy13, ← hA13, ← hc13] at hcut13; have HR296 := Aside0.mk hr13; have HC296 := Aside0.mk (show y293.length ≤ c13 from by rw [hy13, hc13]; exact Nat.sub_le_sub_right hroom13 _); clear hr13 hC13 hroom13 hi013 hsz13 hc13; have KY13 := Aside0.mk hy13; have KA13 := Aside0.mk hA13; clear hy13 hA13; have KL13 := Aside0.mk (show (t290 : Int).toNat ≤ t289.length from by omega); replace q13 := eq_true q13) | ((with_reducible refine gate_callee (f := 51) rfl ?_); refine goesL_ (some 25) rfl rfl Try.func51 (by kernel_rfl) rfl #[.slice A13 y293.length c13] rfl (by (try simp only [List.map_toArray, List.map_cons, List.map_nil]); first | done | rfl | (simp only [List.length_drop, List.length_take]; rfl)) ?_; (with_reducible refine (impl_leastFirst.calls k _ _ y293 t297 _ ?side1 ?side2 A9.out).mono ?_); (case side1 => repeat (first | exact (by repeat (first | (with_reducible exact HR296.out) | (with_reducible refine Kd.C_alloc ?_ _) | (with_reducible refine Kd.C_drewN ?_ _) | (with_reducible refine Kd.C_drew ?_) | exact HR296.out)) | (with_reducible refine Kd.C_alloc ?_ _) | (with_reducible refine Kd.C_drewN ?_ _) | (with_reducible refine Kd.C_drew ?_))); (case side2 => exact HC296.out); rintro e w15 ⟨v298, rfl, ho0, hb⟩; refine ⟨_, rfl, ?_⟩; have n0_ := Aside0.mk (Kd.R_elder' (by (with_reducible repeat (first | apply Kd.R_alloc | apply Kd.R_drewN | apply Kd.R_drew)); exact HO292.out) (Kd.R_base ho0) hb); have n1_ := Aside0.mk (Kd.R_lower (Kd.R_new' ho0 (Kd.R_lt (by (with_reducible repeat (first | apply Kd.R_alloc | apply Kd.R_drewN | apply Kd.R_drew)); exact HO292.out))) (below_size (by repeat (first | (with_reducible first | exact HB.out | apply below_alloc | apply pw_below_drewN | apply below_drew1) | exact HB.out)))); have n2_ := Aside0.mk (Kd.C_below (by repeat (first | (with_reducible exact HR296.out) | (with_reducible refine Kd.C_alloc ?_ _) | (with_reducible refine Kd.C_drewN ?_ _) | (with_reducible refine Kd.C_drew ?_) | exact HR296.out)) hb); have n3_ := Aside0.mk (below_step (by repeat (first | (with_reducible first | exact HB.out | apply below_alloc | apply pw_below_drewN | apply below_drew1) | exact HB.out)) hb); clear HO292; clear HR296; clear HB; have HO292 := n0_; have HO299 := n1_; have HR296 := n2_; have HB := n3_; clear n0_ n1_ n2_ n3_; (try clear hb); (try clear hb2); (try clear hk); (try clear hi); (try clear ho0); obtain ⟨Ao16, co16, eo16⟩ := Kd.R_slice HO299.out; subst eo16) | ((with_reducible refine gate_callee (f := 49) rfl ?_); refine goesL_ (some 29) rfl rfl Try.func49 (by kernel_rfl) rfl #[.slice Ao16 t297.length co16, .int .i64 (l0.length : Int), .int .i64 a1] rfl (by (try simp only [List.map_toArray, List.map_cons, List.map_nil]); first | done | rfl | (simp only [List.length_drop, List.length_take]; rfl)) ?_; (with_reducible refine (impl_words.calls k _ _ t297 (l0.length : Int) a1 t300 _ ?side1 ?side2 A10.out).mono ?_); (case side1 => repeat (first | exact (Kd.R_reads' HO299.out).2.2 | (with_reducible refine Kd.C_alloc ?_ _) | (with_reducible refine Kd.C_drewN ?_ _) | (with_reducible refine Kd.C_drew ?_))); (case side2 => exact (Kd.R_reads' HO299.out).2.1); rintro e w17 ⟨v301, rfl, ho0, hb⟩; refine ⟨_, rfl, ?_⟩; have n0_ := Aside0.mk (Kd.R_below (by (with_reducible repeat (first | apply Kd.R_alloc | apply Kd.R_drewN | apply Kd.R_drew)); exact HO292.out) hb); have n1_ := Aside0.mk (Kd.R_below (by (with_reducible repeat (first | apply Kd.R_alloc | apply Kd.R_drewN | apply Kd.R_drew)); exact HO299.out) hb); have n2_ := Aside0.mk (Kd.S_lower (Kd.S_new' (Kd.S_new' ho0 (Kd.R_lt (by (with_reducible repeat (first | apply Kd.R_alloc | apply Kd.R_drewN | apply Kd.R_drew)); exact HO292.out))) (Kd.R_lt (by (with_reducible repeat (first | apply Kd.R_alloc | apply Kd.R_drewN | apply Kd.R_drew)); exact HO299.out))) (below_size (by repeat (first | (with_reducible first | exact HB.out | apply below_alloc | apply pw_below_drewN | apply below_drew1) | exact HB.out)))); have n3_ := Aside0.mk (Kd.C_below (by repeat (first | (with_reducible exact HR296.out) | (with_reducible refine Kd.C_alloc ?_ _) | (with_reducible refine Kd.C_drewN ?_ _) | (with_reducible refine Kd.C_drew ?_) | exact HR296.out)) hb); have n4_ := Aside0.mk (below_step (by repeat (first | (with_reducible first | exact HB.out | apply below_alloc | apply pw_below_drewN | apply below_drew1) | exact HB.out)) hb); clear HO292; clear HO299; clear HR296; clear HB; have HO292 := n0_; have HO299 := n1_; have HO302 := n2_; have HR296 := n3_; have HB := n4_; clear n0_ n1_ n2_ n3_ n4_; (try clear hb); (try clear hb2); (try clear hk); (try clear hi); (try clear ho0)))
        go_ret2
        exact ⟨_, by first | rfl | (simp [errW_none, errW_some] <;> rfl) | (simp [*, errW_none, errW_some] <;> rfl), by (with_reducible repeat (first | apply Kd.S_alloc | apply Kd.S_drewN | apply Kd.S_drew)); exact Kd.S_mono HO302.out (fun _ hk => trivial), by repeat (first | (with_reducible first | exact HB.out | apply below_alloc | apply pw_below_drewN | apply below_drew1) | exact HB.out)⟩
      · rw [if_neg c8] at H
        exact absurd H (by simp)
    · rw [if_neg c7] at H
      exact absurd H (by simp)
  · replace c4 := Bool.eq_false_iff.mpr c4
    subst c4
    have H1 : (some (([] : List (List Int)), false)) = some (r1, r2) := by rw [if_neg (show ¬ (false = true) by decide)] at H; exact H
    clear H
    have H := H1
    clear H1
    simp only [Option.some.injEq, Prod.mk.injEq] at H
    obtain ⟨rfl, rfl⟩ := H
    go_enter Try.func26, Try.ntmps26
    go_wp2_with (first | ((with_reducible refine gate_callee (f := 42) rfl ?_); refine goesL_ (some 10) rfl rfl Try.func42 (by kernel_rfl) rfl #[.slice A0 l0.length c0, .int .i64 a1] rfl (by (try simp only [List.map_toArray, List.map_cons, List.map_nil]); first | done | rfl | (simp only [List.length_drop, List.length_take]; rfl)) ?_; (with_reducible refine (impl_isWord.calls _ _ l0 a1 false _ ?side1 ?side2 A3.out).mono ?_); (case side1 => repeat (first | exact HR0.out | (with_reducible refine Kd.C_alloc ?_ _) | (with_reducible refine Kd.C_drewN ?_ _) | (with_reducible refine Kd.C_drew ?_))); (case side2 => exact HC0.out); rintro e w18 ⟨rfl, hb⟩; refine ⟨_, rfl, ?_⟩; have n0_ := Aside0.mk (below_step (by repeat (first | (with_reducible first | exact HB.out | apply below_alloc | apply pw_below_drewN | apply below_drew1) | exact HB.out)) hb); clear HB; have HB := n0_; clear n0_; (try clear hb); (try clear hb2); (try clear hk); (try clear hi)))
    go_ret2
    exact ⟨_, by first | rfl | (simp [errW_none, errW_some] <;> rfl) | (simp [*, errW_none, errW_some] <;> rfl), by first | exact Kd.S_nil _ _ _ _ _ | exact Kd.N_nil _ _ _ _ _ | exact Kd.V_nil _ _ _ _ _ | exact Kd.Q_nil _ _ _ _ _ | exact Kd.R_nil _ _ _ _ _, by repeat (first | (with_reducible first | exact HB.out | apply below_alloc | apply pw_below_drewN | apply below_drew1) | exact HB.out)⟩

/-! ### laws_FnExactCycleOf: function 6 -/
/-- THE ONE PURE STATEMENT of laws_FnExactCycleOf. -/
def laws_FnExactCycleOf.Pure : Prop := ∀ (l0 : List Int) (a1 : Int), l0.length ≤ maxLen → l0.length * 8 ≤ 140737488351232 → (∀ x ∈ l0, (Lit.int .i64 x).wf = true) → (Lit.int .i64 a1).wf = true → ¬ (l0.length : Int) > 1048576 → ∃ (k : Nat) (rows : List (List Int)) (ok_ : Bool), laws_toIntS.f k l0 = some l0 ∧ spec_CycleOf.f k l0 a1 = some (rows, ok_) ∧ impl_CycleOf.f k l0 a1 = some (rows, ok_) ∧ laws_eqIntSS.f k rows rows = some true ∧ laws_eqIntS.f k l0 l0 = some true ∧ laws_markIntS.f k l0 1 = some (1 + (l0.length : Int), laws_markIntSS.cnt 1 l0.length) ∧ laws_heldIntSS.f k (laws_markIntSS.mks rows 1) 1 = some (1 + ((laws_markIntSS.tot rows : Nat) : Int)) ∧ 1 + ((laws_markIntSS.tot rows : Nat) : Int) ≤ 4611686018427387904 ∧ rows.length ≤ 4611686018427387904
set_option maxHeartbeats 8000000 in
set_option maxRecDepth 100000 in
theorem laws_FnExactCycleOf.walk (P : laws_FnExactCycleOf.Pure) (a0 : Option Addr) (len0 cap0 : Nat) (z0 : List Int) (a1 : Int) (w : World) (w0 : (a0 = none ∧ len0 = 0 ∧ cap0 = 0 ∧ z0 = []) ∨ ∃ x, a0 = some x ∧ len0 ≤ cap0 ∧ cap0 ≤ maxLen ∧ z0.length = cap0 ∧ (∀ i, i < z0.length → w.cell? (x.add i) = some (.int .i64 (z0.getD i 0))) ∧ ∀ n ∈ z0, (Lit.int .i64 n).wf = true) (y0 : len0 * 8 ≤ 140737488351232) (w1 : (Lit.int .i64 a1).wf = true) :
    Calls Try.prog 6 #[.slice a0 len0 cap0, .int .i64 a1] w fun e w' => e = .returned (.bool true) ∧ Below w.heap.size w w' := by
  obtain ⟨l0, rfl, hr0, hm0, hw0, hc0⟩ := ReadsInt.ofRowC w0
  have HR0 := Aside0.mk (show Kd.C (Kd.int .i64) w a0 l0.length l0 from Kd.C_of_reads (d := (0 : Int)) (h1 := fun _ => rfl) hr0)
  have HC0 := Aside0.mk hc0
  have HB := Aside0.mk (Below.refl w.heap.size w)
  by_cases c3 : (l0.length : Int) > 1048576
  · have c3b0 : decide (1048576 < (l0.length : Int)) = true := decide_eq_true c3
    have c3b1 : decide (1048576 < l0.length) = true := decide_eq_true (by omega)
    clear c3 hr0 hc0 hm0 hw0 y0 P w1
    go_enter Try.func6, Try.ntmps6
    go_wp2
    go_ret
    exact ⟨rfl, (by repeat (first | (with_reducible first | exact HB.out | apply below_alloc | apply pw_below_drewN | apply below_drew1) | exact HB.out))⟩
  · obtain ⟨k, rows, ok_, hHT, hHS, hHI, hHE, hHEL, hHML, hHHE, hHTO, hHTL⟩ := P l0 a1 hm0 y0 hw0 w1 c3
    have c3b0 : decide (1048576 < (l0.length : Int)) = false := decide_eq_false c3
    have c3b1 : decide (1048576 < l0.length) = false := decide_eq_false (by omega)
    clear c3 hr0 hc0 hm0 hw0 y0 P w1
    obtain ⟨A0, hA0⟩ : ∃ A_, A_ = a0 := ⟨_, rfl⟩
    obtain ⟨c0, hc0⟩ : ∃ c_, c_ = cap0 := ⟨_, rfl⟩
    subst hA0 hc0
    have HT := Aside0.mk hHT
    have HS := Aside0.mk hHS
    have HI := Aside0.mk hHI
    have HE := Aside0.mk hHE
    have HEL := Aside0.mk hHEL
    have HML := Aside0.mk hHML
    have HHE := Aside0.mk hHHE
    have HTO := Aside0.mk hHTO
    have HTL := Aside0.mk hHTL
    clear hHT hHS hHI hHE hHEL hHML hHHE hHTO hHTL
    have HON : Aside0 ((0 : Int) ≤ 1) := ⟨by decide⟩
    have HTG : Aside0 (0 ≤ 1 + ((laws_markIntSS.tot rows : Nat) : Int)) := ⟨by omega⟩
    obtain ⟨tt, htt⟩ : ∃ t_ : Int, t_ = 1 + ((laws_markIntSS.tot rows : Nat) : Int) := ⟨_, rfl⟩
    have q1 : decide (tt < 0) = false := decide_eq_false (by have := HTG.out; omega)
    have q2 : (tt != tt) = false := bne_self_eq_false tt
    have q3 : (ok_ != ok_) = false := bne_self_eq_false ok_
    have q4 : decide (1 + (l0.length : Int) < 0) = false := decide_eq_false (by omega)
    have HTT := Aside0.mk htt
    clear htt
    have HHE2 : Aside0 (laws_heldIntSS.f k (laws_markIntSS.mks rows 1) 1 = some tt) := ⟨by rw [HTT.out]; exact HHE.out⟩
    have HLM : Aside0 ((laws_markIntSS.mks rows 1).length = rows.length) := ⟨laws_markIntSS.mks_length rows 1⟩
    have HHC : Aside0 (∀ (A_ : Option Addr) (c_ : Nat) (W_ : World), Kd.C (Kd.slice 3 (Kd.int .i64)) W_ A_ rows.length (laws_markIntSS.mks rows 1) → rows.length ≤ c_ → Calls Try.prog 24 #[.slice A_ rows.length c_, .int .i64 1] W_ fun e w' => e = .returned (.int .i64 tt) ∧ Drawn0 W_ w') := ⟨by intro A_ c_ W_ h1_ h2_; have h_ := laws_heldIntSS.calls k A_ c_ (laws_markIntSS.mks rows 1) 1 tt W_ (by rw [HLM.out]; exact h1_) (by rw [HLM.out]; exact h2_) HHE2.out; rw [HLM.out] at h_; exact h_⟩
    go_enter Try.func6, Try.ntmps6
    go_wp2_with (first | ((with_reducible refine gate_callee (f := 13) rfl ?_); refine goesL_ (some 20) rfl rfl Try.func13 (by kernel_rfl) rfl #[.slice A0 l0.length c0] rfl (by (try simp only [List.map_toArray, List.map_cons, List.map_nil]); first | done | rfl) ?_; (with_reducible refine (laws_toIntS.calls k _ _ l0 l0 _ ?side1 ?side2 HT.out).mono ?_); (case side1 => repeat (first | exact (Kd.C_below HR0.out HB.out) | (with_reducible refine Kd.C_alloc ?_ _) | (with_reducible refine Kd.C_drewN ?_ _) | (with_reducible refine Kd.C_drew ?_))); (case side2 => exact HC0.out); rintro e wq1 ⟨v_, rfl, ho, hb⟩; refine ⟨_, rfl, ?_⟩; have hl_ := below_size (by repeat (first | (with_reducible first | exact HB.out | apply below_alloc | apply pw_below_drewN | apply below_drew1) | exact HB.out)); have HX1 := Aside0.mk (Kd.R_lower ho hl_); have n0_ := Aside0.mk (below_step (by repeat (first | (with_reducible first | exact HB.out | apply below_alloc | apply pw_below_drewN | apply below_drew1) | exact HB.out)) hb); clear HB; have HB := n0_; clear n0_; clear ho hb hl_; obtain ⟨AX1, cX1, eX1⟩ := Kd.R_slice HX1.out; subst eX1) | ((with_reducible refine gate_callee (f := 25) rfl ?_); refine goesL_ (some 22) rfl rfl Try.func25 (by kernel_rfl) rfl #[.slice AX1 l0.length cX1, .int .i64 a1] rfl (by (try simp only [List.map_toArray, List.map_cons, List.map_nil]); first | done | rfl) ?_; (with_reducible refine (spec_CycleOf.calls k _ _ l0 a1 rows ok_ _ ?side1 ?side2 HS.out).mono ?_); (case side1 => repeat (first | exact (Kd.R_reads' HX1.out).2.2 | (with_reducible refine Kd.C_alloc ?_ _) | (with_reducible refine Kd.C_drewN ?_ _) | (with_reducible refine Kd.C_drew ?_))); (case side2 => exact (Kd.R_reads' HX1.out).2.1); rintro e wq2 ⟨v_, rfl, ho, hb⟩; refine ⟨_, rfl, ?_⟩; replace ho := Kd.N_V (base' := 0) ho; obtain ⟨AW, cW, eW⟩ := Kd.V_slice ho; subst eW; obtain ⟨n2, hn2⟩ : ∃ n_, n_ = wq2.heap.size := ⟨_, rfl⟩; have HN2 := Aside0.mk hn2; have HF := Aside0.mk (Kd.F_mono (Kd.F_bound (Kd.V_F ho)) (ok' := (fun k_ => k_ < n2)) (fun k_ hk_ => by rw [HN2.out]; exact hk_.2)); have HCW := Aside0.mk (Kd.V_reads' ho).2.1; have n0_ := Aside0.mk (below_step (by repeat (first | (with_reducible first | exact HB.out | apply below_alloc | apply pw_below_drewN | apply below_drew1) | exact HB.out)) hb); clear HX1; clear HB; have HB := n0_; clear n0_; clear ho hb hn2) | ((with_reducible refine gate_callee (f := 13) rfl ?_); refine goesL_ (some 26) rfl rfl Try.func13 (by kernel_rfl) rfl #[.slice A0 l0.length c0] rfl (by (try simp only [List.map_toArray, List.map_cons, List.map_nil]); first | done | rfl) ?_; (with_reducible refine (laws_toIntS.calls k _ _ l0 l0 _ ?side1 ?side2 HT.out).mono ?_); (case side1 => repeat (first | exact (Kd.C_below HR0.out HB.out) | (with_reducible refine Kd.C_alloc ?_ _) | (with_reducible refine Kd.C_drewN ?_ _) | (with_reducible refine Kd.C_drew ?_))); (case side2 => exact HC0.out); rintro e wq3 ⟨v_, rfl, ho, hb⟩; refine ⟨_, rfl, ?_⟩; obtain ⟨n3, hn3⟩ : ∃ n_, n_ = wq3.heap.size := ⟨_, rfl⟩; have HN3 := Aside0.mk hn3; have HN23 : Aside0 (n2 ≤ n3) := ⟨by rw [HN2.out, HN3.out]; exact Nat.le_trans (by first | exact Nat.le_refl _ | simp) hb.size⟩; have hl_ := below_size (by repeat (first | (with_reducible first | exact HB.out | apply below_alloc | apply pw_below_drewN | apply below_drew1) | exact HB.out)); have HX2 := Aside0.mk (Kd.R_lower (Kd.R_mono (Kd.R_bound ho) (ok' := (fun k_ => n2 ≤ k_ ∧ k_ < n3)) (fun k_ hk_ => ⟨Nat.le_trans (by rw [HN2.out]; first | exact Nat.le_refl _ | simp) hk_.2.1, by rw [hn3]; exact hk_.2.2.1⟩)) hl_); have n0_ := Aside0.mk (Kd.F_below (by (with_reducible repeat (first | apply Kd.F_alloc | apply Kd.F_drewN | apply Kd.F_drew)); exact HF.out) hb); have n1_ := Aside0.mk (below_step (by repeat (first | (with_reducible first | exact HB.out | apply below_alloc | apply pw_below_drewN | apply below_drew1) | exact HB.out)) hb); clear HF; clear HB; have HF := n0_; have HB := n1_; clear n0_ n1_; clear ho hb hl_ hn3; obtain ⟨AX2, cX2, eX2⟩ := Kd.R_slice HX2.out; subst eX2) | ((with_reducible refine gate_callee (f := 26) rfl ?_); refine goesL_ (some 30) rfl rfl Try.func26 (by kernel_rfl) rfl #[.slice AX2 l0.length cX2, .int .i64 a1] rfl (by (try simp only [List.map_toArray, List.map_cons, List.map_nil]); first | done | rfl) ?_; (with_reducible refine (impl_CycleOf.calls k _ _ l0 a1 rows ok_ _ ?side1 ?side2 HI.out).mono ?_); (case side1 => repeat (first | exact (Kd.R_reads' HX2.out).2.2 | (with_reducible refine Kd.C_alloc ?_ _) | (with_reducible refine Kd.C_drewN ?_ _) | (with_reducible refine Kd.C_drew ?_))); (case side2 => exact (Kd.R_reads' HX2.out).2.1); rintro e wq4 ⟨v_, rfl, ho, hb⟩; refine ⟨_, rfl, ?_⟩; obtain ⟨n4, hn4⟩ : ∃ n_, n_ = wq4.heap.size := ⟨_, rfl⟩; have HG := Aside0.mk (Kd.S_lower (Kd.S_mono (Kd.S_bound ho) (ok' := (fun k_ => n3 ≤ k_ ∧ k_ < n4)) (fun k_ hk_ => ⟨Nat.le_trans (by rw [HN3.out]; first | exact Nat.le_refl _ | simp) hk_.2.1, by rw [hn4]; exact hk_.2.2.1⟩)) (below_size (by repeat (first | (with_reducible first | exact HB.out | apply below_alloc | apply pw_below_drewN | apply below_drew1) | exact HB.out)))); have n0_ := Aside0.mk (Kd.F_below (by (with_reducible repeat (first | apply Kd.F_alloc | apply Kd.F_drewN | apply Kd.F_drew)); exact HF.out) hb); have n1_ := Aside0.mk (Kd.R_below (by (with_reducible repeat (first | apply Kd.R_alloc | apply Kd.R_drewN | apply Kd.R_drew)); exact HX2.out) hb); have n2_ := Aside0.mk (below_step (by repeat (first | (with_reducible first | exact HB.out | apply below_alloc | apply pw_below_drewN | apply below_drew1) | exact HB.out)) hb); clear HF; clear HX2; clear HB; have HF := n0_; have HX2 := n1_; have HB := n2_; clear n0_ n1_ n2_; clear ho hb hn4; obtain ⟨AG, cG, eG⟩ := Kd.S_slice HG.out; subst eG) | ((with_reducible refine gate_callee (f := 22) rfl ?_); refine goesL_ (some 35) rfl rfl Try.func22 (by kernel_rfl) rfl #[.slice AG rows.length cG, .slice AW rows.length cW] rfl (by (try simp only [List.map_toArray, List.map_cons, List.map_nil]); first | done | rfl) ?_; (with_reducible refine (laws_eqIntSS.calls k _ _ rows _ _ rows true _ ?side1 ?side2 ?side3 ?side4 HE.out).mono ?_); (case side1 => repeat (first | exact (Kd.S_reads' HG.out).2.2 | (with_reducible refine Kd.C_alloc ?_ _) | (with_reducible refine Kd.C_drewN ?_ _) | (with_reducible refine Kd.C_drew ?_))); (case side2 => exact (Kd.S_reads' HG.out).2.1); (case side3 => repeat (first | exact (Kd.F_now HF.out) | (with_reducible refine Kd.C_alloc ?_ _) | (with_reducible refine Kd.C_drewN ?_ _) | (with_reducible refine Kd.C_drew ?_))); (case side4 => exact HCW.out); rintro e wq5 ⟨rfl, hd⟩; refine ⟨_, rfl, ?_⟩; have hb := hd.below; clear hd; have n0_ := Aside0.mk (Kd.F_below (by (with_reducible repeat (first | apply Kd.F_alloc | apply Kd.F_drewN | apply Kd.F_drew)); exact HF.out) hb); have n1_ := Aside0.mk (Kd.R_below (by (with_reducible repeat (first | apply Kd.R_alloc | apply Kd.R_drewN | apply Kd.R_drew)); exact HX2.out) hb); have n2_ := Aside0.mk (Kd.S_below (by (with_reducible repeat (first | apply Kd.S_alloc | apply Kd.S_drewN | apply Kd.S_drew)); exact HG.out) hb); have n3_ := Aside0.mk (below_step (by repeat (first | (with_reducible first | exact HB.out | apply below_alloc | apply pw_below_drewN | apply below_drew1) | exact HB.out)) hb); clear HF; clear HX2; clear HG; clear HB; have HF := n0_; have HX2 := n1_; have HG := n2_; have HB := n3_; clear n0_ n1_ n2_ n3_; clear hb) | ((with_reducible refine gate_callee (f := 13) rfl ?_); refine goesL_ (some 44) rfl rfl Try.func13 (by kernel_rfl) rfl #[.slice A0 l0.length c0] rfl (by (try simp only [List.map_toArray, List.map_cons, List.map_nil]); first | done | rfl) ?_; (with_reducible refine (laws_toIntS.calls k _ _ l0 l0 _ ?side1 ?side2 HT.out).mono ?_); (case side1 => repeat (first | exact (Kd.C_below HR0.out HB.out) | (with_reducible refine Kd.C_alloc ?_ _) | (with_reducible refine Kd.C_drewN ?_ _) | (with_reducible refine Kd.C_drew ?_))); (case side2 => exact HC0.out); rintro e wq6 ⟨v_, rfl, ho, hb⟩; refine ⟨_, rfl, ?_⟩; have hl_ := below_size (by repeat (first | (with_reducible first | exact HB.out | apply below_alloc | apply pw_below_drewN | apply below_drew1) | exact HB.out)); have HX3 := Aside0.mk (Kd.R_lower ho hl_); have n0_ := Aside0.mk (Kd.F_below (by (with_reducible repeat (first | apply Kd.F_alloc | apply Kd.F_drewN | apply Kd.F_drew)); exact HF.out) hb); have n1_ := Aside0.mk (Kd.R_below (by (with_reducible repeat (first | apply Kd.R_alloc | apply Kd.R_drewN | apply Kd.R_drew)); exact HX2.out) hb); have n2_ := Aside0.mk (Kd.S_below (by (with_reducible repeat (first | apply Kd.S_alloc | apply Kd.S_drewN | apply Kd.S_drew)); exact HG.out) hb); have n3_ := Aside0.mk (below_step (by repeat (first | (with_reducible first | exact HB.out | apply below_alloc | apply pw_below_drewN | apply below_drew1) | exact HB.out)) hb); clear HF; clear HX2; clear HG; clear HB; have HF := n0_; have HX2 := n1_; have HG := n2_; have HB := n3_; clear n0_ n1_ n2_ n3_; clear ho hb hl_; obtain ⟨AX3, cX3, eX3⟩ := Kd.R_slice HX3.out; subst eX3) | ((with_reducible refine gate_callee (f := 15) rfl ?_); refine goesL_ (some 45) rfl rfl Try.func15 (by kernel_rfl) rfl #[.slice AX2 l0.length cX2, .slice AX3 l0.length cX3] rfl (by (try simp only [List.map_toArray, List.map_cons, List.map_nil]); first | done | rfl) ?_; (with_reducible refine (laws_eqIntS.calls k _ _ l0 _ _ l0 true _ ?side1 ?side2 ?side3 ?side4 HEL.out).mono ?_); (case side1 => repeat (first | exact (Kd.R_reads' HX2.out).2.2 | (with_reducible refine Kd.C_alloc ?_ _) | (with_reducible refine Kd.C_drewN ?_ _) | (with_reducible refine Kd.C_drew ?_))); (case side2 => exact (Kd.R_reads' HX2.out).2.1); (case side3 => repeat (first | exact (Kd.R_reads' HX3.out).2.2 | (with_reducible refine Kd.C_alloc ?_ _) | (with_reducible refine Kd.C_drewN ?_ _) | (with_reducible refine Kd.C_drew ?_))); (case side4 => exact (Kd.R_reads' HX3.out).2.1); rintro e wq7 ⟨rfl, hd⟩; refine ⟨_, rfl, ?_⟩; have hb := hd.below; clear hd; have n0_ := Aside0.mk (Kd.F_below (by (with_reducible repeat (first | apply Kd.F_alloc | apply Kd.F_drewN | apply Kd.F_drew)); exact HF.out) hb); have n1_ := Aside0.mk (Kd.R_below (by (with_reducible repeat (first | apply Kd.R_alloc | apply Kd.R_drewN | apply Kd.R_drew)); exact HX2.out) hb); have n2_ := Aside0.mk (Kd.S_below (by (with_reducible repeat (first | apply Kd.S_alloc | apply Kd.S_drewN | apply Kd.S_drew)); exact HG.out) hb); have n3_ := Aside0.mk (below_step (by repeat (first | (with_reducible first | exact HB.out | apply below_alloc | apply pw_below_drewN | apply below_drew1) | exact HB.out)) hb); clear HX3; clear HF; clear HX2; clear HG; clear HB; have HF := n0_; have HX2 := n1_; have HG := n2_; have HB := n3_; clear n0_ n1_ n2_ n3_; clear hb) | ((with_reducible refine gate_callee (f := 16) rfl ?_); refine goesL_ (some 49) rfl rfl Try.func16 (by kernel_rfl) rfl #[.slice AX2 l0.length cX2, .int .i64 1] rfl (by (try simp only [List.map_toArray, List.map_cons, List.map_nil]); first | done | rfl) ?_; (with_reducible refine (laws_markIntS.calls k (fun k_ => n2 ≤ k_ ∧ k_ < n3) _ l0 1 _ _ w _ ?side1 ?side2 HML.out).mono ?_); (case side1 => exact (by repeat (first | (with_reducible first | exact HB.out | apply below_alloc | apply pw_below_drewN | apply below_drew1) | exact HB.out))); (case side2 => exact (by (with_reducible repeat (first | apply Kd.R_alloc | apply Kd.R_drewN | apply Kd.R_drew)); exact HX2.out)); rintro e wq8 ⟨rfl, hr, hb2, hk⟩; refine ⟨_, rfl, ?_⟩; have n0_ := Aside0.mk (Kd.F_kept (by (with_reducible repeat (first | apply Kd.F_alloc | apply Kd.F_drewN | apply Kd.F_drew)); exact HF.out) hk (fun k_ hk_ hs_ => by have := HN23.out; omega)); have n1_ := Aside0.mk (Kd.S_kept (by (with_reducible repeat (first | apply Kd.S_alloc | apply Kd.S_drewN | apply Kd.S_drew)); exact HG.out) hk (fun k_ hk_ hs_ => by have := HN23.out; omega)); have n2_ := Aside0.mk (hb2); clear HX2; clear HF; clear HG; clear HB; have HF := n0_; have HG := n1_; have HB := n2_; clear n0_ n1_ n2_; clear hb2 hk hr) | (go_at_call 22; (with_reducible refine (laws_eqIntSS.calls k _ _ rows _ _ rows true _ ?side1 ?side2 ?side3 ?side4 HE.out).mono ?_); (case side1 => repeat (first | exact (Kd.S_reads' HG.out).2.2 | (with_reducible refine Kd.C_alloc ?_ _) | (with_reducible refine Kd.C_drewN ?_ _) | (with_reducible refine Kd.C_drew ?_))); (case side2 => exact (Kd.S_reads' HG.out).2.1); (case side3 => repeat (first | exact (Kd.F_now HF.out) | (with_reducible refine Kd.C_alloc ?_ _) | (with_reducible refine Kd.C_drewN ?_ _) | (with_reducible refine Kd.C_drew ?_))); (case side4 => exact HCW.out); rintro e wq9 ⟨rfl, hd⟩; have hb := hd.below; clear hd; have n0_ := Aside0.mk (Kd.F_below (by (with_reducible repeat (first | apply Kd.F_alloc | apply Kd.F_drewN | apply Kd.F_drew)); exact HF.out) hb); have n1_ := Aside0.mk (Kd.S_below (by (with_reducible repeat (first | apply Kd.S_alloc | apply Kd.S_drewN | apply Kd.S_drew)); exact HG.out) hb); have n2_ := Aside0.mk (below_step (by repeat (first | (with_reducible first | exact HB.out | apply below_alloc | apply pw_below_drewN | apply below_drew1) | exact HB.out)) hb); clear HF; clear HG; clear HB; have HF := n0_; have HG := n1_; have HB := n2_; clear n0_ n1_ n2_; clear hb) | ((with_reducible refine gate_callee (f := 23) rfl ?_); refine goesL_ (some 65) rfl rfl Try.func23 (by kernel_rfl) rfl #[.slice AG rows.length cG, .int .i64 1] rfl (by (try simp only [List.map_toArray, List.map_cons, List.map_nil]); first | done | rfl) ?_; (with_reducible refine (laws_markIntSS.calls (fun k_ => n3 ≤ k_ ∧ k_ < n4) _ rows 1 w _ ?side1 ?side2 HON.out HTO.out HTL.out).mono ?_); (case side1 => exact (by repeat (first | (with_reducible first | exact HB.out | apply below_alloc | apply pw_below_drewN | apply below_drew1) | exact HB.out))); (case side2 => exact (by (with_reducible repeat (first | apply Kd.S_alloc | apply Kd.S_drewN | apply Kd.S_drew)); exact HG.out)); rintro e wq10 ⟨he_, hr, hb2, hk⟩; rw [← HTT.out] at he_; subst he_; refine ⟨_, rfl, ?_⟩; have n0_ := Aside0.mk (Kd.F_kept (by (with_reducible repeat (first | apply Kd.F_alloc | apply Kd.F_drewN | apply Kd.F_drew)); exact HF.out) hk (fun k_ hk_ hs_ => by have := HN23.out; omega)); have n1_ := Aside0.mk (hb2); clear HF; clear HB; have HF := n0_; have HB := n1_; clear n0_ n1_; clear HG; have HG := Aside0.mk hr; clear hb2 hk hr) | ((with_reducible refine gate_callee (f := 24) rfl ?_); refine goesL_ (some 68) rfl rfl Try.func24 (by kernel_rfl) rfl #[.slice AG rows.length cG, .int .i64 1] rfl (by (try simp only [List.map_toArray, List.map_cons, List.map_nil]); first | done | rfl) ?_; (with_reducible refine (HHC.out _ _ _ ?side1 ?side2).mono ?_); (case side1 => repeat (first | exact (by have h_ := (Kd.S_reads' HG.out).2.2; rw [HLM.out] at h_; exact h_) | (with_reducible refine Kd.C_alloc ?_ _) | (with_reducible refine Kd.C_drewN ?_ _) | (with_reducible refine Kd.C_drew ?_))); (case side2 => exact (Kd.S_reads' HG.out).2.1); rintro e wq11 ⟨rfl, hd⟩; refine ⟨_, rfl, ?_⟩; have hb := hd.below; clear hd; have n0_ := Aside0.mk (Kd.F_below (by (with_reducible repeat (first | apply Kd.F_alloc | apply Kd.F_drewN | apply Kd.F_drew)); exact HF.out) hb); have n1_ := Aside0.mk (Kd.S_below (by (with_reducible repeat (first | apply Kd.S_alloc | apply Kd.S_drewN | apply Kd.S_drew)); exact HG.out) hb); have n2_ := Aside0.mk (below_step (by repeat (first | (with_reducible first | exact HB.out | apply below_alloc | apply pw_below_drewN | apply below_drew1) | exact HB.out)) hb); clear HF; clear HG; clear HB; have HF := n0_; have HG := n1_; have HB := n2_; clear n0_ n1_ n2_; clear hb) | ((with_reducible refine gate_callee (f := 13) rfl ?_); refine goesL_ (some 76) rfl rfl Try.func13 (by kernel_rfl) rfl #[.slice A0 l0.length c0] rfl (by (try simp only [List.map_toArray, List.map_cons, List.map_nil]); first | done | rfl) ?_; (with_reducible refine (laws_toIntS.calls k _ _ l0 l0 _ ?side1 ?side2 HT.out).mono ?_); (case side1 => repeat (first | exact (Kd.C_below HR0.out HB.out) | (with_reducible refine Kd.C_alloc ?_ _) | (with_reducible refine Kd.C_drewN ?_ _) | (with_reducible refine Kd.C_drew ?_))); (case side2 => exact HC0.out); rintro e wq12 ⟨v_, rfl, ho, hb⟩; refine ⟨_, rfl, ?_⟩; have hl_ := below_size (by repeat (first | (with_reducible first | exact HB.out | apply below_alloc | apply pw_below_drewN | apply below_drew1) | exact HB.out)); have HX4 := Aside0.mk (Kd.R_lower ho hl_); have n0_ := Aside0.mk (Kd.F_below (by (with_reducible repeat (first | apply Kd.F_alloc | apply Kd.F_drewN | apply Kd.F_drew)); exact HF.out) hb); have n1_ := Aside0.mk (Kd.S_below (by (with_reducible repeat (first | apply Kd.S_alloc | apply Kd.S_drewN | apply Kd.S_drew)); exact HG.out) hb); have n2_ := Aside0.mk (below_step (by repeat (first | (with_reducible first | exact HB.out | apply below_alloc | apply pw_below_drewN | apply below_drew1) | exact HB.out)) hb); clear HF; clear HG; clear HB; have HF := n0_; have HG := n1_; have HB := n2_; clear n0_ n1_ n2_; clear ho hb hl_; obtain ⟨AX4, cX4, eX4⟩ := Kd.R_slice HX4.out; subst eX4) | ((with_reducible refine gate_callee (f := 26) rfl ?_); refine goesL_ (some 78) rfl rfl Try.func26 (by kernel_rfl) rfl #[.slice AX4 l0.length cX4, .int .i64 a1] rfl (by (try simp only [List.map_toArray, List.map_cons, List.map_nil]); first | done | rfl) ?_; (with_reducible refine (impl_CycleOf.calls k _ _ l0 a1 rows ok_ _ ?side1 ?side2 HI.out).mono ?_); (case side1 => repeat (first | exact (Kd.R_reads' HX4.out).2.2 | (with_reducible refine Kd.C_alloc ?_ _) | (with_reducible refine Kd.C_drewN ?_ _) | (with_reducible refine Kd.C_drew ?_))); (case side2 => exact (Kd.R_reads' HX4.out).2.1); rintro e wq13 ⟨v_, rfl, ho, hb⟩; refine ⟨_, rfl, ?_⟩; have HH := Aside0.mk (Kd.S_lower ho (below_size (by repeat (first | (with_reducible first | exact HB.out | apply below_alloc | apply pw_below_drewN | apply below_drew1) | exact HB.out)))); have n0_ := Aside0.mk (Kd.F_below (by (with_reducible repeat (first | apply Kd.F_alloc | apply Kd.F_drewN | apply Kd.F_drew)); exact HF.out) hb); have n1_ := Aside0.mk (Kd.S_below (by (with_reducible repeat (first | apply Kd.S_alloc | apply Kd.S_drewN | apply Kd.S_drew)); exact HG.out) hb); have n2_ := Aside0.mk (below_step (by repeat (first | (with_reducible first | exact HB.out | apply below_alloc | apply pw_below_drewN | apply below_drew1) | exact HB.out)) hb); clear HX4; clear HF; clear HG; clear HB; have HF := n0_; have HG := n1_; have HB := n2_; clear n0_ n1_ n2_; clear ho hb; obtain ⟨AH, cH, eH⟩ := Kd.S_slice HH.out; subst eH) | ((with_reducible refine gate_callee (f := 22) rfl ?_); refine goesL_ (some 83) rfl rfl Try.func22 (by kernel_rfl) rfl #[.slice AH rows.length cH, .slice AW rows.length cW] rfl (by (try simp only [List.map_toArray, List.map_cons, List.map_nil]); first | done | rfl) ?_; (with_reducible refine (laws_eqIntSS.calls k _ _ rows _ _ rows true _ ?side1 ?side2 ?side3 ?side4 HE.out).mono ?_); (case side1 => repeat (first | exact (Kd.S_reads' HH.out).2.2 | (with_reducible refine Kd.C_alloc ?_ _) | (with_reducible refine Kd.C_drewN ?_ _) | (with_reducible refine Kd.C_drew ?_))); (case side2 => exact (Kd.S_reads' HH.out).2.1); (case side3 => repeat (first | exact (Kd.F_now HF.out) | (with_reducible refine Kd.C_alloc ?_ _) | (with_reducible refine Kd.C_drewN ?_ _) | (with_reducible refine Kd.C_drew ?_))); (case side4 => exact HCW.out); rintro e wq14 ⟨rfl, hd⟩; refine ⟨_, rfl, ?_⟩; have hb := hd.below; clear hd; have n0_ := Aside0.mk (Kd.F_below (by (with_reducible repeat (first | apply Kd.F_alloc | apply Kd.F_drewN | apply Kd.F_drew)); exact HF.out) hb); have n1_ := Aside0.mk (Kd.S_below (by (with_reducible repeat (first | apply Kd.S_alloc | apply Kd.S_drewN | apply Kd.S_drew)); exact HG.out) hb); have n2_ := Aside0.mk (below_step (by repeat (first | (with_reducible first | exact HB.out | apply below_alloc | apply pw_below_drewN | apply below_drew1) | exact HB.out)) hb); clear HH; clear HF; clear HG; clear HB; have HF := n0_; have HG := n1_; have HB := n2_; clear n0_ n1_ n2_; clear hb) | ((with_reducible refine gate_callee (f := 24) rfl ?_); refine goesL_ (some 92) rfl rfl Try.func24 (by kernel_rfl) rfl #[.slice AG rows.length cG, .int .i64 1] rfl (by (try simp only [List.map_toArray, List.map_cons, List.map_nil]); first | done | rfl) ?_; (with_reducible refine (HHC.out _ _ _ ?side1 ?side2).mono ?_); (case side1 => repeat (first | exact (by have h_ := (Kd.S_reads' HG.out).2.2; rw [HLM.out] at h_; exact h_) | (with_reducible refine Kd.C_alloc ?_ _) | (with_reducible refine Kd.C_drewN ?_ _) | (with_reducible refine Kd.C_drew ?_))); (case side2 => exact (Kd.S_reads' HG.out).2.1); rintro e wq15 ⟨rfl, hd⟩; refine ⟨_, rfl, ?_⟩; have hb := hd.below; clear hd; have n0_ := Aside0.mk (Kd.F_below (by (with_reducible repeat (first | apply Kd.F_alloc | apply Kd.F_drewN | apply Kd.F_drew)); exact HF.out) hb); have n1_ := Aside0.mk (Kd.S_below (by (with_reducible repeat (first | apply Kd.S_alloc | apply Kd.S_drewN | apply Kd.S_drew)); exact HG.out) hb); have n2_ := Aside0.mk (below_step (by repeat (first | (with_reducible first | exact HB.out | apply below_alloc | apply pw_below_drewN | apply below_drew1) | exact HB.out)) hb); clear HF; clear HG; clear HB; have HF := n0_; have HG := n1_; have HB := n2_; clear n0_ n1_ n2_; clear hb))
    go_ret
    exact ⟨rfl, (by repeat (first | (with_reducible first | exact HB.out | apply below_alloc | apply pw_below_drewN | apply below_drew1) | exact HB.out))⟩

end Go.Proofs.Yteojcnegdcopdaa.PFnExactCycleOf
