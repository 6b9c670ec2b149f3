-- Written by a program of this session (hook.py): functions, contracts and walks in the printer's form; contracts of this session's own where the printer takes none
import Derived.Test.YtimimjmabnmeoaaPFnExactCyclesWithx0
import Derived.Test.YtimimjmabnmeoaaPFnExactCyclesWithx4
namespace Go.Proofs.Ytimimjmabnmeoaa.PFnExactCyclesWith
open Go.RowKit Go.Proofs.YtimimjmabnmeoaaW.PrintWords Go.Proofs.YtimimjmabnmeoaaW.PrintLast Go.Proofs.YtimimjmabnmeoaaW.PrintMore
attribute [local go_sem] max2_int min2_int max_two min_two max_three min_three max_four min_four   -- for this text's walks alone
set_option linter.unusedVariables false
set_option linter.unusedSimpArgs false

/-! ### impl_cycleWith: function 71 -/
/-! ### a map from the numbers of a list to their places in it -/
theorem CW.insert_own {H : Type} {P : Program} (w : World) {ops : Array Oper} {rest : List Oper} {o : Oper} {a : Act} {Q : Exit → Act → World → Prop}
    (hg : o.guard = none) (m x v : Operand) (t : TypeId) (hop : o.op = Op.insert t m x v)
    (k e : TypeId) (K : Go.Maps.Keyed P k) (ht : P.underlying t = some (.map k e)) (R : Value → Option (DataW H × List MemPlace)) (b n : Nat) (D : DataW H)
    (hm : a.eval m = .map (some b)) (hown : w.ownsMap P k R b n D) (hn : n < maxLen) (key val : Value) (kl : Lit) (hx : a.eval x = key) (hv : a.eval v = val) (hkey : keyOf P k key = some kl)
    (d : DataW H) (ps : List MemPlace) (hval : R val = some (d, ps))
    (hK : ∀ w', w'.ownsMap P k R b (n + 1) (D.put kl d) → w.grownBy w' (some b) → wpList P ops Q rest (a.put o.dst undef) w') :
    wpList P ops Q (o :: rest) a w := by
  refine wpList_plain hg fun K' hK' => ?_
  obtain ⟨w', hrun, r1, r2⟩ := hown.update K ht hn hkey hval
  unfold Oper.wp
  simp [execOp, hop, hm, hx, hv, hrun, Result.andThen]
  exact hK' _ _ (hK w' r1 r2)
def CW.St (W : List Int) (g : Nat) (w : World) : Prop := ∃ c D, c ≤ W.length ∧ w.ownsMap Try.prog 3 (plainElem (H := Unit) Try.prog 3) g c D ∧ Go.Maps.IsMap D ∧ (∀ m : Int, Go.Maps.has D (.int .i64 m) = decide (m ∈ W)) ∧ ∀ m : Int, m ∈ W → D.atKey (.int .i64 m) (.lit (.int .i64 0)) = .lit (.int .i64 ((W.idxOf m : Nat) : Int))
theorem CW.lit_ne {a b : Int} (h : a ≠ b) : (Lit.int .i64 a) ≠ .int .i64 b := fun e => h (by cases e; rfl)
theorem CW.zero3 (w : World) : (zeroValue 3).run Try.prog w = .ok (.int .i64 0) w := by kernel_rfl
theorem CW.wf {x : Int} (h0 : -9223372036854775808 ≤ x) (h1 : x ≤ 9223372036854775807) : (Lit.int .i64 x).wf = true := by
  simp only [Lit.wf, Bool.and_eq_true, decide_eq_true_eq, show IntKind.i64.min = -9223372036854775808 from rfl, show IntKind.i64.max = 9223372036854775807 from rfl]
  omega
theorem CW.int {a b : Int} (h : (DataW.lit (.int .i64 a) : DataW Unit) = .lit (.int .i64 b)) : a = b := by
  injection h with h
  injection h
theorem CW.made (w : World) : w.alloc (.map #[] 0) |>.ownsMap Try.prog 3 (plainElem (H := Unit) Try.prog 3) w.heap.size 0 (.map []) := World.ownsMap_made w _ _ _
theorem CW.St.lt {W : List Int} {g : Nat} {w : World} (h : CW.St W g w) : g < w.heap.size := by
  obtain ⟨c, D, _, h, _⟩ := h
  exact h.lt
theorem CW.St.kept {W : List Int} {g : Nat} {w w' : World} {row : Option Nat} (h : CW.St W g w) (hg : w.grownBy w' row) (hne : some g ≠ row) : CW.St W g w' := by
  obtain ⟨c, D, h1, h2, h3, h4⟩ := h
  exact ⟨c, D, h1, h2.kept hg hne, h3, h4⟩
theorem CW.St.below {W : List Int} {g : Nat} {w w' : World} (h : CW.St W g w) (hb : Below w.heap.size w w') : CW.St W g w' := h.kept (grown_of_below hb none) (by simp)
theorem CW.put_st {W : List Int} {g c : Nat} {w : World} {D : DataW Unit} {n : Int} (hc : c ≤ W.length) (hm : w.ownsMap Try.prog 3 (plainElem (H := Unit) Try.prog 3) g (c + 1) (D.put (.int .i64 n) (.lit (.int .i64 (W.length : Int))))) (hi : Go.Maps.IsMap D) (hn : n ∉ W) (hh : ∀ m : Int, Go.Maps.has D (.int .i64 m) = decide (m ∈ W)) (hF : ∀ m : Int, m ∈ W → D.atKey (.int .i64 m) (.lit (.int .i64 0)) = .lit (.int .i64 ((W.idxOf m : Nat) : Int))) : CW.St (W ++ [n]) g w := by
  refine ⟨c + 1, _, by simp; omega, hm, hi.put _ _, fun m => ?_, fun m hm => ?_⟩
  · by_cases e : m = n
    · subst e
      rw [Go.Maps.has_put_same hi (k := .int .i64 m) (by trivial)]
      simp
    · rw [Go.Maps.has_put_other (CW.lit_ne e), hh]
      simp [e]
  · by_cases e : m = n
    · subst e
      rw [Go.Maps.atKey_put_same hi (by trivial), List.idxOf_append, if_neg hn]
      simp
    · have hmW : m ∈ W := by simpa [e] using hm
      rw [Go.Maps.atKey_put_other (CW.lit_ne e), hF m hmW, List.idxOf_append, if_pos hmW]
theorem CW.first {g : Nat} {w : World} {n : Int} (hm : w.ownsMap Try.prog 3 (plainElem (H := Unit) Try.prog 3) g 1 ((.map [] : DataW Unit).put (.int .i64 n) (.lit (.int .i64 0)))) : CW.St [n] g w :=
  CW.put_st (W := []) (Nat.le_refl _) hm ⟨[], rfl⟩ (by simp) (fun m => rfl) (fun m hm => by cases hm)

def impl_cycleWith.l0 (d : Int) (k : Nat) : Nat → List Int → Int → Option (List Int × Bool)
  | 0, _, _ => some ([], false)
  | m + 1, W, n => (impl_stepWith.f n d).bind fun x => (if x > 1000000000000 then some ([], false) else (if -9223372036854775808 ≤ x then (if x ∈ W then ((impl_leastFirst.f k (W.drop (W.idxOf x))).bind fun c => some (c, true)) else impl_cycleWith.l0 d k m (W ++ [x]) x) else none))
def impl_cycleWith.f (k : Nat) (a0 a1 : Int) : Option (List Int × Bool) := if (Lit.int .i64 a0).wf = true then impl_cycleWith.l0 a1 k 1000 [a0] a0 else none
theorem impl_cycleWith.mono_0 (d : Int) (k : Nat) : ∀ m W n, LeO (impl_cycleWith.l0 d k m W n) (impl_cycleWith.l0 d (k + 1) m W n)
  | 0, W, n => LeO.refl _
  | m + 1, W, n => by
    have ih := impl_cycleWith.mono_0 d k m
    unfold impl_cycleWith.l0
    repeat' first
      | exact ih _ _
      | exact impl_leastFirst.mono _ _
      | exact LeO.refl _
      | exact LeO.none _
      | refine LeO.ite ?_ ?_
      | refine LeO.bind ?_ (fun _ => ?_)
theorem impl_cycleWith.mono : ∀ a0 a1 k, LeO (impl_cycleWith.f k a0 a1) (impl_cycleWith.f (k + 1) a0 a1) := by
  intro a0 a1 k
  unfold impl_cycleWith.f
  refine LeO.ite (impl_cycleWith.mono_0 _ _ _ _ _) (LeO.none _)
set_option maxHeartbeats 8000000 in
set_option maxRecDepth 100000 in
theorem impl_cycleWith.calls (k : Nat) (a0 : Int) (a1 : Int) (r1 : List Int) (r2 : Bool) (w : World) (h : impl_cycleWith.f k a0 a1 = some (r1, r2)) :
    Calls Try.prog 71 #[.int .i64 a0, .int .i64 a1] w fun e w' => ∃ v0_ : Value, e = .returned (.tuple #[v0_, .bool r2]) ∧ Kd.R (Kd.int .i64) 3 w' w.heap.size (fun _ => True) v0_ r1 ∧ Below w.heap.size w w' := by
  have HB := Aside0.mk (Below.refl w.heap.size w)
  unfold impl_cycleWith.f at h
  by_cases hwf : (Lit.int .i64 a0).wf = true
  · rw [if_pos hwf] at h
    have H' := Aside0.mk h
    have HKEY := Aside0.mk (show keyOf Try.prog 3 (.int .i64 a0) = some (.int .i64 a0) from Go.Maps.keyOf_int_mk Try.underlying3 hwf)
    clear h hwf
    have hmm := @run_makeMap Try.prog
    go_enter Try.func71, Try.ntmps71
    go_wp2_with (first | (refine CW.insert_own _ rfl _ _ _ 44 rfl 3 3 (Go.Maps.int_keyed Try.underlying3) Try.underlying44 (plainElem (H := Unit) Try.prog 3) w.heap.size 0 _ rfl (CW.made w) (by decide) _ _ _ rfl rfl HKEY.out _ [] (plainElem_int Try.underlying3 (CW.wf (by decide) (by decide))) ?_; intro w1 hown1 hgrow1; have HM1 := Aside0.mk (CW.first hown1); have HB1 := Aside0.mk ((below_alloc HB.out (.map #[] 0)).grown hgrow1 (below_alloc HB.out (.map #[] 0)).size (fun j hj => by cases hj; exact Nat.le_refl _)); clear hown1 hgrow1) | ((with_reducible refine gate_dst (N := 14) rfl ?_); refine Kd.R_lit (Kd.int .i64) _ 3 ?hg (N := 14) ?hd (xs := ([a0] : List Int)) (inner := [.int .i64 a0]) (ok := fun j => j ≠ w.heap.size) (okp := fun _ => False) ?hr ?hp (fun _ hk => hk.elim) (by have := HM1.out.lt; omega) (Below.refl _ _) (Nat.le_refl _) (by simp) ?_; (case hd => rfl); (case hg => rfl); (case hr => first | (go_simp; done) | (go_simp; rfl)); (case hp => exact (Reps.one (show Kd.M (Kd.int .i64) _ _ _ a0 [.int .i64 a0] from rfl) (Reps.none _ _))); intro v14 w2 ho hb hg_ hnew_; clear hg_ hnew_; have HW2 := Aside0.mk (Kd.R_lower ho HB1.out.size); have HM2 := Aside0.mk (HM1.out.below hb); have HB2 := Aside0.mk (below_step HB1.out hb); clear ho hb))
    go_loopw [0, 7, 15] (fun v0 v7 v15 wr => ∃ (m : Nat) (W : List Int) (n : Int), m ≤ 1000 ∧ v0 = .int .i64 n ∧ v15 = .int .i64 (1000 - (m : Int)) ∧ Aside0 (W.length + m = 1001) ∧ Aside0 (impl_cycleWith.l0 a1 k m W n = some (r1, r2)) ∧ Aside0 (Kd.R (Kd.int .i64) 3 wr w.heap.size (fun j => j ≠ w.heap.size) v7 W) ∧ Aside0 (CW.St W w.heap.size wr) ∧ Aside0 (Below w.heap.size w wr)) (fun _ _ v15 _ => 1000 - (intOf v15).toNat)
    case atStart => exact ⟨1000, [a0], a0, Nat.le_refl _, rfl, rfl, ⟨rfl⟩, H', HW2, HM2, HB2⟩
    case round =>
      clear H' HW2 HM2 HB2
      obtain ⟨m, W, n, hm, rfl, rfl, HL, HA, HW, HM, HB⟩ := hrel
      obtain ⟨wo, rfl⟩ : ∃ x, x = wr := ⟨wr, rfl⟩
      cases m with
      | zero =>
        have H := HA.out
        simp only [impl_cycleWith.l0, Option.some.injEq, Prod.mk.injEq] at H
        obtain ⟨rfl, rfl⟩ := H
        go_wp2
        go_ret2
        exact ⟨_, rfl, Kd.R_nil _ _ _ _ _, HB.out⟩
      | succ m =>
        have H := HA.out
        simp only [impl_cycleWith.l0] at H
        obtain ⟨x, hx, H⟩ := Option.bind_eq_some_iff.mp H
        have HST := Aside0.mk hx
        have e1 : (1000 : Int) - ((m + 1 : Nat) : Int) = 999 - (m : Int) := by omega
        rw [e1]
        have hlt : decide ((999 : Int) - (m : Int) < 1000) = true := decide_eq_true (by omega)
        obtain ⟨Aw, cw, ew⟩ := Kd.R_slice HW.out
        subst ew
        clear hx HA e1
        by_cases q1 : x > 1000000000000
        · rw [if_pos q1] at H
          simp only [Option.some.injEq, Prod.mk.injEq] at H
          obtain ⟨rfl, rfl⟩ := H
          have q1b : decide (1000000000000 < x) = true := decide_eq_true q1
          go_wp2_with (first | (go_at_call 92; (with_reducible refine (impl_stepWith.calls n a1 x _ HST.out).mono ?_); rintro e w3 ⟨rfl, ⟨nd, rfl⟩⟩; have HB3 : Aside0 (Below w.heap.size w (wo.drewN nd)) := ⟨pw_below_drewN HB.out nd⟩))
          go_ret2
          exact ⟨_, rfl, Kd.R_nil _ _ _ _ _, HB3.out⟩
        · rw [if_neg q1] at H
          have q1b : decide (1000000000000 < x) = false := decide_eq_false q1
          by_cases q2 : -9223372036854775808 ≤ x
          · rw [if_pos q2] at H
            have HKEY := Aside0.mk (show keyOf Try.prog 3 (.int .i64 x) = some (.int .i64 x) from Go.Maps.keyOf_int_mk Try.underlying3 (CW.wf q2 (by omega)))
            obtain ⟨cM, D, hcM, hown, hism, hhas, hat0⟩ := HM.out
            have HCM := Aside0.mk hcM
            have HOWN := Aside0.mk hown
            have HISM := Aside0.mk hism
            have HHAS := Aside0.mk hhas
            have HAT := Aside0.mk hat0
            clear hcM hown hism hhas hat0
            by_cases q3 : x ∈ W
            · rw [if_pos q3] at H
              obtain ⟨c, hc, H⟩ := Option.bind_eq_some_iff.mp H
              simp only [Option.some.injEq, Prod.mk.injEq] at H
              obtain ⟨rfl, rfl⟩ := H
              have HH : Aside0 (Go.Maps.has D (.int .i64 x) = true) := ⟨by rw [HHAS.out]; exact decide_eq_true q3⟩
              obtain ⟨j, hj⟩ : ∃ j : Int, j = ((W.idxOf x : Nat) : Int) := ⟨_, rfl⟩
              have HIX : Aside0 (D.atKey (.int .i64 x) (.lit (.int .i64 0)) = .lit (.int .i64 j)) := ⟨by rw [hj]; exact HAT.out x q3⟩
              have hj0 : 0 ≤ j := by omega
              have hj1 : j ≤ (W.length : Int) := by rw [hj]; have := List.idxOf_le_length (l := W) (a := x); omega
              have hjn : W.idxOf x = j.toNat := by rw [hj]; simp
              rw [hjn] at hc
              clear hjn hj q3
              obtain ⟨i0, hi0, _, hsz, _⟩ := info_parts info3
              have hcut := cut_from (P := Try.prog) 25 3 .i64 Try.underlying25 hi0 1 hsz Aw W.length cw j hj0 hj1
              have HCD := Aside0.mk (fun (W' : World) (hC : Kd.C (Kd.int .i64) W' Aw W.length W) => Kd.C_drop (m := j.toNat) (c := cw) hC (by omega) (Kd.R_reads' HW.out).2.1)
              have HYC : Aside0 (W.length - j.toNat ≤ cw - j.toNat) := ⟨Nat.sub_le_sub_right (Kd.R_reads' HW.out).2.1 _⟩
              obtain ⟨A13, hA13⟩ : ∃ A1, A1 = (if cw = j.toNat then Aw else (Aw : Option Addr).map (·.add (j.toNat * 1))) := ⟨_, rfl⟩
              obtain ⟨c13, hc13⟩ : ∃ c1, c1 = cw - j.toNat := ⟨_, rfl⟩
              obtain ⟨y13, hy13⟩ : ∃ y, y = W.drop j.toNat := ⟨_, rfl⟩
              have hly : y13.length = W.length - j.toNat := by rw [hy13, List.length_drop]
              have HCD2 : Aside0 (∀ W' : World, Kd.C (Kd.int .i64) W' Aw W.length W → Kd.C (Kd.int .i64) W' A13 y13.length y13) := ⟨fun W' hC => by rw [hA13, hy13]; exact HCD.out W' hC⟩
              rw [← hly, ← hA13, ← hc13] at hcut
              have HY : Aside0 (y13.length ≤ c13) := ⟨by rw [hly, hc13]; exact HYC.out⟩
              rw [← hy13] at hc
              have HLF := Aside0.mk hc
              clear HCD HYC hA13 hc13 hy13 hly hi0 hsz hc hj0 hj1
              go_wp2_with (first | (go_at_call 92; (with_reducible refine (impl_stepWith.calls n a1 x _ HST.out).mono ?_); rintro e w3 ⟨rfl, ⟨nd, hw3⟩⟩; have hb_ : Below wo.heap.size wo w3 := (by rw [hw3]; exact pw_below_drewN (Below.refl _ _) nd); have HW4 := Aside0.mk (Kd.R_below HW.out hb_); have HB4 := Aside0.mk (below_step HB.out hb_); have HOWN4 := Aside0.mk (HOWN.out.kept (grown_of_below hb_ none) (by simp)); clear hw3 hb_) | (at_lookup; refine wpList_lookup_own_ok_int _ rfl _ _ 44 rfl 3 3 .i64 (Go.Maps.int_keyed Try.underlying3) Try.underlying44 Try.underlying3 (CW.zero3 _) w.heap.size cM _ rfl HOWN4.out _ _ rfl HKEY.out ?_; intro c2 hat hwc; rw [HH.out]; obtain rfl : c2 = j := CW.int (hat.symm.trans HIX.out); clear hat hwc) | (go_at_call 93; (with_reducible refine (impl_leastFirst.calls k A13 c13 y13 c _ (HCD2.out _ (Kd.R_reads' HW4.out).2.2) HY.out HLF.out).mono ?_); rintro e w5 ⟨vc, rfl, ho, hb⟩; have HO5 := Aside0.mk (Kd.R_lower ho HB4.out.size); have HB5 := Aside0.mk (below_step HB4.out hb); clear ho hb))
              go_ret2
              exact ⟨_, rfl, Kd.R_mono HO5.out (fun _ _ => trivial), HB5.out⟩
            · rw [if_neg q3] at H
              have HH : Aside0 (Go.Maps.has D (.int .i64 x) = false) := ⟨by rw [HHAS.out]; exact decide_eq_false q3⟩
              have HE := Aside0.mk H
              have HNX := Aside0.mk q3
              clear q3 H
              go_wp2_with (first | (go_at_call 92; (with_reducible refine (impl_stepWith.calls n a1 x _ HST.out).mono ?_); rintro e w3 ⟨rfl, ⟨nd, hw3⟩⟩; have hb_ : Below wo.heap.size wo w3 := (by rw [hw3]; exact pw_below_drewN (Below.refl _ _) nd); have HW4 := Aside0.mk (Kd.R_below HW.out hb_); have HB4 := Aside0.mk (below_step HB.out hb_); have HOWN4 := Aside0.mk (HOWN.out.kept (grown_of_below hb_ none) (by simp)); clear hw3 hb_) | (at_lookup; refine wpList_lookup_own_ok_int _ rfl _ _ 44 rfl 3 3 .i64 (Go.Maps.int_keyed Try.underlying3) Try.underlying44 Try.underlying3 (CW.zero3 _) w.heap.size cM _ rfl HOWN4.out _ _ rfl HKEY.out ?_; intro c2 hat hwc; rw [HH.out]; have HC2 := Aside0.mk hat; clear hat hwc) | (at_mapUpdate; refine wpList_mapUpdate_own _ rfl _ _ _ 44 rfl 3 3 (Go.Maps.int_keyed Try.underlying3) Try.underlying44 _ w.heap.size cM _ rfl HOWN4.out (by have := HL.out; have := HCM.out; unfold maxLen; omega) _ _ _ rfl rfl HKEY.out _ [] (plainElem_int Try.underlying3 (CW.wf (by omega) (by have := HL.out; omega))) ?_; intro w4 hown1 hgrow1; have HM5 := Aside0.mk (CW.put_st HCM.out hown1 HISM.out HNX.out HHAS.out HAT.out); have HW5 := Aside0.mk (Kd.R_grown HW4.out hgrow1 (fun j hj e => hj (by cases e; rfl))); have HB5 := Aside0.mk (HB4.out.grown hgrow1 HB4.out.size (fun j hj => by cases hj; exact Nat.le_refl _)); clear hown1 hgrow1) | (at_builtin; refine Kd.R_append (Kd.int .i64) (w0 := w) w.heap.size rfl (.tmp 37) (.tmp 39) 25 3 (.int .i64 0) 8 rfl Try.underlying25 info3 rfl (by decide) (by omega) (.slice Aw W.length cw) W x [.int .i64 x] (fun j => j ≠ w.heap.size) (fun _ => False) rfl rfl ?aP (fun _ hk => hk.elim) ?aF HW5.out ?aB ?aS ?aL ?_; (case aP => exact rfl); (case aF => intro j hj e; have := HM5.out.lt; omega); (case aB => exact HB5.out); (case aS => exact HB5.out.size); (case aL => have := HL.out; omega); intro v5 w5 ho hb hg hat; have HM6 := Aside0.mk (HM5.out.kept hg (fun e => HW5.out.1 w.heap.size e.symm rfl)); have HW6 := Aside0.mk ho; have HB6 := Aside0.mk hb; clear ho hb hg hat))
              go_roundw
              case rel => exact ⟨m, W ++ [x], x, by omega, rfl, by go_num, ⟨by have := HL.out; simp; omega⟩, HE, HW6, HM6, HB6⟩
              case measure => simp [intOf]; omega
          · rw [if_neg q2] at H
            cases H
  · rw [if_neg hwf] at h
    cases h

/-! ### cmp_isNaN_int: function 120 -/
def cmp_isNaN_int.f (a0 : Int) : Option (Bool) := some (a0 != a0)
set_option maxHeartbeats 8000000 in
set_option maxRecDepth 100000 in
theorem cmp_isNaN_int.calls (a0 : Int) (r : Bool) (w : World) (h : cmp_isNaN_int.f a0 = some r) :
    Calls Try.prog 120 #[.int .i64 a0] w fun e w' => e = .returned (.bool r) ∧ Drawn0 w w' := by
  have H : (some (a0 != a0)) = some r := h
  clear h
  obtain rfl := Option.some.inj H
  go_enter Try.func120, Try.ntmps120
  go_wp2
  go_ret
  exact ⟨by first | rfl | (simp; done) | (simp [*]; done), by repeat (first | exact Drawn0.refl _ | apply Drawn0.step)⟩

/-! ### cmp_Compare_int: function 97 -/
def cmp_Compare_int.f (a0 : Int) (a1 : Int) : Option (Int) := (cmp_isNaN_int.f a0).bind fun t228 => ((cmp_isNaN_int.f a1).bind fun t229 => (if t228 = true then (if t229 = true then (some 0) else (some (-1))) else (if t229 = true then (some 1) else (if a0 < a1 then (some (-1)) else (if a0 > a1 then (some 1) else (some 0))))))
set_option maxHeartbeats 8000000 in
set_option maxRecDepth 100000 in
theorem cmp_Compare_int.calls (a0 : Int) (a1 : Int) (r : Int) (w : World) (h : cmp_Compare_int.f a0 a1 = some r) :
    Calls Try.prog 97 #[.int .i64 a0, .int .i64 a1] w fun e w' => e = .returned (.int .i64 r) ∧ Drawn0 w w' := by
  have H : ((cmp_isNaN_int.f a0).bind fun t228 => ((cmp_isNaN_int.f a1).bind fun t229 => (if t228 = true then (if t229 = true then (some 0) else (some (-1))) else (if t229 = true then (some 1) else (if a0 < a1 then (some (-1)) else (if a0 > a1 then (some 1) else (some 0))))))) = some r := h
  clear h
  replace H := Option.bind_eq_some_iff.mp H
  obtain ⟨t228, A30, H⟩ := H
  replace H : ((cmp_isNaN_int.f a1).bind fun t229 => (if t228 = true then (if t229 = true then (some 0) else (some (-1))) else (if t229 = true then (some 1) else (if a0 < a1 then (some (-1)) else (if a0 > a1 then (some 1) else (some 0)))))) = some r := H
  have A3 := Aside0.mk A30
  clear A30
  replace H := Option.bind_eq_some_iff.mp H
  obtain ⟨t229, A40, H⟩ := H
  replace H : (if t228 = true then (if t229 = true then (some 0) else (some (-1))) else (if t229 = true then (some 1) else (if a0 < a1 then (some (-1)) else (if a0 > a1 then (some 1) else (some 0))))) = some r := H
  have A4 := Aside0.mk A40
  clear A40
  by_cases c5 : t228 = true
  · subst c5
    have H1 : (if t229 = true then (some 0) else (some (-1))) = some r := by rw [if_pos rfl] at H; exact H
    clear H
    have H := H1
    clear H1
    by_cases c6 : t229 = true
    · subst c6
      have H1 : (some 0) = some r := by rw [if_pos rfl] at H; exact H
      clear H
      have H := H1
      clear H1
      obtain rfl := Option.some.inj H
      go_enter Try.func97, Try.ntmps97
      go_wp2_with (first | ((with_reducible refine gate_callee (f := 120) rfl ?_); refine goesL_ (some 8) rfl rfl Try.func120 (by kernel_rfl) rfl #[.int .i64 a0] rfl (by (try simp only [List.map_toArray, List.map_cons, List.map_nil]); first | done | rfl | (simp only [List.length_drop, List.length_take]; rfl)) ?_; (with_reducible refine (cmp_isNaN_int.calls a0 true _ A3.out).mono ?_); rintro e w' ⟨rfl, ⟨nd, rfl⟩⟩; refine ⟨_, rfl, ?_⟩) | ((with_reducible refine gate_callee (f := 120) rfl ?_); refine goesL_ (some 10) rfl rfl Try.func120 (by kernel_rfl) rfl #[.int .i64 a1] rfl (by (try simp only [List.map_toArray, List.map_cons, List.map_nil]); first | done | rfl | (simp only [List.length_drop, List.length_take]; rfl)) ?_; (with_reducible refine (cmp_isNaN_int.calls a1 true _ A4.out).mono ?_); rintro e w' ⟨rfl, ⟨nd, rfl⟩⟩; refine ⟨_, rfl, ?_⟩))
      go_ret
      exact ⟨by first | rfl | (simp; done) | (simp [*]; done), by repeat (first | exact Drawn0.refl _ | apply Drawn0.step)⟩
    · replace c6 := Bool.eq_false_iff.mpr c6
      subst c6
      have H1 : (some (-1)) = some r := by rw [if_neg (show ¬ (false = true) by decide)] at H; exact H
      clear H
      have H := H1
      clear H1
      obtain rfl := Option.some.inj H
      go_enter Try.func97, Try.ntmps97
      go_wp2_with (first | ((with_reducible refine gate_callee (f := 120) rfl ?_); refine goesL_ (some 8) rfl rfl Try.func120 (by kernel_rfl) rfl #[.int .i64 a0] rfl (by (try simp only [List.map_toArray, List.map_cons, List.map_nil]); first | done | rfl | (simp only [List.length_drop, List.length_take]; rfl)) ?_; (with_reducible refine (cmp_isNaN_int.calls a0 true _ A3.out).mono ?_); rintro e w' ⟨rfl, ⟨nd, rfl⟩⟩; refine ⟨_, rfl, ?_⟩) | ((with_reducible refine gate_callee (f := 120) rfl ?_); refine goesL_ (some 10) rfl rfl Try.func120 (by kernel_rfl) rfl #[.int .i64 a1] rfl (by (try simp only [List.map_toArray, List.map_cons, List.map_nil]); first | done | rfl | (simp only [List.length_drop, List.length_take]; rfl)) ?_; (with_reducible refine (cmp_isNaN_int.calls a1 false _ A4.out).mono ?_); rintro e w' ⟨rfl, ⟨nd, rfl⟩⟩; refine ⟨_, rfl, ?_⟩))
      go_ret
      exact ⟨by first | rfl | (simp; done) | (simp [*]; done), by repeat (first | exact Drawn0.refl _ | apply Drawn0.step)⟩
  · replace c5 := Bool.eq_false_iff.mpr c5
    subst c5
    have H1 : (if t229 = true then (some 1) else (if a0 < a1 then (some (-1)) else (if a0 > a1 then (some 1) else (some 0)))) = some r := by rw [if_neg (show ¬ (false = true) by decide)] at H; exact H
    clear H
    have H := H1
    clear H1
    by_cases c7 : t229 = true
    · subst c7
      have H1 : (some 1) = some r := by rw [if_pos rfl] at H; exact H
      clear H
      have H := H1
      clear H1
      obtain rfl := Option.some.inj H
      go_enter Try.func97, Try.ntmps97
      go_wp2_with (first | ((with_reducible refine gate_callee (f := 120) rfl ?_); refine goesL_ (some 8) rfl rfl Try.func120 (by kernel_rfl) rfl #[.int .i64 a0] rfl (by (try simp only [List.map_toArray, List.map_cons, List.map_nil]); first | done | rfl | (simp only [List.length_drop, List.length_take]; rfl)) ?_; (with_reducible refine (cmp_isNaN_int.calls a0 false _ A3.out).mono ?_); rintro e w' ⟨rfl, ⟨nd, rfl⟩⟩; refine ⟨_, rfl, ?_⟩) | ((with_reducible refine gate_callee (f := 120) rfl ?_); refine goesL_ (some 10) rfl rfl Try.func120 (by kernel_rfl) rfl #[.int .i64 a1] rfl (by (try simp only [List.map_toArray, List.map_cons, List.map_nil]); first | done | rfl | (simp only [List.length_drop, List.length_take]; rfl)) ?_; (with_reducible refine (cmp_isNaN_int.calls a1 true _ A4.out).mono ?_); rintro e w' ⟨rfl, ⟨nd, rfl⟩⟩; refine ⟨_, rfl, ?_⟩))
      go_ret
      exact ⟨by first | rfl | (simp; done) | (simp [*]; done), by repeat (first | exact Drawn0.refl _ | apply Drawn0.step)⟩
    · replace c7 := Bool.eq_false_iff.mpr c7
      subst c7
      have H1 : (if a0 < a1 then (some (-1)) else (if a0 > a1 then (some 1) else (some 0))) = some r := by rw [if_neg (show ¬ (false = true) by decide)] at H; exact H
      clear H
      have H := H1
      clear H1
      by_cases c8 : a0 < a1
      · rw [if_pos c8] at H
        have c8b0 : decide (a0 < a1) = true := decide_eq_true c8
        clear c8
        obtain rfl := Option.some.inj H
        go_enter Try.func97, Try.ntmps97
        go_wp2_with (first | ((with_reducible refine gate_callee (f := 120) rfl ?_); refine goesL_ (some 8) rfl rfl Try.func120 (by kernel_rfl) rfl #[.int .i64 a0] rfl (by (try simp only [List.map_toArray, List.map_cons, List.map_nil]); first | done | rfl | (simp only [List.length_drop, List.length_take]; rfl)) ?_; (with_reducible refine (cmp_isNaN_int.calls a0 false _ A3.out).mono ?_); rintro e w' ⟨rfl, ⟨nd, rfl⟩⟩; refine ⟨_, rfl, ?_⟩) | ((with_reducible refine gate_callee (f := 120) rfl ?_); refine goesL_ (some 10) rfl rfl Try.func120 (by kernel_rfl) rfl #[.int .i64 a1] rfl (by (try simp only [List.map_toArray, List.map_cons, List.map_nil]); first | done | rfl | (simp only [List.length_drop, List.length_take]; rfl)) ?_; (with_reducible refine (cmp_isNaN_int.calls a1 false _ A4.out).mono ?_); rintro e w' ⟨rfl, ⟨nd, rfl⟩⟩; refine ⟨_, rfl, ?_⟩))
        go_ret
        exact ⟨by first | rfl | (simp; done) | (simp [*]; done), by repeat (first | exact Drawn0.refl _ | apply Drawn0.step)⟩
      · rw [if_neg c8] at H
        have c8b0 : decide (a0 < a1) = false := decide_eq_false c8
        clear c8
        by_cases c9 : a0 > a1
        · rw [if_pos c9] at H
          have c9b0 : decide (a1 < a0) = true := decide_eq_true c9
          clear c9
          obtain rfl := Option.some.inj H
          go_enter Try.func97, Try.ntmps97
          go_wp2_with (first | ((with_reducible refine gate_callee (f := 120) rfl ?_); refine goesL_ (some 8) rfl rfl Try.func120 (by kernel_rfl) rfl #[.int .i64 a0] rfl (by (try simp only [List.map_toArray, List.map_cons, List.map_nil]); first | done | rfl | (simp only [List.length_drop, List.length_take]; rfl)) ?_; (with_reducible refine (cmp_isNaN_int.calls a0 false _ A3.out).mono ?_); rintro e w' ⟨rfl, ⟨nd, rfl⟩⟩; refine ⟨_, rfl, ?_⟩) | ((with_reducible refine gate_callee (f := 120) rfl ?_); refine goesL_ (some 10) rfl rfl Try.func120 (by kernel_rfl) rfl #[.int .i64 a1] rfl (by (try simp only [List.map_toArray, List.map_cons, List.map_nil]); first | done | rfl | (simp only [List.length_drop, List.length_take]; rfl)) ?_; (with_reducible refine (cmp_isNaN_int.calls a1 false _ A4.out).mono ?_); rintro e w' ⟨rfl, ⟨nd, rfl⟩⟩; refine ⟨_, rfl, ?_⟩))
          go_ret
          exact ⟨by first | rfl | (simp; done) | (simp [*]; done), by repeat (first | exact Drawn0.refl _ | apply Drawn0.step)⟩
        · rw [if_neg c9] at H
          have c9b0 : decide (a1 < a0) = false := decide_eq_false c9
          clear c9
          obtain rfl := Option.some.inj H
          go_enter Try.func97, Try.ntmps97
          go_wp2_with (first | ((with_reducible refine gate_callee (f := 120) rfl ?_); refine goesL_ (some 8) rfl rfl Try.func120 (by kernel_rfl) rfl #[.int .i64 a0] rfl (by (try simp only [List.map_toArray, List.map_cons, List.map_nil]); first | done | rfl | (simp only [List.length_drop, List.length_take]; rfl)) ?_; (with_reducible refine (cmp_isNaN_int.calls a0 false _ A3.out).mono ?_); rintro e w' ⟨rfl, ⟨nd, rfl⟩⟩; refine ⟨_, rfl, ?_⟩) | ((with_reducible refine gate_callee (f := 120) rfl ?_); refine goesL_ (some 10) rfl rfl Try.func120 (by kernel_rfl) rfl #[.int .i64 a1] rfl (by (try simp only [List.map_toArray, List.map_cons, List.map_nil]); first | done | rfl | (simp only [List.length_drop, List.length_take]; rfl)) ?_; (with_reducible refine (cmp_isNaN_int.calls a1 false _ A4.out).mono ?_); rintro e w' ⟨rfl, ⟨nd, rfl⟩⟩; refine ⟨_, rfl, ?_⟩))
          go_ret
          exact ⟨by first | rfl | (simp; done) | (simp [*]; done), by repeat (first | exact Drawn0.refl _ | apply Drawn0.step)⟩

/-! ### slices_Compare_int_int: function 75 -/
def slices_Compare_int_int.l0 : Nat → List Int → List Int → List Int → Int → Int → Option (Int)
  | 0, _, _, _, _, _ => none
  | k + 1, x0, x1, x9, x10, x11 => if x11 < x10 then (if 0 ≤ x11 then (if x11 < (x9.length : Int) then (if x11 ≥ (x1.length : Int) then (some 1) else (if x11 < (x1.length : Int) then ((cmp_Compare_int.f (rd x9 x11) (rd x1 x11)).bind fun t232 => (if t232 = 0 then (slices_Compare_int_int.l0 k x0 x1 x9 x10 (wrap64 (x11 + 1))) else (some t232))) else (none))) else (none)) else (none)) else (if (x0.length : Int) < (x1.length : Int) then (some (-1)) else (some 0))
def slices_Compare_int_int.f (k : Nat) (l0 : List Int) (l1 : List Int) : Option (Int) := slices_Compare_int_int.l0 k l0 l1 l0 (l0.length : Int) 0
theorem slices_Compare_int_int.mono_l : ∀ k, (∀ y0 y1 y2 y3 y4, LeO (slices_Compare_int_int.l0 k y0 y1 y2 y3 y4) (slices_Compare_int_int.l0 (k + 1) y0 y1 y2 y3 y4))
  | 0 => fun _ _ _ _ _ r h => by simp [slices_Compare_int_int.l0] at h
  | k + 1 => by
    have ih0 := slices_Compare_int_int.mono_l k
    · intro y0 y1 y2 y3 y4
      unfold slices_Compare_int_int.l0
      repeat' first
      | (with_reducible exact ih0 _ _ _ _ _)
      | (with_reducible exact LeO.refl _)
      | (with_reducible exact LeO.none _)
      | (with_reducible refine LeO.ite ?_ ?_)
      | (with_reducible refine LeO.bind ?_ (fun _ => ?_))
      | exact ih0 _ _ _ _ _
      | exact LeO.none _
      | refine LeO.ite ?_ ?_
      | refine LeO.bind ?_ (fun _ => ?_)
theorem slices_Compare_int_int.mono : ∀ a0 a1 k, LeO (slices_Compare_int_int.f k a0 a1) (slices_Compare_int_int.f (k + 1) a0 a1) := by
  intro a0 a1 k
  have ih0 := slices_Compare_int_int.mono_l k
  unfold slices_Compare_int_int.f
  repeat' first
      | (with_reducible exact ih0 _ _ _ _ _)
      | (with_reducible exact LeO.refl _)
      | (with_reducible exact LeO.none _)
      | (with_reducible refine LeO.ite ?_ ?_)
      | (with_reducible refine LeO.bind ?_ (fun _ => ?_))
      | exact ih0 _ _ _ _ _
      | exact LeO.none _
      | refine LeO.ite ?_ ?_
      | refine LeO.bind ?_ (fun _ => ?_)
set_option maxHeartbeats 8000000 in
set_option maxRecDepth 100000 in
theorem slices_Compare_int_int.calls (k : Nat) (A0 : Option Addr) (c0 : Nat) (l0 : List Int) (A1 : Option Addr) (c1 : Nat) (l1 : List Int) (r : Int) (w : World) (hr0 : Kd.C (Kd.int .i64) w A0 l0.length l0) (hc0 : l0.length ≤ c0) (hr1 : Kd.C (Kd.int .i64) w A1 l1.length l1) (hc1 : l1.length ≤ c1) (h : slices_Compare_int_int.f k l0 l1 = some r) :
    Calls Try.prog 75 #[.slice A0 l0.length c0, .slice A1 l1.length c1] w fun e w' => e = .returned (.int .i64 r) ∧ Drawn0 w w' := by
  have HR0 := Aside0.mk hr0
  have HC0 := Aside0.mk hc0
  clear hr0 hc0
  have HR1 := Aside0.mk hr1
  have HC1 := Aside0.mk hc1
  clear hr1 hc1
  have H : (slices_Compare_int_int.l0 k l0 l1 l0 (l0.length : Int) 0) = some r := h
  clear h
  have H' := Aside0.mk H
  clear H
  go_enter Try.func75, Try.ntmps75
  go_wp2
  go_loopg [11] k (fun kq v11 w' => ∃ (x11_1 : Int), v11 = .int .i64 x11_1 ∧ Aside0 (slices_Compare_int_int.l0 kq l0 l1 l0 (l0.length : Int) x11_1 = some r) ∧ Aside0 (kq ≤ k) ∧ Drawn0 w w')
  case atStart => exact ⟨(0), (by first | rfl | (simp; done) | (simp [*]; done)), H', ⟨Nat.le_refl _⟩, by repeat (first | exact Drawn0.refl _ | apply Drawn0.step)⟩
  case round =>
    clear H'
    try clear c1
    try clear p2
    obtain ⟨x11_1, rfl, HA, HK1, ⟨m1, rfl⟩⟩ := hrel
    cases gk with
    | zero => exact absurd HA.out (by simp [slices_Compare_int_int.l0])
    | succ k1 =>
      have H := HA.out
      clear HA
      simp only [slices_Compare_int_int.l0] at H
      by_cases c3 : x11_1 < (l0.length : Int)
      · rw [if_pos c3] at H
        have c3b0 : decide (x11_1 < (l0.length : Int)) = true := decide_eq_true c3
        clear c3
        by_cases c4 : 0 ≤ x11_1
        · rw [if_pos c4] at H
          have c4b0 : decide (0 ≤ x11_1) = true := decide_eq_true c4
          clear c4
          by_cases c5 : x11_1 < (l0.length : Int)
          · rw [if_pos c5] at H
            have c5b0 : decide (x11_1 < (l0.length : Int)) = true := decide_eq_true c5
            clear c5
            by_cases c6 : x11_1 ≥ (l1.length : Int)
            · rw [if_pos c6] at H
              have c6b0 : decide ((l1.length : Int) ≤ x11_1) = true := decide_eq_true c6
              clear c6
              obtain rfl := Option.some.inj H
              have p230 : 0 ≤ (x11_1 : Int) := of_decide_eq_true (by first | (with_reducible assumption) | assumption)
              have q230 : x11_1 < (l0.length : Int) := of_decide_eq_true (by first | (with_reducible assumption) | assumption)
              obtain ⟨ad230, e230, hx230_0⟩ := Kd.at_int HR0.out x11_1 p230 q230
              cases e230
              replace p230 := eq_true p230
              replace q230 := eq_true q230
              go_wp2
              go_ret
              exact ⟨by first | rfl | (simp; done) | (simp [*]; done), by repeat (first | exact Drawn0.refl _ | apply Drawn0.step)⟩
            · rw [if_neg c6] at H
              have c6b0 : decide ((l1.length : Int) ≤ x11_1) = false := decide_eq_false c6
              clear c6
              by_cases c7 : x11_1 < (l1.length : Int)
              · rw [if_pos c7] at H
                have c7b0 : decide (x11_1 < (l1.length : Int)) = true := decide_eq_true c7
                clear c7
                replace H := Option.bind_eq_some_iff.mp H
                obtain ⟨t232, A80, H⟩ := H
                replace H : (if t232 = 0 then (slices_Compare_int_int.l0 k1 l0 l1 l0 (l0.length : Int) (wrap64 (x11_1 + 1))) else (some t232)) = some r := H
                have A8 := Aside0.mk A80
                clear A80
                by_cases c9 : t232 = 0
                · rw [if_pos c9] at H
                  have c9b0 : (t232 == 0) = true := beq_iff_eq.mpr c9
                  have c9b1 : (t232 != 0) = false := bne_eq_false_iff_eq.mpr c9
                  clear c9
                  have H' := Aside0.mk H
                  clear H
                  have p230 : 0 ≤ (x11_1 : Int) := of_decide_eq_true (by first | (with_reducible assumption) | assumption)
                  have q230 : x11_1 < (l0.length : Int) := of_decide_eq_true (by first | (with_reducible assumption) | assumption)
                  obtain ⟨ad230, e230, hx230_0⟩ := Kd.at_int HR0.out x11_1 p230 q230
                  cases e230
                  replace p230 := eq_true p230
                  replace q230 := eq_true q230
                  have p231 : 0 ≤ (x11_1 : Int) := of_decide_eq_true (by first | (with_reducible assumption) | assumption)
                  have q231 : x11_1 < (l1.length : Int) := of_decide_eq_true (by first | (with_reducible assumption) | assumption)
                  obtain ⟨ad231, e231, hx231_0⟩ := Kd.at_int HR1.out x11_1 p231 q231
                  cases e231
                  replace p231 := eq_true p231
                  replace q231 := eq_true q231
                  go_wp2_with (first | ((with_reducible refine gate_callee (f := 97) rfl ?_); refine goesL_ (some 26) rfl rfl Try.func97 (by kernel_rfl) rfl #[.int .i64 (rd l0 x11_1), .int .i64 (rd l1 x11_1)] rfl (by (try simp only [List.map_toArray, List.map_cons, List.map_nil]); first | done | rfl | (simp only [List.length_drop, List.length_take]; rfl)) ?_; (with_reducible refine (cmp_Compare_int.calls (rd l0 x11_1) (rd l1 x11_1) t232 _ A8.out).mono ?_); rintro e w' ⟨rfl, ⟨nd, rfl⟩⟩; refine ⟨_, rfl, ?_⟩))
                  go_roundg k1
                  case measure => have := HK1.out; omega
                  case rel => exact ⟨(wrap64 (x11_1 + 1)), (by first | rfl | (simp; done) | (simp [*]; done)), H', ⟨by have := HK1.out; omega⟩, by repeat (first | exact Drawn0.refl _ | apply Drawn0.step)⟩
                · rw [if_neg c9] at H
                  have c9b0 : (t232 == 0) = false := beq_eq_false_iff_ne.mpr c9
                  have c9b1 : (t232 != 0) = true := bne_iff_ne.mpr c9
                  obtain rfl := Option.some.inj H
                  have p230 : 0 ≤ (x11_1 : Int) := of_decide_eq_true (by first | (with_reducible assumption) | assumption)
                  have q230 : x11_1 < (l0.length : Int) := of_decide_eq_true (by first | (with_reducible assumption) | assumption)
                  obtain ⟨ad230, e230, hx230_0⟩ := Kd.at_int HR0.out x11_1 p230 q230
                  cases e230
                  replace p230 := eq_true p230
                  replace q230 := eq_true q230
                  have p231 : 0 ≤ (x11_1 : Int) := of_decide_eq_true (by first | (with_reducible assumption) | assumption)
                  have q231 : x11_1 < (l1.length : Int) := of_decide_eq_true (by first | (with_reducible assumption) | assumption)
                  obtain ⟨ad231, e231, hx231_0⟩ := Kd.at_int HR1.out x11_1 p231 q231
                  cases e231
                  replace p231 := eq_true p231
                  replace q231 := eq_true q231
                  go_wp2_with (first | ((with_reducible refine gate_callee (f := 97) rfl ?_); refine goesL_ (some 26) rfl rfl Try.func97 (by kernel_rfl) rfl #[.int .i64 (rd l0 x11_1), .int .i64 (rd l1 x11_1)] rfl (by (try simp only [List.map_toArray, List.map_cons, List.map_nil]); first | done | rfl | (simp only [List.length_drop, List.length_take]; rfl)) ?_; (with_reducible refine (cmp_Compare_int.calls (rd l0 x11_1) (rd l1 x11_1) t232 _ A8.out).mono ?_); rintro e w' ⟨rfl, ⟨nd, rfl⟩⟩; refine ⟨_, rfl, ?_⟩))
                  go_ret
                  exact ⟨by first | rfl | (simp; done) | (simp [*]; done), by repeat (first | exact Drawn0.refl _ | apply Drawn0.step)⟩
              · rw [if_neg c7] at H
                exact absurd H (by simp)
          · rw [if_neg c5] at H
            exact absurd H (by simp)
        · rw [if_neg c4] at H
          exact absurd H (by simp)
      · rw [if_neg c3] at H
        have c3b0 : decide (x11_1 < (l0.length : Int)) = false := decide_eq_false c3
        clear c3
        by_cases c10 : (l0.length : Int) < (l1.length : Int)
        · rw [if_pos c10] at H
          have c10b0 : decide ((l0.length : Int) < (l1.length : Int)) = true := decide_eq_true c10
          have c10b1 : decide (l0.length < l1.length) = true := decide_eq_true (Int.ofNat_lt.mp c10)
          clear c10
          obtain rfl := Option.some.inj H
          go_wp2
          go_ret
          exact ⟨by first | rfl | (simp; done) | (simp [*]; done), by repeat (first | exact Drawn0.refl _ | apply Drawn0.step)⟩
        · rw [if_neg c10] at H
          have c10b0 : decide ((l0.length : Int) < (l1.length : Int)) = false := decide_eq_false c10
          have c10b1 : decide (l0.length < l1.length) = false := decide_eq_false (fun h => c10 (Int.ofNat_lt.mpr h))
          clear c10
          obtain rfl := Option.some.inj H
          go_wp2
          go_ret
          exact ⟨by first | rfl | (simp; done) | (simp [*]; done), by repeat (first | exact Drawn0.refl _ | apply Drawn0.step)⟩

end Go.Proofs.Ytimimjmabnmeoaa.PFnExactCyclesWith
