-- Written by a program of this session (hook.py): functions, contracts and walks in the printer's form; contracts of this session's own where the printer takes none
import Derived.Test.YteojcnegdcopdaaPFnExactCountReachingx0
import Derived.Test.YteojcnegdcopdaaPFnExactCountReachingx6
import Derived.Test.YteojcnegdcopdaaPFnExactCountReachingx7
import Derived.Test.YteojcnegdcopdaaPFnExactCountReachingx8
import Derived.Test.YteojcnegdcopdaaPFnExactCountReachingx9
import Derived.Test.YteojcnegdcopdaaPFnExactCountReachingx10
namespace Go.Proofs.Yteojcnegdcopdaa.PFnExactCountReaching
open Go.RowKit Go.Proofs.YteojcnegdcopdaaW.PrintWords Go.Proofs.YteojcnegdcopdaaW.PrintLast Go.Proofs.YteojcnegdcopdaaW.PrintMore
attribute [local go_sem] max2_int min2_int max_two min_two max_three min_three max_four min_four   -- for this text's walks alone
set_option linter.unusedVariables false
set_option linter.unusedSimpArgs false

/-! ### impl_gapCycles: function 58 -/
/-! ### a map of numbers as a total function -/
def GM.put (F : Int → Int) (n v : Int) : Int → Int := fun m => if m = n then v else F m
def GM.St (F : Int → Int) (C g : Nat) (w : World) : Prop := ∃ c D, c ≤ C ∧ w.ownsMap Try.prog 3 (plainElem (H := Unit) Try.prog 3) g c D ∧ Go.Maps.IsMap D ∧ ∀ m : Int, D.atKey (.int .i64 m) (.lit (.int .i64 0)) = .lit (.int .i64 (F m))
theorem GM.lit_ne {a b : Int} (h : a ≠ b) : (Lit.int .i64 a) ≠ .int .i64 b := fun e => h (by cases e; rfl)
theorem GM.zero3 (w : World) : (zeroValue 3).run Try.prog w = .ok (.int .i64 0) w := by kernel_rfl
theorem GM.wwf (a : Int) : (Lit.int .i64 (wrap64 a)).wf = true := by
  simp only [Lit.wf, Bool.and_eq_true, decide_eq_true_eq, show IntKind.i64.min = -9223372036854775808 from rfl, show IntKind.i64.max = 9223372036854775807 from rfl]
  unfold wrap64
  omega
theorem GM.made (w : World) : GM.St (fun _ => 0) 0 w.heap.size (w.alloc (.map #[] 0)) :=
  ⟨0, .map [], Nat.le_refl _, World.ownsMap_made w _ _ _, ⟨[], rfl⟩, fun _ => rfl⟩
theorem GM.St.lt {F : Int → Int} {C g : Nat} {w : World} (h : GM.St F C g w) : g < w.heap.size := by
  obtain ⟨c, D, _, h, _⟩ := h
  exact h.lt
theorem GM.St.kept {F : Int → Int} {C g : Nat} {w w' : World} {row : Option Nat} (h : GM.St F C g w) (hg : w.grownBy w' row) (hne : some g ≠ row) : GM.St F C g w' := by
  obtain ⟨c, D, h1, h2, h3, h4⟩ := h
  exact ⟨c, D, h1, h2.kept hg hne, h3, h4⟩
theorem GM.St.below {F : Int → Int} {C g : Nat} {w w' : World} (h : GM.St F C g w) (hb : Below w.heap.size w w') : GM.St F C g w' := h.kept (grown_of_below hb none) (by simp)
theorem GM.St.alloc {F : Int → Int} {C g : Nat} {w : World} (h : GM.St F C g w) (o : Obj) : GM.St F C g (w.alloc o) := h.below (below_alloc (Below.refl _ _) o)
theorem GM.put_st {F : Int → Int} {C g c : Nat} {w : World} {D : DataW Unit} {n v : Int} (hc : c ≤ C) (hm : w.ownsMap Try.prog 3 (plainElem (H := Unit) Try.prog 3) g (c + 1) (D.put (.int .i64 n) (.lit (.int .i64 v)))) (hi : Go.Maps.IsMap D) (hF : ∀ m : Int, D.atKey (.int .i64 m) (.lit (.int .i64 0)) = .lit (.int .i64 (F m))) : GM.St (GM.put F n v) (C + 1) g w := by
  refine ⟨c + 1, _, by omega, hm, hi.put _ _, fun m => ?_⟩
  unfold GM.put
  by_cases e : m = n
  · subst e
    rw [if_pos rfl, Go.Maps.atKey_put_same hi (by trivial)]
  · rw [if_neg e, Go.Maps.atKey_put_other (GM.lit_ne e)]
    exact hF m
theorem GM.int {a b : Int} (h : (DataW.lit (.int .i64 a) : DataW Unit) = .lit (.int .i64 b)) : a = b := by
  injection h with h
  injection h
/-- An empty row, just made. -/
theorem GM.nil (w : World) (g : Nat) (hg : g < w.heap.size) : Kd.R (Kd.int .i64) 3 (w.alloc (.cells #[] 3)) w.heap.size (fun k_ => k_ ≠ g) (.slice (some ⟨w.heap.size, 0, none⟩) 0 0) [] := by
  refine Kd.R_of_own ⟨rfl, .inr ⟨w.heap.size, 0, #[], rfl, by omega, World.alloc_heap_new w _, Nat.le_refl _, by simp [maxLen], rfl, rfl⟩⟩ (fun k hk => ?_)
  simp [Value.ownBlock] at hk
  omega
/-! ### a sorting of rows as a function -/
def SF.ins (x : List Int) : List (List Int) → List (List Int)
  | [] => [x]
  | y :: t => if SF.cmp y x < 0 then y :: SF.ins x t else x :: y :: t
def SF.so : List (List Int) → List (List Int)
  | [] => []
  | x :: t => SF.ins x (SF.so t)
theorem SF.ins_perm (x : List Int) : ∀ l, (SF.ins x l).Perm (x :: l)
  | [] => List.Perm.refl _
  | y :: t => by
    unfold SF.ins
    split
    · exact ((SF.ins_perm x t).cons y).trans (List.Perm.swap x y t)
    · exact List.Perm.refl _
theorem SF.so_perm : ∀ l, (SF.so l).Perm l
  | [] => List.Perm.refl _
  | x :: t => (SF.ins_perm x _).trans ((SF.so_perm t).cons x)
theorem SF.ins_sorted (x : List Int) : ∀ l, l.Pairwise (fun a b => ¬ SF.cmp b a < 0) → (SF.ins x l).Pairwise (fun a b => ¬ SF.cmp b a < 0)
  | [], _ => by simp [SF.ins]
  | y :: t, h => by
    unfold SF.ins
    obtain ⟨h1, h2⟩ := List.pairwise_cons.mp h
    split
    · rename_i hx
      refine List.pairwise_cons.mpr ⟨fun z hz => ?_, SF.ins_sorted x t h2⟩
      rcases List.mem_cons.mp ((SF.ins_perm x t).mem_iff.mp hz) with rfl | hz
      · have := SF.neg y z; omega
      · exact h1 z hz
    · rename_i hx
      refine List.pairwise_cons.mpr ⟨fun z hz => ?_, h⟩
      rcases List.mem_cons.mp hz with rfl | hz
      · exact hx
      · exact fun hlt => SF.ntrans z y x (h1 z hz) hx hlt
theorem SF.so_sorted : ∀ l, (SF.so l).Pairwise (fun a b => ¬ SF.cmp b a < 0)
  | [] => List.Pairwise.nil
  | x :: t => SF.ins_sorted x _ (SF.so_sorted t)
theorem SF.so_eq {L L' : List (List Int)} (hp : L'.Perm L) (hs : L'.Pairwise (fun a b => ¬ SF.cmp b a < 0)) : L' = SF.so L := by
  refine List.Perm.eq_of_pairwise (le := fun a b => ¬ SF.cmp b a < 0) (fun a b _ _ h1 h2 => ?_) hs (SF.so_sorted L) (hp.trans (SF.so_perm L).symm)
  have := SF.neg a b
  exact SF.eq a b (by omega)

def impl_gapCycles.way (a0 a1 v : Int) : Nat → (Int → Int) → Nat → List Int → Int → Option (List Int × Int × (Int → Int) × Nat)
  | 0, _, _, _, _ => none
  | k + 1, F, C, W, n => if (Lit.int .i64 n).wf = true ∧ C < 5000000000 ∧ W.length < 5000000000 then (if F n = 0 then ((impl_step.f k n a0 a1).bind fun n2 => impl_gapCycles.way a0 a1 v k (GM.put F n v) (C + 1) (W ++ [n]) n2) else some (W, n, F, C)) else none
def impl_gapCycles.l0 (a0 a1 : Int) (rows : List (List Int)) : Nat → List (List Int) → (Int → Int) → Nat → Int → Option (List (List Int))
  | 0, _, _, _, _ => none
  | k + 1, O, F, C, i => if i < (rows.length : Int) then (if 0 ≤ i ∧ O.length < 1000000000 then ((impl_byGaps.f k (rd_L1 rows i) a0 a1).bind fun n => ((impl_gapCycles.way a0 a1 (wrap64 (i + 1)) k F C [] n).bind fun t => ((slices_Index_int_int.f k t.1 t.2.1).bind fun j => (if 0 ≤ j then (if j ≤ (t.1.length : Int) then ((impl_leastFirst.f k (t.1.drop j.toNat)).bind fun c => impl_gapCycles.l0 a0 a1 rows k (O ++ [c]) t.2.2.1 t.2.2.2 (wrap64 (i + 1))) else none) else impl_gapCycles.l0 a0 a1 rows k O t.2.2.1 t.2.2.2 (wrap64 (i + 1)))))) else none) else some O
def impl_gapCycles.f (k : Nat) (a0 a1 : Int) : Option (List (List Int)) := (impl_allGaps.f a0 a1).bind fun rows => ((impl_gapCycles.l0 a0 a1 rows k [] (fun _ => 0) 0 0).bind fun O => (if 0 < O.length ∧ O.length ≤ 1000000 ∧ ∀ l ∈ O, l.length ≤ 4294967296 then some (SF.so O) else none))
set_option maxHeartbeats 8000000 in
set_option maxRecDepth 100000 in
theorem impl_gapCycles.calls (k : Nat) (a0 : Int) (a1 : Int) (r : List (List Int)) (w : World) (h : impl_gapCycles.f k a0 a1 = some r) :
    Calls Try.prog 58 #[.int .i64 a0, .int .i64 a1] w fun e w' => ∃ v0_ : Value, e = .returned (v0_) ∧ Kd.S (Kd.slice 3 (Kd.int .i64)) 22 w' w.heap.size (fun _ => True) v0_ r ∧ Below w.heap.size w w' := by
  have HB := Aside0.mk (Below.refl w.heap.size w)
  obtain ⟨rows, hrows, h⟩ := Option.bind_eq_some_iff.mp h
  obtain ⟨O9, hO9, h⟩ := Option.bind_eq_some_iff.mp h
  have HROWS := Aside0.mk hrows
  have H' := Aside0.mk hO9
  have HFIN := Aside0.mk h
  clear hrows hO9 h
  have hmm := @run_makeMap Try.prog
  go_enter Try.func58, Try.ntmps58
  go_wp2_with (first | ((with_reducible refine gate_dst (N := 12) rfl ?_); refine Kd.S_lit (Kd.slice 3 (Kd.int .i64)) _ 22 ?hg (N := 12) ?hd (xs := ([] : List (List Int))) (inner := []) (ok := fun _ => True) (okp := fun _ => True) ?hr ?hp (fun _ hk => hk) trivial (Below.refl _ _) (Nat.le_refl _) (by simp) ?_; (case hd => rfl); (case hg => rfl); (case hr => first | (go_simp; done) | (go_simp; rfl)); (case hp => exact (Reps.none _ _)); intro v12 w1 ho hb hg_ hnew_; clear hg_ hnew_; have HO1 := Aside0.mk ho; have HB1 := Aside0.mk hb; clear ho hb HB) | (go_at_call 56; (with_reducible refine (impl_allGaps.calls a0 a1 rows _ HROWS.out).mono ?_); rintro e w2 ⟨v2, rfl, ho, hb⟩; have HR2 := Aside0.mk (Kd.S_bound ho); have HB2 := Aside0.mk (below_step (below_alloc HB1.out _) hb); have HM2 := Aside0.mk ((GM.made w1).below hb); have HO2 := Aside0.mk (Kd.S_below (Kd.S_alloc (Kd.S_bound HO1.out) _) hb); have HS2 := Aside0.mk hb.size; have HSB := Aside0.mk HB1.out.size; obtain ⟨A2, c2, e2⟩ := Kd.S_slice HR2.out; subst e2; clear ho hb))
  go_loopg [5, 18] k (fun kq v5 v18 wr => ∃ (O : List (List Int)) (F : Int → Int) (C : Nat) (i : Int), v18 = .int .i64 i ∧ Aside0 (impl_gapCycles.l0 a0 a1 rows kq O F C i = some O9) ∧ Aside0 (kq ≤ k) ∧ Aside0 (Kd.S (Kd.slice 3 (Kd.int .i64)) 22 wr w.heap.size (fun j => j ≠ w1.heap.size ∧ ¬ (w1.heap.size < j ∧ j < w2.heap.size)) v5 O) ∧ Aside0 (Kd.F (Kd.slice 3 (Kd.int .i64)) wr (fun j => w1.heap.size < j ∧ j < w2.heap.size) A2 rows.length rows) ∧ Aside0 (GM.St F C w1.heap.size wr) ∧ Aside0 (Below w.heap.size w wr) ∧ Aside0 (w2.heap.size ≤ wr.heap.size))
  case atStart =>
    have h1 := HS2.out
    simp at h1
    refine ⟨[], fun _ => 0, 0, 0, rfl, H', ⟨Nat.le_refl _⟩, ⟨Kd.S_mono HO2.out (fun j hj => ?_)⟩, ⟨Kd.F_mono (Kd.S_F HR2.out) (fun j hj => ?_)⟩, HM2, HB2, ⟨Nat.le_refl _⟩⟩
    · have := hj.2.2.1
      exact ⟨by omega, fun h => by omega⟩
    · have := hj.2.1
      simp at this
      exact ⟨by omega, hj.2.2.1⟩
  case round =>
    have HW12 : Aside0 (w1.heap.size < w2.heap.size) := ⟨by have h1 := HS2.out; simp at h1; omega⟩
    clear H' HB2 HM2 HO2 HR2 HS2 HO1 HROWS HB1
    obtain ⟨O, F, C, i, rfl, HA, HK1, HO, HF, HM, HB, HZ⟩ := hrel
    obtain ⟨wo, rfl⟩ : ∃ x, x = wr := ⟨wr, rfl⟩
    cases gk with
    | zero => exact absurd HA.out (by simp [impl_gapCycles.l0])
    | succ k1 =>
      have H := HA.out
      clear HA
      simp only [impl_gapCycles.l0] at H
      obtain ⟨Ao, co, eo⟩ := Kd.S_slice HO.out
      subst eo
      by_cases c1 : i < (rows.length : Int)
      · rw [if_pos c1] at H
        by_cases c2 : 0 ≤ i ∧ O.length < 1000000000
        · rw [if_pos c2] at H
          obtain ⟨n0, hn0, H⟩ := Option.bind_eq_some_iff.mp H
          obtain ⟨⟨W9, n9, F9, C9⟩, hway, H⟩ := Option.bind_eq_some_iff.mp H
          obtain ⟨j, hj, H⟩ := Option.bind_eq_some_iff.mp H
          have HBY := Aside0.mk hn0
          have HWAY := Aside0.mk hway
          have HJ := Aside0.mk hj
          have HH := Aside0.mk H
          have HOL := Aside0.mk c2.2
          obtain ⟨ad, A0, c0, ea, hx0, hl0, hi0⟩ := at_L1 (Kd.F_now HF.out) i c2.1 c1
          subst ea
          have HR0 := Aside0.mk hi0
          have HC0 := Aside0.mk hl0
          have c1b : decide (i < (rows.length : Int)) = true := decide_eq_true c1
          have p1 : (0 ≤ i) = True := eq_true c2.1
          have q1 : (i < (rows.length : Int)) = True := eq_true c1
          have HNIL := Aside0.mk (GM.nil wo w1.heap.size HM.out.lt)
          have HI9 : Aside0 (i < (rows.length : Int)) := ⟨c1⟩
          have HON := Aside0.mk (Kd.S_alloc (Kd.S_bound HO.out) (.cells #[] 3))
          have HFN := Aside0.mk (Kd.F_alloc HF.out (.cells #[] 3))
          have HMN := Aside0.mk (HM.out.alloc (.cells #[] 3))
          have HBN := Aside0.mk (below_alloc HB.out (.cells #[] 3))
          have HMG := Aside0.mk HM.out.lt
          clear hn0 hway hj H c1 c2 hi0 hl0 HO HF HM HB
          go_wp2_with (first | (go_at_call 44; (with_reducible refine (impl_byGaps.calls k1 A0 c0 (rd_L1 rows i) a0 a1 n0 _ (Kd.C_alloc HR0.out _) HC0.out HBY.out).mono ?_); rintro e w3 ⟨rfl, hd⟩; have hb := hd.below; have HO3 := Aside0.mk (Kd.S_below HON.out hb); have HF3 := Aside0.mk (Kd.F_below HFN.out hb); have HM3 := Aside0.mk (HMN.out.below hb); have HB3 := Aside0.mk (below_step HBN.out hb); have HW3 := Aside0.mk (Kd.R_below HNIL.out hb); have HZ3 : Aside0 (wo.heap.size ≤ w3.heap.size) := ⟨by have := hb.size; simp at this; omega⟩; clear hb hd))
          clear hx0
          go_loopg [9, 10] k1 (fun kq v9 v10 wi => ∃ (W : List Int) (n : Int) (F' : Int → Int) (C' : Nat), v10 = .int .i64 n ∧ Aside0 (impl_gapCycles.way a0 a1 (wrap64 (i + 1)) kq F' C' W n = some (W9, n9, F9, C9)) ∧ Aside0 (kq ≤ k1) ∧ Aside0 (Kd.S (Kd.slice 3 (Kd.int .i64)) 22 wi w.heap.size (fun j => (j ≠ w1.heap.size ∧ ¬ (w1.heap.size < j ∧ j < w2.heap.size)) ∧ j < wo.heap.size) (.slice Ao O.length co) O) ∧ Aside0 (Kd.F (Kd.slice 3 (Kd.int .i64)) wi (fun j => w1.heap.size < j ∧ j < w2.heap.size) (some ad) rows.length rows) ∧ Aside0 (Kd.R (Kd.int .i64) 3 wi wo.heap.size (fun j => j ≠ w1.heap.size) v9 W) ∧ Aside0 (GM.St F' C' w1.heap.size wi) ∧ Aside0 (Below w.heap.size w wi) ∧ Aside0 (wo.heap.size ≤ wi.heap.size))
          case atStart => exact ⟨[], n0, F, C, rfl, HWAY, ⟨Nat.le_refl _⟩, ⟨Kd.S_mono HO3.out (fun j hj => ⟨hj.1, hj.2.2.1⟩)⟩, HF3, HW3, HM3, HB3, HZ3⟩
          case round =>
            clear HWAY HO3 HF3 HW3 HM3 HB3 HZ3 HON HFN HMN HBN HNIL HBY HR0 HC0
            obtain ⟨W, n, F', C', rfl, HA, HK2, HO, HF, HW, HM, HB, HZi⟩ := hrel
            cases gk with
            | zero => exact absurd HA.out (by simp [impl_gapCycles.way])
            | succ k2 =>
              have H := HA.out
              clear HA
              simp only [impl_gapCycles.way] at H
              obtain ⟨Aw, cw, ew⟩ := Kd.R_slice HW.out
              subst ew
              by_cases hg : (Lit.int .i64 n).wf = true ∧ C' < 5000000000 ∧ W.length < 5000000000
              · rw [if_pos hg] at H
                have HG := Aside0.mk hg
                clear hg
                have HKEY := Aside0.mk (show keyOf Try.prog 3 (.int .i64 n) = some (.int .i64 n) from Go.Maps.keyOf_int_mk Try.underlying3 HG.out.1)
                obtain ⟨cM, D, hcM, hown, hism, hat0⟩ := HM.out
                have HCM := Aside0.mk hcM
                have HOWN := Aside0.mk hown
                have HISM := Aside0.mk hism
                have HAT := Aside0.mk hat0
                clear hcM hown hism hat0 HM
                by_cases hz : F' n = 0
                · rw [if_pos hz] at H
                  obtain ⟨n2, hs, H⟩ := Option.bind_eq_some_iff.mp H
                  have HST := Aside0.mk hs
                  have HE := Aside0.mk H
                  clear hs H
                  go_wp2_with (first | (at_lookup; refine wpList_lookup_own_int _ rfl _ _ 64 rfl 3 3 .i64 (Go.Maps.int_keyed Try.underlying3) Try.underlying64 Try.underlying3 (GM.zero3 _) w1.heap.size cM D rfl HOWN.out _ _ rfl HKEY.out ?_; intro cz hat hwc; obtain rfl : cz = F' n := GM.int (hat.symm.trans (HAT.out n)); clear hat hwc) | (at_mapUpdate; refine wpList_mapUpdate_own _ rfl _ _ _ 64 rfl 3 3 (Go.Maps.int_keyed Try.underlying3) Try.underlying64 _ w1.heap.size cM _ rfl HOWN.out (by have := HG.out.2.1; have := HCM.out; unfold maxLen; omega) _ _ _ rfl rfl HKEY.out _ [] (plainElem_int Try.underlying3 (GM.wwf (i + 1))) ?_; intro w4 hown1 hgrow1; have HM4 := Aside0.mk (GM.put_st HCM.out hown1 HISM.out HAT.out); have HO4 := Aside0.mk (Kd.S_grown HO.out hgrow1 (fun j hj e => hj.1.1 (by cases e; rfl))); have HF4 := Aside0.mk (Kd.F_grown HF.out hgrow1 (fun j hj e => by cases e; omega)); have HW4 := Aside0.mk (Kd.R_grown HW.out hgrow1 (fun j hj e => hj (by cases e; rfl))); have HB4 := Aside0.mk (HB.out.grown hgrow1 HB.out.size (fun j hj => by cases hj; exact HSB.out)); have HZ4 : Aside0 (wo.heap.size ≤ w4.heap.size) := ⟨Nat.le_trans HZi.out hgrow1.size⟩; clear hown1 hgrow1) | (at_builtin; refine Kd.R_append (Kd.int .i64) (w0 := w4) wo.heap.size rfl (.tmp 40) (.tmp 42) 22 3 (.int .i64 0) 8 rfl Try.underlying22 info3 rfl (by decide) (by omega) (.slice Aw W.length cw) W n [.int .i64 n] (fun j => j ≠ w1.heap.size) (fun _ => False) rfl rfl ?aP (fun _ hk => hk.elim) ?aF HW4.out ?aB ?aS ?aL ?_; (case aP => exact rfl); (case aF => intro j hj e; have := HM4.out.lt; omega); (case aB => exact (Below.refl _ _).mono HZ4.out); (case aS => exact HZ4.out); (case aL => have := HG.out.2.2; omega); intro v5 w5 ho hb hg hat; have HM5 := Aside0.mk (HM4.out.kept hg (fun e => HW4.out.1 w1.heap.size e.symm rfl)); have HO5 := Aside0.mk (Kd.S_grown HO4.out hg (fun j hj e => by have := Kd.R_base HW4.out j e.symm; omega)); have HF5 := Aside0.mk (Kd.F_grown HF4.out hg (fun j hj e => by have := Kd.R_base HW4.out j e.symm; have := HZ.out; omega)); have HW5 := Aside0.mk ho; have HB5 := Aside0.mk (HB4.out.grown hg HB4.out.size (fun j hj => by have := Kd.R_base HW4.out j hj; have := HB.out.size; have := HZ.out; have := HW12.out; have := HSB.out; omega)); have HZ5 : Aside0 (wo.heap.size ≤ w5.heap.size) := ⟨Nat.le_trans HZ4.out hg.size⟩; clear ho hb hg hat) | (go_at_call 66; (with_reducible refine (impl_step.calls k2 n a0 a1 n2 _ HST.out).mono ?_); rintro e w6 ⟨rfl, hb⟩; have HM6 := Aside0.mk (HM5.out.below hb); have HO6 := Aside0.mk (Kd.S_below HO5.out hb); have HF6 := Aside0.mk (Kd.F_below HF5.out hb); have HW6 := Aside0.mk (Kd.R_below HW5.out hb); have HB6 := Aside0.mk (below_step HB5.out hb); have HZ6 : Aside0 (wo.heap.size ≤ w6.heap.size) := ⟨Nat.le_trans HZ5.out hb.size⟩; clear hb))
                  go_roundg k2
                  case measure => have := HK2.out; omega
                  case rel => exact ⟨W ++ [n], n2, _, C' + 1, rfl, HE, ⟨by have := HK2.out; omega⟩, HO6, HF6, HW6, HM6, HB6, HZ6⟩
                · rw [if_neg hz] at H
                  simp only [Option.some.injEq, Prod.mk.injEq] at H
                  obtain ⟨rfl, rfl, rfl, rfl⟩ := H
                  have hzb : (F' n == 0) = false := beq_eq_false_iff_ne.mpr hz
                  have HM : Aside0 (GM.St F' C' w1.heap.size wr) := ⟨⟨cM, D, HCM.out, HOWN.out, HISM.out, HAT.out⟩⟩
                  clear hz
                  have HJ2 : Aside0 (slices_Index_int_int.f k1 W n = some j) := HJ
                  have HH2 : Aside0 ((if 0 ≤ j then (if j ≤ (W.length : Int) then ((impl_leastFirst.f k1 (W.drop j.toNat)).bind fun c => impl_gapCycles.l0 a0 a1 rows k1 (O ++ [c]) F' C' (wrap64 (i + 1))) else none) else impl_gapCycles.l0 a0 a1 rows k1 O F' C' (wrap64 (i + 1))) = some O9) := HH
                  clear HJ HH
                  by_cases hj0 : 0 ≤ j
                  · have H := HH2.out
                    rw [if_pos hj0] at H
                    by_cases hj1 : j ≤ (W.length : Int)
                    · rw [if_pos hj1] at H
                      obtain ⟨c, hc, H⟩ := Option.bind_eq_some_iff.mp H
                      have HE := Aside0.mk H
                      obtain ⟨i0, hi0, _, hsz, _⟩ := info_parts info3
                      have hcut := cut_from (P := Try.prog) 22 3 .i64 Try.underlying22 hi0 1 hsz Aw W.length cw j hj0 hj1
                      have HCD := Aside0.mk (fun (W' : World) (hC : Kd.C (Kd.int .i64) W' Aw W.length W) => Kd.C_drop (m := j.toNat) (c := cw) hC (by omega) (Kd.R_reads' HW.out).2.1)
                      have HYC : Aside0 (W.length - j.toNat ≤ cw - j.toNat) := ⟨Nat.sub_le_sub_right (Kd.R_reads' HW.out).2.1 _⟩
                      obtain ⟨A13, hA13⟩ : ∃ A1, A1 = (if cw = j.toNat then Aw else (Aw : Option Addr).map (·.add (j.toNat * 1))) := ⟨_, rfl⟩
                      obtain ⟨c13, hc13⟩ : ∃ c1, c1 = cw - j.toNat := ⟨_, rfl⟩
                      obtain ⟨y13, hy13⟩ : ∃ y, y = W.drop j.toNat := ⟨_, rfl⟩
                      have hly : y13.length = W.length - j.toNat := by rw [hy13, List.length_drop]
                      have HCD2 : Aside0 (∀ W' : World, Kd.C (Kd.int .i64) W' Aw W.length W → Kd.C (Kd.int .i64) W' A13 y13.length y13) := ⟨fun W' hC => by rw [hA13, hy13]; exact HCD.out W' hC⟩
                      rw [← hly, ← hA13, ← hc13] at hcut
                      have HY : Aside0 (y13.length ≤ c13) := ⟨by rw [hly, hc13]; exact HYC.out⟩
                      rw [← hy13] at hc
                      have HLF := Aside0.mk hc
                      have hjb : decide (0 ≤ j) = true := decide_eq_true hj0
                      clear HCD HYC hA13 hc13 hy13 hly hi0 hsz hc H HH2 hj0 hj1
                      go_wp2_with (first | (at_lookup; refine wpList_lookup_own_int _ rfl _ _ 64 rfl 3 3 .i64 (Go.Maps.int_keyed Try.underlying3) Try.underlying64 Try.underlying3 (GM.zero3 _) w1.heap.size cM D rfl HOWN.out _ _ rfl HKEY.out ?_; intro cz hat hwc; obtain rfl : cz = F' n := GM.int (hat.symm.trans (HAT.out n)); clear hat hwc) | (go_at_call 81; (with_reducible refine (slices_Index_int_int.calls k1 Aw cw W n j _ (Kd.R_reads' HW.out).2.2 (Kd.R_reads' HW.out).2.1 HJ2.out).mono ?_); rintro e w4 ⟨rfl, hd⟩; have hb := hd.below; have HO4 := Aside0.mk (Kd.S_below HO.out hb); have HF4 := Aside0.mk (Kd.F_below HF.out hb); have HM4 := Aside0.mk (HM.out.below hb); have HB4 := Aside0.mk (below_step HB.out hb); have HW4 := Aside0.mk (Kd.R_below HW.out hb); have HZ4 : Aside0 (wo.heap.size ≤ w4.heap.size) := ⟨Nat.le_trans HZi.out hb.size⟩; clear hb hd) | (go_at_call 51; (with_reducible refine (impl_leastFirst.calls k1 A13 c13 y13 c _ (HCD2.out _ (Kd.R_reads' HW4.out).2.2) HY.out HLF.out).mono ?_); rintro e w5 ⟨vc, rfl, ho, hb⟩; obtain ⟨Ac, cc, ec⟩ := Kd.R_slice ho; subst ec; have HN5 := Aside0.mk (Kd.R_bound ho); have HO5 := Aside0.mk (Kd.S_below HO4.out hb); have HF5 := Aside0.mk (Kd.F_below HF4.out hb); have HM5 := Aside0.mk (HM4.out.below hb); have HB5 := Aside0.mk (below_step HB4.out hb); have HZ5 := Aside0.mk hb.size; have HOL5 := Aside0.mk (Kd.S_lt HO4.out); clear ho hb) | (at_builtin; refine Kd.S_append (Kd.slice 3 (Kd.int .i64)) (w0 := w) w.heap.size rfl (.tmp 49) (.tmp 54) 31 22 (.slice none 0 0) 24 rfl Try.underlying31 info22 rfl (by decide) (by omega) (.slice Ao O.length co) O c [.slice Ac c.length cc] (fun j => j ≠ w1.heap.size ∧ ¬ (w1.heap.size < j ∧ j < w2.heap.size)) (fun j => w4.heap.size ≤ j) rfl rfl ?hp ?hokp ?hfresh ?HO ?HB ?hbase ?hl ?_; (case hp => exact ⟨_, rfl, Kd.R_lower (Kd.R_mono HN5.out (fun j hj => hj.2.1)) HB4.out.size⟩); (case hokp => exact (fun j hj => ⟨⟨by have := HZ4.out; have := HMG.out; omega, fun h => by have := HZ4.out; have := HZ.out; omega⟩, fun e => by have := HOL5.out j e.symm; omega⟩)); (case hfresh => exact (fun j hj => ⟨by have := HZ5.out; have := HZ4.out; have := HMG.out; omega, fun h => by have := HZ5.out; have := HZ4.out; have := HZ.out; omega⟩)); (case HO => exact Kd.S_mono HO5.out (fun j hj => ⟨hj.1, by have := HZ4.out; have := hj.2; omega⟩)); (case HB => exact HB5.out); (case hbase => exact HB5.out.size); (case hl => have := HOL.out; omega); intro v6 w6 ho hb hg hat; have HO6 := Aside0.mk ho; have HB6 := Aside0.mk hb; have HF6 := Aside0.mk (Kd.F_grown HF5.out hg (fun j hj e => ((Kd.S_R HO5.out).1 j e.symm).1.2 hj)); have HM6 := Aside0.mk (HM5.out.kept hg (fun e => ((Kd.S_R HO5.out).1 _ e.symm).1.1 rfl)); have HZ6 : Aside0 (w2.heap.size ≤ w6.heap.size) := ⟨by have := hg.size; have := HZ5.out; have := HZ4.out; have := HZ.out; omega⟩; clear ho hb hg hat))
                      go_roundg k1
                      case measure => have := HK1.out; omega
                      case rel => exact ⟨O ++ [c], F', C', _, rfl, HE, ⟨by have := HK1.out; omega⟩, HO6, HF6, HM6, HB6, HZ6⟩
                    · rw [if_neg hj1] at H
                      cases H
                  · have H := HH2.out
                    rw [if_neg hj0] at H
                    have HE := Aside0.mk H
                    have hjb : decide (0 ≤ j) = false := decide_eq_false hj0
                    clear H HH2 hj0
                    go_wp2_with (first | (at_lookup; refine wpList_lookup_own_int _ rfl _ _ 64 rfl 3 3 .i64 (Go.Maps.int_keyed Try.underlying3) Try.underlying64 Try.underlying3 (GM.zero3 _) w1.heap.size cM D rfl HOWN.out _ _ rfl HKEY.out ?_; intro cz hat hwc; obtain rfl : cz = F' n := GM.int (hat.symm.trans (HAT.out n)); clear hat hwc) | (go_at_call 81; (with_reducible refine (slices_Index_int_int.calls k1 Aw cw W n j _ (Kd.R_reads' HW.out).2.2 (Kd.R_reads' HW.out).2.1 HJ2.out).mono ?_); rintro e w4 ⟨rfl, hd⟩; have hb := hd.below; have HO4 := Aside0.mk (Kd.S_below HO.out hb); have HF4 := Aside0.mk (Kd.F_below HF.out hb); have HM4 := Aside0.mk (HM.out.below hb); have HB4 := Aside0.mk (below_step HB.out hb); have HW4 := Aside0.mk (Kd.R_below HW.out hb); have HZ4 : Aside0 (wo.heap.size ≤ w4.heap.size) := ⟨Nat.le_trans HZi.out hb.size⟩; clear hb hd))
                    go_roundg k1
                    case measure => have := HK1.out; omega
                    case rel => exact ⟨O, F', C', _, rfl, HE, ⟨by have := HK1.out; omega⟩, ⟨Kd.S_mono HO4.out (fun _ hj => hj.1)⟩, HF4, HM4, HB4, ⟨by have := HZ4.out; have := HZ.out; omega⟩⟩
              · rw [if_neg hg] at H
                cases H
        · rw [if_neg c2] at H
          cases H
      · rw [if_neg c1] at H
        obtain rfl := Option.some.inj H
        have c1b : decide (i < (rows.length : Int)) = false := decide_eq_false c1
        have HIF := HFIN.out
        by_cases hc : 0 < O.length ∧ O.length ≤ 1000000 ∧ ∀ l ∈ O, l.length ≤ 4294967296
        · rw [if_pos hc] at HIF
          have HR := Aside0.mk (Option.some.inj HIF)
          have HHC := Aside0.mk hc
          clear hc HIF H c1
          go_wp2_with (first | (go_at_call 87; (with_reducible refine (SF.calls (.slice Ao O.length co) O wo w.heap.size _ HO.out HHC.out.1 HHC.out.2.1 HHC.out.2.2).mono ?_); rintro e w3 ⟨rfl, L3, p3, s3, hS3, k3, os3, tp3, out3⟩; have HE3 := Aside0.mk ((SF.so_eq p3 s3).trans HR.out); have HS3 := Aside0.mk hS3; have HB3 : Aside0 (Below w.heap.size w w3) := ⟨HB.out.trans ⟨os3, tp3, out3, k3.1, fun k hk => k3.2 k (by have := HB.out.size; omega) (fun e => by have := Kd.S_base HO.out k e.symm; omega)⟩⟩; clear p3 s3 hS3 k3 os3 tp3 out3))
          go_ret
          have e := HE3.out
          subst e
          exact ⟨_, rfl, Kd.S_mono HS3.out (fun _ _ => trivial), HB3.out⟩
        · rw [if_neg hc] at HIF
          cases HIF

/-! ### impl_in: function 84 -/
def impl_in.f (a0 : Int) (a1 : Int) (a2 : Int) : Option (Bool) := if a1 ≤ a0 then (some (decide (a0 ≤ a2))) else (some false)
set_option maxHeartbeats 8000000 in
set_option maxRecDepth 100000 in
theorem impl_in.calls (a0 : Int) (a1 : Int) (a2 : Int) (r : Bool) (w : World) (h : impl_in.f a0 a1 a2 = some r) :
    Calls Try.prog 84 #[.int .i64 a0, .int .i64 a1, .int .i64 a2] w fun e w' => e = .returned (.bool r) ∧ Drawn0 w w' := by
  have H : (if a1 ≤ a0 then (some (decide (a0 ≤ a2))) else (some false)) = some r := h
  clear h
  by_cases c4 : a1 ≤ a0
  · rw [if_pos c4] at H
    have c4b0 : decide (a1 ≤ a0) = true := decide_eq_true c4
    clear c4
    obtain rfl := Option.some.inj H
    go_enter Try.func84, Try.ntmps84
    go_wp2
    go_ret
    exact ⟨by first | rfl | (simp; done) | (simp [*]; done), by repeat (first | exact Drawn0.refl _ | apply Drawn0.step)⟩
  · rw [if_neg c4] at H
    have c4b0 : decide (a1 ≤ a0) = false := decide_eq_false c4
    clear c4
    obtain rfl := Option.some.inj H
    go_enter Try.func84, Try.ntmps84
    go_wp2
    go_ret
    exact ⟨by first | rfl | (simp; done) | (simp [*]; done), by repeat (first | exact Drawn0.refl _ | apply Drawn0.step)⟩

/-! ### impl_isBase: function 54 -/
def impl_isBase.f (a0 : Int) : Option (Bool) := (impl_in.f a0 2 16).bind fun t400 => (some t400)
set_option maxHeartbeats 8000000 in
set_option maxRecDepth 100000 in
theorem impl_isBase.calls (a0 : Int) (r : Bool) (w : World) (h : impl_isBase.f a0 = some r) :
    Calls Try.prog 54 #[.int .i64 a0] w fun e w' => e = .returned (.bool r) ∧ Drawn0 w w' := by
  have H : ((impl_in.f a0 2 16).bind fun t400 => (some t400)) = some r := h
  clear h
  replace H := Option.bind_eq_some_iff.mp H
  obtain ⟨t400, A20, H⟩ := H
  replace H : (some t400) = some r := H
  have A2 := Aside0.mk A20
  clear A20
  obtain rfl := Option.some.inj H
  go_enter Try.func54, Try.ntmps54
  go_wp2_with (first | ((with_reducible refine gate_callee (f := 84) rfl ?_); refine goesL_ (some 4) rfl rfl Try.func84 (by kernel_rfl) rfl #[.int .i64 a0, .int .i64 2, .int .i64 16] rfl (by (try simp only [List.map_toArray, List.map_cons, List.map_nil]); first | done | rfl | (simp only [List.length_drop, List.length_take]; rfl)) ?_; (with_reducible refine (impl_in.calls a0 2 16 t400 _ A2.out).mono ?_); rintro e w' ⟨rfl, ⟨nd, rfl⟩⟩; refine ⟨_, rfl, ?_⟩))
  go_ret
  exact ⟨by first | rfl | (simp; done) | (simp [*]; done), by repeat (first | exact Drawn0.refl _ | apply Drawn0.step)⟩

/-! ### impl_isWidth: function 55 -/
def impl_isWidth.f (a0 : Int) : Option (Bool) := (impl_in.f a0 1 8).bind fun t401 => (some t401)
set_option maxHeartbeats 8000000 in
set_option maxRecDepth 100000 in
theorem impl_isWidth.calls (a0 : Int) (r : Bool) (w : World) (h : impl_isWidth.f a0 = some r) :
    Calls Try.prog 55 #[.int .i64 a0] w fun e w' => e = .returned (.bool r) ∧ Drawn0 w w' := by
  have H : ((impl_in.f a0 1 8).bind fun t401 => (some t401)) = some r := h
  clear h
  replace H := Option.bind_eq_some_iff.mp H
  obtain ⟨t401, A20, H⟩ := H
  replace H : (some t401) = some r := H
  have A2 := Aside0.mk A20
  clear A20
  obtain rfl := Option.some.inj H
  go_enter Try.func55, Try.ntmps55
  go_wp2_with (first | ((with_reducible refine gate_callee (f := 84) rfl ?_); refine goesL_ (some 4) rfl rfl Try.func84 (by kernel_rfl) rfl #[.int .i64 a0, .int .i64 1, .int .i64 8] rfl (by (try simp only [List.map_toArray, List.map_cons, List.map_nil]); first | done | rfl | (simp only [List.length_drop, List.length_take]; rfl)) ?_; (with_reducible refine (impl_in.calls a0 1 8 t401 _ A2.out).mono ?_); rintro e w' ⟨rfl, ⟨nd, rfl⟩⟩; refine ⟨_, rfl, ?_⟩))
  go_ret
  exact ⟨by first | rfl | (simp; done) | (simp [*]; done), by repeat (first | exact Drawn0.refl _ | apply Drawn0.step)⟩

/-! ### impl_isFew: function 64 -/
def impl_isFew.f (k : Nat) (a0 : Int) (a1 : Int) : Option (Bool) := (impl_isBase.f a1).bind fun t402 => (if t402 = true then ((impl_isWidth.f a0).bind fun t403 => (if t403 = true then ((impl_toPower.f k a1 a0).bind fun t404 => (some (decide (t404 ≤ 100000)))) else (some false))) else (some false))
set_option maxHeartbeats 8000000 in
set_option maxRecDepth 100000 in
theorem impl_isFew.calls (k : Nat) (a0 : Int) (a1 : Int) (r : Bool) (w : World) (h : impl_isFew.f k a0 a1 = some r) :
    Calls Try.prog 64 #[.int .i64 a0, .int .i64 a1] w fun e w' => e = .returned (.bool r) ∧ Drawn0 w w' := by
  have H : ((impl_isBase.f a1).bind fun t402 => (if t402 = true then ((impl_isWidth.f a0).bind fun t403 => (if t403 = true then ((impl_toPower.f k a1 a0).bind fun t404 => (some (decide (t404 ≤ 100000)))) else (some false))) else (some false))) = some r := h
  clear h
  replace H := Option.bind_eq_some_iff.mp H
  obtain ⟨t402, A30, H⟩ := H
  replace H : (if t402 = true then ((impl_isWidth.f a0).bind fun t403 => (if t403 = true then ((impl_toPower.f k a1 a0).bind fun t404 => (some (decide (t404 ≤ 100000)))) else (some false))) else (some false)) = some r := H
  have A3 := Aside0.mk A30
  clear A30
  by_cases c4 : t402 = true
  · subst c4
    have H1 : ((impl_isWidth.f a0).bind fun t403 => (if t403 = true then ((impl_toPower.f k a1 a0).bind fun t404 => (some (decide (t404 ≤ 100000)))) else (some false))) = some r := by rw [if_pos rfl] at H; exact H
    clear H
    have H := H1
    clear H1
    replace H := Option.bind_eq_some_iff.mp H
    obtain ⟨t403, A50, H⟩ := H
    replace H : (if t403 = true then ((impl_toPower.f k a1 a0).bind fun t404 => (some (decide (t404 ≤ 100000)))) else (some false)) = some r := H
    have A5 := Aside0.mk A50
    clear A50
    by_cases c6 : t403 = true
    · subst c6
      have H1 : ((impl_toPower.f k a1 a0).bind fun t404 => (some (decide (t404 ≤ 100000)))) = some r := by rw [if_pos rfl] at H; exact H
      clear H
      have H := H1
      clear H1
      replace H := Option.bind_eq_some_iff.mp H
      obtain ⟨t404, A70, H⟩ := H
      replace H : (some (decide (t404 ≤ 100000))) = some r := H
      have A7 := Aside0.mk A70
      clear A70
      obtain rfl := Option.some.inj H
      go_enter Try.func64, Try.ntmps64
      go_wp2_with (first | ((with_reducible refine gate_callee (f := 54) rfl ?_); refine goesL_ (some 6) rfl rfl Try.func54 (by kernel_rfl) rfl #[.int .i64 a1] rfl (by (try simp only [List.map_toArray, List.map_cons, List.map_nil]); first | done | rfl | (simp only [List.length_drop, List.length_take]; rfl)) ?_; (with_reducible refine (impl_isBase.calls a1 true _ A3.out).mono ?_); rintro e w' ⟨rfl, ⟨nd, rfl⟩⟩; refine ⟨_, rfl, ?_⟩) | (go_at_call 55; (with_reducible refine (impl_isWidth.calls a0 true _ A5.out).mono ?_); rintro e w' ⟨rfl, ⟨nd, rfl⟩⟩) | (go_at_call 65; (with_reducible refine (impl_toPower.calls k a1 a0 t404 _ A7.out).mono ?_); rintro e w' ⟨rfl, ⟨nd, rfl⟩⟩))
      go_ret
      exact ⟨by first | rfl | (simp; done) | (simp [*]; done), by repeat (first | exact Drawn0.refl _ | apply Drawn0.step)⟩
    · replace c6 := Bool.eq_false_iff.mpr c6
      subst c6
      have H1 : (some false) = some r := by rw [if_neg (show ¬ (false = true) by decide)] at H; exact H
      clear H
      have H := H1
      clear H1
      obtain rfl := Option.some.inj H
      go_enter Try.func64, Try.ntmps64
      go_wp2_with (first | ((with_reducible refine gate_callee (f := 54) rfl ?_); refine goesL_ (some 6) rfl rfl Try.func54 (by kernel_rfl) rfl #[.int .i64 a1] rfl (by (try simp only [List.map_toArray, List.map_cons, List.map_nil]); first | done | rfl | (simp only [List.length_drop, List.length_take]; rfl)) ?_; (with_reducible refine (impl_isBase.calls a1 true _ A3.out).mono ?_); rintro e w' ⟨rfl, ⟨nd, rfl⟩⟩; refine ⟨_, rfl, ?_⟩) | (go_at_call 55; (with_reducible refine (impl_isWidth.calls a0 false _ A5.out).mono ?_); rintro e w' ⟨rfl, ⟨nd, rfl⟩⟩))
      go_ret
      exact ⟨by first | rfl | (simp; done) | (simp [*]; done), by repeat (first | exact Drawn0.refl _ | apply Drawn0.step)⟩
  · replace c4 := Bool.eq_false_iff.mpr c4
    subst c4
    have H1 : (some false) = some r := by rw [if_neg (show ¬ (false = true) by decide)] at H; exact H
    clear H
    have H := H1
    clear H1
    obtain rfl := Option.some.inj H
    go_enter Try.func64, Try.ntmps64
    go_wp2_with (first | ((with_reducible refine gate_callee (f := 54) rfl ?_); refine goesL_ (some 6) rfl rfl Try.func54 (by kernel_rfl) rfl #[.int .i64 a1] rfl (by (try simp only [List.map_toArray, List.map_cons, List.map_nil]); first | done | rfl | (simp only [List.length_drop, List.length_take]; rfl)) ?_; (with_reducible refine (impl_isBase.calls a1 false _ A3.out).mono ?_); rintro e w' ⟨rfl, ⟨nd, rfl⟩⟩; refine ⟨_, rfl, ?_⟩))
    go_ret
    exact ⟨by first | rfl | (simp; done) | (simp [*]; done), by repeat (first | exact Drawn0.refl _ | apply Drawn0.step)⟩

/-! ### impl_CountReaching: function 37 -/
/-! ### a row's numbers into a map, a way up to a number that the map knows, and back -/
def RC.in_ (v : Int) (c : List Int) : Nat → Int → (Int → Int) → Nat → Option ((Int → Int) × Nat)
  | 0, _, _, _ => none
  | k + 1, i, F, C => if i < (c.length : Int) then (if 0 ≤ i ∧ C < 4000000000 ∧ (Lit.int .i64 (rd c i)).wf = true then RC.in_ v c k (wrap64 (i + 1)) (GM.put F (rd c i) v) (C + 1) else none) else some (F, C)
def RC.rows (val : Int → Int) (rows : List (List Int)) : Nat → Int → (Int → Int) → Nat → Option ((Int → Int) × Nat)
  | 0, _, _, _ => none
  | k + 1, i, F, C => if i < (rows.length : Int) then (if 0 ≤ i then ((RC.in_ (val i) (rd_L1 rows i) k 0 F C).bind fun t => RC.rows val rows k (wrap64 (i + 1)) t.1 t.2) else none) else some (F, C)
def RC.way (a0 a1 : Int) (F : Int → Int) : Nat → List Int → Int → Option (List Int × Int)
  | 0, _, _ => none
  | k + 1, W, x => if (Lit.int .i64 x).wf = true ∧ W.length < 5000000000 then (if F x = 0 then ((impl_step.f k x a0 a1).bind fun x2 => RC.way a0 a1 F k (W ++ [x]) x2) else some (W, x)) else none
def RC.back (val : Int → Int → Int) (x : Int) (W : List Int) : Nat → Int → (Int → Int) → Nat → Option ((Int → Int) × Nat)
  | 0, _, _, _ => none
  | k + 1, i, F, C => if i < (W.length : Int) then (if 0 ≤ i ∧ C < 4000000000 ∧ (Lit.int .i64 (rd W i)).wf = true ∧ (Lit.int .i64 (val (F x) i)).wf = true ∧ (Lit.int .i64 x).wf = true then RC.back val x W k (wrap64 (i + 1)) (GM.put F (rd W i) (val (F x) i)) (C + 1) else none) else some (F, C)
def impl_CountReaching.main (a0 a1 N : Int) : Nat → Int → List Int → (Int → Int) → Nat → Option (List Int)
  | 0, _, _, _, _ => none
  | k + 1, i, O, F, C => if i < N then ((RC.way a0 a1 F k [] i).bind fun t => ((RC.back (fun v _ => v) t.2 t.1 k 0 F C).bind fun u => (if (Lit.int .i64 t.2).wf = true ∧ 0 ≤ wrap64 (u.1 t.2 - 1) ∧ wrap64 (u.1 t.2 - 1) < (O.length : Int) then impl_CountReaching.main a0 a1 N k (wrap64 (i + 1)) (O.set (wrap64 (u.1 t.2 - 1)).toNat (wrap64 (rd O (wrap64 (u.1 t.2 - 1)) + 1))) u.1 u.2 else none))) else some O
def impl_CountReaching.f (k : Nat) (a0 a1 : Int) : Option (List Int × Bool) := (impl_isFew.f k a0 a1).bind fun t1 => (if t1 = true then ((impl_gapCycles.f k a0 a1).bind fun rows => (if rows.length ≤ 1000000 then ((RC.rows (fun i => wrap64 (i + 1)) rows k 0 (fun _ => 0) 0).bind fun t => ((impl_toPower.f k a1 a0).bind fun N => ((impl_CountReaching.main a0 a1 N k 0 (List.replicate rows.length 0) t.1 t.2).bind fun O => some (O, true)))) else none)) else some ([], false))
set_option maxHeartbeats 8000000 in
set_option maxRecDepth 100000 in
theorem impl_CountReaching.calls (k : Nat) (a0 : Int) (a1 : Int) (r1 : List Int) (r2 : Bool) (w : World) (h : impl_CountReaching.f k a0 a1 = some (r1, r2)) :
    Calls Try.prog 37 #[.int .i64 a0, .int .i64 a1] w fun e w' => ∃ v0_ : Value, e = .returned (.tuple #[v0_, .bool r2]) ∧ Kd.R (Kd.int .i64) 3 w' w.heap.size (fun _ => True) v0_ r1 ∧ Below w.heap.size w w' := by
  have HB := Aside0.mk (Below.refl w.heap.size w)
  have hmm := @run_makeMap Try.prog
  obtain ⟨t1, ht1, h⟩ := Option.bind_eq_some_iff.mp h
  have A3 := Aside0.mk ht1
  clear ht1
  by_cases c4 : t1 = true
  · subst c4
    rw [if_pos rfl] at h
    obtain ⟨rows, hrows, h⟩ := Option.bind_eq_some_iff.mp h
    by_cases c5 : rows.length ≤ 1000000
    · rw [if_pos c5] at h
      obtain ⟨⟨F9, C9⟩, ht9, h⟩ := Option.bind_eq_some_iff.mp h
      obtain ⟨N, hN, h⟩ := Option.bind_eq_some_iff.mp h
      obtain ⟨O9, hO9, h⟩ := Option.bind_eq_some_iff.mp h
      simp only [Option.some.injEq, Prod.mk.injEq] at h
      obtain ⟨rfl, rfl⟩ := h
      have HMAIN : Aside0 (impl_CountReaching.main a0 a1 N k 0 (List.replicate rows.length 0) F9 C9 = some O9) := ⟨hO9⟩
      clear hO9
      have HROWS := Aside0.mk hrows
      have H1 : Aside0 (RC.rows (fun i => wrap64 (i + 1)) rows k 0 (fun _ => 0) 0 = some (F9, C9)) := ⟨ht9⟩
      have HN := Aside0.mk hN
      have HRL := Aside0.mk c5
      clear hrows ht9 hN c5
      go_enter Try.func37, Try.ntmps37
      go_wp2_with (first | (go_at_call 64; (with_reducible refine (impl_isFew.calls k a0 a1 true _ A3.out).mono ?_); rintro e w_ ⟨rfl, ⟨nd, rfl⟩⟩) | (go_at_call 58; (with_reducible refine (impl_gapCycles.calls k a0 a1 rows _ HROWS.out).mono ?_); rintro e w2 ⟨v2, rfl, ho, hb⟩; have HR2 := Aside0.mk (Kd.S_lower (Kd.S_bound ho) (below_size (by repeat (first | (with_reducible first | exact HB.out | apply below_alloc | apply pw_below_drewN | apply below_drew1) | exact HB.out)))); have HB2 := Aside0.mk (below_step (by repeat (first | (with_reducible first | exact HB.out | apply below_alloc | apply pw_below_drewN | apply below_drew1) | exact HB.out)) hb); obtain ⟨A2, c2, e2⟩ := Kd.S_slice HR2.out; subst e2; clear ho hb) | ((with_reducible refine gate_dst (N := 27) rfl ?_); refine Kd.R_make (Kd.int .i64) _ 3 rfl (N := 27) rfl 22 _ _ rfl (rows.length : Int) rfl rfl Try.underlying22 (.int .i64 0) 8 info3 rfl (by decide) (by omega) 0 (ok := fun _ => True) (okp := fun _ => True) rfl (fun _ hk => hk) trivial (by omega) (by have := HRL.out; omega) (Below.refl _ _) (Nat.le_refl _) ?_; intro v27 w3 ho hb hg_ hnew_; clear hg_; rw [Int.toNat_natCast] at ho; have HO3 := Aside0.mk (Kd.R_bound ho); have HR3 := Aside0.mk (Kd.S_below HR2.out hb); have HB3 := Aside0.mk (below_step HB2.out hb); have HS3 := Aside0.mk hb.size; clear ho hb hnew_))
      obtain ⟨gM, hgM⟩ : ∃ g, g = w3.heap.size := ⟨_, rfl⟩
      obtain ⟨n2, hn2⟩ : ∃ n, n = w3.heap.size + 1 := ⟨_, rfl⟩
      obtain ⟨okO, hokO⟩ : ∃ p : Nat → Prop, p = fun j => w2.heap.size ≤ j ∧ j < w3.heap.size := ⟨_, rfl⟩
      obtain ⟨A7, c7, e7⟩ := Kd.R_slice HO3.out
      obtain ⟨n7, hn7⟩ : ∃ n, n = (List.replicate rows.length (0 : Int)).length := ⟨_, rfl⟩
      rw [← hn7] at e7
      have HOK := Aside0.mk hokO
      have HGB : Aside0 (w.heap.size ≤ gM) := ⟨by have := HB3.out.size; omega⟩
      have HGL : Aside0 (gM < n2) := ⟨by omega⟩
      subst e7
      have HRa : Aside0 (Kd.S (Kd.slice 3 (Kd.int .i64)) 22 w3 w.heap.size (fun j => j < n2 ∧ j ≠ gM ∧ ¬ okO j) (.slice A2 rows.length c2) rows) := ⟨Kd.S_mono HR3.out (fun j hj => by rw [HOK.out]; have h1_ := hj.2.2.1; have h2_ := HS3.out; exact ⟨by omega, by omega, fun h => by omega⟩)⟩
      have HOa : Aside0 (Kd.R (Kd.int .i64) 3 w3 w.heap.size (fun j => okO j ∧ j < n2 ∧ j ≠ gM) (.slice A7 n7 c7) (List.replicate rows.length 0)) := ⟨Kd.R_lower (Kd.R_mono HO3.out (fun j hj => by rw [HOK.out]; have h1_ := hj.2.1; have h2_ := hj.2.2.1; exact ⟨⟨h1_, h2_⟩, by omega, by omega⟩)) HB2.out.size⟩
      have HMb : Aside0 (GM.St (fun _ => 0) 0 gM (w3.alloc (.map #[] 0))) := ⟨by rw [hgM]; exact GM.made w3⟩
      have HZb : Aside0 (n2 ≤ (w3.alloc (.map #[] 0)).heap.size) := ⟨by rw [hn2]; simp⟩
      have HRb := Aside0.mk (Kd.S_alloc HRa.out (.map #[] 0))
      have HOb := Aside0.mk (Kd.R_alloc HOa.out (.map #[] 0))
      have HBb := Aside0.mk (below_alloc HB3.out (.map #[] 0))
      rw [← hgM]
      clear hgM hn2 hokO hn7 HRa HOa HR3 HO3 HR2 HB HB2 HB3 HS3
      go_loopg [31] k (fun kq v31 wr => ∃ (F : Int → Int) (C : Nat) (i : Int), v31 = .int .i64 i ∧ Aside0 (RC.rows (fun i => wrap64 (i + 1)) rows kq i F C = some (F9, C9)) ∧ Aside0 (kq ≤ k) ∧ Aside0 (Kd.S (Kd.slice 3 (Kd.int .i64)) 22 wr w.heap.size (fun j => j < n2 ∧ j ≠ gM ∧ ¬ okO j) (.slice A2 rows.length c2) rows) ∧ Aside0 (Kd.R (Kd.int .i64) 3 wr w.heap.size (fun j => okO j ∧ j < n2 ∧ j ≠ gM) (.slice A7 n7 c7) (List.replicate rows.length 0)) ∧ Aside0 (GM.St F C gM wr) ∧ Aside0 (Below w.heap.size w wr) ∧ Aside0 (n2 ≤ wr.heap.size))
      case atStart => exact ⟨_, _, 0, rfl, H1, ⟨Nat.le_refl _⟩, HRb, HOb, HMb, HBb, HZb⟩
      case round =>
        clear H1 HRb HOb HMb HBb HZb
        obtain ⟨F, C, i, rfl, HA, HK1, HR, HO, HM, HB, HZ⟩ := hrel
        obtain ⟨wo, rfl⟩ : ∃ x, x = wr := ⟨wr, rfl⟩
        cases gk with
        | zero => exact absurd HA.out (by simp [RC.rows])
        | succ k1 =>
          have H := HA.out
          clear HA
          simp only [RC.rows] at H
          by_cases q1 : i < (rows.length : Int)
          · rw [if_pos q1] at H
            by_cases q2 : 0 ≤ i
            · rw [if_pos q2] at H
              obtain ⟨⟨F2, C2⟩, h2, H⟩ := Option.bind_eq_some_iff.mp H
              have HIN : Aside0 (RC.in_ ((fun i => wrap64 (i + 1)) i) (rd_L1 rows i) k1 0 F C = some (F2, C2)) := ⟨h2⟩
              have HE : Aside0 (RC.rows (fun i => wrap64 (i + 1)) rows k1 (wrap64 (i + 1)) F2 C2 = some (F9, C9)) := ⟨H⟩
              obtain ⟨g2, cap2, eg, _⟩ := Kd.S_form HR.out (by omega)
              injection eg with ea ec ed
              subst ea ed
              obtain ⟨ce, hce, hMe, hcc⟩ := Kd.S_get HR.out [] i q2 (by omega)
              obtain ⟨ve, rfl, ge⟩ := hMe
              have hx0 := hcc 0 _ rfl
              rw [Nat.add_zero, show (Kd.slice 3 (Kd.int .i64)).sz = 1 from rfl, Nat.mul_one, add_at, Nat.zero_add] at hx0
              have HL : Aside0 (Kd.R (Kd.int .i64) 3 wo w.heap.size (fun j => j < n2 ∧ j ≠ gM) ve (rd_L1 rows i)) := ⟨Kd.R_mono (show Kd.R (Kd.int .i64) 3 wo w.heap.size _ ve (rd_L1 rows i) from ge) (fun j hj => ⟨hj.1.1, hj.1.2.1⟩)⟩
              obtain ⟨A0, c0, e0⟩ := Kd.R_slice HL.out
              subst e0
              have q1b : decide (i < (rows.length : Int)) = true := decide_eq_true q1
              have p1 : (0 ≤ i) = True := eq_true q2
              have p2 : (i < (rows.length : Int)) = True := eq_true q1
              clear h2 H q1 q2 hcc hce ge ec
              go_wp2
              clear hx0
              go_loopg [38] k1 (fun kq v38 wi => ∃ (F : Int → Int) (C : Nat) (j : Int), v38 = .int .i64 j ∧ Aside0 (RC.in_ ((fun i => wrap64 (i + 1)) i) (rd_L1 rows i) kq j F C = some (F2, C2)) ∧ Aside0 (kq ≤ k1) ∧ Aside0 (Kd.R (Kd.int .i64) 3 wi w.heap.size (fun j => j < n2 ∧ j ≠ gM) (.slice A0 (rd_L1 rows i).length c0) (rd_L1 rows i)) ∧ Aside0 (Kd.S (Kd.slice 3 (Kd.int .i64)) 22 wi w.heap.size (fun j => j < n2 ∧ j ≠ gM ∧ ¬ okO j) (.slice (some ⟨g2, 0, none⟩) rows.length c2) rows) ∧ Aside0 (Kd.R (Kd.int .i64) 3 wi w.heap.size (fun j => okO j ∧ j < n2 ∧ j ≠ gM) (.slice A7 n7 c7) (List.replicate rows.length 0)) ∧ Aside0 (GM.St F C gM wi) ∧ Aside0 (Below w.heap.size w wi) ∧ Aside0 (n2 ≤ wi.heap.size))
              case atStart => exact ⟨F, C, 0, rfl, HIN, ⟨Nat.le_refl _⟩, HL, HR, HO, HM, HB, HZ⟩
              case round =>
                clear HIN HL HR HO HM HB HZ q1b p1 p2
                obtain ⟨F, C, j, rfl, HA, HK2, HL, HR, HO, HM, HB, HZ⟩ := hrel
                cases gk with
                | zero => exact absurd HA.out (by simp [RC.in_])
                | succ k2 =>
                  have H := HA.out
                  clear HA
                  simp only [RC.in_] at H
                  by_cases q3 : j < ((rd_L1 rows i).length : Int)
                  · rw [if_pos q3] at H
                    by_cases q4 : 0 ≤ j ∧ C < 4000000000 ∧ (Lit.int .i64 (rd (rd_L1 rows i) j)).wf = true
                    · rw [if_pos q4] at H
                      have HE2 := Aside0.mk H
                      obtain ⟨adx, eax, hxj⟩ := Kd.at_int (Kd.R_reads' HL.out).2.2 j q4.1 q3
                      subst eax
                      have HCL := Aside0.mk q4.2.1
                      have HKEY := Aside0.mk (show keyOf Try.prog 3 (.int .i64 (rd (rd_L1 rows i) j)) = some (.int .i64 (rd (rd_L1 rows i) j)) from Go.Maps.keyOf_int_mk Try.underlying3 q4.2.2)
                      have q3b : decide (j < ((rd_L1 rows i).length : Int)) = true := decide_eq_true q3
                      have p3 : (0 ≤ j) = True := eq_true q4.1
                      have p4 : (j < ((rd_L1 rows i).length : Int)) = True := eq_true q3
                      clear H q3 q4
                      obtain ⟨cM, D, hcM, hown, hism, hat0⟩ := HM.out
                      have HCM := Aside0.mk hcM
                      have HOWN := Aside0.mk hown
                      have HISM := Aside0.mk hism
                      have HAT := Aside0.mk hat0
                      clear hcM hown hism hat0
                      go_wp2_with (first | (at_mapUpdate; refine wpList_mapUpdate_own _ rfl _ _ _ 64 rfl 3 3 (Go.Maps.int_keyed Try.underlying3) Try.underlying64 _ gM cM _ rfl HOWN.out (by have := HCL.out; have := HCM.out; unfold maxLen; omega) _ _ _ rfl rfl HKEY.out _ [] (plainElem_int Try.underlying3 (GM.wwf (i + 1))) ?_; intro w4 hown1 hgrow1; have HM4 := Aside0.mk (GM.put_st (n := rd (rd_L1 rows i) j) (v := wrap64 (i + 1)) HCM.out hown1 HISM.out HAT.out); have HR4 := Aside0.mk (Kd.S_grown HR.out hgrow1 (fun j hj e => by cases e; exact hj.2.1 rfl)); have HO4 := Aside0.mk (Kd.R_grown HO.out hgrow1 (fun j hj e => by cases e; exact hj.2.2 rfl)); have HB4 := Aside0.mk (HB.out.grown hgrow1 HB.out.size (fun j hj => by cases hj; exact HGB.out)); have HZ4 : Aside0 (n2 ≤ w4.heap.size) := ⟨Nat.le_trans HZ.out hgrow1.size⟩; have HL4 := Aside0.mk (Kd.R_grown HL.out hgrow1 (fun j hj e => by cases e; exact hj.2 rfl)); clear hown1 hgrow1))
                      go_roundg k2
                      case measure => have := HK2.out; omega
                      case rel => exact ⟨_, C + 1, _, rfl, HE2, ⟨by have := HK2.out; omega⟩, HL4, HR4, HO4, HM4, HB4, HZ4⟩
                    · rw [if_neg q4] at H
                      cases H
                  · rw [if_neg q3] at H
                    simp only [Option.some.injEq, Prod.mk.injEq] at H
                    obtain ⟨rfl, rfl⟩ := H
                    have q3b : decide (j < ((rd_L1 rows i).length : Int)) = false := decide_eq_false q3
                    clear q3
                    go_wp2
                    go_roundg k1
                    case measure => have := HK1.out; omega
                    case rel => exact ⟨_, _, _, rfl, HE, ⟨by have := HK1.out; omega⟩, HR, HO, HM, HB, HZ⟩
            · rw [if_neg q2] at H
              cases H
          · rw [if_neg q1] at H
            simp only [Option.some.injEq, Prod.mk.injEq] at H
            obtain ⟨rfl, rfl⟩ := H
            have q1b : decide (i < (rows.length : Int)) = false := decide_eq_false q1
            clear q1 HR
            go_wp2_with (first | (go_at_call 65; (with_reducible refine (impl_toPower.calls k a1 a0 N _ HN.out).mono ?_); rintro e w_ ⟨rfl, ⟨nd2, rfl⟩⟩; have hb_ := pw_below_drewN (Below.refl wo.heap.size wo) nd2; have HO5 := Aside0.mk (Kd.R_below HO.out hb_); have HM5 := Aside0.mk (HM.out.below hb_); have HB5 := Aside0.mk (below_step HB.out hb_); have HZ5 : Aside0 (n2 ≤ (World.drewN wo nd2).heap.size) := ⟨Nat.le_trans HZ.out (hb_).size⟩; clear hb_))
            go_loopg [51] k (fun kq v51 wr => ∃ (i : Int) (O : List Int) (F : Int → Int) (C : Nat), v51 = .int .i64 i ∧ Aside0 (impl_CountReaching.main a0 a1 N kq i O F C = some O9) ∧ Aside0 (kq ≤ k) ∧ Aside0 (Kd.R (Kd.int .i64) 3 wr w.heap.size (fun j => okO j ∧ j < n2 ∧ j ≠ gM) (.slice A7 n7 c7) O) ∧ Aside0 (GM.St F C gM wr) ∧ Aside0 (Below w.heap.size w wr) ∧ Aside0 (n2 ≤ wr.heap.size))
            case atStart => exact ⟨0, _, _, _, rfl, HMAIN, ⟨Nat.le_refl _⟩, HO5, HM5, HB5, HZ5⟩
            case round =>
              clear HMAIN HO5 HM5 HB5 HZ5 HO HM HB HZ q1b
              obtain ⟨i, O, F, C, rfl, HA, HK4, HO, HM, HB, HZ⟩ := hrel
              obtain ⟨wm, rfl⟩ : ∃ x, x = wr := ⟨wr, rfl⟩
              cases gk with
              | zero => exact absurd HA.out (by simp [impl_CountReaching.main])
              | succ k4 =>
                have H := HA.out
                clear HA
                simp only [impl_CountReaching.main] at H
                by_cases q5 : i < N
                · rw [if_pos q5] at H
                  obtain ⟨⟨W2, x2⟩, hw, H⟩ := Option.bind_eq_some_iff.mp H
                  obtain ⟨⟨F3, C3⟩, hbk, H⟩ := Option.bind_eq_some_iff.mp H
                  have HWAY : Aside0 (RC.way a0 a1 F k4 [] i = some (W2, x2)) := ⟨hw⟩
                  have HBK : Aside0 (RC.back (fun v _ => v) x2 W2 k4 0 F C = some (F3, C3)) := ⟨hbk⟩
                  have HE : Aside0 ((if (Lit.int .i64 x2).wf = true ∧ 0 ≤ wrap64 (F3 x2 - 1) ∧ wrap64 (F3 x2 - 1) < (O.length : Int) then impl_CountReaching.main a0 a1 N k4 (wrap64 (i + 1)) (O.set (wrap64 (F3 x2 - 1)).toNat (wrap64 (rd O (wrap64 (F3 x2 - 1)) + 1))) F3 C3 else none) = some O9) := ⟨H⟩
                  have q5b : decide (i < N) = true := decide_eq_true q5
                  have HNIL := Aside0.mk (GM.nil wm gM HM.out.lt)
                  have HO6 := Aside0.mk (Kd.R_below HO.out (below_alloc (Below.refl _ _) (.cells #[] 3)))
                  have HM6 := Aside0.mk (HM.out.below (below_alloc (Below.refl _ _) (.cells #[] 3)))
                  have HB6 := Aside0.mk (below_step HB.out (below_alloc (Below.refl _ _) (.cells #[] 3)))
                  have HZ6 : Aside0 (n2 ≤ (wm.alloc (.cells #[] 3)).heap.size) := ⟨Nat.le_trans HZ.out ((below_alloc (Below.refl _ _) (.cells #[] 3))).size⟩
                  have HZm : Aside0 (wm.heap.size ≤ (wm.alloc (.cells #[] 3)).heap.size) := ⟨by simp⟩
                  have HZw := HZ
                  clear HO HM HB HZ H q5 hw hbk
                  go_wp2
                  go_loopg [14, 15] k4 (fun kq v14 v15 wi => ∃ (W : List Int) (x : Int), v15 = .int .i64 x ∧ Aside0 (RC.way a0 a1 F kq W x = some (W2, x2)) ∧ Aside0 (kq ≤ k4) ∧ Aside0 (Kd.R (Kd.int .i64) 3 wi wm.heap.size (fun j => j ≠ gM) v14 W) ∧ Aside0 (Kd.R (Kd.int .i64) 3 wi w.heap.size (fun j => okO j ∧ j < n2 ∧ j ≠ gM) (.slice A7 n7 c7) O) ∧ Aside0 (GM.St F C gM wi) ∧ Aside0 (Below w.heap.size w wi) ∧ Aside0 (n2 ≤ wi.heap.size) ∧ Aside0 (wm.heap.size ≤ wi.heap.size))
                  case atStart => exact ⟨[], i, rfl, HWAY, ⟨Nat.le_refl _⟩, HNIL, HO6, HM6, HB6, HZ6, HZm⟩
                  case round =>
                    clear HWAY HNIL HZm HO6 HM6 HB6 HZ6 q5b
                    obtain ⟨W, x, rfl, HA, HK5, HW, HO, HM, HB, HZ, HZi⟩ := hrel
                    cases gk with
                    | zero => exact absurd HA.out (by simp [RC.way])
                    | succ k5 =>
                      have H := HA.out
                      clear HA
                      simp only [RC.way] at H
                      obtain ⟨Aw, cw, ew⟩ := Kd.R_slice HW.out
                      subst ew
                      by_cases hg : (Lit.int .i64 x).wf = true ∧ W.length < 5000000000
                      · rw [if_pos hg] at H
                        have HG := Aside0.mk hg
                        clear hg
                        have HKEY := Aside0.mk (show keyOf Try.prog 3 (.int .i64 x) = some (.int .i64 x) from Go.Maps.keyOf_int_mk Try.underlying3 HG.out.1)
                        obtain ⟨cM, D, hcM, hown, hism, hat0⟩ := HM.out
                        have HCM := Aside0.mk hcM
                        have HOWN := Aside0.mk hown
                        have HISM := Aside0.mk hism
                        have HAT := Aside0.mk hat0
                        clear hcM hown hism hat0
                        by_cases hz : F x = 0
                        · rw [if_pos hz] at H
                          obtain ⟨x3, hs, H⟩ := Option.bind_eq_some_iff.mp H
                          have HST := Aside0.mk hs
                          have HE5 := Aside0.mk H
                          clear hs H
                          go_wp2_with (first | (at_lookup; refine wpList_lookup_own_int _ rfl _ _ 64 rfl 3 3 .i64 (Go.Maps.int_keyed Try.underlying3) Try.underlying64 Try.underlying3 (GM.zero3 _) gM cM D rfl HOWN.out _ _ rfl HKEY.out ?_; intro cz hat hwc; obtain rfl : cz = F (x) := GM.int (hat.symm.trans (HAT.out (x))); clear hat hwc) | (at_builtin; refine Kd.R_append (Kd.int .i64) (w0 := wr) wm.heap.size rfl (.tmp 64) (.tmp 66) 22 3 (.int .i64 0) 8 rfl Try.underlying22 info3 rfl (by decide) (by omega) (.slice Aw W.length cw) W x [.int .i64 x] (fun j => j ≠ gM) (fun _ => False) rfl rfl ?aP (fun _ hk => hk.elim) ?aF HW.out ?aB ?aS ?aL ?_; (case aP => exact rfl); (case aF => intro j hj e; have := HM.out.lt; omega); (case aB => exact (Below.refl _ _).mono HZi.out); (case aS => exact HZi.out); (case aL => have := HG.out.2; omega); intro v5 w5 ho hb hg hat; have HW5 := Aside0.mk ho; have HM5 := Aside0.mk (HM.out.kept hg (fun e => HW.out.1 gM e.symm rfl)); have HO5 := Aside0.mk (Kd.R_grown HO.out hg (fun j hj e => by have := Kd.R_base HW.out j e.symm; have := hj.2.1; have := HZw.out; omega)); have HB5 := Aside0.mk (HB.out.grown hg HB.out.size (fun j hj => by have := Kd.R_base HW.out j hj; have := HZw.out; have := HGB.out; have := HGL.out; omega)); have HZ5 : Aside0 (n2 ≤ w5.heap.size) := ⟨Nat.le_trans HZ.out hg.size⟩; have HZi5 : Aside0 (wm.heap.size ≤ w5.heap.size) := ⟨Nat.le_trans HZi.out hg.size⟩; clear ho hb hg hat) | (go_at_call 66; (with_reducible refine (impl_step.calls k5 x a0 a1 x3 _ HST.out).mono ?_); rintro e w6 ⟨rfl, hb⟩; have HO6 := Aside0.mk (Kd.R_below HO5.out hb); have HM6 := Aside0.mk (HM5.out.below hb); have HB6 := Aside0.mk (below_step HB5.out hb); have HZ6 : Aside0 (n2 ≤ w6.heap.size) := ⟨Nat.le_trans HZ5.out (hb).size⟩; have HW6 := Aside0.mk (Kd.R_below HW5.out hb); have HZi6 : Aside0 (wm.heap.size ≤ w6.heap.size) := ⟨Nat.le_trans HZi5.out hb.size⟩; clear hb))
                          go_roundg k5
                          case measure => have := HK5.out; omega
                          case rel => exact ⟨W ++ [x], x3, rfl, HE5, ⟨by have := HK5.out; omega⟩, HW6, HO6, HM6, HB6, HZ6, HZi6⟩
                        · rw [if_neg hz] at H
                          simp only [Option.some.injEq, Prod.mk.injEq] at H
                          obtain ⟨rfl, rfl⟩ := H
                          have hzb : (F x == 0) = false := beq_eq_false_iff_ne.mpr hz
                          clear hz
                          go_wp2_with (first | (at_lookup; refine wpList_lookup_own_int _ rfl _ _ 64 rfl 3 3 .i64 (Go.Maps.int_keyed Try.underlying3) Try.underlying64 Try.underlying3 (GM.zero3 _) gM cM D rfl HOWN.out _ _ rfl HKEY.out ?_; intro cz hat hwc; obtain rfl : cz = F (x) := GM.int (hat.symm.trans (HAT.out (x))); clear hat hwc))
                          skip
                          go_loopg [70] k4 (fun kq v70 wb => ∃ (F' : Int → Int) (C' : Nat) (j : Int), v70 = .int .i64 j ∧ Aside0 (RC.back (fun v _ => v) x W kq j F' C' = some (F3, C3)) ∧ Aside0 (kq ≤ k4) ∧ Aside0 (Kd.R (Kd.int .i64) 3 wb wm.heap.size (fun j => j ≠ gM) (.slice Aw W.length cw) W) ∧ Aside0 (Kd.R (Kd.int .i64) 3 wb w.heap.size (fun j => okO j ∧ j < n2 ∧ j ≠ gM) (.slice A7 n7 c7) O) ∧ Aside0 (GM.St F' C' gM wb) ∧ Aside0 (Below w.heap.size w wb) ∧ Aside0 (n2 ≤ wb.heap.size))
                          case atStart => exact ⟨F, C, 0, rfl, HBK, ⟨Nat.le_refl _⟩, HW, HO, HM, HB, HZ⟩
                          case round =>
                            clear HBK HW HO HM HB HZ HCM HOWN HISM HAT hzb
                            obtain ⟨F', C', j, rfl, HA, HK6, HV, HO, HM, HB, HZ⟩ := hrel
                            have hx1 := HG.out.1
                            cases gk with
                            | zero => exact absurd HA.out (by simp [RC.back])
                            | succ k6 =>
                              have H := HA.out
                              clear HA
                              simp only [RC.back] at H
                              by_cases q6 : j < (W.length : Int)
                              · rw [if_pos q6] at H
                                by_cases q7 : 0 ≤ j ∧ C' < 4000000000 ∧ (Lit.int .i64 (rd W j)).wf = true ∧ (Lit.int .i64 (F' x)).wf = true ∧ (Lit.int .i64 x).wf = true
                                · rw [if_pos q7] at H
                                  have HE6 := Aside0.mk H
                                  obtain ⟨adx, eax, hxj⟩ := Kd.at_int (Kd.R_reads' HV.out).2.2 j q7.1 q6
                                  subst eax
                                  have HCL := Aside0.mk q7.2.1
                                  have HVW := Aside0.mk q7.2.2.2.1
                                  have HKEY2 := Aside0.mk (show keyOf Try.prog 3 (.int .i64 (rd W j)) = some (.int .i64 (rd W j)) from Go.Maps.keyOf_int_mk Try.underlying3 q7.2.2.1)
                                  have q6b : decide (j < (W.length : Int)) = true := decide_eq_true q6
                                  have p3 : (0 ≤ j) = True := eq_true q7.1
                                  have p4 : (j < (W.length : Int)) = True := eq_true q6
                                  clear H q6 q7 hx1
                                  obtain ⟨cM, D, hcM, hown, hism, hat0⟩ := HM.out
                                  have HCM := Aside0.mk hcM
                                  have HOWN := Aside0.mk hown
                                  have HISM := Aside0.mk hism
                                  have HAT := Aside0.mk hat0
                                  clear hcM hown hism hat0
                                  go_wp2_with (first | (at_lookup; refine wpList_lookup_own_int _ rfl _ _ 64 rfl 3 3 .i64 (Go.Maps.int_keyed Try.underlying3) Try.underlying64 Try.underlying3 (GM.zero3 _) gM cM D rfl HOWN.out _ _ rfl HKEY.out ?_; intro cz hat hwc; obtain rfl : cz = F' (x) := GM.int (hat.symm.trans (HAT.out (x))); clear hat hwc) | (at_mapUpdate; refine wpList_mapUpdate_own _ rfl _ _ _ 64 rfl 3 3 (Go.Maps.int_keyed Try.underlying3) Try.underlying64 _ gM cM _ rfl HOWN.out (by have := HCL.out; have := HCM.out; unfold maxLen; omega) _ _ _ rfl rfl HKEY2.out _ [] (plainElem_int Try.underlying3 HVW.out) ?_; intro w4 hown1 hgrow1; have HM4 := Aside0.mk (GM.put_st (n := rd W j) (v := F' x) HCM.out hown1 HISM.out HAT.out); have HO4 := Aside0.mk (Kd.R_grown HO.out hgrow1 (fun j hj e => by cases e; exact hj.2.2 rfl)); have HB4 := Aside0.mk (HB.out.grown hgrow1 HB.out.size (fun j hj => by cases hj; exact HGB.out)); have HZ4 : Aside0 (n2 ≤ w4.heap.size) := ⟨Nat.le_trans HZ.out hgrow1.size⟩; have HV4 := Aside0.mk (Kd.R_grown HV.out hgrow1 (fun j hj e => by cases e; exact hj rfl)); clear hown1 hgrow1))
                                  go_roundg k6
                                  case measure => have := HK6.out; omega
                                  case rel => exact ⟨_, C' + 1, _, rfl, HE6, ⟨by have := HK6.out; omega⟩, HV4, HO4, HM4, HB4, HZ4⟩
                                · rw [if_neg q7] at H
                                  cases H
                              · rw [if_neg q6] at H
                                simp only [Option.some.injEq, Prod.mk.injEq] at H
                                obtain ⟨rfl, rfl⟩ := H
                                have q6b : decide (j < (W.length : Int)) = false := decide_eq_false q6
                                have h8 := HE.out
                                clear q6
                                by_cases q8 : (Lit.int .i64 x).wf = true ∧ 0 ≤ wrap64 (F' x - 1) ∧ wrap64 (F' x - 1) < (O.length : Int)
                                · rw [if_pos q8] at h8
                                  have HE8 := Aside0.mk h8
                                  obtain ⟨jj, hjj⟩ : ∃ j_, j_ = wrap64 (F' x - 1) := ⟨_, rfl⟩
                                  rw [← hjj] at q8
                                  have hn7 := (Kd.R_reads' HO.out).1
                                  obtain ⟨g7, cap7, eg, hg7, _⟩ := Kd.R_form HO.out (by omega)
                                  injection eg with ea ec ed
                                  subst ea ed
                                  obtain ⟨hx7, hf7⟩ := Kd.R_celln 0 HO.out jj q8.2.1 (by omega)
                                  rw [show rdOf 0 O jj = rd O jj from rfl] at hx7
                                  have HG7 := Aside0.mk (HO.out.1 g7 (by simp [Value.ownBlock]))
                                  have HG8 : Aside0 (w.heap.size ≤ g7) := ⟨hg7⟩
                                  have ejj : wrap64 (F' x - 1) = jj := hjj.symm
                                  have HJJ := Aside0.mk hjj
                                  have p8 : (0 ≤ jj) = True := eq_true q8.2.1
                                  have p9 : (jj < (n7 : Int)) = True := eq_true (by omega)
                                  clear h8 q8 hjj hn7 ec hg7 hx1
                                  obtain ⟨cM, D, hcM, hown, hism, hat0⟩ := HM.out
                                  have HCM := Aside0.mk hcM
                                  have HOWN := Aside0.mk hown
                                  have HISM := Aside0.mk hism
                                  have HAT := Aside0.mk hat0
                                  clear hcM hown hism hat0
                                  go_wp2_with (first | (at_lookup; refine wpList_lookup_own_int _ rfl _ _ 64 rfl 3 3 .i64 (Go.Maps.int_keyed Try.underlying3) Try.underlying64 Try.underlying3 (GM.zero3 _) gM cM D rfl HOWN.out _ _ rfl HKEY.out ?_; intro cz hat hwc; obtain rfl : cz = F' (x) := GM.int (hat.symm.trans (HAT.out (x))); clear hat hwc))
                                  go_roundg k4
                                  case measure => have := HK4.out; omega
                                  case rel => exact ⟨wrap64 (i + 1), _, F', C', rfl, HE8, ⟨by have := HK4.out; omega⟩, ⟨by have h_ := Kd.R_putn HO.out jj (wrap64 (rd O jj + 1)); rw [HJJ.out] at h_ ⊢; exact h_⟩, ⟨HM.out.kept (Kd.R_putg HO.out jj _).2 (fun e => HG7.out.2.2 (by injection e with e; exact e.symm))⟩, ⟨HB.out.setCell HG8.out _⟩, ⟨by have := HZ.out; simpa using this⟩⟩
                                · rw [if_neg q8] at h8
                                  cases h8
                      · rw [if_neg hg] at H
                        cases H
                · rw [if_neg q5] at H
                  have q5b : decide (i < N) = false := decide_eq_false q5
                  clear q5
                  obtain rfl := Option.some.inj H
                  go_wp2
                  go_ret2
                  exact ⟨_, rfl, Kd.R_mono HO.out (fun _ _ => trivial), HB.out⟩
    · rw [if_neg c5] at h
      cases h
  · replace c4 := Bool.eq_false_iff.mpr c4
    subst c4
    rw [if_neg (show ¬ (false = true) by decide)] at h
    simp only [Option.some.injEq, Prod.mk.injEq] at h
    obtain ⟨rfl, rfl⟩ := h
    go_enter Try.func37, Try.ntmps37
    go_wp2_with (first | (go_at_call 64; (with_reducible refine (impl_isFew.calls k a0 a1 false _ A3.out).mono ?_); rintro e w_ ⟨rfl, ⟨nd, rfl⟩⟩))
    go_ret2
    exact ⟨_, rfl, Kd.R_nil _ _ _ _ _, (by repeat (first | (with_reducible first | exact HB.out | apply below_alloc | apply pw_below_drewN | apply below_drew1) | exact HB.out))⟩

end Go.Proofs.Yteojcnegdcopdaa.PFnExactCountReaching
