-- Written by a program of this session (hook.py): functions, contracts and walks in the printer's form; contracts of this session's own where the printer takes none
import Derived.Test.YteojcnegdcopdaaPFnExactLongestTailx0
import Derived.Test.YteojcnegdcopdaaPFnExactLongestTailx1
import Derived.Test.YteojcnegdcopdaaPFnExactLongestTailx5
import Derived.Test.YteojcnegdcopdaaPFnExactLongestTailx7
import Derived.Test.YteojcnegdcopdaaPFnExactLongestTailx9
namespace Go.Proofs.Yteojcnegdcopdaa.PFnExactLongestTail
open Go.RowKit Go.Proofs.YteojcnegdcopdaaW.PrintWords Go.Proofs.YteojcnegdcopdaaW.PrintLast Go.Proofs.YteojcnegdcopdaaW.PrintMore
attribute [local go_sem] max2_int min2_int max_two min_two max_three min_three max_four min_four   -- for this text's walks alone
set_option linter.unusedVariables false
set_option linter.unusedSimpArgs false

/-! ### impl_isFew: function 64 -/
def impl_isFew.f (k : Nat) (a0 : Int) (a1 : Int) : Option (Bool) := (impl_isBase.f a1).bind fun t351 => (if t351 = true then ((impl_isWidth.f a0).bind fun t352 => (if t352 = true then ((impl_toPower.f k a1 a0).bind fun t353 => (some (decide (t353 ≤ 100000)))) else (some false))) else (some false))
theorem impl_isFew.mono : ∀ a0 a1 k, LeO (impl_isFew.f k a0 a1) (impl_isFew.f (k + 1) a0 a1) := by
  intro a0 a1 k
  unfold impl_isFew.f
  repeat' first
      | (with_reducible exact impl_toPower.mono _ _ _)
      | (with_reducible exact LeO.refl _)
      | (with_reducible exact LeO.none _)
      | (with_reducible refine LeO.ite ?_ ?_)
      | (with_reducible refine LeO.bind ?_ (fun _ => ?_))
      | exact impl_toPower.mono _ _ _
      | exact LeO.none _
      | refine LeO.ite ?_ ?_
      | refine LeO.bind ?_ (fun _ => ?_)
set_option maxHeartbeats 8000000 in
set_option maxRecDepth 100000 in
theorem impl_isFew.calls (k : Nat) (a0 : Int) (a1 : Int) (r : Bool) (w : World) (h : impl_isFew.f k a0 a1 = some r) :
    Calls Try.prog 64 #[.int .i64 a0, .int .i64 a1] w fun e w' => e = .returned (.bool r) ∧ Drawn0 w w' := by
  have H : ((impl_isBase.f a1).bind fun t351 => (if t351 = true then ((impl_isWidth.f a0).bind fun t352 => (if t352 = true then ((impl_toPower.f k a1 a0).bind fun t353 => (some (decide (t353 ≤ 100000)))) else (some false))) else (some false))) = some r := h
  clear h
  replace H := Option.bind_eq_some_iff.mp H
  obtain ⟨t351, A30, H⟩ := H
  replace H : (if t351 = true then ((impl_isWidth.f a0).bind fun t352 => (if t352 = true then ((impl_toPower.f k a1 a0).bind fun t353 => (some (decide (t353 ≤ 100000)))) else (some false))) else (some false)) = some r := H
  have A3 := Aside0.mk A30
  clear A30
  by_cases c4 : t351 = true
  · subst c4
    have H1 : ((impl_isWidth.f a0).bind fun t352 => (if t352 = true then ((impl_toPower.f k a1 a0).bind fun t353 => (some (decide (t353 ≤ 100000)))) else (some false))) = some r := by rw [if_pos rfl] at H; exact H
    clear H
    have H := H1
    clear H1
    replace H := Option.bind_eq_some_iff.mp H
    obtain ⟨t352, A50, H⟩ := H
    replace H : (if t352 = true then ((impl_toPower.f k a1 a0).bind fun t353 => (some (decide (t353 ≤ 100000)))) else (some false)) = some r := H
    have A5 := Aside0.mk A50
    clear A50
    by_cases c6 : t352 = true
    · subst c6
      have H1 : ((impl_toPower.f k a1 a0).bind fun t353 => (some (decide (t353 ≤ 100000)))) = some r := by rw [if_pos rfl] at H; exact H
      clear H
      have H := H1
      clear H1
      replace H := Option.bind_eq_some_iff.mp H
      obtain ⟨t353, A70, H⟩ := H
      replace H : (some (decide (t353 ≤ 100000))) = some r := H
      have A7 := Aside0.mk A70
      clear A70
      obtain rfl := Option.some.inj H
      go_enter Try.func64, Try.ntmps64
      go_wp2_with (first | ((with_reducible refine gate_callee (f := 54) rfl ?_); refine goesL_ (some 6) rfl rfl Try.func54 (by kernel_rfl) rfl #[.int .i64 a1] rfl (by (try simp only [List.map_toArray, List.map_cons, List.map_nil]); first | done | rfl | (simp only [List.length_drop, List.length_take]; rfl)) ?_; (with_reducible refine (impl_isBase.calls a1 true _ A3.out).mono ?_); rintro e w' ⟨rfl, ⟨nd, rfl⟩⟩; refine ⟨_, rfl, ?_⟩) | (go_at_call 55; (with_reducible refine (impl_isWidth.calls a0 true _ A5.out).mono ?_); rintro e w' ⟨rfl, ⟨nd, rfl⟩⟩) | (go_at_call 65; (with_reducible refine (impl_toPower.calls k a1 a0 t353 _ A7.out).mono ?_); rintro e w' ⟨rfl, ⟨nd, rfl⟩⟩))
      go_ret
      exact ⟨by first | rfl | (simp; done) | (simp [*]; done), by repeat (first | exact Drawn0.refl _ | apply Drawn0.step)⟩
    · replace c6 := Bool.eq_false_iff.mpr c6
      subst c6
      have H1 : (some false) = some r := by rw [if_neg (show ¬ (false = true) by decide)] at H; exact H
      clear H
      have H := H1
      clear H1
      obtain rfl := Option.some.inj H
      go_enter Try.func64, Try.ntmps64
      go_wp2_with (first | ((with_reducible refine gate_callee (f := 54) rfl ?_); refine goesL_ (some 6) rfl rfl Try.func54 (by kernel_rfl) rfl #[.int .i64 a1] rfl (by (try simp only [List.map_toArray, List.map_cons, List.map_nil]); first | done | rfl | (simp only [List.length_drop, List.length_take]; rfl)) ?_; (with_reducible refine (impl_isBase.calls a1 true _ A3.out).mono ?_); rintro e w' ⟨rfl, ⟨nd, rfl⟩⟩; refine ⟨_, rfl, ?_⟩) | (go_at_call 55; (with_reducible refine (impl_isWidth.calls a0 false _ A5.out).mono ?_); rintro e w' ⟨rfl, ⟨nd, rfl⟩⟩))
      go_ret
      exact ⟨by first | rfl | (simp; done) | (simp [*]; done), by repeat (first | exact Drawn0.refl _ | apply Drawn0.step)⟩
  · replace c4 := Bool.eq_false_iff.mpr c4
    subst c4
    have H1 : (some false) = some r := by rw [if_neg (show ¬ (false = true) by decide)] at H; exact H
    clear H
    have H := H1
    clear H1
    obtain rfl := Option.some.inj H
    go_enter Try.func64, Try.ntmps64
    go_wp2_with (first | ((with_reducible refine gate_callee (f := 54) rfl ?_); refine goesL_ (some 6) rfl rfl Try.func54 (by kernel_rfl) rfl #[.int .i64 a1] rfl (by (try simp only [List.map_toArray, List.map_cons, List.map_nil]); first | done | rfl | (simp only [List.length_drop, List.length_take]; rfl)) ?_; (with_reducible refine (impl_isBase.calls a1 false _ A3.out).mono ?_); rintro e w' ⟨rfl, ⟨nd, rfl⟩⟩; refine ⟨_, rfl, ?_⟩))
    go_ret
    exact ⟨by first | rfl | (simp; done) | (simp [*]; done), by repeat (first | exact Drawn0.refl _ | apply Drawn0.step)⟩

/-! ### impl_LongestTail: function 39 -/
/-! ### a row's numbers into a map, a way up to a number that the map knows, and back -/
def RC.in_ (v : Int) (c : List Int) : Nat → Int → (Int → Int) → Nat → Option ((Int → Int) × Nat)
  | 0, _, _, _ => none
  | k + 1, i, F, C => if i < (c.length : Int) then (if 0 ≤ i ∧ C < 4000000000 ∧ (Lit.int .i64 (rd c i)).wf = true then RC.in_ v c k (wrap64 (i + 1)) (GM.put F (rd c i) v) (C + 1) else none) else some (F, C)
def RC.rows (val : Int → Int) (rows : List (List Int)) : Nat → Int → (Int → Int) → Nat → Option ((Int → Int) × Nat)
  | 0, _, _, _ => none
  | k + 1, i, F, C => if i < (rows.length : Int) then (if 0 ≤ i then ((RC.in_ (val i) (rd_L1 rows i) k 0 F C).bind fun t => RC.rows val rows k (wrap64 (i + 1)) t.1 t.2) else none) else some (F, C)
def RC.way (a0 a1 : Int) (F : Int → Int) : Nat → List Int → Int → Option (List Int × Int)
  | 0, _, _ => none
  | k + 1, W, x => if (Lit.int .i64 x).wf = true ∧ W.length < 5000000000 then (if F x = 0 then ((impl_step.f k x a0 a1).bind fun x2 => RC.way a0 a1 F k (W ++ [x]) x2) else some (W, x)) else none
def RC.back (val : Int → Int → Int) (x : Int) (W : List Int) : Nat → Int → (Int → Int) → Nat → Option ((Int → Int) × Nat)
  | 0, _, _, _ => none
  | k + 1, i, F, C => if i < (W.length : Int) then (if 0 ≤ i ∧ C < 4000000000 ∧ (Lit.int .i64 (rd W i)).wf = true ∧ (Lit.int .i64 (val (F x) i)).wf = true ∧ (Lit.int .i64 x).wf = true then RC.back val x W k (wrap64 (i + 1)) (GM.put F (rd W i) (val (F x) i)) (C + 1) else none) else some (F, C)
theorem RC.mono_in (v : Int) (c : List Int) : ∀ k i F C, LeO (RC.in_ v c k i F C) (RC.in_ v c (k + 1) i F C)
  | 0, i, F, C => fun r h => by simp [RC.in_] at h
  | k + 1, i, F, C => by
    have ih := RC.mono_in v c k
    unfold RC.in_
    repeat' first
      | exact ih _ _ _
      | exact LeO.refl _
      | exact LeO.none _
      | refine LeO.ite ?_ ?_
theorem RC.mono_rows (val : Int → Int) (rows : List (List Int)) : ∀ k i F C, LeO (RC.rows val rows k i F C) (RC.rows val rows (k + 1) i F C)
  | 0, i, F, C => fun r h => by simp [RC.rows] at h
  | k + 1, i, F, C => by
    have ih := RC.mono_rows val rows k
    unfold RC.rows
    repeat' first
      | exact ih _ _ _
      | exact RC.mono_in _ _ _ _ _ _
      | exact LeO.refl _
      | exact LeO.none _
      | refine LeO.ite ?_ ?_
      | refine LeO.bind ?_ (fun _ => ?_)
theorem RC.mono_way (a0 a1 : Int) (F : Int → Int) : ∀ k W x, LeO (RC.way a0 a1 F k W x) (RC.way a0 a1 F (k + 1) W x)
  | 0, W, x => fun r h => by simp [RC.way] at h
  | k + 1, W, x => by
    have ih := RC.mono_way a0 a1 F k
    unfold RC.way
    repeat' first
      | exact ih _ _
      | exact impl_step.mono _ _ _ _
      | exact LeO.refl _
      | exact LeO.none _
      | refine LeO.ite ?_ ?_
      | refine LeO.bind ?_ (fun _ => ?_)
theorem RC.mono_back (val : Int → Int → Int) (x : Int) (W : List Int) : ∀ k i F C, LeO (RC.back val x W k i F C) (RC.back val x W (k + 1) i F C)
  | 0, i, F, C => fun r h => by simp [RC.back] at h
  | k + 1, i, F, C => by
    have ih := RC.mono_back val x W k
    unfold RC.back
    repeat' first
      | exact ih _ _ _
      | exact LeO.refl _
      | exact LeO.none _
      | refine LeO.ite ?_ ?_
theorem RC.one (W : World) (b : Nat) {v : Value} {xs : List Int} {base : Nat} {ok : Nat → Prop} (h : Kd.R (Kd.int .i64) 3 W base ok v xs) (hb : b ≤ base) : Kd.R (Kd.int .i64) 3 W b (fun j => b ≤ j) v xs := Kd.R_lower (Kd.R_mono (Kd.R_bound h) (fun j hj => Nat.le_trans hb hj.2.1)) hb

def impl_LongestTail.main (a0 a1 N : Int) : Nat → Int → Int → Int → (Int → Int) → Nat → Option (Int × Int)
  | 0, _, _, _, _, _ => none
  | k + 1, i, ms, wi, F, C => if i < N then ((RC.way a0 a1 F k [] i).bind fun t => ((impl_reversed.f k t.1).bind fun V => ((RC.back (fun v i => wrap64 (wrap64 (v + i) + 1)) t.2 V k 0 F C).bind fun u => (if (Lit.int .i64 i).wf = true then (if ms < wrap64 (u.1 i - 1) then impl_LongestTail.main a0 a1 N k (wrap64 (i + 1)) (wrap64 (u.1 i - 1)) i u.1 u.2 else impl_LongestTail.main a0 a1 N k (wrap64 (i + 1)) ms wi u.1 u.2) else none)))) else some (ms, wi)
def impl_LongestTail.f (k : Nat) (a0 a1 : Int) : Option (Int × List Int × Bool) := (impl_isFew.f k a0 a1).bind fun t1 => (if t1 = true then ((impl_gapCycles.f k a0 a1).bind fun rows => (if rows.length ≤ 1000000 then ((RC.rows (fun _ => 1) rows k 0 (fun _ => 0) 0).bind fun t => ((impl_toPower.f k a1 a0).bind fun N => ((impl_LongestTail.main a0 a1 N k 0 (-1) 0 t.1 t.2).bind fun m => ((impl_wordOf.f k m.2 a0 a1).bind fun wd => some (m.1, wd, true))))) else none)) else some (0, [], false))
theorem impl_LongestTail.mono_m (a0 a1 N : Int) : ∀ k i ms wi F C, LeO (impl_LongestTail.main a0 a1 N k i ms wi F C) (impl_LongestTail.main a0 a1 N (k + 1) i ms wi F C)
  | 0, i, ms, wi, F, C => fun r h => by simp [impl_LongestTail.main] at h
  | k + 1, i, ms, wi, F, C => by
    have ih := impl_LongestTail.mono_m a0 a1 N k
    unfold impl_LongestTail.main
    repeat' first
      | exact ih _ _ _ _ _
      | exact RC.mono_way _ _ _ _ _ _
      | exact RC.mono_back _ _ _ _ _ _ _
      | exact impl_reversed.mono _ _
      | exact LeO.refl _
      | exact LeO.none _
      | refine LeO.ite ?_ ?_
      | refine LeO.bind ?_ (fun _ => ?_)
theorem impl_LongestTail.mono : ∀ a0 a1 k, LeO (impl_LongestTail.f k a0 a1) (impl_LongestTail.f (k + 1) a0 a1) := by
  intro a0 a1 k
  unfold impl_LongestTail.f
  repeat' first
    | exact impl_LongestTail.mono_m _ _ _ _ _ _ _ _ _
    | exact RC.mono_rows _ _ _ _ _ _
    | exact impl_isFew.mono _ _ _
    | exact impl_gapCycles.mono _ _ _
    | exact impl_toPower.mono _ _ _
    | exact impl_wordOf.mono _ _ _ _
    | exact LeO.refl _
    | exact LeO.none _
    | refine LeO.ite ?_ ?_
    | refine LeO.bind ?_ (fun _ => ?_)
set_option maxHeartbeats 8000000 in
set_option maxRecDepth 100000 in
theorem impl_LongestTail.calls (k : Nat) (a0 : Int) (a1 : Int) (r1 : Int) (r2 : List Int) (r3 : Bool) (w : World) (h : impl_LongestTail.f k a0 a1 = some (r1, r2, r3)) :
    Calls Try.prog 39 #[.int .i64 a0, .int .i64 a1] w fun e w' => ∃ v0_ : Value, e = .returned (.tuple #[.int .i64 r1, v0_, .bool r3]) ∧ Kd.R (Kd.int .i64) 3 w' w.heap.size (fun _ => True) v0_ r2 ∧ Below w.heap.size w w' := by
  have HB := Aside0.mk (Below.refl w.heap.size w)
  have hmm := @run_makeMap Try.prog
  obtain ⟨t1, ht1, h⟩ := Option.bind_eq_some_iff.mp h
  have A3 := Aside0.mk ht1
  clear ht1
  by_cases c4 : t1 = true
  · subst c4
    rw [if_pos rfl] at h
    obtain ⟨rows, hrows, h⟩ := Option.bind_eq_some_iff.mp h
    by_cases c5 : rows.length ≤ 1000000
    · rw [if_pos c5] at h
      obtain ⟨⟨F9, C9⟩, ht9, h⟩ := Option.bind_eq_some_iff.mp h
      obtain ⟨N, hN, h⟩ := Option.bind_eq_some_iff.mp h
      obtain ⟨⟨ms9, wi9⟩, hO9, h⟩ := Option.bind_eq_some_iff.mp h
      obtain ⟨wd9, hwd, h⟩ := Option.bind_eq_some_iff.mp h
      simp only [Option.some.injEq, Prod.mk.injEq] at h
      obtain ⟨rfl, rfl, rfl⟩ := h
      have HMAIN : Aside0 (impl_LongestTail.main a0 a1 N k 0 (-1) 0 F9 C9 = some (ms9, wi9)) := ⟨hO9⟩
      have HWD : Aside0 (impl_wordOf.f k wi9 a0 a1 = some wd9) := ⟨hwd⟩
      clear hO9 hwd
      have HROWS := Aside0.mk hrows
      have H1 : Aside0 (RC.rows (fun _ => 1) rows k 0 (fun _ => 0) 0 = some (F9, C9)) := ⟨ht9⟩
      have HN := Aside0.mk hN
      have HRL := Aside0.mk c5
      clear hrows ht9 hN c5
      go_enter Try.func39, Try.ntmps39
      go_wp2_with (first | (go_at_call 64; (with_reducible refine (impl_isFew.calls k a0 a1 true _ A3.out).mono ?_); rintro e w_ ⟨rfl, ⟨nd, rfl⟩⟩) | (go_at_call 58; (with_reducible refine (impl_gapCycles.calls k a0 a1 rows _ HROWS.out).mono ?_); rintro e w2 ⟨v2, rfl, ho, hb⟩; have HR2 := Aside0.mk (Kd.S_bound ho); have HB2 := Aside0.mk (below_step (by repeat (first | (with_reducible first | exact HB.out | apply below_alloc | apply pw_below_drewN | apply below_drew1) | exact HB.out)) hb); have HM2 := Aside0.mk ((GM.made (w.drewN nd)).below hb); have HS2 := Aside0.mk hb.size; obtain ⟨A2, c2, e2⟩ := Kd.S_slice HR2.out; subst e2; clear ho hb))
      obtain ⟨gM, hgM⟩ : ∃ g, g = w.heap.size := ⟨_, rfl⟩
      obtain ⟨n2, hn2⟩ : ∃ n, n = w2.heap.size := ⟨_, rfl⟩
      obtain ⟨okO, hokO⟩ : ∃ p : Nat → Prop, p = fun _ => False := ⟨_, rfl⟩
      have HOK := Aside0.mk hokO
      have hs2 := HS2.out
      simp at hs2
      have HGB : Aside0 (w.heap.size ≤ gM) := ⟨by omega⟩
      have HGL : Aside0 (gM < n2) := ⟨by omega⟩
      have HRb : Aside0 (Kd.S (Kd.slice 3 (Kd.int .i64)) 22 w2 w.heap.size (fun j => j < n2 ∧ j ≠ gM ∧ ¬ okO j) (.slice A2 rows.length c2) rows) := ⟨Kd.S_lower (Kd.S_mono HR2.out (fun j hj => by rw [HOK.out]; have h1_ := hj.2.2.1; have h2_ := hj.2.1; simp at h2_; exact ⟨by omega, by omega, fun h => h⟩)) (by simp)⟩
      have HMb : Aside0 (GM.St (fun _ => 0) 0 gM w2) := ⟨by rw [hgM]; exact HM2.out⟩
      have HZb : Aside0 (n2 ≤ w2.heap.size) := ⟨by omega⟩
      have HBb := HB2
      rw [← hgM]
      clear hgM hn2 hokO hs2 HR2 HB HB2 HM2 HS2
      go_loopg [28] k (fun kq v28 wr => ∃ (F : Int → Int) (C : Nat) (i : Int), v28 = .int .i64 i ∧ Aside0 (RC.rows (fun _ => 1) rows kq i F C = some (F9, C9)) ∧ Aside0 (kq ≤ k) ∧ Aside0 (Kd.S (Kd.slice 3 (Kd.int .i64)) 22 wr w.heap.size (fun j => j < n2 ∧ j ≠ gM ∧ ¬ okO j) (.slice A2 rows.length c2) rows) ∧ Aside0 (GM.St F C gM wr) ∧ Aside0 (Below w.heap.size w wr) ∧ Aside0 (n2 ≤ wr.heap.size))
      case atStart => exact ⟨_, _, 0, rfl, H1, ⟨Nat.le_refl _⟩, HRb, HMb, HBb, HZb⟩
      case round =>
        clear H1 HRb HMb HBb HZb
        obtain ⟨F, C, i, rfl, HA, HK1, HR, HM, HB, HZ⟩ := hrel
        obtain ⟨wo, rfl⟩ : ∃ x, x = wr := ⟨wr, rfl⟩
        cases gk with
        | zero => exact absurd HA.out (by simp [RC.rows])
        | succ k1 =>
          have H := HA.out
          clear HA
          simp only [RC.rows] at H
          by_cases q1 : i < (rows.length : Int)
          · rw [if_pos q1] at H
            by_cases q2 : 0 ≤ i
            · rw [if_pos q2] at H
              obtain ⟨⟨F2, C2⟩, h2, H⟩ := Option.bind_eq_some_iff.mp H
              have HIN : Aside0 (RC.in_ ((fun _ => 1) i) (rd_L1 rows i) k1 0 F C = some (F2, C2)) := ⟨h2⟩
              have HE : Aside0 (RC.rows (fun _ => 1) rows k1 (wrap64 (i + 1)) F2 C2 = some (F9, C9)) := ⟨H⟩
              obtain ⟨g2, cap2, eg, _⟩ := Kd.S_form HR.out (by omega)
              injection eg with ea ec ed
              subst ea ed
              obtain ⟨ce, hce, hMe, hcc⟩ := Kd.S_get HR.out [] i q2 (by omega)
              obtain ⟨ve, rfl, ge⟩ := hMe
              have hx0 := hcc 0 _ rfl
              rw [Nat.add_zero, show (Kd.slice 3 (Kd.int .i64)).sz = 1 from rfl, Nat.mul_one, add_at, Nat.zero_add] at hx0
              have HL : Aside0 (Kd.R (Kd.int .i64) 3 wo w.heap.size (fun j => j < n2 ∧ j ≠ gM) ve (rd_L1 rows i)) := ⟨Kd.R_mono (show Kd.R (Kd.int .i64) 3 wo w.heap.size _ ve (rd_L1 rows i) from ge) (fun j hj => ⟨hj.1.1, hj.1.2.1⟩)⟩
              obtain ⟨A0, c0, e0⟩ := Kd.R_slice HL.out
              subst e0
              have q1b : decide (i < (rows.length : Int)) = true := decide_eq_true q1
              have p1 : (0 ≤ i) = True := eq_true q2
              have p2 : (i < (rows.length : Int)) = True := eq_true q1
              clear h2 H q1 q2 hcc hce ge ec
              go_wp2
              clear hx0
              go_loopg [34] k1 (fun kq v34 wi => ∃ (F : Int → Int) (C : Nat) (j : Int), v34 = .int .i64 j ∧ Aside0 (RC.in_ ((fun _ => 1) i) (rd_L1 rows i) kq j F C = some (F2, C2)) ∧ Aside0 (kq ≤ k1) ∧ Aside0 (Kd.R (Kd.int .i64) 3 wi w.heap.size (fun j => j < n2 ∧ j ≠ gM) (.slice A0 (rd_L1 rows i).length c0) (rd_L1 rows i)) ∧ Aside0 (Kd.S (Kd.slice 3 (Kd.int .i64)) 22 wi w.heap.size (fun j => j < n2 ∧ j ≠ gM ∧ ¬ okO j) (.slice (some ⟨g2, 0, none⟩) rows.length c2) rows) ∧ Aside0 (GM.St F C gM wi) ∧ Aside0 (Below w.heap.size w wi) ∧ Aside0 (n2 ≤ wi.heap.size))
              case atStart => exact ⟨F, C, 0, rfl, HIN, ⟨Nat.le_refl _⟩, HL, HR, HM, HB, HZ⟩
              case round =>
                clear HIN HL HR HM HB HZ q1b p1 p2
                obtain ⟨F, C, j, rfl, HA, HK2, HL, HR, HM, HB, HZ⟩ := hrel
                cases gk with
                | zero => exact absurd HA.out (by simp [RC.in_])
                | succ k2 =>
                  have H := HA.out
                  clear HA
                  simp only [RC.in_] at H
                  by_cases q3 : j < ((rd_L1 rows i).length : Int)
                  · rw [if_pos q3] at H
                    by_cases q4 : 0 ≤ j ∧ C < 4000000000 ∧ (Lit.int .i64 (rd (rd_L1 rows i) j)).wf = true
                    · rw [if_pos q4] at H
                      have HE2 := Aside0.mk H
                      obtain ⟨adx, eax, hxj⟩ := Kd.at_int (Kd.R_reads' HL.out).2.2 j q4.1 q3
                      subst eax
                      have HCL := Aside0.mk q4.2.1
                      have HKEY := Aside0.mk (show keyOf Try.prog 3 (.int .i64 (rd (rd_L1 rows i) j)) = some (.int .i64 (rd (rd_L1 rows i) j)) from Go.Maps.keyOf_int_mk Try.underlying3 q4.2.2)
                      have q3b : decide (j < ((rd_L1 rows i).length : Int)) = true := decide_eq_true q3
                      have p3 : (0 ≤ j) = True := eq_true q4.1
                      have p4 : (j < ((rd_L1 rows i).length : Int)) = True := eq_true q3
                      clear H q3 q4
                      obtain ⟨cM, D, hcM, hown, hism, hat0⟩ := HM.out
                      have HCM := Aside0.mk hcM
                      have HOWN := Aside0.mk hown
                      have HISM := Aside0.mk hism
                      have HAT := Aside0.mk hat0
                      clear hcM hown hism hat0
                      go_wp2_with (first | (at_mapUpdate; refine wpList_mapUpdate_own _ rfl _ _ _ 64 rfl 3 3 (Go.Maps.int_keyed Try.underlying3) Try.underlying64 _ gM cM _ rfl HOWN.out (by have := HCL.out; have := HCM.out; unfold maxLen; omega) _ _ _ rfl rfl HKEY.out _ [] (plainElem_int Try.underlying3 (by decide)) ?_; intro w4 hown1 hgrow1; have HM4 := Aside0.mk (GM.put_st (n := rd (rd_L1 rows i) j) (v := 1) HCM.out hown1 HISM.out HAT.out); have HR4 := Aside0.mk (Kd.S_grown HR.out hgrow1 (fun j hj e => by cases e; exact hj.2.1 rfl)); have HB4 := Aside0.mk (HB.out.grown hgrow1 HB.out.size (fun j hj => by cases hj; exact HGB.out)); have HZ4 : Aside0 (n2 ≤ w4.heap.size) := ⟨Nat.le_trans HZ.out hgrow1.size⟩; have HL4 := Aside0.mk (Kd.R_grown HL.out hgrow1 (fun j hj e => by cases e; exact hj.2 rfl)); clear hown1 hgrow1))
                      go_roundg k2
                      case measure => have := HK2.out; omega
                      case rel => exact ⟨_, C + 1, _, rfl, HE2, ⟨by have := HK2.out; omega⟩, HL4, HR4, HM4, HB4, HZ4⟩
                    · rw [if_neg q4] at H
                      cases H
                  · rw [if_neg q3] at H
                    simp only [Option.some.injEq, Prod.mk.injEq] at H
                    obtain ⟨rfl, rfl⟩ := H
                    have q3b : decide (j < ((rd_L1 rows i).length : Int)) = false := decide_eq_false q3
                    clear q3
                    go_wp2
                    go_roundg k1
                    case measure => have := HK1.out; omega
                    case rel => exact ⟨_, _, _, rfl, HE, ⟨by have := HK1.out; omega⟩, HR, HM, HB, HZ⟩
            · rw [if_neg q2] at H
              cases H
          · rw [if_neg q1] at H
            simp only [Option.some.injEq, Prod.mk.injEq] at H
            obtain ⟨rfl, rfl⟩ := H
            have q1b : decide (i < (rows.length : Int)) = false := decide_eq_false q1
            clear q1 HR
            go_wp2_with (first | (go_at_call 65; (with_reducible refine (impl_toPower.calls k a1 a0 N _ HN.out).mono ?_); rintro e w_ ⟨rfl, ⟨nd2, rfl⟩⟩; have hb_ := pw_below_drewN (Below.refl wo.heap.size wo) nd2; have HM5 := Aside0.mk (HM.out.below hb_); have HB5 := Aside0.mk (below_step HB.out hb_); have HZ5 : Aside0 (n2 ≤ (World.drewN wo nd2).heap.size) := ⟨Nat.le_trans HZ.out (hb_).size⟩; clear hb_))
            go_loopg [8, 9, 45] k (fun kq v8 v9 v45 wr => ∃ (i ms wi : Int) (F : Int → Int) (C : Nat), v45 = .int .i64 i ∧ v8 = .int .i64 ms ∧ v9 = .int .i64 wi ∧ Aside0 (impl_LongestTail.main a0 a1 N kq i ms wi F C = some (ms9, wi9)) ∧ Aside0 (kq ≤ k) ∧ Aside0 (GM.St F C gM wr) ∧ Aside0 (Below w.heap.size w wr) ∧ Aside0 (n2 ≤ wr.heap.size))
            case atStart => exact ⟨0, -1, 0, _, _, rfl, rfl, rfl, HMAIN, ⟨Nat.le_refl _⟩, HM5, HB5, HZ5⟩
            case round =>
              clear HMAIN HM5 HB5 HZ5 HM HB HZ q1b
              obtain ⟨i, ms, wi, F, C, rfl, rfl, rfl, HA, HK4, HM, HB, HZ⟩ := hrel
              obtain ⟨wm, rfl⟩ : ∃ x, x = wr := ⟨wr, rfl⟩
              cases gk with
              | zero => exact absurd HA.out (by simp [impl_LongestTail.main])
              | succ k4 =>
                have H := HA.out
                clear HA
                simp only [impl_LongestTail.main] at H
                by_cases q5 : i < N
                · rw [if_pos q5] at H
                  obtain ⟨⟨W2, x2⟩, hw, H⟩ := Option.bind_eq_some_iff.mp H
                  obtain ⟨V2, hV, H⟩ := Option.bind_eq_some_iff.mp H
                  have HV : Aside0 (impl_reversed.f k4 W2 = some V2) := ⟨hV⟩
                  obtain ⟨⟨F3, C3⟩, hbk, H⟩ := Option.bind_eq_some_iff.mp H
                  have HWAY : Aside0 (RC.way a0 a1 F k4 [] i = some (W2, x2)) := ⟨hw⟩
                  have HBK : Aside0 (RC.back (fun v i => wrap64 (wrap64 (v + i) + 1)) x2 V2 k4 0 F C = some (F3, C3)) := ⟨hbk⟩
                  have HE : Aside0 ((if (Lit.int .i64 i).wf = true then (if ms < wrap64 (F3 i - 1) then impl_LongestTail.main a0 a1 N k4 (wrap64 (i + 1)) (wrap64 (F3 i - 1)) i F3 C3 else impl_LongestTail.main a0 a1 N k4 (wrap64 (i + 1)) ms wi F3 C3) else none) = some (ms9, wi9)) := ⟨H⟩
                  have q5b : decide (i < N) = true := decide_eq_true q5
                  have HNIL := Aside0.mk (GM.nil wm gM HM.out.lt)
                  have HM6 := Aside0.mk (HM.out.below (below_alloc (Below.refl _ _) (.cells #[] 3)))
                  have HB6 := Aside0.mk (below_step HB.out (below_alloc (Below.refl _ _) (.cells #[] 3)))
                  have HZ6 : Aside0 (n2 ≤ (wm.alloc (.cells #[] 3)).heap.size) := ⟨Nat.le_trans HZ.out ((below_alloc (Below.refl _ _) (.cells #[] 3))).size⟩
                  have HZm : Aside0 (wm.heap.size ≤ (wm.alloc (.cells #[] 3)).heap.size) := ⟨by simp⟩
                  have HZw := HZ
                  clear HM HB HZ H q5 hw hbk hV
                  go_wp2
                  go_loopg [15, 16] k4 (fun kq v15 v16 wi => ∃ (W : List Int) (x : Int), v16 = .int .i64 x ∧ Aside0 (RC.way a0 a1 F kq W x = some (W2, x2)) ∧ Aside0 (kq ≤ k4) ∧ Aside0 (Kd.R (Kd.int .i64) 3 wi wm.heap.size (fun j => j ≠ gM) v15 W) ∧ Aside0 (GM.St F C gM wi) ∧ Aside0 (Below w.heap.size w wi) ∧ Aside0 (n2 ≤ wi.heap.size) ∧ Aside0 (wm.heap.size ≤ wi.heap.size))
                  case atStart => exact ⟨[], i, rfl, HWAY, ⟨Nat.le_refl _⟩, HNIL, HM6, HB6, HZ6, HZm⟩
                  case round =>
                    clear HWAY HNIL HZm HM6 HB6 HZ6 q5b
                    obtain ⟨W, x, rfl, HA, HK5, HW, HM, HB, HZ, HZi⟩ := hrel
                    cases gk with
                    | zero => exact absurd HA.out (by simp [RC.way])
                    | succ k5 =>
                      have H := HA.out
                      clear HA
                      simp only [RC.way] at H
                      obtain ⟨Aw, cw, ew⟩ := Kd.R_slice HW.out
                      subst ew
                      by_cases hg : (Lit.int .i64 x).wf = true ∧ W.length < 5000000000
                      · rw [if_pos hg] at H
                        have HG := Aside0.mk hg
                        clear hg
                        have HKEY := Aside0.mk (show keyOf Try.prog 3 (.int .i64 x) = some (.int .i64 x) from Go.Maps.keyOf_int_mk Try.underlying3 HG.out.1)
                        obtain ⟨cM, D, hcM, hown, hism, hat0⟩ := HM.out
                        have HCM := Aside0.mk hcM
                        have HOWN := Aside0.mk hown
                        have HISM := Aside0.mk hism
                        have HAT := Aside0.mk hat0
                        clear hcM hown hism hat0
                        by_cases hz : F x = 0
                        · rw [if_pos hz] at H
                          obtain ⟨x3, hs, H⟩ := Option.bind_eq_some_iff.mp H
                          have HST := Aside0.mk hs
                          have HE5 := Aside0.mk H
                          clear hs H
                          go_wp2_with (first | (at_lookup; refine wpList_lookup_own_int _ rfl _ _ 64 rfl 3 3 .i64 (Go.Maps.int_keyed Try.underlying3) Try.underlying64 Try.underlying3 (GM.zero3 _) gM cM D rfl HOWN.out _ _ rfl HKEY.out ?_; intro cz hat hwc; obtain rfl : cz = F (x) := GM.int (hat.symm.trans (HAT.out (x))); clear hat hwc) | (at_builtin; refine Kd.R_append (Kd.int .i64) (w0 := wr) wm.heap.size rfl (.tmp 58) (.tmp 60) 22 3 (.int .i64 0) 8 rfl Try.underlying22 info3 rfl (by decide) (by omega) (.slice Aw W.length cw) W x [.int .i64 x] (fun j => j ≠ gM) (fun _ => False) rfl rfl ?aP (fun _ hk => hk.elim) ?aF HW.out ?aB ?aS ?aL ?_; (case aP => exact rfl); (case aF => intro j hj e; have := HM.out.lt; omega); (case aB => exact (Below.refl _ _).mono HZi.out); (case aS => exact HZi.out); (case aL => have := HG.out.2; omega); intro v5 w5 ho hb hg hat; have HW5 := Aside0.mk ho; have HM5 := Aside0.mk (HM.out.kept hg (fun e => HW.out.1 gM e.symm rfl)); have HB5 := Aside0.mk (HB.out.grown hg HB.out.size (fun j hj => by have := Kd.R_base HW.out j hj; have := HZw.out; have := HGB.out; have := HGL.out; omega)); have HZ5 : Aside0 (n2 ≤ w5.heap.size) := ⟨Nat.le_trans HZ.out hg.size⟩; have HZi5 : Aside0 (wm.heap.size ≤ w5.heap.size) := ⟨Nat.le_trans HZi.out hg.size⟩; clear ho hb hg hat) | (go_at_call 66; (with_reducible refine (impl_step.calls k5 x a0 a1 x3 _ HST.out).mono ?_); rintro e w6 ⟨rfl, hb⟩; have HM6 := Aside0.mk (HM5.out.below hb); have HB6 := Aside0.mk (below_step HB5.out hb); have HZ6 : Aside0 (n2 ≤ w6.heap.size) := ⟨Nat.le_trans HZ5.out (hb).size⟩; have HW6 := Aside0.mk (Kd.R_below HW5.out hb); have HZi6 : Aside0 (wm.heap.size ≤ w6.heap.size) := ⟨Nat.le_trans HZi5.out hb.size⟩; clear hb))
                          go_roundg k5
                          case measure => have := HK5.out; omega
                          case rel => exact ⟨W ++ [x], x3, rfl, HE5, ⟨by have := HK5.out; omega⟩, HW6, HM6, HB6, HZ6, HZi6⟩
                        · rw [if_neg hz] at H
                          simp only [Option.some.injEq, Prod.mk.injEq] at H
                          obtain ⟨rfl, rfl⟩ := H
                          have hzb : (F x == 0) = false := beq_eq_false_iff_ne.mpr hz
                          clear hz
                          go_wp2_with (first | (at_lookup; refine wpList_lookup_own_int _ rfl _ _ 64 rfl 3 3 .i64 (Go.Maps.int_keyed Try.underlying3) Try.underlying64 Try.underlying3 (GM.zero3 _) gM cM D rfl HOWN.out _ _ rfl HKEY.out ?_; intro cz hat hwc; obtain rfl : cz = F (x) := GM.int (hat.symm.trans (HAT.out (x))); clear hat hwc) | (go_at_call 68; (with_reducible refine (impl_reversed.calls k4 Aw cw W V2 _ (Kd.R_reads' HW.out).2.2 (Kd.R_reads' HW.out).2.1 HV.out).mono ?_); rintro e w7 ⟨vv, rfl, ho, hb⟩; have HVV := Aside0.mk (Kd.R_mono (Kd.R_bound ho) (ok' := fun j => j ≠ gM) (fun j hj => by have := hj.2.1; have := HZ.out; have := HGL.out; omega)); have HM7 := Aside0.mk (HM.out.below hb); have HB7 := Aside0.mk (below_step HB.out hb); have HZ7 : Aside0 (n2 ≤ w7.heap.size) := ⟨Nat.le_trans HZ.out (hb).size⟩; obtain ⟨Av, cv, ev⟩ := Kd.R_slice HVV.out; subst ev; clear ho hb))
                          skip
                          go_loopg [65] k4 (fun kq v65 wb => ∃ (F' : Int → Int) (C' : Nat) (j : Int), v65 = .int .i64 j ∧ Aside0 (RC.back (fun v i => wrap64 (wrap64 (v + i) + 1)) x V2 kq j F' C' = some (F3, C3)) ∧ Aside0 (kq ≤ k4) ∧ Aside0 (Kd.R (Kd.int .i64) 3 wb wr.heap.size (fun j => j ≠ gM) (.slice Av V2.length cv) V2) ∧ Aside0 (GM.St F' C' gM wb) ∧ Aside0 (Below w.heap.size w wb) ∧ Aside0 (n2 ≤ wb.heap.size))
                          case atStart => exact ⟨F, C, 0, rfl, HBK, ⟨Nat.le_refl _⟩, HVV, HM7, HB7, HZ7⟩
                          case round =>
                            clear HBK HVV HM7 HB7 HZ7 HCM HOWN HISM HAT hzb HW HM HB HZ
                            obtain ⟨F', C', j, rfl, HA, HK6, HV, HM, HB, HZ⟩ := hrel
                            have hx1 := HG.out.1
                            cases gk with
                            | zero => exact absurd HA.out (by simp [RC.back])
                            | succ k6 =>
                              have H := HA.out
                              clear HA
                              simp only [RC.back] at H
                              by_cases q6 : j < (V2.length : Int)
                              · rw [if_pos q6] at H
                                by_cases q7 : 0 ≤ j ∧ C' < 4000000000 ∧ (Lit.int .i64 (rd V2 j)).wf = true ∧ (Lit.int .i64 (wrap64 (wrap64 (F' x + j) + 1))).wf = true ∧ (Lit.int .i64 x).wf = true
                                · rw [if_pos q7] at H
                                  have HE6 := Aside0.mk H
                                  obtain ⟨adx, eax, hxj⟩ := Kd.at_int (Kd.R_reads' HV.out).2.2 j q7.1 q6
                                  subst eax
                                  have HCL := Aside0.mk q7.2.1
                                  have HVW := Aside0.mk q7.2.2.2.1
                                  have HKEY2 := Aside0.mk (show keyOf Try.prog 3 (.int .i64 (rd V2 j)) = some (.int .i64 (rd V2 j)) from Go.Maps.keyOf_int_mk Try.underlying3 q7.2.2.1)
                                  have q6b : decide (j < (V2.length : Int)) = true := decide_eq_true q6
                                  have p3 : (0 ≤ j) = True := eq_true q7.1
                                  have p4 : (j < (V2.length : Int)) = True := eq_true q6
                                  clear H q6 q7 hx1
                                  obtain ⟨cM, D, hcM, hown, hism, hat0⟩ := HM.out
                                  have HCM := Aside0.mk hcM
                                  have HOWN := Aside0.mk hown
                                  have HISM := Aside0.mk hism
                                  have HAT := Aside0.mk hat0
                                  clear hcM hown hism hat0
                                  go_wp2_with (first | (at_lookup; refine wpList_lookup_own_int _ rfl _ _ 64 rfl 3 3 .i64 (Go.Maps.int_keyed Try.underlying3) Try.underlying64 Try.underlying3 (GM.zero3 _) gM cM D rfl HOWN.out _ _ rfl HKEY.out ?_; intro cz hat hwc; obtain rfl : cz = F' (x) := GM.int (hat.symm.trans (HAT.out (x))); clear hat hwc) | (at_mapUpdate; refine wpList_mapUpdate_own _ rfl _ _ _ 64 rfl 3 3 (Go.Maps.int_keyed Try.underlying3) Try.underlying64 _ gM cM _ rfl HOWN.out (by have := HCL.out; have := HCM.out; unfold maxLen; omega) _ _ _ rfl rfl HKEY2.out _ [] (plainElem_int Try.underlying3 HVW.out) ?_; intro w4 hown1 hgrow1; have HM4 := Aside0.mk (GM.put_st (n := rd V2 j) (v := wrap64 (wrap64 (F' x + j) + 1)) HCM.out hown1 HISM.out HAT.out); have HB4 := Aside0.mk (HB.out.grown hgrow1 HB.out.size (fun j hj => by cases hj; exact HGB.out)); have HZ4 : Aside0 (n2 ≤ w4.heap.size) := ⟨Nat.le_trans HZ.out hgrow1.size⟩; have HV4 := Aside0.mk (Kd.R_grown HV.out hgrow1 (fun j hj e => by cases e; exact hj rfl)); clear hown1 hgrow1))
                                  go_roundg k6
                                  case measure => have := HK6.out; omega
                                  case rel => exact ⟨_, C' + 1, _, rfl, HE6, ⟨by have := HK6.out; omega⟩, HV4, HM4, HB4, HZ4⟩
                                · rw [if_neg q7] at H
                                  cases H
                              · rw [if_neg q6] at H
                                simp only [Option.some.injEq, Prod.mk.injEq] at H
                                obtain ⟨rfl, rfl⟩ := H
                                have q6b : decide (j < (V2.length : Int)) = false := decide_eq_false q6
                                have h8 := HE.out
                                clear q6
                                by_cases q8 : (Lit.int .i64 i).wf = true
                                · rw [if_pos q8] at h8
                                  have HKEY3 := Aside0.mk (show keyOf Try.prog 3 (.int .i64 i) = some (.int .i64 i) from Go.Maps.keyOf_int_mk Try.underlying3 q8)
                                  by_cases q9 : ms < wrap64 (F' i - 1)
                                  · rw [if_pos q9] at h8
                                    have HE8 := Aside0.mk h8
                                    have q9b : decide (ms < wrap64 (F' i - 1)) = true := decide_eq_true q9
                                    clear h8 q8 q9 hx1
                                    obtain ⟨cM, D, hcM, hown, hism, hat0⟩ := HM.out
                                    have HCM := Aside0.mk hcM
                                    have HOWN := Aside0.mk hown
                                    have HISM := Aside0.mk hism
                                    have HAT := Aside0.mk hat0
                                    clear hcM hown hism hat0
                                    go_wp2_with (first | (at_lookup; refine wpList_lookup_own_int _ rfl _ _ 64 rfl 3 3 .i64 (Go.Maps.int_keyed Try.underlying3) Try.underlying64 Try.underlying3 (GM.zero3 _) gM cM D rfl HOWN.out _ _ rfl HKEY3.out ?_; intro cz hat hwc; obtain rfl : cz = F' (i) := GM.int (hat.symm.trans (HAT.out (i))); clear hat hwc))
                                    go_roundg k4
                                    case measure => have := HK4.out; omega
                                    case rel => exact ⟨wrap64 (i + 1), _, _, F', C', rfl, rfl, rfl, HE8, ⟨by have := HK4.out; omega⟩, HM, HB, HZ⟩
                                  · rw [if_neg q9] at h8
                                    have HE8 := Aside0.mk h8
                                    have q9b : decide (ms < wrap64 (F' i - 1)) = false := decide_eq_false q9
                                    clear h8 q8 q9 hx1
                                    obtain ⟨cM, D, hcM, hown, hism, hat0⟩ := HM.out
                                    have HCM := Aside0.mk hcM
                                    have HOWN := Aside0.mk hown
                                    have HISM := Aside0.mk hism
                                    have HAT := Aside0.mk hat0
                                    clear hcM hown hism hat0
                                    go_wp2_with (first | (at_lookup; refine wpList_lookup_own_int _ rfl _ _ 64 rfl 3 3 .i64 (Go.Maps.int_keyed Try.underlying3) Try.underlying64 Try.underlying3 (GM.zero3 _) gM cM D rfl HOWN.out _ _ rfl HKEY3.out ?_; intro cz hat hwc; obtain rfl : cz = F' (i) := GM.int (hat.symm.trans (HAT.out (i))); clear hat hwc))
                                    go_roundg k4
                                    case measure => have := HK4.out; omega
                                    case rel => exact ⟨wrap64 (i + 1), ms, wi, F', C', rfl, rfl, rfl, HE8, ⟨by have := HK4.out; omega⟩, HM, HB, HZ⟩
                                · rw [if_neg q8] at h8
                                  cases h8
                      · rw [if_neg hg] at H
                        cases H
                · rw [if_neg q5] at H
                  have q5b : decide (i < N) = false := decide_eq_false q5
                  clear q5
                  simp only [Option.some.injEq, Prod.mk.injEq] at H
                  obtain ⟨rfl, rfl⟩ := H
                  go_wp2_with (first | (go_at_call 43; (with_reducible refine (impl_wordOf.calls k wi a0 a1 wd9 _ HWD.out).mono ?_); rintro e w7 ⟨vv, rfl, ho, hb⟩; have HVV := Aside0.mk (Kd.R_lower ho HB.out.size); have HB7 := Aside0.mk (below_step HB.out hb); clear ho hb))
                  go_ret3
                  exact ⟨_, rfl, Kd.R_mono HVV.out (fun _ _ => trivial), HB7.out⟩
    · rw [if_neg c5] at h
      cases h
  · replace c4 := Bool.eq_false_iff.mpr c4
    subst c4
    rw [if_neg (show ¬ (false = true) by decide)] at h
    simp only [Option.some.injEq, Prod.mk.injEq] at h
    obtain ⟨rfl, rfl, rfl⟩ := h
    go_enter Try.func39, Try.ntmps39
    go_wp2_with (first | (go_at_call 64; (with_reducible refine (impl_isFew.calls k a0 a1 false _ A3.out).mono ?_); rintro e w_ ⟨rfl, ⟨nd, rfl⟩⟩))
    go_ret3
    exact ⟨_, rfl, Kd.R_nil _ _ _ _ _, (by repeat (first | (with_reducible first | exact HB.out | apply below_alloc | apply pw_below_drewN | apply below_drew1) | exact HB.out))⟩

/-! ### laws_FnExactLongestTail: function 11 -/
def laws_FnExactLongestTail.j0 : Nat → Int → Int → Int → List Int → Bool → List Int → Bool → Option (Bool)
  | 0, _, _, _, _, _, _, _ => none
  | k + 1, x0, x1, x5, x6, x7, x9, x43 => if x43 = true then (some false) else ((laws_markIntS.f k x9 1).bind fun bt365 => ((laws_heldIntS.f k bt365.2 1).bind fun t367 => (if t367 < 0 then (some false) else (if t367 = bt365.1 then ((impl_LongestTail.f k x0 x1).bind fun bt368 => (if bt368.1 = x5 then ((laws_eqIntS.f k bt368.2.1 x6).bind fun t373 => (if t373 = true then (if (bt368.2.2 != x7) = true then (some false) else ((laws_heldIntS.f k bt365.2 1).bind fun t374 => (if t374 < 0 then (some false) else (if t374 = bt365.1 then (some true) else (some false))))) else (some false))) else (some false))) else (some false)))))
def laws_FnExactLongestTail.f (k : Nat) (a0 : Int) (a1 : Int) : Option (Bool) := (spec_LongestTail.f k a0 a1).bind fun bt354 => ((impl_LongestTail.f k a0 a1).bind fun bt359 => (if bt359.1 = bt354.1 then ((laws_eqIntS.f k bt359.2.1 bt354.2.1).bind fun t364 => (if t364 = true then (laws_FnExactLongestTail.j0 k a0 a1 bt354.1 bt354.2.1 bt354.2.2 bt359.2.1 (bt359.2.2 != bt354.2.2)) else (laws_FnExactLongestTail.j0 k a0 a1 bt354.1 bt354.2.1 bt354.2.2 bt359.2.1 true))) else (laws_FnExactLongestTail.j0 k a0 a1 bt354.1 bt354.2.1 bt354.2.2 bt359.2.1 true)))
theorem laws_FnExactLongestTail.mono_l : ∀ k, (∀ y0 y1 y2 y3 y4 y5 y6, LeO (laws_FnExactLongestTail.j0 k y0 y1 y2 y3 y4 y5 y6) (laws_FnExactLongestTail.j0 (k + 1) y0 y1 y2 y3 y4 y5 y6))
  | 0 => fun _ _ _ _ _ _ _ r h => by simp [laws_FnExactLongestTail.j0] at h
  | k + 1 => by
    have ih0 := laws_FnExactLongestTail.mono_l k
    · intro y0 y1 y2 y3 y4 y5 y6
      unfold laws_FnExactLongestTail.j0
      repeat' first
      | (with_reducible exact ih0 _ _ _ _ _ _ _)
      | (with_reducible exact impl_LongestTail.mono _ _ _)
      | (with_reducible exact laws_eqIntS.mono _ _ _)
      | (with_reducible exact laws_heldIntS.mono _ _ _)
      | (with_reducible exact laws_markIntS.mono _ _ _)
      | (with_reducible exact spec_LongestTail.mono _ _ _)
      | (with_reducible exact LeO.refl _)
      | (with_reducible exact LeO.none _)
      | (with_reducible refine LeO.ite ?_ ?_)
      | (with_reducible refine LeO.bind ?_ (fun _ => ?_))
      | exact ih0 _ _ _ _ _ _ _
      | exact impl_LongestTail.mono _ _ _
      | exact laws_eqIntS.mono _ _ _
      | exact laws_heldIntS.mono _ _ _
      | exact laws_markIntS.mono _ _ _
      | exact spec_LongestTail.mono _ _ _
      | exact LeO.none _
      | refine LeO.ite ?_ ?_
      | refine LeO.bind ?_ (fun _ => ?_)
theorem laws_FnExactLongestTail.mono : ∀ a0 a1 k, LeO (laws_FnExactLongestTail.f k a0 a1) (laws_FnExactLongestTail.f (k + 1) a0 a1) := by
  intro a0 a1 k
  have ih0 := laws_FnExactLongestTail.mono_l k
  unfold laws_FnExactLongestTail.f
  repeat' first
      | (with_reducible exact ih0 _ _ _ _ _ _ _)
      | (with_reducible exact impl_LongestTail.mono _ _ _)
      | (with_reducible exact laws_eqIntS.mono _ _ _)
      | (with_reducible exact laws_heldIntS.mono _ _ _)
      | (with_reducible exact laws_markIntS.mono _ _ _)
      | (with_reducible exact spec_LongestTail.mono _ _ _)
      | (with_reducible exact LeO.refl _)
      | (with_reducible exact LeO.none _)
      | (with_reducible refine LeO.ite ?_ ?_)
      | (with_reducible refine LeO.bind ?_ (fun _ => ?_))
      | exact ih0 _ _ _ _ _ _ _
      | exact impl_LongestTail.mono _ _ _
      | exact laws_eqIntS.mono _ _ _
      | exact laws_heldIntS.mono _ _ _
      | exact laws_markIntS.mono _ _ _
      | exact spec_LongestTail.mono _ _ _
      | exact LeO.none _
      | refine LeO.ite ?_ ?_
      | refine LeO.bind ?_ (fun _ => ?_)
set_option maxHeartbeats 8000000 in
set_option maxRecDepth 100000 in
theorem laws_FnExactLongestTail.calls (k : Nat) (a0 : Int) (a1 : Int) (r : Bool) (w : World) (h : laws_FnExactLongestTail.f k a0 a1 = some r) :
    Calls Try.prog 11 #[.int .i64 a0, .int .i64 a1] w fun e w' => e = .returned (.bool r) ∧ Below w.heap.size w w' := by
  have HB := Aside0.mk (Below.refl w.heap.size w)
  have H : ((spec_LongestTail.f k a0 a1).bind fun bt354 => ((impl_LongestTail.f k a0 a1).bind fun bt359 => (if bt359.1 = bt354.1 then ((laws_eqIntS.f k bt359.2.1 bt354.2.1).bind fun t364 => (if t364 = true then (laws_FnExactLongestTail.j0 k a0 a1 bt354.1 bt354.2.1 bt354.2.2 bt359.2.1 (bt359.2.2 != bt354.2.2)) else (laws_FnExactLongestTail.j0 k a0 a1 bt354.1 bt354.2.1 bt354.2.2 bt359.2.1 true))) else (laws_FnExactLongestTail.j0 k a0 a1 bt354.1 bt354.2.1 bt354.2.2 bt359.2.1 true)))) = some r := h
  clear h
  replace H := Option.bind_eq_some_iff.mp H
  obtain ⟨⟨t354, t355, t356⟩, A30, H⟩ := H
  replace H : ((impl_LongestTail.f k a0 a1).bind fun bt359 => (if bt359.1 = t354 then ((laws_eqIntS.f k bt359.2.1 t355).bind fun t364 => (if t364 = true then (laws_FnExactLongestTail.j0 k a0 a1 t354 t355 t356 bt359.2.1 (bt359.2.2 != t356)) else (laws_FnExactLongestTail.j0 k a0 a1 t354 t355 t356 bt359.2.1 true))) else (laws_FnExactLongestTail.j0 k a0 a1 t354 t355 t356 bt359.2.1 true))) = some r := H
  have A3 := Aside0.mk A30
  clear A30
  replace H := Option.bind_eq_some_iff.mp H
  obtain ⟨⟨t359, t360, t361⟩, A40, H⟩ := H
  replace H : (if t359 = t354 then ((laws_eqIntS.f k t360 t355).bind fun t364 => (if t364 = true then (laws_FnExactLongestTail.j0 k a0 a1 t354 t355 t356 t360 (t361 != t356)) else (laws_FnExactLongestTail.j0 k a0 a1 t354 t355 t356 t360 true))) else (laws_FnExactLongestTail.j0 k a0 a1 t354 t355 t356 t360 true)) = some r := H
  have A4 := Aside0.mk A40
  clear A40
  have HC5 := Aside0.mk H
  clear H
  go_enter Try.func11, Try.ntmps11
  go_upto_region 3 with (first | ((with_reducible refine gate_callee (f := 38) rfl ?_); refine goesL_ (some 19) rfl rfl Try.func38 (by kernel_rfl) rfl #[.int .i64 a0, .int .i64 a1] rfl (by (try simp only [List.map_toArray, List.map_cons, List.map_nil]); first | done | rfl | (simp only [List.length_drop, List.length_take]; rfl)) ?_; (with_reducible refine (spec_LongestTail.calls k a0 a1 t354 t355 t356 _ A3.out).mono ?_); rintro e w6 ⟨v357, rfl, ho0, hb⟩; refine ⟨_, rfl, ?_⟩; have n0_ := Aside0.mk (Kd.R_lower ho0 (below_size (by repeat (first | (with_reducible first | exact HB.out | apply below_alloc | apply pw_below_drewN | apply below_drew1) | exact HB.out)))); have n1_ := Aside0.mk (below_step (by repeat (first | (with_reducible first | exact HB.out | apply below_alloc | apply pw_below_drewN | apply below_drew1) | exact HB.out)) hb); clear HB; have HO358 := n0_; have HB := n1_; clear n0_ n1_; (try clear hb); (try clear hb2); (try clear hk); (try clear hi); (try clear ho0)) | ((with_reducible refine gate_callee (f := 39) rfl ?_); refine goesL_ (some 26) rfl rfl Try.func39 (by kernel_rfl) rfl #[.int .i64 a0, .int .i64 a1] rfl (by (try simp only [List.map_toArray, List.map_cons, List.map_nil]); first | done | rfl | (simp only [List.length_drop, List.length_take]; rfl)) ?_; (with_reducible refine (impl_LongestTail.calls k a0 a1 t359 t360 t361 _ A4.out).mono ?_); rintro e w7 ⟨v362, rfl, ho0, hb⟩; refine ⟨_, rfl, ?_⟩; have n0_ := Aside0.mk (Kd.R_elder' (by (with_reducible repeat (first | apply Kd.R_alloc | apply Kd.R_drewN | apply Kd.R_drew)); exact HO358.out) (Kd.R_base ho0) hb); have n1_ := Aside0.mk (Kd.R_lower (Kd.R_new' ho0 (Kd.R_lt (by (with_reducible repeat (first | apply Kd.R_alloc | apply Kd.R_drewN | apply Kd.R_drew)); exact HO358.out))) (below_size (by repeat (first | (with_reducible first | exact HB.out | apply below_alloc | apply pw_below_drewN | apply below_drew1) | exact HB.out)))); have n2_ := Aside0.mk (below_step (by repeat (first | (with_reducible first | exact HB.out | apply below_alloc | apply pw_below_drewN | apply below_drew1) | exact HB.out)) hb); clear HO358; clear HB; have HO358 := n0_; have HO363 := n1_; have HB := n2_; clear n0_ n1_ n2_; (try clear hb); (try clear hb2); (try clear hk); (try clear hi); (try clear ho0)))
  (try simp only [Act.put, List.setIfInBounds_toArray, List.set_cons_zero, List.set_cons_succ])
  go_cut [43] (fun v43 wc => ∃ (kq : Nat) (x43_4 : Bool), v43 = .bool x43_4 ∧ Aside0 (laws_FnExactLongestTail.j0 kq a0 a1 t354 t355 t356 t360 x43_4 = some r) ∧ Aside0 (kq ≤ k) ∧ Aside0 (Kd.R (Kd.int .i64) 3 wc w.heap.size (fun k_ => some k_ ≠ (v362 : Value).ownBlock) v357 t355) ∧ Aside0 (Kd.R (Kd.int .i64) 3 wc w.heap.size (fun k_ => some k_ ≠ (v357 : Value).ownBlock) v362 t360) ∧ Aside0 (Below w.heap.size w wc))
  case first =>
    have H := HC5.out
    clear HC5
    by_cases c8 : t359 = t354
    · rw [if_pos c8] at H
      have c8b0 : (t359 == t354) = true := beq_iff_eq.mpr c8
      have c8b1 : (t359 != t354) = false := bne_eq_false_iff_eq.mpr c8
      clear c8
      (first | rw [c8b0] | (simp only [i64_w, i32_w]; rw [c8b0]) | skip)
      replace H := Option.bind_eq_some_iff.mp H
      obtain ⟨t364, A90, H⟩ := H
      replace H : (if t364 = true then (laws_FnExactLongestTail.j0 k a0 a1 t354 t355 t356 t360 (t361 != t356)) else (laws_FnExactLongestTail.j0 k a0 a1 t354 t355 t356 t360 true)) = some r := H
      have A9 := Aside0.mk A90
      clear A90
      by_cases c10 : t364 = true
      · subst c10
        have H1 : (laws_FnExactLongestTail.j0 k a0 a1 t354 t355 t356 t360 (t361 != t356)) = some r := by rw [if_pos rfl] at H; exact H
        clear H
        have H := H1
        clear H1
        have H' := Aside0.mk H
        clear H
        obtain ⟨Ao11, co11, eo11⟩ := Kd.R_slice HO363.out
        subst eo11
        obtain ⟨Ao12, co12, eo12⟩ := Kd.R_slice HO358.out
        subst eo12
        go_wp2_with (first | (go_at_call 15; (with_reducible refine (laws_eqIntS.calls k _ _ t360 _ _ t355 true _ ?side1 ?side2 ?side3 ?side4 A9.out).mono ?_); (case side1 => repeat (first | exact (Kd.R_reads' HO363.out).2.2 | (with_reducible refine Kd.C_alloc ?_ _) | (with_reducible refine Kd.C_drewN ?_ _) | (with_reducible refine Kd.C_drew ?_))); (case side2 => exact (Kd.R_reads' HO363.out).2.1); (case side3 => repeat (first | exact (Kd.R_reads' HO358.out).2.2 | (with_reducible refine Kd.C_alloc ?_ _) | (with_reducible refine Kd.C_drewN ?_ _) | (with_reducible refine Kd.C_drew ?_))); (case side4 => exact (Kd.R_reads' HO358.out).2.1); rintro e w' ⟨rfl, ⟨nd, rfl⟩⟩))
        go_meet
        case rel => exact ⟨_, ((t361 != t356)), (by first | rfl | (simp; done) | (simp [*]; done)), H', ⟨by first | omega | exact Nat.le_refl _⟩, ⟨by (with_reducible repeat (first | apply Kd.R_alloc | apply Kd.R_drewN | apply Kd.R_drew)); exact Kd.R_mono HO358.out (fun _ hk => hk.2)⟩, ⟨by (with_reducible repeat (first | apply Kd.R_alloc | apply Kd.R_drewN | apply Kd.R_drew)); exact Kd.R_mono HO363.out (fun _ hk => hk.2)⟩, ⟨by repeat (first | (with_reducible first | exact HB.out | apply below_alloc | apply pw_below_drewN | apply below_drew1) | exact HB.out)⟩⟩
      · replace c10 := Bool.eq_false_iff.mpr c10
        subst c10
        have H1 : (laws_FnExactLongestTail.j0 k a0 a1 t354 t355 t356 t360 true) = some r := by rw [if_neg (show ¬ (false = true) by decide)] at H; exact H
        clear H
        have H := H1
        clear H1
        have H' := Aside0.mk H
        clear H
        obtain ⟨Ao13, co13, eo13⟩ := Kd.R_slice HO363.out
        subst eo13
        obtain ⟨Ao14, co14, eo14⟩ := Kd.R_slice HO358.out
        subst eo14
        go_wp2_with (first | (go_at_call 15; (with_reducible refine (laws_eqIntS.calls k _ _ t360 _ _ t355 false _ ?side1 ?side2 ?side3 ?side4 A9.out).mono ?_); (case side1 => repeat (first | exact (Kd.R_reads' HO363.out).2.2 | (with_reducible refine Kd.C_alloc ?_ _) | (with_reducible refine Kd.C_drewN ?_ _) | (with_reducible refine Kd.C_drew ?_))); (case side2 => exact (Kd.R_reads' HO363.out).2.1); (case side3 => repeat (first | exact (Kd.R_reads' HO358.out).2.2 | (with_reducible refine Kd.C_alloc ?_ _) | (with_reducible refine Kd.C_drewN ?_ _) | (with_reducible refine Kd.C_drew ?_))); (case side4 => exact (Kd.R_reads' HO358.out).2.1); rintro e w' ⟨rfl, ⟨nd, rfl⟩⟩))
        go_meet
        case rel => exact ⟨_, (true), (by first | rfl | (simp; done) | (simp [*]; done)), H', ⟨by first | omega | exact Nat.le_refl _⟩, ⟨by (with_reducible repeat (first | apply Kd.R_alloc | apply Kd.R_drewN | apply Kd.R_drew)); exact Kd.R_mono HO358.out (fun _ hk => hk.2)⟩, ⟨by (with_reducible repeat (first | apply Kd.R_alloc | apply Kd.R_drewN | apply Kd.R_drew)); exact Kd.R_mono HO363.out (fun _ hk => hk.2)⟩, ⟨by repeat (first | (with_reducible first | exact HB.out | apply below_alloc | apply pw_below_drewN | apply below_drew1) | exact HB.out)⟩⟩
    · rw [if_neg c8] at H
      have c8b0 : (t359 == t354) = false := beq_eq_false_iff_ne.mpr c8
      have c8b1 : (t359 != t354) = true := bne_iff_ne.mpr c8
      (first | rw [c8b0] | (simp only [i64_w, i32_w]; rw [c8b0]) | skip)
      have H' := Aside0.mk H
      clear H
      go_wp2
      go_meet
      case rel => exact ⟨_, (true), (by first | rfl | (simp; done) | (simp [*]; done)), H', ⟨by first | omega | exact Nat.le_refl _⟩, ⟨by (with_reducible repeat (first | apply Kd.R_alloc | apply Kd.R_drewN | apply Kd.R_drew)); exact Kd.R_mono HO358.out (fun _ hk => hk.2)⟩, ⟨by (with_reducible repeat (first | apply Kd.R_alloc | apply Kd.R_drewN | apply Kd.R_drew)); exact Kd.R_mono HO363.out (fun _ hk => hk.2)⟩, ⟨by repeat (first | (with_reducible first | exact HB.out | apply below_alloc | apply pw_below_drewN | apply below_drew1) | exact HB.out)⟩⟩
  case rest =>
    clear HC5
    try clear c1
    try clear p2
    try clear c3
    try clear c8
    try clear c8b0
    try clear c8b1
    try clear c10
    try clear c11
    obtain ⟨kq, x43_4, rfl, HA, HJ4, HO_6, HO_9, HB⟩ := hcut
    cases kq with
    | zero => exact absurd HA.out (by simp [laws_FnExactLongestTail.j0])
    | succ kj4 =>
      have H := HA.out
      clear HA
      simp only [laws_FnExactLongestTail.j0] at H
      by_cases c15 : x43_4 = true
      · subst c15
        have H1 : (some false) = some r := by rw [if_pos rfl] at H; exact H
        clear H
        have H := H1
        clear H1
        obtain rfl := Option.some.inj H
        go_wp2
        go_ret
        exact ⟨by first | rfl | (simp [errW_none, errW_some] <;> rfl) | (simp [*, errW_none, errW_some] <;> rfl), by repeat (first | (with_reducible first | exact HB.out | apply below_alloc | apply pw_below_drewN | apply below_drew1) | exact HB.out)⟩
      · replace c15 := Bool.eq_false_iff.mpr c15
        subst c15
        have H1 : ((laws_markIntS.f kj4 t360 1).bind fun bt365 => ((laws_heldIntS.f kj4 bt365.2 1).bind fun t367 => (if t367 < 0 then (some false) else (if t367 = bt365.1 then ((impl_LongestTail.f kj4 a0 a1).bind fun bt368 => (if bt368.1 = t354 then ((laws_eqIntS.f kj4 bt368.2.1 t355).bind fun t373 => (if t373 = true then (if (bt368.2.2 != t356) = true then (some false) else ((laws_heldIntS.f kj4 bt365.2 1).bind fun t374 => (if t374 < 0 then (some false) else (if t374 = bt365.1 then (some true) else (some false))))) else (some false))) else (some false))) else (some false))))) = some r := by rw [if_neg (show ¬ (false = true) by decide)] at H; exact H
        clear H
        have H := H1
        clear H1
        replace H := Option.bind_eq_some_iff.mp H
        obtain ⟨⟨t365, t366⟩, A160, H⟩ := H
        replace H : ((laws_heldIntS.f kj4 t366 1).bind fun t367 => (if t367 < 0 then (some false) else (if t367 = t365 then ((impl_LongestTail.f kj4 a0 a1).bind fun bt368 => (if bt368.1 = t354 then ((laws_eqIntS.f kj4 bt368.2.1 t355).bind fun t373 => (if t373 = true then (if (bt368.2.2 != t356) = true then (some false) else ((laws_heldIntS.f kj4 t366 1).bind fun t374 => (if t374 < 0 then (some false) else (if t374 = t365 then (some true) else (some false))))) else (some false))) else (some false))) else (some false)))) = some r := H
        have A16 := Aside0.mk A160
        clear A160
        replace H := Option.bind_eq_some_iff.mp H
        obtain ⟨t367, A170, H⟩ := H
        replace H : (if t367 < 0 then (some false) else (if t367 = t365 then ((impl_LongestTail.f kj4 a0 a1).bind fun bt368 => (if bt368.1 = t354 then ((laws_eqIntS.f kj4 bt368.2.1 t355).bind fun t373 => (if t373 = true then (if (bt368.2.2 != t356) = true then (some false) else ((laws_heldIntS.f kj4 t366 1).bind fun t374 => (if t374 < 0 then (some false) else (if t374 = t365 then (some true) else (some false))))) else (some false))) else (some false))) else (some false))) = some r := H
        have A17 := Aside0.mk A170
        clear A170
        by_cases c18 : t367 < 0
        · rw [if_pos c18] at H
          have c18b0 : decide (t367 < 0) = true := decide_eq_true c18
          clear c18
          obtain rfl := Option.some.inj H
          obtain ⟨Ao19, co19, eo19⟩ := Kd.R_slice HO_9.out
          subst eo19
          go_wp2_with (first | ((with_reducible refine gate_callee (f := 16) rfl ?_); refine goesL_ (some 46) rfl rfl Try.func16 (by kernel_rfl) rfl #[.slice Ao19 t360.length co19, .int .i64 1] rfl (by (try simp only [List.map_toArray, List.map_cons, List.map_nil]); first | done | rfl | (simp only [List.length_drop, List.length_take]; rfl)) ?_; (with_reducible refine (laws_markIntS.calls kj4 (fun k_ => some k_ = (.slice Ao19 t360.length co19 : Value).ownBlock) (.slice Ao19 t360.length co19) t360 1 t365 t366 w _ ?side1 ?side2 A16.out).mono ?_); (case side1 => repeat (first | (with_reducible first | exact HB.out | apply below_alloc | apply pw_below_drewN | apply below_drew1) | exact HB.out)); (case side2 => exact Kd.R_tight rfl HO_9.out); rintro e w20 ⟨rfl, hy0, hb, hkp⟩; refine ⟨_, rfl, ?_⟩; have n0_ := Aside0.mk (Kd.R_mono (ok' := fun k_ => some k_ ≠ (.slice Ao19 t360.length co19 : Value).ownBlock) (Kd.R_keptB (HO_6.out) hkp (fun k_ hk_ hs_ => (hk_) hs_)) (fun k_ hk_ => hk_.1)); have n1_ := Aside0.mk (Kd.R_reok rfl hy0 (fun k_ e_ => HO_9.out.1 k_ e_)); have n2_ := Aside0.mk (hb); clear HO_6; clear HO_9; clear HB; have HO_6 := n0_; have HO_9 := n1_; have HB := n2_; clear n0_ n1_ n2_; (try clear hb); (try clear hkp); (try clear hy0)) | ((with_reducible refine gate_callee (f := 17) rfl ?_); refine goesL_ (some 49) rfl rfl Try.func17 (by kernel_rfl) rfl #[.slice Ao19 t366.length co19, .int .i64 1] rfl (by (try simp only [List.map_toArray, List.map_cons, List.map_nil]); first | done | (rw [show t366.length = t360.length from (Kd.R_reads' HO_9.out).1.symm] <;> rfl) | rfl | (simp only [List.length_drop, List.length_take]; rfl)) ?_; (with_reducible refine (laws_heldIntS.calls kj4 _ _ t366 1 t367 _ ?side1 ?side2 A17.out).mono ?_); (case side1 => repeat (first | exact (Kd.R_reads' HO_9.out).2.2 | (with_reducible refine Kd.C_alloc ?_ _) | (with_reducible refine Kd.C_drewN ?_ _) | (with_reducible refine Kd.C_drew ?_))); (case side2 => rw [show t366.length = t360.length from (Kd.R_reads' HO_9.out).1.symm]; exact (Kd.R_reads' HO_9.out).2.1); rintro e w' ⟨rfl, ⟨nd, rfl⟩⟩; refine ⟨_, rfl, ?_⟩))
          go_ret
          exact ⟨by first | rfl | (simp [errW_none, errW_some] <;> rfl) | (simp [*, errW_none, errW_some] <;> rfl), by repeat (first | (with_reducible first | exact HB.out | apply below_alloc | apply pw_below_drewN | apply below_drew1) | exact HB.out)⟩
        · rw [if_neg c18] at H
          have c18b0 : decide (t367 < 0) = false := decide_eq_false c18
          clear c18
          by_cases c21 : t367 = t365
          · rw [if_pos c21] at H
            have c21b0 : (t367 == t365) = true := beq_iff_eq.mpr c21
            have c21b1 : (t367 != t365) = false := bne_eq_false_iff_eq.mpr c21
            clear c21
            replace H := Option.bind_eq_some_iff.mp H
            obtain ⟨⟨t368, t369, t370⟩, A220, H⟩ := H
            replace H : (if t368 = t354 then ((laws_eqIntS.f kj4 t369 t355).bind fun t373 => (if t373 = true then (if (t370 != t356) = true then (some false) else ((laws_heldIntS.f kj4 t366 1).bind fun t374 => (if t374 < 0 then (some false) else (if t374 = t365 then (some true) else (some false))))) else (some false))) else (some false)) = some r := H
            have A22 := Aside0.mk A220
            clear A220
            by_cases c23 : t368 = t354
            · rw [if_pos c23] at H
              have c23b0 : (t368 == t354) = true := beq_iff_eq.mpr c23
              have c23b1 : (t368 != t354) = false := bne_eq_false_iff_eq.mpr c23
              clear c23
              replace H := Option.bind_eq_some_iff.mp H
              obtain ⟨t373, A240, H⟩ := H
              replace H : (if t373 = true then (if (t370 != t356) = true then (some false) else ((laws_heldIntS.f kj4 t366 1).bind fun t374 => (if t374 < 0 then (some false) else (if t374 = t365 then (some true) else (some false))))) else (some false)) = some r := H
              have A24 := Aside0.mk A240
              clear A240
              by_cases c25 : t373 = true
              · subst c25
                have H1 : (if (t370 != t356) = true then (some false) else ((laws_heldIntS.f kj4 t366 1).bind fun t374 => (if t374 < 0 then (some false) else (if t374 = t365 then (some true) else (some false))))) = some r := by rw [if_pos rfl] at H; exact H
                clear H
                have H := H1
                clear H1
                by_cases c26 : (t370 != t356) = true
                · rw [if_pos c26] at H
                  have c26b0 : (t370 != t356) = true := c26
                  (try (have c26b1 : decide (t370 = t356) = false := by simpa using c26))
                  (try (have c26b2 : (t370 == t356) = false := by simpa using c26))
                  (try (have c26b3 : ¬ (t370 = t356) := by simpa using c26))
                  clear c26
                  obtain rfl := Option.some.inj H
                  obtain ⟨Ao27, co27, eo27⟩ := Kd.R_slice HO_9.out
                  subst eo27
                  go_wp2_with (first | ((with_reducible refine gate_callee (f := 16) rfl ?_); refine goesL_ (some 46) rfl rfl Try.func16 (by kernel_rfl) rfl #[.slice Ao27 t360.length co27, .int .i64 1] rfl (by (try simp only [List.map_toArray, List.map_cons, List.map_nil]); first | done | rfl | (simp only [List.length_drop, List.length_take]; rfl)) ?_; (with_reducible refine (laws_markIntS.calls kj4 (fun k_ => some k_ = (.slice Ao27 t360.length co27 : Value).ownBlock) (.slice Ao27 t360.length co27) t360 1 t365 t366 w _ ?side1 ?side2 A16.out).mono ?_); (case side1 => repeat (first | (with_reducible first | exact HB.out | apply below_alloc | apply pw_below_drewN | apply below_drew1) | exact HB.out)); (case side2 => exact Kd.R_tight rfl HO_9.out); rintro e w28 ⟨rfl, hy0, hb, hkp⟩; refine ⟨_, rfl, ?_⟩; have n0_ := Aside0.mk (Kd.R_mono (ok' := fun k_ => some k_ ≠ (.slice Ao27 t360.length co27 : Value).ownBlock) (Kd.R_keptB (HO_6.out) hkp (fun k_ hk_ hs_ => (hk_) hs_)) (fun k_ hk_ => hk_.1)); have n1_ := Aside0.mk (Kd.R_reok rfl hy0 (fun k_ e_ => HO_9.out.1 k_ e_)); have n2_ := Aside0.mk (hb); clear HO_6; clear HO_9; clear HB; have HO_6 := n0_; have HO_9 := n1_; have HB := n2_; clear n0_ n1_ n2_; (try clear hb); (try clear hkp); (try clear hy0)) | ((with_reducible refine gate_callee (f := 17) rfl ?_); refine goesL_ (some 49) rfl rfl Try.func17 (by kernel_rfl) rfl #[.slice Ao27 t366.length co27, .int .i64 1] rfl (by (try simp only [List.map_toArray, List.map_cons, List.map_nil]); first | done | (rw [show t366.length = t360.length from (Kd.R_reads' HO_9.out).1.symm] <;> rfl) | rfl | (simp only [List.length_drop, List.length_take]; rfl)) ?_; (with_reducible refine (laws_heldIntS.calls kj4 _ _ t366 1 t367 _ ?side1 ?side2 A17.out).mono ?_); (case side1 => repeat (first | exact (Kd.R_reads' HO_9.out).2.2 | (with_reducible refine Kd.C_alloc ?_ _) | (with_reducible refine Kd.C_drewN ?_ _) | (with_reducible refine Kd.C_drew ?_))); (case side2 => rw [show t366.length = t360.length from (Kd.R_reads' HO_9.out).1.symm]; exact (Kd.R_reads' HO_9.out).2.1); rintro e w' ⟨rfl, ⟨nd, rfl⟩⟩; refine ⟨_, rfl, ?_⟩) | ((with_reducible refine gate_callee (f := 39) rfl ?_); refine goesL_ (some 58) rfl rfl Try.func39 (by kernel_rfl) rfl #[.int .i64 a0, .int .i64 a1] rfl (by (try simp only [List.map_toArray, List.map_cons, List.map_nil]); first | done | rfl | (simp only [List.length_drop, List.length_take]; rfl)) ?_; (with_reducible refine (impl_LongestTail.calls kj4 a0 a1 t368 t369 t370 _ A22.out).mono ?_); rintro e w29 ⟨v371, rfl, ho0, hb⟩; refine ⟨_, rfl, ?_⟩; have n0_ := Aside0.mk (Kd.R_elder' (by (with_reducible repeat (first | apply Kd.R_alloc | apply Kd.R_drewN | apply Kd.R_drew)); exact HO_6.out) (Kd.R_base ho0) hb); have n1_ := Aside0.mk (Kd.R_elder' (by (with_reducible repeat (first | apply Kd.R_alloc | apply Kd.R_drewN | apply Kd.R_drew)); exact HO_9.out) (Kd.R_base ho0) hb); have n2_ := Aside0.mk (Kd.R_lower (Kd.R_new' (Kd.R_new' ho0 (Kd.R_lt (by (with_reducible repeat (first | apply Kd.R_alloc | apply Kd.R_drewN | apply Kd.R_drew)); exact HO_6.out))) (Kd.R_lt (by (with_reducible repeat (first | apply Kd.R_alloc | apply Kd.R_drewN | apply Kd.R_drew)); exact HO_9.out))) (below_size (by repeat (first | (with_reducible first | exact HB.out | apply below_alloc | apply pw_below_drewN | apply below_drew1) | exact HB.out)))); have n3_ := Aside0.mk (below_step (by repeat (first | (with_reducible first | exact HB.out | apply below_alloc | apply pw_below_drewN | apply below_drew1) | exact HB.out)) hb); clear HO_6; clear HO_9; clear HB; have HO_6 := n0_; have HO_9 := n1_; have HO372 := n2_; have HB := n3_; clear n0_ n1_ n2_ n3_; (try clear hb); (try clear hb2); (try clear hk); (try clear hi); (try clear ho0); obtain ⟨Ao30, co30, eo30⟩ := Kd.R_slice HO372.out; subst eo30; obtain ⟨Ao31, co31, eo31⟩ := Kd.R_slice HO_6.out; subst eo31) | (go_at_call 15; (with_reducible refine (laws_eqIntS.calls kj4 _ _ t369 _ _ t355 true _ ?side1 ?side2 ?side3 ?side4 A24.out).mono ?_); (case side1 => repeat (first | exact (Kd.R_reads' HO372.out).2.2 | (with_reducible refine Kd.C_alloc ?_ _) | (with_reducible refine Kd.C_drewN ?_ _) | (with_reducible refine Kd.C_drew ?_))); (case side2 => exact (Kd.R_reads' HO372.out).2.1); (case side3 => repeat (first | exact (Kd.R_reads' HO_6.out).2.2 | (with_reducible refine Kd.C_alloc ?_ _) | (with_reducible refine Kd.C_drewN ?_ _) | (with_reducible refine Kd.C_drew ?_))); (case side4 => exact (Kd.R_reads' HO_6.out).2.1); rintro e w' ⟨rfl, ⟨nd, rfl⟩⟩))
                  go_ret
                  exact ⟨by first | rfl | (simp [errW_none, errW_some] <;> rfl) | (simp [*, errW_none, errW_some] <;> rfl), by repeat (first | (with_reducible first | exact HB.out | apply below_alloc | apply pw_below_drewN | apply below_drew1) | exact HB.out)⟩
                · rw [if_neg c26] at H
                  have c26b0 : (t370 != t356) = false := by simpa using c26
                  (try (have c26b1 : decide (t370 = t356) = true := by simpa using c26))
                  (try (have c26b2 : (t370 == t356) = true := by simpa using c26))
                  clear c26
                  replace H := Option.bind_eq_some_iff.mp H
                  obtain ⟨t374, A320, H⟩ := H
                  replace H : (if t374 < 0 then (some false) else (if t374 = t365 then (some true) else (some false))) = some r := H
                  have A32 := Aside0.mk A320
                  clear A320
                  by_cases c33 : t374 < 0
                  · rw [if_pos c33] at H
                    have c33b0 : decide (t374 < 0) = true := decide_eq_true c33
                    clear c33
                    obtain rfl := Option.some.inj H
                    obtain ⟨Ao34, co34, eo34⟩ := Kd.R_slice HO_9.out
                    subst eo34
                    go_wp2_with (first | ((with_reducible refine gate_callee (f := 16) rfl ?_); refine goesL_ (some 46) rfl rfl Try.func16 (by kernel_rfl) rfl #[.slice Ao34 t360.length co34, .int .i64 1] rfl (by (try simp only [List.map_toArray, List.map_cons, List.map_nil]); first | done | rfl | (simp only [List.length_drop, List.length_take]; rfl)) ?_; (with_reducible refine (laws_markIntS.calls kj4 (fun k_ => some k_ = (.slice Ao34 t360.length co34 : Value).ownBlock) (.slice Ao34 t360.length co34) t360 1 t365 t366 w _ ?side1 ?side2 A16.out).mono ?_); (case side1 => repeat (first | (with_reducible first | exact HB.out | apply below_alloc | apply pw_below_drewN | apply below_drew1) | exact HB.out)); (case side2 => exact Kd.R_tight rfl HO_9.out); rintro e w35 ⟨rfl, hy0, hb, hkp⟩; refine ⟨_, rfl, ?_⟩; have n0_ := Aside0.mk (Kd.R_mono (ok' := fun k_ => some k_ ≠ (.slice Ao34 t360.length co34 : Value).ownBlock) (Kd.R_keptB (HO_6.out) hkp (fun k_ hk_ hs_ => (hk_) hs_)) (fun k_ hk_ => hk_.1)); have n1_ := Aside0.mk (Kd.R_reok rfl hy0 (fun k_ e_ => HO_9.out.1 k_ e_)); have n2_ := Aside0.mk (hb); clear HO_6; clear HO_9; clear HB; have HO_6 := n0_; have HO_9 := n1_; have HB := n2_; clear n0_ n1_ n2_; (try clear hb); (try clear hkp); (try clear hy0)) | ((with_reducible refine gate_callee (f := 17) rfl ?_); refine goesL_ (some 49) rfl rfl Try.func17 (by kernel_rfl) rfl #[.slice Ao34 t366.length co34, .int .i64 1] rfl (by (try simp only [List.map_toArray, List.map_cons, List.map_nil]); first | done | (rw [show t366.length = t360.length from (Kd.R_reads' HO_9.out).1.symm] <;> rfl) | rfl | (simp only [List.length_drop, List.length_take]; rfl)) ?_; (with_reducible refine (laws_heldIntS.calls kj4 _ _ t366 1 t367 _ ?side1 ?side2 A17.out).mono ?_); (case side1 => repeat (first | exact (Kd.R_reads' HO_9.out).2.2 | (with_reducible refine Kd.C_alloc ?_ _) | (with_reducible refine Kd.C_drewN ?_ _) | (with_reducible refine Kd.C_drew ?_))); (case side2 => rw [show t366.length = t360.length from (Kd.R_reads' HO_9.out).1.symm]; exact (Kd.R_reads' HO_9.out).2.1); rintro e w' ⟨rfl, ⟨nd, rfl⟩⟩; refine ⟨_, rfl, ?_⟩) | ((with_reducible refine gate_callee (f := 39) rfl ?_); refine goesL_ (some 58) rfl rfl Try.func39 (by kernel_rfl) rfl #[.int .i64 a0, .int .i64 a1] rfl (by (try simp only [List.map_toArray, List.map_cons, List.map_nil]); first | done | rfl | (simp only [List.length_drop, List.length_take]; rfl)) ?_; (with_reducible refine (impl_LongestTail.calls kj4 a0 a1 t368 t369 t370 _ A22.out).mono ?_); rintro e w36 ⟨v371, rfl, ho0, hb⟩; refine ⟨_, rfl, ?_⟩; have n0_ := Aside0.mk (Kd.R_elder' (by (with_reducible repeat (first | apply Kd.R_alloc | apply Kd.R_drewN | apply Kd.R_drew)); exact HO_6.out) (Kd.R_base ho0) hb); have n1_ := Aside0.mk (Kd.R_elder' (by (with_reducible repeat (first | apply Kd.R_alloc | apply Kd.R_drewN | apply Kd.R_drew)); exact HO_9.out) (Kd.R_base ho0) hb); have n2_ := Aside0.mk (Kd.R_lower (Kd.R_new' (Kd.R_new' ho0 (Kd.R_lt (by (with_reducible repeat (first | apply Kd.R_alloc | apply Kd.R_drewN | apply Kd.R_drew)); exact HO_6.out))) (Kd.R_lt (by (with_reducible repeat (first | apply Kd.R_alloc | apply Kd.R_drewN | apply Kd.R_drew)); exact HO_9.out))) (below_size (by repeat (first | (with_reducible first | exact HB.out | apply below_alloc | apply pw_below_drewN | apply below_drew1) | exact HB.out)))); have n3_ := Aside0.mk (below_step (by repeat (first | (with_reducible first | exact HB.out | apply below_alloc | apply pw_below_drewN | apply below_drew1) | exact HB.out)) hb); clear HO_6; clear HO_9; clear HB; have HO_6 := n0_; have HO_9 := n1_; have HO372 := n2_; have HB := n3_; clear n0_ n1_ n2_ n3_; (try clear hb); (try clear hb2); (try clear hk); (try clear hi); (try clear ho0); obtain ⟨Ao37, co37, eo37⟩ := Kd.R_slice HO372.out; subst eo37; obtain ⟨Ao38, co38, eo38⟩ := Kd.R_slice HO_6.out; subst eo38) | (go_at_call 15; (with_reducible refine (laws_eqIntS.calls kj4 _ _ t369 _ _ t355 true _ ?side1 ?side2 ?side3 ?side4 A24.out).mono ?_); (case side1 => repeat (first | exact (Kd.R_reads' HO372.out).2.2 | (with_reducible refine Kd.C_alloc ?_ _) | (with_reducible refine Kd.C_drewN ?_ _) | (with_reducible refine Kd.C_drew ?_))); (case side2 => exact (Kd.R_reads' HO372.out).2.1); (case side3 => repeat (first | exact (Kd.R_reads' HO_6.out).2.2 | (with_reducible refine Kd.C_alloc ?_ _) | (with_reducible refine Kd.C_drewN ?_ _) | (with_reducible refine Kd.C_drew ?_))); (case side4 => exact (Kd.R_reads' HO_6.out).2.1); rintro e w' ⟨rfl, ⟨nd, rfl⟩⟩) | ((with_reducible refine gate_callee (f := 17) rfl ?_); refine goesL_ (some 78) rfl rfl Try.func17 (by kernel_rfl) rfl #[.slice Ao34 t366.length co34, .int .i64 1] rfl (by (try simp only [List.map_toArray, List.map_cons, List.map_nil]); first | done | (rw [show t366.length = t360.length from (Kd.R_reads' HO_9.out).1.symm] <;> rfl) | rfl | (simp only [List.length_drop, List.length_take]; rfl)) ?_; (with_reducible refine (laws_heldIntS.calls kj4 _ _ t366 1 t374 _ ?side1 ?side2 A32.out).mono ?_); (case side1 => repeat (first | exact (Kd.R_reads' HO_9.out).2.2 | (with_reducible refine Kd.C_alloc ?_ _) | (with_reducible refine Kd.C_drewN ?_ _) | (with_reducible refine Kd.C_drew ?_))); (case side2 => rw [show t366.length = t360.length from (Kd.R_reads' HO_9.out).1.symm]; exact (Kd.R_reads' HO_9.out).2.1); rintro e w' ⟨rfl, ⟨nd, rfl⟩⟩; refine ⟨_, rfl, ?_⟩))
                    go_ret
                    exact ⟨by first | rfl | (simp [errW_none, errW_some] <;> rfl) | (simp [*, errW_none, errW_some] <;> rfl), by repeat (first | (with_reducible first | exact HB.out | apply below_alloc | apply pw_below_drewN | apply below_drew1) | exact HB.out)⟩
                  · rw [if_neg c33] at H
                    have c33b0 : decide (t374 < 0) = false := decide_eq_false c33
                    clear c33
                    by_cases c39 : t374 = t365
                    · rw [if_pos c39] at H
                      have c39b0 : (t374 == t365) = true := beq_iff_eq.mpr c39
                      have c39b1 : (t374 != t365) = false := bne_eq_false_iff_eq.mpr c39
                      clear c39
                      obtain rfl := Option.some.inj H
                      obtain ⟨Ao40, co40, eo40⟩ := Kd.R_slice HO_9.out
                      subst eo40
                      go_wp2_with (first | ((with_reducible refine gate_callee (f := 16) rfl ?_); refine goesL_ (some 46) rfl rfl Try.func16 (by kernel_rfl) rfl #[.slice Ao40 t360.length co40, .int .i64 1] rfl (by (try simp only [List.map_toArray, List.map_cons, List.map_nil]); first | done | rfl | (simp only [List.length_drop, List.length_take]; rfl)) ?_; (with_reducible refine (laws_markIntS.calls kj4 (fun k_ => some k_ = (.slice Ao40 t360.length co40 : Value).ownBlock) (.slice Ao40 t360.length co40) t360 1 t365 t366 w _ ?side1 ?side2 A16.out).mono ?_); (case side1 => repeat (first | (with_reducible first | exact HB.out | apply below_alloc | apply pw_below_drewN | apply below_drew1) | exact HB.out)); (case side2 => exact Kd.R_tight rfl HO_9.out); rintro e w41 ⟨rfl, hy0, hb, hkp⟩; refine ⟨_, rfl, ?_⟩; have n0_ := Aside0.mk (Kd.R_mono (ok' := fun k_ => some k_ ≠ (.slice Ao40 t360.length co40 : Value).ownBlock) (Kd.R_keptB (HO_6.out) hkp (fun k_ hk_ hs_ => (hk_) hs_)) (fun k_ hk_ => hk_.1)); have n1_ := Aside0.mk (Kd.R_reok rfl hy0 (fun k_ e_ => HO_9.out.1 k_ e_)); have n2_ := Aside0.mk (hb); clear HO_6; clear HO_9; clear HB; have HO_6 := n0_; have HO_9 := n1_; have HB := n2_; clear n0_ n1_ n2_; (try clear hb); (try clear hkp); (try clear hy0)) | ((with_reducible refine gate_callee (f := 17) rfl ?_); refine goesL_ (some 49) rfl rfl Try.func17 (by kernel_rfl) rfl #[.slice Ao40 t366.length co40, .int .i64 1] rfl (by (try simp only [List.map_toArray, List.map_cons, List.map_nil]); first | done | (rw [show t366.length = t360.length from (Kd.R_reads' HO_9.out).1.symm] <;> rfl) | rfl | (simp only [List.length_drop, List.length_take]; rfl)) ?_; (with_reducible refine (laws_heldIntS.calls kj4 _ _ t366 1 t367 _ ?side1 ?side2 A17.out).mono ?_); (case side1 => repeat (first | exact (Kd.R_reads' HO_9.out).2.2 | (with_reducible refine Kd.C_alloc ?_ _) | (with_reducible refine Kd.C_drewN ?_ _) | (with_reducible refine Kd.C_drew ?_))); (case side2 => rw [show t366.length = t360.length from (Kd.R_reads' HO_9.out).1.symm]; exact (Kd.R_reads' HO_9.out).2.1); rintro e w' ⟨rfl, ⟨nd, rfl⟩⟩; refine ⟨_, rfl, ?_⟩) | ((with_reducible refine gate_callee (f := 39) rfl ?_); refine goesL_ (some 58) rfl rfl Try.func39 (by kernel_rfl) rfl #[.int .i64 a0, .int .i64 a1] rfl (by (try simp only [List.map_toArray, List.map_cons, List.map_nil]); first | done | rfl | (simp only [List.length_drop, List.length_take]; rfl)) ?_; (with_reducible refine (impl_LongestTail.calls kj4 a0 a1 t368 t369 t370 _ A22.out).mono ?_); rintro e w42 ⟨v371, rfl, ho0, hb⟩; refine ⟨_, rfl, ?_⟩; have n0_ := Aside0.mk (Kd.R_elder' (by (with_reducible repeat (first | apply Kd.R_alloc | apply Kd.R_drewN | apply Kd.R_drew)); exact HO_6.out) (Kd.R_base ho0) hb); have n1_ := Aside0.mk (Kd.R_elder' (by (with_reducible repeat (first | apply Kd.R_alloc | apply Kd.R_drewN | apply Kd.R_drew)); exact HO_9.out) (Kd.R_base ho0) hb); have n2_ := Aside0.mk (Kd.R_lower (Kd.R_new' (Kd.R_new' ho0 (Kd.R_lt (by (with_reducible repeat (first | apply Kd.R_alloc | apply Kd.R_drewN | apply Kd.R_drew)); exact HO_6.out))) (Kd.R_lt (by (with_reducible repeat (first | apply Kd.R_alloc | apply Kd.R_drewN | apply Kd.R_drew)); exact HO_9.out))) (below_size (by repeat (first | (with_reducible first | exact HB.out | apply below_alloc | apply pw_below_drewN | apply below_drew1) | exact HB.out)))); have n3_ := Aside0.mk (below_step (by repeat (first | (with_reducible first | exact HB.out | apply below_alloc | apply pw_below_drewN | apply below_drew1) | exact HB.out)) hb); clear HO_6; clear HO_9; clear HB; have HO_6 := n0_; have HO_9 := n1_; have HO372 := n2_; have HB := n3_; clear n0_ n1_ n2_ n3_; (try clear hb); (try clear hb2); (try clear hk); (try clear hi); (try clear ho0); obtain ⟨Ao43, co43, eo43⟩ := Kd.R_slice HO372.out; subst eo43; obtain ⟨Ao44, co44, eo44⟩ := Kd.R_slice HO_6.out; subst eo44) | (go_at_call 15; (with_reducible refine (laws_eqIntS.calls kj4 _ _ t369 _ _ t355 true _ ?side1 ?side2 ?side3 ?side4 A24.out).mono ?_); (case side1 => repeat (first | exact (Kd.R_reads' HO372.out).2.2 | (with_reducible refine Kd.C_alloc ?_ _) | (with_reducible refine Kd.C_drewN ?_ _) | (with_reducible refine Kd.C_drew ?_))); (case side2 => exact (Kd.R_reads' HO372.out).2.1); (case side3 => repeat (first | exact (Kd.R_reads' HO_6.out).2.2 | (with_reducible refine Kd.C_alloc ?_ _) | (with_reducible refine Kd.C_drewN ?_ _) | (with_reducible refine Kd.C_drew ?_))); (case side4 => exact (Kd.R_reads' HO_6.out).2.1); rintro e w' ⟨rfl, ⟨nd, rfl⟩⟩) | ((with_reducible refine gate_callee (f := 17) rfl ?_); refine goesL_ (some 78) rfl rfl Try.func17 (by kernel_rfl) rfl #[.slice Ao40 t366.length co40, .int .i64 1] rfl (by (try simp only [List.map_toArray, List.map_cons, List.map_nil]); first | done | (rw [show t366.length = t360.length from (Kd.R_reads' HO_9.out).1.symm] <;> rfl) | rfl | (simp only [List.length_drop, List.length_take]; rfl)) ?_; (with_reducible refine (laws_heldIntS.calls kj4 _ _ t366 1 t374 _ ?side1 ?side2 A32.out).mono ?_); (case side1 => repeat (first | exact (Kd.R_reads' HO_9.out).2.2 | (with_reducible refine Kd.C_alloc ?_ _) | (with_reducible refine Kd.C_drewN ?_ _) | (with_reducible refine Kd.C_drew ?_))); (case side2 => rw [show t366.length = t360.length from (Kd.R_reads' HO_9.out).1.symm]; exact (Kd.R_reads' HO_9.out).2.1); rintro e w' ⟨rfl, ⟨nd, rfl⟩⟩; refine ⟨_, rfl, ?_⟩))
                      go_ret
                      exact ⟨by first | rfl | (simp [errW_none, errW_some] <;> rfl) | (simp [*, errW_none, errW_some] <;> rfl), by repeat (first | (with_reducible first | exact HB.out | apply below_alloc | apply pw_below_drewN | apply below_drew1) | exact HB.out)⟩
                    · rw [if_neg c39] at H
                      have c39b0 : (t374 == t365) = false := beq_eq_false_iff_ne.mpr c39
                      have c39b1 : (t374 != t365) = true := bne_iff_ne.mpr c39
                      obtain rfl := Option.some.inj H
                      obtain ⟨Ao45, co45, eo45⟩ := Kd.R_slice HO_9.out
                      subst eo45
                      go_wp2_with (first | ((with_reducible refine gate_callee (f := 16) rfl ?_); refine goesL_ (some 46) rfl rfl Try.func16 (by kernel_rfl) rfl #[.slice Ao45 t360.length co45, .int .i64 1] rfl (by (try simp only [List.map_toArray, List.map_cons, List.map_nil]); first | done | rfl | (simp only [List.length_drop, List.length_take]; rfl)) ?_; (with_reducible refine (laws_markIntS.calls kj4 (fun k_ => some k_ = (.slice Ao45 t360.length co45 : Value).ownBlock) (.slice Ao45 t360.length co45) t360 1 t365 t366 w _ ?side1 ?side2 A16.out).mono ?_); (case side1 => repeat (first | (with_reducible first | exact HB.out | apply below_alloc | apply pw_below_drewN | apply below_drew1) | exact HB.out)); (case side2 => exact Kd.R_tight rfl HO_9.out); rintro e w46 ⟨rfl, hy0, hb, hkp⟩; refine ⟨_, rfl, ?_⟩; have n0_ := Aside0.mk (Kd.R_mono (ok' := fun k_ => some k_ ≠ (.slice Ao45 t360.length co45 : Value).ownBlock) (Kd.R_keptB (HO_6.out) hkp (fun k_ hk_ hs_ => (hk_) hs_)) (fun k_ hk_ => hk_.1)); have n1_ := Aside0.mk (Kd.R_reok rfl hy0 (fun k_ e_ => HO_9.out.1 k_ e_)); have n2_ := Aside0.mk (hb); clear HO_6; clear HO_9; clear HB; have HO_6 := n0_; have HO_9 := n1_; have HB := n2_; clear n0_ n1_ n2_; (try clear hb); (try clear hkp); (try clear hy0)) | ((with_reducible refine gate_callee (f := 17) rfl ?_); refine goesL_ (some 49) rfl rfl Try.func17 (by kernel_rfl) rfl #[.slice Ao45 t366.length co45, .int .i64 1] rfl (by (try simp only [List.map_toArray, List.map_cons, List.map_nil]); first | done | (rw [show t366.length = t360.length from (Kd.R_reads' HO_9.out).1.symm] <;> rfl) | rfl | (simp only [List.length_drop, List.length_take]; rfl)) ?_; (with_reducible refine (laws_heldIntS.calls kj4 _ _ t366 1 t367 _ ?side1 ?side2 A17.out).mono ?_); (case side1 => repeat (first | exact (Kd.R_reads' HO_9.out).2.2 | (with_reducible refine Kd.C_alloc ?_ _) | (with_reducible refine Kd.C_drewN ?_ _) | (with_reducible refine Kd.C_drew ?_))); (case side2 => rw [show t366.length = t360.length from (Kd.R_reads' HO_9.out).1.symm]; exact (Kd.R_reads' HO_9.out).2.1); rintro e w' ⟨rfl, ⟨nd, rfl⟩⟩; refine ⟨_, rfl, ?_⟩) | ((with_reducible refine gate_callee (f := 39) rfl ?_); refine goesL_ (some 58) rfl rfl Try.func39 (by kernel_rfl) rfl #[.int .i64 a0, .int .i64 a1] rfl (by (try simp only [List.map_toArray, List.map_cons, List.map_nil]); first | done | rfl | (simp only [List.length_drop, List.length_take]; rfl)) ?_; (with_reducible refine (impl_LongestTail.calls kj4 a0 a1 t368 t369 t370 _ A22.out).mono ?_); rintro e w47 ⟨v371, rfl, ho0, hb⟩; refine ⟨_, rfl, ?_⟩; have n0_ := Aside0.mk (Kd.R_elder' (by (with_reducible repeat (first | apply Kd.R_alloc | apply Kd.R_drewN | apply Kd.R_drew)); exact HO_6.out) (Kd.R_base ho0) hb); have n1_ := Aside0.mk (Kd.R_elder' (by (with_reducible repeat (first | apply Kd.R_alloc | apply Kd.R_drewN | apply Kd.R_drew)); exact HO_9.out) (Kd.R_base ho0) hb); have n2_ := Aside0.mk (Kd.R_lower (Kd.R_new' (Kd.R_new' ho0 (Kd.R_lt (by (with_reducible repeat (first | apply Kd.R_alloc | apply Kd.R_drewN | apply Kd.R_drew)); exact HO_6.out))) (Kd.R_lt (by (with_reducible repeat (first | apply Kd.R_alloc | apply Kd.R_drewN | apply Kd.R_drew)); exact HO_9.out))) (below_size (by repeat (first | (with_reducible first | exact HB.out | apply below_alloc | apply pw_below_drewN | apply below_drew1) | exact HB.out)))); have n3_ := Aside0.mk (below_step (by repeat (first | (with_reducible first | exact HB.out | apply below_alloc | apply pw_below_drewN | apply below_drew1) | exact HB.out)) hb); clear HO_6; clear HO_9; clear HB; have HO_6 := n0_; have HO_9 := n1_; have HO372 := n2_; have HB := n3_; clear n0_ n1_ n2_ n3_; (try clear hb); (try clear hb2); (try clear hk); (try clear hi); (try clear ho0); obtain ⟨Ao48, co48, eo48⟩ := Kd.R_slice HO372.out; subst eo48; obtain ⟨Ao49, co49, eo49⟩ := Kd.R_slice HO_6.out; subst eo49) | (go_at_call 15; (with_reducible refine (laws_eqIntS.calls kj4 _ _ t369 _ _ t355 true _ ?side1 ?side2 ?side3 ?side4 A24.out).mono ?_); (case side1 => repeat (first | exact (Kd.R_reads' HO372.out).2.2 | (with_reducible refine Kd.C_alloc ?_ _) | (with_reducible refine Kd.C_drewN ?_ _) | (with_reducible refine Kd.C_drew ?_))); (case side2 => exact (Kd.R_reads' HO372.out).2.1); (case side3 => repeat (first | exact (Kd.R_reads' HO_6.out).2.2 | (with_reducible refine Kd.C_alloc ?_ _) | (with_reducible refine Kd.C_drewN ?_ _) | (with_reducible refine Kd.C_drew ?_))); (case side4 => exact (Kd.R_reads' HO_6.out).2.1); rintro e w' ⟨rfl, ⟨nd, rfl⟩⟩) | ((with_reducible refine gate_callee (f := 17) rfl ?_); refine goesL_ (some 78) rfl rfl Try.func17 (by kernel_rfl) rfl #[.slice Ao45 t366.length co45, .int .i64 1] rfl (by (try simp only [List.map_toArray, List.map_cons, List.map_nil]); first | done | (rw [show t366.length = t360.length from (Kd.R_reads' HO_9.out).1.symm] <;> rfl) | rfl | (simp only [List.length_drop, List.length_take]; rfl)) ?_; (with_reducible refine (laws_heldIntS.calls kj4 _ _ t366 1 t374 _ ?side1 ?side2 A32.out).mono ?_); (case side1 => repeat (first | exact (Kd.R_reads' HO_9.out).2.2 | (with_reducible refine Kd.C_alloc ?_ _) | (with_reducible refine Kd.C_drewN ?_ _) | (with_reducible refine Kd.C_drew ?_))); (case side2 => rw [show t366.length = t360.length from (Kd.R_reads' HO_9.out).1.symm]; exact (Kd.R_reads' HO_9.out).2.1); rintro e w' ⟨rfl, ⟨nd, rfl⟩⟩; refine ⟨_, rfl, ?_⟩))
                      go_ret
                      exact ⟨by first | rfl | (simp [errW_none, errW_some] <;> rfl) | (simp [*, errW_none, errW_some] <;> rfl), by repeat (first | (with_reducible first | exact HB.out | apply below_alloc | apply pw_below_drewN | apply below_drew1) | exact HB.out)⟩
              · replace c25 := Bool.eq_false_iff.mpr c25
                subst c25
                have H1 : (some false) = some r := by rw [if_neg (show ¬ (false = true) by decide)] at H; exact H
                clear H
                have H := H1
                clear H1
                obtain rfl := Option.some.inj H
                obtain ⟨Ao50, co50, eo50⟩ := Kd.R_slice HO_9.out
                subst eo50
                go_wp2_with (first | ((with_reducible refine gate_callee (f := 16) rfl ?_); refine goesL_ (some 46) rfl rfl Try.func16 (by kernel_rfl) rfl #[.slice Ao50 t360.length co50, .int .i64 1] rfl (by (try simp only [List.map_toArray, List.map_cons, List.map_nil]); first | done | rfl | (simp only [List.length_drop, List.length_take]; rfl)) ?_; (with_reducible refine (laws_markIntS.calls kj4 (fun k_ => some k_ = (.slice Ao50 t360.length co50 : Value).ownBlock) (.slice Ao50 t360.length co50) t360 1 t365 t366 w _ ?side1 ?side2 A16.out).mono ?_); (case side1 => repeat (first | (with_reducible first | exact HB.out | apply below_alloc | apply pw_below_drewN | apply below_drew1) | exact HB.out)); (case side2 => exact Kd.R_tight rfl HO_9.out); rintro e w51 ⟨rfl, hy0, hb, hkp⟩; refine ⟨_, rfl, ?_⟩; have n0_ := Aside0.mk (Kd.R_mono (ok' := fun k_ => some k_ ≠ (.slice Ao50 t360.length co50 : Value).ownBlock) (Kd.R_keptB (HO_6.out) hkp (fun k_ hk_ hs_ => (hk_) hs_)) (fun k_ hk_ => hk_.1)); have n1_ := Aside0.mk (Kd.R_reok rfl hy0 (fun k_ e_ => HO_9.out.1 k_ e_)); have n2_ := Aside0.mk (hb); clear HO_6; clear HO_9; clear HB; have HO_6 := n0_; have HO_9 := n1_; have HB := n2_; clear n0_ n1_ n2_; (try clear hb); (try clear hkp); (try clear hy0)) | ((with_reducible refine gate_callee (f := 17) rfl ?_); refine goesL_ (some 49) rfl rfl Try.func17 (by kernel_rfl) rfl #[.slice Ao50 t366.length co50, .int .i64 1] rfl (by (try simp only [List.map_toArray, List.map_cons, List.map_nil]); first | done | (rw [show t366.length = t360.length from (Kd.R_reads' HO_9.out).1.symm] <;> rfl) | rfl | (simp only [List.length_drop, List.length_take]; rfl)) ?_; (with_reducible refine (laws_heldIntS.calls kj4 _ _ t366 1 t367 _ ?side1 ?side2 A17.out).mono ?_); (case side1 => repeat (first | exact (Kd.R_reads' HO_9.out).2.2 | (with_reducible refine Kd.C_alloc ?_ _) | (with_reducible refine Kd.C_drewN ?_ _) | (with_reducible refine Kd.C_drew ?_))); (case side2 => rw [show t366.length = t360.length from (Kd.R_reads' HO_9.out).1.symm]; exact (Kd.R_reads' HO_9.out).2.1); rintro e w' ⟨rfl, ⟨nd, rfl⟩⟩; refine ⟨_, rfl, ?_⟩) | ((with_reducible refine gate_callee (f := 39) rfl ?_); refine goesL_ (some 58) rfl rfl Try.func39 (by kernel_rfl) rfl #[.int .i64 a0, .int .i64 a1] rfl (by (try simp only [List.map_toArray, List.map_cons, List.map_nil]); first | done | rfl | (simp only [List.length_drop, List.length_take]; rfl)) ?_; (with_reducible refine (impl_LongestTail.calls kj4 a0 a1 t368 t369 t370 _ A22.out).mono ?_); rintro e w52 ⟨v371, rfl, ho0, hb⟩; refine ⟨_, rfl, ?_⟩; have n0_ := Aside0.mk (Kd.R_elder' (by (with_reducible repeat (first | apply Kd.R_alloc | apply Kd.R_drewN | apply Kd.R_drew)); exact HO_6.out) (Kd.R_base ho0) hb); have n1_ := Aside0.mk (Kd.R_elder' (by (with_reducible repeat (first | apply Kd.R_alloc | apply Kd.R_drewN | apply Kd.R_drew)); exact HO_9.out) (Kd.R_base ho0) hb); have n2_ := Aside0.mk (Kd.R_lower (Kd.R_new' (Kd.R_new' ho0 (Kd.R_lt (by (with_reducible repeat (first | apply Kd.R_alloc | apply Kd.R_drewN | apply Kd.R_drew)); exact HO_6.out))) (Kd.R_lt (by (with_reducible repeat (first | apply Kd.R_alloc | apply Kd.R_drewN | apply Kd.R_drew)); exact HO_9.out))) (below_size (by repeat (first | (with_reducible first | exact HB.out | apply below_alloc | apply pw_below_drewN | apply below_drew1) | exact HB.out)))); have n3_ := Aside0.mk (below_step (by repeat (first | (with_reducible first | exact HB.out | apply below_alloc | apply pw_below_drewN | apply below_drew1) | exact HB.out)) hb); clear HO_6; clear HO_9; clear HB; have HO_6 := n0_; have HO_9 := n1_; have HO372 := n2_; have HB := n3_; clear n0_ n1_ n2_ n3_; (try clear hb); (try clear hb2); (try clear hk); (try clear hi); (try clear ho0); obtain ⟨Ao53, co53, eo53⟩ := Kd.R_slice HO372.out; subst eo53; obtain ⟨Ao54, co54, eo54⟩ := Kd.R_slice HO_6.out; subst eo54) | (go_at_call 15; (with_reducible refine (laws_eqIntS.calls kj4 _ _ t369 _ _ t355 false _ ?side1 ?side2 ?side3 ?side4 A24.out).mono ?_); (case side1 => repeat (first | exact (Kd.R_reads' HO372.out).2.2 | (with_reducible refine Kd.C_alloc ?_ _) | (with_reducible refine Kd.C_drewN ?_ _) | (with_reducible refine Kd.C_drew ?_))); (case side2 => exact (Kd.R_reads' HO372.out).2.1); (case side3 => repeat (first | exact (Kd.R_reads' HO_6.out).2.2 | (with_reducible refine Kd.C_alloc ?_ _) | (with_reducible refine Kd.C_drewN ?_ _) | (with_reducible refine Kd.C_drew ?_))); (case side4 => exact (Kd.R_reads' HO_6.out).2.1); rintro e w' ⟨rfl, ⟨nd, rfl⟩⟩))
                go_ret
                exact ⟨by first | rfl | (simp [errW_none, errW_some] <;> rfl) | (simp [*, errW_none, errW_some] <;> rfl), by repeat (first | (with_reducible first | exact HB.out | apply below_alloc | apply pw_below_drewN | apply below_drew1) | exact HB.out)⟩
            · rw [if_neg c23] at H
              have c23b0 : (t368 == t354) = false := beq_eq_false_iff_ne.mpr c23
              have c23b1 : (t368 != t354) = true := bne_iff_ne.mpr c23
              obtain rfl := Option.some.inj H
              obtain ⟨Ao55, co55, eo55⟩ := Kd.R_slice HO_9.out
              subst eo55
              go_wp2_with (first | ((with_reducible refine gate_callee (f := 16) rfl ?_); refine goesL_ (some 46) rfl rfl Try.func16 (by kernel_rfl) rfl #[.slice Ao55 t360.length co55, .int .i64 1] rfl (by (try simp only [List.map_toArray, List.map_cons, List.map_nil]); first | done | rfl | (simp only [List.length_drop, List.length_take]; rfl)) ?_; (with_reducible refine (laws_markIntS.calls kj4 (fun k_ => some k_ = (.slice Ao55 t360.length co55 : Value).ownBlock) (.slice Ao55 t360.length co55) t360 1 t365 t366 w _ ?side1 ?side2 A16.out).mono ?_); (case side1 => repeat (first | (with_reducible first | exact HB.out | apply below_alloc | apply pw_below_drewN | apply below_drew1) | exact HB.out)); (case side2 => exact Kd.R_tight rfl HO_9.out); rintro e w56 ⟨rfl, hy0, hb, hkp⟩; refine ⟨_, rfl, ?_⟩; have n0_ := Aside0.mk (Kd.R_mono (ok' := fun k_ => some k_ ≠ (.slice Ao55 t360.length co55 : Value).ownBlock) (Kd.R_keptB (HO_6.out) hkp (fun k_ hk_ hs_ => (hk_) hs_)) (fun k_ hk_ => hk_.1)); have n1_ := Aside0.mk (Kd.R_reok rfl hy0 (fun k_ e_ => HO_9.out.1 k_ e_)); have n2_ := Aside0.mk (hb); clear HO_6; clear HO_9; clear HB; have HO_6 := n0_; have HO_9 := n1_; have HB := n2_; clear n0_ n1_ n2_; (try clear hb); (try clear hkp); (try clear hy0)) | ((with_reducible refine gate_callee (f := 17) rfl ?_); refine goesL_ (some 49) rfl rfl Try.func17 (by kernel_rfl) rfl #[.slice Ao55 t366.length co55, .int .i64 1] rfl (by (try simp only [List.map_toArray, List.map_cons, List.map_nil]); first | done | (rw [show t366.length = t360.length from (Kd.R_reads' HO_9.out).1.symm] <;> rfl) | rfl | (simp only [List.length_drop, List.length_take]; rfl)) ?_; (with_reducible refine (laws_heldIntS.calls kj4 _ _ t366 1 t367 _ ?side1 ?side2 A17.out).mono ?_); (case side1 => repeat (first | exact (Kd.R_reads' HO_9.out).2.2 | (with_reducible refine Kd.C_alloc ?_ _) | (with_reducible refine Kd.C_drewN ?_ _) | (with_reducible refine Kd.C_drew ?_))); (case side2 => rw [show t366.length = t360.length from (Kd.R_reads' HO_9.out).1.symm]; exact (Kd.R_reads' HO_9.out).2.1); rintro e w' ⟨rfl, ⟨nd, rfl⟩⟩; refine ⟨_, rfl, ?_⟩) | ((with_reducible refine gate_callee (f := 39) rfl ?_); refine goesL_ (some 58) rfl rfl Try.func39 (by kernel_rfl) rfl #[.int .i64 a0, .int .i64 a1] rfl (by (try simp only [List.map_toArray, List.map_cons, List.map_nil]); first | done | rfl | (simp only [List.length_drop, List.length_take]; rfl)) ?_; (with_reducible refine (impl_LongestTail.calls kj4 a0 a1 t368 t369 t370 _ A22.out).mono ?_); rintro e w57 ⟨v371, rfl, ho0, hb⟩; refine ⟨_, rfl, ?_⟩; have n0_ := Aside0.mk (Kd.R_elder' (by (with_reducible repeat (first | apply Kd.R_alloc | apply Kd.R_drewN | apply Kd.R_drew)); exact HO_6.out) (Kd.R_base ho0) hb); have n1_ := Aside0.mk (Kd.R_elder' (by (with_reducible repeat (first | apply Kd.R_alloc | apply Kd.R_drewN | apply Kd.R_drew)); exact HO_9.out) (Kd.R_base ho0) hb); have n2_ := Aside0.mk (Kd.R_lower (Kd.R_new' (Kd.R_new' ho0 (Kd.R_lt (by (with_reducible repeat (first | apply Kd.R_alloc | apply Kd.R_drewN | apply Kd.R_drew)); exact HO_6.out))) (Kd.R_lt (by (with_reducible repeat (first | apply Kd.R_alloc | apply Kd.R_drewN | apply Kd.R_drew)); exact HO_9.out))) (below_size (by repeat (first | (with_reducible first | exact HB.out | apply below_alloc | apply pw_below_drewN | apply below_drew1) | exact HB.out)))); have n3_ := Aside0.mk (below_step (by repeat (first | (with_reducible first | exact HB.out | apply below_alloc | apply pw_below_drewN | apply below_drew1) | exact HB.out)) hb); clear HO_6; clear HO_9; clear HB; have HO_6 := n0_; have HO_9 := n1_; have HO372 := n2_; have HB := n3_; clear n0_ n1_ n2_ n3_; (try clear hb); (try clear hb2); (try clear hk); (try clear hi); (try clear ho0)))
              go_ret
              exact ⟨by first | rfl | (simp [errW_none, errW_some] <;> rfl) | (simp [*, errW_none, errW_some] <;> rfl), by repeat (first | (with_reducible first | exact HB.out | apply below_alloc | apply pw_below_drewN | apply below_drew1) | exact HB.out)⟩
          · rw [if_neg c21] at H
            have c21b0 : (t367 == t365) = false := beq_eq_false_iff_ne.mpr c21
            have c21b1 : (t367 != t365) = true := bne_iff_ne.mpr c21
            obtain rfl := Option.some.inj H
            obtain ⟨Ao58, co58, eo58⟩ := Kd.R_slice HO_9.out
            subst eo58
            go_wp2_with (first | ((with_reducible refine gate_callee (f := 16) rfl ?_); refine goesL_ (some 46) rfl rfl Try.func16 (by kernel_rfl) rfl #[.slice Ao58 t360.length co58, .int .i64 1] rfl (by (try simp only [List.map_toArray, List.map_cons, List.map_nil]); first | done | rfl | (simp only [List.length_drop, List.length_take]; rfl)) ?_; (with_reducible refine (laws_markIntS.calls kj4 (fun k_ => some k_ = (.slice Ao58 t360.length co58 : Value).ownBlock) (.slice Ao58 t360.length co58) t360 1 t365 t366 w _ ?side1 ?side2 A16.out).mono ?_); (case side1 => repeat (first | (with_reducible first | exact HB.out | apply below_alloc | apply pw_below_drewN | apply below_drew1) | exact HB.out)); (case side2 => exact Kd.R_tight rfl HO_9.out); rintro e w59 ⟨rfl, hy0, hb, hkp⟩; refine ⟨_, rfl, ?_⟩; have n0_ := Aside0.mk (Kd.R_mono (ok' := fun k_ => some k_ ≠ (.slice Ao58 t360.length co58 : Value).ownBlock) (Kd.R_keptB (HO_6.out) hkp (fun k_ hk_ hs_ => (hk_) hs_)) (fun k_ hk_ => hk_.1)); have n1_ := Aside0.mk (Kd.R_reok rfl hy0 (fun k_ e_ => HO_9.out.1 k_ e_)); have n2_ := Aside0.mk (hb); clear HO_6; clear HO_9; clear HB; have HO_6 := n0_; have HO_9 := n1_; have HB := n2_; clear n0_ n1_ n2_; (try clear hb); (try clear hkp); (try clear hy0)) | ((with_reducible refine gate_callee (f := 17) rfl ?_); refine goesL_ (some 49) rfl rfl Try.func17 (by kernel_rfl) rfl #[.slice Ao58 t366.length co58, .int .i64 1] rfl (by (try simp only [List.map_toArray, List.map_cons, List.map_nil]); first | done | (rw [show t366.length = t360.length from (Kd.R_reads' HO_9.out).1.symm] <;> rfl) | rfl | (simp only [List.length_drop, List.length_take]; rfl)) ?_; (with_reducible refine (laws_heldIntS.calls kj4 _ _ t366 1 t367 _ ?side1 ?side2 A17.out).mono ?_); (case side1 => repeat (first | exact (Kd.R_reads' HO_9.out).2.2 | (with_reducible refine Kd.C_alloc ?_ _) | (with_reducible refine Kd.C_drewN ?_ _) | (with_reducible refine Kd.C_drew ?_))); (case side2 => rw [show t366.length = t360.length from (Kd.R_reads' HO_9.out).1.symm]; exact (Kd.R_reads' HO_9.out).2.1); rintro e w' ⟨rfl, ⟨nd, rfl⟩⟩; refine ⟨_, rfl, ?_⟩))
            go_ret
            exact ⟨by first | rfl | (simp [errW_none, errW_some] <;> rfl) | (simp [*, errW_none, errW_some] <;> rfl), by repeat (first | (with_reducible first | exact HB.out | apply below_alloc | apply pw_below_drewN | apply below_drew1) | exact HB.out)⟩

/-- THE ONE PURE STATEMENT of laws_FnExactLongestTail: yours. -/
def laws_FnExactLongestTail.Pure : Prop := ∀ (a0 : Int) (a1 : Int), (Lit.int .i64 a0).wf = true → (Lit.int .i64 a1).wf = true → ∃ k, laws_FnExactLongestTail.f k a0 a1 = some true
theorem laws_FnExactLongestTail.walk (P : laws_FnExactLongestTail.Pure) (a0 : Int) (a1 : Int) (w : World) (w0 : (Lit.int .i64 a0).wf = true) (w1 : (Lit.int .i64 a1).wf = true) :
    Calls Try.prog 11 #[.int .i64 a0, .int .i64 a1] w fun e w' => e = .returned (.bool true) ∧ Below w.heap.size w w' := by
  obtain ⟨k, h⟩ := P a0 a1 w0 w1
  refine (laws_FnExactLongestTail.calls k a0 a1 true w h).mono ?_
  rintro e w' ⟨rfl, hd⟩
  exact ⟨rfl, hd⟩

end Go.Proofs.Yteojcnegdcopdaa.PFnExactLongestTail
