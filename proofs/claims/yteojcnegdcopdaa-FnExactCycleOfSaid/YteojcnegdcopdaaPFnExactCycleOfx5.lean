-- Written by a program of this session (hook.py): functions, contracts and walks in the printer's form; contracts of this session's own where the printer takes none
import Derived.Test.YteojcnegdcopdaaPFnExactCycleOfx0
import Derived.Test.YteojcnegdcopdaaPFnExactCycleOfx4
namespace Go.Proofs.Yteojcnegdcopdaa.PFnExactCycleOf
open Go.RowKit Go.Proofs.YteojcnegdcopdaaW.PrintWords Go.Proofs.YteojcnegdcopdaaW.PrintLast Go.Proofs.YteojcnegdcopdaaW.PrintMore
attribute [local go_sem] max2_int min2_int max_two min_two max_three min_three max_four min_four   -- for this text's walks alone
set_option linter.unusedVariables false
set_option linter.unusedSimpArgs false

/-! ### impl_toPower: function 65 -/
def impl_toPower.l0 : Nat → Int → Int → Int → Int → Option (Int)
  | 0, _, _, _, _ => none
  | k + 1, x0, x5, x6, x7 => if x7 < x6 then (impl_toPower.l0 k x0 (wrap64 (x5 * x0)) x6 (wrap64 (x7 + 1))) else (some x5)
def impl_toPower.f (k : Nat) (a0 : Int) (a1 : Int) : Option (Int) := impl_toPower.l0 k a0 1 a1 0
theorem impl_toPower.mono_l : ∀ k, (∀ y0 y1 y2 y3, LeO (impl_toPower.l0 k y0 y1 y2 y3) (impl_toPower.l0 (k + 1) y0 y1 y2 y3))
  | 0 => fun _ _ _ _ r h => by simp [impl_toPower.l0] at h
  | k + 1 => by
    have ih0 := impl_toPower.mono_l k
    · intro y0 y1 y2 y3
      unfold impl_toPower.l0
      repeat' first
      | (with_reducible exact ih0 _ _ _ _)
      | (with_reducible exact LeO.refl _)
      | (with_reducible exact LeO.none _)
      | (with_reducible refine LeO.ite ?_ ?_)
      | (with_reducible refine LeO.bind ?_ (fun _ => ?_))
      | exact ih0 _ _ _ _
      | exact LeO.none _
      | refine LeO.ite ?_ ?_
      | refine LeO.bind ?_ (fun _ => ?_)
theorem impl_toPower.mono : ∀ a0 a1 k, LeO (impl_toPower.f k a0 a1) (impl_toPower.f (k + 1) a0 a1) := by
  intro a0 a1 k
  have ih0 := impl_toPower.mono_l k
  unfold impl_toPower.f
  repeat' first
      | (with_reducible exact ih0 _ _ _ _)
      | (with_reducible exact LeO.refl _)
      | (with_reducible exact LeO.none _)
      | (with_reducible refine LeO.ite ?_ ?_)
      | (with_reducible refine LeO.bind ?_ (fun _ => ?_))
      | exact ih0 _ _ _ _
      | exact LeO.none _
      | refine LeO.ite ?_ ?_
      | refine LeO.bind ?_ (fun _ => ?_)
set_option maxHeartbeats 8000000 in
set_option maxRecDepth 100000 in
theorem impl_toPower.calls (k : Nat) (a0 : Int) (a1 : Int) (r : Int) (w : World) (h : impl_toPower.f k a0 a1 = some r) :
    Calls Try.prog 65 #[.int .i64 a0, .int .i64 a1] w fun e w' => e = .returned (.int .i64 r) ∧ Drawn0 w w' := by
  have H : (impl_toPower.l0 k a0 1 a1 0) = some r := h
  clear h
  have H' := Aside0.mk H
  clear H
  go_enter Try.func65, Try.ntmps65
  go_wp2
  go_loopg [5, 7] k (fun kq v5 v7 w' => ∃ (x5_1 : Int) (x7_1 : Int), v5 = .int .i64 x5_1 ∧ v7 = .int .i64 x7_1 ∧ Aside0 (impl_toPower.l0 kq a0 x5_1 a1 x7_1 = some r) ∧ Aside0 (kq ≤ k) ∧ Drawn0 w w')
  case atStart => exact ⟨(1), (0), (by first | rfl | (simp; done) | (simp [*]; done)), (by first | rfl | (simp; done) | (simp [*]; done)), H', ⟨Nat.le_refl _⟩, by repeat (first | exact Drawn0.refl _ | apply Drawn0.step)⟩
  case round =>
    clear H'
    try clear p2
    obtain ⟨x5_1, x7_1, rfl, rfl, HA, HK1, ⟨m1, rfl⟩⟩ := hrel
    cases gk with
    | zero => exact absurd HA.out (by simp [impl_toPower.l0])
    | succ k1 =>
      have H := HA.out
      clear HA
      simp only [impl_toPower.l0] at H
      by_cases c3 : x7_1 < a1
      · rw [if_pos c3] at H
        have c3b0 : decide (x7_1 < a1) = true := decide_eq_true c3
        clear c3
        have H' := Aside0.mk H
        clear H
        go_wp2
        go_roundg k1
        case measure => have := HK1.out; omega
        case rel => exact ⟨(wrap64 (x5_1 * a0)), (wrap64 (x7_1 + 1)), (by first | rfl | (simp; done) | (simp [*]; done)), (by first | rfl | (simp; done) | (simp [*]; done)), H', ⟨by have := HK1.out; omega⟩, by repeat (first | exact Drawn0.refl _ | apply Drawn0.step)⟩
      · rw [if_neg c3] at H
        have c3b0 : decide (x7_1 < a1) = false := decide_eq_false c3
        clear c3
        obtain rfl := Option.some.inj H
        go_wp2
        go_ret
        exact ⟨by first | rfl | (simp; done) | (simp [*]; done), by repeat (first | exact Drawn0.refl _ | apply Drawn0.step)⟩

/-! ### impl_byGaps: function 44 -/
def impl_byGaps.l0 : Nat → Int → Int → Int → List Int → Int → Int → Option (Int)
  | 0, _, _, _, _, _, _ => none
  | k + 1, x1, x2, x7, x10, x11, x12 => if x12 < x11 then (if 0 ≤ x12 then (if x12 < (x10.length : Int) then ((impl_toPower.f k x2 (wrap64 ((wrap64 (x1 - 1)) - x12))).bind fun t227 => ((impl_toPower.f k x2 x12).bind fun t228 => (impl_byGaps.l0 k x1 x2 (wrap64 (x7 + (wrap64 ((rd x10 x12) * (wrap64 (t227 - t228)))))) x10 x11 (wrap64 (x12 + 1))))) else (none)) else (none)) else (some x7)
def impl_byGaps.f (k : Nat) (l0 : List Int) (a1 : Int) (a2 : Int) : Option (Int) := impl_byGaps.l0 k a1 a2 0 l0 (l0.length : Int) 0
theorem impl_byGaps.mono_l : ∀ k, (∀ y0 y1 y2 y3 y4 y5, LeO (impl_byGaps.l0 k y0 y1 y2 y3 y4 y5) (impl_byGaps.l0 (k + 1) y0 y1 y2 y3 y4 y5))
  | 0 => fun _ _ _ _ _ _ r h => by simp [impl_byGaps.l0] at h
  | k + 1 => by
    have ih0 := impl_byGaps.mono_l k
    · intro y0 y1 y2 y3 y4 y5
      unfold impl_byGaps.l0
      repeat' first
      | (with_reducible exact ih0 _ _ _ _ _ _)
      | (with_reducible exact impl_toPower.mono _ _ _)
      | (with_reducible exact LeO.refl _)
      | (with_reducible exact LeO.none _)
      | (with_reducible refine LeO.ite ?_ ?_)
      | (with_reducible refine LeO.bind ?_ (fun _ => ?_))
      | exact ih0 _ _ _ _ _ _
      | exact impl_toPower.mono _ _ _
      | exact LeO.none _
      | refine LeO.ite ?_ ?_
      | refine LeO.bind ?_ (fun _ => ?_)
theorem impl_byGaps.mono : ∀ a0 a1 a2 k, LeO (impl_byGaps.f k a0 a1 a2) (impl_byGaps.f (k + 1) a0 a1 a2) := by
  intro a0 a1 a2 k
  have ih0 := impl_byGaps.mono_l k
  unfold impl_byGaps.f
  repeat' first
      | (with_reducible exact ih0 _ _ _ _ _ _)
      | (with_reducible exact impl_toPower.mono _ _ _)
      | (with_reducible exact LeO.refl _)
      | (with_reducible exact LeO.none _)
      | (with_reducible refine LeO.ite ?_ ?_)
      | (with_reducible refine LeO.bind ?_ (fun _ => ?_))
      | exact ih0 _ _ _ _ _ _
      | exact impl_toPower.mono _ _ _
      | exact LeO.none _
      | refine LeO.ite ?_ ?_
      | refine LeO.bind ?_ (fun _ => ?_)
set_option maxHeartbeats 8000000 in
set_option maxRecDepth 100000 in
theorem impl_byGaps.calls (k : Nat) (A0 : Option Addr) (c0 : Nat) (l0 : List Int) (a1 : Int) (a2 : Int) (r : Int) (w : World) (hr0 : Kd.C (Kd.int .i64) w A0 l0.length l0) (hc0 : l0.length ≤ c0) (h : impl_byGaps.f k l0 a1 a2 = some r) :
    Calls Try.prog 44 #[.slice A0 l0.length c0, .int .i64 a1, .int .i64 a2] w fun e w' => e = .returned (.int .i64 r) ∧ Drawn0 w w' := by
  have HR0 := Aside0.mk hr0
  have HC0 := Aside0.mk hc0
  clear hr0 hc0
  have H : (impl_byGaps.l0 k a1 a2 0 l0 (l0.length : Int) 0) = some r := h
  clear h
  have H' := Aside0.mk H
  clear H
  go_enter Try.func44, Try.ntmps44
  go_wp2
  go_loopg [7, 12] k (fun kq v7 v12 w' => ∃ (x7_1 : Int) (x12_1 : Int), v7 = .int .i64 x7_1 ∧ v12 = .int .i64 x12_1 ∧ Aside0 (impl_byGaps.l0 kq a1 a2 x7_1 l0 (l0.length : Int) x12_1 = some r) ∧ Aside0 (kq ≤ k) ∧ Drawn0 w w')
  case atStart => exact ⟨(0), (0), (by first | rfl | (simp; done) | (simp [*]; done)), (by first | rfl | (simp; done) | (simp [*]; done)), H', ⟨Nat.le_refl _⟩, by repeat (first | exact Drawn0.refl _ | apply Drawn0.step)⟩
  case round =>
    clear H'
    try clear p2
    obtain ⟨x7_1, x12_1, rfl, rfl, HA, HK1, ⟨m1, rfl⟩⟩ := hrel
    cases gk with
    | zero => exact absurd HA.out (by simp [impl_byGaps.l0])
    | succ k1 =>
      have H := HA.out
      clear HA
      simp only [impl_byGaps.l0] at H
      by_cases c4 : x12_1 < (l0.length : Int)
      · rw [if_pos c4] at H
        have c4b0 : decide (x12_1 < (l0.length : Int)) = true := decide_eq_true c4
        clear c4
        by_cases c5 : 0 ≤ x12_1
        · rw [if_pos c5] at H
          have c5b0 : decide (0 ≤ x12_1) = true := decide_eq_true c5
          clear c5
          by_cases c6 : x12_1 < (l0.length : Int)
          · rw [if_pos c6] at H
            have c6b0 : decide (x12_1 < (l0.length : Int)) = true := decide_eq_true c6
            clear c6
            replace H := Option.bind_eq_some_iff.mp H
            obtain ⟨t227, A70, H⟩ := H
            replace H : ((impl_toPower.f k1 a2 x12_1).bind fun t228 => (impl_byGaps.l0 k1 a1 a2 (wrap64 (x7_1 + (wrap64 ((rd l0 x12_1) * (wrap64 (t227 - t228)))))) l0 (l0.length : Int) (wrap64 (x12_1 + 1)))) = some r := H
            have A7 := Aside0.mk A70
            clear A70
            replace H := Option.bind_eq_some_iff.mp H
            obtain ⟨t228, A80, H⟩ := H
            replace H : (impl_byGaps.l0 k1 a1 a2 (wrap64 (x7_1 + (wrap64 ((rd l0 x12_1) * (wrap64 (t227 - t228)))))) l0 (l0.length : Int) (wrap64 (x12_1 + 1))) = some r := H
            have A8 := Aside0.mk A80
            clear A80
            have H' := Aside0.mk H
            clear H
            have p226 : 0 ≤ (x12_1 : Int) := of_decide_eq_true (by first | (with_reducible assumption) | assumption)
            have q226 : x12_1 < (l0.length : Int) := of_decide_eq_true (by first | (with_reducible assumption) | assumption)
            obtain ⟨ad226, e226, hx226_0⟩ := Kd.at_int HR0.out x12_1 p226 q226
            cases e226
            replace p226 := eq_true p226
            replace q226 := eq_true q226
            go_wp2_with (first | ((with_reducible refine gate_callee (f := 65) rfl ?_); refine goesL_ (some 24) rfl rfl Try.func65 (by kernel_rfl) rfl #[.int .i64 a2, .int .i64 (wrap64 ((wrap64 (a1 - 1)) - x12_1))] rfl (by (try simp only [List.map_toArray, List.map_cons, List.map_nil]); first | done | rfl | (simp only [List.length_drop, List.length_take]; rfl)) ?_; (with_reducible refine (impl_toPower.calls k1 a2 (wrap64 ((wrap64 (a1 - 1)) - x12_1)) t227 _ A7.out).mono ?_); rintro e w' ⟨rfl, ⟨nd, rfl⟩⟩; refine ⟨_, rfl, ?_⟩) | ((with_reducible refine gate_callee (f := 65) rfl ?_); refine goesL_ (some 27) rfl rfl Try.func65 (by kernel_rfl) rfl #[.int .i64 a2, .int .i64 x12_1] rfl (by (try simp only [List.map_toArray, List.map_cons, List.map_nil]); first | done | rfl | (simp only [List.length_drop, List.length_take]; rfl)) ?_; (with_reducible refine (impl_toPower.calls k1 a2 x12_1 t228 _ A8.out).mono ?_); rintro e w' ⟨rfl, ⟨nd, rfl⟩⟩; refine ⟨_, rfl, ?_⟩))
            go_roundg k1
            case measure => have := HK1.out; omega
            case rel => exact ⟨(wrap64 (x7_1 + (wrap64 ((rd l0 x12_1) * (wrap64 (t227 - t228)))))), (wrap64 (x12_1 + 1)), (by first | rfl | (simp; done) | (simp [*]; done)), (by first | rfl | (simp; done) | (simp [*]; done)), H', ⟨by have := HK1.out; omega⟩, by repeat (first | exact Drawn0.refl _ | apply Drawn0.step)⟩
          · rw [if_neg c6] at H
            exact absurd H (by simp)
        · rw [if_neg c5] at H
          exact absurd H (by simp)
      · rw [if_neg c4] at H
        have c4b0 : decide (x12_1 < (l0.length : Int)) = false := decide_eq_false c4
        clear c4
        obtain rfl := Option.some.inj H
        go_wp2
        go_ret
        exact ⟨by first | rfl | (simp; done) | (simp [*]; done), by repeat (first | exact Drawn0.refl _ | apply Drawn0.step)⟩

/-! ### slices_Sort_int_int: function 96 -/
def slices_Sort_int_int.ins (x : Int) : List Int → List Int
  | [] => [x]
  | y :: t => if x ≤ y then x :: y :: t else y :: slices_Sort_int_int.ins x t
def slices_Sort_int_int.so : List Int → List Int
  | [] => []
  | x :: t => slices_Sort_int_int.ins x (slices_Sort_int_int.so t)
def slices_Sort_int_int.f (_k : Nat) (l0 : List Int) : Option (List Int) := if l0.length < 4611686018427387904 then some (slices_Sort_int_int.so l0) else none
theorem slices_Sort_int_int.mono : ∀ l0 k, LeO (slices_Sort_int_int.f k l0) (slices_Sort_int_int.f (k + 1) l0) := fun _ _ => LeO.refl _
theorem slices_Sort_int_int.ins_perm (x : Int) : ∀ l : List Int, (slices_Sort_int_int.ins x l).Perm (x :: l)
  | [] => List.Perm.refl _
  | y :: t => by
    unfold slices_Sort_int_int.ins
    split
    · exact List.Perm.refl _
    · exact ((slices_Sort_int_int.ins_perm x t).cons y).trans (List.Perm.swap x y t)
theorem slices_Sort_int_int.so_perm : ∀ l : List Int, (slices_Sort_int_int.so l).Perm l
  | [] => List.Perm.refl _
  | x :: t => (slices_Sort_int_int.ins_perm x _).trans ((slices_Sort_int_int.so_perm t).cons x)
theorem slices_Sort_int_int.ins_sorted (x : Int) : ∀ l : List Int, l.Pairwise (· ≤ ·) → (slices_Sort_int_int.ins x l).Pairwise (· ≤ ·)
  | [], _ => by simp [slices_Sort_int_int.ins]
  | y :: t, h => by
    unfold slices_Sort_int_int.ins
    obtain ⟨h1, h2⟩ := List.pairwise_cons.mp h
    split
    · rename_i hx
      refine List.pairwise_cons.mpr ⟨fun z hz => ?_, h⟩
      rcases List.mem_cons.mp hz with rfl | hz
      · exact hx
      · exact Int.le_trans hx (h1 z hz)
    · rename_i hx
      refine List.pairwise_cons.mpr ⟨fun z hz => ?_, slices_Sort_int_int.ins_sorted x t h2⟩
      rcases List.mem_cons.mp ((slices_Sort_int_int.ins_perm x t).mem_iff.mp hz) with rfl | hz
      · omega
      · exact h1 z hz
theorem slices_Sort_int_int.so_sorted : ∀ l : List Int, (slices_Sort_int_int.so l).Pairwise (· ≤ ·)
  | [] => List.Pairwise.nil
  | x :: t => slices_Sort_int_int.ins_sorted x _ (slices_Sort_int_int.so_sorted t)
theorem slices_Sort_int_int.so_merge (l : List Int) : (l.mergeSort fun x y => decide (x ≤ y)) = slices_Sort_int_int.so l := by
  have hp : (l.mergeSort fun x y => decide (x ≤ y)).Perm (slices_Sort_int_int.so l) := (List.mergeSort_perm l _).trans (slices_Sort_int_int.so_perm l).symm
  have hs : (l.mergeSort fun x y => decide (x ≤ y)).Pairwise (· ≤ ·) := by
    have := List.pairwise_mergeSort (le := fun x y : Int => decide (x ≤ y)) (fun a b c h1 h2 => by simp at h1 h2 ⊢; omega) (fun a b => by simp; omega) l
    exact this.imp (fun h => by simpa using h)
  exact hp.eq_of_pairwise (fun a b _ _ h1 h2 => Int.le_antisymm h1 h2) hs (slices_Sort_int_int.so_sorted l)
theorem slices_Sort_int_int.so_length (l : List Int) : (slices_Sort_int_int.so l).length = l.length := (slices_Sort_int_int.so_perm l).length_eq
open Go.RowKit Go.Sort in
theorem slices_Sort_int_int.calls (k : Nat) (P0_ : Nat → Prop) (u9000_ : Value) (l0 : List Int) (r : List Int) (w0 w : World) (hB : Below w0.heap.size w0 w) (ho0 : Kd.R (Kd.int .i64) 3 w w0.heap.size P0_ u9000_ l0) (h : slices_Sort_int_int.f k l0 = some r) :
    Calls Try.prog 96 #[u9000_] w fun e w' => e = .returned (.tuple #[]) ∧ Kd.R (Kd.int .i64) 3 w' w0.heap.size (fun k_ => (P0_ k_ ∨ w.heap.size ≤ k_)) u9000_ r ∧ Below w0.heap.size w0 w' ∧ Kept w w' (fun k_ => P0_ k_) := by
  unfold slices_Sort_int_int.f at h
  by_cases hs : l0.length < 4611686018427387904
  · rw [if_pos hs] at h
    obtain rfl := Option.some.inj h
    have ho : w.ownsRow w0.heap.size 3 1 u9000_ l0.length (nums .i64 l0) := Kd.own_of_R ho0
    rcases ho.2 with ⟨rfl, h0⟩ | ⟨g, cap, cur, rfl, hg, hh, hn, hc, hcs, hcur⟩
    · have : l0 = [] := List.length_eq_zero_iff.mp h0
      subst this
      refine (Try.slices_Sort_int_none none 0 w).mono ?_
      rintro e w' ⟨rfl, rfl⟩
      exact ⟨rfl, Kd.R_nil _ _ _ _ _, hB, Kept.refl _ _⟩
    · have hgl : g < w.heap.size := (Array.getElem?_eq_some_iff.1 hh).1
      have hH : Holds (Value.int .i64) w g 0 l0.toArray := by
        intro j hj
        have hj' : j < l0.length := by simpa using hj
        have h2 := own_at (k := .i64) ho (j : Int) (by omega) (by omega)
        rw [Int.toNat_natCast] at h2
        rw [Nat.zero_add]
        refine ⟨?_, h2.2⟩
        rw [h2.1, getElem!_pos _ j hj]
        simp [YteojcnegdcopdaaW.PrintWords.rd, List.getD_eq_getElem?_getD, List.getElem?_eq_getElem hj']
      refine (Try.slices_Sort_int g 0 cap l0 w hH hgl hs).mono ?_
      rintro e w' ⟨rfl, n, os, rfl⟩
      rw [slices_Sort_int_int.so_merge]
      have hl : (slices_Sort_int_int.so l0).length = l0.length := slices_Sort_int_int.so_length l0
      generalize hso : slices_Sort_int_int.so l0 = s at hl ⊢
      clear hso
      have hsize : (grow (putRow (Value.int .i64) (Sort.ahead w n) g 0 s.toArray) os).heap.size = w.heap.size + os.size := by simp
      have hold : ∀ i, i < w.heap.size → i ≠ g → (grow (putRow (Value.int .i64) (Sort.ahead w n) g 0 s.toArray) os).heap[i]? = w.heap[i]? := by
        intro i hi hne
        rw [heap_grow_old _ _ (by simpa using hi)]
        show (w.heap.modify g _)[i]? = _
        rw [Array.getElem?_modify, if_neg (Ne.symm hne)]
      have hnew : (grow (putRow (Value.int .i64) (Sort.ahead w n) g 0 s.toArray) os).heap[g]? = some (.cells (putCells (Value.int .i64) 0 s.toArray cur) 3 (0, 0)) := by
        rw [heap_grow_old _ _ (by simpa using hgl)]
        show (w.heap.modify g _)[g]? = _
        rw [Array.getElem?_modify, if_pos rfl, hh]
        rfl
      generalize hW : grow (putRow (Value.int .i64) (Sort.ahead w n) g 0 s.toArray) os = W at hsize hold hnew ⊢
      have hos : W.os = w.os := by rw [← hW]; rfl
      have htape : W.tape = w.tape := by rw [← hW]; rfl
      have hout : W.output = w.output := by rw [← hW]; rfl
      clear hW
      have hown : W.ownsRow w0.heap.size 3 1 (.slice (some ⟨g, 0, none⟩) s.length cap) s.length (nums .i64 s) := by
        refine ⟨by simp [nums], .inr ⟨g, cap, putCells (Value.int .i64) 0 s.toArray cur, rfl, hg, hnew, by omega, hc, by simp [putCells, hcs], ?_⟩⟩
        apply List.ext_getElem?
        intro j
        rw [Nat.mul_one]
        by_cases hj : j < s.length
        · have hjc : j < cur.size := by omega
          rw [List.getElem?_take_of_lt hj, Array.getElem?_toList]
          simp [putCells, nums, hj, hjc]
        · rw [List.getElem?_eq_none (by simp; omega), List.getElem?_eq_none (by simp [nums]; omega)]
      refine ⟨rfl, ?_, hB.trans ⟨hos, htape, hout, by omega, fun i hi => hold i (by have := hB.size; omega) (by omega)⟩, ⟨by omega, fun i hi hni => hold i hi (fun e => hni (ho0.1 i (by subst e; rfl)))⟩⟩
      rw [hl] at hown
      have hR : Kd.R (Kd.int .i64) 3 W w0.heap.size (fun k_ => (P0_ k_ ∨ w.heap.size ≤ k_)) (.slice (some ⟨g, 0, none⟩) l0.length cap) s := Kd.R_of_own (by rw [hl]; exact hown) (fun i hi => .inl (ho0.1 i hi))
      exact hR
  · rw [if_neg hs] at h
    cases h

/-! ### slices_Sorted_int: function 76 -/
def slices_Sorted_int.f (_k : Nat) (l0 : List Int) : Option (List Int) := if 1 ≤ l0.length ∧ l0.length ≤ 1000000 then some (slices_Sort_int_int.so l0) else none
theorem slices_Sorted_int.mono : ∀ l0 k, LeO (slices_Sorted_int.f k l0) (slices_Sorted_int.f (k + 1) l0) := fun _ _ => LeO.refl _
theorem slices_Sorted_int.ints {A0 : Option Addr} {c0 : Nat} {l0 : List Int} {w : World} (hr0 : Kd.C (Kd.int .i64) w A0 l0.length l0) (h1 : 1 ≤ l0.length) : Vs.Ints w.heap.size w (.slice A0 l0.length c0) l0 := by
  obtain ⟨ad, e, h0⟩ := Kd.at_int hr0 0 (by omega) (by omega)
  subst e
  obtain ⟨b, off, spot⟩ := ad
  have hspot : spot = none := by simpa [Addr.add] using World.cell?_spot h0
  subst hspot
  have hb : b < w.heap.size := by
    have := World.block_lt_of_cell? _ _ h0
    simpa [Addr.add] using this
  refine .inr ⟨b, off, c0, rfl, hb, fun j hj => ?_⟩
  obtain ⟨ad, e, hj2⟩ := Kd.at_int hr0 (j : Int) (by omega) (by omega)
  cases e
  have ha : (⟨b, off, none⟩ : Addr).add j = ⟨b, off + j, none⟩ := by unfold Addr.add; split <;> simp_all
  rw [Int.toNat_natCast, ha] at hj2
  rw [hj2]
  simp [YteojcnegdcopdaaW.PrintWords.rd, List.getD_eq_getElem?_getD]
open Go.RowKit in
set_option maxHeartbeats 8000000 in
set_option maxRecDepth 100000 in
theorem slices_Sorted_int.calls (k : Nat) (A0 : Option Addr) (c0 : Nat) (l0 : List Int) (r : List Int) (w : World) (hr0 : Kd.C (Kd.int .i64) w A0 l0.length l0) (hc0 : l0.length ≤ c0) (h : slices_Sorted_int.f k l0 = some r) :
    Calls Try.prog 76 #[.func (.func 97) #[] #[.pointer (some ⟨w.heap.size, 0, none⟩)]] (w.alloc (.cells #[.slice A0 l0.length c0] 22)) fun e w' => ∃ v0_ : Value, e = .returned (v0_) ∧ Kd.R (Kd.int .i64) 3 w' w.heap.size (fun _ => True) v0_ r ∧ Below w.heap.size w w' := by
  unfold slices_Sorted_int.f at h
  by_cases hc : 1 ≤ l0.length ∧ l0.length ≤ 1000000
  · rw [if_pos hc] at h
    obtain rfl := Option.some.inj h
    have HC := Aside0.mk (Vs.collect_calls A0 c0 l0 (by simp [maxLen]; omega) (by omega) w (slices_Sorted_int.ints (c0 := c0) hr0 hc.1))
    have HL : Aside0 (slices_Sort_int_int.f k l0 = some (slices_Sort_int_int.so l0)) := ⟨by unfold slices_Sort_int_int.f; exact if_pos (by omega)⟩
    clear hr0 hc0 h hc
    go_enter Try.func76, Try.ntmps76
    go_wp2_with (first | (go_at_call 95; (with_reducible refine HC.out.mono ?_); rintro e w1 ⟨v, rfl, hrow, hb⟩; have hR : Kd.R (Kd.int .i64) 3 w1 w.heap.size (fun _ => True) v l0 := Kd.R_of_own hrow (fun _ _ => trivial); obtain ⟨Ao, co, eo⟩ := Kd.R_slice hR; subst eo; have HR := Aside0.mk hR; have HB := Aside0.mk hb; clear hR hb hrow) | (go_at_call 96; (with_reducible refine (slices_Sort_int_int.calls k (fun _ => True) _ l0 _ w w1 HB.out HR.out HL.out).mono ?_); rintro e w2 ⟨rfl, hR2, hb2, hk2⟩; have HR2 := Aside0.mk (Kd.R_mono hR2 (ok' := fun _ => True) (fun _ _ => trivial)); have HB2 := Aside0.mk hb2; clear hR2 hb2 hk2))
    go_ret
    exact ⟨_, rfl, HR2.out, HB2.out⟩
  · rw [if_neg hc] at h
    cases h

/-! ### impl_gaps: function 45 -/
def impl_gaps.l0 : Nat → List Int → List Int → Int → Int → Option (List Int)
  | 0, _, _, _, _ => none
  | k + 1, x3, x4, x12, x13 => if x13 < x12 then (if 0 ≤ (wrap64 ((wrap64 ((x3.length : Int) - 1)) - x13)) then (if (wrap64 ((wrap64 ((x3.length : Int) - 1)) - x13)) < (x3.length : Int) then (if 0 ≤ x13 then (if x13 < (x3.length : Int) then (if x4.length < 17592186044416 then (impl_gaps.l0 k x3 (x4 ++ [wrap64 ((rd x3 (wrap64 ((wrap64 ((x3.length : Int) - 1)) - x13))) - (rd x3 x13))]) x12 (wrap64 (x13 + 1))) else (none)) else (none)) else (none)) else (none)) else (none)) else (some x4)
def impl_gaps.f (k : Nat) (l0 : List Int) : Option (List Int) := (slices_Sorted_int.f k l0).bind fun t229 => (impl_gaps.l0 k t229 (([] : List Int)) (wrap64 ((t229.length : Int) / 2)) 0)
theorem impl_gaps.mono_l : ∀ k, (∀ y0 y1 y2 y3, LeO (impl_gaps.l0 k y0 y1 y2 y3) (impl_gaps.l0 (k + 1) y0 y1 y2 y3))
  | 0 => fun _ _ _ _ r h => by simp [impl_gaps.l0] at h
  | k + 1 => by
    have ih0 := impl_gaps.mono_l k
    · intro y0 y1 y2 y3
      unfold impl_gaps.l0
      repeat' first
      | (with_reducible exact ih0 _ _ _ _)
      | (with_reducible exact slices_Sorted_int.mono _ _)
      | (with_reducible exact LeO.refl _)
      | (with_reducible exact LeO.none _)
      | (with_reducible refine LeO.ite ?_ ?_)
      | (with_reducible refine LeO.bind ?_ (fun _ => ?_))
      | exact ih0 _ _ _ _
      | exact slices_Sorted_int.mono _ _
      | exact LeO.none _
      | refine LeO.ite ?_ ?_
      | refine LeO.bind ?_ (fun _ => ?_)
theorem impl_gaps.mono : ∀ a0 k, LeO (impl_gaps.f k a0) (impl_gaps.f (k + 1) a0) := by
  intro a0 k
  have ih0 := impl_gaps.mono_l k
  unfold impl_gaps.f
  repeat' first
      | (with_reducible exact ih0 _ _ _ _)
      | (with_reducible exact slices_Sorted_int.mono _ _)
      | (with_reducible exact LeO.refl _)
      | (with_reducible exact LeO.none _)
      | (with_reducible refine LeO.ite ?_ ?_)
      | (with_reducible refine LeO.bind ?_ (fun _ => ?_))
      | exact ih0 _ _ _ _
      | exact slices_Sorted_int.mono _ _
      | exact LeO.none _
      | refine LeO.ite ?_ ?_
      | refine LeO.bind ?_ (fun _ => ?_)
def impl_gaps.T6 : Bool × List (List Nat × List Nat) := (true, [([], []), ([], []), ([], []), ([2], [2]), ([3], [3]), ([], []), ([4, 5], [4, 5]), ([1, 6], [1, 6]), ([7], [7]), ([], []), ([], []), ([9, 10], [9, 10]), ([11], [11]), ([8, 12], [8, 12]), ([13], [13]), ([0, 14], [0, 14]), ([15, 15, 0, 1, 2, 3, 4, 5, 6, 7, 8, 9, 10, 11, 12, 13, 14, 15], [0, 15])])
def impl_gaps.B6 : List Nat := [0, 0, 0, 4, 12, 0, 60, 126, 254, 0, 0, 1536, 3584, 8190, 16382, 32767, 65535]
theorem impl_gaps.tab6 : rtab .any (opsOf Try.f45 6) = impl_gaps.T6 := by kernel_rfl
theorem impl_gaps.bits6 : waitsOk impl_gaps.T6.2 impl_gaps.B6 = true := by kernel_rfl
set_option maxHeartbeats 8000000 in
set_option maxRecDepth 100000 in
theorem impl_gaps.calls (k : Nat) (A0 : Option Addr) (c0 : Nat) (l0 : List Int) (r : List Int) (w : World) (hr0 : Kd.C (Kd.int .i64) w A0 l0.length l0) (hc0 : l0.length ≤ c0) (h : impl_gaps.f k l0 = some r) :
    Calls Try.prog 45 #[.slice A0 l0.length c0] w fun e w' => ∃ v0_ : Value, e = .returned (v0_) ∧ Kd.R (Kd.int .i64) 3 w' w.heap.size (fun _ => True) v0_ r ∧ Below w.heap.size w w' := by
  have HR0 := Aside0.mk hr0
  have HC0 := Aside0.mk hc0
  clear hr0 hc0
  have HB := Aside0.mk (Below.refl w.heap.size w)
  have H : ((slices_Sorted_int.f k l0).bind fun t229 => (impl_gaps.l0 k t229 (([] : List Int)) (wrap64 ((t229.length : Int) / 2)) 0)) = some r := h
  clear h
  replace H := Option.bind_eq_some_iff.mp H
  obtain ⟨t229, A20, H⟩ := H
  replace H : (impl_gaps.l0 k t229 (([] : List Int)) (wrap64 ((t229.length : Int) / 2)) 0) = some r := H
  have A2 := Aside0.mk A20
  clear A20
  obtain ⟨y232, hy232⟩ : ∃ y_ : List Int, y_ = (([] : List Int)) := ⟨_, rfl⟩
  replace H : (impl_gaps.l0 k t229 y232 (wrap64 ((t229.length : Int) / 2)) 0) = some r := by first | (rw [hy232]; with_reducible exact H) | (have H2_ := (Option.bind_some _ _).symm.trans H; rw [hy232]; with_reducible exact H2_) | (have H2_ := (Option.bind_some _ _).symm.trans H; with_reducible exact H2_) | with_reducible exact H | (rw [hy232]; exact H) | exact H
  have Ny232 := Aside0.mk hy232
  clear hy232
  have H' := Aside0.mk H
  clear H
  go_enter Try.func45, Try.ntmps45
  go_wp2_with (first | (go_at_call 77; (with_reducible refine (Vs.values_calls _ _ _ _).mono ?_); rintro e w_ ⟨rfl, rfl⟩) | ((with_reducible refine gate_callee (f := 76) rfl ?_); refine goesL_ (some 8) rfl rfl Try.func76 (by kernel_rfl) rfl #[.func (.func 97) #[] #[.pointer (some ⟨w.heap.size, 0, none⟩)]] rfl (by (try simp only [List.map_toArray, List.map_cons, List.map_nil]); first | done | rfl | (simp only [List.length_drop, List.length_take]; rfl)) ?_; (with_reducible refine (slices_Sorted_int.calls k _ _ l0 t229 _ ?side1 ?side2 A2.out).mono ?_); (case side1 => repeat (first | exact HR0.out | (with_reducible refine Kd.C_alloc ?_ _) | (with_reducible refine Kd.C_drewN ?_ _) | (with_reducible refine Kd.C_drew ?_))); (case side2 => exact HC0.out); rintro e w3 ⟨v230, rfl, ho0, hb⟩; refine ⟨_, rfl, ?_⟩; have n0_ := Aside0.mk (Kd.R_lower ho0 (below_size (by repeat (first | (with_reducible first | exact HB.out | apply below_alloc | apply pw_below_drewN | apply below_drew1) | exact HB.out)))); have n1_ := Aside0.mk (below_step (by repeat (first | (with_reducible first | exact HB.out | apply below_alloc | apply pw_below_drewN | apply below_drew1) | exact HB.out)) hb); clear HB; have HO231 := n0_; have HB := n1_; clear n0_ n1_; (try clear hb); (try clear hb2); (try clear hk); (try clear hi); (try clear ho0)) | ((with_reducible refine gate_dst (N := 9) rfl ?_); refine Kd.R_lit (Kd.int .i64) _ 3 ?hg (N := 9) ?hd (xs := ([] : List Int)) (inner := []) (ok := fun _ => True) (okp := fun _ => True) ?hr ?hp (fun _ hk => hk) trivial (Below.refl _ _) (Nat.le_refl _) (by simp) ?_; (case hd => rfl); (case hg => rfl); (case hr => first | (go_simp; done) | (go_simp; rfl)); (case hp => exact (Reps.none _ _)); intro v233 w4 ho5 hb hg_ hnew_; clear hg_ hnew_; (first | rw [← Ny232.out] at ho5 | (simp only [Int.reduceToNat] at ho5; rw [← Ny232.out] at ho5)); have n0_ := Aside0.mk (Kd.R_elder' (by (with_reducible repeat (first | apply Kd.R_alloc | apply Kd.R_drewN | apply Kd.R_drew)); exact HO231.out) (Kd.R_base ho5) hb); have n1_ := Aside0.mk (Kd.R_lower (Kd.R_new' ho5 (Kd.R_lt (by (with_reducible repeat (first | apply Kd.R_alloc | apply Kd.R_drewN | apply Kd.R_drew)); exact HO231.out))) (below_size (by repeat (first | (with_reducible first | exact HB.out | apply below_alloc | apply pw_below_drewN | apply below_drew1) | exact HB.out)))); have n2_ := Aside0.mk (below_step (by repeat (first | (with_reducible first | exact HB.out | apply below_alloc | apply pw_below_drewN | apply below_drew1) | exact HB.out)) hb); clear HO231; clear HB; have HO231 := n0_; have HO234 := n1_; have HB := n2_; clear n0_ n1_ n2_; clear hb ho5; obtain ⟨Ao6, co6, eo6⟩ := Kd.R_slice HO231.out; subst eo6))
  go_loopg [4, 13] k (fun kq v4 v13 w' => ∃ (x4_1 : List Int) (x13_1 : Int), v13 = .int .i64 x13_1 ∧ Aside0 (impl_gaps.l0 kq t229 x4_1 (wrap64 ((t229.length : Int) / 2)) x13_1 = some r) ∧ Aside0 (kq ≤ k) ∧ Aside0 (Kd.R (Kd.int .i64) 3 w' w.heap.size (fun k_ => some k_ ≠ (v4 : Value).ownBlock) (.slice Ao6 t229.length co6) t229) ∧ Aside0 (Kd.R (Kd.int .i64) 3 w' w.heap.size (fun k_ => some k_ ≠ ((.slice Ao6 t229.length co6) : Value).ownBlock) v4 x4_1) ∧ Aside0 (Below w.heap.size w w'))
  case atStart => exact ⟨(y232), (0), (by first | rfl | (simp; done) | (simp [*]; done)), H', ⟨Nat.le_refl _⟩, ⟨by (with_reducible repeat (first | apply Kd.R_alloc | apply Kd.R_drewN | apply Kd.R_drew)); exact Kd.R_mono HO231.out (fun _ hk => hk.2)⟩, ⟨by (with_reducible repeat (first | apply Kd.R_alloc | apply Kd.R_drewN | apply Kd.R_drew)); exact Kd.R_mono HO234.out (fun _ hk => hk.2)⟩, ⟨by repeat (first | (with_reducible first | exact HB.out | apply below_alloc | apply pw_below_drewN | apply below_drew1) | exact HB.out)⟩⟩
  case round =>
    clear H'
    try clear p2
    try clear c4
    try clear p6
    obtain ⟨x4_1, x13_1, rfl, HA, HK1, HO_3, HO_4, HB⟩ := hrel
    cases gk with
    | zero => exact absurd HA.out (by simp [impl_gaps.l0])
    | succ k1 =>
      have H := HA.out
      clear HA
      simp only [impl_gaps.l0] at H
      by_cases c7 : x13_1 < (wrap64 ((t229.length : Int) / 2))
      · rw [if_pos c7] at H
        have c7b0 : decide (x13_1 < (wrap64 ((t229.length : Int) / 2))) = true := decide_eq_true c7
        clear c7
        obtain ⟨ji8, hji8⟩ : ∃ j_ : Int, (wrap64 ((wrap64 ((t229.length : Int) - 1)) - x13_1)) = j_ := ⟨_, rfl⟩
        replace H : (if 0 ≤ (ji8) then (if (ji8) < (t229.length : Int) then (if 0 ≤ x13_1 then (if x13_1 < (t229.length : Int) then (if x4_1.length < 17592186044416 then (impl_gaps.l0 k1 t229 (x4_1 ++ [wrap64 ((rd t229 (ji8)) - (rd t229 x13_1))]) (wrap64 ((t229.length : Int) / 2)) (wrap64 (x13_1 + 1))) else (none)) else (none)) else (none)) else (none)) else (none)) = some r := by first | (rw [hji8] at H; exact H) | (simp only [hji8] at H ⊢; exact H)
        have hji8w : (IntKind.i64.wrap ((wrap64 ((t229.length : Int) - 1)) - x13_1)) = ji8 := (i64_w _).trans hji8
        by_cases c9 : 0 ≤ (ji8)
        · rw [if_pos c9] at H
          have c9b0 : decide (0 ≤ (ji8)) = true := decide_eq_true c9
          clear c9
          by_cases c10 : (ji8) < (t229.length : Int)
          · rw [if_pos c10] at H
            have c10b0 : decide ((ji8) < (t229.length : Int)) = true := decide_eq_true c10
            clear c10
            by_cases c11 : 0 ≤ x13_1
            · rw [if_pos c11] at H
              have c11b0 : decide (0 ≤ x13_1) = true := decide_eq_true c11
              clear c11
              by_cases c12 : x13_1 < (t229.length : Int)
              · rw [if_pos c12] at H
                have c12b0 : decide (x13_1 < (t229.length : Int)) = true := decide_eq_true c12
                clear c12
                by_cases c13 : x4_1.length < 17592186044416
                · rw [if_pos c13] at H
                  have LMc13 := Aside0.mk c13
                  clear c13
                  obtain ⟨y237, hy237⟩ : ∃ y_ : List Int, y_ = (x4_1 ++ [wrap64 ((rd t229 (ji8)) - (rd t229 x13_1))]) := ⟨_, rfl⟩
                  replace H : (impl_gaps.l0 k1 t229 y237 (wrap64 ((t229.length : Int) / 2)) (wrap64 (x13_1 + 1))) = some r := by first | (rw [hy237]; with_reducible exact H) | (have H2_ := (Option.bind_some _ _).symm.trans H; rw [hy237]; with_reducible exact H2_) | (have H2_ := (Option.bind_some _ _).symm.trans H; with_reducible exact H2_) | with_reducible exact H | (rw [hy237]; exact H) | exact H
                  have Ny237 := Aside0.mk hy237
                  clear hy237
                  have H' := Aside0.mk H
                  clear H
                  try go_wp2
                  have n0_ := Aside0.mk (Kd.R_drew HO_3.out)
                  have n1_ := Aside0.mk (Kd.R_drew HO_4.out)
                  have n2_ := Aside0.mk (below_drew1 HB.out)
                  clear HO_3
                  clear HO_4
                  clear HB
                  have HO_3 := n0_
                  have HO_4 := n1_
                  have HB := n2_
                  clear n0_ n1_ n2_
                  have p235 : 0 ≤ ((ji8) : Int) := of_decide_eq_true (by first | (with_reducible assumption) | assumption)
                  have q235 : (ji8) < (t229.length : Int) := of_decide_eq_true (by first | (with_reducible assumption) | assumption)
                  obtain ⟨ad235, e235, hx235_0⟩ := Kd.at_int (Kd.R_reads' HO_3.out).2.2 (ji8) p235 q235
                  cases e235
                  replace p235 := eq_true p235
                  replace q235 := eq_true q235
                  have p236 : 0 ≤ (x13_1 : Int) := of_decide_eq_true (by first | (with_reducible assumption) | assumption)
                  have q236 : x13_1 < (t229.length : Int) := of_decide_eq_true (by first | (with_reducible assumption) | assumption)
                  obtain ⟨ad236, e236, hx236_0⟩ := Kd.at_int (Kd.R_reads' HO_3.out).2.2 x13_1 p236 q236
                  obtain rfl : ad235 = ad236 := (by injection e236)
                  replace p236 := eq_true p236
                  replace q236 := eq_true q236
                  refine start_ (n := 17) (S := fun w' => w'.cell? (ad235.add ((ji8)).toNat) = some (.int .i64 (rd t229 (ji8))) ∧ w'.cell? (ad235.add (x13_1).toNat) = some (.int .i64 (rd t229 x13_1))) (ds := [14, 15]) #[false, false, false, false, false, false, false, false, false, false, false, false, false, false, false, false, false] (by kernel_rfl) rfl rfl ⟨hx235_0, hx236_0⟩ (fun hHeld => ?_); refine with_tabW impl_gaps.tab6 impl_gaps.bits6 (fun HT_ HW_ => ?_)
                  generalize wr.drew = w14 at HO_3 HO_4 HB hx235_0 hx236_0 hHeld ⊢
                  refine pure_ (i := 0) (N := some 16) (v := ?_) (a' := ?_) #[true, false, false, false, false, false, false, false, false, false, false, false, false, false, false, false, false] rfl rfl (any_of HT_.out (by kernel_rfl)) (fun _ _ _ h => h) (Or.inl ⟨by rfl, ?_⟩) ?_ ?_
                  rotate_left
                  · intro w'
                    go_simp
                    with_reducible rfl
                  rotate_left
                  · simp only [Act.put, List.setIfInBounds_toArray, List.set_cons_zero, List.set_cons_succ, i64_w, i32_w]
                    rfl
                  refine pure_ (i := 1) (N := some 17) (v := ?_) (a' := ?_) #[true, true, false, false, false, false, false, false, false, false, false, false, false, false, false, false, false] rfl rfl (any_of HT_.out (by kernel_rfl)) (fun _ _ _ h => h) (Or.inl ⟨by rfl, ?_⟩) ?_ ?_
                  rotate_left
                  · intro w'
                    go_simp
                    with_reducible rfl
                  rotate_left
                  · simp only [Act.put, List.setIfInBounds_toArray, List.set_cons_zero, List.set_cons_succ, i64_w, i32_w]
                    rfl
                  refine pure_ (i := 2) (N := some 18) (v := ?_) (a' := ?_) #[true, true, true, false, false, false, false, false, false, false, false, false, false, false, false, false, false] rfl rfl (any_of HT_.out (by kernel_rfl)) (fun _ _ _ h => h) (Or.inl ⟨by rfl, ?_⟩) ?_ ?_
                  rotate_left
                  · intro w'
                    go_simp
                    with_reducible rfl
                  rotate_left
                  · simp only [Act.put, List.setIfInBounds_toArray, List.set_cons_zero, List.set_cons_succ, i64_w, i32_w]
                    rfl
                  refine pure_ (i := 3) (N := some 19) (v := ?_) (a' := ?_) #[true, true, true, true, false, false, false, false, false, false, false, false, false, false, false, false, false] rfl rfl (any_of HT_.out (by kernel_rfl)) (fun _ _ _ h => h) (Or.inl ⟨by rfl, ?_⟩) ?_ ?_
                  rotate_left
                  · intro w'
                    go_simp
                    with_reducible rfl
                  rotate_left
                  · simp only [Act.put, List.setIfInBounds_toArray, List.set_cons_zero, List.set_cons_succ, i64_w, i32_w]
                    rfl
                  refine pure_ (i := 4) (N := some 20) (v := ?_) (a' := ?_) #[true, true, true, true, true, false, false, false, false, false, false, false, false, false, false, false, false] rfl rfl (any_of HT_.out (by kernel_rfl)) (fun _ _ _ h => h) (Or.inl ⟨by rfl, ?_⟩) ?_ ?_
                  rotate_left
                  · intro w'
                    go_simp
                    with_reducible rfl
                  rotate_left
                  · simp only [Act.put, List.setIfInBounds_toArray, List.set_cons_zero, List.set_cons_succ, i64_w, i32_w]
                    rfl
                  refine pure_ (i := 5) (N := some 21) (v := ?_) (a' := ?_) #[true, true, true, true, true, true, false, false, false, false, false, false, false, false, false, false, false] rfl rfl (any_of HT_.out (by kernel_rfl)) (fun _ _ _ h => h) (Or.inl ⟨by rfl, ?_⟩) ?_ ?_
                  rotate_left
                  · intro w'
                    go_simp
                    with_reducible rfl
                  rotate_left
                  · simp only [Act.put, List.setIfInBounds_toArray, List.set_cons_zero, List.set_cons_succ, i64_w, i32_w]
                    rfl
                  refine pure_ (i := 6) (N := some 22) (v := ?_) (a' := ?_) #[true, true, true, true, true, true, true, false, false, false, false, false, false, false, false, false, false] rfl rfl (any_of HT_.out (by kernel_rfl)) (fun _ _ _ h => h) (Or.inl ⟨by rfl, ?_⟩) ?_ ?_
                  rotate_left
                  · intro w'
                    go_simp
                    with_reducible rfl
                  rotate_left
                  · simp only [Act.put, List.setIfInBounds_toArray, List.set_cons_zero, List.set_cons_succ, i64_w, i32_w]
                    rfl
                  refine pure_ (i := 7) (N := some 23) (v := ?_) (a' := ?_) #[true, true, true, true, true, true, true, true, false, false, false, false, false, false, false, false, false] rfl rfl (any_of HT_.out (by kernel_rfl)) (fun _ _ _ h => h) (Or.inl ⟨by rfl, ?_⟩) ?_ ?_
                  rotate_left
                  · intro w'
                    go_simp
                    with_reducible rfl
                  rotate_left
                  · simp only [Act.put, List.setIfInBounds_toArray, List.set_cons_zero, List.set_cons_succ, i64_w, i32_w]
                    rfl
                  refine pure_ (i := 9) (N := some 25) (v := ?_) (a' := ?_) #[true, true, true, true, true, true, true, true, false, true, false, false, false, false, false, false, false] rfl rfl (any_of HT_.out (by kernel_rfl)) (fun _ _ _ h => h) (Or.inl ⟨by rfl, ?_⟩) ?_ ?_
                  rotate_left
                  · intro w'
                    go_simp
                    with_reducible rfl
                  rotate_left
                  · simp only [Act.put, List.setIfInBounds_toArray, List.set_cons_zero, List.set_cons_succ, i64_w, i32_w]
                    rfl
                  refine pure_ (i := 10) (N := some 26) (v := ?_) (a' := ?_) #[true, true, true, true, true, true, true, true, false, true, true, false, false, false, false, false, false] rfl rfl (any_of HT_.out (by kernel_rfl)) (fun _ _ _ h => h) (Or.inl ⟨by rfl, ?_⟩) ?_ ?_
                  rotate_left
                  · intro w'
                    go_simp
                    with_reducible rfl
                  rotate_left
                  · simp only [Act.put, List.setIfInBounds_toArray, List.set_cons_zero, List.set_cons_succ, i64_w, i32_w]
                    rfl
                  refine pure_ (i := 11) (N := some 27) (v := ?_) (a' := ?_) #[true, true, true, true, true, true, true, true, false, true, true, true, false, false, false, false, false] rfl rfl (any_of HT_.out (by kernel_rfl)) (fun _ _ _ h => h) (Or.inl ⟨by rfl, ?_⟩) ?_ ?_
                  rotate_left
                  · intro w'
                    go_simp
                    with_reducible rfl
                  rotate_left
                  · simp only [Act.put, List.setIfInBounds_toArray, List.set_cons_zero, List.set_cons_succ, i64_w, i32_w]
                    rfl
                  refine take_ (i := 8) (N := some 24) (v := ?_) (a' := ?_) #[true, true, true, true, true, true, true, true, true, true, true, true, false, false, false, false, false] rfl rfl (take_ofW HT_.out HW_.out (by kernel_rfl)) (fun _ _ _ h => h) (Or.inl ⟨by rfl, ?_⟩) hHeld ?_ ?_
                  rotate_left
                  · rintro w' ⟨s0, s1⟩
                    go_simp
                    with_reducible rfl
                  rotate_left
                  · simp only [Act.put, List.setIfInBounds_toArray, List.set_cons_zero, List.set_cons_succ, i64_w, i32_w]
                    rfl
                  refine take_ (i := 12) (N := some 28) (v := ?_) (a' := ?_) #[true, true, true, true, true, true, true, true, true, true, true, true, true, false, false, false, false] rfl rfl (take_ofW HT_.out HW_.out (by kernel_rfl)) (fun _ _ _ h => h) (Or.inl ⟨by rfl, ?_⟩) hHeld ?_ ?_
                  rotate_left
                  · rintro w' ⟨s0, s1⟩
                    go_simp
                    with_reducible rfl
                  rotate_left
                  · simp only [Act.put, List.setIfInBounds_toArray, List.set_cons_zero, List.set_cons_succ, i64_w, i32_w]
                    rfl
                  refine pure_ (i := 13) (N := some 29) (v := ?_) (a' := ?_) #[true, true, true, true, true, true, true, true, true, true, true, true, true, true, false, false, false] rfl rfl (any_of HT_.out (by kernel_rfl)) (fun _ _ _ h => h) (Or.inl ⟨by rfl, ?_⟩) ?_ ?_
                  rotate_left
                  · intro w'
                    go_simp
                    with_reducible rfl
                  rotate_left
                  · simp only [Act.put, List.setIfInBounds_toArray, List.set_cons_zero, List.set_cons_succ, i64_w, i32_w]
                    rfl
                  refine last_ (i := 14) (N := some 30) #[true, true, true, true, true, true, true, true, true, true, true, true, true, true, true, false, false] rfl rfl (one_of HT_.out (by kernel_rfl)) (by decide) (fun K hK => ?_)
                  refine value_ (w1 := ?_) (v := ?_) (by rfl) rfl ?_ ?_
                  rotate_left 2
                  · go_simp
                    constructor
                    · rfl
                    · rfl
                  refine hK.out _ _ ?_
                  clear hK K
                  refine norm_ (a' := ?_) ?_ ?_
                  rotate_left
                  · show Act.put _ (some 30) _ = _
                    simp only [Act.put, List.setIfInBounds_toArray, List.set_cons_zero, List.set_cons_succ, i64_w, i32_w]
                    rfl
                  refine last_ (i := 15) (N := some 31) #[true, true, true, true, true, true, true, true, true, true, true, true, true, true, true, true, false] rfl rfl (one_of HT_.out (by kernel_rfl)) (by decide) (fun K hK => ?_)
                  refine Kd.R_append_step (Kd.int .i64) (w0 := w) w.heap.size (by rfl) (.tmp 16) (.tmp 30) 22 3 (.int .i64 0) 8 rfl Try.underlying22 info3 rfl (by decide) (by omega) u4 x4_1 (wrap64 ((rd t229 (ji8)) - (rd t229 x13_1))) [.int .i64 (wrap64 ((rd t229 (ji8)) - (rd t229 x13_1)))] (fun k_ => some k_ ≠ (.slice (some ad235) t229.length co6 : Value).ownBlock) (fun _ => False) rfl rfl ?aP (fun _ hk => hk.elim) ?aF ?aO ?aB ?aS ?aL ?_
                  (case aP => exact rfl)
                  (case aB => exact (by repeat (first | (with_reducible first | exact HB.out | apply below_alloc | apply pw_below_drewN | apply below_drew1) | exact HB.out)))
                  (case aF => exact (fun k_ hk => Kd.fresh' (Kd.R_lt (by (with_reducible repeat (first | apply Kd.R_alloc | apply Kd.R_drewN | apply Kd.R_drew)); exact HO_3.out)) k_ hk))
                  (case aO => exact (by (with_reducible repeat (first | apply Kd.R_alloc | apply Kd.R_drewN | apply Kd.R_drew)); exact HO_4.out))
                  (case aS => exact (below_size (by repeat (first | (with_reducible first | exact HB.out | apply below_alloc | apply pw_below_drewN | apply below_drew1) | exact HB.out))))
                  (case aL => have := LMc13.out; omega)
                  intro v238 w15 ho hb hg hat
                  rw [← Ny237.out] at ho
                  have n0_ := Aside0.mk (Kd.R_after (ok := (fun _ => True)) (by (with_reducible repeat (first | apply Kd.R_alloc | apply Kd.R_drewN | apply Kd.R_drew)); exact Kd.R_mono HO_3.out (fun _ hk => ⟨trivial, hk⟩)) hg hat)
                  have n1_ := Aside0.mk (hb)
                  have n2_ := Aside0.mk (ho)
                  clear HO_3
                  clear HB
                  clear HO_4
                  have HO_3 := n0_
                  have HB := n1_
                  have HO239 := n2_
                  clear n0_ n1_ n2_
                  clear ho hb hg hat
                  refine hK.out _ _ ?_
                  clear hK K
                  refine norm_ (a' := ?_) ?_ ?_
                  rotate_left
                  · show Act.put _ (some 31) _ = _
                    simp only [Act.put, List.setIfInBounds_toArray, List.set_cons_zero, List.set_cons_succ, i64_w, i32_w]
                    rfl
                  refine pure_ (i := 16) (N := some 4) (v := ?_) (a' := ?_) #[true, true, true, true, true, true, true, true, true, true, true, true, true, true, true, true, true] rfl rfl (any_of HT_.out (by kernel_rfl)) (fun _ _ _ h => h) (Or.inl ⟨by rfl, ?_⟩) ?_ ?_
                  rotate_left
                  · intro w'
                    go_simp
                    with_reducible rfl
                  rotate_left
                  · simp only [Act.put, List.setIfInBounds_toArray, List.set_cons_zero, List.set_cons_succ, i64_w, i32_w]
                    rfl
                  refine done_ (done_of HT_.out (by kernel_rfl)) ?_
                  try go_wp2
                  go_roundg k1
                  case measure => have := HK1.out; omega
                  case rel => exact ⟨(y237), (wrap64 (x13_1 + 1)), (by first | rfl | (simp; done) | (simp [*]; done)), H', ⟨by have := HK1.out; omega⟩, ⟨by (with_reducible repeat (first | apply Kd.R_alloc | apply Kd.R_drewN | apply Kd.R_drew)); exact Kd.R_mono HO_3.out (fun _ hk => hk.2)⟩, ⟨by (with_reducible repeat (first | apply Kd.R_alloc | apply Kd.R_drewN | apply Kd.R_drew)); exact HO239.out⟩, ⟨by repeat (first | (with_reducible first | exact HB.out | apply below_alloc | apply pw_below_drewN | apply below_drew1) | exact HB.out)⟩⟩
                · rw [if_neg c13] at H
                  exact absurd H (by simp)
              · rw [if_neg c12] at H
                exact absurd H (by simp)
            · rw [if_neg c11] at H
              exact absurd H (by simp)
          · rw [if_neg c10] at H
            exact absurd H (by simp)
        · rw [if_neg c9] at H
          exact absurd H (by simp)
      · rw [if_neg c7] at H
        have c7b0 : decide (x13_1 < (wrap64 ((t229.length : Int) / 2))) = false := decide_eq_false c7
        clear c7
        obtain rfl := Option.some.inj H
        go_wp2
        go_ret
        exact ⟨_, by first | rfl | (simp [errW_none, errW_some] <;> rfl) | (simp [*, errW_none, errW_some] <;> rfl), by (with_reducible repeat (first | apply Kd.R_alloc | apply Kd.R_drewN | apply Kd.R_drew)); exact Kd.R_mono HO_4.out (fun _ hk => trivial), by repeat (first | (with_reducible first | exact HB.out | apply below_alloc | apply pw_below_drewN | apply below_drew1) | exact HB.out)⟩

/-! ### impl_step: function 66 -/
def impl_step.f (k : Nat) (a0 : Int) (a1 : Int) (a2 : Int) : Option (Int) := (impl_wordOf.f k a0 a1 a2).bind fun t240 => ((impl_gaps.f k t240).bind fun t243 => ((impl_byGaps.f k t243 a1 a2).bind fun t246 => (some t246)))
theorem impl_step.mono : ∀ a0 a1 a2 k, LeO (impl_step.f k a0 a1 a2) (impl_step.f (k + 1) a0 a1 a2) := by
  intro a0 a1 a2 k
  unfold impl_step.f
  repeat' first
      | (with_reducible exact impl_byGaps.mono _ _ _ _)
      | (with_reducible exact impl_gaps.mono _ _)
      | (with_reducible exact impl_wordOf.mono _ _ _ _)
      | (with_reducible exact LeO.refl _)
      | (with_reducible exact LeO.none _)
      | (with_reducible refine LeO.ite ?_ ?_)
      | (with_reducible refine LeO.bind ?_ (fun _ => ?_))
      | exact impl_byGaps.mono _ _ _ _
      | exact impl_gaps.mono _ _
      | exact impl_wordOf.mono _ _ _ _
      | exact LeO.none _
      | refine LeO.ite ?_ ?_
      | refine LeO.bind ?_ (fun _ => ?_)
set_option maxHeartbeats 8000000 in
set_option maxRecDepth 100000 in
theorem impl_step.calls (k : Nat) (a0 : Int) (a1 : Int) (a2 : Int) (r : Int) (w : World) (h : impl_step.f k a0 a1 a2 = some r) :
    Calls Try.prog 66 #[.int .i64 a0, .int .i64 a1, .int .i64 a2] w fun e w' => e = .returned (.int .i64 r) ∧ Below w.heap.size w w' := by
  have HB := Aside0.mk (Below.refl w.heap.size w)
  have H : ((impl_wordOf.f k a0 a1 a2).bind fun t240 => ((impl_gaps.f k t240).bind fun t243 => ((impl_byGaps.f k t243 a1 a2).bind fun t246 => (some t246)))) = some r := h
  clear h
  replace H := Option.bind_eq_some_iff.mp H
  obtain ⟨t240, A40, H⟩ := H
  replace H : ((impl_gaps.f k t240).bind fun t243 => ((impl_byGaps.f k t243 a1 a2).bind fun t246 => (some t246))) = some r := H
  have A4 := Aside0.mk A40
  clear A40
  replace H := Option.bind_eq_some_iff.mp H
  obtain ⟨t243, A50, H⟩ := H
  replace H : ((impl_byGaps.f k t243 a1 a2).bind fun t246 => (some t246)) = some r := H
  have A5 := Aside0.mk A50
  clear A50
  replace H := Option.bind_eq_some_iff.mp H
  obtain ⟨t246, A60, H⟩ := H
  replace H : (some t246) = some r := H
  have A6 := Aside0.mk A60
  clear A60
  obtain rfl := Option.some.inj H
  go_enter Try.func66, Try.ntmps66
  go_wp2_with (first | ((with_reducible refine gate_callee (f := 43) rfl ?_); refine goesL_ (some 10) rfl rfl Try.func43 (by kernel_rfl) rfl #[.int .i64 a0, .int .i64 a1, .int .i64 a2] rfl (by (try simp only [List.map_toArray, List.map_cons, List.map_nil]); first | done | rfl | (simp only [List.length_drop, List.length_take]; rfl)) ?_; (with_reducible refine (impl_wordOf.calls k a0 a1 a2 t240 _ A4.out).mono ?_); rintro e w7 ⟨v241, rfl, ho0, hb⟩; refine ⟨_, rfl, ?_⟩; have n0_ := Aside0.mk (Kd.R_lower ho0 (below_size (by repeat (first | (with_reducible first | exact HB.out | apply below_alloc | apply pw_below_drewN | apply below_drew1) | exact HB.out)))); have n1_ := Aside0.mk (below_step (by repeat (first | (with_reducible first | exact HB.out | apply below_alloc | apply pw_below_drewN | apply below_drew1) | exact HB.out)) hb); clear HB; have HO242 := n0_; have HB := n1_; clear n0_ n1_; (try clear hb); (try clear hb2); (try clear hk); (try clear hi); (try clear ho0); obtain ⟨Ao8, co8, eo8⟩ := Kd.R_slice HO242.out; subst eo8) | ((with_reducible refine gate_callee (f := 45) rfl ?_); refine goesL_ (some 11) rfl rfl Try.func45 (by kernel_rfl) rfl #[.slice Ao8 t240.length co8] rfl (by (try simp only [List.map_toArray, List.map_cons, List.map_nil]); first | done | rfl | (simp only [List.length_drop, List.length_take]; rfl)) ?_; (with_reducible refine (impl_gaps.calls k _ _ t240 t243 _ ?side1 ?side2 A5.out).mono ?_); (case side1 => repeat (first | exact (Kd.R_reads' HO242.out).2.2 | (with_reducible refine Kd.C_alloc ?_ _) | (with_reducible refine Kd.C_drewN ?_ _) | (with_reducible refine Kd.C_drew ?_))); (case side2 => exact (Kd.R_reads' HO242.out).2.1); rintro e w9 ⟨v244, rfl, ho0, hb⟩; refine ⟨_, rfl, ?_⟩; have n0_ := Aside0.mk (Kd.R_elder' (by (with_reducible repeat (first | apply Kd.R_alloc | apply Kd.R_drewN | apply Kd.R_drew)); exact HO242.out) (Kd.R_base ho0) hb); have n1_ := Aside0.mk (Kd.R_lower (Kd.R_new' ho0 (Kd.R_lt (by (with_reducible repeat (first | apply Kd.R_alloc | apply Kd.R_drewN | apply Kd.R_drew)); exact HO242.out))) (below_size (by repeat (first | (with_reducible first | exact HB.out | apply below_alloc | apply pw_below_drewN | apply below_drew1) | exact HB.out)))); have n2_ := Aside0.mk (below_step (by repeat (first | (with_reducible first | exact HB.out | apply below_alloc | apply pw_below_drewN | apply below_drew1) | exact HB.out)) hb); clear HO242; clear HB; have HO242 := n0_; have HO245 := n1_; have HB := n2_; clear n0_ n1_ n2_; (try clear hb); (try clear hb2); (try clear hk); (try clear hi); (try clear ho0); obtain ⟨Ao10, co10, eo10⟩ := Kd.R_slice HO245.out; subst eo10) | ((with_reducible refine gate_callee (f := 44) rfl ?_); refine goesL_ (some 14) rfl rfl Try.func44 (by kernel_rfl) rfl #[.slice Ao10 t243.length co10, .int .i64 a1, .int .i64 a2] rfl (by (try simp only [List.map_toArray, List.map_cons, List.map_nil]); first | done | rfl | (simp only [List.length_drop, List.length_take]; rfl)) ?_; (with_reducible refine (impl_byGaps.calls k _ _ t243 a1 a2 t246 _ ?side1 ?side2 A6.out).mono ?_); (case side1 => repeat (first | exact (Kd.R_reads' HO245.out).2.2 | (with_reducible refine Kd.C_alloc ?_ _) | (with_reducible refine Kd.C_drewN ?_ _) | (with_reducible refine Kd.C_drew ?_))); (case side2 => exact (Kd.R_reads' HO245.out).2.1); rintro e w' ⟨rfl, ⟨nd, rfl⟩⟩; refine ⟨_, rfl, ?_⟩))
  go_ret
  exact ⟨by first | rfl | (simp [errW_none, errW_some] <;> rfl) | (simp [*, errW_none, errW_some] <;> rfl), by repeat (first | (with_reducible first | exact HB.out | apply below_alloc | apply pw_below_drewN | apply below_drew1) | exact HB.out)⟩

/-! ### impl_sortedRun: function 47 -/
theorem impl_sortedRun.snoc {p : List Int → Prop} (h0 : p []) (hs : ∀ l a, p l → p (l ++ [a])) (l : List Int) : p l := by
  have h : ∀ r : List Int, p r.reverse := by
    intro r
    induction r with
    | nil => exact h0
    | cons a r ih => rw [List.reverse_cons]; exact hs _ _ ih
  simpa using h l.reverse
def impl_sortedRun.dm (out : List Int) : DataW Unit := out.zipIdx.foldl (fun D p => D.put (.int .i64 p.1) (.lit (.int .i64 (p.2 : Int)))) (.map [])
def impl_sortedRun.find (n : Int) (out : List Int) : Option Int := out.zipIdx.foldl (fun a p => if p.1 = n then some (p.2 : Int) else a) none
theorem impl_sortedRun.dm_snoc (out : List Int) (n : Int) : impl_sortedRun.dm (out ++ [n]) = (impl_sortedRun.dm out).put (.int .i64 n) (.lit (.int .i64 (out.length : Int))) := by
  simp [impl_sortedRun.dm, List.zipIdx_append]
theorem impl_sortedRun.find_snoc (out : List Int) (n m : Int) : impl_sortedRun.find m (out ++ [n]) = if n = m then some (out.length : Int) else impl_sortedRun.find m out := by
  simp [impl_sortedRun.find, List.zipIdx_append]
theorem impl_sortedRun.dm_map (out : List Int) : Go.Maps.IsMap (impl_sortedRun.dm out) := by
  refine impl_sortedRun.snoc (p := fun out => Go.Maps.IsMap (impl_sortedRun.dm out)) ⟨[], rfl⟩ (fun l a ih => ?_) out
  · rw [impl_sortedRun.dm_snoc]; obtain ⟨es, h⟩ := ih; rw [h]; exact ⟨_, rfl⟩
theorem impl_sortedRun.dm_find (m : Int) (out : List Int) : Go.Maps.has (impl_sortedRun.dm out) (.int .i64 m) = (impl_sortedRun.find m out).isSome ∧ ∀ i, impl_sortedRun.find m out = some i → (impl_sortedRun.dm out).atKey (.int .i64 m) (.lit (.int .i64 0)) = .lit (.int .i64 i) := by
  refine impl_sortedRun.snoc (p := fun out => Go.Maps.has (impl_sortedRun.dm out) (.int .i64 m) = (impl_sortedRun.find m out).isSome ∧ ∀ i, impl_sortedRun.find m out = some i → (impl_sortedRun.dm out).atKey (.int .i64 m) (.lit (.int .i64 0)) = .lit (.int .i64 i)) ⟨rfl, fun i h => by simp [impl_sortedRun.find] at h⟩ (fun l a ih => ?_) out
  · rw [impl_sortedRun.dm_snoc, impl_sortedRun.find_snoc]
    by_cases h : a = m
    · subst h
      rw [if_pos rfl]
      refine ⟨Go.Maps.has_put_same (impl_sortedRun.dm_map l) (by trivial) _, fun i hi => ?_⟩
      rw [Go.Maps.atKey_put_same (impl_sortedRun.dm_map l) (by trivial)]
      cases hi; rfl
    · rw [if_neg h]
      have hne : (Lit.int .i64 m) ≠ .int .i64 a := fun e => h (by cases e; rfl)
      refine ⟨(Go.Maps.has_put_other hne _).trans ih.1, fun i hi => ?_⟩
      rw [Go.Maps.atKey_put_other hne]
      exact ih.2 i hi
def impl_sortedRun.l0 : Nat → Int → Int → Int → List Int → Option (List Int × Int)
  | 0, _, _, _, _ => none
  | k + 1, w, b, n, out => if (Lit.int .i64 n).wf = true ∧ out.length < 5000000000 then (if (impl_sortedRun.find n out).isSome = true then some (out, (impl_sortedRun.find n out).getD 0) else (impl_step.f k n w b).bind fun n' => impl_sortedRun.l0 k w b n' (out ++ [n])) else none
def impl_sortedRun.f (k : Nat) (a0 a1 a2 : Int) : Option (List Int × Int) := impl_sortedRun.l0 k a1 a2 a0 []
theorem impl_sortedRun.mono_l : ∀ k a b c d, LeO (impl_sortedRun.l0 k a b c d) (impl_sortedRun.l0 (k + 1) a b c d)
  | 0, _, _, _, _ => fun r h => by simp [impl_sortedRun.l0] at h
  | k + 1, a, b, c, d => by
    unfold impl_sortedRun.l0
    refine LeO.ite (LeO.ite (LeO.refl _) (LeO.bind (impl_step.mono _ _ _ _) (fun _ => impl_sortedRun.mono_l k _ _ _ _))) (LeO.refl _)
theorem impl_sortedRun.mono : ∀ a0 a1 a2 k, LeO (impl_sortedRun.f k a0 a1 a2) (impl_sortedRun.f (k + 1) a0 a1 a2) := fun _ _ _ k => impl_sortedRun.mono_l k _ _ _ _
set_option maxHeartbeats 8000000 in
set_option maxRecDepth 100000 in
theorem impl_sortedRun.clo (k : Nat) (x wd b r : Int) (p1 p2 : Addr) (w : World) (h1 : w.cell? p1 = some (.int .i64 wd)) (h2 : w.cell? p2 = some (.int .i64 b)) (h : impl_step.f k x wd b = some r) :
    Calls Try.prog 80 #[.int .i64 x, .pointer (some p1), .pointer (some p2)] w fun e w' => e = .returned (.int .i64 r) ∧ Below w.heap.size w w' := by
  have HS := Aside0.mk h
  clear h
  go_enter Try.func80, Try.ntmps80
  go_wp2_with (first | (go_at_call 66; (with_reducible refine (impl_step.calls k x wd b r _ HS.out).mono ?_); rintro e w' ⟨rfl, hb⟩; have HB := Aside0.mk hb; clear hb))
  go_ret
  exact ⟨rfl, HB.out⟩
theorem impl_sortedRun.some_of {o : Option Int} (h : o.isSome = true) : o = some (o.getD 0) := by cases o with | none => cases h | some v => rfl
theorem impl_sortedRun.zero3 (w : World) : (zeroValue 3).run Try.prog w = .ok (.int .i64 0) w := by kernel_rfl
set_option maxHeartbeats 8000000 in
set_option maxRecDepth 100000 in
theorem impl_sortedRun.runOf (k : Nat) (n0 wd b : Int) (r1 : List Int) (r2 : Int) (p1 p2 : Addr) (w : World) (h1 : w.cell? p1 = some (.int .i64 wd)) (h2 : w.cell? p2 = some (.int .i64 b)) (h : impl_sortedRun.l0 k wd b n0 [] = some (r1, r2)) :
    Calls Try.prog 79 #[.int .i64 n0, .func (.func 80) #[] #[.pointer (some p1), .pointer (some p2)]] w fun e w' => ∃ v0_ : Value, e = .returned (.tuple #[v0_, .int .i64 r2]) ∧ Kd.R (Kd.int .i64) 3 w' w.heap.size (fun _ => True) v0_ r1 ∧ Below w.heap.size w w' := by
  have hmm := @run_makeMap Try.prog
  have H1 := Aside0.mk h1
  have H2 := Aside0.mk h2
  have H' := Aside0.mk h
  clear h1 h2 h
  go_enter Try.func79, Try.ntmps79
  go_wp2
  have hm0 : (((w.alloc (.map #[] 0)).alloc (.cells #[] 3))).ownsMap Try.prog 3 (plainElem (H := Unit) Try.prog 3) w.heap.size ([] : List Int).length (impl_sortedRun.dm []) := (World.ownsMap_made w _ _ _).alloc _
  have hr0 : Kd.R (Kd.int .i64) 3 ((w.alloc (.map #[] 0)).alloc (.cells #[] 3)) w.heap.size (fun k_ => k_ ≠ w.heap.size) (.slice (some ⟨w.heap.size + 1, 0, none⟩) 0 0) [] := by
    refine Kd.R_of_own ⟨rfl, .inr ⟨w.heap.size + 1, 0, #[], rfl, by omega, ?_, Nat.le_refl _, by simp [maxLen], rfl, rfl⟩⟩ (fun k hk => ?_)
    · have := World.alloc_heap_new (w.alloc (.map #[] 0)) (.cells #[] 3)
      rwa [World.size_alloc] at this
    · simp [Value.ownBlock] at hk; omega
  have hb0 : Below w.heap.size w ((w.alloc (.map #[] 0)).alloc (.cells #[] 3)) := ((Below.refl _ w).alloc (Nat.le_refl _) _).alloc (by simp) _
  go_loopg [0, 7] k (fun kq v0 v7 w' => ∃ (n : Int) (out : List Int), v0 = .int .i64 n ∧ Aside0 (impl_sortedRun.l0 kq wd b n out = some (r1, r2)) ∧ Aside0 (kq ≤ k) ∧ Aside0 (Kd.R (Kd.int .i64) 3 w' w.heap.size (fun k_ => k_ ≠ w.heap.size) v7 out) ∧ Aside0 (w'.ownsMap Try.prog 3 (plainElem (H := Unit) Try.prog 3) w.heap.size out.length (impl_sortedRun.dm out)) ∧ Aside0 (Below w.heap.size w w'))
  case atStart => exact ⟨n0, [], rfl, H', ⟨Nat.le_refl _⟩, ⟨hr0⟩, ⟨hm0⟩, ⟨hb0⟩⟩
  case round =>
    clear H' hm0 hr0 hb0
    obtain ⟨n, out, rfl, HA, HK1, HO, HM, HB⟩ := hrel
    cases gk with
    | zero => exact absurd HA.out (by simp [impl_sortedRun.l0])
    | succ k1 =>
      have H := HA.out
      clear HA
      simp only [impl_sortedRun.l0] at H
      by_cases hwf : (Lit.int .i64 n).wf = true ∧ out.length < 5000000000
      · rw [if_pos hwf] at H
        have HWF := Aside0.mk hwf
        clear hwf
        have HKEY := Aside0.mk (show keyOf Try.prog 3 (.int .i64 n) = some (.int .i64 n) from Go.Maps.keyOf_int_mk Try.underlying3 HWF.out.1)
        obtain ⟨Ao, co, eo⟩ := Kd.R_slice HO.out
        subst eo
        by_cases hf : (impl_sortedRun.find n out).isSome = true
        · rw [if_pos hf] at H
          have HF := Aside0.mk ((impl_sortedRun.dm_find n out).1.trans hf)
          have HI := Aside0.mk ((impl_sortedRun.dm_find n out).2 _ (impl_sortedRun.some_of hf))
          have HE := Aside0.mk H
          clear H hf
          go_wp2_with (first | (at_lookup; refine wpList_lookup_own_ok_int _ rfl _ _ 64 rfl 3 3 .i64 (Go.Maps.int_keyed Try.underlying3) Try.underlying64 Try.underlying3 (impl_sortedRun.zero3 _) w.heap.size out.length _ rfl HM.out _ _ rfl HKEY.out ?_; intro c hat hwc; rw [HF.out]; have HC := Aside0.mk hat; clear hat hwc))
          go_ret2
          have hci : c = (impl_sortedRun.find n out).getD 0 := by
            have h := HC.out.symm.trans HI.out
            injection h with h
            injection h
          have hE := HE.out
          simp only [Option.some.injEq, Prod.mk.injEq] at hE
          obtain ⟨e1, e2⟩ := hE
          rw [hci, ← e1, ← e2]
          exact ⟨_, rfl, Kd.R_mono HO.out (fun _ _ => trivial), HB.out⟩
        · rw [if_neg hf] at H
          obtain ⟨n2, hs, H⟩ := Option.bind_eq_some_iff.mp H
          have hf2 : (impl_sortedRun.find n out).isSome = false := by simpa using hf
          have HF := Aside0.mk ((impl_sortedRun.dm_find n out).1.trans hf2)
          have HS := Aside0.mk hs
          have HE := Aside0.mk H
          have HLW : Aside0 ((Lit.int .i64 (out.length : Int)).wf = true) := ⟨by have := HWF.out.2; simp only [Lit.wf, Bool.and_eq_true, decide_eq_true_eq, show IntKind.i64.min = -9223372036854775808 from rfl, show IntKind.i64.max = 9223372036854775807 from rfl]; omega⟩
          clear H hf hf2 hs
          go_wp2_with (first | (at_lookup; refine wpList_lookup_own_ok_int _ rfl _ _ 64 rfl 3 3 .i64 (Go.Maps.int_keyed Try.underlying3) Try.underlying64 Try.underlying3 (impl_sortedRun.zero3 _) w.heap.size out.length _ rfl HM.out _ _ rfl HKEY.out ?_; intro c hat hwc; rw [HF.out]; have HC := Aside0.mk hat; clear hat hwc) | (at_mapUpdate; refine wpList_mapUpdate_own _ rfl _ _ _ 64 rfl 3 3 (Go.Maps.int_keyed Try.underlying3) Try.underlying64 _ w.heap.size out.length _ rfl HM.out (by have := HWF.out.2; unfold maxLen; omega) _ _ _ rfl rfl HKEY.out _ [] (plainElem_int Try.underlying3 HLW.out) ?_; intro w1 hown1 hgrow1; have HM1 : Aside0 (w1.ownsMap Try.prog 3 (plainElem (H := Unit) Try.prog 3) w.heap.size (out ++ [n]).length (impl_sortedRun.dm (out ++ [n]))) := ⟨by rw [impl_sortedRun.dm_snoc, List.length_append]; exact hown1⟩; have HO1 := Aside0.mk (Kd.R_grown HO.out hgrow1 (fun k_ hk_ e_ => hk_ (by cases e_; rfl))); have HB1 := Aside0.mk (HB.out.grown hgrow1 HB.out.size (fun j hj => by cases hj; exact Nat.le_refl _)); clear hown1 hgrow1) | (at_builtin; refine Kd.R_append (Kd.int .i64) (w0 := w) w.heap.size rfl (.tmp 25) (.tmp 27) 22 3 (.int .i64 0) 8 rfl Try.underlying22 info3 rfl (by decide) (by omega) (.slice Ao out.length co) out n [.int .i64 n] (fun k_ => k_ ≠ w.heap.size) (fun _ => False) rfl rfl ?aP (fun _ hk => hk.elim) ?aF HO1.out HB1.out ?aS ?aL ?_; (case aP => exact rfl); (case aF => intro k_ hk_ e_; have := HM1.out.lt; omega); (case aS => exact HB1.out.size); (case aL => have := HWF.out.2; omega); intro v2 w2 ho hb hg hat; have HM2 := Aside0.mk (HM1.out.kept hg (fun e_ => HO1.out.1 w.heap.size e_.symm rfl)); have HO2 := Aside0.mk ho; have HB2 := Aside0.mk hb; clear ho hb hg hat) | (go_at_call 80; (with_reducible refine (impl_sortedRun.clo k1 n wd b n2 p1 p2 w2 (pw_cell_below HB2.out H1.out) (pw_cell_below HB2.out H2.out) HS.out).mono ?_); rintro e w3 ⟨rfl, hb3⟩; have HM3 := Aside0.mk (HM2.out.kept (grown_of_below hb3 none) (by simp)); have HO3 := Aside0.mk (Kd.R_below HO2.out hb3); have HB3 := Aside0.mk (below_step HB2.out hb3); clear hb3))
          go_roundg k1
          case measure => have := HK1.out; omega
          case rel => exact ⟨n2, out ++ [n], rfl, HE, ⟨by have := HK1.out; omega⟩, HO3, HM3, HB3⟩
      · rw [if_neg hwf] at H
        cases H
set_option maxHeartbeats 8000000 in
set_option maxRecDepth 100000 in
theorem impl_sortedRun.calls (k : Nat) (a0 : Int) (a1 : Int) (a2 : Int) (r1 : List Int) (r2 : Int) (w : World) (h : impl_sortedRun.f k a0 a1 a2 = some (r1, r2)) :
    Calls Try.prog 47 #[.int .i64 a0, .int .i64 a1, .int .i64 a2] w fun e w' => ∃ v0_ : Value, e = .returned (.tuple #[v0_, .int .i64 r2]) ∧ Kd.R (Kd.int .i64) 3 w' w.heap.size (fun _ => True) v0_ r1 ∧ Below w.heap.size w w' := by
  have hc1 : ((w.alloc (.cells #[.int .i64 a1] 3)).alloc (.cells #[.int .i64 a2] 3)).cell? ⟨w.heap.size, 0, none⟩ = some (.int .i64 a1) := by
    have h1 : (w.alloc (.cells #[.int .i64 a1] 3)).heap[w.heap.size]? = some (.cells #[.int .i64 a1] 3 (0, 0)) := World.alloc_heap_new w _
    have h2 := (RowKit.Below.heap_alloc (w.alloc (.cells #[.int .i64 a1] 3)) (.cells #[.int .i64 a2] 3) w.heap.size (by simp)).trans h1
    simp [World.cell?, h2]
  have hc2 : ((w.alloc (.cells #[.int .i64 a1] 3)).alloc (.cells #[.int .i64 a2] 3)).cell? ⟨w.heap.size + 1, 0, none⟩ = some (.int .i64 a2) := by
    have h2 : ((w.alloc (.cells #[.int .i64 a1] 3)).alloc (.cells #[.int .i64 a2] 3)).heap[(w.alloc (.cells #[.int .i64 a1] 3)).heap.size]? = some (.cells #[.int .i64 a2] 3 (0, 0)) := World.alloc_heap_new _ _
    rw [World.size_alloc] at h2
    unfold World.cell?
    rw [h2]
    rfl
  have hB0 : Below w.heap.size w ((w.alloc (.cells #[.int .i64 a1] 3)).alloc (.cells #[.int .i64 a2] 3)) := ((RowKit.Below.refl _ w).alloc (Nat.le_refl _) _).alloc (by simp) _
  have HR := Aside0.mk (impl_sortedRun.runOf k a0 a1 a2 r1 r2 ⟨w.heap.size, 0, none⟩ ⟨w.heap.size + 1, 0, none⟩ _ hc1 hc2 h)
  have HB0 := Aside0.mk hB0
  clear hc1 hc2 hB0 h
  go_enter Try.func47, Try.ntmps47
  go_wp2_with (first | (go_at_call 79; (with_reducible refine HR.out.mono ?_); rintro e w3 ⟨v, rfl, hR, hb⟩; obtain ⟨Ao, co, eo⟩ := Kd.R_slice hR; subst eo; have HO := Aside0.mk (Kd.R_lower hR HB0.out.size); have HB := Aside0.mk (HB0.out.trans (hb.mono HB0.out.size)); clear hR hb))
  go_ret2
  exact ⟨_, rfl, HO.out, HB.out⟩

end Go.Proofs.Yteojcnegdcopdaa.PFnExactCycleOf
