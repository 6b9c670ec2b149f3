-- Written by a program of this session (hook.py): functions, contracts and walks in the printer's form; contracts of this session's own where the printer takes none
import Derived.Test.YteojcnegdcopdaaPFnExactLongestTailx0
import Derived.Test.YteojcnegdcopdaaPFnExactLongestTailx5
import Derived.Test.YteojcnegdcopdaaPFnExactLongestTailx6
import Derived.Test.YteojcnegdcopdaaPFnExactLongestTailx8
namespace Go.Proofs.Yteojcnegdcopdaa.PFnExactLongestTail
open Go.RowKit Go.Proofs.YteojcnegdcopdaaW.PrintWords Go.Proofs.YteojcnegdcopdaaW.PrintLast Go.Proofs.YteojcnegdcopdaaW.PrintMore
attribute [local go_sem] max2_int min2_int max_two min_two max_three min_three max_four min_four   -- for this text's walks alone
set_option linter.unusedVariables false
set_option linter.unusedSimpArgs false

/-! ### slices_Sort_int_int: function 96 -/
def slices_Sort_int_int.ins (x : Int) : List Int → List Int
  | [] => [x]
  | y :: t => if x ≤ y then x :: y :: t else y :: slices_Sort_int_int.ins x t
def slices_Sort_int_int.so : List Int → List Int
  | [] => []
  | x :: t => slices_Sort_int_int.ins x (slices_Sort_int_int.so t)
def slices_Sort_int_int.f (_k : Nat) (l0 : List Int) : Option (List Int) := if l0.length < 4611686018427387904 then some (slices_Sort_int_int.so l0) else none
theorem slices_Sort_int_int.mono : ∀ l0 k, LeO (slices_Sort_int_int.f k l0) (slices_Sort_int_int.f (k + 1) l0) := fun _ _ => LeO.refl _
theorem slices_Sort_int_int.ins_perm (x : Int) : ∀ l : List Int, (slices_Sort_int_int.ins x l).Perm (x :: l)
  | [] => List.Perm.refl _
  | y :: t => by
    unfold slices_Sort_int_int.ins
    split
    · exact List.Perm.refl _
    · exact ((slices_Sort_int_int.ins_perm x t).cons y).trans (List.Perm.swap x y t)
theorem slices_Sort_int_int.so_perm : ∀ l : List Int, (slices_Sort_int_int.so l).Perm l
  | [] => List.Perm.refl _
  | x :: t => (slices_Sort_int_int.ins_perm x _).trans ((slices_Sort_int_int.so_perm t).cons x)
theorem slices_Sort_int_int.ins_sorted (x : Int) : ∀ l : List Int, l.Pairwise (· ≤ ·) → (slices_Sort_int_int.ins x l).Pairwise (· ≤ ·)
  | [], _ => by simp [slices_Sort_int_int.ins]
  | y :: t, h => by
    unfold slices_Sort_int_int.ins
    obtain ⟨h1, h2⟩ := List.pairwise_cons.mp h
    split
    · rename_i hx
      refine List.pairwise_cons.mpr ⟨fun z hz => ?_, h⟩
      rcases List.mem_cons.mp hz with rfl | hz
      · exact hx
      · exact Int.le_trans hx (h1 z hz)
    · rename_i hx
      refine List.pairwise_cons.mpr ⟨fun z hz => ?_, slices_Sort_int_int.ins_sorted x t h2⟩
      rcases List.mem_cons.mp ((slices_Sort_int_int.ins_perm x t).mem_iff.mp hz) with rfl | hz
      · omega
      · exact h1 z hz
theorem slices_Sort_int_int.so_sorted : ∀ l : List Int, (slices_Sort_int_int.so l).Pairwise (· ≤ ·)
  | [] => List.Pairwise.nil
  | x :: t => slices_Sort_int_int.ins_sorted x _ (slices_Sort_int_int.so_sorted t)
theorem slices_Sort_int_int.so_merge (l : List Int) : (l.mergeSort fun x y => decide (x ≤ y)) = slices_Sort_int_int.so l := by
  have hp : (l.mergeSort fun x y => decide (x ≤ y)).Perm (slices_Sort_int_int.so l) := (List.mergeSort_perm l _).trans (slices_Sort_int_int.so_perm l).symm
  have hs : (l.mergeSort fun x y => decide (x ≤ y)).Pairwise (· ≤ ·) := by
    have := List.pairwise_mergeSort (le := fun x y : Int => decide (x ≤ y)) (fun a b c h1 h2 => by simp at h1 h2 ⊢; omega) (fun a b => by simp; omega) l
    exact this.imp (fun h => by simpa using h)
  exact hp.eq_of_pairwise (fun a b _ _ h1 h2 => Int.le_antisymm h1 h2) hs (slices_Sort_int_int.so_sorted l)
theorem slices_Sort_int_int.so_length (l : List Int) : (slices_Sort_int_int.so l).length = l.length := (slices_Sort_int_int.so_perm l).length_eq
open Go.RowKit Go.Sort in
theorem slices_Sort_int_int.calls (k : Nat) (P0_ : Nat → Prop) (u9000_ : Value) (l0 : List Int) (r : List Int) (w0 w : World) (hB : Below w0.heap.size w0 w) (ho0 : Kd.R (Kd.int .i64) 3 w w0.heap.size P0_ u9000_ l0) (h : slices_Sort_int_int.f k l0 = some r) :
    Calls Try.prog 96 #[u9000_] w fun e w' => e = .returned (.tuple #[]) ∧ Kd.R (Kd.int .i64) 3 w' w0.heap.size (fun k_ => (P0_ k_ ∨ w.heap.size ≤ k_)) u9000_ r ∧ Below w0.heap.size w0 w' ∧ Kept w w' (fun k_ => P0_ k_) := by
  unfold slices_Sort_int_int.f at h
  by_cases hs : l0.length < 4611686018427387904
  · rw [if_pos hs] at h
    obtain rfl := Option.some.inj h
    have ho : w.ownsRow w0.heap.size 3 1 u9000_ l0.length (nums .i64 l0) := Kd.own_of_R ho0
    rcases ho.2 with ⟨rfl, h0⟩ | ⟨g, cap, cur, rfl, hg, hh, hn, hc, hcs, hcur⟩
    · have : l0 = [] := List.length_eq_zero_iff.mp h0
      subst this
      refine (Try.slices_Sort_int_none none 0 w).mono ?_
      rintro e w' ⟨rfl, rfl⟩
      exact ⟨rfl, Kd.R_nil _ _ _ _ _, hB, Kept.refl _ _⟩
    · have hgl : g < w.heap.size := (Array.getElem?_eq_some_iff.1 hh).1
      have hH : Holds (Value.int .i64) w g 0 l0.toArray := by
        intro j hj
        have hj' : j < l0.length := by simpa using hj
        have h2 := own_at (k := .i64) ho (j : Int) (by omega) (by omega)
        rw [Int.toNat_natCast] at h2
        rw [Nat.zero_add]
        refine ⟨?_, h2.2⟩
        rw [h2.1, getElem!_pos _ j hj]
        simp [YteojcnegdcopdaaW.PrintWords.rd, List.getD_eq_getElem?_getD, List.getElem?_eq_getElem hj']
      refine (Try.slices_Sort_int g 0 cap l0 w hH hgl hs).mono ?_
      rintro e w' ⟨rfl, n, os, rfl⟩
      rw [slices_Sort_int_int.so_merge]
      have hl : (slices_Sort_int_int.so l0).length = l0.length := slices_Sort_int_int.so_length l0
      generalize hso : slices_Sort_int_int.so l0 = s at hl ⊢
      clear hso
      have hsize : (grow (putRow (Value.int .i64) (Sort.ahead w n) g 0 s.toArray) os).heap.size = w.heap.size + os.size := by simp
      have hold : ∀ i, i < w.heap.size → i ≠ g → (grow (putRow (Value.int .i64) (Sort.ahead w n) g 0 s.toArray) os).heap[i]? = w.heap[i]? := by
        intro i hi hne
        rw [heap_grow_old _ _ (by simpa using hi)]
        show (w.heap.modify g _)[i]? = _
        rw [Array.getElem?_modify, if_neg (Ne.symm hne)]
      have hnew : (grow (putRow (Value.int .i64) (Sort.ahead w n) g 0 s.toArray) os).heap[g]? = some (.cells (putCells (Value.int .i64) 0 s.toArray cur) 3 (0, 0)) := by
        rw [heap_grow_old _ _ (by simpa using hgl)]
        show (w.heap.modify g _)[g]? = _
        rw [Array.getElem?_modify, if_pos rfl, hh]
        rfl
      generalize hW : grow (putRow (Value.int .i64) (Sort.ahead w n) g 0 s.toArray) os = W at hsize hold hnew ⊢
      have hos : W.os = w.os := by rw [← hW]; rfl
      have htape : W.tape = w.tape := by rw [← hW]; rfl
      have hout : W.output = w.output := by rw [← hW]; rfl
      clear hW
      have hown : W.ownsRow w0.heap.size 3 1 (.slice (some ⟨g, 0, none⟩) s.length cap) s.length (nums .i64 s) := by
        refine ⟨by simp [nums], .inr ⟨g, cap, putCells (Value.int .i64) 0 s.toArray cur, rfl, hg, hnew, by omega, hc, by simp [putCells, hcs], ?_⟩⟩
        apply List.ext_getElem?
        intro j
        rw [Nat.mul_one]
        by_cases hj : j < s.length
        · have hjc : j < cur.size := by omega
          rw [List.getElem?_take_of_lt hj, Array.getElem?_toList]
          simp [putCells, nums, hj, hjc]
        · rw [List.getElem?_eq_none (by simp; omega), List.getElem?_eq_none (by simp [nums]; omega)]
      refine ⟨rfl, ?_, hB.trans ⟨hos, htape, hout, by omega, fun i hi => hold i (by have := hB.size; omega) (by omega)⟩, ⟨by omega, fun i hi hni => hold i hi (fun e => hni (ho0.1 i (by subst e; rfl)))⟩⟩
      rw [hl] at hown
      have hR : Kd.R (Kd.int .i64) 3 W w0.heap.size (fun k_ => (P0_ k_ ∨ w.heap.size ≤ k_)) (.slice (some ⟨g, 0, none⟩) l0.length cap) s := Kd.R_of_own (by rw [hl]; exact hown) (fun i hi => .inl (ho0.1 i hi))
      exact hR
  · rw [if_neg hs] at h
    cases h

/-! ### slices_Sorted_int: function 76 -/
def slices_Sorted_int.f (_k : Nat) (l0 : List Int) : Option (List Int) := if 1 ≤ l0.length ∧ l0.length ≤ 1000000 then some (slices_Sort_int_int.so l0) else none
theorem slices_Sorted_int.mono : ∀ l0 k, LeO (slices_Sorted_int.f k l0) (slices_Sorted_int.f (k + 1) l0) := fun _ _ => LeO.refl _
theorem slices_Sorted_int.ints {A0 : Option Addr} {c0 : Nat} {l0 : List Int} {w : World} (hr0 : Kd.C (Kd.int .i64) w A0 l0.length l0) (h1 : 1 ≤ l0.length) : Vs.Ints w.heap.size w (.slice A0 l0.length c0) l0 := by
  obtain ⟨ad, e, h0⟩ := Kd.at_int hr0 0 (by omega) (by omega)
  subst e
  obtain ⟨b, off, spot⟩ := ad
  have hspot : spot = none := by simpa [Addr.add] using World.cell?_spot h0
  subst hspot
  have hb : b < w.heap.size := by
    have := World.block_lt_of_cell? _ _ h0
    simpa [Addr.add] using this
  refine .inr ⟨b, off, c0, rfl, hb, fun j hj => ?_⟩
  obtain ⟨ad, e, hj2⟩ := Kd.at_int hr0 (j : Int) (by omega) (by omega)
  cases e
  have ha : (⟨b, off, none⟩ : Addr).add j = ⟨b, off + j, none⟩ := by unfold Addr.add; split <;> simp_all
  rw [Int.toNat_natCast, ha] at hj2
  rw [hj2]
  simp [YteojcnegdcopdaaW.PrintWords.rd, List.getD_eq_getElem?_getD]
open Go.RowKit in
set_option maxHeartbeats 8000000 in
set_option maxRecDepth 100000 in
theorem slices_Sorted_int.calls (k : Nat) (A0 : Option Addr) (c0 : Nat) (l0 : List Int) (r : List Int) (w : World) (hr0 : Kd.C (Kd.int .i64) w A0 l0.length l0) (hc0 : l0.length ≤ c0) (h : slices_Sorted_int.f k l0 = some r) :
    Calls Try.prog 76 #[.func (.func 97) #[] #[.pointer (some ⟨w.heap.size, 0, none⟩)]] (w.alloc (.cells #[.slice A0 l0.length c0] 22)) fun e w' => ∃ v0_ : Value, e = .returned (v0_) ∧ Kd.R (Kd.int .i64) 3 w' w.heap.size (fun _ => True) v0_ r ∧ Below w.heap.size w w' := by
  unfold slices_Sorted_int.f at h
  by_cases hc : 1 ≤ l0.length ∧ l0.length ≤ 1000000
  · rw [if_pos hc] at h
    obtain rfl := Option.some.inj h
    have HC := Aside0.mk (Vs.collect_calls A0 c0 l0 (by simp [maxLen]; omega) (by omega) w (slices_Sorted_int.ints (c0 := c0) hr0 hc.1))
    have HL : Aside0 (slices_Sort_int_int.f k l0 = some (slices_Sort_int_int.so l0)) := ⟨by unfold slices_Sort_int_int.f; exact if_pos (by omega)⟩
    clear hr0 hc0 h hc
    go_enter Try.func76, Try.ntmps76
    go_wp2_with (first | (go_at_call 95; (with_reducible refine HC.out.mono ?_); rintro e w1 ⟨v, rfl, hrow, hb⟩; have hR : Kd.R (Kd.int .i64) 3 w1 w.heap.size (fun _ => True) v l0 := Kd.R_of_own hrow (fun _ _ => trivial); obtain ⟨Ao, co, eo⟩ := Kd.R_slice hR; subst eo; have HR := Aside0.mk hR; have HB := Aside0.mk hb; clear hR hb hrow) | (go_at_call 96; (with_reducible refine (slices_Sort_int_int.calls k (fun _ => True) _ l0 _ w w1 HB.out HR.out HL.out).mono ?_); rintro e w2 ⟨rfl, hR2, hb2, hk2⟩; have HR2 := Aside0.mk (Kd.R_mono hR2 (ok' := fun _ => True) (fun _ _ => trivial)); have HB2 := Aside0.mk hb2; clear hR2 hb2 hk2))
    go_ret
    exact ⟨_, rfl, HR2.out, HB2.out⟩
  · rw [if_neg hc] at h
    cases h

/-! ### impl_gaps: function 45 -/
def impl_gaps.l0 : Nat → List Int → List Int → Int → Int → Option (List Int)
  | 0, _, _, _, _ => none
  | k + 1, x3, x4, x12, x13 => if x13 < x12 then (if 0 ≤ (wrap64 ((wrap64 ((x3.length : Int) - 1)) - x13)) then (if (wrap64 ((wrap64 ((x3.length : Int) - 1)) - x13)) < (x3.length : Int) then (if 0 ≤ x13 then (if x13 < (x3.length : Int) then (if x4.length < 17592186044416 then (impl_gaps.l0 k x3 (x4 ++ [wrap64 ((rd x3 (wrap64 ((wrap64 ((x3.length : Int) - 1)) - x13))) - (rd x3 x13))]) x12 (wrap64 (x13 + 1))) else (none)) else (none)) else (none)) else (none)) else (none)) else (some x4)
def impl_gaps.f (k : Nat) (l0 : List Int) : Option (List Int) := (slices_Sorted_int.f k l0).bind fun t331 => (impl_gaps.l0 k t331 (([] : List Int)) (wrap64 ((t331.length : Int) / 2)) 0)
theorem impl_gaps.mono_l : ∀ k, (∀ y0 y1 y2 y3, LeO (impl_gaps.l0 k y0 y1 y2 y3) (impl_gaps.l0 (k + 1) y0 y1 y2 y3))
  | 0 => fun _ _ _ _ r h => by simp [impl_gaps.l0] at h
  | k + 1 => by
    have ih0 := impl_gaps.mono_l k
    · intro y0 y1 y2 y3
      unfold impl_gaps.l0
      repeat' first
      | (with_reducible exact ih0 _ _ _ _)
      | (with_reducible exact slices_Sorted_int.mono _ _)
      | (with_reducible exact LeO.refl _)
      | (with_reducible exact LeO.none _)
      | (with_reducible refine LeO.ite ?_ ?_)
      | (with_reducible refine LeO.bind ?_ (fun _ => ?_))
      | exact ih0 _ _ _ _
      | exact slices_Sorted_int.mono _ _
      | exact LeO.none _
      | refine LeO.ite ?_ ?_
      | refine LeO.bind ?_ (fun _ => ?_)
theorem impl_gaps.mono : ∀ a0 k, LeO (impl_gaps.f k a0) (impl_gaps.f (k + 1) a0) := by
  intro a0 k
  have ih0 := impl_gaps.mono_l k
  unfold impl_gaps.f
  repeat' first
      | (with_reducible exact ih0 _ _ _ _)
      | (with_reducible exact slices_Sorted_int.mono _ _)
      | (with_reducible exact LeO.refl _)
      | (with_reducible exact LeO.none _)
      | (with_reducible refine LeO.ite ?_ ?_)
      | (with_reducible refine LeO.bind ?_ (fun _ => ?_))
      | exact ih0 _ _ _ _
      | exact slices_Sorted_int.mono _ _
      | exact LeO.none _
      | refine LeO.ite ?_ ?_
      | refine LeO.bind ?_ (fun _ => ?_)
def impl_gaps.T6 : Bool × List (List Nat × List Nat) := (true, [([], []), ([], []), ([], []), ([2], [2]), ([3], [3]), ([], []), ([4, 5], [4, 5]), ([1, 6], [1, 6]), ([7], [7]), ([], []), ([], []), ([9, 10], [9, 10]), ([11], [11]), ([8, 12], [8, 12]), ([13], [13]), ([0, 14], [0, 14]), ([15, 15, 0, 1, 2, 3, 4, 5, 6, 7, 8, 9, 10, 11, 12, 13, 14, 15], [0, 15])])
def impl_gaps.B6 : List Nat := [0, 0, 0, 4, 12, 0, 60, 126, 254, 0, 0, 1536, 3584, 8190, 16382, 32767, 65535]
theorem impl_gaps.tab6 : rtab .any (opsOf Try.f45 6) = impl_gaps.T6 := by kernel_rfl
theorem impl_gaps.bits6 : waitsOk impl_gaps.T6.2 impl_gaps.B6 = true := by kernel_rfl
set_option maxHeartbeats 8000000 in
set_option maxRecDepth 100000 in
theorem impl_gaps.calls (k : Nat) (A0 : Option Addr) (c0 : Nat) (l0 : List Int) (r : List Int) (w : World) (hr0 : Kd.C (Kd.int .i64) w A0 l0.length l0) (hc0 : l0.length ≤ c0) (h : impl_gaps.f k l0 = some r) :
    Calls Try.prog 45 #[.slice A0 l0.length c0] w fun e w' => ∃ v0_ : Value, e = .returned (v0_) ∧ Kd.R (Kd.int .i64) 3 w' w.heap.size (fun _ => True) v0_ r ∧ Below w.heap.size w w' := by
  have HR0 := Aside0.mk hr0
  have HC0 := Aside0.mk hc0
  clear hr0 hc0
  have HB := Aside0.mk (Below.refl w.heap.size w)
  have H : ((slices_Sorted_int.f k l0).bind fun t331 => (impl_gaps.l0 k t331 (([] : List Int)) (wrap64 ((t331.length : Int) / 2)) 0)) = some r := h
  clear h
  replace H := Option.bind_eq_some_iff.mp H
  obtain ⟨t331, A20, H⟩ := H
  replace H : (impl_gaps.l0 k t331 (([] : List Int)) (wrap64 ((t331.length : Int) / 2)) 0) = some r := H
  have A2 := Aside0.mk A20
  clear A20
  obtain ⟨y334, hy334⟩ : ∃ y_ : List Int, y_ = (([] : List Int)) := ⟨_, rfl⟩
  replace H : (impl_gaps.l0 k t331 y334 (wrap64 ((t331.length : Int) / 2)) 0) = some r := by first | (rw [hy334]; with_reducible exact H) | (have H2_ := (Option.bind_some _ _).symm.trans H; rw [hy334]; with_reducible exact H2_) | (have H2_ := (Option.bind_some _ _).symm.trans H; with_reducible exact H2_) | with_reducible exact H | (rw [hy334]; exact H) | exact H
  have Ny334 := Aside0.mk hy334
  clear hy334
  have H' := Aside0.mk H
  clear H
  go_enter Try.func45, Try.ntmps45
  go_wp2_with (first | (go_at_call 77; (with_reducible refine (Vs.values_calls _ _ _ _).mono ?_); rintro e w_ ⟨rfl, rfl⟩) | ((with_reducible refine gate_callee (f := 76) rfl ?_); refine goesL_ (some 8) rfl rfl Try.func76 (by kernel_rfl) rfl #[.func (.func 97) #[] #[.pointer (some ⟨w.heap.size, 0, none⟩)]] rfl (by (try simp only [List.map_toArray, List.map_cons, List.map_nil]); first | done | rfl | (simp only [List.length_drop, List.length_take]; rfl)) ?_; (with_reducible refine (slices_Sorted_int.calls k _ _ l0 t331 _ ?side1 ?side2 A2.out).mono ?_); (case side1 => repeat (first | exact HR0.out | (with_reducible refine Kd.C_alloc ?_ _) | (with_reducible refine Kd.C_drewN ?_ _) | (with_reducible refine Kd.C_drew ?_))); (case side2 => exact HC0.out); rintro e w3 ⟨v332, rfl, ho0, hb⟩; refine ⟨_, rfl, ?_⟩; have n0_ := Aside0.mk (Kd.R_lower ho0 (below_size (by repeat (first | (with_reducible first | exact HB.out | apply below_alloc | apply pw_below_drewN | apply below_drew1) | exact HB.out)))); have n1_ := Aside0.mk (below_step (by repeat (first | (with_reducible first | exact HB.out | apply below_alloc | apply pw_below_drewN | apply below_drew1) | exact HB.out)) hb); clear HB; have HO333 := n0_; have HB := n1_; clear n0_ n1_; (try clear hb); (try clear hb2); (try clear hk); (try clear hi); (try clear ho0)) | ((with_reducible refine gate_dst (N := 9) rfl ?_); refine Kd.R_lit (Kd.int .i64) _ 3 ?hg (N := 9) ?hd (xs := ([] : List Int)) (inner := []) (ok := fun _ => True) (okp := fun _ => True) ?hr ?hp (fun _ hk => hk) trivial (Below.refl _ _) (Nat.le_refl _) (by simp) ?_; (case hd => rfl); (case hg => rfl); (case hr => first | (go_simp; done) | (go_simp; rfl)); (case hp => exact (Reps.none _ _)); intro v335 w4 ho5 hb hg_ hnew_; clear hg_ hnew_; (first | rw [← Ny334.out] at ho5 | (simp only [Int.reduceToNat] at ho5; rw [← Ny334.out] at ho5)); have n0_ := Aside0.mk (Kd.R_elder' (by (with_reducible repeat (first | apply Kd.R_alloc | apply Kd.R_drewN | apply Kd.R_drew)); exact HO333.out) (Kd.R_base ho5) hb); have n1_ := Aside0.mk (Kd.R_lower (Kd.R_new' ho5 (Kd.R_lt (by (with_reducible repeat (first | apply Kd.R_alloc | apply Kd.R_drewN | apply Kd.R_drew)); exact HO333.out))) (below_size (by repeat (first | (with_reducible first | exact HB.out | apply below_alloc | apply pw_below_drewN | apply below_drew1) | exact HB.out)))); have n2_ := Aside0.mk (below_step (by repeat (first | (with_reducible first | exact HB.out | apply below_alloc | apply pw_below_drewN | apply below_drew1) | exact HB.out)) hb); clear HO333; clear HB; have HO333 := n0_; have HO336 := n1_; have HB := n2_; clear n0_ n1_ n2_; clear hb ho5; obtain ⟨Ao6, co6, eo6⟩ := Kd.R_slice HO333.out; subst eo6))
  go_loopg [4, 13] k (fun kq v4 v13 w' => ∃ (x4_1 : List Int) (x13_1 : Int), v13 = .int .i64 x13_1 ∧ Aside0 (impl_gaps.l0 kq t331 x4_1 (wrap64 ((t331.length : Int) / 2)) x13_1 = some r) ∧ Aside0 (kq ≤ k) ∧ Aside0 (Kd.R (Kd.int .i64) 3 w' w.heap.size (fun k_ => some k_ ≠ (v4 : Value).ownBlock) (.slice Ao6 t331.length co6) t331) ∧ Aside0 (Kd.R (Kd.int .i64) 3 w' w.heap.size (fun k_ => some k_ ≠ ((.slice Ao6 t331.length co6) : Value).ownBlock) v4 x4_1) ∧ Aside0 (Below w.heap.size w w'))
  case atStart => exact ⟨(y334), (0), (by first | rfl | (simp; done) | (simp [*]; done)), H', ⟨Nat.le_refl _⟩, ⟨by (with_reducible repeat (first | apply Kd.R_alloc | apply Kd.R_drewN | apply Kd.R_drew)); exact Kd.R_mono HO333.out (fun _ hk => hk.2)⟩, ⟨by (with_reducible repeat (first | apply Kd.R_alloc | apply Kd.R_drewN | apply Kd.R_drew)); exact Kd.R_mono HO336.out (fun _ hk => hk.2)⟩, ⟨by repeat (first | (with_reducible first | exact HB.out | apply below_alloc | apply pw_below_drewN | apply below_drew1) | exact HB.out)⟩⟩
  case round =>
    clear H'
    try clear p2
    try clear c4
    try clear p6
    obtain ⟨x4_1, x13_1, rfl, HA, HK1, HO_3, HO_4, HB⟩ := hrel
    cases gk with
    | zero => exact absurd HA.out (by simp [impl_gaps.l0])
    | succ k1 =>
      have H := HA.out
      clear HA
      simp only [impl_gaps.l0] at H
      by_cases c7 : x13_1 < (wrap64 ((t331.length : Int) / 2))
      · rw [if_pos c7] at H
        have c7b0 : decide (x13_1 < (wrap64 ((t331.length : Int) / 2))) = true := decide_eq_true c7
        clear c7
        obtain ⟨ji8, hji8⟩ : ∃ j_ : Int, (wrap64 ((wrap64 ((t331.length : Int) - 1)) - x13_1)) = j_ := ⟨_, rfl⟩
        replace H : (if 0 ≤ (ji8) then (if (ji8) < (t331.length : Int) then (if 0 ≤ x13_1 then (if x13_1 < (t331.length : Int) then (if x4_1.length < 17592186044416 then (impl_gaps.l0 k1 t331 (x4_1 ++ [wrap64 ((rd t331 (ji8)) - (rd t331 x13_1))]) (wrap64 ((t331.length : Int) / 2)) (wrap64 (x13_1 + 1))) else (none)) else (none)) else (none)) else (none)) else (none)) = some r := by first | (rw [hji8] at H; exact H) | (simp only [hji8] at H ⊢; exact H)
        have hji8w : (IntKind.i64.wrap ((wrap64 ((t331.length : Int) - 1)) - x13_1)) = ji8 := (i64_w _).trans hji8
        by_cases c9 : 0 ≤ (ji8)
        · rw [if_pos c9] at H
          have c9b0 : decide (0 ≤ (ji8)) = true := decide_eq_true c9
          clear c9
          by_cases c10 : (ji8) < (t331.length : Int)
          · rw [if_pos c10] at H
            have c10b0 : decide ((ji8) < (t331.length : Int)) = true := decide_eq_true c10
            clear c10
            by_cases c11 : 0 ≤ x13_1
            · rw [if_pos c11] at H
              have c11b0 : decide (0 ≤ x13_1) = true := decide_eq_true c11
              clear c11
              by_cases c12 : x13_1 < (t331.length : Int)
              · rw [if_pos c12] at H
                have c12b0 : decide (x13_1 < (t331.length : Int)) = true := decide_eq_true c12
                clear c12
                by_cases c13 : x4_1.length < 17592186044416
                · rw [if_pos c13] at H
                  have LMc13 := Aside0.mk c13
                  clear c13
                  obtain ⟨y339, hy339⟩ : ∃ y_ : List Int, y_ = (x4_1 ++ [wrap64 ((rd t331 (ji8)) - (rd t331 x13_1))]) := ⟨_, rfl⟩
                  replace H : (impl_gaps.l0 k1 t331 y339 (wrap64 ((t331.length : Int) / 2)) (wrap64 (x13_1 + 1))) = some r := by first | (rw [hy339]; with_reducible exact H) | (have H2_ := (Option.bind_some _ _).symm.trans H; rw [hy339]; with_reducible exact H2_) | (have H2_ := (Option.bind_some _ _).symm.trans H; with_reducible exact H2_) | with_reducible exact H | (rw [hy339]; exact H) | exact H
                  have Ny339 := Aside0.mk hy339
                  clear hy339
                  have H' := Aside0.mk H
                  clear H
                  try go_wp2
                  have n0_ := Aside0.mk (Kd.R_drew HO_3.out)
                  have n1_ := Aside0.mk (Kd.R_drew HO_4.out)
                  have n2_ := Aside0.mk (below_drew1 HB.out)
                  clear HO_3
                  clear HO_4
                  clear HB
                  have HO_3 := n0_
                  have HO_4 := n1_
                  have HB := n2_
                  clear n0_ n1_ n2_
                  have p337 : 0 ≤ ((ji8) : Int) := of_decide_eq_true (by first | (with_reducible assumption) | assumption)
                  have q337 : (ji8) < (t331.length : Int) := of_decide_eq_true (by first | (with_reducible assumption) | assumption)
                  obtain ⟨ad337, e337, hx337_0⟩ := Kd.at_int (Kd.R_reads' HO_3.out).2.2 (ji8) p337 q337
                  cases e337
                  replace p337 := eq_true p337
                  replace q337 := eq_true q337
                  have p338 : 0 ≤ (x13_1 : Int) := of_decide_eq_true (by first | (with_reducible assumption) | assumption)
                  have q338 : x13_1 < (t331.length : Int) := of_decide_eq_true (by first | (with_reducible assumption) | assumption)
                  obtain ⟨ad338, e338, hx338_0⟩ := Kd.at_int (Kd.R_reads' HO_3.out).2.2 x13_1 p338 q338
                  obtain rfl : ad337 = ad338 := (by injection e338)
                  replace p338 := eq_true p338
                  replace q338 := eq_true q338
                  refine start_ (n := 17) (S := fun w' => w'.cell? (ad337.add ((ji8)).toNat) = some (.int .i64 (rd t331 (ji8))) ∧ w'.cell? (ad337.add (x13_1).toNat) = some (.int .i64 (rd t331 x13_1))) (ds := [14, 15]) #[false, false, false, false, false, false, false, false, false, false, false, false, false, false, false, false, false] (by kernel_rfl) rfl rfl ⟨hx337_0, hx338_0⟩ (fun hHeld => ?_); refine with_tabW impl_gaps.tab6 impl_gaps.bits6 (fun HT_ HW_ => ?_)
                  generalize wr.drew = w14 at HO_3 HO_4 HB hx337_0 hx338_0 hHeld ⊢
                  refine pure_ (i := 0) (N := some 16) (v := ?_) (a' := ?_) #[true, false, false, false, false, false, false, false, false, false, false, false, false, false, false, false, false] rfl rfl (any_of HT_.out (by kernel_rfl)) (fun _ _ _ h => h) (Or.inl ⟨by rfl, ?_⟩) ?_ ?_
                  rotate_left
                  · intro w'
                    go_simp
                    with_reducible rfl
                  rotate_left
                  · simp only [Act.put, List.setIfInBounds_toArray, List.set_cons_zero, List.set_cons_succ, i64_w, i32_w]
                    rfl
                  refine pure_ (i := 1) (N := some 17) (v := ?_) (a' := ?_) #[true, true, false, false, false, false, false, false, false, false, false, false, false, false, false, false, false] rfl rfl (any_of HT_.out (by kernel_rfl)) (fun _ _ _ h => h) (Or.inl ⟨by rfl, ?_⟩) ?_ ?_
                  rotate_left
                  · intro w'
                    go_simp
                    with_reducible rfl
                  rotate_left
                  · simp only [Act.put, List.setIfInBounds_toArray, List.set_cons_zero, List.set_cons_succ, i64_w, i32_w]
                    rfl
                  refine pure_ (i := 2) (N := some 18) (v := ?_) (a' := ?_) #[true, true, true, false, false, false, false, false, false, false, false, false, false, false, false, false, false] rfl rfl (any_of HT_.out (by kernel_rfl)) (fun _ _ _ h => h) (Or.inl ⟨by rfl, ?_⟩) ?_ ?_
                  rotate_left
                  · intro w'
                    go_simp
                    with_reducible rfl
                  rotate_left
                  · simp only [Act.put, List.setIfInBounds_toArray, List.set_cons_zero, List.set_cons_succ, i64_w, i32_w]
                    rfl
                  refine pure_ (i := 3) (N := some 19) (v := ?_) (a' := ?_) #[true, true, true, true, false, false, false, false, false, false, false, false, false, false, false, false, false] rfl rfl (any_of HT_.out (by kernel_rfl)) (fun _ _ _ h => h) (Or.inl ⟨by rfl, ?_⟩) ?_ ?_
                  rotate_left
                  · intro w'
                    go_simp
                    with_reducible rfl
                  rotate_left
                  · simp only [Act.put, List.setIfInBounds_toArray, List.set_cons_zero, List.set_cons_succ, i64_w, i32_w]
                    rfl
                  refine pure_ (i := 4) (N := some 20) (v := ?_) (a' := ?_) #[true, true, true, true, true, false, false, false, false, false, false, false, false, false, false, false, false] rfl rfl (any_of HT_.out (by kernel_rfl)) (fun _ _ _ h => h) (Or.inl ⟨by rfl, ?_⟩) ?_ ?_
                  rotate_left
                  · intro w'
                    go_simp
                    with_reducible rfl
                  rotate_left
                  · simp only [Act.put, List.setIfInBounds_toArray, List.set_cons_zero, List.set_cons_succ, i64_w, i32_w]
                    rfl
                  refine pure_ (i := 5) (N := some 21) (v := ?_) (a' := ?_) #[true, true, true, true, true, true, false, false, false, false, false, false, false, false, false, false, false] rfl rfl (any_of HT_.out (by kernel_rfl)) (fun _ _ _ h => h) (Or.inl ⟨by rfl, ?_⟩) ?_ ?_
                  rotate_left
                  · intro w'
                    go_simp
                    with_reducible rfl
                  rotate_left
                  · simp only [Act.put, List.setIfInBounds_toArray, List.set_cons_zero, List.set_cons_succ, i64_w, i32_w]
                    rfl
                  refine pure_ (i := 6) (N := some 22) (v := ?_) (a' := ?_) #[true, true, true, true, true, true, true, false, false, false, false, false, false, false, false, false, false] rfl rfl (any_of HT_.out (by kernel_rfl)) (fun _ _ _ h => h) (Or.inl ⟨by rfl, ?_⟩) ?_ ?_
                  rotate_left
                  · intro w'
                    go_simp
                    with_reducible rfl
                  rotate_left
                  · simp only [Act.put, List.setIfInBounds_toArray, List.set_cons_zero, List.set_cons_succ, i64_w, i32_w]
                    rfl
                  refine pure_ (i := 7) (N := some 23) (v := ?_) (a' := ?_) #[true, true, true, true, true, true, true, true, false, false, false, false, false, false, false, false, false] rfl rfl (any_of HT_.out (by kernel_rfl)) (fun _ _ _ h => h) (Or.inl ⟨by rfl, ?_⟩) ?_ ?_
                  rotate_left
                  · intro w'
                    go_simp
                    with_reducible rfl
                  rotate_left
                  · simp only [Act.put, List.setIfInBounds_toArray, List.set_cons_zero, List.set_cons_succ, i64_w, i32_w]
                    rfl
                  refine pure_ (i := 9) (N := some 25) (v := ?_) (a' := ?_) #[true, true, true, true, true, true, true, true, false, true, false, false, false, false, false, false, false] rfl rfl (any_of HT_.out (by kernel_rfl)) (fun _ _ _ h => h) (Or.inl ⟨by rfl, ?_⟩) ?_ ?_
                  rotate_left
                  · intro w'
                    go_simp
                    with_reducible rfl
                  rotate_left
                  · simp only [Act.put, List.setIfInBounds_toArray, List.set_cons_zero, List.set_cons_succ, i64_w, i32_w]
                    rfl
                  refine pure_ (i := 10) (N := some 26) (v := ?_) (a' := ?_) #[true, true, true, true, true, true, true, true, false, true, true, false, false, false, false, false, false] rfl rfl (any_of HT_.out (by kernel_rfl)) (fun _ _ _ h => h) (Or.inl ⟨by rfl, ?_⟩) ?_ ?_
                  rotate_left
                  · intro w'
                    go_simp
                    with_reducible rfl
                  rotate_left
                  · simp only [Act.put, List.setIfInBounds_toArray, List.set_cons_zero, List.set_cons_succ, i64_w, i32_w]
                    rfl
                  refine pure_ (i := 11) (N := some 27) (v := ?_) (a' := ?_) #[true, true, true, true, true, true, true, true, false, true, true, true, false, false, false, false, false] rfl rfl (any_of HT_.out (by kernel_rfl)) (fun _ _ _ h => h) (Or.inl ⟨by rfl, ?_⟩) ?_ ?_
                  rotate_left
                  · intro w'
                    go_simp
                    with_reducible rfl
                  rotate_left
                  · simp only [Act.put, List.setIfInBounds_toArray, List.set_cons_zero, List.set_cons_succ, i64_w, i32_w]
                    rfl
                  refine take_ (i := 8) (N := some 24) (v := ?_) (a' := ?_) #[true, true, true, true, true, true, true, true, true, true, true, true, false, false, false, false, false] rfl rfl (take_ofW HT_.out HW_.out (by kernel_rfl)) (fun _ _ _ h => h) (Or.inl ⟨by rfl, ?_⟩) hHeld ?_ ?_
                  rotate_left
                  · rintro w' ⟨s0, s1⟩
                    go_simp
                    with_reducible rfl
                  rotate_left
                  · simp only [Act.put, List.setIfInBounds_toArray, List.set_cons_zero, List.set_cons_succ, i64_w, i32_w]
                    rfl
                  refine take_ (i := 12) (N := some 28) (v := ?_) (a' := ?_) #[true, true, true, true, true, true, true, true, true, true, true, true, true, false, false, false, false] rfl rfl (take_ofW HT_.out HW_.out (by kernel_rfl)) (fun _ _ _ h => h) (Or.inl ⟨by rfl, ?_⟩) hHeld ?_ ?_
                  rotate_left
                  · rintro w' ⟨s0, s1⟩
                    go_simp
                    with_reducible rfl
                  rotate_left
                  · simp only [Act.put, List.setIfInBounds_toArray, List.set_cons_zero, List.set_cons_succ, i64_w, i32_w]
                    rfl
                  refine pure_ (i := 13) (N := some 29) (v := ?_) (a' := ?_) #[true, true, true, true, true, true, true, true, true, true, true, true, true, true, false, false, false] rfl rfl (any_of HT_.out (by kernel_rfl)) (fun _ _ _ h => h) (Or.inl ⟨by rfl, ?_⟩) ?_ ?_
                  rotate_left
                  · intro w'
                    go_simp
                    with_reducible rfl
                  rotate_left
                  · simp only [Act.put, List.setIfInBounds_toArray, List.set_cons_zero, List.set_cons_succ, i64_w, i32_w]
                    rfl
                  refine last_ (i := 14) (N := some 30) #[true, true, true, true, true, true, true, true, true, true, true, true, true, true, true, false, false] rfl rfl (one_of HT_.out (by kernel_rfl)) (by decide) (fun K hK => ?_)
                  refine value_ (w1 := ?_) (v := ?_) (by rfl) rfl ?_ ?_
                  rotate_left 2
                  · go_simp
                    constructor
                    · rfl
                    · rfl
                  refine hK.out _ _ ?_
                  clear hK K
                  refine norm_ (a' := ?_) ?_ ?_
                  rotate_left
                  · show Act.put _ (some 30) _ = _
                    simp only [Act.put, List.setIfInBounds_toArray, List.set_cons_zero, List.set_cons_succ, i64_w, i32_w]
                    rfl
                  refine last_ (i := 15) (N := some 31) #[true, true, true, true, true, true, true, true, true, true, true, true, true, true, true, true, false] rfl rfl (one_of HT_.out (by kernel_rfl)) (by decide) (fun K hK => ?_)
                  refine Kd.R_append_step (Kd.int .i64) (w0 := w) w.heap.size (by rfl) (.tmp 16) (.tmp 30) 22 3 (.int .i64 0) 8 rfl Try.underlying22 info3 rfl (by decide) (by omega) u4 x4_1 (wrap64 ((rd t331 (ji8)) - (rd t331 x13_1))) [.int .i64 (wrap64 ((rd t331 (ji8)) - (rd t331 x13_1)))] (fun k_ => some k_ ≠ (.slice (some ad337) t331.length co6 : Value).ownBlock) (fun _ => False) rfl rfl ?aP (fun _ hk => hk.elim) ?aF ?aO ?aB ?aS ?aL ?_
                  (case aP => exact rfl)
                  (case aB => exact (by repeat (first | (with_reducible first | exact HB.out | apply below_alloc | apply pw_below_drewN | apply below_drew1) | exact HB.out)))
                  (case aF => exact (fun k_ hk => Kd.fresh' (Kd.R_lt (by (with_reducible repeat (first | apply Kd.R_alloc | apply Kd.R_drewN | apply Kd.R_drew)); exact HO_3.out)) k_ hk))
                  (case aO => exact (by (with_reducible repeat (first | apply Kd.R_alloc | apply Kd.R_drewN | apply Kd.R_drew)); exact HO_4.out))
                  (case aS => exact (below_size (by repeat (first | (with_reducible first | exact HB.out | apply below_alloc | apply pw_below_drewN | apply below_drew1) | exact HB.out))))
                  (case aL => have := LMc13.out; omega)
                  intro v340 w15 ho hb hg hat
                  rw [← Ny339.out] at ho
                  have n0_ := Aside0.mk (Kd.R_after (ok := (fun _ => True)) (by (with_reducible repeat (first | apply Kd.R_alloc | apply Kd.R_drewN | apply Kd.R_drew)); exact Kd.R_mono HO_3.out (fun _ hk => ⟨trivial, hk⟩)) hg hat)
                  have n1_ := Aside0.mk (hb)
                  have n2_ := Aside0.mk (ho)
                  clear HO_3
                  clear HB
                  clear HO_4
                  have HO_3 := n0_
                  have HB := n1_
                  have HO341 := n2_
                  clear n0_ n1_ n2_
                  clear ho hb hg hat
                  refine hK.out _ _ ?_
                  clear hK K
                  refine norm_ (a' := ?_) ?_ ?_
                  rotate_left
                  · show Act.put _ (some 31) _ = _
                    simp only [Act.put, List.setIfInBounds_toArray, List.set_cons_zero, List.set_cons_succ, i64_w, i32_w]
                    rfl
                  refine pure_ (i := 16) (N := some 4) (v := ?_) (a' := ?_) #[true, true, true, true, true, true, true, true, true, true, true, true, true, true, true, true, true] rfl rfl (any_of HT_.out (by kernel_rfl)) (fun _ _ _ h => h) (Or.inl ⟨by rfl, ?_⟩) ?_ ?_
                  rotate_left
                  · intro w'
                    go_simp
                    with_reducible rfl
                  rotate_left
                  · simp only [Act.put, List.setIfInBounds_toArray, List.set_cons_zero, List.set_cons_succ, i64_w, i32_w]
                    rfl
                  refine done_ (done_of HT_.out (by kernel_rfl)) ?_
                  try go_wp2
                  go_roundg k1
                  case measure => have := HK1.out; omega
                  case rel => exact ⟨(y339), (wrap64 (x13_1 + 1)), (by first | rfl | (simp; done) | (simp [*]; done)), H', ⟨by have := HK1.out; omega⟩, ⟨by (with_reducible repeat (first | apply Kd.R_alloc | apply Kd.R_drewN | apply Kd.R_drew)); exact Kd.R_mono HO_3.out (fun _ hk => hk.2)⟩, ⟨by (with_reducible repeat (first | apply Kd.R_alloc | apply Kd.R_drewN | apply Kd.R_drew)); exact HO341.out⟩, ⟨by repeat (first | (with_reducible first | exact HB.out | apply below_alloc | apply pw_below_drewN | apply below_drew1) | exact HB.out)⟩⟩
                · rw [if_neg c13] at H
                  exact absurd H (by simp)
              · rw [if_neg c12] at H
                exact absurd H (by simp)
            · rw [if_neg c11] at H
              exact absurd H (by simp)
          · rw [if_neg c10] at H
            exact absurd H (by simp)
        · rw [if_neg c9] at H
          exact absurd H (by simp)
      · rw [if_neg c7] at H
        have c7b0 : decide (x13_1 < (wrap64 ((t331.length : Int) / 2))) = false := decide_eq_false c7
        clear c7
        obtain rfl := Option.some.inj H
        go_wp2
        go_ret
        exact ⟨_, by first | rfl | (simp [errW_none, errW_some] <;> rfl) | (simp [*, errW_none, errW_some] <;> rfl), by (with_reducible repeat (first | apply Kd.R_alloc | apply Kd.R_drewN | apply Kd.R_drew)); exact Kd.R_mono HO_4.out (fun _ hk => trivial), by repeat (first | (with_reducible first | exact HB.out | apply below_alloc | apply pw_below_drewN | apply below_drew1) | exact HB.out)⟩

/-! ### impl_step: function 66 -/
def impl_step.f (k : Nat) (a0 : Int) (a1 : Int) (a2 : Int) : Option (Int) := (impl_wordOf.f k a0 a1 a2).bind fun t342 => ((impl_gaps.f k t342).bind fun t345 => ((impl_byGaps.f k t345 a1 a2).bind fun t348 => (some t348)))
theorem impl_step.mono : ∀ a0 a1 a2 k, LeO (impl_step.f k a0 a1 a2) (impl_step.f (k + 1) a0 a1 a2) := by
  intro a0 a1 a2 k
  unfold impl_step.f
  repeat' first
      | (with_reducible exact impl_byGaps.mono _ _ _ _)
      | (with_reducible exact impl_gaps.mono _ _)
      | (with_reducible exact impl_wordOf.mono _ _ _ _)
      | (with_reducible exact LeO.refl _)
      | (with_reducible exact LeO.none _)
      | (with_reducible refine LeO.ite ?_ ?_)
      | (with_reducible refine LeO.bind ?_ (fun _ => ?_))
      | exact impl_byGaps.mono _ _ _ _
      | exact impl_gaps.mono _ _
      | exact impl_wordOf.mono _ _ _ _
      | exact LeO.none _
      | refine LeO.ite ?_ ?_
      | refine LeO.bind ?_ (fun _ => ?_)
set_option maxHeartbeats 8000000 in
set_option maxRecDepth 100000 in
theorem impl_step.calls (k : Nat) (a0 : Int) (a1 : Int) (a2 : Int) (r : Int) (w : World) (h : impl_step.f k a0 a1 a2 = some r) :
    Calls Try.prog 66 #[.int .i64 a0, .int .i64 a1, .int .i64 a2] w fun e w' => e = .returned (.int .i64 r) ∧ Below w.heap.size w w' := by
  have HB := Aside0.mk (Below.refl w.heap.size w)
  have H : ((impl_wordOf.f k a0 a1 a2).bind fun t342 => ((impl_gaps.f k t342).bind fun t345 => ((impl_byGaps.f k t345 a1 a2).bind fun t348 => (some t348)))) = some r := h
  clear h
  replace H := Option.bind_eq_some_iff.mp H
  obtain ⟨t342, A40, H⟩ := H
  replace H : ((impl_gaps.f k t342).bind fun t345 => ((impl_byGaps.f k t345 a1 a2).bind fun t348 => (some t348))) = some r := H
  have A4 := Aside0.mk A40
  clear A40
  replace H := Option.bind_eq_some_iff.mp H
  obtain ⟨t345, A50, H⟩ := H
  replace H : ((impl_byGaps.f k t345 a1 a2).bind fun t348 => (some t348)) = some r := H
  have A5 := Aside0.mk A50
  clear A50
  replace H := Option.bind_eq_some_iff.mp H
  obtain ⟨t348, A60, H⟩ := H
  replace H : (some t348) = some r := H
  have A6 := Aside0.mk A60
  clear A60
  obtain rfl := Option.some.inj H
  go_enter Try.func66, Try.ntmps66
  go_wp2_with (first | ((with_reducible refine gate_callee (f := 43) rfl ?_); refine goesL_ (some 10) rfl rfl Try.func43 (by kernel_rfl) rfl #[.int .i64 a0, .int .i64 a1, .int .i64 a2] rfl (by (try simp only [List.map_toArray, List.map_cons, List.map_nil]); first | done | rfl | (simp only [List.length_drop, List.length_take]; rfl)) ?_; (with_reducible refine (impl_wordOf.calls k a0 a1 a2 t342 _ A4.out).mono ?_); rintro e w7 ⟨v343, rfl, ho0, hb⟩; refine ⟨_, rfl, ?_⟩; have n0_ := Aside0.mk (Kd.R_lower ho0 (below_size (by repeat (first | (with_reducible first | exact HB.out | apply below_alloc | apply pw_below_drewN | apply below_drew1) | exact HB.out)))); have n1_ := Aside0.mk (below_step (by repeat (first | (with_reducible first | exact HB.out | apply below_alloc | apply pw_below_drewN | apply below_drew1) | exact HB.out)) hb); clear HB; have HO344 := n0_; have HB := n1_; clear n0_ n1_; (try clear hb); (try clear hb2); (try clear hk); (try clear hi); (try clear ho0); obtain ⟨Ao8, co8, eo8⟩ := Kd.R_slice HO344.out; subst eo8) | ((with_reducible refine gate_callee (f := 45) rfl ?_); refine goesL_ (some 11) rfl rfl Try.func45 (by kernel_rfl) rfl #[.slice Ao8 t342.length co8] rfl (by (try simp only [List.map_toArray, List.map_cons, List.map_nil]); first | done | rfl | (simp only [List.length_drop, List.length_take]; rfl)) ?_; (with_reducible refine (impl_gaps.calls k _ _ t342 t345 _ ?side1 ?side2 A5.out).mono ?_); (case side1 => repeat (first | exact (Kd.R_reads' HO344.out).2.2 | (with_reducible refine Kd.C_alloc ?_ _) | (with_reducible refine Kd.C_drewN ?_ _) | (with_reducible refine Kd.C_drew ?_))); (case side2 => exact (Kd.R_reads' HO344.out).2.1); rintro e w9 ⟨v346, rfl, ho0, hb⟩; refine ⟨_, rfl, ?_⟩; have n0_ := Aside0.mk (Kd.R_elder' (by (with_reducible repeat (first | apply Kd.R_alloc | apply Kd.R_drewN | apply Kd.R_drew)); exact HO344.out) (Kd.R_base ho0) hb); have n1_ := Aside0.mk (Kd.R_lower (Kd.R_new' ho0 (Kd.R_lt (by (with_reducible repeat (first | apply Kd.R_alloc | apply Kd.R_drewN | apply Kd.R_drew)); exact HO344.out))) (below_size (by repeat (first | (with_reducible first | exact HB.out | apply below_alloc | apply pw_below_drewN | apply below_drew1) | exact HB.out)))); have n2_ := Aside0.mk (below_step (by repeat (first | (with_reducible first | exact HB.out | apply below_alloc | apply pw_below_drewN | apply below_drew1) | exact HB.out)) hb); clear HO344; clear HB; have HO344 := n0_; have HO347 := n1_; have HB := n2_; clear n0_ n1_ n2_; (try clear hb); (try clear hb2); (try clear hk); (try clear hi); (try clear ho0); obtain ⟨Ao10, co10, eo10⟩ := Kd.R_slice HO347.out; subst eo10) | ((with_reducible refine gate_callee (f := 44) rfl ?_); refine goesL_ (some 14) rfl rfl Try.func44 (by kernel_rfl) rfl #[.slice Ao10 t345.length co10, .int .i64 a1, .int .i64 a2] rfl (by (try simp only [List.map_toArray, List.map_cons, List.map_nil]); first | done | rfl | (simp only [List.length_drop, List.length_take]; rfl)) ?_; (with_reducible refine (impl_byGaps.calls k _ _ t345 a1 a2 t348 _ ?side1 ?side2 A6.out).mono ?_); (case side1 => repeat (first | exact (Kd.R_reads' HO347.out).2.2 | (with_reducible refine Kd.C_alloc ?_ _) | (with_reducible refine Kd.C_drewN ?_ _) | (with_reducible refine Kd.C_drew ?_))); (case side2 => exact (Kd.R_reads' HO347.out).2.1); rintro e w' ⟨rfl, ⟨nd, rfl⟩⟩; refine ⟨_, rfl, ?_⟩))
  go_ret
  exact ⟨by first | rfl | (simp [errW_none, errW_some] <;> rfl) | (simp [*, errW_none, errW_some] <;> rfl), by repeat (first | (with_reducible first | exact HB.out | apply below_alloc | apply pw_below_drewN | apply below_drew1) | exact HB.out)⟩

/-! ### impl_gapCycles: function 58 -/
/-! ### a map of numbers as a total function -/
def GM.put (F : Int → Int) (n v : Int) : Int → Int := fun m => if m = n then v else F m
def GM.St (F : Int → Int) (C g : Nat) (w : World) : Prop := ∃ c D, c ≤ C ∧ w.ownsMap Try.prog 3 (plainElem (H := Unit) Try.prog 3) g c D ∧ Go.Maps.IsMap D ∧ ∀ m : Int, D.atKey (.int .i64 m) (.lit (.int .i64 0)) = .lit (.int .i64 (F m))
theorem GM.lit_ne {a b : Int} (h : a ≠ b) : (Lit.int .i64 a) ≠ .int .i64 b := fun e => h (by cases e; rfl)
theorem GM.zero3 (w : World) : (zeroValue 3).run Try.prog w = .ok (.int .i64 0) w := by kernel_rfl
theorem GM.wwf (a : Int) : (Lit.int .i64 (wrap64 a)).wf = true := by
  simp only [Lit.wf, Bool.and_eq_true, decide_eq_true_eq, show IntKind.i64.min = -9223372036854775808 from rfl, show IntKind.i64.max = 9223372036854775807 from rfl]
  unfold wrap64
  omega
theorem GM.made (w : World) : GM.St (fun _ => 0) 0 w.heap.size (w.alloc (.map #[] 0)) :=
  ⟨0, .map [], Nat.le_refl _, World.ownsMap_made w _ _ _, ⟨[], rfl⟩, fun _ => rfl⟩
theorem GM.St.lt {F : Int → Int} {C g : Nat} {w : World} (h : GM.St F C g w) : g < w.heap.size := by
  obtain ⟨c, D, _, h, _⟩ := h
  exact h.lt
theorem GM.St.kept {F : Int → Int} {C g : Nat} {w w' : World} {row : Option Nat} (h : GM.St F C g w) (hg : w.grownBy w' row) (hne : some g ≠ row) : GM.St F C g w' := by
  obtain ⟨c, D, h1, h2, h3, h4⟩ := h
  exact ⟨c, D, h1, h2.kept hg hne, h3, h4⟩
theorem GM.St.below {F : Int → Int} {C g : Nat} {w w' : World} (h : GM.St F C g w) (hb : Below w.heap.size w w') : GM.St F C g w' := h.kept (grown_of_below hb none) (by simp)
theorem GM.St.alloc {F : Int → Int} {C g : Nat} {w : World} (h : GM.St F C g w) (o : Obj) : GM.St F C g (w.alloc o) := h.below (below_alloc (Below.refl _ _) o)
theorem GM.put_st {F : Int → Int} {C g c : Nat} {w : World} {D : DataW Unit} {n v : Int} (hc : c ≤ C) (hm : w.ownsMap Try.prog 3 (plainElem (H := Unit) Try.prog 3) g (c + 1) (D.put (.int .i64 n) (.lit (.int .i64 v)))) (hi : Go.Maps.IsMap D) (hF : ∀ m : Int, D.atKey (.int .i64 m) (.lit (.int .i64 0)) = .lit (.int .i64 (F m))) : GM.St (GM.put F n v) (C + 1) g w := by
  refine ⟨c + 1, _, by omega, hm, hi.put _ _, fun m => ?_⟩
  unfold GM.put
  by_cases e : m = n
  · subst e
    rw [if_pos rfl, Go.Maps.atKey_put_same hi (by trivial)]
  · rw [if_neg e, Go.Maps.atKey_put_other (GM.lit_ne e)]
    exact hF m
theorem GM.int {a b : Int} (h : (DataW.lit (.int .i64 a) : DataW Unit) = .lit (.int .i64 b)) : a = b := by
  injection h with h
  injection h
/-- An empty row, just made. -/
theorem GM.nil (w : World) (g : Nat) (hg : g < w.heap.size) : Kd.R (Kd.int .i64) 3 (w.alloc (.cells #[] 3)) w.heap.size (fun k_ => k_ ≠ g) (.slice (some ⟨w.heap.size, 0, none⟩) 0 0) [] := by
  refine Kd.R_of_own ⟨rfl, .inr ⟨w.heap.size, 0, #[], rfl, by omega, World.alloc_heap_new w _, Nat.le_refl _, by simp [maxLen], rfl, rfl⟩⟩ (fun k hk => ?_)
  simp [Value.ownBlock] at hk
  omega
/-! ### a sorting of rows as a function -/
def SF.ins (x : List Int) : List (List Int) → List (List Int)
  | [] => [x]
  | y :: t => if SF.cmp y x < 0 then y :: SF.ins x t else x :: y :: t
def SF.so : List (List Int) → List (List Int)
  | [] => []
  | x :: t => SF.ins x (SF.so t)
theorem SF.ins_perm (x : List Int) : ∀ l, (SF.ins x l).Perm (x :: l)
  | [] => List.Perm.refl _
  | y :: t => by
    unfold SF.ins
    split
    · exact ((SF.ins_perm x t).cons y).trans (List.Perm.swap x y t)
    · exact List.Perm.refl _
theorem SF.so_perm : ∀ l, (SF.so l).Perm l
  | [] => List.Perm.refl _
  | x :: t => (SF.ins_perm x _).trans ((SF.so_perm t).cons x)
theorem SF.ins_sorted (x : List Int) : ∀ l, l.Pairwise (fun a b => ¬ SF.cmp b a < 0) → (SF.ins x l).Pairwise (fun a b => ¬ SF.cmp b a < 0)
  | [], _ => by simp [SF.ins]
  | y :: t, h => by
    unfold SF.ins
    obtain ⟨h1, h2⟩ := List.pairwise_cons.mp h
    split
    · rename_i hx
      refine List.pairwise_cons.mpr ⟨fun z hz => ?_, SF.ins_sorted x t h2⟩
      rcases List.mem_cons.mp ((SF.ins_perm x t).mem_iff.mp hz) with rfl | hz
      · have := SF.neg y z; omega
      · exact h1 z hz
    · rename_i hx
      refine List.pairwise_cons.mpr ⟨fun z hz => ?_, h⟩
      rcases List.mem_cons.mp hz with rfl | hz
      · exact hx
      · exact fun hlt => SF.ntrans z y x (h1 z hz) hx hlt
theorem SF.so_sorted : ∀ l, (SF.so l).Pairwise (fun a b => ¬ SF.cmp b a < 0)
  | [] => List.Pairwise.nil
  | x :: t => SF.ins_sorted x _ (SF.so_sorted t)
theorem SF.so_eq {L L' : List (List Int)} (hp : L'.Perm L) (hs : L'.Pairwise (fun a b => ¬ SF.cmp b a < 0)) : L' = SF.so L := by
  refine List.Perm.eq_of_pairwise (le := fun a b => ¬ SF.cmp b a < 0) (fun a b _ _ h1 h2 => ?_) hs (SF.so_sorted L) (hp.trans (SF.so_perm L).symm)
  have := SF.neg a b
  exact SF.eq a b (by omega)

def impl_gapCycles.way (a0 a1 v : Int) : Nat → (Int → Int) → Nat → List Int → Int → Option (List Int × Int × (Int → Int) × Nat)
  | 0, _, _, _, _ => none
  | k + 1, F, C, W, n => if (Lit.int .i64 n).wf = true ∧ C < 5000000000 ∧ W.length < 5000000000 then (if F n = 0 then ((impl_step.f k n a0 a1).bind fun n2 => impl_gapCycles.way a0 a1 v k (GM.put F n v) (C + 1) (W ++ [n]) n2) else some (W, n, F, C)) else none
def impl_gapCycles.l0 (a0 a1 : Int) (rows : List (List Int)) : Nat → List (List Int) → (Int → Int) → Nat → Int → Option (List (List Int))
  | 0, _, _, _, _ => none
  | k + 1, O, F, C, i => if i < (rows.length : Int) then (if 0 ≤ i ∧ O.length < 1000000000 then ((impl_byGaps.f k (rd_L1 rows i) a0 a1).bind fun n => ((impl_gapCycles.way a0 a1 (wrap64 (i + 1)) k F C [] n).bind fun t => ((slices_Index_int_int.f k t.1 t.2.1).bind fun j => (if 0 ≤ j then (if j ≤ (t.1.length : Int) then ((impl_leastFirst.f k (t.1.drop j.toNat)).bind fun c => impl_gapCycles.l0 a0 a1 rows k (O ++ [c]) t.2.2.1 t.2.2.2 (wrap64 (i + 1))) else none) else impl_gapCycles.l0 a0 a1 rows k O t.2.2.1 t.2.2.2 (wrap64 (i + 1)))))) else none) else some O
def impl_gapCycles.f (k : Nat) (a0 a1 : Int) : Option (List (List Int)) := (impl_allGaps.f a0 a1).bind fun rows => ((impl_gapCycles.l0 a0 a1 rows k [] (fun _ => 0) 0 0).bind fun O => (if 0 < O.length ∧ O.length ≤ 1000000 ∧ ∀ l ∈ O, l.length ≤ 4294967296 then some (SF.so O) else none))
theorem impl_gapCycles.mono_w (a0 a1 v : Int) : ∀ k F C W n, LeO (impl_gapCycles.way a0 a1 v k F C W n) (impl_gapCycles.way a0 a1 v (k + 1) F C W n)
  | 0, F, C, W, n => fun r h => by simp [impl_gapCycles.way] at h
  | k + 1, F, C, W, n => by
    have ih := impl_gapCycles.mono_w a0 a1 v k
    unfold impl_gapCycles.way
    repeat' first
      | exact ih _ _ _ _
      | exact impl_step.mono _ _ _ _
      | exact LeO.refl _
      | exact LeO.none _
      | refine LeO.ite ?_ ?_
      | refine LeO.bind ?_ (fun _ => ?_)
theorem impl_gapCycles.mono_0 (a0 a1 : Int) (rows : List (List Int)) : ∀ k O F C i, LeO (impl_gapCycles.l0 a0 a1 rows k O F C i) (impl_gapCycles.l0 a0 a1 rows (k + 1) O F C i)
  | 0, O, F, C, i => fun r h => by simp [impl_gapCycles.l0] at h
  | k + 1, O, F, C, i => by
    have ih := impl_gapCycles.mono_0 a0 a1 rows k
    unfold impl_gapCycles.l0
    repeat' first
      | exact ih _ _ _ _
      | exact impl_gapCycles.mono_w _ _ _ _ _ _ _ _
      | exact impl_byGaps.mono _ _ _ _
      | exact slices_Index_int_int.mono _ _ _
      | exact impl_leastFirst.mono _ _
      | exact LeO.refl _
      | exact LeO.none _
      | refine LeO.ite ?_ ?_
      | refine LeO.bind ?_ (fun _ => ?_)
theorem impl_gapCycles.mono : ∀ a0 a1 k, LeO (impl_gapCycles.f k a0 a1) (impl_gapCycles.f (k + 1) a0 a1) := by
  intro a0 a1 k
  unfold impl_gapCycles.f
  repeat' first
    | exact impl_gapCycles.mono_0 _ _ _ _ _ _ _ _
    | exact LeO.refl _
    | exact LeO.none _
    | refine LeO.ite ?_ ?_
    | refine LeO.bind ?_ (fun _ => ?_)
set_option maxHeartbeats 8000000 in
set_option maxRecDepth 100000 in
theorem impl_gapCycles.calls (k : Nat) (a0 : Int) (a1 : Int) (r : List (List Int)) (w : World) (h : impl_gapCycles.f k a0 a1 = some r) :
    Calls Try.prog 58 #[.int .i64 a0, .int .i64 a1] w fun e w' => ∃ v0_ : Value, e = .returned (v0_) ∧ Kd.S (Kd.slice 3 (Kd.int .i64)) 22 w' w.heap.size (fun _ => True) v0_ r ∧ Below w.heap.size w w' := by
  have HB := Aside0.mk (Below.refl w.heap.size w)
  obtain ⟨rows, hrows, h⟩ := Option.bind_eq_some_iff.mp h
  obtain ⟨O9, hO9, h⟩ := Option.bind_eq_some_iff.mp h
  have HROWS := Aside0.mk hrows
  have H' := Aside0.mk hO9
  have HFIN := Aside0.mk h
  clear hrows hO9 h
  have hmm := @run_makeMap Try.prog
  go_enter Try.func58, Try.ntmps58
  go_wp2_with (first | ((with_reducible refine gate_dst (N := 12) rfl ?_); refine Kd.S_lit (Kd.slice 3 (Kd.int .i64)) _ 22 ?hg (N := 12) ?hd (xs := ([] : List (List Int))) (inner := []) (ok := fun _ => True) (okp := fun _ => True) ?hr ?hp (fun _ hk => hk) trivial (Below.refl _ _) (Nat.le_refl _) (by simp) ?_; (case hd => rfl); (case hg => rfl); (case hr => first | (go_simp; done) | (go_simp; rfl)); (case hp => exact (Reps.none _ _)); intro v12 w1 ho hb hg_ hnew_; clear hg_ hnew_; have HO1 := Aside0.mk ho; have HB1 := Aside0.mk hb; clear ho hb HB) | (go_at_call 56; (with_reducible refine (impl_allGaps.calls a0 a1 rows _ HROWS.out).mono ?_); rintro e w2 ⟨v2, rfl, ho, hb⟩; have HR2 := Aside0.mk (Kd.S_bound ho); have HB2 := Aside0.mk (below_step (below_alloc HB1.out _) hb); have HM2 := Aside0.mk ((GM.made w1).below hb); have HO2 := Aside0.mk (Kd.S_below (Kd.S_alloc (Kd.S_bound HO1.out) _) hb); have HS2 := Aside0.mk hb.size; have HSB := Aside0.mk HB1.out.size; obtain ⟨A2, c2, e2⟩ := Kd.S_slice HR2.out; subst e2; clear ho hb))
  go_loopg [5, 18] k (fun kq v5 v18 wr => ∃ (O : List (List Int)) (F : Int → Int) (C : Nat) (i : Int), v18 = .int .i64 i ∧ Aside0 (impl_gapCycles.l0 a0 a1 rows kq O F C i = some O9) ∧ Aside0 (kq ≤ k) ∧ Aside0 (Kd.S (Kd.slice 3 (Kd.int .i64)) 22 wr w.heap.size (fun j => j ≠ w1.heap.size ∧ ¬ (w1.heap.size < j ∧ j < w2.heap.size)) v5 O) ∧ Aside0 (Kd.F (Kd.slice 3 (Kd.int .i64)) wr (fun j => w1.heap.size < j ∧ j < w2.heap.size) A2 rows.length rows) ∧ Aside0 (GM.St F C w1.heap.size wr) ∧ Aside0 (Below w.heap.size w wr) ∧ Aside0 (w2.heap.size ≤ wr.heap.size))
  case atStart =>
    have h1 := HS2.out
    simp at h1
    refine ⟨[], fun _ => 0, 0, 0, rfl, H', ⟨Nat.le_refl _⟩, ⟨Kd.S_mono HO2.out (fun j hj => ?_)⟩, ⟨Kd.F_mono (Kd.S_F HR2.out) (fun j hj => ?_)⟩, HM2, HB2, ⟨Nat.le_refl _⟩⟩
    · have := hj.2.2.1
      exact ⟨by omega, fun h => by omega⟩
    · have := hj.2.1
      simp at this
      exact ⟨by omega, hj.2.2.1⟩
  case round =>
    have HW12 : Aside0 (w1.heap.size < w2.heap.size) := ⟨by have h1 := HS2.out; simp at h1; omega⟩
    clear H' HB2 HM2 HO2 HR2 HS2 HO1 HROWS HB1
    obtain ⟨O, F, C, i, rfl, HA, HK1, HO, HF, HM, HB, HZ⟩ := hrel
    obtain ⟨wo, rfl⟩ : ∃ x, x = wr := ⟨wr, rfl⟩
    cases gk with
    | zero => exact absurd HA.out (by simp [impl_gapCycles.l0])
    | succ k1 =>
      have H := HA.out
      clear HA
      simp only [impl_gapCycles.l0] at H
      obtain ⟨Ao, co, eo⟩ := Kd.S_slice HO.out
      subst eo
      by_cases c1 : i < (rows.length : Int)
      · rw [if_pos c1] at H
        by_cases c2 : 0 ≤ i ∧ O.length < 1000000000
        · rw [if_pos c2] at H
          obtain ⟨n0, hn0, H⟩ := Option.bind_eq_some_iff.mp H
          obtain ⟨⟨W9, n9, F9, C9⟩, hway, H⟩ := Option.bind_eq_some_iff.mp H
          obtain ⟨j, hj, H⟩ := Option.bind_eq_some_iff.mp H
          have HBY := Aside0.mk hn0
          have HWAY := Aside0.mk hway
          have HJ := Aside0.mk hj
          have HH := Aside0.mk H
          have HOL := Aside0.mk c2.2
          obtain ⟨ad, A0, c0, ea, hx0, hl0, hi0⟩ := at_L1 (Kd.F_now HF.out) i c2.1 c1
          subst ea
          have HR0 := Aside0.mk hi0
          have HC0 := Aside0.mk hl0
          have c1b : decide (i < (rows.length : Int)) = true := decide_eq_true c1
          have p1 : (0 ≤ i) = True := eq_true c2.1
          have q1 : (i < (rows.length : Int)) = True := eq_true c1
          have HNIL := Aside0.mk (GM.nil wo w1.heap.size HM.out.lt)
          have HI9 : Aside0 (i < (rows.length : Int)) := ⟨c1⟩
          have HON := Aside0.mk (Kd.S_alloc (Kd.S_bound HO.out) (.cells #[] 3))
          have HFN := Aside0.mk (Kd.F_alloc HF.out (.cells #[] 3))
          have HMN := Aside0.mk (HM.out.alloc (.cells #[] 3))
          have HBN := Aside0.mk (below_alloc HB.out (.cells #[] 3))
          have HMG := Aside0.mk HM.out.lt
          clear hn0 hway hj H c1 c2 hi0 hl0 HO HF HM HB
          go_wp2_with (first | (go_at_call 44; (with_reducible refine (impl_byGaps.calls k1 A0 c0 (rd_L1 rows i) a0 a1 n0 _ (Kd.C_alloc HR0.out _) HC0.out HBY.out).mono ?_); rintro e w3 ⟨rfl, hd⟩; have hb := hd.below; have HO3 := Aside0.mk (Kd.S_below HON.out hb); have HF3 := Aside0.mk (Kd.F_below HFN.out hb); have HM3 := Aside0.mk (HMN.out.below hb); have HB3 := Aside0.mk (below_step HBN.out hb); have HW3 := Aside0.mk (Kd.R_below HNIL.out hb); have HZ3 : Aside0 (wo.heap.size ≤ w3.heap.size) := ⟨by have := hb.size; simp at this; omega⟩; clear hb hd))
          clear hx0
          go_loopg [9, 10] k1 (fun kq v9 v10 wi => ∃ (W : List Int) (n : Int) (F' : Int → Int) (C' : Nat), v10 = .int .i64 n ∧ Aside0 (impl_gapCycles.way a0 a1 (wrap64 (i + 1)) kq F' C' W n = some (W9, n9, F9, C9)) ∧ Aside0 (kq ≤ k1) ∧ Aside0 (Kd.S (Kd.slice 3 (Kd.int .i64)) 22 wi w.heap.size (fun j => (j ≠ w1.heap.size ∧ ¬ (w1.heap.size < j ∧ j < w2.heap.size)) ∧ j < wo.heap.size) (.slice Ao O.length co) O) ∧ Aside0 (Kd.F (Kd.slice 3 (Kd.int .i64)) wi (fun j => w1.heap.size < j ∧ j < w2.heap.size) (some ad) rows.length rows) ∧ Aside0 (Kd.R (Kd.int .i64) 3 wi wo.heap.size (fun j => j ≠ w1.heap.size) v9 W) ∧ Aside0 (GM.St F' C' w1.heap.size wi) ∧ Aside0 (Below w.heap.size w wi) ∧ Aside0 (wo.heap.size ≤ wi.heap.size))
          case atStart => exact ⟨[], n0, F, C, rfl, HWAY, ⟨Nat.le_refl _⟩, ⟨Kd.S_mono HO3.out (fun j hj => ⟨hj.1, hj.2.2.1⟩)⟩, HF3, HW3, HM3, HB3, HZ3⟩
          case round =>
            clear HWAY HO3 HF3 HW3 HM3 HB3 HZ3 HON HFN HMN HBN HNIL HBY HR0 HC0
            obtain ⟨W, n, F', C', rfl, HA, HK2, HO, HF, HW, HM, HB, HZi⟩ := hrel
            cases gk with
            | zero => exact absurd HA.out (by simp [impl_gapCycles.way])
            | succ k2 =>
              have H := HA.out
              clear HA
              simp only [impl_gapCycles.way] at H
              obtain ⟨Aw, cw, ew⟩ := Kd.R_slice HW.out
              subst ew
              by_cases hg : (Lit.int .i64 n).wf = true ∧ C' < 5000000000 ∧ W.length < 5000000000
              · rw [if_pos hg] at H
                have HG := Aside0.mk hg
                clear hg
                have HKEY := Aside0.mk (show keyOf Try.prog 3 (.int .i64 n) = some (.int .i64 n) from Go.Maps.keyOf_int_mk Try.underlying3 HG.out.1)
                obtain ⟨cM, D, hcM, hown, hism, hat0⟩ := HM.out
                have HCM := Aside0.mk hcM
                have HOWN := Aside0.mk hown
                have HISM := Aside0.mk hism
                have HAT := Aside0.mk hat0
                clear hcM hown hism hat0 HM
                by_cases hz : F' n = 0
                · rw [if_pos hz] at H
                  obtain ⟨n2, hs, H⟩ := Option.bind_eq_some_iff.mp H
                  have HST := Aside0.mk hs
                  have HE := Aside0.mk H
                  clear hs H
                  go_wp2_with (first | (at_lookup; refine wpList_lookup_own_int _ rfl _ _ 64 rfl 3 3 .i64 (Go.Maps.int_keyed Try.underlying3) Try.underlying64 Try.underlying3 (GM.zero3 _) w1.heap.size cM D rfl HOWN.out _ _ rfl HKEY.out ?_; intro cz hat hwc; obtain rfl : cz = F' n := GM.int (hat.symm.trans (HAT.out n)); clear hat hwc) | (at_mapUpdate; refine wpList_mapUpdate_own _ rfl _ _ _ 64 rfl 3 3 (Go.Maps.int_keyed Try.underlying3) Try.underlying64 _ w1.heap.size cM _ rfl HOWN.out (by have := HG.out.2.1; have := HCM.out; unfold maxLen; omega) _ _ _ rfl rfl HKEY.out _ [] (plainElem_int Try.underlying3 (GM.wwf (i + 1))) ?_; intro w4 hown1 hgrow1; have HM4 := Aside0.mk (GM.put_st HCM.out hown1 HISM.out HAT.out); have HO4 := Aside0.mk (Kd.S_grown HO.out hgrow1 (fun j hj e => hj.1.1 (by cases e; rfl))); have HF4 := Aside0.mk (Kd.F_grown HF.out hgrow1 (fun j hj e => by cases e; omega)); have HW4 := Aside0.mk (Kd.R_grown HW.out hgrow1 (fun j hj e => hj (by cases e; rfl))); have HB4 := Aside0.mk (HB.out.grown hgrow1 HB.out.size (fun j hj => by cases hj; exact HSB.out)); have HZ4 : Aside0 (wo.heap.size ≤ w4.heap.size) := ⟨Nat.le_trans HZi.out hgrow1.size⟩; clear hown1 hgrow1) | (at_builtin; refine Kd.R_append (Kd.int .i64) (w0 := w4) wo.heap.size rfl (.tmp 40) (.tmp 42) 22 3 (.int .i64 0) 8 rfl Try.underlying22 info3 rfl (by decide) (by omega) (.slice Aw W.length cw) W n [.int .i64 n] (fun j => j ≠ w1.heap.size) (fun _ => False) rfl rfl ?aP (fun _ hk => hk.elim) ?aF HW4.out ?aB ?aS ?aL ?_; (case aP => exact rfl); (case aF => intro j hj e; have := HM4.out.lt; omega); (case aB => exact (Below.refl _ _).mono HZ4.out); (case aS => exact HZ4.out); (case aL => have := HG.out.2.2; omega); intro v5 w5 ho hb hg hat; have HM5 := Aside0.mk (HM4.out.kept hg (fun e => HW4.out.1 w1.heap.size e.symm rfl)); have HO5 := Aside0.mk (Kd.S_grown HO4.out hg (fun j hj e => by have := Kd.R_base HW4.out j e.symm; omega)); have HF5 := Aside0.mk (Kd.F_grown HF4.out hg (fun j hj e => by have := Kd.R_base HW4.out j e.symm; have := HZ.out; omega)); have HW5 := Aside0.mk ho; have HB5 := Aside0.mk (HB4.out.grown hg HB4.out.size (fun j hj => by have := Kd.R_base HW4.out j hj; have := HB.out.size; have := HZ.out; have := HW12.out; have := HSB.out; omega)); have HZ5 : Aside0 (wo.heap.size ≤ w5.heap.size) := ⟨Nat.le_trans HZ4.out hg.size⟩; clear ho hb hg hat) | (go_at_call 66; (with_reducible refine (impl_step.calls k2 n a0 a1 n2 _ HST.out).mono ?_); rintro e w6 ⟨rfl, hb⟩; have HM6 := Aside0.mk (HM5.out.below hb); have HO6 := Aside0.mk (Kd.S_below HO5.out hb); have HF6 := Aside0.mk (Kd.F_below HF5.out hb); have HW6 := Aside0.mk (Kd.R_below HW5.out hb); have HB6 := Aside0.mk (below_step HB5.out hb); have HZ6 : Aside0 (wo.heap.size ≤ w6.heap.size) := ⟨Nat.le_trans HZ5.out hb.size⟩; clear hb))
                  go_roundg k2
                  case measure => have := HK2.out; omega
                  case rel => exact ⟨W ++ [n], n2, _, C' + 1, rfl, HE, ⟨by have := HK2.out; omega⟩, HO6, HF6, HW6, HM6, HB6, HZ6⟩
                · rw [if_neg hz] at H
                  simp only [Option.some.injEq, Prod.mk.injEq] at H
                  obtain ⟨rfl, rfl, rfl, rfl⟩ := H
                  have hzb : (F' n == 0) = false := beq_eq_false_iff_ne.mpr hz
                  have HM : Aside0 (GM.St F' C' w1.heap.size wr) := ⟨⟨cM, D, HCM.out, HOWN.out, HISM.out, HAT.out⟩⟩
                  clear hz
                  have HJ2 : Aside0 (slices_Index_int_int.f k1 W n = some j) := HJ
                  have HH2 : Aside0 ((if 0 ≤ j then (if j ≤ (W.length : Int) then ((impl_leastFirst.f k1 (W.drop j.toNat)).bind fun c => impl_gapCycles.l0 a0 a1 rows k1 (O ++ [c]) F' C' (wrap64 (i + 1))) else none) else impl_gapCycles.l0 a0 a1 rows k1 O F' C' (wrap64 (i + 1))) = some O9) := HH
                  clear HJ HH
                  by_cases hj0 : 0 ≤ j
                  · have H := HH2.out
                    rw [if_pos hj0] at H
                    by_cases hj1 : j ≤ (W.length : Int)
                    · rw [if_pos hj1] at H
                      obtain ⟨c, hc, H⟩ := Option.bind_eq_some_iff.mp H
                      have HE := Aside0.mk H
                      obtain ⟨i0, hi0, _, hsz, _⟩ := info_parts info3
                      have hcut := cut_from (P := Try.prog) 22 3 .i64 Try.underlying22 hi0 1 hsz Aw W.length cw j hj0 hj1
                      have HCD := Aside0.mk (fun (W' : World) (hC : Kd.C (Kd.int .i64) W' Aw W.length W) => Kd.C_drop (m := j.toNat) (c := cw) hC (by omega) (Kd.R_reads' HW.out).2.1)
                      have HYC : Aside0 (W.length - j.toNat ≤ cw - j.toNat) := ⟨Nat.sub_le_sub_right (Kd.R_reads' HW.out).2.1 _⟩
                      obtain ⟨A13, hA13⟩ : ∃ A1, A1 = (if cw = j.toNat then Aw else (Aw : Option Addr).map (·.add (j.toNat * 1))) := ⟨_, rfl⟩
                      obtain ⟨c13, hc13⟩ : ∃ c1, c1 = cw - j.toNat := ⟨_, rfl⟩
                      obtain ⟨y13, hy13⟩ : ∃ y, y = W.drop j.toNat := ⟨_, rfl⟩
                      have hly : y13.length = W.length - j.toNat := by rw [hy13, List.length_drop]
                      have HCD2 : Aside0 (∀ W' : World, Kd.C (Kd.int .i64) W' Aw W.length W → Kd.C (Kd.int .i64) W' A13 y13.length y13) := ⟨fun W' hC => by rw [hA13, hy13]; exact HCD.out W' hC⟩
                      rw [← hly, ← hA13, ← hc13] at hcut
                      have HY : Aside0 (y13.length ≤ c13) := ⟨by rw [hly, hc13]; exact HYC.out⟩
                      rw [← hy13] at hc
                      have HLF := Aside0.mk hc
                      have hjb : decide (0 ≤ j) = true := decide_eq_true hj0
                      clear HCD HYC hA13 hc13 hy13 hly hi0 hsz hc H HH2 hj0 hj1
                      go_wp2_with (first | (at_lookup; refine wpList_lookup_own_int _ rfl _ _ 64 rfl 3 3 .i64 (Go.Maps.int_keyed Try.underlying3) Try.underlying64 Try.underlying3 (GM.zero3 _) w1.heap.size cM D rfl HOWN.out _ _ rfl HKEY.out ?_; intro cz hat hwc; obtain rfl : cz = F' n := GM.int (hat.symm.trans (HAT.out n)); clear hat hwc) | (go_at_call 81; (with_reducible refine (slices_Index_int_int.calls k1 Aw cw W n j _ (Kd.R_reads' HW.out).2.2 (Kd.R_reads' HW.out).2.1 HJ2.out).mono ?_); rintro e w4 ⟨rfl, hd⟩; have hb := hd.below; have HO4 := Aside0.mk (Kd.S_below HO.out hb); have HF4 := Aside0.mk (Kd.F_below HF.out hb); have HM4 := Aside0.mk (HM.out.below hb); have HB4 := Aside0.mk (below_step HB.out hb); have HW4 := Aside0.mk (Kd.R_below HW.out hb); have HZ4 : Aside0 (wo.heap.size ≤ w4.heap.size) := ⟨Nat.le_trans HZi.out hb.size⟩; clear hb hd) | (go_at_call 51; (with_reducible refine (impl_leastFirst.calls k1 A13 c13 y13 c _ (HCD2.out _ (Kd.R_reads' HW4.out).2.2) HY.out HLF.out).mono ?_); rintro e w5 ⟨vc, rfl, ho, hb⟩; obtain ⟨Ac, cc, ec⟩ := Kd.R_slice ho; subst ec; have HN5 := Aside0.mk (Kd.R_bound ho); have HO5 := Aside0.mk (Kd.S_below HO4.out hb); have HF5 := Aside0.mk (Kd.F_below HF4.out hb); have HM5 := Aside0.mk (HM4.out.below hb); have HB5 := Aside0.mk (below_step HB4.out hb); have HZ5 := Aside0.mk hb.size; have HOL5 := Aside0.mk (Kd.S_lt HO4.out); clear ho hb) | (at_builtin; refine Kd.S_append (Kd.slice 3 (Kd.int .i64)) (w0 := w) w.heap.size rfl (.tmp 49) (.tmp 54) 31 22 (.slice none 0 0) 24 rfl Try.underlying31 info22 rfl (by decide) (by omega) (.slice Ao O.length co) O c [.slice Ac c.length cc] (fun j => j ≠ w1.heap.size ∧ ¬ (w1.heap.size < j ∧ j < w2.heap.size)) (fun j => w4.heap.size ≤ j) rfl rfl ?hp ?hokp ?hfresh ?HO ?HB ?hbase ?hl ?_; (case hp => exact ⟨_, rfl, Kd.R_lower (Kd.R_mono HN5.out (fun j hj => hj.2.1)) HB4.out.size⟩); (case hokp => exact (fun j hj => ⟨⟨by have := HZ4.out; have := HMG.out; omega, fun h => by have := HZ4.out; have := HZ.out; omega⟩, fun e => by have := HOL5.out j e.symm; omega⟩)); (case hfresh => exact (fun j hj => ⟨by have := HZ5.out; have := HZ4.out; have := HMG.out; omega, fun h => by have := HZ5.out; have := HZ4.out; have := HZ.out; omega⟩)); (case HO => exact Kd.S_mono HO5.out (fun j hj => ⟨hj.1, by have := HZ4.out; have := hj.2; omega⟩)); (case HB => exact HB5.out); (case hbase => exact HB5.out.size); (case hl => have := HOL.out; omega); intro v6 w6 ho hb hg hat; have HO6 := Aside0.mk ho; have HB6 := Aside0.mk hb; have HF6 := Aside0.mk (Kd.F_grown HF5.out hg (fun j hj e => ((Kd.S_R HO5.out).1 j e.symm).1.2 hj)); have HM6 := Aside0.mk (HM5.out.kept hg (fun e => ((Kd.S_R HO5.out).1 _ e.symm).1.1 rfl)); have HZ6 : Aside0 (w2.heap.size ≤ w6.heap.size) := ⟨by have := hg.size; have := HZ5.out; have := HZ4.out; have := HZ.out; omega⟩; clear ho hb hg hat))
                      go_roundg k1
                      case measure => have := HK1.out; omega
                      case rel => exact ⟨O ++ [c], F', C', _, rfl, HE, ⟨by have := HK1.out; omega⟩, HO6, HF6, HM6, HB6, HZ6⟩
                    · rw [if_neg hj1] at H
                      cases H
                  · have H := HH2.out
                    rw [if_neg hj0] at H
                    have HE := Aside0.mk H
                    have hjb : decide (0 ≤ j) = false := decide_eq_false hj0
                    clear H HH2 hj0
                    go_wp2_with (first | (at_lookup; refine wpList_lookup_own_int _ rfl _ _ 64 rfl 3 3 .i64 (Go.Maps.int_keyed Try.underlying3) Try.underlying64 Try.underlying3 (GM.zero3 _) w1.heap.size cM D rfl HOWN.out _ _ rfl HKEY.out ?_; intro cz hat hwc; obtain rfl : cz = F' n := GM.int (hat.symm.trans (HAT.out n)); clear hat hwc) | (go_at_call 81; (with_reducible refine (slices_Index_int_int.calls k1 Aw cw W n j _ (Kd.R_reads' HW.out).2.2 (Kd.R_reads' HW.out).2.1 HJ2.out).mono ?_); rintro e w4 ⟨rfl, hd⟩; have hb := hd.below; have HO4 := Aside0.mk (Kd.S_below HO.out hb); have HF4 := Aside0.mk (Kd.F_below HF.out hb); have HM4 := Aside0.mk (HM.out.below hb); have HB4 := Aside0.mk (below_step HB.out hb); have HW4 := Aside0.mk (Kd.R_below HW.out hb); have HZ4 : Aside0 (wo.heap.size ≤ w4.heap.size) := ⟨Nat.le_trans HZi.out hb.size⟩; clear hb hd))
                    go_roundg k1
                    case measure => have := HK1.out; omega
                    case rel => exact ⟨O, F', C', _, rfl, HE, ⟨by have := HK1.out; omega⟩, ⟨Kd.S_mono HO4.out (fun _ hj => hj.1)⟩, HF4, HM4, HB4, ⟨by have := HZ4.out; have := HZ.out; omega⟩⟩
              · rw [if_neg hg] at H
                cases H
        · rw [if_neg c2] at H
          cases H
      · rw [if_neg c1] at H
        obtain rfl := Option.some.inj H
        have c1b : decide (i < (rows.length : Int)) = false := decide_eq_false c1
        have HIF := HFIN.out
        by_cases hc : 0 < O.length ∧ O.length ≤ 1000000 ∧ ∀ l ∈ O, l.length ≤ 4294967296
        · rw [if_pos hc] at HIF
          have HR := Aside0.mk (Option.some.inj HIF)
          have HHC := Aside0.mk hc
          clear hc HIF H c1
          go_wp2_with (first | (go_at_call 87; (with_reducible refine (SF.calls (.slice Ao O.length co) O wo w.heap.size _ HO.out HHC.out.1 HHC.out.2.1 HHC.out.2.2).mono ?_); rintro e w3 ⟨rfl, L3, p3, s3, hS3, k3, os3, tp3, out3⟩; have HE3 := Aside0.mk ((SF.so_eq p3 s3).trans HR.out); have HS3 := Aside0.mk hS3; have HB3 : Aside0 (Below w.heap.size w w3) := ⟨HB.out.trans ⟨os3, tp3, out3, k3.1, fun k hk => k3.2 k (by have := HB.out.size; omega) (fun e => by have := Kd.S_base HO.out k e.symm; omega)⟩⟩; clear p3 s3 hS3 k3 os3 tp3 out3))
          go_ret
          have e := HE3.out
          subst e
          exact ⟨_, rfl, Kd.S_mono HS3.out (fun _ _ => trivial), HB3.out⟩
        · rw [if_neg hc] at HIF
          cases HIF

/-! ### impl_in: function 84 -/
def impl_in.f (a0 : Int) (a1 : Int) (a2 : Int) : Option (Bool) := if a1 ≤ a0 then (some (decide (a0 ≤ a2))) else (some false)
set_option maxHeartbeats 8000000 in
set_option maxRecDepth 100000 in
theorem impl_in.calls (a0 : Int) (a1 : Int) (a2 : Int) (r : Bool) (w : World) (h : impl_in.f a0 a1 a2 = some r) :
    Calls Try.prog 84 #[.int .i64 a0, .int .i64 a1, .int .i64 a2] w fun e w' => e = .returned (.bool r) ∧ Drawn0 w w' := by
  have H : (if a1 ≤ a0 then (some (decide (a0 ≤ a2))) else (some false)) = some r := h
  clear h
  by_cases c4 : a1 ≤ a0
  · rw [if_pos c4] at H
    have c4b0 : decide (a1 ≤ a0) = true := decide_eq_true c4
    clear c4
    obtain rfl := Option.some.inj H
    go_enter Try.func84, Try.ntmps84
    go_wp2
    go_ret
    exact ⟨by first | rfl | (simp; done) | (simp [*]; done), by repeat (first | exact Drawn0.refl _ | apply Drawn0.step)⟩
  · rw [if_neg c4] at H
    have c4b0 : decide (a1 ≤ a0) = false := decide_eq_false c4
    clear c4
    obtain rfl := Option.some.inj H
    go_enter Try.func84, Try.ntmps84
    go_wp2
    go_ret
    exact ⟨by first | rfl | (simp; done) | (simp [*]; done), by repeat (first | exact Drawn0.refl _ | apply Drawn0.step)⟩

/-! ### impl_isBase: function 54 -/
def impl_isBase.f (a0 : Int) : Option (Bool) := (impl_in.f a0 2 16).bind fun t349 => (some t349)
set_option maxHeartbeats 8000000 in
set_option maxRecDepth 100000 in
theorem impl_isBase.calls (a0 : Int) (r : Bool) (w : World) (h : impl_isBase.f a0 = some r) :
    Calls Try.prog 54 #[.int .i64 a0] w fun e w' => e = .returned (.bool r) ∧ Drawn0 w w' := by
  have H : ((impl_in.f a0 2 16).bind fun t349 => (some t349)) = some r := h
  clear h
  replace H := Option.bind_eq_some_iff.mp H
  obtain ⟨t349, A20, H⟩ := H
  replace H : (some t349) = some r := H
  have A2 := Aside0.mk A20
  clear A20
  obtain rfl := Option.some.inj H
  go_enter Try.func54, Try.ntmps54
  go_wp2_with (first | ((with_reducible refine gate_callee (f := 84) rfl ?_); refine goesL_ (some 4) rfl rfl Try.func84 (by kernel_rfl) rfl #[.int .i64 a0, .int .i64 2, .int .i64 16] rfl (by (try simp only [List.map_toArray, List.map_cons, List.map_nil]); first | done | rfl | (simp only [List.length_drop, List.length_take]; rfl)) ?_; (with_reducible refine (impl_in.calls a0 2 16 t349 _ A2.out).mono ?_); rintro e w' ⟨rfl, ⟨nd, rfl⟩⟩; refine ⟨_, rfl, ?_⟩))
  go_ret
  exact ⟨by first | rfl | (simp; done) | (simp [*]; done), by repeat (first | exact Drawn0.refl _ | apply Drawn0.step)⟩

/-! ### impl_isWidth: function 55 -/
def impl_isWidth.f (a0 : Int) : Option (Bool) := (impl_in.f a0 1 8).bind fun t350 => (some t350)
set_option maxHeartbeats 8000000 in
set_option maxRecDepth 100000 in
theorem impl_isWidth.calls (a0 : Int) (r : Bool) (w : World) (h : impl_isWidth.f a0 = some r) :
    Calls Try.prog 55 #[.int .i64 a0] w fun e w' => e = .returned (.bool r) ∧ Drawn0 w w' := by
  have H : ((impl_in.f a0 1 8).bind fun t350 => (some t350)) = some r := h
  clear h
  replace H := Option.bind_eq_some_iff.mp H
  obtain ⟨t350, A20, H⟩ := H
  replace H : (some t350) = some r := H
  have A2 := Aside0.mk A20
  clear A20
  obtain rfl := Option.some.inj H
  go_enter Try.func55, Try.ntmps55
  go_wp2_with (first | ((with_reducible refine gate_callee (f := 84) rfl ?_); refine goesL_ (some 4) rfl rfl Try.func84 (by kernel_rfl) rfl #[.int .i64 a0, .int .i64 1, .int .i64 8] rfl (by (try simp only [List.map_toArray, List.map_cons, List.map_nil]); first | done | rfl | (simp only [List.length_drop, List.length_take]; rfl)) ?_; (with_reducible refine (impl_in.calls a0 1 8 t350 _ A2.out).mono ?_); rintro e w' ⟨rfl, ⟨nd, rfl⟩⟩; refine ⟨_, rfl, ?_⟩))
  go_ret
  exact ⟨by first | rfl | (simp; done) | (simp [*]; done), by repeat (first | exact Drawn0.refl _ | apply Drawn0.step)⟩

end Go.Proofs.Yteojcnegdcopdaa.PFnExactLongestTail
