-- Written by a program of this session (hook.py): functions, contracts and walks in the printer's form; contracts of this session's own where the printer takes none
import Derived.Test.YtimimjmabnmeoaaPFnExactCountWithProductx0
import Derived.Test.YtimimjmabnmeoaaPFnExactCountWithProductx1
namespace Go.Proofs.Ytimimjmabnmeoaa.PFnExactCountWithProduct
open Go.RowKit Go.Proofs.YtimimjmabnmeoaaW.PrintWords Go.Proofs.YtimimjmabnmeoaaW.PrintLast Go.Proofs.YtimimjmabnmeoaaW.PrintMore
attribute [local go_sem] max2_int min2_int max_two min_two max_three min_three max_four min_four   -- for this text's walks alone
set_option linter.unusedVariables false
set_option linter.unusedSimpArgs false

/-! ### spec_prLists: function 33 -/
def spec_prLists.at_ (D : List Int) (nx : Int) : Nat → Int → Option Int
  | 0, _ => none
  | k + 1, i => if i < (D.length : Int) then (if 0 ≤ i then (if rd D i < nx then spec_prLists.at_ D nx k (i + 1) else some i) else none) else some i
def spec_prLists.ok (P b : Int) (D W : List Int) (i d : Int) : Prop := 0 ≤ i ∧ i < (D.length : Int) ∧ W.length = D.length ∧ D.length < 1000000000 ∧ 0 < d ∧ d < 100 ∧ 0 < rd D i ∧ rd D i ≤ 10000000000000
instance (P b : Int) (D W : List Int) (i d : Int) : Decidable (spec_prLists.ok P b D W i d) := by unfold spec_prLists.ok; infer_instance
def spec_prLists.l1 (P b : Int) : Nat → List Int → List Int → Int → Int → Option (List Int × List Int)
  | 0, _, _, _, _ => none
  | k + 1, D, W, i, d => if d < b then (if spec_prLists.ok P b D W i d then (if Int.tmod P (rd D i * d) = 0 then ((spec_prLists.at_ D (rd D i * d) k (i + 1)).bind fun a => (if 0 ≤ a ∧ a ≤ (D.length : Int) then (if a < (D.length : Int) ∧ rd D a = rd D i * d then spec_prLists.l1 P b k D (W.set a.toNat (wrap64 (rd W a + rd W i))) i (d + 1) else spec_prLists.l1 P b k (D.take a.toNat ++ [rd D i * d] ++ D.drop a.toNat) (W.take a.toNat ++ [rd W i] ++ W.drop a.toNat) i (d + 1)) else none)) else spec_prLists.l1 P b k D W i (d + 1)) else none) else some (D, W)
def spec_prLists.l0 (P b : Int) : Nat → List Int → List Int → Int → Option (List Int × List Int)
  | 0, _, _, _ => none
  | k + 1, D, W, i => if i < (D.length : Int) then (if 0 ≤ i ∧ i < 1000000000 then ((spec_prLists.l1 P b k D W i 2).bind fun t => spec_prLists.l0 P b k t.1 t.2 (i + 1)) else none) else some (D, W)
def spec_prLists.f (k : Nat) (a0 a1 : Int) : Option Int := (spec_prLists.l0 a0 a1 k [1] [1] 0).bind fun t => (if 0 < t.1.length ∧ t.1.length < 1000000000 ∧ t.2.length = t.1.length then (if rd t.1 ((t.1.length : Int) - 1) = a0 then some (rd t.2 ((t.1.length : Int) - 1)) else some 0) else none)
theorem spec_prLists.mono_a (D : List Int) (nx : Int) : ∀ k i, LeO (spec_prLists.at_ D nx k i) (spec_prLists.at_ D nx (k + 1) i)
  | 0, i => fun r h => by simp [spec_prLists.at_] at h
  | k + 1, i => by
    have ih := spec_prLists.mono_a D nx k
    unfold spec_prLists.at_
    repeat' first
      | exact ih _
      | exact LeO.refl _
      | exact LeO.none _
      | refine LeO.ite ?_ ?_
theorem spec_prLists.mono_1 (P b : Int) : ∀ k D W i d, LeO (spec_prLists.l1 P b k D W i d) (spec_prLists.l1 P b (k + 1) D W i d)
  | 0, D, W, i, d => fun r h => by simp [spec_prLists.l1] at h
  | k + 1, D, W, i, d => by
    have ih := spec_prLists.mono_1 P b k
    unfold spec_prLists.l1
    repeat' first
      | exact ih _ _ _ _
      | exact spec_prLists.mono_a _ _ _ _
      | exact LeO.refl _
      | exact LeO.none _
      | refine LeO.ite ?_ ?_
      | refine LeO.bind ?_ (fun _ => ?_)
theorem spec_prLists.mono_0 (P b : Int) : ∀ k D W i, LeO (spec_prLists.l0 P b k D W i) (spec_prLists.l0 P b (k + 1) D W i)
  | 0, D, W, i => fun r h => by simp [spec_prLists.l0] at h
  | k + 1, D, W, i => by
    have ih := spec_prLists.mono_0 P b k
    unfold spec_prLists.l0
    repeat' first
      | exact ih _ _ _
      | exact spec_prLists.mono_1 _ _ _ _ _ _ _
      | exact LeO.refl _
      | exact LeO.none _
      | refine LeO.ite ?_ ?_
      | refine LeO.bind ?_ (fun _ => ?_)
theorem spec_prLists.mono : ∀ a0 a1 k, LeO (spec_prLists.f k a0 a1) (spec_prLists.f (k + 1) a0 a1) := by
  intro a0 a1 k
  unfold spec_prLists.f
  repeat' first
    | exact spec_prLists.mono_0 _ _ _ _ _ _
    | exact LeO.refl _
    | exact LeO.none _
    | refine LeO.ite ?_ ?_
    | refine LeO.bind ?_ (fun _ => ?_)
theorem spec_prLists.lit (w : World) (d : Int) : Kd.C (Kd.int .i64) (w.alloc (.cells #[.int .i64 d] 3)) (some ⟨w.heap.size, 0, none⟩) 1 [d] := by
  refine ⟨rfl, by omega, fun _ => ⟨_, rfl, fun j p hj => ?_⟩⟩
  cases j with
  | zero =>
    simp only [List.getElem?_cons_zero, Option.some.injEq] at hj
    subst hj
    refine ⟨[.int .i64 d], rfl, rfl, fun i u hu => ?_⟩
    cases i with
    | zero =>
      simp only [List.getElem?_cons_zero, Option.some.injEq] at hu
      subst hu
      have h2 : (w.alloc (.cells #[.int .i64 d] 3)).heap[w.heap.size]? = some (.cells #[.int .i64 d] 3 (0, 0)) := World.alloc_heap_new w _
      show (w.alloc (.cells #[.int .i64 d] 3)).cell? ⟨w.heap.size, 0, none⟩ = _
      unfold World.cell?
      rw [h2]
      rfl
    | succ i => simp at hu
  | succ j => simp at hj
theorem spec_prLists.own (l : List Int) (h : l.length ≤ 1000000000) : spec_l1Own.f l = some l := by unfold spec_l1Own.f; simp; omega
/-- append(append(own(X[:a]), x), X[a:]..): the two cuts, and what is read behind them -/
theorem spec_prLists.cuts {A : Option Addr} {c : Nat} (X : List Int) (a : Int) (h0 : 0 ≤ a) (h1 : a ≤ (X.length : Int)) (hc : X.length ≤ c) : ∃ (A' : Option Addr) (c' : Nat) (T E : List Int), T = X.take a.toNat ∧ E = X.drop a.toNat ∧ (∀ W : World, (Instr.slice 25 (.slice A X.length c) none (some (.int .i64 a)) none).run Try.prog W = .ok (.slice A T.length c) W) ∧ (∀ W : World, (Instr.slice 25 (.slice A X.length c) (some (.int .i64 a)) none none).run Try.prog W = .ok (.slice A' E.length c') W) ∧ T.length ≤ c ∧ ∀ W : World, Kd.C (Kd.int .i64) W A X.length X → Kd.C (Kd.int .i64) W A T.length T ∧ Kd.C (Kd.int .i64) W A' E.length E := by
  obtain ⟨i0, hi0, _, hsz, _⟩ := info_parts info3
  refine ⟨(if c = a.toNat then A else A.map (·.add (a.toNat * 1))), c - a.toNat, X.take a.toNat, X.drop a.toNat, rfl, rfl, fun W => ?_, fun W => ?_, ?_, fun W h => ⟨Kd.C_take h (by omega), Kd.C_drop h (by omega) hc⟩⟩
  · rw [List.length_take, Nat.min_eq_left (by omega)]
    exact cut_to (P := Try.prog) 25 3 .i64 Try.underlying25 hi0 A X.length c a h0 h1 hc W
  · rw [List.length_drop]
    exact cut_from (P := Try.prog) 25 3 .i64 Try.underlying25 hi0 1 hsz A X.length c a h0 h1 W
  · rw [List.length_take]; omega
set_option maxHeartbeats 8000000 in
set_option maxRecDepth 100000 in
theorem spec_prLists.calls (k : Nat) (a0 : Int) (a1 : Int) (r : Int) (w : World) (h : spec_prLists.f k a0 a1 = some r) :
    Calls Try.prog 33 #[.int .i64 a0, .int .i64 a1] w fun e w' => e = .returned (.int .i64 r) ∧ Below w.heap.size w w' := by
  have HB := Aside0.mk (Below.refl w.heap.size w)
  obtain ⟨⟨D9, W9⟩, hl, h⟩ := Option.bind_eq_some_iff.mp h
  have H' := Aside0.mk hl
  have HFIN := Aside0.mk h
  clear hl h
  go_enter Try.func33, Try.ntmps33
  go_wp2_with (first | ((with_reducible refine gate_dst (N := 12) rfl ?_); refine Kd.R_lit (Kd.int .i64) _ 3 ?hg (N := 12) ?hd (xs := ([1] : List Int)) (inner := [.int .i64 1]) (ok := fun _ => True) (okp := fun _ => True) ?hr ?hp (fun _ hk => hk) trivial (Below.refl _ _) (Nat.le_refl _) (by simp) ?_; (case hd => rfl); (case hg => rfl); (case hr => first | (go_simp; done) | (go_simp; rfl)); (case hp => exact (Reps.one (show Kd.M (Kd.int .i64) _ _ _ 1 [.int .i64 1] from rfl) (Reps.none _ _))); intro v12 w1 ho hb hg_ hnew_; clear hg_ hnew_; have HO1 := Aside0.mk ho; have HB1 := Aside0.mk (below_step HB.out hb); clear ho hb) | ((with_reducible refine gate_dst (N := 13) rfl ?_); refine Kd.R_lit (Kd.int .i64) _ 3 ?hg (N := 13) ?hd (xs := ([1] : List Int)) (inner := [.int .i64 1]) (ok := fun _ => True) (okp := fun _ => True) ?hr ?hp (fun _ hk => hk) trivial (Below.refl _ _) (Nat.le_refl _) (by simp) ?_; (case hd => rfl); (case hg => rfl); (case hr => first | (go_simp; done) | (go_simp; rfl)); (case hp => exact (Reps.one (show Kd.M (Kd.int .i64) _ _ _ 1 [.int .i64 1] from rfl) (Reps.none _ _))); intro v13 w2 ho hb hg_ hnew_; clear hg_; have HN2 := Aside0.mk hnew_; have HO2 := Aside0.mk (Kd.R_bound ho); have HO12 := Aside0.mk (Kd.R_below (Kd.R_bound HO1.out) hb); have HL1 := Aside0.mk (Kd.R_lt HO1.out); have HB2 := Aside0.mk (below_step HB1.out hb); clear ho hb hnew_))
  go_loopg [5, 6, 7] k (fun kq v5 v6 v7 wr => ∃ (D W : List Int) (i : Int), v7 = .int .i64 i ∧ Aside0 (spec_prLists.l0 a0 a1 kq D W i = some (D9, W9)) ∧ Aside0 (kq ≤ k) ∧ Aside0 (Kd.R (Kd.int .i64) 3 wr w.heap.size (fun j => some j ≠ v6.ownBlock) v5 D) ∧ Aside0 (Kd.R (Kd.int .i64) 3 wr w.heap.size (fun j => some j ≠ v5.ownBlock) v6 W) ∧ Aside0 (Below w.heap.size w wr))
  case atStart =>
    obtain ⟨b2, hb2, hle⟩ := HN2.out
    refine ⟨[1], [1], 0, rfl, H', ⟨Nat.le_refl _⟩, ⟨Kd.R_mono HO12.out (fun j hj e => ?_)⟩, ⟨Kd.R_lower (Kd.R_mono HO2.out (fun j hj e => ?_)) HB1.out.size⟩, HB2⟩
    · rw [hb2] at e
      injection e with e
      have := hj.2.2.1
      omega
    · have := HL1.out j e.symm
      have := hj.2.1
      omega
  case round =>
    clear H' HB HB1 HB2 HO1 HO2 HO12 HN2 HL1
    obtain ⟨D, W, i, rfl, HA, HK1, HD, HW, HB⟩ := hrel
    obtain ⟨wo, rfl⟩ : ∃ x, x = wr := ⟨wr, rfl⟩
    cases gk with
    | zero => exact absurd HA.out (by simp [spec_prLists.l0])
    | succ k1 =>
      have H := HA.out
      clear HA
      simp only [spec_prLists.l0] at H
      obtain ⟨A5, c5, e5⟩ := Kd.R_slice HD.out
      subst e5
      obtain ⟨A6, c6, e6⟩ := Kd.R_slice HW.out
      subst e6
      by_cases q1 : i < (D.length : Int)
      · rw [if_pos q1] at H
        by_cases q2 : 0 ≤ i ∧ i < 1000000000
        · rw [if_pos q2] at H
          obtain ⟨⟨D2, W2⟩, h1, H⟩ := Option.bind_eq_some_iff.mp H
          have H1 := Aside0.mk h1
          have HE : Aside0 (spec_prLists.l0 a0 a1 k1 D2 W2 (i + 1) = some (D9, W9)) := ⟨H⟩
          have HI : Aside0 (0 ≤ i ∧ i < 1000000000) := ⟨q2⟩
          have q1b : decide (i < (D.length : Int)) = true := decide_eq_true q1
          clear h1 H q1 q2
          go_wp2
          go_loopg [5, 6, 8] k1 (fun kq v5 v6 v8 wi => ∃ (D W : List Int) (d : Int), v8 = .int .i64 d ∧ Aside0 (spec_prLists.l1 a0 a1 kq D W i d = some (D2, W2)) ∧ Aside0 (kq ≤ k1) ∧ Aside0 (Kd.R (Kd.int .i64) 3 wi w.heap.size (fun j => some j ≠ v6.ownBlock) v5 D) ∧ Aside0 (Kd.R (Kd.int .i64) 3 wi w.heap.size (fun j => some j ≠ v5.ownBlock) v6 W) ∧ Aside0 (Below w.heap.size w wi))
          case atStart => exact ⟨D, W, 2, rfl, H1, ⟨Nat.le_refl _⟩, HD, HW, HB⟩
          case round =>
            clear H1 HD HW HB q1b
            obtain ⟨D, W, d, rfl, HA, HK2, HD, HW, HB⟩ := hrel
            cases gk with
            | zero => exact absurd HA.out (by simp [spec_prLists.l1])
            | succ k2 =>
              have H := HA.out
              clear HA
              simp only [spec_prLists.l1] at H
              by_cases q3 : d < a1
              · rw [if_pos q3] at H
                by_cases q4 : spec_prLists.ok a0 a1 D W i d
                · rw [if_pos q4] at H
                  have HOK := Aside0.mk q4
                  have q3b : decide (d < a1) = true := decide_eq_true q3
                  obtain ⟨o1, o2, o3, o4, o5, o6, o7, o8⟩ := q4
                  obtain ⟨g5, c5, eg5, _⟩ := Kd.R_form HD.out (by omega)
                  obtain ⟨g6, c6, eg6, _⟩ := Kd.R_form HW.out (by omega)
                  subst eg5 eg6
                  obtain ⟨hx5, hf5⟩ := Kd.R_celln 0 HD.out i o1 o2
                  rw [show rdOf 0 D i = rd D i from rfl] at hx5
                  have hnx0 : 0 < rd D i * d := Int.mul_pos o7 o5
                  have hnx1 : rd D i * d ≤ 10000000000000 * 100 := Int.mul_le_mul o8 (by omega) (by omega) (by omega)
                  have e24 : wrap64 (d + 1) = d + 1 := by unfold wrap64; omega
                  have e36 : wrap64 (i + 1) = i + 1 := by have := HI.out; unfold wrap64; omega
                  obtain ⟨nx, hnx⟩ : ∃ nx, nx = rd D i * d := ⟨_, rfl⟩
                  rw [← hnx] at H hnx0 hnx1
                  have e30 : wrap64 (rd D i * d) = nx := by rw [← hnx]; unfold wrap64; omega
                  have n0 : (nx == 0) = false := beq_eq_false_iff_ne.mpr (by omega)
                  have n1 : (nx != 0) = true := bne_iff_ne.mpr (by omega)
                  have n2 : ¬ nx = 0 := by omega
                  have HNX := Aside0.mk hnx
                  have HNB : Aside0 (0 < nx ∧ nx ≤ 1000000000000000) := ⟨by omega⟩
                  have p1 : (0 ≤ i) = True := eq_true o1
                  have p2 : (i < (D.length : Int)) = True := eq_true o2
                  clear q3 o1 o2 o3 o4 o5 o6 o7 o8 hnx hnx0 hnx1
                  by_cases q5 : Int.tmod a0 nx = 0
                  · rw [if_pos q5] at H
                    have q5b : (Int.tmod a0 nx != 0) = false := by rw [bne_eq_false_iff_eq]; exact q5
                    obtain ⟨at9, hat, H⟩ := Option.bind_eq_some_iff.mp H
                    by_cases q6 : 0 ≤ at9 ∧ at9 ≤ (D.length : Int)
                    · rw [if_pos q6] at H
                      have HAT := Aside0.mk hat
                      have HQ6 := Aside0.mk q6
                      have HE2 := Aside0.mk H
                      clear hat H q5 q6
                      go_wp2
                      go_loopg [10] k2 (fun kq v10 wa => ∃ (a : Int), v10 = .int .i64 a ∧ Aside0 (spec_prLists.at_ D nx kq a = some at9) ∧ Aside0 (kq ≤ k2) ∧ Aside0 (Kd.R (Kd.int .i64) 3 wa w.heap.size (fun j => some j ≠ (Value.slice (some ⟨g6, 0, none⟩) W.length c6).ownBlock) (Value.slice (some ⟨g5, 0, none⟩) D.length c5) D) ∧ Aside0 (Kd.R (Kd.int .i64) 3 wa w.heap.size (fun j => some j ≠ (Value.slice (some ⟨g5, 0, none⟩) D.length c5).ownBlock) (Value.slice (some ⟨g6, 0, none⟩) W.length c6) W) ∧ Aside0 (Below w.heap.size w wa))
                      case atStart => exact ⟨i + 1, by first | rfl | (simp; exact e36), HAT, ⟨Nat.le_refl _⟩, HD, HW, HB⟩
                      case round =>
                        clear HAT HD HW HB hx5 hf5 q5b
                        obtain ⟨a, rfl, HA, HK3, HD, HW, HB⟩ := hrel
                        obtain ⟨o1, o2, o3, o4, o5, o6, o7, o8⟩ := HOK.out
                        have HLD : Aside0 (D.length < 1000000000) := ⟨o4⟩
                        have HLW : Aside0 (W.length < 1000000000) := ⟨by omega⟩
                        cases gk with
                        | zero => exact absurd HA.out (by simp [spec_prLists.at_])
                        | succ k3 =>
                          have H := HA.out
                          clear HA
                          simp only [spec_prLists.at_] at H
                          by_cases r1 : a < (D.length : Int)
                          · rw [if_pos r1] at H
                            by_cases r2 : 0 ≤ a
                            · rw [if_pos r2] at H
                              obtain ⟨hxa, hfa⟩ := Kd.R_celln 0 HD.out a r2 r1
                              rw [show rdOf 0 D a = rd D a from rfl] at hxa
                              have r1b : decide (a < (D.length : Int)) = true := decide_eq_true r1
                              have r2b : (0 ≤ a) = True := eq_true r2
                              have r2c : (a < (D.length : Int)) = True := eq_true r1
                              by_cases r3 : rd D a < nx
                              · rw [if_pos r3] at H
                                have HE3 := Aside0.mk H
                                have r3b : decide (rd D a < nx) = true := decide_eq_true r3
                                have e50 : wrap64 (a + 1) = a + 1 := by unfold wrap64; omega
                                clear r1 r2 r3 H o1 o2 o3 o4 o5 o6 o7 o8
                                go_wp2
                                go_roundg k3
                                case measure => have := HK3.out; omega
                                case rel => exact ⟨a + 1, by first | rfl | (simp; exact e50), HE3, ⟨by have := HK3.out; omega⟩, HD, HW, HB⟩
                              · rw [if_neg r3] at H
                                obtain rfl := Option.some.inj H
                                have r3b : decide (rd D a < nx) = false := decide_eq_false r3
                                by_cases r4 : rd D a = nx
                                · have HE3 := HE2.out
                                  rw [if_pos ⟨r1, r4⟩] at HE3
                                  have HE4 := Aside0.mk HE3
                                  have r4b : (rd D a == nx) = true := beq_iff_eq.mpr r4
                                  obtain ⟨hwa, hga⟩ := Kd.R_celln 0 HW.out a r2 (by omega)
                                  obtain ⟨hwi, _⟩ := Kd.R_celln 0 HW.out i o1 (by omega)
                                  rw [show rdOf 0 W a = rd W a from rfl] at hwa
                                  rw [show rdOf 0 W i = rd W i from rfl] at hwi
                                  have r5b : (a < (W.length : Int)) = True := eq_true (by omega)
                                  have r6b : (i < (W.length : Int)) = True := eq_true (by omega)
                                  have HG6 : Aside0 (w.heap.size ≤ g6) := ⟨Kd.R_base HW.out g6 (by simp [Value.ownBlock])⟩
                                  clear r1 r2 r3 r4 H HE3 o1 o2 o3 o4 o5 o6 o7 o8
                                  go_upto_region 14 with (fail)
                                  (try simp only [Act.put, List.setIfInBounds_toArray, List.set_cons_zero, List.set_cons_succ])
                                  have HHW := Aside0.mk (And.intro hwa (And.intro hga hwi))
                                  clear hwa hga hwi hxa hfa
                                  have n0_ := Aside0.mk (Kd.R_drew HD.out)
                                  have n1_ := Aside0.mk (Kd.R_drew HW.out)
                                  have n2_ := Aside0.mk (below_drew1 HB.out)
                                  clear HD
                                  clear HW
                                  clear HB
                                  have HD := n0_
                                  have HW := n1_
                                  have HB := n2_
                                  clear n0_ n1_ n2_
                                  refine start_ (n := 11) (S := fun w' => w'.cell? ⟨g6, a.toNat, none⟩ = some (.int .i64 (rd W a)) ∧ w'.frozen? ⟨g6, a.toNat, none⟩ = false ∧ w'.cell? ⟨g6, i.toNat, none⟩ = some (.int .i64 (rd W i))) (ds := [10]) #[false, false, false, false, false, false, false, false, false, false, false] (by kernel_rfl) rfl rfl HHW.out (fun hHeld => ?_)
                                  generalize wr.drew = wg at HD HW HB hHeld ⊢
                                  refine pure_ (i := 0) (N := some 63) (v := ?_) (a' := ?_) #[true, false, false, false, false, false, false, false, false, false, false] rfl rfl (by kernel_rfl) (fun _ _ _ h => h) (Or.inl ⟨by rfl, ?_⟩) ?_ ?_
                                  rotate_left
                                  · intro w'
                                    go_simp
                                    with_reducible rfl
                                  rotate_left
                                  · simp only [Act.put, List.setIfInBounds_toArray, List.set_cons_zero, List.set_cons_succ, i64_w, i32_w]
                                    rfl
                                  refine pure_ (i := 1) (N := some 64) (v := ?_) (a' := ?_) #[true, true, false, false, false, false, false, false, false, false, false] rfl rfl (by kernel_rfl) (fun _ _ _ h => h) (Or.inl ⟨by rfl, ?_⟩) ?_ ?_
                                  rotate_left
                                  · intro w'
                                    go_simp
                                    with_reducible rfl
                                  rotate_left
                                  · simp only [Act.put, List.setIfInBounds_toArray, List.set_cons_zero, List.set_cons_succ, i64_w, i32_w]
                                    rfl
                                  refine pure_ (i := 2) (N := some 65) (v := ?_) (a' := ?_) #[true, true, true, false, false, false, false, false, false, false, false] rfl rfl (by kernel_rfl) (fun _ _ _ h => h) (Or.inl ⟨by rfl, ?_⟩) ?_ ?_
                                  rotate_left
                                  · intro w'
                                    go_simp
                                    with_reducible rfl
                                  rotate_left
                                  · simp only [Act.put, List.setIfInBounds_toArray, List.set_cons_zero, List.set_cons_succ, i64_w, i32_w]
                                    rfl
                                  refine take_ (i := 3) (N := some 66) (v := ?_) (a' := ?_) #[true, true, true, true, false, false, false, false, false, false, false] rfl rfl (by kernel_rfl) (fun _ _ _ h => h) (Or.inl ⟨by rfl, ?_⟩) hHeld ?_ ?_
                                  rotate_left
                                  · intro w' hw'
                                    have hr_ := hw'
                                    go_simp
                                    with_reducible rfl
                                  rotate_left
                                  · simp only [Act.put, List.setIfInBounds_toArray, List.set_cons_zero, List.set_cons_succ, i64_w, i32_w]
                                    rfl
                                  refine pure_ (i := 4) (N := some 67) (v := ?_) (a' := ?_) #[true, true, true, true, true, false, false, false, false, false, false] rfl rfl (by kernel_rfl) (fun _ _ _ h => h) (Or.inl ⟨by rfl, ?_⟩) ?_ ?_
                                  rotate_left
                                  · intro w'
                                    go_simp
                                    with_reducible rfl
                                  rotate_left
                                  · simp only [Act.put, List.setIfInBounds_toArray, List.set_cons_zero, List.set_cons_succ, i64_w, i32_w]
                                    rfl
                                  refine pure_ (i := 5) (N := some 68) (v := ?_) (a' := ?_) #[true, true, true, true, true, true, false, false, false, false, false] rfl rfl (by kernel_rfl) (fun _ _ _ h => h) (Or.inl ⟨by rfl, ?_⟩) ?_ ?_
                                  rotate_left
                                  · intro w'
                                    go_simp
                                    with_reducible rfl
                                  rotate_left
                                  · simp only [Act.put, List.setIfInBounds_toArray, List.set_cons_zero, List.set_cons_succ, i64_w, i32_w]
                                    rfl
                                  refine pure_ (i := 6) (N := some 69) (v := ?_) (a' := ?_) #[true, true, true, true, true, true, true, false, false, false, false] rfl rfl (by kernel_rfl) (fun _ _ _ h => h) (Or.inl ⟨by rfl, ?_⟩) ?_ ?_
                                  rotate_left
                                  · intro w'
                                    go_simp
                                    with_reducible rfl
                                  rotate_left
                                  · simp only [Act.put, List.setIfInBounds_toArray, List.set_cons_zero, List.set_cons_succ, i64_w, i32_w]
                                    rfl
                                  refine take_ (i := 7) (N := some 70) (v := ?_) (a' := ?_) #[true, true, true, true, true, true, true, true, false, false, false] rfl rfl (by kernel_rfl) (fun _ _ _ h => h) (Or.inl ⟨by rfl, ?_⟩) hHeld ?_ ?_
                                  rotate_left
                                  · intro w' hw'
                                    have hr_ := hw'
                                    go_simp
                                    with_reducible rfl
                                  rotate_left
                                  · simp only [Act.put, List.setIfInBounds_toArray, List.set_cons_zero, List.set_cons_succ, i64_w, i32_w]
                                    rfl
                                  refine pure_ (i := 8) (N := some 71) (v := ?_) (a' := ?_) #[true, true, true, true, true, true, true, true, true, false, false] rfl rfl (by kernel_rfl) (fun _ _ _ h => h) (Or.inl ⟨by rfl, ?_⟩) ?_ ?_
                                  rotate_left
                                  · intro w'
                                    go_simp
                                    with_reducible rfl
                                  rotate_left
                                  · simp only [Act.put, List.setIfInBounds_toArray, List.set_cons_zero, List.set_cons_succ, i64_w, i32_w]
                                    rfl
                                  refine pure_ (i := 9) (N := some 72) (v := ?_) (a' := ?_) #[true, true, true, true, true, true, true, true, true, true, false] rfl rfl (by kernel_rfl) (fun _ _ _ h => h) (Or.inl ⟨by rfl, ?_⟩) ?_ ?_
                                  rotate_left
                                  · intro w'
                                    go_simp
                                    with_reducible rfl
                                  rotate_left
                                  · simp only [Act.put, List.setIfInBounds_toArray, List.set_cons_zero, List.set_cons_succ, i64_w, i32_w]
                                    rfl
                                  refine last_ (i := 10) (N := none) #[true, true, true, true, true, true, true, true, true, true, true] rfl rfl (by kernel_rfl) (by decide) (fun K hK => ?_)
                                  obtain ⟨cq, fq, ci⟩ := hHeld
                                  refine skip_ (w1 := ?_) (by rfl) rfl ?_ ?_
                                  rotate_left
                                  · go_simp
                                    rfl
                                  refine hK.out _ _ ?_
                                  clear hK K
                                  refine done_ (by kernel_rfl) ?_
                                  try go_wp2
                                  go_roundg k2
                                  case measure => have := HK2.out; omega
                                  case rel => exact ⟨D, W.set a.toNat (wrap64 (rd W a + rd W i)), d + 1, by first | rfl | (simp; exact e24), HE4, ⟨by have := HK2.out; omega⟩, ⟨Kd.R_far HD.out (fun j hj e => hj (by simp at e; simp [Value.ownBlock, e])) _⟩, ⟨by first | exact Kd.R_putn HW.out a _ | (have h_ := Kd.R_putn HW.out a (wrap64 (rd W a + rd W i)); simpa using h_)⟩, ⟨HB.out.setCell HG6.out _⟩⟩
                                · have HE3 := HE2.out
                                  rw [if_neg (fun h => r4 h.2)] at HE3
                                  have HE4 := Aside0.mk HE3
                                  have r4b : (rd D a == nx) = false := beq_eq_false_iff_ne.mpr r4
                                  clear r1 r2 r3 r4 H HE3
                                  have hq6 := HQ6.out
                                  obtain ⟨B5, b5, T5, E5, hT5, hE5, k1c, k2c, k3c, k4c⟩ := spec_prLists.cuts (A := some ⟨g5, 0, none⟩) (c := c5) D a hq6.1 hq6.2 (Kd.R_reads' HD.out).2.1
                                  obtain ⟨B6, b6, T6, E6, hT6, hE6, m1c, m2c, m3c, m4c⟩ := spec_prLists.cuts (A := some ⟨g6, 0, none⟩) (c := c6) W a hq6.1 (by omega) (Kd.R_reads' HW.out).2.1
                                  rw [← hT5, ← hE5, ← hT6, ← hE6] at HE4
                                  have HTL5 : Aside0 (T5.length ≤ 1000000000 ∧ E5.length ≤ 1000000000) := ⟨by rw [hT5, hE5, List.length_take, List.length_drop]; omega⟩
                                  have HTL6 : Aside0 (T6.length ≤ 1000000000 ∧ E6.length ≤ 1000000000) := ⟨by rw [hT6, hE6, List.length_take, List.length_drop]; omega⟩
                                  clear hT5 hE5 hT6 hE6
                                  have HCUT5 : Aside0 (True ∧ True ∧ T5.length ≤ c5 ∧ ∀ W_ : World, Kd.C (Kd.int .i64) W_ (some ⟨g5, 0, none⟩) D.length D → Kd.C (Kd.int .i64) W_ (some ⟨g5, 0, none⟩) T5.length T5 ∧ Kd.C (Kd.int .i64) W_ B5 E5.length E5) := ⟨⟨trivial, trivial, k3c, k4c⟩⟩
                                  have HCUT6 : Aside0 (True ∧ True ∧ T6.length ≤ c6 ∧ ∀ W_ : World, Kd.C (Kd.int .i64) W_ (some ⟨g6, 0, none⟩) W.length W → Kd.C (Kd.int .i64) W_ (some ⟨g6, 0, none⟩) T6.length T6 ∧ Kd.C (Kd.int .i64) W_ B6 E6.length E6) := ⟨⟨trivial, trivial, m3c, m4c⟩⟩
                                  have HOWN5 := Aside0.mk (spec_prLists.own T5 HTL5.out.1)
                                  have HOWN6 := Aside0.mk (spec_prLists.own T6 HTL6.out.1)
                                  have HI6 : Aside0 (0 ≤ i ∧ i < (W.length : Int)) := ⟨by omega⟩
                                  clear o1 o2 o3 o4 o5 o6 o7 o8 hq6 k3c k4c m3c m4c
                                  go_upto_region 15 with (fail)
                                  (try simp only [Act.put, List.setIfInBounds_toArray, List.set_cons_zero, List.set_cons_succ])
                                  try clear hxa hfa
                                  have n0_ := Aside0.mk (Kd.R_drew HD.out)
                                  have n1_ := Aside0.mk (Kd.R_drew HW.out)
                                  have n2_ := Aside0.mk (below_drew1 HB.out)
                                  clear HD
                                  clear HW
                                  clear HB
                                  have HD := n0_
                                  have HW := n1_
                                  have HB := n2_
                                  clear n0_ n1_ n2_
                                  refine start_ (n := 12) (S := fun w' => True) (ds := []) #[false, false, false, false, false, false, false, false, false, false, false, false] (by kernel_rfl) rfl rfl trivial (fun hHeld => ?_)
                                  generalize wr.drew = wg at HD HW HB hHeld ⊢
                                  refine pure_ (i := 0) (N := some 73) (v := ?_) (a' := ?_) #[true, false, false, false, false, false, false, false, false, false, false, false] rfl rfl (by kernel_rfl) (fun _ _ _ h => h) (Or.inl ⟨by rfl, ?_⟩) ?_ ?_
                                  rotate_left
                                  · intro w'
                                    go_simp
                                    with_reducible rfl
                                  rotate_left
                                  · simp only [Act.put, List.setIfInBounds_toArray, List.set_cons_zero, List.set_cons_succ, i64_w, i32_w]
                                    rfl
                                  refine pure_ (i := 1) (N := some 74) (v := ?_) (a' := ?_) #[true, true, false, false, false, false, false, false, false, false, false, false] rfl rfl (by kernel_rfl) (fun _ _ _ h => h) (Or.inl ⟨by rfl, ?_⟩) ?_ ?_
                                  rotate_left
                                  · intro w'
                                    go_simp
                                    with_reducible rfl
                                  rotate_left
                                  · simp only [Act.put, List.setIfInBounds_toArray, List.set_cons_zero, List.set_cons_succ, i64_w, i32_w]
                                    rfl
                                  refine pure_ (i := 2) (N := some 75) (v := ?_) (a' := ?_) #[true, true, true, false, false, false, false, false, false, false, false, false] rfl rfl (by kernel_rfl) (fun _ _ _ h => h) (Or.inl ⟨by rfl, ?_⟩) ?_ ?_
                                  rotate_left
                                  · intro w'
                                    go_simp
                                    with_reducible rfl
                                  rotate_left
                                  · simp only [Act.put, List.setIfInBounds_toArray, List.set_cons_zero, List.set_cons_succ, i64_w, i32_w]
                                    rfl
                                  refine pure_ (i := 4) (N := some 77) (v := ?_) (a' := ?_) #[true, true, true, false, true, false, false, false, false, false, false, false] rfl rfl (by kernel_rfl) (fun _ _ _ h => h) (Or.inl ⟨by rfl, ?_⟩) ?_ ?_
                                  rotate_left
                                  · intro w'
                                    go_simp
                                    with_reducible rfl
                                  rotate_left
                                  · simp only [Act.put, List.setIfInBounds_toArray, List.set_cons_zero, List.set_cons_succ, i64_w, i32_w]
                                    rfl
                                  refine pure_ (i := 7) (N := some 80) (v := ?_) (a' := ?_) #[true, true, true, false, true, false, false, true, false, false, false, false] rfl rfl (by kernel_rfl) (fun _ _ _ h => h) (Or.inl ⟨by rfl, ?_⟩) ?_ ?_
                                  rotate_left
                                  · intro w'
                                    go_simp
                                    with_reducible rfl
                                  rotate_left
                                  · simp only [Act.put, List.setIfInBounds_toArray, List.set_cons_zero, List.set_cons_succ, i64_w, i32_w]
                                    rfl
                                  refine pure_ (i := 8) (N := some 81) (v := ?_) (a' := ?_) #[true, true, true, false, true, false, false, true, true, false, false, false] rfl rfl (by kernel_rfl) (fun _ _ _ h => h) (Or.inl ⟨by rfl, ?_⟩) ?_ ?_
                                  rotate_left
                                  · intro w'
                                    go_simp
                                    with_reducible rfl
                                  rotate_left
                                  · simp only [Act.put, List.setIfInBounds_toArray, List.set_cons_zero, List.set_cons_succ, i64_w, i32_w]
                                    rfl
                                  refine pure_ (i := 9) (N := some 82) (v := ?_) (a' := ?_) #[true, true, true, false, true, false, false, true, true, true, false, false] rfl rfl (by kernel_rfl) (fun _ _ _ h => h) (Or.inl ⟨by rfl, ?_⟩) ?_ ?_
                                  rotate_left
                                  · intro w'
                                    go_simp
                                    with_reducible rfl
                                  rotate_left
                                  · simp only [Act.put, List.setIfInBounds_toArray, List.set_cons_zero, List.set_cons_succ, i64_w, i32_w]
                                    rfl
                                  refine join_ (σ := Option Addr × Nat × Nat) 3 #[true, true, true, true, true, true, false, true, true, true, false, false] (fun s => [(76, .slice s.1 T5.length s.2.1), (78, .slice (some ⟨s.2.2, 0, none⟩) 1 1)]) (fun s w' => Kd.R (Kd.int .i64) 3 w' wg.heap.size (fun _ => True) (.slice s.1 T5.length s.2.1) T5 ∧ Kd.C (Kd.int .i64) w' (some ⟨s.2.2, 0, none⟩) 1 [nx] ∧ Below wg.heap.size wg w') (fun s w' hF => ?_) (fun hJ => ?_)
                                  rotate_left
                                  · refine two_ (i := 3) (j := 5) (Ni := some 76) (Nj := some 78) #[true, true, true, true, true, false, false, true, true, true, false, false] #[true, true, true, false, true, true, false, true, true, true, false, false] rfl rfl rfl rfl (by kernel_rfl) (by decide) (by decide) (fun K hK => ?_) (fun K hK => ?_)
                                    · skip
                                      refine goes_ Try.func77 (by kernel_rfl) rfl #[.slice (some ⟨g5, 0, none⟩) T5.length c5] (by rfl) rfl rfl (by simp only [List.map_toArray, List.map_cons, List.map_nil]; rfl) ?_
                                      refine (spec_l1Own.calls _ _ T5 T5 _ ((HCUT5.out.2.2.2 _ (Kd.R_reads' HD.out).2.2).1) HCUT5.out.2.2.1 HOWN5.out).mono ?_
                                      rintro e w1 ⟨vc, rfl, ho, hb⟩
                                      refine ⟨_, rfl, ?_⟩
                                      obtain ⟨Ac, cc, ec⟩ := Kd.R_slice ho
                                      subst ec
                                      have HO1 := Aside0.mk ho
                                      have HB1 := Aside0.mk hb
                                      clear ho hb
                                      refine hK.out _ _ trivial (fun hHeld => ?_)
                                      clear hK K
                                      refine norm_ (a' := ?_) ?_ ?_
                                      rotate_left
                                      · show Act.put _ (some 76) _ = _
                                        simp only [Act.put, List.setIfInBounds_toArray, List.set_cons_zero, List.set_cons_succ, i64_w, i32_w]
                                        rfl
                                      refine one_ (i := 5) (N := some 78) #[true, true, true, true, true, true, false, true, true, true, false, false] rfl rfl (by kernel_rfl) (by decide) (fun K hK => ?_)
                                      refine value_ (w1 := ?_) (v := ?_) (by rfl) rfl ?_ ?_
                                      rotate_left 2
                                      · (go_simp; constructor <;> rfl)
                                      refine hK.out _ _ trivial (fun hHeld => ?_)
                                      clear hK K
                                      refine norm_ ?_ (hJ (Ac, cc, w1.heap.size) _ ⟨Kd.R_alloc HO1.out _, spec_prLists.lit w1 (nx), below_alloc HB1.out _⟩)
                                      simp only [putAll, Act.put, List.setIfInBounds_toArray, List.set_cons_zero, List.set_cons_succ, i64_w, i32_w]
                                    · skip
                                      refine value_ (w1 := ?_) (v := ?_) (by rfl) rfl ?_ ?_
                                      rotate_left 2
                                      · (go_simp; constructor <;> rfl)
                                      refine hK.out _ _ trivial (fun hHeld => ?_)
                                      clear hK K
                                      refine norm_ (a' := ?_) ?_ ?_
                                      rotate_left
                                      · show Act.put _ (some 78) _ = _
                                        simp only [Act.put, List.setIfInBounds_toArray, List.set_cons_zero, List.set_cons_succ, i64_w, i32_w]
                                        rfl
                                      refine one_ (i := 3) (N := some 76) #[true, true, true, true, true, true, false, true, true, true, false, false] rfl rfl (by kernel_rfl) (by decide) (fun K hK => ?_)
                                      refine goes_ Try.func77 (by kernel_rfl) rfl #[.slice (some ⟨g5, 0, none⟩) T5.length c5] (by rfl) rfl rfl (by simp only [List.map_toArray, List.map_cons, List.map_nil]; rfl) ?_
                                      refine (spec_l1Own.calls _ _ T5 T5 _ ((HCUT5.out.2.2.2 _ (Kd.C_alloc (Kd.R_reads' HD.out).2.2 _)).1) HCUT5.out.2.2.1 HOWN5.out).mono ?_
                                      rintro e w1 ⟨vc, rfl, ho, hb⟩
                                      refine ⟨_, rfl, ?_⟩
                                      obtain ⟨Ac, cc, ec⟩ := Kd.R_slice ho
                                      subst ec
                                      have HO1 := Aside0.mk ho
                                      have HB1 := Aside0.mk hb
                                      clear ho hb
                                      refine hK.out _ _ trivial (fun hHeld => ?_)
                                      clear hK K
                                      refine norm_ ?_ (hJ (Ac, cc, wg.heap.size) _ ⟨Kd.R_lower HO1.out (by simp), Kd.C_below (spec_prLists.lit wg (nx)) HB1.out, below_step (below_alloc (Below.refl _ _) _) HB1.out⟩)
                                      simp only [putAll, Act.put, List.setIfInBounds_toArray, List.set_cons_zero, List.set_cons_succ, i64_w, i32_w]
                                  obtain ⟨Ac, cc, g⟩ := s
                                  obtain ⟨ho, hlit, hb⟩ := hF
                                  have HO1 := Aside0.mk ho
                                  have HLI := Aside0.mk hlit
                                  have HB1 := Aside0.mk hb
                                  clear ho hlit hb hHeld
                                  refine norm_ (a' := ?_) ?_ ?_
                                  rotate_left
                                  · simp only [putAll, Act.put, List.setIfInBounds_toArray, List.set_cons_zero, List.set_cons_succ, i64_w, i32_w]
                                    rfl
                                  refine one_ (i := 6) (N := some 79) #[true, true, true, true, true, true, true, true, true, true, false, false] rfl rfl (by kernel_rfl) (by decide) (fun K hK => ?_)
                                  refine Kd.R_append_rows_step (Kd.int .i64) (w0 := wg) wg.heap.size (by rfl) (.tmp 76) (.tmp 78) 25 3 (.int .i64 0) 8 rfl Try.underlying25 info3 rfl (by decide) (by omega) (.slice Ac T5.length cc) T5 [nx] (some ⟨g, 0, none⟩) 1 1 (fun _ => True) (fun _ => False) rfl rfl ?aO ?aR (fun _ _ h => h) (fun _ h => h.elim) ?aF ?aB ?aS ?aL ?_
                                  (case aR => exact HLI.out)
                                  (case aB => exact HB1.out)
                                  (case aF => exact (fun _ _ => trivial))
                                  (case aO => exact HO1.out)
                                  (case aS => exact below_size HB1.out)
                                  (case aL => have := HTL5.out; omega)
                                  intro v2 w2 ho hb hg hat
                                  obtain ⟨A2, c2, e2⟩ := Kd.R_slice ho
                                  subst e2
                                  have HO2 := Aside0.mk ho
                                  have HB2 := Aside0.mk hb
                                  clear ho hb hg hat
                                  refine hK.out _ _ trivial (fun hHeld => ?_)
                                  clear hK K
                                  refine norm_ (a' := ?_) ?_ ?_
                                  rotate_left
                                  · show Act.put _ (some 79) _ = _
                                    simp only [Act.put, List.setIfInBounds_toArray, List.set_cons_zero, List.set_cons_succ, i64_w, i32_w]
                                    rfl
                                  refine one_ (i := 10) (N := some 83) #[true, true, true, true, true, true, true, true, true, true, true, false] rfl rfl (by kernel_rfl) (by decide) (fun K hK => ?_)
                                  refine Kd.R_append_rows_step (Kd.int .i64) (w0 := wg) wg.heap.size (by rfl) (.tmp 79) (.tmp 82) 25 3 (.int .i64 0) 8 rfl Try.underlying25 info3 rfl (by decide) (by omega) (.slice A2 (T5 ++ [nx]).length c2) (T5 ++ [nx]) (E5) B5 (E5).length b5 (fun _ => True) (fun _ => False) rfl rfl ?aO ?aR (fun _ _ h => h) (fun _ h => h.elim) ?aF ?aB ?aS ?aL ?_
                                  (case aR => exact (HCUT5.out.2.2.2 _ (Kd.C_below (Kd.R_reads' HD.out).2.2 HB2.out)).2)
                                  (case aB => exact HB2.out)
                                  (case aF => exact (fun _ _ => trivial))
                                  (case aO => exact HO2.out)
                                  (case aS => exact below_size HB2.out)
                                  (case aL => have := HTL5.out; simp only [List.length_append, List.length_cons, List.length_nil]; omega)
                                  intro v3 w3 ho hb hg hat
                                  obtain ⟨Y15, hY⟩ : ∃ Y, Y = T5 ++ [nx] ++ E5 := ⟨_, rfl⟩
                                  rw [← hY] at ho
                                  have HY15 := Aside0.mk hY
                                  clear hY
                                  obtain ⟨A3, c3, e3⟩ := Kd.R_slice ho
                                  subst e3
                                  have HO3 := Aside0.mk ho
                                  have HB3 := Aside0.mk hb
                                  clear ho hb hg hat
                                  refine hK.out _ _ trivial (fun hHeld => ?_)
                                  clear hK K
                                  refine norm_ (a' := ?_) ?_ ?_
                                  rotate_left
                                  · show Act.put _ (some 83) _ = _
                                    simp only [Act.put, List.setIfInBounds_toArray, List.set_cons_zero, List.set_cons_succ, i64_w, i32_w]
                                    rfl
                                  refine pure_ (i := 11) (N := some 5) (v := ?_) (a' := ?_) #[true, true, true, true, true, true, true, true, true, true, true, true] rfl rfl (by kernel_rfl) (fun _ _ _ h => h) (Or.inl ⟨by rfl, ?_⟩) ?_ ?_
                                  rotate_left
                                  · intro w'
                                    go_simp
                                    with_reducible rfl
                                  rotate_left
                                  · simp only [Act.put, List.setIfInBounds_toArray, List.set_cons_zero, List.set_cons_succ, i64_w, i32_w]
                                    rfl
                                  refine done_ (by kernel_rfl) ?_
                                  have HDN := Aside0.mk (Kd.R_lower (Kd.R_mono (Kd.R_bound HO3.out) (ok' := fun j => some j ≠ (Value.slice (some ⟨g6, 0, none⟩) W.length c6).ownBlock) (fun j hj e => by have h1_ := Kd.R_lt HW.out g6 (by simp [Value.ownBlock]); have h2_ := hj.2.1; simp [Value.ownBlock] at e; omega)) HB.out.size)
                                  have n0_ := Aside0.mk (Kd.R_below HW.out HB3.out)
                                  have n1_ := Aside0.mk (below_step HB.out HB3.out)
                                  clear HD HW HB HO1 HLI HB1 HO2 HB2 HO3 HB3 k1c k2c
                                  have HW := n0_
                                  have HB := n1_
                                  clear n0_ n1_
                                  have hxl := (Kd.R_celln 0 HW.out i HI6.out.1 HI6.out.2).1
                                  rw [show rdOf 0 W i = rd W i from rfl] at hxl
                                  have HXL := Aside0.mk hxl
                                  have p5 : (i < (W.length : Int)) = True := eq_true HI6.out.2
                                  go_upto_region 16 with (fail)
                                  (try simp only [Act.put, List.setIfInBounds_toArray, List.set_cons_zero, List.set_cons_succ])
                                  clear hxl
                                  have n0_ := Aside0.mk (Kd.R_drew HDN.out)
                                  have n1_ := Aside0.mk (Kd.R_drew HW.out)
                                  have n2_ := Aside0.mk (below_drew1 HB.out)
                                  clear HDN
                                  clear HW
                                  clear HB
                                  have HDN := n0_
                                  have HW := n1_
                                  have HB := n2_
                                  clear n0_ n1_ n2_
                                  refine start_ (n := 15) (S := fun w' => w'.cell? ⟨g6, i.toNat, none⟩ = some (.int .i64 (rd W i))) (ds := []) #[false, false, false, false, false, false, false, false, false, false, false, false, false, false, false] (by kernel_rfl) rfl rfl HXL.out (fun hHeld => ?_)
                                  generalize w3.drew = wh at HDN HW HB hHeld ⊢
                                  refine pure_ (i := 0) (N := some 84) (v := ?_) (a' := ?_) #[true, false, false, false, false, false, false, false, false, false, false, false, false, false, false] rfl rfl (by kernel_rfl) (fun _ _ _ h => h) (Or.inl ⟨by rfl, ?_⟩) ?_ ?_
                                  rotate_left
                                  · intro w'
                                    go_simp
                                    with_reducible rfl
                                  rotate_left
                                  · simp only [Act.put, List.setIfInBounds_toArray, List.set_cons_zero, List.set_cons_succ, i64_w, i32_w]
                                    rfl
                                  refine pure_ (i := 1) (N := some 85) (v := ?_) (a' := ?_) #[true, true, false, false, false, false, false, false, false, false, false, false, false, false, false] rfl rfl (by kernel_rfl) (fun _ _ _ h => h) (Or.inl ⟨by rfl, ?_⟩) ?_ ?_
                                  rotate_left
                                  · intro w'
                                    go_simp
                                    with_reducible rfl
                                  rotate_left
                                  · simp only [Act.put, List.setIfInBounds_toArray, List.set_cons_zero, List.set_cons_succ, i64_w, i32_w]
                                    rfl
                                  refine pure_ (i := 2) (N := some 86) (v := ?_) (a' := ?_) #[true, true, true, false, false, false, false, false, false, false, false, false, false, false, false] rfl rfl (by kernel_rfl) (fun _ _ _ h => h) (Or.inl ⟨by rfl, ?_⟩) ?_ ?_
                                  rotate_left
                                  · intro w'
                                    go_simp
                                    with_reducible rfl
                                  rotate_left
                                  · simp only [Act.put, List.setIfInBounds_toArray, List.set_cons_zero, List.set_cons_succ, i64_w, i32_w]
                                    rfl
                                  refine pure_ (i := 4) (N := some 88) (v := ?_) (a' := ?_) #[true, true, true, false, true, false, false, false, false, false, false, false, false, false, false] rfl rfl (by kernel_rfl) (fun _ _ _ h => h) (Or.inl ⟨by rfl, ?_⟩) ?_ ?_
                                  rotate_left
                                  · intro w'
                                    go_simp
                                    with_reducible rfl
                                  rotate_left
                                  · simp only [Act.put, List.setIfInBounds_toArray, List.set_cons_zero, List.set_cons_succ, i64_w, i32_w]
                                    rfl
                                  refine pure_ (i := 5) (N := some 89) (v := ?_) (a' := ?_) #[true, true, true, false, true, true, false, false, false, false, false, false, false, false, false] rfl rfl (by kernel_rfl) (fun _ _ _ h => h) (Or.inl ⟨by rfl, ?_⟩) ?_ ?_
                                  rotate_left
                                  · intro w'
                                    go_simp
                                    with_reducible rfl
                                  rotate_left
                                  · simp only [Act.put, List.setIfInBounds_toArray, List.set_cons_zero, List.set_cons_succ, i64_w, i32_w]
                                    rfl
                                  refine pure_ (i := 6) (N := some 90) (v := ?_) (a' := ?_) #[true, true, true, false, true, true, true, false, false, false, false, false, false, false, false] rfl rfl (by kernel_rfl) (fun _ _ _ h => h) (Or.inl ⟨by rfl, ?_⟩) ?_ ?_
                                  rotate_left
                                  · intro w'
                                    go_simp
                                    with_reducible rfl
                                  rotate_left
                                  · simp only [Act.put, List.setIfInBounds_toArray, List.set_cons_zero, List.set_cons_succ, i64_w, i32_w]
                                    rfl
                                  refine take_ (i := 7) (N := some 91) (v := ?_) (a' := ?_) #[true, true, true, false, true, true, true, true, false, false, false, false, false, false, false] rfl rfl (by kernel_rfl) (fun _ _ _ h => h) (Or.inl ⟨by rfl, ?_⟩) hHeld ?_ ?_
                                  rotate_left
                                  · intro w' hw'
                                    have hr_ := hw'
                                    go_simp
                                    with_reducible rfl
                                  rotate_left
                                  · simp only [Act.put, List.setIfInBounds_toArray, List.set_cons_zero, List.set_cons_succ, i64_w, i32_w]
                                    rfl
                                  refine pure_ (i := 10) (N := some 94) (v := ?_) (a' := ?_) #[true, true, true, false, true, true, true, true, false, false, true, false, false, false, false] rfl rfl (by kernel_rfl) (fun _ _ _ h => h) (Or.inl ⟨by rfl, ?_⟩) ?_ ?_
                                  rotate_left
                                  · intro w'
                                    go_simp
                                    with_reducible rfl
                                  rotate_left
                                  · simp only [Act.put, List.setIfInBounds_toArray, List.set_cons_zero, List.set_cons_succ, i64_w, i32_w]
                                    rfl
                                  refine pure_ (i := 11) (N := some 95) (v := ?_) (a' := ?_) #[true, true, true, false, true, true, true, true, false, false, true, true, false, false, false] rfl rfl (by kernel_rfl) (fun _ _ _ h => h) (Or.inl ⟨by rfl, ?_⟩) ?_ ?_
                                  rotate_left
                                  · intro w'
                                    go_simp
                                    with_reducible rfl
                                  rotate_left
                                  · simp only [Act.put, List.setIfInBounds_toArray, List.set_cons_zero, List.set_cons_succ, i64_w, i32_w]
                                    rfl
                                  refine pure_ (i := 12) (N := some 96) (v := ?_) (a' := ?_) #[true, true, true, false, true, true, true, true, false, false, true, true, true, false, false] rfl rfl (by kernel_rfl) (fun _ _ _ h => h) (Or.inl ⟨by rfl, ?_⟩) ?_ ?_
                                  rotate_left
                                  · intro w'
                                    go_simp
                                    with_reducible rfl
                                  rotate_left
                                  · simp only [Act.put, List.setIfInBounds_toArray, List.set_cons_zero, List.set_cons_succ, i64_w, i32_w]
                                    rfl
                                  refine join_ (σ := Option Addr × Nat × Nat) 3 #[true, true, true, true, true, true, true, true, true, false, true, true, true, false, false] (fun s => [(87, .slice s.1 T6.length s.2.1), (92, .slice (some ⟨s.2.2, 0, none⟩) 1 1)]) (fun s w' => Kd.R (Kd.int .i64) 3 w' wh.heap.size (fun _ => True) (.slice s.1 T6.length s.2.1) T6 ∧ Kd.C (Kd.int .i64) w' (some ⟨s.2.2, 0, none⟩) 1 [rd W i] ∧ Below wh.heap.size wh w') (fun s w' hF => ?_) (fun hJ => ?_)
                                  rotate_left
                                  · refine two_ (i := 3) (j := 8) (Ni := some 87) (Nj := some 92) #[true, true, true, true, true, true, true, true, false, false, true, true, true, false, false] #[true, true, true, false, true, true, true, true, true, false, true, true, true, false, false] rfl rfl rfl rfl (by kernel_rfl) (by decide) (by decide) (fun K hK => ?_) (fun K hK => ?_)
                                    · skip
                                      refine goes_ Try.func77 (by kernel_rfl) rfl #[.slice (some ⟨g6, 0, none⟩) T6.length c6] (by rfl) rfl rfl (by simp only [List.map_toArray, List.map_cons, List.map_nil]; rfl) ?_
                                      refine (spec_l1Own.calls _ _ T6 T6 _ ((HCUT6.out.2.2.2 _ (Kd.R_reads' HW.out).2.2).1) HCUT6.out.2.2.1 HOWN6.out).mono ?_
                                      rintro e w1 ⟨vc, rfl, ho, hb⟩
                                      refine ⟨_, rfl, ?_⟩
                                      obtain ⟨Ac, cc, ec⟩ := Kd.R_slice ho
                                      subst ec
                                      have HH_ := Aside0.mk (pw_cell_below hb hHeld)
                                      have HO1 := Aside0.mk ho
                                      have HB1 := Aside0.mk hb
                                      clear ho hb
                                      refine hK.out _ _ HH_.out (fun hHeld => ?_)
                                      clear hK K
                                      refine norm_ (a' := ?_) ?_ ?_
                                      rotate_left
                                      · show Act.put _ (some 87) _ = _
                                        simp only [Act.put, List.setIfInBounds_toArray, List.set_cons_zero, List.set_cons_succ, i64_w, i32_w]
                                        rfl
                                      refine one_ (i := 8) (N := some 92) #[true, true, true, true, true, true, true, true, true, false, true, true, true, false, false] rfl rfl (by kernel_rfl) (by decide) (fun K hK => ?_)
                                      refine value_ (w1 := ?_) (v := ?_) (by rfl) rfl ?_ ?_
                                      rotate_left 2
                                      · (go_simp; constructor <;> rfl)
                                      have HH_ := Aside0.mk (pw_cell_below (below_alloc (Below.refl _ w1) (.cells #[.int .i64 (rd W i)] 3)) HH_.out)
                                      refine hK.out _ _ HH_.out (fun hHeld => ?_)
                                      clear hK K
                                      refine norm_ ?_ (hJ (Ac, cc, w1.heap.size) _ ⟨Kd.R_alloc HO1.out _, spec_prLists.lit w1 (rd W i), below_alloc HB1.out _⟩)
                                      simp only [putAll, Act.put, List.setIfInBounds_toArray, List.set_cons_zero, List.set_cons_succ, i64_w, i32_w]
                                    · skip
                                      refine value_ (w1 := ?_) (v := ?_) (by rfl) rfl ?_ ?_
                                      rotate_left 2
                                      · (go_simp; constructor <;> rfl)
                                      have HH_ := Aside0.mk (pw_cell_below (below_alloc (Below.refl _ wh) (.cells #[.int .i64 (rd W i)] 3)) hHeld)
                                      refine hK.out _ _ HH_.out (fun hHeld => ?_)
                                      clear hK K
                                      refine norm_ (a' := ?_) ?_ ?_
                                      rotate_left
                                      · show Act.put _ (some 92) _ = _
                                        simp only [Act.put, List.setIfInBounds_toArray, List.set_cons_zero, List.set_cons_succ, i64_w, i32_w]
                                        rfl
                                      refine one_ (i := 3) (N := some 87) #[true, true, true, true, true, true, true, true, true, false, true, true, true, false, false] rfl rfl (by kernel_rfl) (by decide) (fun K hK => ?_)
                                      refine goes_ Try.func77 (by kernel_rfl) rfl #[.slice (some ⟨g6, 0, none⟩) T6.length c6] (by rfl) rfl rfl (by simp only [List.map_toArray, List.map_cons, List.map_nil]; rfl) ?_
                                      refine (spec_l1Own.calls _ _ T6 T6 _ ((HCUT6.out.2.2.2 _ (Kd.C_alloc (Kd.R_reads' HW.out).2.2 _)).1) HCUT6.out.2.2.1 HOWN6.out).mono ?_
                                      rintro e w1 ⟨vc, rfl, ho, hb⟩
                                      refine ⟨_, rfl, ?_⟩
                                      obtain ⟨Ac, cc, ec⟩ := Kd.R_slice ho
                                      subst ec
                                      have HH_ := Aside0.mk (pw_cell_below hb HH_.out)
                                      have HO1 := Aside0.mk ho
                                      have HB1 := Aside0.mk hb
                                      clear ho hb
                                      refine hK.out _ _ HH_.out (fun hHeld => ?_)
                                      clear hK K
                                      refine norm_ ?_ (hJ (Ac, cc, wh.heap.size) _ ⟨Kd.R_lower HO1.out (by simp), Kd.C_below (spec_prLists.lit wh (rd W i)) HB1.out, below_step (below_alloc (Below.refl _ _) _) HB1.out⟩)
                                      simp only [putAll, Act.put, List.setIfInBounds_toArray, List.set_cons_zero, List.set_cons_succ, i64_w, i32_w]
                                  obtain ⟨Ac, cc, g⟩ := s
                                  obtain ⟨ho, hlit, hb⟩ := hF
                                  have HHg := Aside0.mk hHeld
                                  have HO1 := Aside0.mk ho
                                  have HLI := Aside0.mk hlit
                                  have HB1 := Aside0.mk hb
                                  clear ho hlit hb hHeld
                                  refine norm_ (a' := ?_) ?_ ?_
                                  rotate_left
                                  · simp only [putAll, Act.put, List.setIfInBounds_toArray, List.set_cons_zero, List.set_cons_succ, i64_w, i32_w]
                                    rfl
                                  refine one_ (i := 9) (N := some 93) #[true, true, true, true, true, true, true, true, true, true, true, true, true, false, false] rfl rfl (by kernel_rfl) (by decide) (fun K hK => ?_)
                                  refine Kd.R_append_rows_step (Kd.int .i64) (w0 := wh) wh.heap.size (by rfl) (.tmp 87) (.tmp 92) 25 3 (.int .i64 0) 8 rfl Try.underlying25 info3 rfl (by decide) (by omega) (.slice Ac T6.length cc) T6 [rd W i] (some ⟨g, 0, none⟩) 1 1 (fun _ => True) (fun _ => False) rfl rfl ?aO ?aR (fun _ _ h => h) (fun _ h => h.elim) ?aF ?aB ?aS ?aL ?_
                                  (case aR => exact HLI.out)
                                  (case aB => exact HB1.out)
                                  (case aF => exact (fun _ _ => trivial))
                                  (case aO => exact HO1.out)
                                  (case aS => exact below_size HB1.out)
                                  (case aL => have := HTL6.out; omega)
                                  intro v2 w2 ho hb hg hat
                                  obtain ⟨A2, c2, e2⟩ := Kd.R_slice ho
                                  subst e2
                                  have HH_ := Aside0.mk (pw_cell_below hb HHg.out)
                                  have HO2 := Aside0.mk ho
                                  have HB2 := Aside0.mk hb
                                  clear ho hb hg hat
                                  refine hK.out _ _ HH_.out (fun hHeld => ?_)
                                  clear hK K
                                  refine norm_ (a' := ?_) ?_ ?_
                                  rotate_left
                                  · show Act.put _ (some 93) _ = _
                                    simp only [Act.put, List.setIfInBounds_toArray, List.set_cons_zero, List.set_cons_succ, i64_w, i32_w]
                                    rfl
                                  refine one_ (i := 13) (N := some 97) #[true, true, true, true, true, true, true, true, true, true, true, true, true, true, false] rfl rfl (by kernel_rfl) (by decide) (fun K hK => ?_)
                                  refine Kd.R_append_rows_step (Kd.int .i64) (w0 := wh) wh.heap.size (by rfl) (.tmp 93) (.tmp 96) 25 3 (.int .i64 0) 8 rfl Try.underlying25 info3 rfl (by decide) (by omega) (.slice A2 (T6 ++ [rd W i]).length c2) (T6 ++ [rd W i]) (E6) B6 (E6).length b6 (fun _ => True) (fun _ => False) rfl rfl ?aO ?aR (fun _ _ h => h) (fun _ h => h.elim) ?aF ?aB ?aS ?aL ?_
                                  (case aR => exact (HCUT6.out.2.2.2 _ (Kd.C_below (Kd.R_reads' HW.out).2.2 HB2.out)).2)
                                  (case aB => exact HB2.out)
                                  (case aF => exact (fun _ _ => trivial))
                                  (case aO => exact HO2.out)
                                  (case aS => exact below_size HB2.out)
                                  (case aL => have := HTL6.out; simp only [List.length_append, List.length_cons, List.length_nil]; omega)
                                  intro v3 w3 ho hb hg hat
                                  obtain ⟨Y16, hY⟩ : ∃ Y, Y = T6 ++ [rd W i] ++ E6 := ⟨_, rfl⟩
                                  rw [← hY] at ho
                                  have HY16 := Aside0.mk hY
                                  clear hY
                                  obtain ⟨A3, c3, e3⟩ := Kd.R_slice ho
                                  subst e3
                                  have HH_ := Aside0.mk (pw_cell_below hb HHg.out)
                                  have HO3 := Aside0.mk ho
                                  have HB3 := Aside0.mk hb
                                  clear ho hb hg hat
                                  refine hK.out _ _ HH_.out (fun hHeld => ?_)
                                  clear hK K
                                  refine norm_ (a' := ?_) ?_ ?_
                                  rotate_left
                                  · show Act.put _ (some 97) _ = _
                                    simp only [Act.put, List.setIfInBounds_toArray, List.set_cons_zero, List.set_cons_succ, i64_w, i32_w]
                                    rfl
                                  refine pure_ (i := 14) (N := some 6) (v := ?_) (a' := ?_) #[true, true, true, true, true, true, true, true, true, true, true, true, true, true, true] rfl rfl (by kernel_rfl) (fun _ _ _ h => h) (Or.inl ⟨by rfl, ?_⟩) ?_ ?_
                                  rotate_left
                                  · intro w'
                                    go_simp
                                    with_reducible rfl
                                  rotate_left
                                  · simp only [Act.put, List.setIfInBounds_toArray, List.set_cons_zero, List.set_cons_succ, i64_w, i32_w]
                                    rfl
                                  refine done_ (by kernel_rfl) ?_
                                  try go_wp2
                                  go_roundg k2
                                  case measure => have := HK2.out; omega
                                  case rel => exact ⟨Y15, Y16, d + 1, by first | rfl | (simp; exact e24), ⟨by rw [HY15.out, HY16.out]; exact HE4.out⟩, ⟨by have := HK2.out; omega⟩, ⟨Kd.R_mono (Kd.R_below (Kd.R_bound HDN.out) HB3.out) (fun j hj e => by have h1_ := Kd.R_base HO3.out j e.symm; have h2_ := hj.2.2.1; omega)⟩, ⟨Kd.R_lower (Kd.R_mono (Kd.R_bound HO3.out) (fun j hj e => by have h1_ := Kd.R_lt HDN.out j e.symm; have h2_ := hj.2.1; omega)) HB.out.size⟩, ⟨below_step HB.out HB3.out⟩⟩
                            · rw [if_neg r2] at H
                              cases H
                          · rw [if_neg r1] at H
                            obtain rfl := Option.some.inj H
                            have HE3 := HE2.out
                            rw [if_neg (fun h => r1 h.1)] at HE3
                            have HE4 := Aside0.mk HE3
                            have r1b : decide (a < (D.length : Int)) = false := decide_eq_false r1
                            clear r1 H HE3
                            have hq6 := HQ6.out
                            obtain ⟨B5, b5, T5, E5, hT5, hE5, k1c, k2c, k3c, k4c⟩ := spec_prLists.cuts (A := some ⟨g5, 0, none⟩) (c := c5) D a hq6.1 hq6.2 (Kd.R_reads' HD.out).2.1
                            obtain ⟨B6, b6, T6, E6, hT6, hE6, m1c, m2c, m3c, m4c⟩ := spec_prLists.cuts (A := some ⟨g6, 0, none⟩) (c := c6) W a hq6.1 (by omega) (Kd.R_reads' HW.out).2.1
                            rw [← hT5, ← hE5, ← hT6, ← hE6] at HE4
                            have HTL5 : Aside0 (T5.length ≤ 1000000000 ∧ E5.length ≤ 1000000000) := ⟨by rw [hT5, hE5, List.length_take, List.length_drop]; omega⟩
                            have HTL6 : Aside0 (T6.length ≤ 1000000000 ∧ E6.length ≤ 1000000000) := ⟨by rw [hT6, hE6, List.length_take, List.length_drop]; omega⟩
                            clear hT5 hE5 hT6 hE6
                            have HCUT5 : Aside0 (True ∧ True ∧ T5.length ≤ c5 ∧ ∀ W_ : World, Kd.C (Kd.int .i64) W_ (some ⟨g5, 0, none⟩) D.length D → Kd.C (Kd.int .i64) W_ (some ⟨g5, 0, none⟩) T5.length T5 ∧ Kd.C (Kd.int .i64) W_ B5 E5.length E5) := ⟨⟨trivial, trivial, k3c, k4c⟩⟩
                            have HCUT6 : Aside0 (True ∧ True ∧ T6.length ≤ c6 ∧ ∀ W_ : World, Kd.C (Kd.int .i64) W_ (some ⟨g6, 0, none⟩) W.length W → Kd.C (Kd.int .i64) W_ (some ⟨g6, 0, none⟩) T6.length T6 ∧ Kd.C (Kd.int .i64) W_ B6 E6.length E6) := ⟨⟨trivial, trivial, m3c, m4c⟩⟩
                            have HOWN5 := Aside0.mk (spec_prLists.own T5 HTL5.out.1)
                            have HOWN6 := Aside0.mk (spec_prLists.own T6 HTL6.out.1)
                            have HI6 : Aside0 (0 ≤ i ∧ i < (W.length : Int)) := ⟨by omega⟩
                            clear o1 o2 o3 o4 o5 o6 o7 o8 hq6 k3c k4c m3c m4c
                            go_upto_region 15 with (fail)
                            (try simp only [Act.put, List.setIfInBounds_toArray, List.set_cons_zero, List.set_cons_succ])
                            try clear hxa hfa
                            have n0_ := Aside0.mk (Kd.R_drew HD.out)
                            have n1_ := Aside0.mk (Kd.R_drew HW.out)
                            have n2_ := Aside0.mk (below_drew1 HB.out)
                            clear HD
                            clear HW
                            clear HB
                            have HD := n0_
                            have HW := n1_
                            have HB := n2_
                            clear n0_ n1_ n2_
                            refine start_ (n := 12) (S := fun w' => True) (ds := []) #[false, false, false, false, false, false, false, false, false, false, false, false] (by kernel_rfl) rfl rfl trivial (fun hHeld => ?_)
                            generalize wr.drew = wg at HD HW HB hHeld ⊢
                            refine pure_ (i := 0) (N := some 73) (v := ?_) (a' := ?_) #[true, false, false, false, false, false, false, false, false, false, false, false] rfl rfl (by kernel_rfl) (fun _ _ _ h => h) (Or.inl ⟨by rfl, ?_⟩) ?_ ?_
                            rotate_left
                            · intro w'
                              go_simp
                              with_reducible rfl
                            rotate_left
                            · simp only [Act.put, List.setIfInBounds_toArray, List.set_cons_zero, List.set_cons_succ, i64_w, i32_w]
                              rfl
                            refine pure_ (i := 1) (N := some 74) (v := ?_) (a' := ?_) #[true, true, false, false, false, false, false, false, false, false, false, false] rfl rfl (by kernel_rfl) (fun _ _ _ h => h) (Or.inl ⟨by rfl, ?_⟩) ?_ ?_
                            rotate_left
                            · intro w'
                              go_simp
                              with_reducible rfl
                            rotate_left
                            · simp only [Act.put, List.setIfInBounds_toArray, List.set_cons_zero, List.set_cons_succ, i64_w, i32_w]
                              rfl
                            refine pure_ (i := 2) (N := some 75) (v := ?_) (a' := ?_) #[true, true, true, false, false, false, false, false, false, false, false, false] rfl rfl (by kernel_rfl) (fun _ _ _ h => h) (Or.inl ⟨by rfl, ?_⟩) ?_ ?_
                            rotate_left
                            · intro w'
                              go_simp
                              with_reducible rfl
                            rotate_left
                            · simp only [Act.put, List.setIfInBounds_toArray, List.set_cons_zero, List.set_cons_succ, i64_w, i32_w]
                              rfl
                            refine pure_ (i := 4) (N := some 77) (v := ?_) (a' := ?_) #[true, true, true, false, true, false, false, false, false, false, false, false] rfl rfl (by kernel_rfl) (fun _ _ _ h => h) (Or.inl ⟨by rfl, ?_⟩) ?_ ?_
                            rotate_left
                            · intro w'
                              go_simp
                              with_reducible rfl
                            rotate_left
                            · simp only [Act.put, List.setIfInBounds_toArray, List.set_cons_zero, List.set_cons_succ, i64_w, i32_w]
                              rfl
                            refine pure_ (i := 7) (N := some 80) (v := ?_) (a' := ?_) #[true, true, true, false, true, false, false, true, false, false, false, false] rfl rfl (by kernel_rfl) (fun _ _ _ h => h) (Or.inl ⟨by rfl, ?_⟩) ?_ ?_
                            rotate_left
                            · intro w'
                              go_simp
                              with_reducible rfl
                            rotate_left
                            · simp only [Act.put, List.setIfInBounds_toArray, List.set_cons_zero, List.set_cons_succ, i64_w, i32_w]
                              rfl
                            refine pure_ (i := 8) (N := some 81) (v := ?_) (a' := ?_) #[true, true, true, false, true, false, false, true, true, false, false, false] rfl rfl (by kernel_rfl) (fun _ _ _ h => h) (Or.inl ⟨by rfl, ?_⟩) ?_ ?_
                            rotate_left
                            · intro w'
                              go_simp
                              with_reducible rfl
                            rotate_left
                            · simp only [Act.put, List.setIfInBounds_toArray, List.set_cons_zero, List.set_cons_succ, i64_w, i32_w]
                              rfl
                            refine pure_ (i := 9) (N := some 82) (v := ?_) (a' := ?_) #[true, true, true, false, true, false, false, true, true, true, false, false] rfl rfl (by kernel_rfl) (fun _ _ _ h => h) (Or.inl ⟨by rfl, ?_⟩) ?_ ?_
                            rotate_left
                            · intro w'
                              go_simp
                              with_reducible rfl
                            rotate_left
                            · simp only [Act.put, List.setIfInBounds_toArray, List.set_cons_zero, List.set_cons_succ, i64_w, i32_w]
                              rfl
                            refine join_ (σ := Option Addr × Nat × Nat) 3 #[true, true, true, true, true, true, false, true, true, true, false, false] (fun s => [(76, .slice s.1 T5.length s.2.1), (78, .slice (some ⟨s.2.2, 0, none⟩) 1 1)]) (fun s w' => Kd.R (Kd.int .i64) 3 w' wg.heap.size (fun _ => True) (.slice s.1 T5.length s.2.1) T5 ∧ Kd.C (Kd.int .i64) w' (some ⟨s.2.2, 0, none⟩) 1 [nx] ∧ Below wg.heap.size wg w') (fun s w' hF => ?_) (fun hJ => ?_)
                            rotate_left
                            · refine two_ (i := 3) (j := 5) (Ni := some 76) (Nj := some 78) #[true, true, true, true, true, false, false, true, true, true, false, false] #[true, true, true, false, true, true, false, true, true, true, false, false] rfl rfl rfl rfl (by kernel_rfl) (by decide) (by decide) (fun K hK => ?_) (fun K hK => ?_)
                              · skip
                                refine goes_ Try.func77 (by kernel_rfl) rfl #[.slice (some ⟨g5, 0, none⟩) T5.length c5] (by rfl) rfl rfl (by simp only [List.map_toArray, List.map_cons, List.map_nil]; rfl) ?_
                                refine (spec_l1Own.calls _ _ T5 T5 _ ((HCUT5.out.2.2.2 _ (Kd.R_reads' HD.out).2.2).1) HCUT5.out.2.2.1 HOWN5.out).mono ?_
                                rintro e w1 ⟨vc, rfl, ho, hb⟩
                                refine ⟨_, rfl, ?_⟩
                                obtain ⟨Ac, cc, ec⟩ := Kd.R_slice ho
                                subst ec
                                have HO1 := Aside0.mk ho
                                have HB1 := Aside0.mk hb
                                clear ho hb
                                refine hK.out _ _ trivial (fun hHeld => ?_)
                                clear hK K
                                refine norm_ (a' := ?_) ?_ ?_
                                rotate_left
                                · show Act.put _ (some 76) _ = _
                                  simp only [Act.put, List.setIfInBounds_toArray, List.set_cons_zero, List.set_cons_succ, i64_w, i32_w]
                                  rfl
                                refine one_ (i := 5) (N := some 78) #[true, true, true, true, true, true, false, true, true, true, false, false] rfl rfl (by kernel_rfl) (by decide) (fun K hK => ?_)
                                refine value_ (w1 := ?_) (v := ?_) (by rfl) rfl ?_ ?_
                                rotate_left 2
                                · (go_simp; constructor <;> rfl)
                                refine hK.out _ _ trivial (fun hHeld => ?_)
                                clear hK K
                                refine norm_ ?_ (hJ (Ac, cc, w1.heap.size) _ ⟨Kd.R_alloc HO1.out _, spec_prLists.lit w1 (nx), below_alloc HB1.out _⟩)
                                simp only [putAll, Act.put, List.setIfInBounds_toArray, List.set_cons_zero, List.set_cons_succ, i64_w, i32_w]
                              · skip
                                refine value_ (w1 := ?_) (v := ?_) (by rfl) rfl ?_ ?_
                                rotate_left 2
                                · (go_simp; constructor <;> rfl)
                                refine hK.out _ _ trivial (fun hHeld => ?_)
                                clear hK K
                                refine norm_ (a' := ?_) ?_ ?_
                                rotate_left
                                · show Act.put _ (some 78) _ = _
                                  simp only [Act.put, List.setIfInBounds_toArray, List.set_cons_zero, List.set_cons_succ, i64_w, i32_w]
                                  rfl
                                refine one_ (i := 3) (N := some 76) #[true, true, true, true, true, true, false, true, true, true, false, false] rfl rfl (by kernel_rfl) (by decide) (fun K hK => ?_)
                                refine goes_ Try.func77 (by kernel_rfl) rfl #[.slice (some ⟨g5, 0, none⟩) T5.length c5] (by rfl) rfl rfl (by simp only [List.map_toArray, List.map_cons, List.map_nil]; rfl) ?_
                                refine (spec_l1Own.calls _ _ T5 T5 _ ((HCUT5.out.2.2.2 _ (Kd.C_alloc (Kd.R_reads' HD.out).2.2 _)).1) HCUT5.out.2.2.1 HOWN5.out).mono ?_
                                rintro e w1 ⟨vc, rfl, ho, hb⟩
                                refine ⟨_, rfl, ?_⟩
                                obtain ⟨Ac, cc, ec⟩ := Kd.R_slice ho
                                subst ec
                                have HO1 := Aside0.mk ho
                                have HB1 := Aside0.mk hb
                                clear ho hb
                                refine hK.out _ _ trivial (fun hHeld => ?_)
                                clear hK K
                                refine norm_ ?_ (hJ (Ac, cc, wg.heap.size) _ ⟨Kd.R_lower HO1.out (by simp), Kd.C_below (spec_prLists.lit wg (nx)) HB1.out, below_step (below_alloc (Below.refl _ _) _) HB1.out⟩)
                                simp only [putAll, Act.put, List.setIfInBounds_toArray, List.set_cons_zero, List.set_cons_succ, i64_w, i32_w]
                            obtain ⟨Ac, cc, g⟩ := s
                            obtain ⟨ho, hlit, hb⟩ := hF
                            have HO1 := Aside0.mk ho
                            have HLI := Aside0.mk hlit
                            have HB1 := Aside0.mk hb
                            clear ho hlit hb hHeld
                            refine norm_ (a' := ?_) ?_ ?_
                            rotate_left
                            · simp only [putAll, Act.put, List.setIfInBounds_toArray, List.set_cons_zero, List.set_cons_succ, i64_w, i32_w]
                              rfl
                            refine one_ (i := 6) (N := some 79) #[true, true, true, true, true, true, true, true, true, true, false, false] rfl rfl (by kernel_rfl) (by decide) (fun K hK => ?_)
                            refine Kd.R_append_rows_step (Kd.int .i64) (w0 := wg) wg.heap.size (by rfl) (.tmp 76) (.tmp 78) 25 3 (.int .i64 0) 8 rfl Try.underlying25 info3 rfl (by decide) (by omega) (.slice Ac T5.length cc) T5 [nx] (some ⟨g, 0, none⟩) 1 1 (fun _ => True) (fun _ => False) rfl rfl ?aO ?aR (fun _ _ h => h) (fun _ h => h.elim) ?aF ?aB ?aS ?aL ?_
                            (case aR => exact HLI.out)
                            (case aB => exact HB1.out)
                            (case aF => exact (fun _ _ => trivial))
                            (case aO => exact HO1.out)
                            (case aS => exact below_size HB1.out)
                            (case aL => have := HTL5.out; omega)
                            intro v2 w2 ho hb hg hat
                            obtain ⟨A2, c2, e2⟩ := Kd.R_slice ho
                            subst e2
                            have HO2 := Aside0.mk ho
                            have HB2 := Aside0.mk hb
                            clear ho hb hg hat
                            refine hK.out _ _ trivial (fun hHeld => ?_)
                            clear hK K
                            refine norm_ (a' := ?_) ?_ ?_
                            rotate_left
                            · show Act.put _ (some 79) _ = _
                              simp only [Act.put, List.setIfInBounds_toArray, List.set_cons_zero, List.set_cons_succ, i64_w, i32_w]
                              rfl
                            refine one_ (i := 10) (N := some 83) #[true, true, true, true, true, true, true, true, true, true, true, false] rfl rfl (by kernel_rfl) (by decide) (fun K hK => ?_)
                            refine Kd.R_append_rows_step (Kd.int .i64) (w0 := wg) wg.heap.size (by rfl) (.tmp 79) (.tmp 82) 25 3 (.int .i64 0) 8 rfl Try.underlying25 info3 rfl (by decide) (by omega) (.slice A2 (T5 ++ [nx]).length c2) (T5 ++ [nx]) (E5) B5 (E5).length b5 (fun _ => True) (fun _ => False) rfl rfl ?aO ?aR (fun _ _ h => h) (fun _ h => h.elim) ?aF ?aB ?aS ?aL ?_
                            (case aR => exact (HCUT5.out.2.2.2 _ (Kd.C_below (Kd.R_reads' HD.out).2.2 HB2.out)).2)
                            (case aB => exact HB2.out)
                            (case aF => exact (fun _ _ => trivial))
                            (case aO => exact HO2.out)
                            (case aS => exact below_size HB2.out)
                            (case aL => have := HTL5.out; simp only [List.length_append, List.length_cons, List.length_nil]; omega)
                            intro v3 w3 ho hb hg hat
                            obtain ⟨Y15, hY⟩ : ∃ Y, Y = T5 ++ [nx] ++ E5 := ⟨_, rfl⟩
                            rw [← hY] at ho
                            have HY15 := Aside0.mk hY
                            clear hY
                            obtain ⟨A3, c3, e3⟩ := Kd.R_slice ho
                            subst e3
                            have HO3 := Aside0.mk ho
                            have HB3 := Aside0.mk hb
                            clear ho hb hg hat
                            refine hK.out _ _ trivial (fun hHeld => ?_)
                            clear hK K
                            refine norm_ (a' := ?_) ?_ ?_
                            rotate_left
                            · show Act.put _ (some 83) _ = _
                              simp only [Act.put, List.setIfInBounds_toArray, List.set_cons_zero, List.set_cons_succ, i64_w, i32_w]
                              rfl
                            refine pure_ (i := 11) (N := some 5) (v := ?_) (a' := ?_) #[true, true, true, true, true, true, true, true, true, true, true, true] rfl rfl (by kernel_rfl) (fun _ _ _ h => h) (Or.inl ⟨by rfl, ?_⟩) ?_ ?_
                            rotate_left
                            · intro w'
                              go_simp
                              with_reducible rfl
                            rotate_left
                            · simp only [Act.put, List.setIfInBounds_toArray, List.set_cons_zero, List.set_cons_succ, i64_w, i32_w]
                              rfl
                            refine done_ (by kernel_rfl) ?_
                            have HDN := Aside0.mk (Kd.R_lower (Kd.R_mono (Kd.R_bound HO3.out) (ok' := fun j => some j ≠ (Value.slice (some ⟨g6, 0, none⟩) W.length c6).ownBlock) (fun j hj e => by have h1_ := Kd.R_lt HW.out g6 (by simp [Value.ownBlock]); have h2_ := hj.2.1; simp [Value.ownBlock] at e; omega)) HB.out.size)
                            have n0_ := Aside0.mk (Kd.R_below HW.out HB3.out)
                            have n1_ := Aside0.mk (below_step HB.out HB3.out)
                            clear HD HW HB HO1 HLI HB1 HO2 HB2 HO3 HB3 k1c k2c
                            have HW := n0_
                            have HB := n1_
                            clear n0_ n1_
                            have hxl := (Kd.R_celln 0 HW.out i HI6.out.1 HI6.out.2).1
                            rw [show rdOf 0 W i = rd W i from rfl] at hxl
                            have HXL := Aside0.mk hxl
                            have p5 : (i < (W.length : Int)) = True := eq_true HI6.out.2
                            go_upto_region 16 with (fail)
                            (try simp only [Act.put, List.setIfInBounds_toArray, List.set_cons_zero, List.set_cons_succ])
                            clear hxl
                            have n0_ := Aside0.mk (Kd.R_drew HDN.out)
                            have n1_ := Aside0.mk (Kd.R_drew HW.out)
                            have n2_ := Aside0.mk (below_drew1 HB.out)
                            clear HDN
                            clear HW
                            clear HB
                            have HDN := n0_
                            have HW := n1_
                            have HB := n2_
                            clear n0_ n1_ n2_
                            refine start_ (n := 15) (S := fun w' => w'.cell? ⟨g6, i.toNat, none⟩ = some (.int .i64 (rd W i))) (ds := []) #[false, false, false, false, false, false, false, false, false, false, false, false, false, false, false] (by kernel_rfl) rfl rfl HXL.out (fun hHeld => ?_)
                            generalize w3.drew = wh at HDN HW HB hHeld ⊢
                            refine pure_ (i := 0) (N := some 84) (v := ?_) (a' := ?_) #[true, false, false, false, false, false, false, false, false, false, false, false, false, false, false] rfl rfl (by kernel_rfl) (fun _ _ _ h => h) (Or.inl ⟨by rfl, ?_⟩) ?_ ?_
                            rotate_left
                            · intro w'
                              go_simp
                              with_reducible rfl
                            rotate_left
                            · simp only [Act.put, List.setIfInBounds_toArray, List.set_cons_zero, List.set_cons_succ, i64_w, i32_w]
                              rfl
                            refine pure_ (i := 1) (N := some 85) (v := ?_) (a' := ?_) #[true, true, false, false, false, false, false, false, false, false, false, false, false, false, false] rfl rfl (by kernel_rfl) (fun _ _ _ h => h) (Or.inl ⟨by rfl, ?_⟩) ?_ ?_
                            rotate_left
                            · intro w'
                              go_simp
                              with_reducible rfl
                            rotate_left
                            · simp only [Act.put, List.setIfInBounds_toArray, List.set_cons_zero, List.set_cons_succ, i64_w, i32_w]
                              rfl
                            refine pure_ (i := 2) (N := some 86) (v := ?_) (a' := ?_) #[true, true, true, false, false, false, false, false, false, false, false, false, false, false, false] rfl rfl (by kernel_rfl) (fun _ _ _ h => h) (Or.inl ⟨by rfl, ?_⟩) ?_ ?_
                            rotate_left
                            · intro w'
                              go_simp
                              with_reducible rfl
                            rotate_left
                            · simp only [Act.put, List.setIfInBounds_toArray, List.set_cons_zero, List.set_cons_succ, i64_w, i32_w]
                              rfl
                            refine pure_ (i := 4) (N := some 88) (v := ?_) (a' := ?_) #[true, true, true, false, true, false, false, false, false, false, false, false, false, false, false] rfl rfl (by kernel_rfl) (fun _ _ _ h => h) (Or.inl ⟨by rfl, ?_⟩) ?_ ?_
                            rotate_left
                            · intro w'
                              go_simp
                              with_reducible rfl
                            rotate_left
                            · simp only [Act.put, List.setIfInBounds_toArray, List.set_cons_zero, List.set_cons_succ, i64_w, i32_w]
                              rfl
                            refine pure_ (i := 5) (N := some 89) (v := ?_) (a' := ?_) #[true, true, true, false, true, true, false, false, false, false, false, false, false, false, false] rfl rfl (by kernel_rfl) (fun _ _ _ h => h) (Or.inl ⟨by rfl, ?_⟩) ?_ ?_
                            rotate_left
                            · intro w'
                              go_simp
                              with_reducible rfl
                            rotate_left
                            · simp only [Act.put, List.setIfInBounds_toArray, List.set_cons_zero, List.set_cons_succ, i64_w, i32_w]
                              rfl
                            refine pure_ (i := 6) (N := some 90) (v := ?_) (a' := ?_) #[true, true, true, false, true, true, true, false, false, false, false, false, false, false, false] rfl rfl (by kernel_rfl) (fun _ _ _ h => h) (Or.inl ⟨by rfl, ?_⟩) ?_ ?_
                            rotate_left
                            · intro w'
                              go_simp
                              with_reducible rfl
                            rotate_left
                            · simp only [Act.put, List.setIfInBounds_toArray, List.set_cons_zero, List.set_cons_succ, i64_w, i32_w]
                              rfl
                            refine take_ (i := 7) (N := some 91) (v := ?_) (a' := ?_) #[true, true, true, false, true, true, true, true, false, false, false, false, false, false, false] rfl rfl (by kernel_rfl) (fun _ _ _ h => h) (Or.inl ⟨by rfl, ?_⟩) hHeld ?_ ?_
                            rotate_left
                            · intro w' hw'
                              have hr_ := hw'
                              go_simp
                              with_reducible rfl
                            rotate_left
                            · simp only [Act.put, List.setIfInBounds_toArray, List.set_cons_zero, List.set_cons_succ, i64_w, i32_w]
                              rfl
                            refine pure_ (i := 10) (N := some 94) (v := ?_) (a' := ?_) #[true, true, true, false, true, true, true, true, false, false, true, false, false, false, false] rfl rfl (by kernel_rfl) (fun _ _ _ h => h) (Or.inl ⟨by rfl, ?_⟩) ?_ ?_
                            rotate_left
                            · intro w'
                              go_simp
                              with_reducible rfl
                            rotate_left
                            · simp only [Act.put, List.setIfInBounds_toArray, List.set_cons_zero, List.set_cons_succ, i64_w, i32_w]
                              rfl
                            refine pure_ (i := 11) (N := some 95) (v := ?_) (a' := ?_) #[true, true, true, false, true, true, true, true, false, false, true, true, false, false, false] rfl rfl (by kernel_rfl) (fun _ _ _ h => h) (Or.inl ⟨by rfl, ?_⟩) ?_ ?_
                            rotate_left
                            · intro w'
                              go_simp
                              with_reducible rfl
                            rotate_left
                            · simp only [Act.put, List.setIfInBounds_toArray, List.set_cons_zero, List.set_cons_succ, i64_w, i32_w]
                              rfl
                            refine pure_ (i := 12) (N := some 96) (v := ?_) (a' := ?_) #[true, true, true, false, true, true, true, true, false, false, true, true, true, false, false] rfl rfl (by kernel_rfl) (fun _ _ _ h => h) (Or.inl ⟨by rfl, ?_⟩) ?_ ?_
                            rotate_left
                            · intro w'
                              go_simp
                              with_reducible rfl
                            rotate_left
                            · simp only [Act.put, List.setIfInBounds_toArray, List.set_cons_zero, List.set_cons_succ, i64_w, i32_w]
                              rfl
                            refine join_ (σ := Option Addr × Nat × Nat) 3 #[true, true, true, true, true, true, true, true, true, false, true, true, true, false, false] (fun s => [(87, .slice s.1 T6.length s.2.1), (92, .slice (some ⟨s.2.2, 0, none⟩) 1 1)]) (fun s w' => Kd.R (Kd.int .i64) 3 w' wh.heap.size (fun _ => True) (.slice s.1 T6.length s.2.1) T6 ∧ Kd.C (Kd.int .i64) w' (some ⟨s.2.2, 0, none⟩) 1 [rd W i] ∧ Below wh.heap.size wh w') (fun s w' hF => ?_) (fun hJ => ?_)
                            rotate_left
                            · refine two_ (i := 3) (j := 8) (Ni := some 87) (Nj := some 92) #[true, true, true, true, true, true, true, true, false, false, true, true, true, false, false] #[true, true, true, false, true, true, true, true, true, false, true, true, true, false, false] rfl rfl rfl rfl (by kernel_rfl) (by decide) (by decide) (fun K hK => ?_) (fun K hK => ?_)
                              · skip
                                refine goes_ Try.func77 (by kernel_rfl) rfl #[.slice (some ⟨g6, 0, none⟩) T6.length c6] (by rfl) rfl rfl (by simp only [List.map_toArray, List.map_cons, List.map_nil]; rfl) ?_
                                refine (spec_l1Own.calls _ _ T6 T6 _ ((HCUT6.out.2.2.2 _ (Kd.R_reads' HW.out).2.2).1) HCUT6.out.2.2.1 HOWN6.out).mono ?_
                                rintro e w1 ⟨vc, rfl, ho, hb⟩
                                refine ⟨_, rfl, ?_⟩
                                obtain ⟨Ac, cc, ec⟩ := Kd.R_slice ho
                                subst ec
                                have HH_ := Aside0.mk (pw_cell_below hb hHeld)
                                have HO1 := Aside0.mk ho
                                have HB1 := Aside0.mk hb
                                clear ho hb
                                refine hK.out _ _ HH_.out (fun hHeld => ?_)
                                clear hK K
                                refine norm_ (a' := ?_) ?_ ?_
                                rotate_left
                                · show Act.put _ (some 87) _ = _
                                  simp only [Act.put, List.setIfInBounds_toArray, List.set_cons_zero, List.set_cons_succ, i64_w, i32_w]
                                  rfl
                                refine one_ (i := 8) (N := some 92) #[true, true, true, true, true, true, true, true, true, false, true, true, true, false, false] rfl rfl (by kernel_rfl) (by decide) (fun K hK => ?_)
                                refine value_ (w1 := ?_) (v := ?_) (by rfl) rfl ?_ ?_
                                rotate_left 2
                                · (go_simp; constructor <;> rfl)
                                have HH_ := Aside0.mk (pw_cell_below (below_alloc (Below.refl _ w1) (.cells #[.int .i64 (rd W i)] 3)) HH_.out)
                                refine hK.out _ _ HH_.out (fun hHeld => ?_)
                                clear hK K
                                refine norm_ ?_ (hJ (Ac, cc, w1.heap.size) _ ⟨Kd.R_alloc HO1.out _, spec_prLists.lit w1 (rd W i), below_alloc HB1.out _⟩)
                                simp only [putAll, Act.put, List.setIfInBounds_toArray, List.set_cons_zero, List.set_cons_succ, i64_w, i32_w]
                              · skip
                                refine value_ (w1 := ?_) (v := ?_) (by rfl) rfl ?_ ?_
                                rotate_left 2
                                · (go_simp; constructor <;> rfl)
                                have HH_ := Aside0.mk (pw_cell_below (below_alloc (Below.refl _ wh) (.cells #[.int .i64 (rd W i)] 3)) hHeld)
                                refine hK.out _ _ HH_.out (fun hHeld => ?_)
                                clear hK K
                                refine norm_ (a' := ?_) ?_ ?_
                                rotate_left
                                · show Act.put _ (some 92) _ = _
                                  simp only [Act.put, List.setIfInBounds_toArray, List.set_cons_zero, List.set_cons_succ, i64_w, i32_w]
                                  rfl
                                refine one_ (i := 3) (N := some 87) #[true, true, true, true, true, true, true, true, true, false, true, true, true, false, false] rfl rfl (by kernel_rfl) (by decide) (fun K hK => ?_)
                                refine goes_ Try.func77 (by kernel_rfl) rfl #[.slice (some ⟨g6, 0, none⟩) T6.length c6] (by rfl) rfl rfl (by simp only [List.map_toArray, List.map_cons, List.map_nil]; rfl) ?_
                                refine (spec_l1Own.calls _ _ T6 T6 _ ((HCUT6.out.2.2.2 _ (Kd.C_alloc (Kd.R_reads' HW.out).2.2 _)).1) HCUT6.out.2.2.1 HOWN6.out).mono ?_
                                rintro e w1 ⟨vc, rfl, ho, hb⟩
                                refine ⟨_, rfl, ?_⟩
                                obtain ⟨Ac, cc, ec⟩ := Kd.R_slice ho
                                subst ec
                                have HH_ := Aside0.mk (pw_cell_below hb HH_.out)
                                have HO1 := Aside0.mk ho
                                have HB1 := Aside0.mk hb
                                clear ho hb
                                refine hK.out _ _ HH_.out (fun hHeld => ?_)
                                clear hK K
                                refine norm_ ?_ (hJ (Ac, cc, wh.heap.size) _ ⟨Kd.R_lower HO1.out (by simp), Kd.C_below (spec_prLists.lit wh (rd W i)) HB1.out, below_step (below_alloc (Below.refl _ _) _) HB1.out⟩)
                                simp only [putAll, Act.put, List.setIfInBounds_toArray, List.set_cons_zero, List.set_cons_succ, i64_w, i32_w]
                            obtain ⟨Ac, cc, g⟩ := s
                            obtain ⟨ho, hlit, hb⟩ := hF
                            have HHg := Aside0.mk hHeld
                            have HO1 := Aside0.mk ho
                            have HLI := Aside0.mk hlit
                            have HB1 := Aside0.mk hb
                            clear ho hlit hb hHeld
                            refine norm_ (a' := ?_) ?_ ?_
                            rotate_left
                            · simp only [putAll, Act.put, List.setIfInBounds_toArray, List.set_cons_zero, List.set_cons_succ, i64_w, i32_w]
                              rfl
                            refine one_ (i := 9) (N := some 93) #[true, true, true, true, true, true, true, true, true, true, true, true, true, false, false] rfl rfl (by kernel_rfl) (by decide) (fun K hK => ?_)
                            refine Kd.R_append_rows_step (Kd.int .i64) (w0 := wh) wh.heap.size (by rfl) (.tmp 87) (.tmp 92) 25 3 (.int .i64 0) 8 rfl Try.underlying25 info3 rfl (by decide) (by omega) (.slice Ac T6.length cc) T6 [rd W i] (some ⟨g, 0, none⟩) 1 1 (fun _ => True) (fun _ => False) rfl rfl ?aO ?aR (fun _ _ h => h) (fun _ h => h.elim) ?aF ?aB ?aS ?aL ?_
                            (case aR => exact HLI.out)
                            (case aB => exact HB1.out)
                            (case aF => exact (fun _ _ => trivial))
                            (case aO => exact HO1.out)
                            (case aS => exact below_size HB1.out)
                            (case aL => have := HTL6.out; omega)
                            intro v2 w2 ho hb hg hat
                            obtain ⟨A2, c2, e2⟩ := Kd.R_slice ho
                            subst e2
                            have HH_ := Aside0.mk (pw_cell_below hb HHg.out)
                            have HO2 := Aside0.mk ho
                            have HB2 := Aside0.mk hb
                            clear ho hb hg hat
                            refine hK.out _ _ HH_.out (fun hHeld => ?_)
                            clear hK K
                            refine norm_ (a' := ?_) ?_ ?_
                            rotate_left
                            · show Act.put _ (some 93) _ = _
                              simp only [Act.put, List.setIfInBounds_toArray, List.set_cons_zero, List.set_cons_succ, i64_w, i32_w]
                              rfl
                            refine one_ (i := 13) (N := some 97) #[true, true, true, true, true, true, true, true, true, true, true, true, true, true, false] rfl rfl (by kernel_rfl) (by decide) (fun K hK => ?_)
                            refine Kd.R_append_rows_step (Kd.int .i64) (w0 := wh) wh.heap.size (by rfl) (.tmp 93) (.tmp 96) 25 3 (.int .i64 0) 8 rfl Try.underlying25 info3 rfl (by decide) (by omega) (.slice A2 (T6 ++ [rd W i]).length c2) (T6 ++ [rd W i]) (E6) B6 (E6).length b6 (fun _ => True) (fun _ => False) rfl rfl ?aO ?aR (fun _ _ h => h) (fun _ h => h.elim) ?aF ?aB ?aS ?aL ?_
                            (case aR => exact (HCUT6.out.2.2.2 _ (Kd.C_below (Kd.R_reads' HW.out).2.2 HB2.out)).2)
                            (case aB => exact HB2.out)
                            (case aF => exact (fun _ _ => trivial))
                            (case aO => exact HO2.out)
                            (case aS => exact below_size HB2.out)
                            (case aL => have := HTL6.out; simp only [List.length_append, List.length_cons, List.length_nil]; omega)
                            intro v3 w3 ho hb hg hat
                            obtain ⟨Y16, hY⟩ : ∃ Y, Y = T6 ++ [rd W i] ++ E6 := ⟨_, rfl⟩
                            rw [← hY] at ho
                            have HY16 := Aside0.mk hY
                            clear hY
                            obtain ⟨A3, c3, e3⟩ := Kd.R_slice ho
                            subst e3
                            have HH_ := Aside0.mk (pw_cell_below hb HHg.out)
                            have HO3 := Aside0.mk ho
                            have HB3 := Aside0.mk hb
                            clear ho hb hg hat
                            refine hK.out _ _ HH_.out (fun hHeld => ?_)
                            clear hK K
                            refine norm_ (a' := ?_) ?_ ?_
                            rotate_left
                            · show Act.put _ (some 97) _ = _
                              simp only [Act.put, List.setIfInBounds_toArray, List.set_cons_zero, List.set_cons_succ, i64_w, i32_w]
                              rfl
                            refine pure_ (i := 14) (N := some 6) (v := ?_) (a' := ?_) #[true, true, true, true, true, true, true, true, true, true, true, true, true, true, true] rfl rfl (by kernel_rfl) (fun _ _ _ h => h) (Or.inl ⟨by rfl, ?_⟩) ?_ ?_
                            rotate_left
                            · intro w'
                              go_simp
                              with_reducible rfl
                            rotate_left
                            · simp only [Act.put, List.setIfInBounds_toArray, List.set_cons_zero, List.set_cons_succ, i64_w, i32_w]
                              rfl
                            refine done_ (by kernel_rfl) ?_
                            try go_wp2
                            go_roundg k2
                            case measure => have := HK2.out; omega
                            case rel => exact ⟨Y15, Y16, d + 1, by first | rfl | (simp; exact e24), ⟨by rw [HY15.out, HY16.out]; exact HE4.out⟩, ⟨by have := HK2.out; omega⟩, ⟨Kd.R_mono (Kd.R_below (Kd.R_bound HDN.out) HB3.out) (fun j hj e => by have h1_ := Kd.R_base HO3.out j e.symm; have h2_ := hj.2.2.1; omega)⟩, ⟨Kd.R_lower (Kd.R_mono (Kd.R_bound HO3.out) (fun j hj e => by have h1_ := Kd.R_lt HDN.out j e.symm; have h2_ := hj.2.1; omega)) HB.out.size⟩, ⟨below_step HB.out HB3.out⟩⟩
                    · rw [if_neg q6] at H
                      cases H
                  · rw [if_neg q5] at H
                    have q5b : (Int.tmod a0 nx != 0) = true := bne_iff_ne.mpr q5
                    have HE2 := Aside0.mk H
                    clear q5 H
                    go_wp2
                    go_roundg k2
                    case measure => have := HK2.out; omega
                    case rel => exact ⟨D, W, d + 1, by first | rfl | (simp; exact e24), HE2, ⟨by have := HK2.out; omega⟩, HD, HW, HB⟩
                · rw [if_neg q4] at H
                  cases H
              · rw [if_neg q3] at H
                simp only [Option.some.injEq, Prod.mk.injEq] at H
                obtain ⟨rfl, rfl⟩ := H
                have q3b : decide (d < a1) = false := decide_eq_false q3
                have e19 : wrap64 (i + 1) = i + 1 := by have := HI.out; unfold wrap64; omega
                clear q3
                go_wp2
                go_roundg k1
                case measure => have := HK1.out; omega
                case rel => exact ⟨D, W, i + 1, by first | rfl | (simp; exact e19), HE, ⟨by have := HK1.out; omega⟩, HD, HW, HB⟩
        · rw [if_neg q2] at H
          cases H
      · rw [if_neg q1] at H
        simp only [Option.some.injEq, Prod.mk.injEq] at H
        obtain ⟨rfl, rfl⟩ := H
        have q1b : decide (i < (D.length : Int)) = false := decide_eq_false q1
        have hf := HFIN.out
        by_cases q2 : 0 < D.length ∧ D.length < 1000000000 ∧ W.length = D.length
        · rw [if_pos q2] at hf
          obtain ⟨la, hla⟩ : ∃ l, l = (D.length : Int) - 1 := ⟨_, rfl⟩
          rw [← hla] at hf
          have e100 : wrap64 ((D.length : Int) - 1) = la := by rw [hla]; unfold wrap64; omega
          obtain ⟨g5, cap5, eg5, _⟩ := Kd.R_form HD.out q2.1
          obtain ⟨g6, cap6, eg6, _⟩ := Kd.R_form HW.out (by omega)
          injection eg5 with ea ec ed
          subst ea ed
          injection eg6 with ea ec ed
          subst ea ed
          obtain ⟨hx5, hf5⟩ := Kd.R_celln 0 HD.out la (by omega) (by omega)
          obtain ⟨hx6, hf6⟩ := Kd.R_celln 0 HW.out la (by omega) (by omega)
          have p1 : (0 ≤ la) = True := eq_true (by omega)
          have p2 : (la < (D.length : Int)) = True := eq_true (by omega)
          have p3 : (la < (W.length : Int)) = True := eq_true (by omega)
          have HLA := Aside0.mk hla
          clear hla q1 q2
          by_cases q3 : rd D la = a0
          · rw [if_pos q3] at hf
            obtain rfl := Option.some.inj hf
            have q3b : (rdOf 0 D la != a0) = false := by rw [bne_eq_false_iff_eq]; exact q3
            clear hf q3
            go_wp2
            go_ret
            exact ⟨rfl, HB.out⟩
          · rw [if_neg q3] at hf
            obtain rfl := Option.some.inj hf
            have q3b : (rdOf 0 D la != a0) = true := bne_iff_ne.mpr q3
            clear hf q3
            go_wp2
            go_ret
            exact ⟨rfl, HB.out⟩
        · rw [if_neg q2] at hf
          cases hf

end Go.Proofs.Ytimimjmabnmeoaa.PFnExactCountWithProduct
