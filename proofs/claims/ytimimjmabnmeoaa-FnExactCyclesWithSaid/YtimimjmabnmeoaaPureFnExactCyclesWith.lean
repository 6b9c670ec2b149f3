/- For every int added and every int bound, the program's CyclesWith gives what the reference gives, in memory of its own. No conditions. -/
import Derived.Test.YtimimjmabnmeoaaPFnExactCyclesWithx6
namespace Go.Proofs.Ytimimjmabnmeoaa.Pure
open Go.RowKit Go.Proofs.Ytimimjmabnmeoaa.PFnExactCyclesWith Go.Proofs.YtimimjmabnmeoaaW.PrintWords Go.Proofs.YtimimjmabnmeoaaW.PrintLast

theorem wf_i64 {x : Int} (h : (Lit.int .i64 x).wf = true) : -9223372036854775808 ≤ x ∧ x ≤ 9223372036854775807 := by
  simp only [Lit.wf, Bool.and_eq_true, decide_eq_true_eq, show IntKind.i64.min = -9223372036854775808 from rfl, show IntKind.i64.max = 9223372036854775807 from rfl] at h
  exact h
theorem w64 {x : Int} (h0 : -9223372036854775808 ≤ x) (h1 : x ≤ 9223372036854775807) : wrap64 x = x := by unfold wrap64; omega
theorem Ev.pos {α : Type} {c : Prop} [Decidable c] {A B : Nat → Option α} {r : α} (h : c) (e : Ev A r) : Ev (fun k => if c then A k else B k) r := by simpa only [if_pos h] using e
theorem Ev.neg {α : Type} {c : Prop} [Decidable c] {A B : Nat → Option α} {r : α} (h : ¬ c) (e : Ev B r) : Ev (fun k => if c then A k else B k) r := by simpa only [if_neg h] using e
theorem Ev.val {α : Type} {a r : α} (h : a = r) : Ev (fun _ => some a) r := h ▸ Ev.now a
theorem Ev.pure {α β : Type} {o : Option α} {f : Nat → α → Option β} {a : α} {r : β} (h : o = some a) (k : Ev (fun n => f n a) r) : Ev (fun n => o.bind (f n)) r := by subst h; exact k
theorem Ev.call {α β : Type} {g : Nat → Option α} {f : Nat → α → Option β} {a : α} {r : β} (h : Ev g a) (k : Ev (fun n => f n a) r) : Ev (fun n => (g n).bind (f n)) r := Ev.bind h k
theorem Ev.same {α : Type} {g f : Nat → Option α} {r : α} (h : ∀ k, g k = f k) (k : Ev g r) : Ev f r := Ev.congr (fun k => (h k).symm) k

theorem rd_mid (pre rest : List Int) (a : Int) : rd (pre ++ a :: rest) (pre.length : Int) = a := by simp [rd]

theorem spec_l1In_eq (a b c : Int) : spec_l1In.f a b c = some (decide (b ≤ a ∧ a ≤ c)) := by
  unfold spec_l1In.f
  by_cases h : b ≤ a
  · rw [if_pos (show a ≥ b from h)]; simp [h]
  · rw [if_neg (show ¬ a ≥ b from h)]; simp [h]
theorem impl_in_eq (a b c : Int) : impl_in.f a b c = some (decide (b ≤ a ∧ a ≤ c)) := by
  unfold impl_in.f
  by_cases h : b ≤ a
  · rw [if_pos h]; simp [h]
  · rw [if_neg h]; simp [h]

theorem min_l0 (V : List Int) (hV : V.length ≤ 4611686018427387904) (k : Nat) (hk : k < V.length) (h1 : ∀ j : Nat, j < V.length → rd V (k : Int) ≤ rd V (j : Int)) : ∀ (m : Nat) (x i : Int), 0 ≤ i → i ≤ V.length → ((V.length : Int) - i).toNat < m → rd V (k : Int) ≤ x → ((k : Int) < i → x = rd V (k : Int)) →
    Ev (fun n => slices_Min_int_int.l0 n V x i) (rd V (k : Int))
  | 0, _, _, _, _, h, _, _ => by omega
  | m + 1, x, i, h0, hi, hm, hx, hx2 => by
    by_cases hlt : i < (V.length : Int)
    · refine Ev.step (fun n => by rw [slices_Min_int_int.l0]) (Ev.pos hlt (Ev.pos h0 ?_))
      rw [w64 (x := i + 1) (by omega) (by omega)]
      obtain ⟨j, rfl⟩ : ∃ j : Nat, i = (j : Int) := ⟨i.toNat, by omega⟩
      have hj := h1 j (by omega)
      refine min_l0 V hV k hk h1 m _ _ (by omega) (by omega) (by omega) ?_ (fun hkj => ?_)
      · unfold mn; split <;> omega
      · by_cases e : k = j
        · subst e; unfold mn; split <;> omega
        · have := hx2 (by omega); unfold mn; split <;> omega
    · have := hx2 (by omega)
      exact Ev.step (fun n => by rw [slices_Min_int_int.l0]) (Ev.neg hlt (Ev.val this))
theorem idx_l0 (V : List Int) (hV : V.length ≤ 4611686018427387904) (k : Nat) (hk : k < V.length) (h2 : ∀ j : Nat, j < k → rd V (j : Int) ≠ rd V (k : Int)) : ∀ (m : Nat) (i : Int), 0 ≤ i → i ≤ k → ((k : Int) - i).toNat < m →
    Ev (fun n => slices_Index_int_int.l0 n V (rd V (k : Int)) (V.length : Int) i) (k : Int)
  | 0, _, _, _, h => by omega
  | m + 1, i, h0, hi, hm => by
    refine Ev.step (fun n => by rw [slices_Index_int_int.l0]) (Ev.pos (by omega) (Ev.pos h0 (Ev.pos (by omega) ?_)))
    obtain ⟨j, rfl⟩ : ∃ j : Nat, i = (j : Int) := ⟨i.toNat, by omega⟩
    by_cases e : j = k
    · subst e; exact Ev.pos rfl (Ev.now _)
    · refine Ev.neg (fun h => h2 j (by omega) h.symm) ?_
      rw [w64 (x := (j : Int) + 1) (by omega) (by omega)]
      exact idx_l0 V hV k hk h2 m _ (by omega) (by omega) (by omega)
theorem rdL_0 (a b : List Int) : rd_L1 [a, b] 0 = a := rfl
theorem rdL_1 (a b : List Int) : rd_L1 [a, b] 1 = b := rfl
theorem concat_ev (a b : List Int) (hl : a.length + b.length ≤ 5000000000) : Ev (fun n => slices_Concat_int_int.f n [a, b]) (a ++ b) := by
  unfold slices_Concat_int_int.f
  have e2 : (([a, b] : List (List Int)).length : Int) = 2 := rfl
  rw [e2]
  refine Ev.step (fun n => by rw [slices_Concat_int_int.l0]) (Ev.pos (by omega) (Ev.pos (by omega) (Ev.pos (by rw [e2]; omega) ?_)))
  rw [rdL_0, w64 (x := 0 + (a.length : Int)) (by omega) (by omega)]
  refine Ev.neg (by omega) ?_
  rw [w64 (x := (0 : Int) + 1) (by omega) (by omega)]
  refine Ev.step (fun n => by rw [slices_Concat_int_int.l0]) (Ev.pos (by omega) (Ev.pos (by omega) (Ev.pos (by rw [e2]; omega) ?_)))
  rw [show (0 : Int) + 1 = 1 from rfl, rdL_1, w64 (x := 0 + (a.length : Int) + (b.length : Int)) (by omega) (by omega)]
  refine Ev.neg (by omega) ?_
  rw [w64 (x := (1 : Int) + 1) (by omega) (by omega)]
  refine Ev.step (fun n => by rw [slices_Concat_int_int.l0]) (Ev.neg (by omega) ?_)
  have hg : slices_Grow_int_int.f ([] : List Int) (0 + (a.length : Int) + (b.length : Int)) = some [] := by unfold slices_Grow_int_int.f; rw [if_pos ⟨rfl, by omega, by omega⟩]
  refine Ev.pure hg ?_
  rw [e2]
  refine Ev.step (fun n => by rw [slices_Concat_int_int.l1]) (Ev.pos (by omega) (Ev.pos (by omega) (Ev.pos (by rw [e2]; omega) ?_)))
  rw [rdL_0]
  refine Ev.pos (by simp; omega) ?_
  rw [w64 (x := (0 : Int) + 1) (by omega) (by omega)]
  refine Ev.step (fun n => by rw [slices_Concat_int_int.l1]) (Ev.pos (by omega) (Ev.pos (by omega) (Ev.pos (by rw [e2]; omega) ?_)))
  rw [show (0 : Int) + 1 = 1 from rfl, rdL_1]
  refine Ev.pos (by simp; omega) ?_
  rw [w64 (x := (1 : Int) + 1) (by omega) (by omega)]
  exact Ev.step (fun n => by rw [slices_Concat_int_int.l1]) (Ev.neg (by omega) (Ev.val (by simp)))
theorem lf_ev (V : List Int) (hV : V.length ≤ 4294967296) (k : Nat) (hk : k < V.length) (h1 : ∀ j : Nat, j < V.length → rd V (k : Int) ≤ rd V (j : Int)) (h2 : ∀ j : Nat, j < k → rd V (j : Int) ≠ rd V (k : Int)) : Ev (fun n => impl_leastFirst.f n V) (V.drop k ++ V.take k) := by
  unfold impl_leastFirst.f
  have hm : Ev (fun n => slices_Min_int_int.f n V) (rd V (k : Int)) := by
    unfold slices_Min_int_int.f
    refine Ev.neg (by omega) (Ev.pos (by omega) ?_)
    refine min_l0 V (by omega) k hk h1 _ _ 1 (by omega) (by omega) (Nat.lt_succ_self _) ?_ (fun h => ?_)
    · exact h1 0 (by omega)
    · have : k = 0 := by omega
      subst this; rfl
  have hi : Ev (fun n => slices_Index_int_int.f n V (rd V (k : Int))) (k : Int) := by
    unfold slices_Index_int_int.f
    exact idx_l0 V (by omega) k hk h2 _ 0 (by omega) (by omega) (Nat.lt_succ_self _)
  refine Ev.bind hm (Ev.bind hi (Ev.pos (by omega) (Ev.pos (by omega) ?_)))
  rw [Int.toNat_natCast]
  exact Ev.bind (concat_ev _ _ (by rw [List.length_drop, List.length_take]; omega)) (Ev.now _)

theorem eq_l0 (l : List Int) (hl : l.length ≤ 4611686018427387904) : ∀ (m : Nat) (i : Int), 0 ≤ i → ((l.length : Int) - i).toNat < m → Ev (fun k => laws_eqIntS.l0 k l l i) true
  | 0, _, _, h => by omega
  | m + 1, i, h0, h => by
    by_cases hlt : i < (l.length : Int)
    · refine Ev.step (fun k => by rw [laws_eqIntS.l0]) (Ev.pos hlt (Ev.pos h0 (Ev.pos hlt (Ev.pos rfl ?_))))
      rw [w64 (by omega) (by omega)]
      exact eq_l0 l hl m (i + 1) (by omega) (by omega)
    · exact Ev.step (fun k => by rw [laws_eqIntS.l0]) (Ev.neg hlt (Ev.now _))
theorem eq_ev (l : List Int) (hl : l.length ≤ 4611686018427387904) : Ev (fun k => laws_eqIntS.f k l l) true := Ev.pos rfl (eq_l0 l hl _ 0 (by omega) (Nat.lt_succ_self _))

theorem heldc_l0 : ∀ (m : Nat) (pre : List Int) (x i : Int), i = (pre.length : Int) → pre.length + m ≤ 4611686018427387904 → 0 ≤ x → x + m ≤ 4611686018427387904 →
    Ev (fun k => laws_heldIntS.l0 k (pre ++ laws_markIntSS.cnt x m) x i) (x + m)
  | 0, pre, x, i, hi, hl, hx, hx2 => by
    refine Ev.step (fun k => by rw [laws_heldIntS.l0]) (Ev.neg (by simp [laws_markIntSS.cnt]; omega) (Ev.val ?_))
    simp
  | m + 1, pre, x, i, hi, hl, hx, hx2 => by
    have hr : rd (pre ++ laws_markIntSS.cnt x (m + 1)) i = x := by rw [hi, laws_markIntSS.cnt]; exact rd_mid _ _ _
    refine Ev.step (fun k => by rw [laws_heldIntS.l0]) (Ev.pos (by simp [laws_markIntSS.cnt_length]; omega) (Ev.pos (by omega) (Ev.pos hr ?_)))
    rw [w64 (x := x + 1) (by omega) (by omega), w64 (x := i + 1) (by omega) (by omega)]
    have ih := heldc_l0 m (pre ++ [x]) (x + 1) (i + 1) (by simp; omega) (by simp; omega) (by omega) (by omega)
    have e : pre ++ laws_markIntSS.cnt x (m + 1) = (pre ++ [x]) ++ laws_markIntSS.cnt (x + 1) m := by simp [laws_markIntSS.cnt]
    have e2 : x + ((m + 1 : Nat) : Int) = x + 1 + (m : Int) := by omega
    rw [e, e2]; exact ih
theorem heldc_ev (m : Nat) (x : Int) (hx : 0 ≤ x) (h : x + m ≤ 4611686018427387904) : Ev (fun k => laws_heldIntS.f k (laws_markIntSS.cnt x m) x) (x + m) := by
  have := heldc_l0 m [] x 0 (by simp) (by simp; omega) hx h
  unfold laws_heldIntS.f
  simpa using this
theorem rdL_at (P : List (List Int)) (a : List Int) (T : List (List Int)) (i : Int) (hi : i = (P.length : Int)) : rd_L1 (P ++ a :: T) i = a := by subst hi; simp [rd_L1]
theorem heldSS_l0 : ∀ (rest pre : List (List Int)) (x i : Int), i = (pre.length : Int) → pre.length + rest.length ≤ 4611686018427387904 → 0 ≤ x → x + (laws_markIntSS.tot rest : Nat) ≤ 4611686018427387904 →
    Ev (fun k => laws_heldIntSS.l0 k (pre ++ laws_markIntSS.mks rest x) x i) (x + (laws_markIntSS.tot rest : Nat))
  | [], pre, x, i, hi, hl, hx, hx2 => by
    refine Ev.step (fun k => by rw [laws_heldIntSS.l0]) (Ev.neg (by simp [laws_markIntSS.mks]; omega) (Ev.val ?_))
    simp [laws_markIntSS.tot]
  | l :: rest, pre, x, i, hi, hl, hx, hx2 => by
    simp only [List.length_cons, laws_markIntSS.tot] at hl hx2
    have hlen : (pre ++ laws_markIntSS.mks (l :: rest) x).length = pre.length + (rest.length + 1) := by rw [List.length_append, laws_markIntSS.mks_length, List.length_cons]
    have hr : rd_L1 (pre ++ laws_markIntSS.mks (l :: rest) x) i = laws_markIntSS.cnt x l.length := by rw [laws_markIntSS.mks]; exact rdL_at _ _ _ _ hi
    refine Ev.step (fun k => by rw [laws_heldIntSS.l0]) (Ev.pos (by rw [hlen]; omega) (Ev.pos (by omega) ?_))
    rw [hr]
    refine Ev.bind (heldc_ev l.length x hx (by omega)) (Ev.neg (by omega) ?_)
    rw [w64 (x := i + 1) (by omega) (by omega)]
    have ih := heldSS_l0 rest (pre ++ [laws_markIntSS.cnt x l.length]) (x + l.length) (i + 1) (by simp; omega) (by simp; omega) (by omega) (by omega)
    have e : pre ++ laws_markIntSS.mks (l :: rest) x = (pre ++ [laws_markIntSS.cnt x l.length]) ++ laws_markIntSS.mks rest (x + l.length) := by simp [laws_markIntSS.mks]
    have e2 : x + ((laws_markIntSS.tot (l :: rest) : Nat) : Int) = x + (l.length : Int) + (laws_markIntSS.tot rest : Nat) := by simp only [laws_markIntSS.tot]; omega
    rw [e, e2]; exact ih
theorem heldSS_ev (rows : List (List Int)) (h1 : rows.length ≤ 4611686018427387904) (h2 : 1 + ((laws_markIntSS.tot rows : Nat) : Int) ≤ 4611686018427387904) : Ev (fun k => laws_heldIntSS.f k (laws_markIntSS.mks rows 1) 1) (1 + ((laws_markIntSS.tot rows : Nat) : Int)) := by
  have := heldSS_l0 rows [] 1 0 (by simp) (by simp; omega) (by omega) h2
  unfold laws_heldIntSS.f
  simpa using this
theorem eqSS_l0 (X : List (List Int)) (hX : X.length ≤ 4611686018427387904) (hx : ∀ l ∈ X, l.length ≤ 4611686018427387904) : ∀ (rest pre : List (List Int)) (i : Int), X = pre ++ rest → i = (pre.length : Int) →
    Ev (fun k => laws_eqIntSS.l0 k X X i) true
  | [], pre, i, hp, hi => by
    refine Ev.step (fun k => by rw [laws_eqIntSS.l0]) (Ev.neg (by rw [hp]; simp; omega) (Ev.now _))
  | l :: rest, pre, i, hp, hi => by
    have hl : X.length = pre.length + (rest.length + 1) := by rw [hp]; simp
    have hr : rd_L1 X i = l := by rw [hp]; exact rdL_at _ _ _ _ hi
    refine Ev.step (fun k => by rw [laws_eqIntSS.l0]) (Ev.pos (by omega) (Ev.pos (by omega) (Ev.pos (by omega) ?_)))
    rw [hr]
    refine Ev.bind (eq_ev l (hx l (by rw [hp]; simp))) (Ev.pos rfl ?_)
    rw [w64 (x := i + 1) (by omega) (by omega)]
    exact eqSS_l0 X hX hx rest (pre ++ [l]) (i + 1) (by rw [hp]; simp) (by simp; omega)
theorem len_tot : ∀ (rows : List (List Int)) (l : List Int), l ∈ rows → l.length ≤ laws_markIntSS.tot rows
  | r :: rows, l, h => by
    simp only [laws_markIntSS.tot]
    rcases List.mem_cons.mp h with rfl | h
    · omega
    · have := len_tot rows l h; omega
theorem eqSS_ev (rows : List (List Int)) (h1 : rows.length ≤ 4611686018427387904) (h2 : laws_markIntSS.tot rows ≤ 4611686018427387904) : Ev (fun k => laws_eqIntSS.f k rows rows) true :=
  Ev.pos rfl (eqSS_l0 rows h1 (fun l hl => Nat.le_trans (len_tot rows l hl) h2) rows [] 0 rfl rfl)
theorem tot_le (B : Nat) : ∀ (rows : List (List Int)), (∀ l ∈ rows, l.length ≤ B) → laws_markIntSS.tot rows ≤ rows.length * B
  | [], _ => by simp [laws_markIntSS.tot]
  | r :: rows, h => by
    have := tot_le B rows (fun l hl => h l (List.mem_cons_of_mem _ hl))
    have h2 := h r List.mem_cons_self
    simp only [laws_markIntSS.tot, List.length_cons, Nat.succ_mul]
    omega

theorem law_rows0 {S I : Nat → Option (List (List Int) × Bool)} {rows : List (List Int)} {ok : Bool} (hs : Ev S (rows, ok)) (hi : Ev I (rows, ok)) (h1 : rows.length ≤ 1000000000000) (h2 : laws_markIntSS.tot rows ≤ 1000000000000000) :
    ∃ (k : Nat) (rows : List (List Int)) (ok_ : Bool), S k = some (rows, ok_) ∧ I k = some (rows, ok_) ∧ laws_eqIntSS.f k rows rows = some true ∧ laws_heldIntSS.f k (laws_markIntSS.mks rows 1) 1 = some (1 + ((laws_markIntSS.tot rows : Nat) : Int)) ∧ 1 + ((laws_markIntSS.tot rows : Nat) : Int) ≤ 4611686018427387904 ∧ rows.length ≤ 4611686018427387904 := by
  obtain ⟨k2, e2⟩ := hs
  obtain ⟨k3, e3⟩ := hi
  obtain ⟨k4, e4⟩ := eqSS_ev rows (by omega) (by omega)
  obtain ⟨k7, e7⟩ := heldSS_ev rows (by omega) (by omega)
  exact ⟨k2 + k3 + k4 + k7, rows, ok, e2 _ (by omega), e3 _ (by omega), e4 _ (by omega), e7 _ (by omega), by omega, by omega⟩

theorem ex_min (V : List Int) : ∀ n : Nat, 0 < n → n ≤ V.length → ∃ k, k < n ∧ ∀ j : Nat, j < n → rd V (k : Int) ≤ rd V (j : Int)
  | 0, h, _ => by omega
  | n + 1, _, hn => by
    by_cases h0 : n = 0
    · subst h0
      exact ⟨0, by omega, fun j hj => by rw [show j = 0 by omega]; exact Int.le_refl _⟩
    · obtain ⟨k, hk, hm⟩ := ex_min V n (by omega) (by omega)
      by_cases h : rd V (k : Int) ≤ rd V (n : Int)
      · refine ⟨k, by omega, fun j hj => ?_⟩
        by_cases e : j = n
        · subst e; exact h
        · exact hm j (by omega)
      · refine ⟨n, by omega, fun j hj => ?_⟩
        by_cases e : j = n
        · subst e; omega
        · have := hm j (by omega); omega
/-- the reference's turned list -/
theorem pt_l0 (V : List Int) (hV : V.length ≤ 1000000) (k : Nat) (hk : k < V.length) (h1 : ∀ j : Nat, j < V.length → j ≠ k → rd V (k : Int) < rd V (j : Int)) : ∀ (m i x : Nat), i + m = V.length → x < V.length → (k < i → x = k) → Ev (fun n => spec_pwTurned.l0 n V (x : Int) V (V.length : Int) (i : Int)) (V.drop k ++ V.take k)
  | 0, i, x, hi, hx, hxk => by
    obtain rfl : x = k := hxk (by omega)
    have ho : spec_l1Own.f (V.drop x) = some (V.drop x) := by
      unfold spec_l1Own.f
      simp only [Option.bind_some, List.length_nil, Nat.zero_add, List.nil_append]
      rw [if_pos (by simp; omega)]
    refine Ev.step (fun n => by rw [spec_pwTurned.l0]) (Ev.neg (by omega) (Ev.pos (by omega) (Ev.pos (by omega) ?_)))
    rw [Int.toNat_natCast]
    exact Ev.pure ho (Ev.pos (by simp; omega) (Ev.now _))
  | m + 1, i, x, hi, hx, hxk => by
    have w1 : wrap64 ((i : Int) + 1) = ((i + 1 : Nat) : Int) := by rw [w64 (by omega) (by omega)]; omega
    refine Ev.step (fun n => by rw [spec_pwTurned.l0]) (Ev.pos (by omega) (Ev.pos (by omega) (Ev.pos (by omega) (Ev.pos (by omega) (Ev.pos (by omega) ?_)))))
    rw [w1]
    by_cases hlt : rd V (i : Int) < rd V (x : Int)
    · refine Ev.pos hlt (pt_l0 V hV k hk h1 m (i + 1) i (by omega) (by omega) (fun hki => ?_))
      by_cases e : k = i
      · exact e.symm
      · have hxk2 := hxk (by omega)
        subst hxk2
        have := h1 i (by omega) (fun h => e h.symm)
        omega
    · refine Ev.neg hlt (pt_l0 V hV k hk h1 m (i + 1) x (by omega) hx (fun hki => ?_))
      by_cases e : k = i
      · subst e
        by_cases e2 : x = k
        · exact e2
        · have := h1 x hx e2
          omega
      · exact hxk (by omega)
theorem turned_ev (V : List Int) (h0 : 0 < V.length) (hV : V.length ≤ 1000000) (hn : V.Nodup) : ∃ c : List Int, c.length = V.length ∧ Ev (fun k => spec_pwTurned.f k V) c ∧ Ev (fun k => impl_leastFirst.f k V) c := by
  obtain ⟨k, hk, hm⟩ := ex_min V V.length h0 (Nat.le_refl _)
  have hrd : ∀ j (hj : j < V.length), rd V (j : Int) = V[j] := fun j hj => by simp [rd, hj]
  have hne : ∀ j, j < V.length → j ≠ k → rd V (j : Int) ≠ rd V (k : Int) := fun j hj hjk e => by
    rw [hrd j hj, hrd k hk] at e
    rcases Nat.lt_or_gt_of_ne hjk with h | h
    · exact (List.pairwise_iff_getElem.mp hn) j k hj hk h e
    · exact (List.pairwise_iff_getElem.mp hn) k j hk hj h e.symm
  refine ⟨V.drop k ++ V.take k, by rw [List.length_append, List.length_drop, List.length_take]; omega, ?_, ?_⟩
  · unfold spec_pwTurned.f
    exact pt_l0 V hV k hk (fun j hj hjk => by have := hm j hj; have := hne j hj hjk; omega) V.length 0 0 (by omega) (by omega) (fun h => by omega)
  · exact lf_ev V (by omega) k hk hm (fun j hj => hne j (by omega) (by omega))
/-! one step -/
def stp (n d : Int) : Int := if Int.tmod n 2 = 0 then wrap64 (Int.tdiv n 2) else wrap64 (wrap64 (3 * n) + d)
theorem stp_rng {n d : Int} (h1 : 1 ≤ n) (h2 : n ≤ 1000000000000) (h3 : 1 ≤ d) (h4 : d ≤ 99) : 1 ≤ stp n d ∧ stp n d ≤ 3000000000099 := by
  unfold stp
  rw [Int.tmod_eq_emod_of_nonneg (by omega), Int.tdiv_eq_ediv_of_nonneg (by omega)]
  split
  · rw [w64 (by omega) (by omega)]; omega
  · rw [w64 (x := 3 * n) (by omega) (by omega), w64 (by omega) (by omega)]; omega
theorem ist_eq (n d : Int) : impl_stepWith.f n d = some (stp n d) := by
  unfold impl_stepWith.f stp
  split <;> rfl
theorem sst_eq (n d : Int) : spec_stStep.f n d = some (stp n d) := by
  unfold spec_stStep.f stp
  split <;> rfl
theorem num_eq (x : Int) : spec_stNumber.f x = some (decide (1 ≤ x ∧ x ≤ 1000000000000)) := by
  unfold spec_stNumber.f
  rw [spec_l1In_eq]
  rfl
/-! where a number stands in the run -/
theorem l2_none (d most : Int) (O : List (List Int)) (nn : Int) (W : List Int) (hW : W.length ≤ 2000) (x : Int) (hx : x ∉ W) (r : List (List Int) × Bool) (hr : Ev (fun k => spec_CyclesWith.l1 k d most O nn (W ++ [x]) (-1)) r) : ∀ (rest pre : List Int) (i : Int), W = pre ++ rest → i = (pre.length : Int) → Ev (fun k => spec_CyclesWith.l2 k d most O nn W (-1) x (W.length : Int) i) r
  | [], pre, i, hp, hi => by
    have h1 : W.length = pre.length := by rw [hp]; simp
    refine Ev.step (fun k => by rw [spec_CyclesWith.l2]) ?_
    exact Ev.neg (by omega) (Ev.pos (by omega) (Ev.pos (by omega) hr))
  | y :: rest, pre, i, hp, hi => by
    have h1 : W.length = pre.length + (rest.length + 1) := by rw [hp]; simp
    have hy : rd W i = y := by rw [hp, hi]; exact rd_mid _ _ _
    have hne : ¬ x = y := fun e => hx (by rw [hp, e]; simp)
    refine Ev.step (fun k => by rw [spec_CyclesWith.l2]) ?_
    refine Ev.pos (by omega) (Ev.pos (by omega) (Ev.pos (by omega) ?_))
    rw [hy, w64 (x := i + 1) (by omega) (by omega)]
    exact Ev.neg hne (l2_none d most O nn W hW x hx r hr rest (pre ++ [y]) (i + 1) (by rw [hp]; simp) (by simp; omega))
theorem l2_some (d most : Int) (O : List (List Int)) (nn : Int) (A B : List Int) (x : Int) (hW : (A ++ x :: B).length ≤ 2000) (hA : x ∉ A) (hB : x ∉ B) (r : List (List Int) × Bool) (hr : Ev (fun k => spec_CyclesWith.l1 k d most O nn (A ++ x :: B) (A.length : Int)) r) : ∀ (rest pre : List Int) (i at_ : Int), A ++ x :: B = pre ++ rest → i = (pre.length : Int) → ((A.length < pre.length ∧ at_ = (A.length : Int)) ∨ (pre.length ≤ A.length ∧ at_ = -1)) → Ev (fun k => spec_CyclesWith.l2 k d most O nn (A ++ x :: B) at_ x ((A ++ x :: B).length : Int) i) r
  | [], pre, i, at_, hp, hi, hat => by
    have h1 : (A ++ x :: B).length = pre.length := by rw [hp]; simp
    have h2 : (A ++ x :: B).length = A.length + (B.length + 1) := by simp
    obtain ⟨_, rfl⟩ : A.length < pre.length ∧ at_ = (A.length : Int) := by rcases hat with h | h <;> omega
    refine Ev.step (fun k => by rw [spec_CyclesWith.l2]) ?_
    exact Ev.neg (by omega) (Ev.neg (by omega) hr)
  | y :: rest, pre, i, at_, hp, hi, hat => by
    have h1 : (A ++ x :: B).length = pre.length + (rest.length + 1) := by rw [hp]; simp
    have hy : rd (A ++ x :: B) i = y := by rw [hp, hi]; exact rd_mid _ _ _
    have w1 : wrap64 (i + 1) = i + 1 := w64 (by omega) (by omega)
    have hq : x = y ↔ pre.length = A.length := by
      have hg : (A ++ x :: B)[pre.length]? = some y := by rw [hp]; simp
      rcases Nat.lt_trichotomy pre.length A.length with h | h | h
      · rw [List.getElem?_append_left h] at hg
        have hm : y ∈ A := List.mem_of_getElem? hg
        constructor
        · intro e; subst e; exact absurd hm hA
        · intro e; omega
      · rw [h] at hg
        simp at hg
        exact ⟨fun _ => h, fun _ => hg⟩
      · rw [List.getElem?_append_right (by omega)] at hg
        obtain ⟨t, ht⟩ : ∃ t, pre.length - A.length = t + 1 := ⟨pre.length - A.length - 1, by omega⟩
        rw [ht, List.getElem?_cons_succ] at hg
        have hm : y ∈ B := List.mem_of_getElem? hg
        constructor
        · intro e; subst e; exact absurd hm hB
        · intro e; omega
    refine Ev.step (fun k => by rw [spec_CyclesWith.l2]) ?_
    refine Ev.pos (by omega) (Ev.pos (by omega) (Ev.pos (by omega) ?_))
    rw [hy, w1]
    by_cases e : x = y
    · have hpl := hq.mp e
      refine Ev.pos e ?_
      exact l2_some d most O nn A B x hW hA hB r hr rest (pre ++ [y]) (i + 1) i (by rw [hp]; simp) (by simp; omega) (.inl ⟨by simp; omega, by omega⟩)
    · have hpl : pre.length ≠ A.length := fun h => e (hq.mpr h)
      refine Ev.neg e ?_
      exact l2_some d most O nn A B x hW hA hB r hr rest (pre ++ [y]) (i + 1) at_ (by rw [hp]; simp) (by simp; omega) (by rcases hat with h | h <;> simp <;> omega)
/-! the run of one number -/
theorem run_ev {d : Int} (hd : 1 ≤ d ∧ d ≤ 99) : ∀ (m : Nat) (W : List Int) (n : Int), W.length + m = 1001 → W.Nodup → (∃ P, W = P ++ [n]) → 1 ≤ n → n ≤ 1000000000000 →
    ∃ (c : List Int) (b : Bool), (b = true → 0 < c.length ∧ c.length ≤ 1001) ∧ Ev (fun k => impl_cycleWith.l0 d k m W n) (c, b) ∧ ∀ (most : Int) (O : List (List Int)) (nn : Int) (r : List (List Int) × Bool), (b = false → r = ([], false)) → (b = true → Ev (fun k => spec_CyclesWith.l3 k d most O nn c 0) r) → Ev (fun k => spec_CyclesWith.l1 k d most O nn W (-1)) r
  | m, W, n, hl, hnd, ⟨P, hP⟩, h1, h2 => by
    obtain ⟨x1, x2⟩ := stp_rng h1 h2 hd.1 hd.2
    have hlast : rd W (wrap64 ((W.length : Int) - 1)) = n := by
      have hWl : W.length = P.length + 1 := by rw [hP]; simp
      rw [w64 (by omega) (by omega), show (W.length : Int) - 1 = (P.length : Int) by omega, hP]
      exact rd_mid P [] n
    have hWp : 0 < W.length := by rw [hP]; simp
    have hw1 : wrap64 ((W.length : Int) - 1) = (W.length : Int) - 1 := w64 (by omega) (by omega)
    have s0 : ∀ (most : Int) (O : List (List Int)) (nn : Int) (r : List (List Int) × Bool), (if stp n d ≤ 1000000000000 ∧ W.length ≤ 1000 then Ev (fun k => spec_CyclesWith.l2 k d most O nn W (-1) (stp n d) (W.length : Int) 0) r else r = ([], false)) → Ev (fun k => spec_CyclesWith.l1 k d most O nn W (-1)) r := by
      intro most O nn r hr
      refine Ev.step (fun k => by rw [spec_CyclesWith.l1]) ?_
      refine Ev.pos (by omega) (Ev.pos (by omega) (Ev.pos (by omega) ?_))
      rw [hlast]
      refine Ev.pure (sst_eq n d) (Ev.pure (num_eq _) ?_)
      by_cases g1 : stp n d ≤ 1000000000000
      · refine Ev.pos (decide_eq_true ⟨x1, g1⟩) ?_
        refine Ev.step (fun k => by rw [spec_CyclesWith.j3]) ?_
        by_cases g2 : W.length ≤ 1000
        · rw [if_pos ⟨g1, g2⟩] at hr
          exact Ev.neg (by simp; omega) hr
        · rw [if_neg (fun h => g2 h.2)] at hr
          exact Ev.pos (decide_eq_true (by omega)) (Ev.val hr.symm)
      · rw [if_neg (fun h => g1 h.1)] at hr
        refine Ev.neg (by simp; omega) ?_
        refine Ev.step (fun k => by rw [spec_CyclesWith.j3]) ?_
        exact Ev.pos rfl (Ev.val hr.symm)
    match m, hl with
    | 0, hl =>
      refine ⟨[], false, by simp, ?_, fun most O nn r h3 _ => s0 most O nn r ?_⟩
      · refine Ev.congr (f := fun _ => some ([], false)) (fun k => by rw [impl_cycleWith.l0]) (Ev.now _)
      · rw [if_neg (by omega)]
        exact h3 rfl
    | m + 1, hl =>
      have hu : ∀ k, impl_cycleWith.l0 d k (m + 1) W n = (if stp n d > 1000000000000 then some ([], false) else (if -9223372036854775808 ≤ stp n d then (if stp n d ∈ W then ((impl_leastFirst.f k (W.drop (W.idxOf (stp n d)))).bind fun c => some (c, true)) else impl_cycleWith.l0 d k m (W ++ [stp n d]) (stp n d)) else none)) := fun k => by
        rw [impl_cycleWith.l0, ist_eq]; rfl
      by_cases g1 : stp n d ≤ 1000000000000
      · have hg : stp n d ≤ 1000000000000 ∧ W.length ≤ 1000 := ⟨g1, by omega⟩
        by_cases hm : stp n d ∈ W
        · obtain ⟨A, B, hAB⟩ := List.append_of_mem hm
          have hnd2 := hnd
          rw [hAB] at hnd2
          obtain ⟨_, hxB, hAd⟩ := List.nodup_append.mp hnd2
          have hA : stp n d ∉ A := fun h => hAd _ h _ List.mem_cons_self rfl
          have hB : stp n d ∉ B := (List.nodup_cons.mp hxB).1
          have hix : W.idxOf (stp n d) = A.length := by
            rw [hAB, List.idxOf_append, if_neg hA]; simp
          have hdr : W.drop A.length = stp n d :: B := by rw [hAB]; simp
          have hWA : W.length = A.length + (B.length + 1) := by rw [hAB]; simp
          obtain ⟨c, t1, t2, t3⟩ := turned_ev (stp n d :: B) (by simp) (by rw [List.length_cons]; omega) hxB
          refine ⟨c, true, fun _ => ⟨by rw [t1]; simp, by rw [t1, List.length_cons]; omega⟩, ?_, fun most O nn r _ h4 => s0 most O nn r ?_⟩
          · refine Ev.congr hu ?_
            refine Ev.neg (by omega) (Ev.pos (by omega) (Ev.pos hm ?_))
            rw [hix, hdr]
            exact Ev.bind t3 (Ev.now _)
          · rw [if_pos hg]
            have := l2_some d most O nn A B (stp n d) (by rw [← hAB]; omega) hA hB r (by
              rw [← hAB]
              refine Ev.step (fun k => by rw [spec_CyclesWith.l1]) ?_
              refine Ev.neg (by omega) (Ev.pos (by omega) (Ev.pos (by omega) ?_))
              rw [Int.toNat_natCast, hdr]
              exact Ev.bind t2 (h4 rfl)) W [] 0 (-1) (by rw [← hAB]; rfl) rfl (.inr ⟨by simp, rfl⟩)
            rw [← hAB] at this
            exact this
        · obtain ⟨c, b, i1, i2, i3⟩ := run_ev hd m (W ++ [stp n d]) (stp n d) (by simp; omega) (List.nodup_append.mpr ⟨hnd, by simp, fun a ha y hy e => by
            rw [List.mem_singleton] at hy
            subst hy e
            exact hm ha⟩) ⟨W, rfl⟩ x1 g1
          refine ⟨c, b, i1, ?_, fun most O nn r h3 h4 => s0 most O nn r ?_⟩
          · refine Ev.congr hu ?_
            exact Ev.neg (by omega) (Ev.pos (by omega) (Ev.neg hm i2))
          · rw [if_pos hg]
            exact l2_none d most O nn W (by omega) (stp n d) hm r (i3 most O nn r h3 h4) W [] 0 rfl rfl
      · refine ⟨[], false, by simp, ?_, fun most O nn r h3 _ => s0 most O nn r ?_⟩
        · refine Ev.congr hu ?_
          exact Ev.pos (by omega) (Ev.now _)
        · rw [if_neg (fun h => g1 h.1)]
          exact h3 rfl
/-! the cycles found, one by one -/
def h0 (c : List Int) : Int := rd c 0
theorem hd_false {O : List (List Int)} {c : List Int} : CY.hd O c = false ↔ ∀ o ∈ O, rd o 0 ≠ rd c 0 := by
  unfold CY.hd
  rw [List.any_eq_false]
  simp
theorem l3_ev (d most nn : Int) (c : List Int) (hc : 0 < c.length) (O : List (List Int)) (hO : O.length ≤ 1000) (hne : ∀ o ∈ O, 0 < o.length) (hs : O.Pairwise (fun a b => rd a 0 < rd b 0)) : ∀ (rest pre : List (List Int)) (i : Int), O = pre ++ rest → i = (pre.length : Int) → (∀ o ∈ pre, rd o 0 < rd c 0) →
    ∃ O', ((CY.hd O c = true ∧ O' = O) ∨ (CY.hd O c = false ∧ O'.Perm (O ++ [c]) ∧ O'.Pairwise (fun a b => rd a 0 < rd b 0))) ∧ ∀ r : List (List Int) × Bool, Ev (fun k => spec_CyclesWith.l0 k d most O' (wrap64 (nn + 1))) r → Ev (fun k => spec_CyclesWith.l3 k d most O nn c i) r
  | [], pre, i, hp, hi, hpre => by
    have hl : O.length = pre.length := by rw [hp]; simp
    have hOp : O = pre := by rw [hp]; simp
    subst hOp
    refine ⟨O ++ [c], .inr ⟨hd_false.mpr (fun o ho e => by have := hpre o ho; omega), List.Perm.refl _, List.pairwise_append.mpr ⟨hs, by simp, fun a ha b hb => by rw [List.mem_singleton] at hb; subst hb; exact hpre a ha⟩⟩, fun r h2 => ?_⟩
    refine Ev.step (fun k => by rw [spec_CyclesWith.l3]) ?_
    refine Ev.neg (by omega) (Ev.pure rfl (Ev.pos (by omega) (Ev.pos (by omega) (Ev.pure rfl (Ev.pos (by simp; omega) (Ev.pure rfl (Ev.pos (by simp; omega) (Ev.pure rfl (Ev.pure rfl (Ev.pos (by simp; omega) ?_))))))))))
    rw [hi]
    simpa using h2
  | o :: rest, pre, i, hp, hi, hpre => by
    have hl : O.length = pre.length + (rest.length + 1) := by rw [hp]; simp
    have hr : rd_L1 O i = o := by rw [hp]; exact rdL_at _ _ _ _ hi
    have hoO : o ∈ O := by rw [hp]; simp
    have hol := hne o hoO
    have s0 : ∀ r : List (List Int) × Bool, Ev (fun k => if rd o 0 < rd c 0 then spec_CyclesWith.l3 k d most O nn c (wrap64 (i + 1)) else (if rd o 0 = rd c 0 then spec_CyclesWith.l0 k d most O (wrap64 (nn + 1)) else spec_CyclesWith.l0 k d most (pre ++ [c] ++ o :: rest) (wrap64 (nn + 1)))) r → Ev (fun k => spec_CyclesWith.l3 k d most O nn c i) r := fun r h => by
      have htk : O.take (i : Int).toNat = pre := by rw [hi, Int.toNat_natCast, hp]; simp
      have hdk : O.drop (i : Int).toNat = o :: rest := by rw [hi, Int.toNat_natCast, hp]; simp
      refine Ev.step (fun k => by rw [spec_CyclesWith.l3]) ?_
      refine Ev.pos (by omega) (Ev.pos (by omega) ?_)
      rw [hr]
      refine Ev.pos (by omega) (Ev.pos (by omega) ?_)
      by_cases g1 : rd o 0 < rd c 0
      · simp only [if_pos g1] at h ⊢
        exact h
      · simp only [if_neg g1] at h ⊢
        by_cases g2 : rd o 0 = rd c 0
        · simp only [if_pos g2] at h ⊢
          exact h
        · simp only [if_neg g2] at h ⊢
          refine Ev.pure rfl (Ev.pos (by omega) (Ev.pure rfl (Ev.pos (by rw [htk]; simp; omega) (Ev.pure rfl (Ev.pos (by rw [htk]; simp; omega) (Ev.pure rfl (Ev.pure rfl (Ev.pos (by rw [htk, hdk]; simp; omega) ?_))))))))
          rw [htk, hdk]
          exact h
    by_cases g1 : rd o 0 < rd c 0
    · obtain ⟨O', o1, o2⟩ := l3_ev d most nn c hc O hO hne hs rest (pre ++ [o]) (i + 1) (by rw [hp]; simp) (by simp; omega) (fun x hx => (List.mem_append.mp hx).elim (hpre x) (fun h => by rw [List.mem_singleton] at h; subst h; exact g1))
      refine ⟨O', o1, fun r h => s0 r ?_⟩
      refine Ev.pos g1 ?_
      rw [w64 (x := i + 1) (by omega) (by omega)]
      exact o2 r h
    · by_cases g2 : rd o 0 = rd c 0
      · refine ⟨O, .inl ⟨?_, rfl⟩, fun r h => s0 r (Ev.neg g1 (Ev.pos g2 h))⟩
        unfold CY.hd
        rw [List.any_eq_true]
        exact ⟨o, hoO, by simpa using g2⟩
      · have hs2 := hs
        rw [hp] at hs2
        obtain ⟨p1, p2, p3⟩ := List.pairwise_append.mp hs2
        obtain ⟨p4, p5⟩ := List.pairwise_cons.mp p2
        have hoc : rd c 0 < rd o 0 := by omega
        refine ⟨pre ++ [c] ++ o :: rest, .inr ⟨hd_false.mpr (fun x hx e => ?_), ?_, ?_⟩, fun r h => s0 r (Ev.neg g1 (Ev.neg g2 h))⟩
        · rw [hp] at hx
          rcases List.mem_append.mp hx with hx | hx
          · have := hpre x hx; omega
          · rcases List.mem_cons.mp hx with rfl | hx
            · omega
            · have := p4 x hx; omega
        · rw [hp, List.append_assoc, List.append_assoc]
          exact List.perm_append_comm.append_left pre
        · rw [List.append_assoc]
          refine List.pairwise_append.mpr ⟨p1, List.pairwise_cons.mpr ⟨fun x hx => ?_, p2⟩, fun x hx y hy => ?_⟩
          · rcases List.mem_cons.mp hx with rfl | hx
            · exact hoc
            · have := p4 x hx; omega
          · rcases List.mem_cons.mp hy with rfl | hy
            · exact hpre x hx
            · exact p3 x hx y hy
theorem hd_perm {O O' : List (List Int)} (h : O'.Perm O) (c : List Int) : CY.hd O' c = CY.hd O c := by
  unfold CY.hd
  rw [Bool.eq_iff_iff, List.any_eq_true, List.any_eq_true]
  constructor
  · rintro ⟨x, hx, e⟩; exact ⟨x, h.mem_iff.mp hx, e⟩
  · rintro ⟨x, hx, e⟩; exact ⟨x, h.mem_iff.mpr hx, e⟩
theorem l0_ev {d : Int} (hd : 1 ≤ d ∧ d ≤ 99) (most : Int) (hm : 1 ≤ most ∧ most ≤ 200) : ∀ (m : Nat) (n : Int) (SO IO : List (List Int)), n + m = most + 1 → 1 ≤ n → SO.Perm IO → SO.Pairwise (fun a b => rd a 0 < rd b 0) → (IO.length : Int) ≤ n - 1 → (n = 1 ∨ 0 < IO.length) → (∀ o ∈ IO, 0 < o.length ∧ o.length ≤ 1001) →
    ∃ (rows : List (List Int)) (ok : Bool), Ev (fun k => spec_CyclesWith.l0 k d most SO n) (rows, ok) ∧ Ev (fun k => impl_CyclesWith.l0 d most k IO n) (rows, ok) ∧ rows.length ≤ 200 ∧ ∀ l ∈ rows, l.length ≤ 1001
  | 0, n, SO, IO, hn, h1, hp, hs, hl, h0, hq => by
    have hpl := hp.length_eq
    have hnil : ∀ o ∈ SO, 0 < o.length := fun o ho => (hq o (hp.mem_iff.mp ho)).1
    refine ⟨SO, true, ?_, ?_, by omega, fun l hl => (hq l (hp.mem_iff.mp hl)).2⟩
    · refine Ev.step (fun k => by rw [spec_CyclesWith.l0]) ?_
      exact Ev.neg (by omega) (Ev.now _)
    · refine Ev.step (fun k => by rw [impl_CyclesWith.l0]) ?_
      refine Ev.neg (by omega) (Ev.pos (by omega) (Ev.val ?_))
      have e : SF.so IO = SO := by
        refine (SF.so_eq hp ?_).symm
        refine hs.imp_of_mem ?_
        intro a c ha hc hac
        have g1 := hnil a ha
        have g2 := hnil c hc
        cases a with
        | nil => simp at g1
        | cons x a =>
          cases c with
          | nil => simp at g2
          | cons y c =>
            have hac : x < y := hac
            unfold SF.cmp
            rw [if_neg (by omega), if_pos hac]
            decide
      rw [e]
  | m + 1, n, SO, IO, hn, h1, hp, hs, hl, h0, hq => by
    have hpl := hp.length_eq
    have hnil : ∀ o ∈ SO, 0 < o.length := fun o ho => (hq o (hp.mem_iff.mp ho)).1
    have w1 : wrap64 (n + 1) = n + 1 := w64 (by omega) (by omega)
    have hwf : (Lit.int .i64 n).wf = true := by
      simp only [Lit.wf, Bool.and_eq_true, decide_eq_true_eq, show IntKind.i64.min = -9223372036854775808 from rfl, show IntKind.i64.max = 9223372036854775807 from rfl]
      omega
    obtain ⟨c, b, c1, c2, c3⟩ := run_ev hd 1000 [n] n rfl (by simp) ⟨[], rfl⟩ h1 (by omega)
    have hcw : Ev (fun k => impl_cycleWith.f k n d) (c, b) := by
      refine Ev.congr (f := fun k => impl_cycleWith.l0 d k 1000 [n] n) (fun k => ?_) c2
      unfold impl_cycleWith.f
      rw [if_pos hwf]
    have s0 : ∀ r, Ev (fun k => spec_CyclesWith.l1 k d most SO n [n] (-1)) r → Ev (fun k => spec_CyclesWith.l0 k d most SO n) r := fun r hr => by
      refine Ev.step (fun k => by rw [spec_CyclesWith.l0]) ?_
      exact Ev.pos (by omega) hr
    cases b with
    | false =>
      refine ⟨[], false, s0 _ (c3 most SO n _ (fun _ => rfl) (fun h => by cases h)), ?_, by simp, by simp⟩
      refine Ev.step (fun k => by rw [impl_CyclesWith.l0]) ?_
      exact Ev.pos (by omega) (Ev.bind hcw (Ev.neg (show ¬ (false = true) by decide) (Ev.now _)))
    | true =>
      obtain ⟨q1, q2⟩ := c1 rfl
      have hhd := hd_perm hp c
      have i0 : ∀ r, Ev (fun k => if CY.hd IO c = true then impl_CyclesWith.l0 d most k IO (n + 1) else impl_CyclesWith.l0 d most k (IO ++ [c]) (n + 1)) r → Ev (fun k => impl_CyclesWith.l0 d most k IO n) r := fun r hr => by
        refine Ev.step (fun k => by rw [impl_CyclesWith.l0]) ?_
        refine Ev.pos (by omega) (Ev.bind hcw (Ev.pos rfl (Ev.pos (show 0 < c.length ∧ c.length ≤ 4294967296 ∧ IO.length < 1000000 from ⟨q1, by omega, by omega⟩) ?_)))
        rw [w1]
        exact hr
      obtain ⟨SO', o1, o2⟩ := l3_ev d most n c q1 SO (by omega) hnil hs SO [] 0 rfl rfl (by simp)
      rw [hhd] at o1
      cases hb : CY.hd IO c with
      | true =>
        have h0' : 0 < IO.length := by
          rcases Nat.eq_zero_or_pos IO.length with h | h
          · rw [List.length_eq_zero_iff.mp h] at hb; cases hb
          · exact h
        rw [hb] at o1
        obtain ⟨_, rfl⟩ := o1.resolve_right (fun h => by cases h.1)
        obtain ⟨rows, ok, r1, r2, r3, r4⟩ := l0_ev hd most hm m (n + 1) SO' IO (by omega) (by omega) hp hs (by omega) (.inr h0') hq
        refine ⟨rows, ok, s0 _ (c3 most SO' n _ (fun h => by cases h) (fun _ => o2 _ (by rw [w1]; exact r1))), i0 _ (Ev.pos hb r2), r3, r4⟩
      | false =>
        rw [hb] at o1
        obtain ⟨_, hp', hs'⟩ := o1.resolve_left (fun h => by cases h.1)
        have hq2 : ∀ o ∈ IO ++ [c], 0 < o.length ∧ o.length ≤ 1001 := fun o ho => (List.mem_append.mp ho).elim (hq o) (fun h => by rw [List.mem_singleton] at h; subst h; exact ⟨q1, q2⟩)
        obtain ⟨rows, ok, r1, r2, r3, r4⟩ := l0_ev hd most hm m (n + 1) SO' (IO ++ [c]) (by omega) (by omega) (hp'.trans (hp.append_right [c])) hs' (by simp; omega) (.inr (by simp)) hq2
        refine ⟨rows, ok, s0 _ (c3 most SO n _ (fun h => by cases h) (fun _ => o2 _ (by rw [w1]; exact r1))), i0 _ (Ev.neg (by rw [hb]; decide) r2), r3, r4⟩
theorem law_ev (a b : Int) : ∃ (rows : List (List Int)) (ok : Bool), Ev (fun k => spec_CyclesWith.f k a b) (rows, ok) ∧ Ev (fun k => impl_CyclesWith.f k a b) (rows, ok) ∧ rows.length ≤ 200 ∧ ∀ l ∈ rows, l.length ≤ 1001 := by
  have hsa : spec_stAdded.f a = some (decide ((1 ≤ a ∧ a ≤ 99) ∧ Int.tmod a 2 = 1)) := by
    unfold spec_stAdded.f
    rw [spec_l1In_eq]
    by_cases h : 1 ≤ a ∧ a ≤ 99
    · simp [h]; exact Bool.beq_eq_decide_eq _ _
    · simp [h]
  have hia : impl_isAdded.f a = some (decide ((1 ≤ a ∧ a ≤ 99) ∧ Int.tmod a 2 = 1)) := by
    unfold impl_isAdded.f
    rw [impl_in_eq]
    by_cases h : 1 ≤ a ∧ a ≤ 99
    · simp [h]; exact Bool.beq_eq_decide_eq _ _
    · simp [h]
  unfold spec_CyclesWith.f impl_CyclesWith.f
  by_cases h1 : (1 ≤ a ∧ a ≤ 99) ∧ Int.tmod a 2 = 1
  · by_cases h2 : 1 ≤ b ∧ b ≤ 200
    · obtain ⟨rows, ok, r1, r2, r3, r4⟩ := l0_ev h1.1 b h2 b.toNat 1 [] [] (by omega) (by omega) (List.Perm.refl _) List.Pairwise.nil (by simp) (.inl rfl) (by simp)
      refine ⟨rows, ok, ?_, ?_, r3, r4⟩
      · refine Ev.pure hsa (Ev.pos (decide_eq_true h1) (Ev.pure (spec_l1In_eq _ _ _) ?_))
        rw [decide_eq_true h2]
        refine Ev.step (fun k => by rw [spec_CyclesWith.j0]) ?_
        exact Ev.neg (by decide) r1
      · exact Ev.pure hia (Ev.pos (decide_eq_true h1) (Ev.pure (impl_in_eq _ _ _) (Ev.pos (decide_eq_true h2) r2)))
    · refine ⟨[], false, ?_, ?_, by simp, by simp⟩
      · refine Ev.pure hsa (Ev.pos (decide_eq_true h1) (Ev.pure (spec_l1In_eq _ _ _) ?_))
        rw [decide_eq_false h2]
        refine Ev.step (fun k => by rw [spec_CyclesWith.j0]) ?_
        exact Ev.pos (by decide) (Ev.now _)
      · exact Ev.pure hia (Ev.pos (decide_eq_true h1) (Ev.pure (impl_in_eq _ _ _) (Ev.neg (by simpa using h2) (Ev.now _))))
  · refine ⟨[], false, ?_, ?_, by simp, by simp⟩
    · refine Ev.pure hsa (Ev.neg (by simpa using h1) ?_)
      refine Ev.step (fun k => by rw [spec_CyclesWith.j0]) ?_
      exact Ev.pos rfl (Ev.now _)
    · exact Ev.pure hia (Ev.neg (by simpa using h1) (Ev.now _))
theorem FnExactCyclesWith : laws_FnExactCyclesWith.Pure := by
  intro a b ha hb
  obtain ⟨rows, ok, hs, hi, h1, h2⟩ := law_ev a b
  have h3 := tot_le 1001 rows h2
  have h4 : rows.length * 1001 ≤ 200 * 1001 := Nat.mul_le_mul_right _ h1
  exact law_rows0 hs hi (by omega) (by omega)

end Go.Proofs.Ytimimjmabnmeoaa.Pure
