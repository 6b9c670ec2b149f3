/- For every int n, the program's WayToOne gives what the reference's gives, twice, in memory of its own. No conditions. -/
import Derived.Test.YtpmhbpapchmeiaaPFnExactWayToOnex2
namespace Go.Proofs.Ytpmhbpapchmeiaa.Pure
open Go.RowKit Go.Proofs.Ytpmhbpapchmeiaa.PFnExactWayToOne Go.Proofs.YtpmhbpapchmeiaaW.PrintWords Go.Proofs.YtpmhbpapchmeiaaW.PrintLast

theorem wf_i64 {x : Int} (h : (Lit.int .i64 x).wf = true) : -9223372036854775808 ≤ x ∧ x ≤ 9223372036854775807 := by
  simp only [Lit.wf, Bool.and_eq_true, decide_eq_true_eq, show IntKind.i64.min = -9223372036854775808 from rfl, show IntKind.i64.max = 9223372036854775807 from rfl] at h
  exact h
theorem w64 {x : Int} (h0 : -9223372036854775808 ≤ x) (h1 : x ≤ 9223372036854775807) : wrap64 x = x := by unfold wrap64; omega
theorem Ev.pos {α : Type} {c : Prop} [Decidable c] {A B : Nat → Option α} {r : α} (h : c) (e : Ev A r) : Ev (fun k => if c then A k else B k) r := by simpa only [if_pos h] using e
theorem Ev.neg {α : Type} {c : Prop} [Decidable c] {A B : Nat → Option α} {r : α} (h : ¬ c) (e : Ev B r) : Ev (fun k => if c then A k else B k) r := by simpa only [if_neg h] using e
theorem Ev.val {α : Type} {a r : α} (h : a = r) : Ev (fun _ => some a) r := h ▸ Ev.now a
theorem Ev.pure {α β : Type} {o : Option α} {f : Nat → α → Option β} {a : α} {r : β} (h : o = some a) (k : Ev (fun n => f n a) r) : Ev (fun n => o.bind (f n)) r := by subst h; exact k
theorem Ev.call {α β : Type} {g : Nat → Option α} {f : Nat → α → Option β} {a : α} {r : β} (h : Ev g a) (k : Ev (fun n => f n a) r) : Ev (fun n => (g n).bind (f n)) r := Ev.bind h k
theorem Ev.same {α : Type} {g f : Nat → Option α} {r : α} (h : ∀ k, g k = f k) (k : Ev g r) : Ev f r := Ev.congr (fun k => (h k).symm) k

theorem div_lt_of {n d : Int} (hn : 1 ≤ n) (hd : 2 ≤ d) : n / d < n := by
  apply Int.ediv_lt_of_lt_mul (by omega)
  have : n * 2 ≤ n * d := Int.mul_le_mul_of_nonneg_left hd (by omega)
  omega
theorem div_ge {n d : Int} (hn : 0 ≤ n) (hd : 2 ≤ d) : 0 ≤ n / d := Int.ediv_nonneg hn (by omega)
theorem div_le {n d : Int} (hn : 0 ≤ n) (hd : 2 ≤ d) : n / d ≤ n := by
  by_cases h : n = 0
  · subst h; simp
  · have := div_lt_of (n := n) (d := d) (by omega) hd; omega
theorem div_pos_of {n d : Int} (hn : 1 ≤ n) (hd : 2 ≤ d) (h : n % d = 0) : 1 ≤ n / d := by
  have e := Int.mul_ediv_add_emod n d
  have h0 : 0 ≤ n / d := div_ge (by omega) hd
  by_cases hz : n / d = 0
  · rw [hz, h] at e; simp at e; omega
  · omega
theorem tmod_of {a b : Int} (h : 0 ≤ a) : Int.tmod a b = a % b := Int.tmod_eq_emod_of_nonneg h
theorem tdiv_of {a b : Int} (h : 0 ≤ a) : Int.tdiv a b = a / b := Int.tdiv_eq_ediv_of_nonneg h

def cnt (x : Int) : Nat → List Int
  | 0 => []
  | m + 1 => x :: cnt (x + 1) m
theorem cnt_length : ∀ (m : Nat) (x : Int), (cnt x m).length = m
  | 0, _ => rfl
  | m + 1, x => by simp [cnt, cnt_length m]
theorem rd_mid (pre rest : List Int) (a : Int) : rd (pre ++ a :: rest) (pre.length : Int) = a := by simp [rd]
theorem mark_l0 : ∀ (rest pre : List Int) (x i : Int), i = (pre.length : Int) → pre.length + rest.length ≤ 4611686018427387904 → 0 ≤ x → x + rest.length ≤ 4611686018427387904 →
    Ev (fun k => laws_markIntS.l0 k (pre ++ rest) x i) (x + rest.length, pre ++ cnt x rest.length)
  | [], pre, x, i, hi, hl, hx, hx2 => by
    refine Ev.step (fun k => by rw [laws_markIntS.l0]) (Ev.neg (by simp; omega) (Ev.val ?_))
    simp [cnt]
  | a :: rest, pre, x, i, hi, hl, hx, hx2 => by
    simp only [List.length_cons] at hl hx2
    refine Ev.step (fun k => by rw [laws_markIntS.l0]) (Ev.pos (by simp; omega) (Ev.pos (by omega) ?_))
    rw [w64 (x := x + 1) (by omega) (by omega), w64 (x := i + 1) (by omega) (by omega)]
    have e : (pre ++ a :: rest).set i.toNat x = (pre ++ [x]) ++ rest := by subst hi; simp
    have ih := mark_l0 rest (pre ++ [x]) (x + 1) (i + 1) (by simp; omega) (by simp; omega) (by omega) (by omega)
    rw [e]
    have e2 : (x + ((a :: rest).length : Int), pre ++ cnt x (a :: rest).length) = (x + 1 + (rest.length : Int), (pre ++ [x]) ++ cnt (x + 1) rest.length) := by
      simp [cnt]; omega
    rw [e2]; exact ih
theorem held_l0 : ∀ (m : Nat) (pre : List Int) (x i : Int), i = (pre.length : Int) → pre.length + m ≤ 4611686018427387904 → 0 ≤ x → x + m ≤ 4611686018427387904 →
    Ev (fun k => laws_heldIntS.l0 k (pre ++ cnt x m) x i) (x + m)
  | 0, pre, x, i, hi, hl, hx, hx2 => by
    refine Ev.step (fun k => by rw [laws_heldIntS.l0]) (Ev.neg (by simp [cnt]; omega) (Ev.val ?_))
    simp
  | m + 1, pre, x, i, hi, hl, hx, hx2 => by
    have hr : rd (pre ++ cnt x (m + 1)) i = x := by rw [hi, cnt]; exact rd_mid _ _ _
    refine Ev.step (fun k => by rw [laws_heldIntS.l0]) (Ev.pos (by simp [cnt_length]; omega) (Ev.pos (by omega) (Ev.pos hr ?_)))
    rw [w64 (x := x + 1) (by omega) (by omega), w64 (x := i + 1) (by omega) (by omega)]
    have ih := held_l0 m (pre ++ [x]) (x + 1) (i + 1) (by simp; omega) (by simp; omega) (by omega) (by omega)
    have e : pre ++ cnt x (m + 1) = (pre ++ [x]) ++ cnt (x + 1) m := by simp [cnt]
    have e2 : x + ((m + 1 : Nat) : Int) = x + 1 + (m : Int) := by omega
    rw [e, e2]; exact ih
theorem eq_l0 (l : List Int) (hl : l.length ≤ 4611686018427387904) : ∀ (m : Nat) (i : Int), 0 ≤ i → ((l.length : Int) - i).toNat < m → Ev (fun k => laws_eqIntS.l0 k l l i) true
  | 0, _, _, h => by omega
  | m + 1, i, h0, h => by
    by_cases hlt : i < (l.length : Int)
    · refine Ev.step (fun k => by rw [laws_eqIntS.l0]) (Ev.pos hlt (Ev.pos h0 (Ev.pos hlt (Ev.pos rfl ?_))))
      rw [w64 (by omega) (by omega)]
      exact eq_l0 l hl m (i + 1) (by omega) (by omega)
    · exact Ev.step (fun k => by rw [laws_eqIntS.l0]) (Ev.neg hlt (Ev.now _))
theorem eq_ev (l : List Int) (hl : l.length ≤ 4611686018427387904) : Ev (fun k => laws_eqIntS.f k l l) true := Ev.pos rfl (eq_l0 l hl _ 0 (by omega) (Nat.lt_succ_self _))
theorem mark_ev (l : List Int) (hl : l.length ≤ 4000000000000000000) : Ev (fun k => laws_markIntS.f k l 1) (1 + l.length, cnt 1 l.length) := by
  have := mark_l0 l [] 1 0 (by simp) (by simp; omega) (by omega) (by omega)
  unfold laws_markIntS.f
  simpa using this
theorem held_ev (m : Nat) (hl : m ≤ 4000000000000000000) : Ev (fun k => laws_heldIntS.f k (cnt 1 m) 1) (1 + m) := by
  have := held_l0 m [] 1 0 (by simp) (by simp; omega) (by omega) (by omega)
  unfold laws_heldIntS.f
  simpa using this
theorem not_neg (n : Nat) : ¬ 1 + (n : Int) < 0 := by omega

theorem spec_stNumber_eq (a : Int) : spec_stNumber.f a = some (decide (1 ≤ a ∧ a ≤ 1000000000000)) := by
  unfold spec_stNumber.f spec_l1In.f
  by_cases h : a ≥ 1
  · rw [if_pos h]; simp [show 1 ≤ a from h]
  · rw [if_neg h]; simp; omega
theorem impl_isPlace_eq (a : Int) : impl_isPlace.f a = some (decide (1 ≤ a ∧ a ≤ 1000000000000)) := by
  unfold impl_isPlace.f impl_in.f
  by_cases h : 1 ≤ a
  · rw [if_pos h]; simp [h]
  · rw [if_neg h]; simp; omega

theorem step_pos (a d : Int) (h1 : 1 ≤ a) (h2 : a ≤ 1000000000000) (h3 : 1 ≤ d) (h4 : d ≤ 99) : ∃ r, impl_stepWith.f a d = some r ∧ spec_stStep.f a d = some r ∧ 1 ≤ r := by
  unfold impl_stepWith.f spec_stStep.f
  have e2 : Int.tmod a 2 = a % 2 := Int.tmod_eq_emod_of_nonneg (by omega)
  have e3 : Int.tdiv a 2 = a / 2 := Int.tdiv_eq_ediv_of_nonneg (by omega)
  rw [e2, e3]
  by_cases h : a % 2 = 0
  · rw [if_pos h]
    exact ⟨_, rfl, rfl, by rw [w64 (by omega) (by omega)]; omega⟩
  · rw [if_neg h]
    refine ⟨_, rfl, rfl, ?_⟩
    rw [w64 (x := 3 * a) (by omega) (by omega), w64 (x := 3 * a + d) (by omega) (by omega)]
    omega

/-- the way to 1 of the reference and of the program: the same -/
theorem way_l0 : ∀ (m : Nat) (n k : Int) (l : List Int), 1 ≤ n → n ≤ 1000000000000 → 0 ≤ k → k ≤ 1000 → (l.length : Int) = k + 1 → (1000 - k).toNat < m → (∀ x ∈ l, 1 ≤ x) →
    ∃ r : List Int × Bool, r.1.length ≤ 1001 ∧ (r.2 = false → r.1 = []) ∧ (r.2 = true → 1 ≤ r.1.length) ∧ (∀ x ∈ r.1, 1 ≤ x) ∧ Ev (fun q => spec_stWay.l0 q n l) r ∧ Ev (fun q => impl_way.l0 q n l k) r
  | 0, _, _, _, _, _, _, _, _, h, _ => by omega
  | m + 1, n, k, l, h1, h2, h3, h4, h5, h, hp => by
    by_cases e : n = 1
    · refine ⟨(l, true), by simp; omega, by simp, fun _ => by simp; omega, hp, ?_, ?_⟩
      · refine Ev.step (fun k => by rw [spec_stWay.l0]) ?_
        exact Ev.pos e (Ev.now _)
      · refine Ev.step (fun k => by rw [impl_way.l0]) ?_
        exact Ev.pure rfl (Ev.pos (by simp [e]) (Ev.now _))
    · obtain ⟨t, hi, hs, ht⟩ := step_pos n 1 h1 h2 (by omega) (by omega)
      by_cases hk : k = 1000
      · refine ⟨([], false), by simp, by simp, by simp, by simp, ?_, ?_⟩
        · refine Ev.step (fun k => by rw [spec_stWay.l0]) ?_
          refine Ev.neg e (Ev.pure hs (Ev.pure (spec_stNumber_eq t) ?_))
          by_cases hc : decide (1 ≤ t ∧ t ≤ 1000000000000) = true
          · exact Ev.pos hc (Ev.pos (by omega) (Ev.now _))
          · exact Ev.neg hc (Ev.now _)
        · refine Ev.step (fun k => by rw [impl_way.l0]) ?_
          exact Ev.pure rfl (Ev.neg (by simp [e]) (Ev.pure hi (Ev.pos hk (Ev.now _))))
      · by_cases hc : t ≤ 1000000000000
        · obtain ⟨r, r1, r2, r3, r4, r5, r6⟩ := way_l0 m t (k + 1) (l ++ [t]) ht hc (by omega) (by omega) (by simp; omega) (by omega) (by intro x hx; simp at hx; rcases hx with hx | rfl; exact hp x hx; exact ht)
          refine ⟨r, r1, r2, r3, r4, ?_, ?_⟩
          · refine Ev.step (fun k => by rw [spec_stWay.l0]) ?_
            exact Ev.neg e (Ev.pure hs (Ev.pure (spec_stNumber_eq t) (Ev.pos (decide_eq_true ⟨ht, hc⟩) (Ev.neg (by omega) (Ev.pos (by omega) r5)))))
          · refine Ev.step (fun k => by rw [impl_way.l0]) ?_
            refine Ev.pure rfl (Ev.neg (by simp [e]) (Ev.pure hi (Ev.neg hk (Ev.neg (by omega) (Ev.pos (by omega) ?_)))))
            rw [w64 (by omega) (by omega)]; exact r6
        · refine ⟨([], false), by simp, by simp, by simp, by simp, ?_, ?_⟩
          · refine Ev.step (fun k => by rw [spec_stWay.l0]) ?_
            exact Ev.neg e (Ev.pure hs (Ev.pure (spec_stNumber_eq t) (Ev.neg (by simp; omega) (Ev.now _))))
          · refine Ev.step (fun k => by rw [impl_way.l0]) ?_
            exact Ev.pure rfl (Ev.neg (by simp [e]) (Ev.pure hi (Ev.neg hk (Ev.pos (by omega) (Ev.now _)))))
theorem way_ev {n : Int} (h1 : 1 ≤ n) (h2 : n ≤ 1000000000000) : ∃ r : List Int × Bool, r.1.length ≤ 1001 ∧ (r.2 = false → r.1 = []) ∧ (r.2 = true → 1 ≤ r.1.length) ∧ (∀ x ∈ r.1, 1 ≤ x) ∧ Ev (fun q => spec_stWay.f q n) r ∧ Ev (fun q => impl_toOne.f q n) r := by
  obtain ⟨r, r1, r2, r3, r4, r5, r6⟩ := way_l0 _ n 0 [n] h1 h2 (by omega) (by omega) (by simp) (Nat.lt_succ_self _) (by simp; omega)
  refine ⟨r, r1, r2, r3, r4, r5, ?_⟩
  unfold impl_toOne.f
  rw [impl_isPlace_eq]
  exact Ev.pure rfl (Ev.pos (decide_eq_true ⟨h1, h2⟩) (Ev.bind r6 (Ev.now _)))
theorem toOne_no {n : Int} (h : ¬ (1 ≤ n ∧ n ≤ 1000000000000)) : Ev (fun q => impl_toOne.f q n) ([], false) := by
  unfold impl_toOne.f
  rw [impl_isPlace_eq]
  exact Ev.pure rfl (Ev.neg (by simp [h]) (Ev.now _))

theorem wt_ev (n : Int) : ∃ r : List Int × Bool, r.1.length ≤ 1001 ∧ Ev (fun k => spec_WayToOne.f k n) r ∧ Ev (fun k => impl_WayToOne.f k n) r := by
  unfold spec_WayToOne.f impl_WayToOne.f
  rw [spec_stNumber_eq]
  by_cases h : 1 ≤ n ∧ n ≤ 1000000000000
  · obtain ⟨r, r1, _, _, _, r5, r6⟩ := way_ev h.1 h.2
    exact ⟨r, r1, Ev.pure rfl (Ev.pos (decide_eq_true h) (Ev.bind r5 (Ev.now _))), Ev.bind r6 (Ev.now _)⟩
  · exact ⟨([], false), by simp, Ev.pure rfl (Ev.neg (by simp [h]) (Ev.now _)), Ev.bind (toOne_no h) (Ev.now _)⟩

theorem FnExactWayToOne : laws_FnExactWayToOne.Pure := by
  intro a0 hw
  apply Ev.rounds
  obtain ⟨⟨l, ok⟩, hl, hs, hi⟩ := wt_ev a0
  simp only at hl
  have he := eq_ev l (by omega)
  have hm := mark_ev l (by omega)
  have hh := held_ev l.length (by omega)
  refine Ev.bind hs (Ev.bind hi (Ev.bind he (Ev.pos rfl ?_)))
  refine Ev.step (fun k => by rw [laws_FnExactWayToOne.j0]) (Ev.neg (by simp) (Ev.bind hm (Ev.bind hh (Ev.neg (not_neg _) (Ev.pos rfl (Ev.bind hi (Ev.bind he (Ev.pos rfl ?_))))))))
  exact Ev.step (fun k => by rw [laws_FnExactWayToOne.j1]) (Ev.neg (by simp) (Ev.bind hh (Ev.neg (not_neg _) (Ev.pos rfl (Ev.now _)))))

end Go.Proofs.Ytpmhbpapchmeiaa.Pure
