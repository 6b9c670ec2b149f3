/- For every int n, the program's FallsBelow gives what the reference's gives. No conditions. -/
import Derived.Test.YtpmhbpapchmeiaaPFnExactFallsBelowx1
namespace Go.Proofs.Ytpmhbpapchmeiaa.Pure
open Go.RowKit Go.Proofs.Ytpmhbpapchmeiaa.PFnExactFallsBelow Go.Proofs.YtpmhbpapchmeiaaW.PrintWords Go.Proofs.YtpmhbpapchmeiaaW.PrintLast

theorem wf_i64 {x : Int} (h : (Lit.int .i64 x).wf = true) : -9223372036854775808 ≤ x ∧ x ≤ 9223372036854775807 := by
  simp only [Lit.wf, Bool.and_eq_true, decide_eq_true_eq, show IntKind.i64.min = -9223372036854775808 from rfl, show IntKind.i64.max = 9223372036854775807 from rfl] at h
  exact h
theorem w64 {x : Int} (h0 : -9223372036854775808 ≤ x) (h1 : x ≤ 9223372036854775807) : wrap64 x = x := by unfold wrap64; omega
theorem Ev.pos {α : Type} {c : Prop} [Decidable c] {A B : Nat → Option α} {r : α} (h : c) (e : Ev A r) : Ev (fun k => if c then A k else B k) r := by simpa only [if_pos h] using e
theorem Ev.neg {α : Type} {c : Prop} [Decidable c] {A B : Nat → Option α} {r : α} (h : ¬ c) (e : Ev B r) : Ev (fun k => if c then A k else B k) r := by simpa only [if_neg h] using e
theorem Ev.val {α : Type} {a r : α} (h : a = r) : Ev (fun _ => some a) r := h ▸ Ev.now a
theorem Ev.pure {α β : Type} {o : Option α} {f : Nat → α → Option β} {a : α} {r : β} (h : o = some a) (k : Ev (fun n => f n a) r) : Ev (fun n => o.bind (f n)) r := by subst h; exact k
theorem Ev.call {α β : Type} {g : Nat → Option α} {f : Nat → α → Option β} {a : α} {r : β} (h : Ev g a) (k : Ev (fun n => f n a) r) : Ev (fun n => (g n).bind (f n)) r := Ev.bind h k
theorem Ev.same {α : Type} {g f : Nat → Option α} {r : α} (h : ∀ k, g k = f k) (k : Ev g r) : Ev f r := Ev.congr (fun k => (h k).symm) k

theorem div_lt_of {n d : Int} (hn : 1 ≤ n) (hd : 2 ≤ d) : n / d < n := by
  apply Int.ediv_lt_of_lt_mul (by omega)
  have : n * 2 ≤ n * d := Int.mul_le_mul_of_nonneg_left hd (by omega)
  omega
theorem div_ge {n d : Int} (hn : 0 ≤ n) (hd : 2 ≤ d) : 0 ≤ n / d := Int.ediv_nonneg hn (by omega)
theorem div_le {n d : Int} (hn : 0 ≤ n) (hd : 2 ≤ d) : n / d ≤ n := by
  by_cases h : n = 0
  · subst h; simp
  · have := div_lt_of (n := n) (d := d) (by omega) hd; omega
theorem div_pos_of {n d : Int} (hn : 1 ≤ n) (hd : 2 ≤ d) (h : n % d = 0) : 1 ≤ n / d := by
  have e := Int.mul_ediv_add_emod n d
  have h0 : 0 ≤ n / d := div_ge (by omega) hd
  by_cases hz : n / d = 0
  · rw [hz, h] at e; simp at e; omega
  · omega
theorem tmod_of {a b : Int} (h : 0 ≤ a) : Int.tmod a b = a % b := Int.tmod_eq_emod_of_nonneg h
theorem tdiv_of {a b : Int} (h : 0 ≤ a) : Int.tdiv a b = a / b := Int.tdiv_eq_ediv_of_nonneg h

theorem spec_stNumber_eq (a : Int) : spec_stNumber.f a = some (decide (1 ≤ a ∧ a ≤ 1000000000000)) := by
  unfold spec_stNumber.f spec_l1In.f
  by_cases h : a ≥ 1
  · rw [if_pos h]; simp [show 1 ≤ a from h]
  · rw [if_neg h]; simp; omega

theorem step_pos (a d : Int) (h1 : 1 ≤ a) (h2 : a ≤ 1000000000000) (h3 : 1 ≤ d) (h4 : d ≤ 99) : ∃ r, impl_stepWith.f a d = some r ∧ spec_stStep.f a d = some r ∧ 1 ≤ r := by
  unfold impl_stepWith.f spec_stStep.f
  have e2 : Int.tmod a 2 = a % 2 := Int.tmod_eq_emod_of_nonneg (by omega)
  have e3 : Int.tdiv a 2 = a / 2 := Int.tdiv_eq_ediv_of_nonneg (by omega)
  rw [e2, e3]
  by_cases h : a % 2 = 0
  · rw [if_pos h]
    exact ⟨_, rfl, rfl, by rw [w64 (by omega) (by omega)]; omega⟩
  · rw [if_neg h]
    refine ⟨_, rfl, rfl, ?_⟩
    rw [w64 (x := 3 * a) (by omega) (by omega), w64 (x := 3 * a + d) (by omega) (by omega)]
    omega

theorem fall_l0 (n : Int) : ∀ (m : Nat) (x s : Int) (l : List Int), 1 ≤ x → x ≤ 1000000000000 → 0 ≤ s → s ≤ 1000 → (l.length : Int) = s + 1 → (1000 - s).toNat < m →
    ∃ r : Int × Bool, Ev (fun q => spec_FallsBelow.l0 q n x s) r ∧ Ev (fun q => (impl_way.l0 q x n l s).bind fun bt => some (mx (wrap64 ((bt.1.length : Int) - 1)) 0, bt.2)) r
  | 0, _, _, _, _, _, _, _, _, h => by omega
  | m + 1, x, s, l, h1, h2, h3, h4, h5, h => by
    have e0 : mx (wrap64 (((([] : List Int).length : Nat) : Int) - 1)) 0 = 0 := by decide +kernel
    by_cases hx : x ≥ n
    · obtain ⟨t, hi, hs, ht⟩ := step_pos x 1 h1 h2 (by omega) (by omega)
      have hnb : ¬ (decide (x < n) = true) := by simp; omega
      have ew : wrap64 (s + 1) = s + 1 := w64 (by omega) (by omega)
      by_cases hk : s = 1000
      · refine ⟨(0, false), ?_, ?_⟩
        · refine Ev.step (fun k => by rw [spec_FallsBelow.l0]) ?_
          refine Ev.pos hx (Ev.pure hs (Ev.pure (spec_stNumber_eq t) ?_))
          by_cases hc : decide (1 ≤ t ∧ t ≤ 1000000000000) = true
          · exact Ev.pos hc (Ev.pos (by rw [ew]; omega) (Ev.now _))
          · exact Ev.neg hc (Ev.now _)
        · refine Ev.bind (a := ([], false)) ?_ (Ev.val (by rw [e0]))
          refine Ev.step (fun k => by rw [impl_way.l0]) ?_
          exact Ev.pure rfl (Ev.neg hnb (Ev.pure hi (Ev.pos hk (Ev.now _))))
      · by_cases hc : t ≤ 1000000000000
        · obtain ⟨r, r1, ⟨K, r2⟩⟩ := fall_l0 n m t (s + 1) (l ++ [t]) ht hc (by omega) (by omega) (by simp; omega) (by omega)
          refine ⟨r, ?_, ?_⟩
          · refine Ev.step (fun k => by rw [spec_FallsBelow.l0]) ?_
            refine Ev.pos hx (Ev.pure hs (Ev.pure (spec_stNumber_eq t) (Ev.pos (decide_eq_true ⟨ht, hc⟩) ?_)))
            rw [ew]
            exact Ev.neg (by omega) r1
          · refine ⟨K + 1, fun q hq => ?_⟩
            obtain ⟨j, rfl⟩ : ∃ j, q = j + 1 := ⟨q - 1, by omega⟩
            have := r2 j (by omega)
            show (impl_way.l0 (j + 1) x n l s).bind (fun bt => some (mx (wrap64 ((bt.1.length : Int) - 1)) 0, bt.2)) = some r
            rw [impl_way.l0]
            simp only [impl_FallsBelow_1.f, Option.bind_some]
            rw [if_neg hnb, hi]
            simp only [Option.bind_some]
            rw [if_neg hk, if_neg (by omega), if_pos (by omega), ew]
            exact this
        · refine ⟨(0, false), ?_, ?_⟩
          · refine Ev.step (fun k => by rw [spec_FallsBelow.l0]) ?_
            exact Ev.pos hx (Ev.pure hs (Ev.pure (spec_stNumber_eq t) (Ev.neg (by simp; omega) (Ev.now _))))
          · refine Ev.bind (a := ([], false)) ?_ (Ev.val (by rw [e0]))
            refine Ev.step (fun k => by rw [impl_way.l0]) ?_
            exact Ev.pure rfl (Ev.neg hnb (Ev.pure hi (Ev.neg hk (Ev.pos (by omega) (Ev.now _)))))
    · refine ⟨(s, true), ?_, ?_⟩
      · refine Ev.step (fun k => by rw [spec_FallsBelow.l0]) ?_
        exact Ev.neg hx (Ev.now _)
      · refine Ev.bind (a := (l, true)) ?_ (Ev.val ?_)
        · refine Ev.step (fun k => by rw [impl_way.l0]) ?_
          exact Ev.pure rfl (Ev.pos (by simp; omega) (Ev.now _))
        · simp only
          rw [h5, w64 (by omega) (by omega)]
          unfold mx
          rw [if_neg (by omega)]
          congr 1
          omega
theorem fb_ev (n : Int) : ∃ r, Ev (fun k => spec_FallsBelow.f k n) r ∧ Ev (fun k => impl_FallsBelow.f k n) r := by
  have e1 : spec_l1In.f n 2 1000000000000 = some (decide (2 ≤ n ∧ n ≤ 1000000000000)) := by
    unfold spec_l1In.f
    by_cases h : 2 ≤ n
    · rw [if_pos (show n ≥ 2 from h)]; simp [h]
    · rw [if_neg (show ¬ n ≥ 2 from h)]; simp [h]
  have e2 : impl_in.f n 2 1000000000000 = some (decide (2 ≤ n ∧ n ≤ 1000000000000)) := e1
  unfold spec_FallsBelow.f impl_FallsBelow.f
  rw [e1, e2]
  by_cases h : 2 ≤ n ∧ n ≤ 1000000000000
  · obtain ⟨r, r1, r2⟩ := fall_l0 n _ n 0 [n] (by omega) h.2 (by omega) (by omega) (by simp) (Nat.lt_succ_self _)
    exact ⟨r, Ev.pure rfl (Ev.pos (decide_eq_true h) r1), Ev.pure rfl (Ev.pos (decide_eq_true h) r2)⟩
  · exact ⟨(0, false), Ev.pure rfl (Ev.neg (by simp [h]) (Ev.now _)), Ev.pure rfl (Ev.neg (by simp [h]) (Ev.now _))⟩

theorem FnExactFallsBelow : laws_FnExactFallsBelow.Pure := by
  intro a0 hw
  apply Ev.rounds
  obtain ⟨r, hs, hi⟩ := fb_ev a0
  refine Ev.bind hs (Ev.bind hi ?_)
  simp; exact Ev.now _

end Go.Proofs.Ytpmhbpapchmeiaa.Pure
