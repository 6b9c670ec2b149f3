/- For all ints n and d, the program's StepWith gives what the reference's gives: the half of an even n, 3 n + d otherwise, if valid and no greater than the bound. No conditions. -/
import Derived.Test.YtdjaceojaipmkaaPFnExactStepWithx1
namespace Go.Proofs.Ytdjaceojaipmkaa.Pure
open Go.RowKit Go.Proofs.Ytdjaceojaipmkaa.PFnExactStepWith Go.Proofs.YtdjaceojaipmkaaW.PrintWords Go.Proofs.YtdjaceojaipmkaaW.PrintLast

theorem wf_i64 {x : Int} (h : (Lit.int .i64 x).wf = true) : -9223372036854775808 ≤ x ∧ x ≤ 9223372036854775807 := by
  simp only [Lit.wf, Bool.and_eq_true, decide_eq_true_eq, show IntKind.i64.min = -9223372036854775808 from rfl, show IntKind.i64.max = 9223372036854775807 from rfl] at h
  exact h
theorem w64 {x : Int} (h0 : -9223372036854775808 ≤ x) (h1 : x ≤ 9223372036854775807) : wrap64 x = x := by unfold wrap64; omega
theorem Ev.pos {α : Type} {c : Prop} [Decidable c] {A B : Nat → Option α} {r : α} (h : c) (e : Ev A r) : Ev (fun k => if c then A k else B k) r := by simpa only [if_pos h] using e
theorem Ev.neg {α : Type} {c : Prop} [Decidable c] {A B : Nat → Option α} {r : α} (h : ¬ c) (e : Ev B r) : Ev (fun k => if c then A k else B k) r := by simpa only [if_neg h] using e
theorem Ev.val {α : Type} {a r : α} (h : a = r) : Ev (fun _ => some a) r := h ▸ Ev.now a
theorem Ev.pure {α β : Type} {o : Option α} {f : Nat → α → Option β} {a : α} {r : β} (h : o = some a) (k : Ev (fun n => f n a) r) : Ev (fun n => o.bind (f n)) r := by subst h; exact k
theorem Ev.call {α β : Type} {g : Nat → Option α} {f : Nat → α → Option β} {a : α} {r : β} (h : Ev g a) (k : Ev (fun n => f n a) r) : Ev (fun n => (g n).bind (f n)) r := Ev.bind h k
theorem Ev.same {α : Type} {g f : Nat → Option α} {r : α} (h : ∀ k, g k = f k) (k : Ev g r) : Ev f r := Ev.congr (fun k => (h k).symm) k

theorem spec_stNumber_eq (a : Int) : spec_stNumber.f a = some (decide (1 ≤ a ∧ a ≤ 1000000000000)) := by
  unfold spec_stNumber.f spec_l1In.f
  by_cases h : a ≥ 1
  · rw [if_pos h]; simp [show 1 ≤ a from h]
  · rw [if_neg h]; simp; omega
theorem impl_isPlace_eq (a : Int) : impl_isPlace.f a = some (decide (1 ≤ a ∧ a ≤ 1000000000000)) := by
  unfold impl_isPlace.f impl_in.f
  by_cases h : 1 ≤ a
  · rw [if_pos h]; simp [h]
  · rw [if_neg h]; simp; omega

theorem spec_stIf_eq (a : Int) (h : 1 ≤ a) : spec_stIf.f a = impl_told.f a := by
  unfold spec_stIf.f impl_told.f
  rw [spec_stNumber_eq]
  by_cases h1 : a > 1000000000000
  · rw [if_pos h1]; simp; omega
  · rw [if_neg h1]; simp; omega

theorem step_pos (a d : Int) (h1 : 1 ≤ a) (h2 : a ≤ 1000000000000) (h3 : 1 ≤ d) (h4 : d ≤ 99) : ∃ r, impl_stepWith.f a d = some r ∧ spec_stStep.f a d = some r ∧ 1 ≤ r := by
  unfold impl_stepWith.f spec_stStep.f
  have e2 : Int.tmod a 2 = a % 2 := Int.tmod_eq_emod_of_nonneg (by omega)
  have e3 : Int.tdiv a 2 = a / 2 := Int.tdiv_eq_ediv_of_nonneg (by omega)
  rw [e2, e3]
  by_cases h : a % 2 = 0
  · rw [if_pos h]
    exact ⟨_, rfl, rfl, by rw [w64 (by omega) (by omega)]; omega⟩
  · rw [if_neg h]
    refine ⟨_, rfl, rfl, ?_⟩
    rw [w64 (x := 3 * a) (by omega) (by omega), w64 (x := 3 * a + d) (by omega) (by omega)]
    omega

theorem added_eq (d : Int) : ∃ b, spec_stAdded.f d = some b ∧ impl_isAdded.f d = some b ∧ (b = true → 1 ≤ d ∧ d ≤ 99) := by
  unfold spec_stAdded.f impl_isAdded.f spec_l1In.f impl_in.f
  by_cases h : 1 ≤ d
  · rw [if_pos h]
    by_cases h2 : d ≤ 99
    · simp [h, h2]
    · simp [h2]
  · rw [if_neg h]
    exact ⟨false, by simp, by simp, by simp⟩

theorem FnExactStepWith : laws_FnExactStepWith.Pure := by
  intro a0 a1 hw hw1
  refine ⟨1, ?_⟩
  unfold laws_FnExactStepWith.f spec_StepWith.f impl_StepWith.f
  rw [spec_stNumber_eq, impl_isPlace_eq]
  obtain ⟨b, hs, hi, hb⟩ := added_eq a1
  rw [hs, hi]
  by_cases h : 1 ≤ a0 ∧ a0 ≤ 1000000000000
  · simp only [Option.bind_some, decide_eq_true h, if_true]
    cases b with
    | false => simp [spec_StepWith.j0, impl_StepWith.j0]
    | true =>
      obtain ⟨h1, h2⟩ := hb rfl
      obtain ⟨r, hi, hs, hr⟩ := step_pos a0 a1 h.1 h.2 h1 h2
      simp only [spec_StepWith.j0, impl_StepWith.j0, Bool.not_true, Bool.false_eq_true, if_false, hi, hs, Option.bind_some]
      rw [spec_stIf_eq r hr]
      unfold impl_told.f
      split <;> simp
  · simp [h, spec_StepWith.j0, impl_StepWith.j0]

end Go.Proofs.Ytdjaceojaipmkaa.Pure
