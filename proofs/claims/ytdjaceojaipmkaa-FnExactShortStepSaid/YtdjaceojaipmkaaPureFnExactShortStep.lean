/- For every int n, the program's ShortStep gives what the reference's gives: the half, or (3 n + 1) / 2, if it is no greater than the bound. No conditions. -/
import Derived.Test.YtdjaceojaipmkaaPFnExactShortStepx1
namespace Go.Proofs.Ytdjaceojaipmkaa.Pure
open Go.RowKit Go.Proofs.Ytdjaceojaipmkaa.PFnExactShortStep Go.Proofs.YtdjaceojaipmkaaW.PrintWords Go.Proofs.YtdjaceojaipmkaaW.PrintLast

theorem wf_i64 {x : Int} (h : (Lit.int .i64 x).wf = true) : -9223372036854775808 ≤ x ∧ x ≤ 9223372036854775807 := by
  simp only [Lit.wf, Bool.and_eq_true, decide_eq_true_eq, show IntKind.i64.min = -9223372036854775808 from rfl, show IntKind.i64.max = 9223372036854775807 from rfl] at h
  exact h
theorem w64 {x : Int} (h0 : -9223372036854775808 ≤ x) (h1 : x ≤ 9223372036854775807) : wrap64 x = x := by unfold wrap64; omega
theorem Ev.pos {α : Type} {c : Prop} [Decidable c] {A B : Nat → Option α} {r : α} (h : c) (e : Ev A r) : Ev (fun k => if c then A k else B k) r := by simpa only [if_pos h] using e
theorem Ev.neg {α : Type} {c : Prop} [Decidable c] {A B : Nat → Option α} {r : α} (h : ¬ c) (e : Ev B r) : Ev (fun k => if c then A k else B k) r := by simpa only [if_neg h] using e
theorem Ev.val {α : Type} {a r : α} (h : a = r) : Ev (fun _ => some a) r := h ▸ Ev.now a
theorem Ev.pure {α β : Type} {o : Option α} {f : Nat → α → Option β} {a : α} {r : β} (h : o = some a) (k : Ev (fun n => f n a) r) : Ev (fun n => o.bind (f n)) r := by subst h; exact k
theorem Ev.call {α β : Type} {g : Nat → Option α} {f : Nat → α → Option β} {a : α} {r : β} (h : Ev g a) (k : Ev (fun n => f n a) r) : Ev (fun n => (g n).bind (f n)) r := Ev.bind h k
theorem Ev.same {α : Type} {g f : Nat → Option α} {r : α} (h : ∀ k, g k = f k) (k : Ev g r) : Ev f r := Ev.congr (fun k => (h k).symm) k

theorem spec_stNumber_eq (a : Int) : spec_stNumber.f a = some (decide (1 ≤ a ∧ a ≤ 1000000000000)) := by
  unfold spec_stNumber.f spec_l1In.f
  by_cases h : a ≥ 1
  · rw [if_pos h]; simp [show 1 ≤ a from h]
  · rw [if_neg h]; simp; omega
theorem impl_isPlace_eq (a : Int) : impl_isPlace.f a = some (decide (1 ≤ a ∧ a ≤ 1000000000000)) := by
  unfold impl_isPlace.f impl_in.f
  by_cases h : 1 ≤ a
  · rw [if_pos h]; simp [h]
  · rw [if_neg h]; simp; omega

theorem spec_stIf_eq (a : Int) (h : 1 ≤ a) : spec_stIf.f a = impl_told.f a := by
  unfold spec_stIf.f impl_told.f
  rw [spec_stNumber_eq]
  by_cases h1 : a > 1000000000000
  · rw [if_pos h1]; simp; omega
  · rw [if_neg h1]; simp; omega

theorem short_pos (a : Int) (h1 : 1 ≤ a) (h2 : a ≤ 1000000000000) : ∃ r, impl_short.f a = some r ∧ spec_stShort.f a = some r ∧ 1 ≤ r := by
  unfold impl_short.f spec_stShort.f
  have e2 : Int.tmod a 2 = a % 2 := Int.tmod_eq_emod_of_nonneg (by omega)
  have e3 : Int.tdiv a 2 = a / 2 := Int.tdiv_eq_ediv_of_nonneg (by omega)
  rw [e2, e3]
  by_cases h : a % 2 = 0
  · rw [if_pos h]
    exact ⟨_, rfl, rfl, by rw [w64 (by omega) (by omega)]; omega⟩
  · rw [if_neg h]
    refine ⟨_, rfl, rfl, ?_⟩
    rw [w64 (x := 3 * a) (by omega) (by omega), w64 (x := 3 * a + 1) (by omega) (by omega), Int.tdiv_eq_ediv_of_nonneg (by omega), w64 (by omega) (by omega)]
    omega

theorem FnExactShortStep : laws_FnExactShortStep.Pure := by
  intro a0 hw
  unfold laws_FnExactShortStep.f spec_ShortStep.f impl_ShortStep.f
  rw [spec_stNumber_eq, impl_isPlace_eq]
  by_cases h : 1 ≤ a0 ∧ a0 ≤ 1000000000000
  · obtain ⟨r, hi, hs, hr⟩ := short_pos a0 h.1 h.2
    rw [hi, hs]
    simp only [Option.bind_some, decide_eq_true h, if_true]
    rw [spec_stIf_eq r hr]
    unfold impl_told.f
    split <;> simp
  · simp [h]

end Go.Proofs.Ytdjaceojaipmkaa.Pure
