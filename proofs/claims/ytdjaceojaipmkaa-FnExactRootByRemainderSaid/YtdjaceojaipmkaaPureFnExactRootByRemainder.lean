/- For all ints n and base, the program's RootByRemainder gives what the reference's gives. No conditions. -/
import Derived.Test.YtdjaceojaipmkaaPFnExactRootByRemainderx1
namespace Go.Proofs.Ytdjaceojaipmkaa.Pure
open Go.RowKit Go.Proofs.Ytdjaceojaipmkaa.PFnExactRootByRemainder Go.Proofs.YtdjaceojaipmkaaW.PrintWords Go.Proofs.YtdjaceojaipmkaaW.PrintLast

theorem wf_i64 {x : Int} (h : (Lit.int .i64 x).wf = true) : -9223372036854775808 ≤ x ∧ x ≤ 9223372036854775807 := by
  simp only [Lit.wf, Bool.and_eq_true, decide_eq_true_eq, show IntKind.i64.min = -9223372036854775808 from rfl, show IntKind.i64.max = 9223372036854775807 from rfl] at h
  exact h
theorem w64 {x : Int} (h0 : -9223372036854775808 ≤ x) (h1 : x ≤ 9223372036854775807) : wrap64 x = x := by unfold wrap64; omega
theorem Ev.pos {α : Type} {c : Prop} [Decidable c] {A B : Nat → Option α} {r : α} (h : c) (e : Ev A r) : Ev (fun k => if c then A k else B k) r := by simpa only [if_pos h] using e
theorem Ev.neg {α : Type} {c : Prop} [Decidable c] {A B : Nat → Option α} {r : α} (h : ¬ c) (e : Ev B r) : Ev (fun k => if c then A k else B k) r := by simpa only [if_neg h] using e
theorem Ev.val {α : Type} {a r : α} (h : a = r) : Ev (fun _ => some a) r := h ▸ Ev.now a
theorem Ev.pure {α β : Type} {o : Option α} {f : Nat → α → Option β} {a : α} {r : β} (h : o = some a) (k : Ev (fun n => f n a) r) : Ev (fun n => o.bind (f n)) r := by subst h; exact k
theorem Ev.call {α β : Type} {g : Nat → Option α} {f : Nat → α → Option β} {a : α} {r : β} (h : Ev g a) (k : Ev (fun n => f n a) r) : Ev (fun n => (g n).bind (f n)) r := Ev.bind h k
theorem Ev.same {α : Type} {g f : Nat → Option α} {r : α} (h : ∀ k, g k = f k) (k : Ev g r) : Ev f r := Ev.congr (fun k => (h k).symm) k

def asked (n base : Int) : Prop := (0 ≤ n ∧ n ≤ 1000000000000) ∧ (2 ≤ base ∧ base ≤ 16)
instance (n base : Int) : Decidable (asked n base) := by unfold asked; infer_instance
theorem spec_l1In_eq (a b c : Int) : spec_l1In.f a b c = some (decide (b ≤ a ∧ a ≤ c)) := by
  unfold spec_l1In.f
  by_cases h : b ≤ a
  · rw [if_pos (show a ≥ b from h)]; simp [h]
  · rw [if_neg (show ¬ a ≥ b from h)]; simp [h]
theorem impl_in_eq (a b c : Int) : impl_in.f a b c = some (decide (b ≤ a ∧ a ≤ c)) := by
  unfold impl_in.f
  by_cases h : b ≤ a
  · rw [if_pos h]; simp [h]
  · rw [if_neg h]; simp [h]
theorem spec_dgBase_eq (b : Int) : spec_dgBase.f b = some (decide (2 ≤ b ∧ b ≤ 16)) := by
  unfold spec_dgBase.f
  rw [spec_l1In_eq]; simp
theorem impl_isBase_eq (b : Int) : impl_isBase.f b = some (decide (2 ≤ b ∧ b ≤ 16)) := by
  unfold impl_isBase.f
  rw [impl_in_eq]; simp
theorem spec_dgAsked_eq (a b : Int) : spec_dgAsked.f a b = some (decide (asked a b)) := by
  unfold spec_dgAsked.f spec_dgNumber.f asked
  rw [spec_dgBase_eq, spec_l1In_eq]
  by_cases h : 0 ≤ a ∧ a ≤ 1000000000000
  · simp [h]
  · simp [h]
theorem impl_isNumber_eq (a b : Int) : impl_isNumber.f a b = some (decide (asked a b)) := by
  unfold impl_isNumber.f asked
  rw [impl_isBase_eq, impl_in_eq]
  by_cases h : 0 ≤ a ∧ a ≤ 1000000000000
  · simp [h]
  · simp [h]


theorem FnExactRootByRemainder : laws_FnExactRootByRemainder.Pure := by
  intro a0 a1 hw hw1
  unfold laws_FnExactRootByRemainder.f spec_RootByRemainder.f impl_RootByRemainder.f
  rw [spec_dgAsked_eq, impl_isNumber_eq]
  by_cases h : asked a0 a1
  · have h' := h
    unfold asked at h'
    have n0 : ¬ a1 - 1 = 0 := by omega
    have e1 : wrap64 (a1 - 1) = a1 - 1 := w64 (by omega) (by omega)
    simp only [Option.bind_some, decide_eq_true h, if_true, e1]
    by_cases h0 : a0 = 0
    · simp [h0]
    · rw [if_neg h0, if_neg n0, if_neg h0, if_neg n0]
      simp [Int.add_comm]
  · simp [h]

end Go.Proofs.Ytdjaceojaipmkaa.Pure
