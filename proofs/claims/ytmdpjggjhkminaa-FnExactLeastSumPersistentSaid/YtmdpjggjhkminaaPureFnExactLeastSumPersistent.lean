/- For all ints k and base, the program's LeastSumPersistent gives what the reference's gives. No conditions. -/
import Derived.Test.YtmdpjggjhkminaaPFnExactLeastSumPersistentx2
namespace Go.Proofs.Ytmdpjggjhkminaa.Pure
open Go.RowKit Go.Proofs.Ytmdpjggjhkminaa.PFnExactLeastSumPersistent Go.Proofs.YtmdpjggjhkminaaW.PrintWords Go.Proofs.YtmdpjggjhkminaaW.PrintLast

theorem wf_i64 {x : Int} (h : (Lit.int .i64 x).wf = true) : -9223372036854775808 ≤ x ∧ x ≤ 9223372036854775807 := by
  simp only [Lit.wf, Bool.and_eq_true, decide_eq_true_eq, show IntKind.i64.min = -9223372036854775808 from rfl, show IntKind.i64.max = 9223372036854775807 from rfl] at h
  exact h
theorem w64 {x : Int} (h0 : -9223372036854775808 ≤ x) (h1 : x ≤ 9223372036854775807) : wrap64 x = x := by unfold wrap64; omega
theorem Ev.pos {α : Type} {c : Prop} [Decidable c] {A B : Nat → Option α} {r : α} (h : c) (e : Ev A r) : Ev (fun k => if c then A k else B k) r := by simpa only [if_pos h] using e
theorem Ev.neg {α : Type} {c : Prop} [Decidable c] {A B : Nat → Option α} {r : α} (h : ¬ c) (e : Ev B r) : Ev (fun k => if c then A k else B k) r := by simpa only [if_neg h] using e
theorem Ev.val {α : Type} {a r : α} (h : a = r) : Ev (fun _ => some a) r := h ▸ Ev.now a
theorem Ev.pure {α β : Type} {o : Option α} {f : Nat → α → Option β} {a : α} {r : β} (h : o = some a) (k : Ev (fun n => f n a) r) : Ev (fun n => o.bind (f n)) r := by subst h; exact k
theorem Ev.call {α β : Type} {g : Nat → Option α} {f : Nat → α → Option β} {a : α} {r : β} (h : Ev g a) (k : Ev (fun n => f n a) r) : Ev (fun n => (g n).bind (f n)) r := Ev.bind h k
theorem Ev.same {α : Type} {g f : Nat → Option α} {r : α} (h : ∀ k, g k = f k) (k : Ev g r) : Ev f r := Ev.congr (fun k => (h k).symm) k

theorem spec_l1In_eq (a b c : Int) : spec_l1In.f a b c = some (decide (b ≤ a ∧ a ≤ c)) := by
  unfold spec_l1In.f
  by_cases h : b ≤ a
  · rw [if_pos (show a ≥ b from h)]; simp [h]
  · rw [if_neg (show ¬ a ≥ b from h)]; simp [h]
theorem impl_in_eq (a b c : Int) : impl_in.f a b c = some (decide (b ≤ a ∧ a ≤ c)) := by
  unfold impl_in.f
  by_cases h : b ≤ a
  · rw [if_pos h]; simp [h]
  · rw [if_neg h]; simp [h]
theorem spec_dgBase_eq (b : Int) : spec_dgBase.f b = some (decide (2 ≤ b ∧ b ≤ 16)) := by
  unfold spec_dgBase.f
  rw [spec_l1In_eq]; simp
theorem impl_isBase_eq (b : Int) : impl_isBase.f b = some (decide (2 ≤ b ∧ b ≤ 16)) := by
  unfold impl_isBase.f
  rw [impl_in_eq]; simp

def lspAll : Bool := (List.range 4).all fun k => (List.range 15).all fun b => laws_FnExactLeastSumPersistent.f 120 (k : Int) ((b : Int) + 2) == some true
theorem lspAll_true : lspAll = true := by decide +kernel

theorem FnExactLeastSumPersistent : laws_FnExactLeastSumPersistent.Pure := by
  intro a0 a1 hw hw1
  by_cases h : 2 ≤ a1 ∧ a1 ≤ 16
  · by_cases h2 : 0 ≤ a0 ∧ a0 ≤ 3
    · refine ⟨120, ?_⟩
      have hall := lspAll_true
      unfold lspAll at hall
      rw [List.all_eq_true] at hall
      have h3 := hall a0.toNat (by rw [List.mem_range]; omega)
      rw [List.all_eq_true] at h3
      have h4 := h3 (a1 - 2).toNat (by rw [List.mem_range]; omega)
      have e0 : ((a0.toNat : Nat) : Int) = a0 := by omega
      have e1 : (((a1 - 2).toNat : Nat) : Int) + 2 = a1 := by omega
      rw [e0, e1] at h4
      exact beq_iff_eq.mp h4
    · refine ⟨2, ?_⟩
      unfold laws_FnExactLeastSumPersistent.f spec_LeastSumPersistent.f impl_LeastSumPersistent.f
      simp only [spec_dgBase_eq, impl_isBase_eq, spec_l1In_eq, impl_in_eq, Option.bind_some, decide_eq_true h, decide_eq_false h2, if_true, Bool.not_false, Bool.false_eq_true, if_false]
      simp [spec_LeastSumPersistent.j0, impl_LeastSumPersistent.j0]
  · refine ⟨2, ?_⟩
    unfold laws_FnExactLeastSumPersistent.f spec_LeastSumPersistent.f impl_LeastSumPersistent.f
    simp only [spec_dgBase_eq, impl_isBase_eq, spec_l1In_eq, impl_in_eq, Option.bind_some, decide_eq_false h, Bool.not_false, Bool.false_eq_true, if_false]
    by_cases h2 : 0 ≤ a0 ∧ a0 ≤ 3
    · simp [h2, spec_LeastSumPersistent.j0, impl_LeastSumPersistent.j0]
    · simp [h2, spec_LeastSumPersistent.j0, impl_LeastSumPersistent.j0]

end Go.Proofs.Ytmdpjggjhkminaa.Pure
