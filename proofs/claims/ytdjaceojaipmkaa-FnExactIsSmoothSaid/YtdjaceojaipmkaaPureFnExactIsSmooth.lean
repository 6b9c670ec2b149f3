/- For all ints n and base, the program's IsSmooth gives what the reference's gives. No conditions. -/
import Derived.Test.YtdjaceojaipmkaaPFnExactIsSmoothx1
namespace Go.Proofs.Ytdjaceojaipmkaa.Pure
open Go.RowKit Go.Proofs.Ytdjaceojaipmkaa.PFnExactIsSmooth Go.Proofs.YtdjaceojaipmkaaW.PrintWords Go.Proofs.YtdjaceojaipmkaaW.PrintLast

theorem wf_i64 {x : Int} (h : (Lit.int .i64 x).wf = true) : -9223372036854775808 ≤ x ∧ x ≤ 9223372036854775807 := by
  simp only [Lit.wf, Bool.and_eq_true, decide_eq_true_eq, show IntKind.i64.min = -9223372036854775808 from rfl, show IntKind.i64.max = 9223372036854775807 from rfl] at h
  exact h
theorem w64 {x : Int} (h0 : -9223372036854775808 ≤ x) (h1 : x ≤ 9223372036854775807) : wrap64 x = x := by unfold wrap64; omega
theorem Ev.pos {α : Type} {c : Prop} [Decidable c] {A B : Nat → Option α} {r : α} (h : c) (e : Ev A r) : Ev (fun k => if c then A k else B k) r := by simpa only [if_pos h] using e
theorem Ev.neg {α : Type} {c : Prop} [Decidable c] {A B : Nat → Option α} {r : α} (h : ¬ c) (e : Ev B r) : Ev (fun k => if c then A k else B k) r := by simpa only [if_neg h] using e
theorem Ev.val {α : Type} {a r : α} (h : a = r) : Ev (fun _ => some a) r := h ▸ Ev.now a
theorem Ev.pure {α β : Type} {o : Option α} {f : Nat → α → Option β} {a : α} {r : β} (h : o = some a) (k : Ev (fun n => f n a) r) : Ev (fun n => o.bind (f n)) r := by subst h; exact k
theorem Ev.call {α β : Type} {g : Nat → Option α} {f : Nat → α → Option β} {a : α} {r : β} (h : Ev g a) (k : Ev (fun n => f n a) r) : Ev (fun n => (g n).bind (f n)) r := Ev.bind h k
theorem Ev.same {α : Type} {g f : Nat → Option α} {r : α} (h : ∀ k, g k = f k) (k : Ev g r) : Ev f r := Ev.congr (fun k => (h k).symm) k

theorem div_lt_of {n d : Int} (hn : 1 ≤ n) (hd : 2 ≤ d) : n / d < n := by
  apply Int.ediv_lt_of_lt_mul (by omega)
  have : n * 2 ≤ n * d := Int.mul_le_mul_of_nonneg_left hd (by omega)
  omega
theorem div_ge {n d : Int} (hn : 0 ≤ n) (hd : 2 ≤ d) : 0 ≤ n / d := Int.ediv_nonneg hn (by omega)
theorem div_le {n d : Int} (hn : 0 ≤ n) (hd : 2 ≤ d) : n / d ≤ n := by
  by_cases h : n = 0
  · subst h; simp
  · have := div_lt_of (n := n) (d := d) (by omega) hd; omega
theorem div_pos_of {n d : Int} (hn : 1 ≤ n) (hd : 2 ≤ d) (h : n % d = 0) : 1 ≤ n / d := by
  have e := Int.mul_ediv_add_emod n d
  have h0 : 0 ≤ n / d := div_ge (by omega) hd
  by_cases hz : n / d = 0
  · rw [hz, h] at e; simp at e; omega
  · omega
theorem tmod_of {a b : Int} (h : 0 ≤ a) : Int.tmod a b = a % b := Int.tmod_eq_emod_of_nonneg h
theorem tdiv_of {a b : Int} (h : 0 ≤ a) : Int.tdiv a b = a / b := Int.tdiv_eq_ediv_of_nonneg h

def asked (n base : Int) : Prop := (0 ≤ n ∧ n ≤ 1000000000000) ∧ (2 ≤ base ∧ base ≤ 16)
instance (n base : Int) : Decidable (asked n base) := by unfold asked; infer_instance
theorem spec_l1In_eq (a b c : Int) : spec_l1In.f a b c = some (decide (b ≤ a ∧ a ≤ c)) := by
  unfold spec_l1In.f
  by_cases h : b ≤ a
  · rw [if_pos (show a ≥ b from h)]; simp [h]
  · rw [if_neg (show ¬ a ≥ b from h)]; simp [h]
theorem impl_in_eq (a b c : Int) : impl_in.f a b c = some (decide (b ≤ a ∧ a ≤ c)) := by
  unfold impl_in.f
  by_cases h : b ≤ a
  · rw [if_pos h]; simp [h]
  · rw [if_neg h]; simp [h]
theorem spec_dgBase_eq (b : Int) : spec_dgBase.f b = some (decide (2 ≤ b ∧ b ≤ 16)) := by
  unfold spec_dgBase.f
  rw [spec_l1In_eq]; simp
theorem impl_isBase_eq (b : Int) : impl_isBase.f b = some (decide (2 ≤ b ∧ b ≤ 16)) := by
  unfold impl_isBase.f
  rw [impl_in_eq]; simp
theorem spec_dgAsked_eq (a b : Int) : spec_dgAsked.f a b = some (decide (asked a b)) := by
  unfold spec_dgAsked.f spec_dgNumber.f asked
  rw [spec_dgBase_eq, spec_l1In_eq]
  by_cases h : 0 ≤ a ∧ a ≤ 1000000000000
  · simp [h]
  · simp [h]
theorem impl_isNumber_eq (a b : Int) : impl_isNumber.f a b = some (decide (asked a b)) := by
  unfold impl_isNumber.f asked
  rw [impl_isBase_eq, impl_in_eq]
  by_cases h : 0 ≤ a ∧ a ≤ 1000000000000
  · simp [h]
  · simp [h]

theorem smooth_l1 (base d : Int) (hd : 2 ≤ d) (hd2 : d ≤ 100)
    (hl0 : ∀ n, 1 ≤ n → n ≤ 1000000000000 → ∃ r, Ev (fun k => spec_prSmooth.l0 k n base (d + 1)) r ∧ Ev (fun k => impl_isSmooth.l0 k n base (d + 1)) r) :
    ∀ m : Nat, ∀ n : Int, 1 ≤ n → n ≤ 1000000000000 → n.toNat < m → ∃ r, Ev (fun k => spec_prSmooth.l1 k n base d) r ∧ Ev (fun k => impl_isSmooth.l1 k n base d) r
  | 0, n, _, _, h => by omega
  | m + 1, n, h1, h2, h => by
    have hw : wrap64 (d + 1) = d + 1 := w64 (by omega) (by omega)
    by_cases hm : n % d = 0
    · have hlt := div_lt_of h1 hd
      have hp := div_pos_of h1 hd hm
      obtain ⟨r, hs, hi⟩ := smooth_l1 base d hd hd2 hl0 m (n / d) hp (by omega) (by omega)
      have hv : wrap64 (Int.tdiv n d) = n / d := by rw [tdiv_of (by omega)]; exact w64 (by omega) (by omega)
      refine ⟨r, ?_, ?_⟩
      · refine Ev.step (fun k => by rw [spec_prSmooth.l1]) ?_
        refine Ev.pos (by omega) (Ev.neg (by omega) (Ev.pos (by rw [tmod_of (by omega)]; exact hm) ?_))
        rw [hv]; exact hs
      · refine Ev.step (fun k => by rw [impl_isSmooth.l1]) ?_
        refine Ev.neg (by omega) (Ev.pos (by rw [tmod_of (by omega)]; exact hm) ?_)
        rw [hv]; exact hi
    · obtain ⟨r, hs, hi⟩ := hl0 n h1 h2
      refine ⟨r, ?_, ?_⟩
      · refine Ev.step (fun k => by rw [spec_prSmooth.l1]) ?_
        refine Ev.pos (by omega) (Ev.neg (by omega) (Ev.neg (by rw [tmod_of (by omega)]; exact hm) ?_))
        rw [hw]; exact hs
      · refine Ev.step (fun k => by rw [impl_isSmooth.l1]) ?_
        refine Ev.neg (by omega) (Ev.neg (by rw [tmod_of (by omega)]; exact hm) ?_)
        rw [hw]; exact hi
theorem smooth_l0 (base : Int) (hb : base ≤ 16) : ∀ m : Nat, ∀ n d : Int, 1 ≤ n → n ≤ 1000000000000 → 2 ≤ d → d ≤ 17 → (17 - d).toNat < m → ∃ r, Ev (fun k => spec_prSmooth.l0 k n base d) r ∧ Ev (fun k => impl_isSmooth.l0 k n base d) r
  | 0, _, _, _, _, _, _, h => by omega
  | m + 1, n, d, h1, h2, hd, hd2, h => by
    by_cases hlt : d < base
    · obtain ⟨r, hs, hi⟩ := smooth_l1 base d hd (by omega) (fun n' a b => smooth_l0 base hb m n' (d + 1) a b (by omega) (by omega) (by omega)) _ n h1 h2 (Nat.lt_succ_self _)
      exact ⟨r, Ev.step (fun k => by rw [spec_prSmooth.l0]) (Ev.pos hlt hs), Ev.step (fun k => by rw [impl_isSmooth.l0]) (Ev.pos hlt hi)⟩
    · exact ⟨_, Ev.step (fun k => by rw [spec_prSmooth.l0]) (Ev.neg hlt (Ev.now _)), Ev.step (fun k => by rw [impl_isSmooth.l0]) (Ev.neg hlt (Ev.now _))⟩
theorem smooth_zero (base : Int) (hb : base ≤ 16) : ∀ m : Nat, ∀ d : Int, 2 ≤ d → d ≤ 17 → (17 - d).toNat < m → Ev (fun k => spec_prSmooth.l0 k 0 base d) false
  | 0, _, _, _, h => by omega
  | m + 1, d, hd, hd2, h => by
    by_cases hlt : d < base
    · have hw : wrap64 (d + 1) = d + 1 := w64 (by omega) (by omega)
      refine Ev.step (fun k => by rw [spec_prSmooth.l0]) (Ev.pos hlt ?_)
      refine Ev.step (fun k => by rw [spec_prSmooth.l1]) (Ev.neg (by omega) ?_)
      rw [hw]; exact smooth_zero base hb m (d + 1) (by omega) (by omega) (by omega)
    · exact Ev.step (fun k => by rw [spec_prSmooth.l0]) (Ev.neg hlt (Ev.val (by decide)))
theorem smooth_all (n base : Int) (h : asked n base) : ∃ r, Ev (fun k => spec_prSmooth.f k n base) r ∧ Ev (fun k => impl_isSmooth.f k n base) r := by
  unfold asked at h
  unfold spec_prSmooth.f impl_isSmooth.f
  by_cases h0 : n < 1
  · obtain rfl : n = 0 := by omega
    exact ⟨false, smooth_zero base (by omega) _ 2 (by omega) (by omega) (Nat.lt_succ_self _), Ev.pos h0 (Ev.now _)⟩
  · obtain ⟨r, hs, hi⟩ := smooth_l0 base (by omega) _ n 2 (by omega) (by omega) (by omega) (by omega) (Nat.lt_succ_self _)
    exact ⟨r, hs, Ev.neg h0 hi⟩

theorem FnExactIsSmooth : laws_FnExactIsSmooth.Pure := by
  intro a0 a1 hw hw1
  apply Ev.rounds
  unfold laws_FnExactIsSmooth.f spec_IsSmooth.f impl_IsSmooth.f
  simp only [spec_dgAsked_eq, impl_isNumber_eq, Option.bind_some]
  by_cases h : asked a0 a1
  · obtain ⟨r, hs, hi⟩ := smooth_all a0 a1 h
    simp only [decide_eq_true h, if_true]
    refine Ev.bind (Ev.bind hs (Ev.now _)) (Ev.bind (Ev.bind hi (Ev.now _)) ?_)
    simp; exact Ev.now _
  · simp [h]; exact Ev.now _

end Go.Proofs.Ytdjaceojaipmkaa.Pure
