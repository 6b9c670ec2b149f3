/- For every int p, the program's EvenPerfect gives what the reference's gives. No conditions. -/
import Derived.Test.YtdjaceojaipmkaaPFnExactEvenPerfectx1
namespace Go.Proofs.Ytdjaceojaipmkaa.Pure
open Go.RowKit Go.Proofs.Ytdjaceojaipmkaa.PFnExactEvenPerfect Go.Proofs.YtdjaceojaipmkaaW.PrintWords Go.Proofs.YtdjaceojaipmkaaW.PrintLast

theorem wf_i64 {x : Int} (h : (Lit.int .i64 x).wf = true) : -9223372036854775808 ≤ x ∧ x ≤ 9223372036854775807 := by
  simp only [Lit.wf, Bool.and_eq_true, decide_eq_true_eq, show IntKind.i64.min = -9223372036854775808 from rfl, show IntKind.i64.max = 9223372036854775807 from rfl] at h
  exact h
theorem w64 {x : Int} (h0 : -9223372036854775808 ≤ x) (h1 : x ≤ 9223372036854775807) : wrap64 x = x := by unfold wrap64; omega
theorem Ev.pos {α : Type} {c : Prop} [Decidable c] {A B : Nat → Option α} {r : α} (h : c) (e : Ev A r) : Ev (fun k => if c then A k else B k) r := by simpa only [if_pos h] using e
theorem Ev.neg {α : Type} {c : Prop} [Decidable c] {A B : Nat → Option α} {r : α} (h : ¬ c) (e : Ev B r) : Ev (fun k => if c then A k else B k) r := by simpa only [if_neg h] using e
theorem Ev.val {α : Type} {a r : α} (h : a = r) : Ev (fun _ => some a) r := h ▸ Ev.now a
theorem Ev.pure {α β : Type} {o : Option α} {f : Nat → α → Option β} {a : α} {r : β} (h : o = some a) (k : Ev (fun n => f n a) r) : Ev (fun n => o.bind (f n)) r := by subst h; exact k
theorem Ev.call {α β : Type} {g : Nat → Option α} {f : Nat → α → Option β} {a : α} {r : β} (h : Ev g a) (k : Ev (fun n => f n a) r) : Ev (fun n => (g n).bind (f n)) r := Ev.bind h k
theorem Ev.same {α : Type} {g f : Nat → Option α} {r : α} (h : ∀ k, g k = f k) (k : Ev g r) : Ev f r := Ev.congr (fun k => (h k).symm) k

theorem div_lt_of {n d : Int} (hn : 1 ≤ n) (hd : 2 ≤ d) : n / d < n := by
  apply Int.ediv_lt_of_lt_mul (by omega)
  have : n * 2 ≤ n * d := Int.mul_le_mul_of_nonneg_left hd (by omega)
  omega
theorem div_ge {n d : Int} (hn : 0 ≤ n) (hd : 2 ≤ d) : 0 ≤ n / d := Int.ediv_nonneg hn (by omega)
theorem div_le {n d : Int} (hn : 0 ≤ n) (hd : 2 ≤ d) : n / d ≤ n := by
  by_cases h : n = 0
  · subst h; simp
  · have := div_lt_of (n := n) (d := d) (by omega) hd; omega
theorem div_pos_of {n d : Int} (hn : 1 ≤ n) (hd : 2 ≤ d) (h : n % d = 0) : 1 ≤ n / d := by
  have e := Int.mul_ediv_add_emod n d
  have h0 : 0 ≤ n / d := div_ge (by omega) hd
  by_cases hz : n / d = 0
  · rw [hz, h] at e; simp at e; omega
  · omega
theorem tmod_of {a b : Int} (h : 0 ≤ a) : Int.tmod a b = a % b := Int.tmod_eq_emod_of_nonneg h
theorem tdiv_of {a b : Int} (h : 0 ≤ a) : Int.tdiv a b = a / b := Int.tdiv_eq_ediv_of_nonneg h

theorem dv_same : ∀ k, (∀ x y z, spec_dvFactors.l0 k x y z = impl_factors.l0 k x y z) ∧ (∀ x y z, spec_dvFactors.l1 k x y z = impl_factors.l1 k x y z)
  | 0 => ⟨fun _ _ _ => by simp [spec_dvFactors.l0, impl_factors.l0], fun _ _ _ => by simp [spec_dvFactors.l1, impl_factors.l1]⟩
  | k + 1 => by
    obtain ⟨h0, h1⟩ := dv_same k
    constructor
    · intro x y z; rw [spec_dvFactors.l0, impl_factors.l0, h1]
    · intro x y z; rw [spec_dvFactors.l1, impl_factors.l1, h1, h0]
theorem dv_f (k : Nat) (n : Int) : spec_dvFactors.f k n = impl_factors.f k n := by
  unfold spec_dvFactors.f impl_factors.f; exact (dv_same k).1 _ _ _
theorem sq_le {a b : Int} (h0 : 0 ≤ a) (h : a ≤ b) : a * a ≤ b * b := Int.mul_le_mul h h h0 (by omega)
/-- the loop over the divisors ends -/
theorem fac_l1 (p : Int) (hp : 2 ≤ p) (hp2 : p ≤ 31623)
    (hl0 : ∀ n l, 1 ≤ n → n ≤ 1000000000 → (l : List Int).length + n.toNat ≤ 2000000000 → ∃ r : List Int, r.length ≤ 2000000000 ∧ Ev (fun k => impl_factors.l0 k n l (p + 1)) r) :
    ∀ m : Nat, ∀ (n : Int) (l : List Int), 1 ≤ n → n ≤ 1000000000 → l.length + n.toNat ≤ 2000000000 → n.toNat < m → ∃ r : List Int, r.length ≤ 2000000000 ∧ Ev (fun k => impl_factors.l1 k n l p) r
  | 0, n, l, _, _, _, h => by omega
  | m + 1, n, l, h1, h2, h3, h => by
    have hw : wrap64 (p + 1) = p + 1 := w64 (by omega) (by omega)
    by_cases hm : n % p = 0
    · have hlt := div_lt_of h1 hp
      have hpos := div_pos_of h1 hp hm
      obtain ⟨r, hr, hi⟩ := fac_l1 p hp hp2 hl0 m (n / p) (l ++ [p]) hpos (by omega) (by simp; omega) (by omega)
      have hv : wrap64 (Int.tdiv n p) = n / p := by rw [tdiv_of (by omega)]; exact w64 (by omega) (by omega)
      refine ⟨r, hr, ?_⟩
      refine Ev.step (fun k => by rw [impl_factors.l1]) ?_
      refine Ev.neg (by omega) (Ev.pos (by rw [tmod_of (by omega)]; exact hm) (Ev.pos (by omega) ?_))
      rw [hv]; exact hi
    · obtain ⟨r, hr, hi⟩ := hl0 n l h1 h2 h3
      refine ⟨r, hr, ?_⟩
      refine Ev.step (fun k => by rw [impl_factors.l1]) ?_
      refine Ev.neg (by omega) (Ev.neg (by rw [tmod_of (by omega)]; exact hm) ?_)
      rw [hw]; exact hi
theorem fac_l0 : ∀ m : Nat, ∀ (n : Int) (l : List Int) (p : Int), 1 ≤ n → n ≤ 1000000000 → l.length + n.toNat ≤ 2000000000 → 2 ≤ p → p ≤ 31624 → (31624 - p).toNat < m → ∃ r : List Int, r.length ≤ 2000000000 ∧ Ev (fun k => impl_factors.l0 k n l p) r
  | 0, _, _, _, _, _, _, _, _, h => by omega
  | m + 1, n, l, p, h1, h2, h3, hp, hp2, h => by
    have hq := sq_le (show 0 ≤ p by omega) hp2
    have hq0 : 0 ≤ p * p := Int.mul_nonneg (by omega) (by omega)
    have hw : wrap64 (p * p) = p * p := w64 (by omega) (by omega)
    by_cases hlt : p * p ≤ n
    · have hp3 : p ≤ 31623 := by
        apply Int.le_of_not_gt; intro hc
        have := sq_le (show (0 : Int) ≤ 31624 by omega) (show (31624 : Int) ≤ p by omega)
        omega
      obtain ⟨r, hr, hi⟩ := fac_l1 p hp hp3 (fun n' l' a b c => fac_l0 m n' l' (p + 1) a b c (by omega) (by omega) (by omega)) _ n l h1 h2 h3 (Nat.lt_succ_self _)
      exact ⟨r, hr, Ev.step (fun k => by rw [impl_factors.l0]) (Ev.pos (by rw [hw]; exact hlt) hi)⟩
    · by_cases h1' : n > 1
      · exact ⟨l ++ [n], by simp; omega, Ev.step (fun k => by rw [impl_factors.l0]) (Ev.neg (by rw [hw]; exact hlt) (Ev.pos h1' (Ev.pos (by omega) (Ev.now _))))⟩
      · exact ⟨l, by omega, Ev.step (fun k => by rw [impl_factors.l0]) (Ev.neg (by rw [hw]; exact hlt) (Ev.neg h1' (Ev.now _)))⟩
theorem fac_ev (n : Int) (h1 : 1 ≤ n) (h2 : n ≤ 1000000000) : ∃ r : List Int, r.length ≤ 2000000000 ∧ Ev (fun k => impl_factors.f k n) r ∧ Ev (fun k => spec_dvFactors.f k n) r := by
  obtain ⟨r, hr, h⟩ := fac_l0 _ n [] 2 h1 h2 (by simp; omega) (by omega) (by omega) (Nat.lt_succ_self _)
  have hi : Ev (fun k => impl_factors.f k n) r := h
  exact ⟨r, hr, hi, Ev.congr (fun k => dv_f k n) hi⟩

theorem prime_ev (n : Int) (h2 : n ≤ 1000000000) : ∃ r, Ev (fun k => impl_isPrime.f k n) r ∧ Ev (fun k => spec_dvPrime.f k n) r := by
  unfold impl_isPrime.f spec_dvPrime.f
  by_cases h : n > 1
  · obtain ⟨r, _, hi, hs⟩ := fac_ev n (by omega) h2
    exact ⟨_, Ev.pos h (Ev.bind hi (Ev.now _)), Ev.pos h (Ev.bind hs (Ev.now _))⟩
  · exact ⟨_, Ev.neg h (Ev.now _), Ev.neg h (Ev.now _)⟩
theorem prime_f (k : Nat) (n : Int) : spec_dvPrime.f k n = impl_isPrime.f k n := by
  unfold spec_dvPrime.f impl_isPrime.f
  rw [dv_f]
theorem l1In_in (a b c : Int) : spec_l1In.f a b c = impl_in.f a b c := rfl

theorem ep_f (k : Nat) (n : Int) : spec_EvenPerfect.f k n = impl_EvenPerfect.f k n := by
  unfold spec_EvenPerfect.f impl_EvenPerfect.f
  simp only [l1In_in, prime_f]
theorem ep_ev (n : Int) : ∃ r, Ev (fun k => impl_EvenPerfect.f k n) r := by
  unfold impl_EvenPerfect.f impl_in.f
  by_cases h : 2 ≤ n
  · by_cases h2 : n ≤ 15
    · have e : n = 2 ∨ n = 3 ∨ n = 4 ∨ n = 5 ∨ n = 6 ∨ n = 7 ∨ n = 8 ∨ n = 9 ∨ n = 10 ∨ n = 11 ∨ n = 12 ∨ n = 13 ∨ n = 14 ∨ n = 15 := by omega
      have hb : wrap64 (shl .i64 1 n - 1) ≤ 1000000000 := by
        rcases e with rfl | rfl | rfl | rfl | rfl | rfl | rfl | rfl | rfl | rfl | rfl | rfl | rfl | rfl <;> decide +kernel
      have hc : 0 ≤ wrap64 (n - 1) := by rw [w64 (by omega) (by omega)]; omega
      obtain ⟨r, hr, _⟩ := prime_ev _ hb
      rw [if_pos h]
      cases r
      · exact ⟨_, Ev.pure rfl (Ev.pos (decide_eq_true h2) (Ev.pos (by omega) (Ev.bind hr (Ev.neg (by simp) (Ev.now _)))))⟩
      · exact ⟨_, Ev.pure rfl (Ev.pos (decide_eq_true h2) (Ev.pos (by omega) (Ev.bind hr (Ev.pos rfl (Ev.pos hc (Ev.now _))))))⟩
    · rw [if_pos h]
      exact ⟨_, Ev.pure rfl (Ev.neg (by simp [h2]) (Ev.now _))⟩
  · rw [if_neg h]
    exact ⟨_, Ev.pure rfl (Ev.neg (by simp) (Ev.now _))⟩

theorem FnExactEvenPerfect : laws_FnExactEvenPerfect.Pure := by
  intro a0 hw
  apply Ev.rounds
  obtain ⟨r, hr⟩ := ep_ev a0
  unfold laws_FnExactEvenPerfect.f
  simp only [ep_f]
  refine Ev.bind hr (Ev.bind hr ?_)
  simp; exact Ev.now _

end Go.Proofs.Ytdjaceojaipmkaa.Pure
