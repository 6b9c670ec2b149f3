/- For every int n, the program's CountDivisors gives what the reference's gives. No conditions. -/
import Derived.Test.YtdjaceojaipmkaaPFnExactCountDivisorsx2
namespace Go.Proofs.Ytdjaceojaipmkaa.Pure
open Go.RowKit Go.Proofs.Ytdjaceojaipmkaa.PFnExactCountDivisors Go.Proofs.YtdjaceojaipmkaaW.PrintWords Go.Proofs.YtdjaceojaipmkaaW.PrintLast

theorem wf_i64 {x : Int} (h : (Lit.int .i64 x).wf = true) : -9223372036854775808 ≤ x ∧ x ≤ 9223372036854775807 := by
  simp only [Lit.wf, Bool.and_eq_true, decide_eq_true_eq, show IntKind.i64.min = -9223372036854775808 from rfl, show IntKind.i64.max = 9223372036854775807 from rfl] at h
  exact h
theorem w64 {x : Int} (h0 : -9223372036854775808 ≤ x) (h1 : x ≤ 9223372036854775807) : wrap64 x = x := by unfold wrap64; omega
theorem Ev.pos {α : Type} {c : Prop} [Decidable c] {A B : Nat → Option α} {r : α} (h : c) (e : Ev A r) : Ev (fun k => if c then A k else B k) r := by simpa only [if_pos h] using e
theorem Ev.neg {α : Type} {c : Prop} [Decidable c] {A B : Nat → Option α} {r : α} (h : ¬ c) (e : Ev B r) : Ev (fun k => if c then A k else B k) r := by simpa only [if_neg h] using e
theorem Ev.val {α : Type} {a r : α} (h : a = r) : Ev (fun _ => some a) r := h ▸ Ev.now a
theorem Ev.pure {α β : Type} {o : Option α} {f : Nat → α → Option β} {a : α} {r : β} (h : o = some a) (k : Ev (fun n => f n a) r) : Ev (fun n => o.bind (f n)) r := by subst h; exact k
theorem Ev.call {α β : Type} {g : Nat → Option α} {f : Nat → α → Option β} {a : α} {r : β} (h : Ev g a) (k : Ev (fun n => f n a) r) : Ev (fun n => (g n).bind (f n)) r := Ev.bind h k
theorem Ev.same {α : Type} {g f : Nat → Option α} {r : α} (h : ∀ k, g k = f k) (k : Ev g r) : Ev f r := Ev.congr (fun k => (h k).symm) k

theorem div_lt_of {n d : Int} (hn : 1 ≤ n) (hd : 2 ≤ d) : n / d < n := by
  apply Int.ediv_lt_of_lt_mul (by omega)
  have : n * 2 ≤ n * d := Int.mul_le_mul_of_nonneg_left hd (by omega)
  omega
theorem div_ge {n d : Int} (hn : 0 ≤ n) (hd : 2 ≤ d) : 0 ≤ n / d := Int.ediv_nonneg hn (by omega)
theorem div_le {n d : Int} (hn : 0 ≤ n) (hd : 2 ≤ d) : n / d ≤ n := by
  by_cases h : n = 0
  · subst h; simp
  · have := div_lt_of (n := n) (d := d) (by omega) hd; omega
theorem div_pos_of {n d : Int} (hn : 1 ≤ n) (hd : 2 ≤ d) (h : n % d = 0) : 1 ≤ n / d := by
  have e := Int.mul_ediv_add_emod n d
  have h0 : 0 ≤ n / d := div_ge (by omega) hd
  by_cases hz : n / d = 0
  · rw [hz, h] at e; simp at e; omega
  · omega
theorem tmod_of {a b : Int} (h : 0 ≤ a) : Int.tmod a b = a % b := Int.tmod_eq_emod_of_nonneg h
theorem tdiv_of {a b : Int} (h : 0 ≤ a) : Int.tdiv a b = a / b := Int.tdiv_eq_ediv_of_nonneg h

theorem dv_same : ∀ k, (∀ x y z, spec_dvFactors.l0 k x y z = impl_factors.l0 k x y z) ∧ (∀ x y z, spec_dvFactors.l1 k x y z = impl_factors.l1 k x y z)
  | 0 => ⟨fun _ _ _ => by simp [spec_dvFactors.l0, impl_factors.l0], fun _ _ _ => by simp [spec_dvFactors.l1, impl_factors.l1]⟩
  | k + 1 => by
    obtain ⟨h0, h1⟩ := dv_same k
    constructor
    · intro x y z; rw [spec_dvFactors.l0, impl_factors.l0, h1]
    · intro x y z; rw [spec_dvFactors.l1, impl_factors.l1, h1, h0]
theorem dv_f (k : Nat) (n : Int) : spec_dvFactors.f k n = impl_factors.f k n := by
  unfold spec_dvFactors.f impl_factors.f; exact (dv_same k).1 _ _ _
theorem sq_le {a b : Int} (h0 : 0 ≤ a) (h : a ≤ b) : a * a ≤ b * b := Int.mul_le_mul h h h0 (by omega)
/-- the loop over the divisors ends -/
theorem fac_l1 (p : Int) (hp : 2 ≤ p) (hp2 : p ≤ 31623)
    (hl0 : ∀ n l, 1 ≤ n → n ≤ 1000000000 → (l : List Int).length + n.toNat ≤ 2000000000 → ∃ r : List Int, r.length ≤ 2000000000 ∧ Ev (fun k => impl_factors.l0 k n l (p + 1)) r) :
    ∀ m : Nat, ∀ (n : Int) (l : List Int), 1 ≤ n → n ≤ 1000000000 → l.length + n.toNat ≤ 2000000000 → n.toNat < m → ∃ r : List Int, r.length ≤ 2000000000 ∧ Ev (fun k => impl_factors.l1 k n l p) r
  | 0, n, l, _, _, _, h => by omega
  | m + 1, n, l, h1, h2, h3, h => by
    have hw : wrap64 (p + 1) = p + 1 := w64 (by omega) (by omega)
    by_cases hm : n % p = 0
    · have hlt := div_lt_of h1 hp
      have hpos := div_pos_of h1 hp hm
      obtain ⟨r, hr, hi⟩ := fac_l1 p hp hp2 hl0 m (n / p) (l ++ [p]) hpos (by omega) (by simp; omega) (by omega)
      have hv : wrap64 (Int.tdiv n p) = n / p := by rw [tdiv_of (by omega)]; exact w64 (by omega) (by omega)
      refine ⟨r, hr, ?_⟩
      refine Ev.step (fun k => by rw [impl_factors.l1]) ?_
      refine Ev.neg (by omega) (Ev.pos (by rw [tmod_of (by omega)]; exact hm) (Ev.pos (by omega) ?_))
      rw [hv]; exact hi
    · obtain ⟨r, hr, hi⟩ := hl0 n l h1 h2 h3
      refine ⟨r, hr, ?_⟩
      refine Ev.step (fun k => by rw [impl_factors.l1]) ?_
      refine Ev.neg (by omega) (Ev.neg (by rw [tmod_of (by omega)]; exact hm) ?_)
      rw [hw]; exact hi
theorem fac_l0 : ∀ m : Nat, ∀ (n : Int) (l : List Int) (p : Int), 1 ≤ n → n ≤ 1000000000 → l.length + n.toNat ≤ 2000000000 → 2 ≤ p → p ≤ 31624 → (31624 - p).toNat < m → ∃ r : List Int, r.length ≤ 2000000000 ∧ Ev (fun k => impl_factors.l0 k n l p) r
  | 0, _, _, _, _, _, _, _, _, h => by omega
  | m + 1, n, l, p, h1, h2, h3, hp, hp2, h => by
    have hq := sq_le (show 0 ≤ p by omega) hp2
    have hq0 : 0 ≤ p * p := Int.mul_nonneg (by omega) (by omega)
    have hw : wrap64 (p * p) = p * p := w64 (by omega) (by omega)
    by_cases hlt : p * p ≤ n
    · have hp3 : p ≤ 31623 := by
        apply Int.le_of_not_gt; intro hc
        have := sq_le (show (0 : Int) ≤ 31624 by omega) (show (31624 : Int) ≤ p by omega)
        omega
      obtain ⟨r, hr, hi⟩ := fac_l1 p hp hp3 (fun n' l' a b c => fac_l0 m n' l' (p + 1) a b c (by omega) (by omega) (by omega)) _ n l h1 h2 h3 (Nat.lt_succ_self _)
      exact ⟨r, hr, Ev.step (fun k => by rw [impl_factors.l0]) (Ev.pos (by rw [hw]; exact hlt) hi)⟩
    · by_cases h1' : n > 1
      · exact ⟨l ++ [n], by simp; omega, Ev.step (fun k => by rw [impl_factors.l0]) (Ev.neg (by rw [hw]; exact hlt) (Ev.pos h1' (Ev.pos (by omega) (Ev.now _))))⟩
      · exact ⟨l, by omega, Ev.step (fun k => by rw [impl_factors.l0]) (Ev.neg (by rw [hw]; exact hlt) (Ev.neg h1' (Ev.now _)))⟩
theorem fac_ev (n : Int) (h1 : 1 ≤ n) (h2 : n ≤ 1000000000) : ∃ r : List Int, r.length ≤ 2000000000 ∧ Ev (fun k => impl_factors.f k n) r ∧ Ev (fun k => spec_dvFactors.f k n) r := by
  obtain ⟨r, hr, h⟩ := fac_l0 _ n [] 2 h1 h2 (by simp; omega) (by omega) (by omega) (Nat.lt_succ_self _)
  have hi : Ev (fun k => impl_factors.f k n) r := h
  exact ⟨r, hr, hi, Ev.congr (fun k => dv_f k n) hi⟩

theorem rd_drop (l : List Int) (i : Int) : rd (l.drop i.toNat) 0 = rd l i := by simp [rd, List.getElem?_drop]
theorem count_l1 (l : List Int) (hl : l.length ≤ 2000000000) (p many : Int) (M : Nat)
    (hl0 : ∀ (s s' : Int) (many i : Int), 0 ≤ i → ((l.length : Int) - i).toNat < M → ∃ r r' m, Ev (fun k => spec_dvSums.l0 k s many l i) (r, m) ∧ Ev (fun k => impl_divisors.l0 k s' many (l.drop i.toNat)) (r', m)) :
    ∀ m : Nat, ∀ (s s' i power part part' c : Int), 0 ≤ i → ((l.length : Int) - i).toNat < M → ((l.length : Int) - i).toNat < m → ∃ r r' q, Ev (fun k => spec_dvSums.l1 k s many l i p power c part) (r, q) ∧ Ev (fun k => impl_divisors.l1 k s' many (l.drop i.toNat) part' c p) (r', q)
  | 0, _, _, _, _, _, _, _, _, _, h => by omega
  | m + 1, s, s', i, power, part, part', c, h0, hM, h => by
    have hd : ((l.drop i.toNat).length : Int) > 0 ↔ i < (l.length : Int) := by simp; omega
    by_cases hlt : i < (l.length : Int)
    · have hr := rd_drop l i
      by_cases he : rd l i = p
      · obtain ⟨r, r', q, hs, hi⟩ := count_l1 l hl p many M hl0 m s s' (i + 1) (wrap64 (power * p)) (wrap64 (part + wrap64 (power * p))) (wrap64 (wrap64 (part' * p) + 1)) (wrap64 (c + 1)) (by omega) (by omega) (by omega)
        refine ⟨r, r', q, ?_, ?_⟩
        · refine Ev.step (fun k => by rw [spec_dvSums.l1]) (Ev.pos hlt (Ev.pos h0 (Ev.pos he ?_)))
          rw [w64 (x := i + 1) (by omega) (by omega)]; exact hs
        · refine Ev.step (fun k => by rw [impl_divisors.l1]) (Ev.pos (hd.mpr hlt) (Ev.pos (hd.mpr hlt) (Ev.pos (by rw [hr]; exact he) (Ev.pos (by have := hd.mpr hlt; omega) ?_))))
          have e : (l.drop i.toNat).drop (1 : Int).toNat = l.drop (i + 1).toNat := by rw [List.drop_drop]; congr 1; omega
          rw [e]; exact hi
      · obtain ⟨r, r', q, hs, hi⟩ := hl0 (wrap64 (s * part)) (wrap64 (s' * part')) (wrap64 (many * wrap64 (c + 1))) i h0 hM
        exact ⟨r, r', q, Ev.step (fun k => by rw [spec_dvSums.l1]) (Ev.pos hlt (Ev.pos h0 (Ev.neg he hs))), Ev.step (fun k => by rw [impl_divisors.l1]) (Ev.pos (hd.mpr hlt) (Ev.pos (hd.mpr hlt) (Ev.neg (by rw [hr]; exact he) hi)))⟩
    · obtain ⟨r, r', q, hs, hi⟩ := hl0 (wrap64 (s * part)) (wrap64 (s' * part')) (wrap64 (many * wrap64 (c + 1))) i h0 hM
      exact ⟨r, r', q, Ev.step (fun k => by rw [spec_dvSums.l1]) (Ev.neg hlt hs), Ev.step (fun k => by rw [impl_divisors.l1]) (Ev.neg (fun h => hlt (hd.mp h)) hi)⟩
/-- a stretch of equal factors is gone through at once: behind its first one the index is greater -/
theorem count_l0 (l : List Int) (hl : l.length ≤ 2000000000) : ∀ m : Nat, ∀ (s s' many i : Int), 0 ≤ i → ((l.length : Int) - i).toNat < m → ∃ r r' q, Ev (fun k => spec_dvSums.l0 k s many l i) (r, q) ∧ Ev (fun k => impl_divisors.l0 k s' many (l.drop i.toNat)) (r', q)
  | 0, _, _, _, _, _, h => by omega
  | m + 1, s, s', many, i, h0, h => by
    have hd : ((l.drop i.toNat).length : Int) > 0 ↔ i < (l.length : Int) := by simp; omega
    by_cases hlt : i < (l.length : Int)
    · have hr := rd_drop l i
      obtain ⟨r, r', q, hs, hi⟩ := count_l1 l hl (rd l i) many m (fun s s' many j hj hM => count_l0 l hl m s s' many j hj hM) m s s' (i + 1) (wrap64 (1 * rd l i)) (wrap64 (1 + wrap64 (1 * rd l i))) (wrap64 (wrap64 (1 * rd l i) + 1)) (wrap64 (0 + 1)) (by omega) (by omega) (by omega)
      refine ⟨r, r', q, ?_, ?_⟩
      · refine Ev.step (fun k => by rw [spec_dvSums.l0]) (Ev.pos hlt (Ev.pos h0 ?_))
        refine Ev.step (fun k => by rw [spec_dvSums.l1]) (Ev.pos hlt (Ev.pos h0 (Ev.pos rfl ?_)))
        rw [w64 (x := i + 1) (by omega) (by omega)]; exact hs
      · refine Ev.step (fun k => by rw [impl_divisors.l0]) (Ev.pos (hd.mpr hlt) (Ev.pos (hd.mpr hlt) ?_))
        refine Ev.step (fun k => by rw [impl_divisors.l1]) (Ev.pos (hd.mpr hlt) (Ev.pos (hd.mpr hlt) (Ev.pos rfl (Ev.pos (by have := hd.mpr hlt; omega) ?_))))
        have e : (l.drop i.toNat).drop (1 : Int).toNat = l.drop (i + 1).toNat := by rw [List.drop_drop]; congr 1; omega
        rw [e, hr]; exact hi
    · exact ⟨s, s', many, Ev.step (fun k => by rw [spec_dvSums.l0]) (Ev.neg hlt (Ev.now _)), Ev.step (fun k => by rw [impl_divisors.l0]) (Ev.neg (fun h => hlt (hd.mp h)) (Ev.now _))⟩
theorem cd_ev (n : Int) : ∃ r : Int × Bool, Ev (fun k => spec_CountDivisors.f k n) r ∧ Ev (fun k => impl_CountDivisors.f k n) r := by
  unfold spec_CountDivisors.f impl_CountDivisors.f spec_dvNumber.f impl_isDivided.f spec_l1In.f impl_in.f
  by_cases h : 1 ≤ n
  · by_cases h2 : n ≤ 1000000000
    · obtain ⟨l, hl, hi, hs⟩ := fac_ev n h h2
      obtain ⟨r, r', q, cs, ci⟩ := count_l0 l hl _ 1 1 1 0 (by omega) (Nat.lt_succ_self _)
      simp only [show n ≥ 1 from h, if_true, Option.bind_some, decide_eq_true h2]
      exact ⟨(q, true), Ev.bind (Ev.bind hs cs) (Ev.now _), Ev.bind (Ev.bind hi ci) (Ev.now _)⟩
    · simp only [show n ≥ 1 from h, if_true, Option.bind_some, decide_eq_false h2, Bool.false_eq_true, if_false]
      exact ⟨(0, false), Ev.now _, Ev.now _⟩
  · simp only [show ¬ n ≥ 1 from h, if_false, Option.bind_some, Bool.false_eq_true]
    exact ⟨(0, false), Ev.now _, Ev.now _⟩

theorem FnExactCountDivisors : laws_FnExactCountDivisors.Pure := by
  intro a0 hw
  apply Ev.rounds
  obtain ⟨r, hs, hi⟩ := cd_ev a0
  unfold laws_FnExactCountDivisors.f
  refine Ev.bind hs (Ev.bind hi ?_)
  simp; exact Ev.now _

end Go.Proofs.Ytdjaceojaipmkaa.Pure
