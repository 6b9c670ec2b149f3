/- For every int n, the program's PrimeFactors gives what the reference's gives, twice, in memory of its own. No conditions. -/
import Derived.Test.YtdjaceojaipmkaaPFnExactPrimeFactorsx2
namespace Go.Proofs.Ytdjaceojaipmkaa.Pure
open Go.RowKit Go.Proofs.Ytdjaceojaipmkaa.PFnExactPrimeFactors Go.Proofs.YtdjaceojaipmkaaW.PrintWords Go.Proofs.YtdjaceojaipmkaaW.PrintLast

theorem wf_i64 {x : Int} (h : (Lit.int .i64 x).wf = true) : -9223372036854775808 ≤ x ∧ x ≤ 9223372036854775807 := by
  simp only [Lit.wf, Bool.and_eq_true, decide_eq_true_eq, show IntKind.i64.min = -9223372036854775808 from rfl, show IntKind.i64.max = 9223372036854775807 from rfl] at h
  exact h
theorem w64 {x : Int} (h0 : -9223372036854775808 ≤ x) (h1 : x ≤ 9223372036854775807) : wrap64 x = x := by unfold wrap64; omega
theorem Ev.pos {α : Type} {c : Prop} [Decidable c] {A B : Nat → Option α} {r : α} (h : c) (e : Ev A r) : Ev (fun k => if c then A k else B k) r := by simpa only [if_pos h] using e
theorem Ev.neg {α : Type} {c : Prop} [Decidable c] {A B : Nat → Option α} {r : α} (h : ¬ c) (e : Ev B r) : Ev (fun k => if c then A k else B k) r := by simpa only [if_neg h] using e
theorem Ev.val {α : Type} {a r : α} (h : a = r) : Ev (fun _ => some a) r := h ▸ Ev.now a
theorem Ev.pure {α β : Type} {o : Option α} {f : Nat → α → Option β} {a : α} {r : β} (h : o = some a) (k : Ev (fun n => f n a) r) : Ev (fun n => o.bind (f n)) r := by subst h; exact k
theorem Ev.call {α β : Type} {g : Nat → Option α} {f : Nat → α → Option β} {a : α} {r : β} (h : Ev g a) (k : Ev (fun n => f n a) r) : Ev (fun n => (g n).bind (f n)) r := Ev.bind h k
theorem Ev.same {α : Type} {g f : Nat → Option α} {r : α} (h : ∀ k, g k = f k) (k : Ev g r) : Ev f r := Ev.congr (fun k => (h k).symm) k

theorem div_lt_of {n d : Int} (hn : 1 ≤ n) (hd : 2 ≤ d) : n / d < n := by
  apply Int.ediv_lt_of_lt_mul (by omega)
  have : n * 2 ≤ n * d := Int.mul_le_mul_of_nonneg_left hd (by omega)
  omega
theorem div_ge {n d : Int} (hn : 0 ≤ n) (hd : 2 ≤ d) : 0 ≤ n / d := Int.ediv_nonneg hn (by omega)
theorem div_le {n d : Int} (hn : 0 ≤ n) (hd : 2 ≤ d) : n / d ≤ n := by
  by_cases h : n = 0
  · subst h; simp
  · have := div_lt_of (n := n) (d := d) (by omega) hd; omega
theorem div_pos_of {n d : Int} (hn : 1 ≤ n) (hd : 2 ≤ d) (h : n % d = 0) : 1 ≤ n / d := by
  have e := Int.mul_ediv_add_emod n d
  have h0 : 0 ≤ n / d := div_ge (by omega) hd
  by_cases hz : n / d = 0
  · rw [hz, h] at e; simp at e; omega
  · omega
theorem tmod_of {a b : Int} (h : 0 ≤ a) : Int.tmod a b = a % b := Int.tmod_eq_emod_of_nonneg h
theorem tdiv_of {a b : Int} (h : 0 ≤ a) : Int.tdiv a b = a / b := Int.tdiv_eq_ediv_of_nonneg h

theorem dv_same : ∀ k, (∀ x y z, spec_dvFactors.l0 k x y z = impl_factors.l0 k x y z) ∧ (∀ x y z, spec_dvFactors.l1 k x y z = impl_factors.l1 k x y z)
  | 0 => ⟨fun _ _ _ => by simp [spec_dvFactors.l0, impl_factors.l0], fun _ _ _ => by simp [spec_dvFactors.l1, impl_factors.l1]⟩
  | k + 1 => by
    obtain ⟨h0, h1⟩ := dv_same k
    constructor
    · intro x y z; rw [spec_dvFactors.l0, impl_factors.l0, h1]
    · intro x y z; rw [spec_dvFactors.l1, impl_factors.l1, h1, h0]
theorem dv_f (k : Nat) (n : Int) : spec_dvFactors.f k n = impl_factors.f k n := by
  unfold spec_dvFactors.f impl_factors.f; exact (dv_same k).1 _ _ _
theorem sq_le {a b : Int} (h0 : 0 ≤ a) (h : a ≤ b) : a * a ≤ b * b := Int.mul_le_mul h h h0 (by omega)
/-- the loop over the divisors ends -/
theorem fac_l1 (p : Int) (hp : 2 ≤ p) (hp2 : p ≤ 31623)
    (hl0 : ∀ n l, 1 ≤ n → n ≤ 1000000000 → (l : List Int).length + n.toNat ≤ 2000000000 → ∃ r : List Int, r.length ≤ 2000000000 ∧ Ev (fun k => impl_factors.l0 k n l (p + 1)) r) :
    ∀ m : Nat, ∀ (n : Int) (l : List Int), 1 ≤ n → n ≤ 1000000000 → l.length + n.toNat ≤ 2000000000 → n.toNat < m → ∃ r : List Int, r.length ≤ 2000000000 ∧ Ev (fun k => impl_factors.l1 k n l p) r
  | 0, n, l, _, _, _, h => by omega
  | m + 1, n, l, h1, h2, h3, h => by
    have hw : wrap64 (p + 1) = p + 1 := w64 (by omega) (by omega)
    by_cases hm : n % p = 0
    · have hlt := div_lt_of h1 hp
      have hpos := div_pos_of h1 hp hm
      obtain ⟨r, hr, hi⟩ := fac_l1 p hp hp2 hl0 m (n / p) (l ++ [p]) hpos (by omega) (by simp; omega) (by omega)
      have hv : wrap64 (Int.tdiv n p) = n / p := by rw [tdiv_of (by omega)]; exact w64 (by omega) (by omega)
      refine ⟨r, hr, ?_⟩
      refine Ev.step (fun k => by rw [impl_factors.l1]) ?_
      refine Ev.neg (by omega) (Ev.pos (by rw [tmod_of (by omega)]; exact hm) (Ev.pos (by omega) ?_))
      rw [hv]; exact hi
    · obtain ⟨r, hr, hi⟩ := hl0 n l h1 h2 h3
      refine ⟨r, hr, ?_⟩
      refine Ev.step (fun k => by rw [impl_factors.l1]) ?_
      refine Ev.neg (by omega) (Ev.neg (by rw [tmod_of (by omega)]; exact hm) ?_)
      rw [hw]; exact hi
theorem fac_l0 : ∀ m : Nat, ∀ (n : Int) (l : List Int) (p : Int), 1 ≤ n → n ≤ 1000000000 → l.length + n.toNat ≤ 2000000000 → 2 ≤ p → p ≤ 31624 → (31624 - p).toNat < m → ∃ r : List Int, r.length ≤ 2000000000 ∧ Ev (fun k => impl_factors.l0 k n l p) r
  | 0, _, _, _, _, _, _, _, _, h => by omega
  | m + 1, n, l, p, h1, h2, h3, hp, hp2, h => by
    have hq := sq_le (show 0 ≤ p by omega) hp2
    have hq0 : 0 ≤ p * p := Int.mul_nonneg (by omega) (by omega)
    have hw : wrap64 (p * p) = p * p := w64 (by omega) (by omega)
    by_cases hlt : p * p ≤ n
    · have hp3 : p ≤ 31623 := by
        apply Int.le_of_not_gt; intro hc
        have := sq_le (show (0 : Int) ≤ 31624 by omega) (show (31624 : Int) ≤ p by omega)
        omega
      obtain ⟨r, hr, hi⟩ := fac_l1 p hp hp3 (fun n' l' a b c => fac_l0 m n' l' (p + 1) a b c (by omega) (by omega) (by omega)) _ n l h1 h2 h3 (Nat.lt_succ_self _)
      exact ⟨r, hr, Ev.step (fun k => by rw [impl_factors.l0]) (Ev.pos (by rw [hw]; exact hlt) hi)⟩
    · by_cases h1' : n > 1
      · exact ⟨l ++ [n], by simp; omega, Ev.step (fun k => by rw [impl_factors.l0]) (Ev.neg (by rw [hw]; exact hlt) (Ev.pos h1' (Ev.pos (by omega) (Ev.now _))))⟩
      · exact ⟨l, by omega, Ev.step (fun k => by rw [impl_factors.l0]) (Ev.neg (by rw [hw]; exact hlt) (Ev.neg h1' (Ev.now _)))⟩
theorem fac_ev (n : Int) (h1 : 1 ≤ n) (h2 : n ≤ 1000000000) : ∃ r : List Int, r.length ≤ 2000000000 ∧ Ev (fun k => impl_factors.f k n) r ∧ Ev (fun k => spec_dvFactors.f k n) r := by
  obtain ⟨r, hr, h⟩ := fac_l0 _ n [] 2 h1 h2 (by simp; omega) (by omega) (by omega) (Nat.lt_succ_self _)
  have hi : Ev (fun k => impl_factors.f k n) r := h
  exact ⟨r, hr, hi, Ev.congr (fun k => dv_f k n) hi⟩

def cnt (x : Int) : Nat → List Int
  | 0 => []
  | m + 1 => x :: cnt (x + 1) m
theorem cnt_length : ∀ (m : Nat) (x : Int), (cnt x m).length = m
  | 0, _ => rfl
  | m + 1, x => by simp [cnt, cnt_length m]
theorem rd_mid (pre rest : List Int) (a : Int) : rd (pre ++ a :: rest) (pre.length : Int) = a := by simp [rd]
theorem mark_l0 : ∀ (rest pre : List Int) (x i : Int), i = (pre.length : Int) → pre.length + rest.length ≤ 4611686018427387904 → 0 ≤ x → x + rest.length ≤ 4611686018427387904 →
    Ev (fun k => laws_markIntS.l0 k (pre ++ rest) x i) (x + rest.length, pre ++ cnt x rest.length)
  | [], pre, x, i, hi, hl, hx, hx2 => by
    refine Ev.step (fun k => by rw [laws_markIntS.l0]) (Ev.neg (by simp; omega) (Ev.val ?_))
    simp [cnt]
  | a :: rest, pre, x, i, hi, hl, hx, hx2 => by
    simp only [List.length_cons] at hl hx2
    refine Ev.step (fun k => by rw [laws_markIntS.l0]) (Ev.pos (by simp; omega) (Ev.pos (by omega) ?_))
    rw [w64 (x := x + 1) (by omega) (by omega), w64 (x := i + 1) (by omega) (by omega)]
    have e : (pre ++ a :: rest).set i.toNat x = (pre ++ [x]) ++ rest := by subst hi; simp
    have ih := mark_l0 rest (pre ++ [x]) (x + 1) (i + 1) (by simp; omega) (by simp; omega) (by omega) (by omega)
    rw [e]
    have e2 : (x + ((a :: rest).length : Int), pre ++ cnt x (a :: rest).length) = (x + 1 + (rest.length : Int), (pre ++ [x]) ++ cnt (x + 1) rest.length) := by
      simp [cnt]; omega
    rw [e2]; exact ih
theorem held_l0 : ∀ (m : Nat) (pre : List Int) (x i : Int), i = (pre.length : Int) → pre.length + m ≤ 4611686018427387904 → 0 ≤ x → x + m ≤ 4611686018427387904 →
    Ev (fun k => laws_heldIntS.l0 k (pre ++ cnt x m) x i) (x + m)
  | 0, pre, x, i, hi, hl, hx, hx2 => by
    refine Ev.step (fun k => by rw [laws_heldIntS.l0]) (Ev.neg (by simp [cnt]; omega) (Ev.val ?_))
    simp
  | m + 1, pre, x, i, hi, hl, hx, hx2 => by
    have hr : rd (pre ++ cnt x (m + 1)) i = x := by rw [hi, cnt]; exact rd_mid _ _ _
    refine Ev.step (fun k => by rw [laws_heldIntS.l0]) (Ev.pos (by simp [cnt_length]; omega) (Ev.pos (by omega) (Ev.pos hr ?_)))
    rw [w64 (x := x + 1) (by omega) (by omega), w64 (x := i + 1) (by omega) (by omega)]
    have ih := held_l0 m (pre ++ [x]) (x + 1) (i + 1) (by simp; omega) (by simp; omega) (by omega) (by omega)
    have e : pre ++ cnt x (m + 1) = (pre ++ [x]) ++ cnt (x + 1) m := by simp [cnt]
    have e2 : x + ((m + 1 : Nat) : Int) = x + 1 + (m : Int) := by omega
    rw [e, e2]; exact ih
theorem eq_l0 (l : List Int) (hl : l.length ≤ 4611686018427387904) : ∀ (m : Nat) (i : Int), 0 ≤ i → ((l.length : Int) - i).toNat < m → Ev (fun k => laws_eqIntS.l0 k l l i) true
  | 0, _, _, h => by omega
  | m + 1, i, h0, h => by
    by_cases hlt : i < (l.length : Int)
    · refine Ev.step (fun k => by rw [laws_eqIntS.l0]) (Ev.pos hlt (Ev.pos h0 (Ev.pos hlt (Ev.pos rfl ?_))))
      rw [w64 (by omega) (by omega)]
      exact eq_l0 l hl m (i + 1) (by omega) (by omega)
    · exact Ev.step (fun k => by rw [laws_eqIntS.l0]) (Ev.neg hlt (Ev.now _))
theorem eq_ev (l : List Int) (hl : l.length ≤ 4611686018427387904) : Ev (fun k => laws_eqIntS.f k l l) true := Ev.pos rfl (eq_l0 l hl _ 0 (by omega) (Nat.lt_succ_self _))
theorem mark_ev (l : List Int) (hl : l.length ≤ 4000000000000000000) : Ev (fun k => laws_markIntS.f k l 1) (1 + l.length, cnt 1 l.length) := by
  have := mark_l0 l [] 1 0 (by simp) (by simp; omega) (by omega) (by omega)
  unfold laws_markIntS.f
  simpa using this
theorem held_ev (m : Nat) (hl : m ≤ 4000000000000000000) : Ev (fun k => laws_heldIntS.f k (cnt 1 m) 1) (1 + m) := by
  have := held_l0 m [] 1 0 (by simp) (by simp; omega) (by omega) (by omega)
  unfold laws_heldIntS.f
  simpa using this
theorem not_neg (n : Nat) : ¬ 1 + (n : Int) < 0 := by omega

theorem pf_ev (n : Int) : ∃ r : List Int × Bool, r.1.length ≤ 2000000000 ∧ Ev (fun k => spec_PrimeFactors.f k n) r ∧ Ev (fun k => impl_PrimeFactors.f k n) r := by
  unfold spec_PrimeFactors.f impl_PrimeFactors.f spec_dvNumber.f impl_isDivided.f spec_l1In.f impl_in.f
  by_cases h : 1 ≤ n
  · by_cases h2 : n ≤ 1000000000
    · obtain ⟨r, hr, hi, hs⟩ := fac_ev n h h2
      simp only [show n ≥ 1 from h, if_true, Option.bind_some, decide_eq_true h2]
      exact ⟨(r, true), hr, Ev.bind hs (Ev.now _), Ev.bind hi (Ev.now _)⟩
    · simp only [show n ≥ 1 from h, if_true, Option.bind_some, decide_eq_false h2, Bool.false_eq_true, if_false]
      exact ⟨([], false), by simp, Ev.now _, Ev.now _⟩
  · simp only [show ¬ n ≥ 1 from h, if_false, Option.bind_some, Bool.false_eq_true]
    exact ⟨([], false), by simp, Ev.now _, Ev.now _⟩

theorem FnExactPrimeFactors : laws_FnExactPrimeFactors.Pure := by
  intro a0 hw
  apply Ev.rounds
  obtain ⟨⟨l, ok⟩, hl, hs, hi⟩ := pf_ev a0
  simp only at hl
  have he := eq_ev l (by omega)
  have hm := mark_ev l (by omega)
  have hh := held_ev l.length (by omega)
  refine Ev.bind hs (Ev.bind hi (Ev.bind he (Ev.pos rfl ?_)))
  refine Ev.step (fun k => by rw [laws_FnExactPrimeFactors.j0]) (Ev.neg (by simp) (Ev.bind hm (Ev.bind hh (Ev.neg (not_neg _) (Ev.pos rfl (Ev.bind hi (Ev.bind he (Ev.pos rfl ?_))))))))
  exact Ev.step (fun k => by rw [laws_FnExactPrimeFactors.j1]) (Ev.neg (by simp) (Ev.bind hh (Ev.neg (not_neg _) (Ev.pos rfl (Ev.now _)))))

end Go.Proofs.Ytdjaceojaipmkaa.Pure
