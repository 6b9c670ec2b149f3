/- For all ints width, base and most, the program's StepsSpread gives what the reference's gives, twice, in memory of its own. No conditions. -/
import Derived.Test.YtaocjhoilbgaoaaPFnExactStepsSpreadx6
namespace Go.Proofs.Ytaocjhoilbgaoaa.Pure
open Go.RowKit Go.Proofs.Ytaocjhoilbgaoaa.PFnExactStepsSpread Go.Proofs.YtaocjhoilbgaoaaW.PrintWords Go.Proofs.YtaocjhoilbgaoaaW.PrintLast

theorem wf_i64 {x : Int} (h : (Lit.int .i64 x).wf = true) : -9223372036854775808 ≤ x ∧ x ≤ 9223372036854775807 := by
  simp only [Lit.wf, Bool.and_eq_true, decide_eq_true_eq, show IntKind.i64.min = -9223372036854775808 from rfl, show IntKind.i64.max = 9223372036854775807 from rfl] at h
  exact h
theorem w64 {x : Int} (h0 : -9223372036854775808 ≤ x) (h1 : x ≤ 9223372036854775807) : wrap64 x = x := by unfold wrap64; omega
theorem Ev.pos {α : Type} {c : Prop} [Decidable c] {A B : Nat → Option α} {r : α} (h : c) (e : Ev A r) : Ev (fun k => if c then A k else B k) r := by simpa only [if_pos h] using e
theorem Ev.neg {α : Type} {c : Prop} [Decidable c] {A B : Nat → Option α} {r : α} (h : ¬ c) (e : Ev B r) : Ev (fun k => if c then A k else B k) r := by simpa only [if_neg h] using e
theorem Ev.val {α : Type} {a r : α} (h : a = r) : Ev (fun _ => some a) r := h ▸ Ev.now a
theorem Ev.pure {α β : Type} {o : Option α} {f : Nat → α → Option β} {a : α} {r : β} (h : o = some a) (k : Ev (fun n => f n a) r) : Ev (fun n => o.bind (f n)) r := by subst h; exact k
theorem Ev.call {α β : Type} {g : Nat → Option α} {f : Nat → α → Option β} {a : α} {r : β} (h : Ev g a) (k : Ev (fun n => f n a) r) : Ev (fun n => (g n).bind (f n)) r := Ev.bind h k
theorem Ev.same {α : Type} {g f : Nat → Option α} {r : α} (h : ∀ k, g k = f k) (k : Ev g r) : Ev f r := Ev.congr (fun k => (h k).symm) k

theorem div_lt_of {n d : Int} (hn : 1 ≤ n) (hd : 2 ≤ d) : n / d < n := by
  apply Int.ediv_lt_of_lt_mul (by omega)
  have : n * 2 ≤ n * d := Int.mul_le_mul_of_nonneg_left hd (by omega)
  omega
theorem div_ge {n d : Int} (hn : 0 ≤ n) (hd : 2 ≤ d) : 0 ≤ n / d := Int.ediv_nonneg hn (by omega)
theorem div_le {n d : Int} (hn : 0 ≤ n) (hd : 2 ≤ d) : n / d ≤ n := by
  by_cases h : n = 0
  · subst h; simp
  · have := div_lt_of (n := n) (d := d) (by omega) hd; omega
theorem div_pos_of {n d : Int} (hn : 1 ≤ n) (hd : 2 ≤ d) (h : n % d = 0) : 1 ≤ n / d := by
  have e := Int.mul_ediv_add_emod n d
  have h0 : 0 ≤ n / d := div_ge (by omega) hd
  by_cases hz : n / d = 0
  · rw [hz, h] at e; simp at e; omega
  · omega
theorem tmod_of {a b : Int} (h : 0 ≤ a) : Int.tmod a b = a % b := Int.tmod_eq_emod_of_nonneg h
theorem tdiv_of {a b : Int} (h : 0 ≤ a) : Int.tdiv a b = a / b := Int.tdiv_eq_ediv_of_nonneg h

theorem spec_l1In_eq (a b c : Int) : spec_l1In.f a b c = some (decide (b ≤ a ∧ a ≤ c)) := by
  unfold spec_l1In.f
  by_cases h : b ≤ a
  · rw [if_pos (show a ≥ b from h)]; simp [h]
  · rw [if_neg (show ¬ a ≥ b from h)]; simp [h]
theorem impl_in_eq (a b c : Int) : impl_in.f a b c = some (decide (b ≤ a ∧ a ≤ c)) := by
  unfold impl_in.f
  by_cases h : b ≤ a
  · rw [if_pos h]; simp [h]
  · rw [if_neg h]; simp [h]
theorem spec_dgBase_eq (b : Int) : spec_dgBase.f b = some (decide (2 ≤ b ∧ b ≤ 16)) := by
  unfold spec_dgBase.f
  rw [spec_l1In_eq]; simp
theorem impl_isBase_eq (b : Int) : impl_isBase.f b = some (decide (2 ≤ b ∧ b ≤ 16)) := by
  unfold impl_isBase.f
  rw [impl_in_eq]; simp

def cnt (x : Int) : Nat → List Int
  | 0 => []
  | m + 1 => x :: cnt (x + 1) m
theorem cnt_length : ∀ (m : Nat) (x : Int), (cnt x m).length = m
  | 0, _ => rfl
  | m + 1, x => by simp [cnt, cnt_length m]
theorem rd_mid (pre rest : List Int) (a : Int) : rd (pre ++ a :: rest) (pre.length : Int) = a := by simp [rd]
theorem mark_l0 : ∀ (rest pre : List Int) (x i : Int), i = (pre.length : Int) → pre.length + rest.length ≤ 4611686018427387904 → 0 ≤ x → x + rest.length ≤ 4611686018427387904 →
    Ev (fun k => laws_markIntS.l0 k (pre ++ rest) x i) (x + rest.length, pre ++ cnt x rest.length)
  | [], pre, x, i, hi, hl, hx, hx2 => by
    refine Ev.step (fun k => by rw [laws_markIntS.l0]) (Ev.neg (by simp; omega) (Ev.val ?_))
    simp [cnt]
  | a :: rest, pre, x, i, hi, hl, hx, hx2 => by
    simp only [List.length_cons] at hl hx2
    refine Ev.step (fun k => by rw [laws_markIntS.l0]) (Ev.pos (by simp; omega) (Ev.pos (by omega) ?_))
    rw [w64 (x := x + 1) (by omega) (by omega), w64 (x := i + 1) (by omega) (by omega)]
    have e : (pre ++ a :: rest).set i.toNat x = (pre ++ [x]) ++ rest := by subst hi; simp
    have ih := mark_l0 rest (pre ++ [x]) (x + 1) (i + 1) (by simp; omega) (by simp; omega) (by omega) (by omega)
    rw [e]
    have e2 : (x + ((a :: rest).length : Int), pre ++ cnt x (a :: rest).length) = (x + 1 + (rest.length : Int), (pre ++ [x]) ++ cnt (x + 1) rest.length) := by
      simp [cnt]; omega
    rw [e2]; exact ih
theorem held_l0 : ∀ (m : Nat) (pre : List Int) (x i : Int), i = (pre.length : Int) → pre.length + m ≤ 4611686018427387904 → 0 ≤ x → x + m ≤ 4611686018427387904 →
    Ev (fun k => laws_heldIntS.l0 k (pre ++ cnt x m) x i) (x + m)
  | 0, pre, x, i, hi, hl, hx, hx2 => by
    refine Ev.step (fun k => by rw [laws_heldIntS.l0]) (Ev.neg (by simp [cnt]; omega) (Ev.val ?_))
    simp
  | m + 1, pre, x, i, hi, hl, hx, hx2 => by
    have hr : rd (pre ++ cnt x (m + 1)) i = x := by rw [hi, cnt]; exact rd_mid _ _ _
    refine Ev.step (fun k => by rw [laws_heldIntS.l0]) (Ev.pos (by simp [cnt_length]; omega) (Ev.pos (by omega) (Ev.pos hr ?_)))
    rw [w64 (x := x + 1) (by omega) (by omega), w64 (x := i + 1) (by omega) (by omega)]
    have ih := held_l0 m (pre ++ [x]) (x + 1) (i + 1) (by simp; omega) (by simp; omega) (by omega) (by omega)
    have e : pre ++ cnt x (m + 1) = (pre ++ [x]) ++ cnt (x + 1) m := by simp [cnt]
    have e2 : x + ((m + 1 : Nat) : Int) = x + 1 + (m : Int) := by omega
    rw [e, e2]; exact ih
theorem eq_l0 (l : List Int) (hl : l.length ≤ 4611686018427387904) : ∀ (m : Nat) (i : Int), 0 ≤ i → ((l.length : Int) - i).toNat < m → Ev (fun k => laws_eqIntS.l0 k l l i) true
  | 0, _, _, h => by omega
  | m + 1, i, h0, h => by
    by_cases hlt : i < (l.length : Int)
    · refine Ev.step (fun k => by rw [laws_eqIntS.l0]) (Ev.pos hlt (Ev.pos h0 (Ev.pos hlt (Ev.pos rfl ?_))))
      rw [w64 (by omega) (by omega)]
      exact eq_l0 l hl m (i + 1) (by omega) (by omega)
    · exact Ev.step (fun k => by rw [laws_eqIntS.l0]) (Ev.neg hlt (Ev.now _))
theorem eq_ev (l : List Int) (hl : l.length ≤ 4611686018427387904) : Ev (fun k => laws_eqIntS.f k l l) true := Ev.pos rfl (eq_l0 l hl _ 0 (by omega) (Nat.lt_succ_self _))

theorem mark_ev (l : List Int) (hl : l.length ≤ 4000000000000000000) : Ev (fun k => laws_markIntS.f k l 1) (1 + l.length, cnt 1 l.length) := by
  have := mark_l0 l [] 1 0 (by simp) (by simp; omega) (by omega) (by omega)
  unfold laws_markIntS.f
  simpa using this
theorem held_ev (m : Nat) (hl : m ≤ 4000000000000000000) : Ev (fun k => laws_heldIntS.f k (cnt 1 m) 1) (1 + m) := by
  have := held_l0 m [] 1 0 (by simp) (by simp; omega) (by omega) (by omega)
  unfold laws_heldIntS.f
  simpa using this
theorem not_neg (n : Nat) : ¬ 1 + (n : Int) < 0 := by omega

theorem same_l0 : ∀ k a b n i, spec_l1Same.l0 k a b n i = slices_Equal_int_int.l0 k a b n i
  | 0, _, _, _, _ => by simp [spec_l1Same.l0, slices_Equal_int_int.l0]
  | k + 1, a, b, n, i => by rw [spec_l1Same.l0, slices_Equal_int_int.l0, same_l0 k]
theorem equal_l0 (A B : List Int) (hL : A.length ≤ 1048576) (hAB : A.length = B.length) : ∀ (r s pre : List Int) (i : Int), A = pre ++ r → B = pre ++ s → i = (pre.length : Int) → Ev (fun k => slices_Equal_int_int.l0 k A B (A.length : Int) i) (decide (A = B))
  | [], s, pre, i, h, h', hi => by
    refine Ev.step (fun k => by rw [slices_Equal_int_int.l0]) ?_
    refine Ev.neg (by rw [h]; simp; omega) (Ev.val ?_)
    have : s = [] := by rw [h, h'] at hAB; simp at hAB; exact hAB
    rw [h, h', this]; simp
  | a :: r, [], pre, i, h, h', hi => by rw [h, h'] at hAB; simp at hAB
  | a :: r, c :: s, pre, i, h, h', hi => by
    have hlen : A.length = pre.length + (r.length + 1) := by rw [h]; simp
    have hra : rd A i = a := by rw [h, hi]; simp [rd]
    have hrb : rd B i = c := by rw [h', hi]; simp [rd]
    refine Ev.step (fun k => by rw [slices_Equal_int_int.l0]) ?_
    refine Ev.pos (by omega) (Ev.pos (by omega) (Ev.pos (by omega) (Ev.pos (by omega) ?_)))
    rw [hra, hrb, w64 (by omega) (by omega)]
    by_cases e : a = c
    · exact Ev.pos e (equal_l0 A B hL hAB r s (pre ++ [a]) (i + 1) (by rw [h]; simp) (by rw [h', e]; simp) (by simp; omega))
    · refine Ev.neg e (Ev.val ?_)
      have : ¬ A = B := by rw [h, h']; simp; intro hh; exact absurd hh e
      rw [decide_eq_false this]
theorem equal_ev (A B : List Int) (hL : A.length ≤ 1048576) (hAB : A.length = B.length) : Ev (fun k => slices_Equal_int_int.f k A B) (decide (A = B)) ∧ Ev (fun k => spec_l1Same.f k A B) (decide (A = B)) := by
  have h := equal_l0 A B hL hAB A B [] 0 rfl rfl rfl
  unfold slices_Equal_int_int.f spec_l1Same.f
  exact ⟨Ev.pos (by omega) h, Ev.pos (by omega) (Ev.congr (fun k => same_l0 k _ _ _ _) h)⟩
theorem back_l0 (L : List Int) (hL : L.length ≤ 1048576) : ∀ (m : Nat) (i : Int) (acc : List Int), m ≤ L.length → i = (m : Int) - 1 → acc.length + m ≤ 1048576 → Ev (fun k => spec_dgBack.l0 k L acc i) (acc ++ (L.take m).reverse)
  | 0, i, acc, h, hi, ha => by
    refine Ev.step (fun k => by rw [spec_dgBack.l0]) ?_
    exact Ev.neg (by omega) (Ev.val (by simp))
  | m + 1, i, acc, h, hi, ha => by
    have hr : rd L i = L[m] := by
      have : i.toNat = m := by omega
      simp [rd, this, List.getElem?_eq_getElem (show m < L.length by omega)]
    have ih := back_l0 L hL m (i - 1) (acc ++ [rd L i]) (by omega) (by omega) (by simp; omega)
    refine Ev.step (fun k => by rw [spec_dgBack.l0]) ?_
    refine Ev.pos (by omega) (Ev.pos (by omega) (Ev.pos (by omega) (Ev.pos (by omega) ?_)))
    rw [w64 (by omega) (by omega)]
    have e : acc ++ (L.take (m + 1)).reverse = (acc ++ [rd L i]) ++ (L.take m).reverse := by
      rw [List.take_succ_eq_append_getElem (show m < L.length by omega), hr]; simp
    rw [e]; exact ih
theorem back_ev (L : List Int) (hL : L.length ≤ 1048576) : Ev (fun k => spec_dgBack.f k L) L.reverse := by
  have := back_l0 L hL L.length ((L.length : Int) - 1) [] (Nat.le_refl _) rfl (by simp; omega)
  unfold spec_dgBack.f
  rw [w64 (by omega) (by omega)]
  simpa using this
theorem rev_l0 : ∀ (m : Nat) (A M B : List Int) (i j : Int), M.length < m → i = (A.length : Int) → j = (A.length : Int) + M.length - 1 → A.length + M.length + B.length ≤ 4611686018427387904 →
    Ev (fun k => slices_Reverse_int_int.l0 k (A ++ M ++ B) i j) (A ++ M.reverse ++ B)
  | 0, _, _, _, _, _, h, _, _, _ => by omega
  | m + 1, A, M, B, i, j, h, hi, hj, hl => by
    match M, h, hj, hl with
    | [], h, hj, hl =>
      refine Ev.step (fun k => by rw [slices_Reverse_int_int.l0]) (Ev.neg (by simp at hj; omega) (Ev.val (by simp)))
    | [a], h, hj, hl =>
      refine Ev.step (fun k => by rw [slices_Reverse_int_int.l0]) (Ev.neg (by simp at hj; omega) (Ev.val (by simp)))
    | a :: c :: M', h, hj, hl =>
      obtain ⟨M2, b, hM⟩ : ∃ M2 b, c :: M' = M2 ++ [b] := ⟨_, _, (List.dropLast_concat_getLast (by simp : c :: M' ≠ [])).symm⟩
      rw [hM] at h hj hl ⊢
      simp only [List.length_cons, List.length_append, List.length_nil] at h hj hl
      have r1 : rd (A ++ (a :: (M2 ++ [b])) ++ B) i = a := by subst hi; simp [rd]
      have r2 : rd (A ++ (a :: (M2 ++ [b])) ++ B) j = b := by
        have : j.toNat = A.length + (M2.length + 1) := by omega
        simp [rd, this]
      have e : ((A ++ (a :: (M2 ++ [b])) ++ B).set i.toNat b).set j.toNat a = (A ++ [b]) ++ M2 ++ (a :: B) := by
        have e1 : j.toNat = (A ++ (b :: M2)).length := by simp; omega
        have e0 : i.toNat = A.length := by omega
        have s1 : (A ++ (a :: (M2 ++ [b])) ++ B).set i.toNat b = (A ++ (b :: M2)) ++ b :: B := by rw [e0]; simp
        rw [s1, e1]; simp
      refine Ev.step (fun k => by rw [slices_Reverse_int_int.l0]) (Ev.pos (by omega) (Ev.pos (by omega) (Ev.pos (by simp; omega) (Ev.pos (by omega) (Ev.pos (by simp; omega) ?_)))))
      rw [r1, r2, e, w64 (x := i + 1) (by omega) (by omega), w64 (x := j - 1) (by omega) (by omega)]
      have ih := rev_l0 m (A ++ [b]) M2 (a :: B) (i + 1) (j - 1) (by omega) (by simp; omega) (by simp; omega) (by simp; omega)
      have e2 : A ++ (a :: (M2 ++ [b])).reverse ++ B = (A ++ [b]) ++ M2.reverse ++ (a :: B) := by simp
      rw [e2]; exact ih
theorem rev_ev (l : List Int) (hl : l.length ≤ 4000000000000000000) : Ev (fun k => slices_Reverse_int_int.f k l) l.reverse := by
  have := rev_l0 _ [] l [] 0 ((l.length : Int) - 1) (Nat.lt_succ_self _) (by simp) (by simp) (by simp; omega)
  unfold slices_Reverse_int_int.f
  rw [w64 (by omega) (by omega)]
  simpa using this

theorem reversed_ev (L : List Int) (hL : L.length ≤ 1048576) : Ev (fun k => impl_reversed.f k L) L.reverse := by
  unfold impl_reversed.f
  exact Ev.pure (show slices_Clone_int_int.f L = some L by unfold slices_Clone_int_int.f; rw [if_pos (by omega)]) (Ev.bind (rev_ev L (by omega)) (Ev.now _))

theorem pal_ev (L : List Int) (hL : L.length ≤ 1048576) : Ev (fun k => spec_dgPalindrome.f k L) (decide (L = L.reverse)) ∧ Ev (fun k => impl_isSymmetric.f k L) (decide (L = L.reverse)) := by
  have h := equal_ev L L.reverse hL (by simp)
  exact ⟨Ev.bind (back_ev L hL) (Ev.bind h.2 (Ev.now _)), Ev.bind (reversed_ev L hL) (Ev.bind h.1 (Ev.now _))⟩

/-- the digits of the sum from the last one on, and what is carried, as int makes them -/
def ad (l : List Int) (b : Int) : Nat → Int → List Int → List Int → Int → List Int × List Int
  | 0, _, out, cs, c => (if c > 0 then out ++ [c] else out, cs)
  | m + 1, i, out, cs, c =>
    ad l b m (i + 1) (out ++ [Int.tmod (wrap64 (wrap64 (rd l ((l.length : Int) - 1 - i) + rd l i) + c)) b]) (cs ++ [wrap64 (Int.tdiv (wrap64 (wrap64 (rd l ((l.length : Int) - 1 - i) + rd l i) + c)) b)]) (wrap64 (Int.tdiv (wrap64 (wrap64 (rd l ((l.length : Int) - 1 - i) + rd l i) + c)) b))
theorem ad_len (l : List Int) (b : Int) : ∀ (m : Nat) (i : Int) (out cs : List Int) (c : Int), out.length + m ≤ (ad l b m i out cs c).1.length ∧ (ad l b m i out cs c).1.length ≤ out.length + m + 1 ∧ (ad l b m i out cs c).2.length = cs.length + m
  | 0, i, out, cs, c => by
    simp only [ad]
    split <;> simp
  | m + 1, i, out, cs, c => by
    have := ad_len l b m (i + 1) (out ++ [Int.tmod (wrap64 (wrap64 (rd l ((l.length : Int) - 1 - i) + rd l i) + c)) b]) (cs ++ [wrap64 (Int.tdiv (wrap64 (wrap64 (rd l ((l.length : Int) - 1 - i) + rd l i) + c)) b)]) (wrap64 (Int.tdiv (wrap64 (wrap64 (rd l ((l.length : Int) - 1 - i) + rd l i) + c)) b))
    simp only [ad]
    simp only [List.length_append, List.length_cons, List.length_nil] at this ⊢
    omega
theorem summed_l0 (l : List Int) (b : Int) (hb : b ≠ 0) (hl : l.length ≤ 1000) : ∀ (m : Nat) (i : Int) (out cs : List Int) (c : Int), i + m = (l.length : Int) → 0 ≤ i → out.length = i.toNat → cs.length = i.toNat →
    Ev (fun k => impl_summed.l0 k l b out cs c (l.length : Int) i) ((ad l b m i out cs c).1.reverse, (ad l b m i out cs c).2)
  | 0, i, out, cs, c, hi, h0, ho, hc => by
    refine Ev.step (fun k => by rw [impl_summed.l0]) ?_
    refine Ev.neg (by omega) ?_
    simp only [ad]
    by_cases hp : c > 0
    · rw [if_pos hp]
      exact Ev.pos hp (Ev.pos (by omega) (Ev.bind (reversed_ev _ (by simp; omega)) (Ev.now _)))
    · rw [if_neg hp]
      exact Ev.neg hp (Ev.bind (reversed_ev _ (by omega)) (Ev.now _))
  | m + 1, i, out, cs, c, hi, h0, ho, hc => by
    refine Ev.step (fun k => by rw [impl_summed.l0]) ?_
    rw [w64 (x := (l.length : Int) - 1) (by omega) (by omega), w64 (x := (l.length : Int) - 1 - i) (by omega) (by omega), w64 (x := i + 1) (by omega) (by omega)]
    refine Ev.pos (by omega) (Ev.pos (by omega) (Ev.pos (by omega) (Ev.pos (by omega) (Ev.pos (by omega) (Ev.neg hb (Ev.pos (by omega) (Ev.pos (by omega) ?_)))))))
    exact summed_l0 l b hb hl m (i + 1) _ _ _ (by omega) (by omega) (by simp; omega) (by simp; omega)
theorem rvAdd_l0 (l : List Int) (b : Int) (hb : b ≠ 0) (hl : l.length ≤ 1000) : ∀ (m : Nat) (i : Int) (out cs : List Int) (c : Int), i + m = (l.length : Int) → 0 ≤ i → out.length = i.toNat → cs.length = i.toNat →
    Ev (fun k => spec_rvAdd.l0 k l b (l.length : Int) out.reverse cs c ((l.length : Int) - 1 - i)) ((ad l b m i out cs c).1.reverse, (ad l b m i out cs c).2)
  | 0, i, out, cs, c, hi, h0, ho, hc => by
    refine Ev.step (fun k => by rw [spec_rvAdd.l0]) ?_
    refine Ev.neg (by omega) ?_
    simp only [ad]
    by_cases hp : c > 0
    · exact Ev.pos hp (Ev.pure rfl (Ev.pos (by simp; omega) (Ev.val (by simp [hp]))))
    · exact Ev.neg hp (Ev.val (by simp [hp]))
  | m + 1, i, out, cs, c, hi, h0, ho, hc => by
    refine Ev.step (fun k => by rw [spec_rvAdd.l0]) ?_
    have e1 : wrap64 (wrap64 ((l.length : Int) - 1) - ((l.length : Int) - 1 - i)) = i := by
      rw [w64 (x := (l.length : Int) - 1) (by omega) (by omega), w64 (by omega) (by omega)]; omega
    have e2 : wrap64 ((l.length : Int) - 1 - i - 1) = (l.length : Int) - 1 - (i + 1) := by rw [w64 (by omega) (by omega)]; omega
    rw [e1, e2]
    refine Ev.pos (by omega) (Ev.pos (by omega) (Ev.pos (by omega) (Ev.pos (by omega) (Ev.pos (by omega) (Ev.neg hb (Ev.pos (by omega) (Ev.pure rfl (Ev.pos (by simp; omega) ?_))))))))
    have ih := rvAdd_l0 l b hb hl m (i + 1) (out ++ [Int.tmod (wrap64 (wrap64 (rd l ((l.length : Int) - 1 - i) + rd l i) + c)) b]) (cs ++ [wrap64 (Int.tdiv (wrap64 (wrap64 (rd l ((l.length : Int) - 1 - i) + rd l i) + c)) b)]) (wrap64 (Int.tdiv (wrap64 (wrap64 (rd l ((l.length : Int) - 1 - i) + rd l i) + c)) b)) (by omega) (by omega) (by simp; omega) (by simp; omega)
    simp only [List.reverse_append, List.reverse_cons, List.reverse_nil, List.nil_append] at ih
    exact ih
def sumOf (l : List Int) (b : Int) : List Int := (ad l b l.length 0 [] [] 0).1.reverse
def carries (l : List Int) (b : Int) : List Int := (ad l b l.length 0 [] [] 0).2
theorem sum_len (l : List Int) (b : Int) : l.length ≤ (sumOf l b).length ∧ (sumOf l b).length ≤ l.length + 1 ∧ (carries l b).length = l.length := by
  have := ad_len l b l.length 0 [] [] 0
  unfold sumOf carries
  simp only [List.length_nil] at this
  rw [List.length_reverse]
  omega
theorem sum_ev {l : List Int} {b : Int} (hb : b ≠ 0) (hl : l.length ≤ 1000) : Ev (fun k => impl_summed.f k l b) (sumOf l b, carries l b) ∧ Ev (fun k => spec_rvAdd.f k l b) (sumOf l b, carries l b) := by
  have h1 := summed_l0 l b hb hl l.length 0 [] [] 0 (by omega) (by omega) rfl rfl
  have h2 := rvAdd_l0 l b hb hl l.length 0 [] [] 0 (by omega) (by omega) rfl rfl
  refine ⟨h1, ?_⟩
  unfold spec_rvAdd.f
  rw [w64 (by omega) (by omega)]
  rw [Int.sub_zero] at h2
  exact h2

/-- lists of lists: the last one -/
def lastL (xs : List (List Int)) : List Int := rd_L1 xs ((xs.length : Int) - 1)
theorem rd_L1_last (xs : List (List Int)) (x : List Int) (i : Int) (hi : i = (xs.length : Int)) : rd_L1 (xs ++ [x]) i = x := by subst hi; simp [rd_L1]
theorem rvMost_eq (m : Int) : spec_rvMost.f m = some (decide (0 ≤ m ∧ m ≤ 100)) := by
  unfold spec_rvMost.f
  rw [spec_l1In_eq]; rfl
theorem run_l0 {b most : Int} (hb : b ≠ 0) (hm : 0 ≤ most ∧ most ≤ 100) : ∀ (m : Nat) (i : Int) (pre : List (List Int)) (d : List Int), 0 ≤ i → i ≤ most → (most - i).toNat < m → i = (pre.length : Int) → d.length ≤ 40 →
    ∃ out : List (List Int), 1 ≤ out.length ∧ (out.length : Int) ≤ most + 1 ∧ (lastL out).length ≤ 40 ∧ Ev (fun k => spec_rvRun.l0 k b most (pre ++ [d]) i) out ∧ Ev (fun k => impl_stepsOf.l0 k d b most i) (if lastL out = (lastL out).reverse then (out.length : Int) - 1 else -1)
  | 0, _, _, _, _, _, h, _, _ => by omega
  | m + 1, i, pre, d, h0, h1, h, hi, hd => by
    have hlast : lastL (pre ++ [d]) = d := by unfold lastL; rw [rd_L1_last _ _ _ (by simp)]
    have hr := rd_L1_last pre d i hi
    have hp := pal_ev d (by omega)
    have hs := sum_ev (l := d) (b := b) hb (by omega)
    have hlen := sum_len d b
    by_cases hpal : d = d.reverse
    · -- symmetric
      rw [decide_eq_true hpal] at hp
      refine ⟨pre ++ [d], by simp, by simp; omega, by rw [hlast]; exact hd, ?_, ?_⟩
      · refine Ev.step (fun k => by rw [spec_rvRun.l0]) ?_
        by_cases hlt : i < most
        · refine Ev.pos hlt (Ev.pos h0 (Ev.pos (by simp; omega) ?_))
          rw [hr]
          refine Ev.bind hp.1 ?_
          refine Ev.step (fun k => by rw [spec_rvRun.j1]) ?_
          exact Ev.neg (by simp) (Ev.now _)
        · refine Ev.neg hlt ?_
          refine Ev.step (fun k => by rw [spec_rvRun.j1]) ?_
          exact Ev.neg (by simp) (Ev.now _)
      · rw [hlast, if_pos hpal]
        refine Ev.step (fun k => by rw [impl_stepsOf.l0]) ?_
        refine Ev.pos h1 ?_
        refine Ev.step (fun k => by rw [impl_stepsOf.j1]) ?_
        exact Ev.pos (by simp; omega) (Ev.bind hp.2 (Ev.pos rfl (Ev.val (by simp; omega))))
    · rw [decide_eq_false hpal] at hp
      by_cases hlt : i < most
      · by_cases h40 : ((sumOf d b).length : Int) > 40
        · refine ⟨pre ++ [d], by simp, by simp; omega, by rw [hlast]; exact hd, ?_, ?_⟩
          · refine Ev.step (fun k => by rw [spec_rvRun.l0]) ?_
            refine Ev.pos hlt (Ev.pos h0 (Ev.pos (by simp; omega) ?_))
            rw [hr]
            refine Ev.bind hp.1 ?_
            refine Ev.step (fun k => by rw [spec_rvRun.j1]) ?_
            refine Ev.pos rfl (Ev.pos h0 (Ev.pos (by simp; omega) ?_))
            rw [hr]
            exact Ev.bind hs.2 (Ev.pos h40 (Ev.now _))
          · rw [hlast, if_neg hpal]
            refine Ev.step (fun k => by rw [impl_stepsOf.l0]) ?_
            refine Ev.pos h1 ?_
            refine Ev.step (fun k => by rw [impl_stepsOf.j1]) ?_
            refine Ev.pos (by simp; omega) (Ev.bind hp.2 (Ev.neg (by simp) (Ev.bind hs.1 ?_)))
            rw [w64 (by omega) (by omega)]
            refine Ev.step (fun k => by rw [impl_stepsOf.l0]) ?_
            refine Ev.pos (by omega) ?_
            refine Ev.step (fun k => by rw [impl_stepsOf.j1]) ?_
            exact Ev.neg (by simp; omega) (Ev.now _)
        · obtain ⟨out, o1, o2, o3, gs, gi⟩ := run_l0 hb hm m (i + 1) (pre ++ [d]) (sumOf d b) (by omega) (by omega) (by omega) (by simp; omega) (by omega)
          refine ⟨out, o1, o2, o3, ?_, ?_⟩
          · refine Ev.step (fun k => by rw [spec_rvRun.l0]) ?_
            refine Ev.pos hlt (Ev.pos h0 (Ev.pos (by simp; omega) ?_))
            rw [hr]
            refine Ev.bind hp.1 ?_
            refine Ev.step (fun k => by rw [spec_rvRun.j1]) ?_
            refine Ev.pos rfl (Ev.pos h0 (Ev.pos (by simp; omega) ?_))
            rw [hr, w64 (by omega) (by omega)]
            exact Ev.bind hs.2 (Ev.neg h40 (Ev.pos (by simp; omega) gs))
          · refine Ev.step (fun k => by rw [impl_stepsOf.l0]) ?_
            refine Ev.pos h1 ?_
            refine Ev.step (fun k => by rw [impl_stepsOf.j1]) ?_
            refine Ev.pos (by simp; omega) (Ev.bind hp.2 (Ev.neg (by simp) (Ev.bind hs.1 ?_)))
            rw [w64 (by omega) (by omega)]
            exact gi
      · refine ⟨pre ++ [d], by simp, by simp; omega, by rw [hlast]; exact hd, ?_, ?_⟩
        · refine Ev.step (fun k => by rw [spec_rvRun.l0]) ?_
          refine Ev.neg hlt ?_
          refine Ev.step (fun k => by rw [spec_rvRun.j1]) ?_
          exact Ev.neg (by simp) (Ev.now _)
        · rw [hlast, if_neg hpal]
          refine Ev.step (fun k => by rw [impl_stepsOf.l0]) ?_
          refine Ev.pos h1 ?_
          refine Ev.step (fun k => by rw [impl_stepsOf.j1]) ?_
          refine Ev.pos (by simp; omega) (Ev.bind hp.2 (Ev.neg (by simp) (Ev.bind hs.1 ?_)))
          rw [w64 (by omega) (by omega)]
          refine Ev.step (fun k => by rw [impl_stepsOf.l0]) ?_
          refine Ev.neg (by omega) ?_
          refine Ev.step (fun k => by rw [impl_stepsOf.j1]) ?_
          exact Ev.neg (by simp) (Ev.now _)
/-- the reference's steps and the program's: both have enough, and as many; or neither -/
theorem steps_ev {l : List Int} {b most : Int} (hb : b ≠ 0) (hm : 0 ≤ most ∧ most ≤ 100) (hl : l.length ≤ 40) :
    ∃ v : Int, -1 ≤ v ∧ v ≤ most ∧ Ev (fun k => spec_rvSteps.f k l b most) (if v < 0 then (0, false) else (v, true)) ∧ Ev (fun k => impl_stepsOf.f k l b most) v := by
  obtain ⟨out, o1, o2, o3, gs, gi⟩ := run_l0 hb hm _ 0 [] l (by omega) hm.1 (Nat.lt_succ_self _) rfl hl
  have hp := (pal_ev (lastL out) (by omega)).1
  have ho : Ev (fun k => spec_rvRun.f k l b most) out := by
    unfold spec_rvRun.f
    refine Ev.pure (a := l) ?_ gs
    unfold spec_l1Own.f
    simp; omega
  have e : wrap64 ((out.length : Int) - 1) = (out.length : Int) - 1 := w64 (by omega) (by omega)
  by_cases hq : lastL out = (lastL out).reverse
  · rw [if_pos hq] at gi
    rw [decide_eq_true hq] at hp
    refine ⟨_, by omega, by omega, ?_, gi⟩
    unfold spec_rvSteps.f
    refine Ev.bind ho ?_
    rw [e, if_neg (by omega)]
    exact Ev.pos (by omega) (Ev.pos (by omega) (Ev.bind hp (Ev.pos rfl (Ev.now _))))
  · rw [if_neg hq] at gi
    rw [decide_eq_false hq] at hp
    refine ⟨_, by omega, by omega, ?_, gi⟩
    unfold spec_rvSteps.f
    refine Ev.bind ho ?_
    rw [e]
    exact Ev.pos (by omega) (Ev.pos (by omega) (Ev.bind hp (Ev.neg (by simp) (Ev.now _))))

/-- the digits of a number, the least place first; none of 0 -/
def dl (b n : Int) : List Int := if _h : 1 ≤ n ∧ 2 ≤ b then (n % b) :: dl b (n / b) else []
termination_by n.toNat
decreasing_by have := div_lt_of _h.1 _h.2; omega
theorem dl_pos {b n : Int} (h : 1 ≤ n) (hb : 2 ≤ b) : dl b n = (n % b) :: dl b (n / b) := by rw [dl]; simp [h, hb]
theorem dl_zero (b : Int) : dl b 0 = [] := by rw [dl]; simp
/-- the digits, the greatest place first -/
def ds (b n : Int) : List Int := if n = 0 then [0] else (dl b n).reverse
theorem dl_len {b : Int} (hb : 2 ≤ b) : ∀ (k : Nat) (n : Int), 0 ≤ n → n < 2 ^ k → (dl b n).length ≤ k
  | 0, n, h0, h => by
    obtain rfl : n = 0 := by omega
    simp [dl_zero]
  | k + 1, n, h0, h => by
    by_cases hn : 1 ≤ n
    · rw [dl_pos hn hb]
      have h2 : (2 : Int) ^ k * 2 ≤ 2 ^ k * b := Int.mul_le_mul_of_nonneg_left hb (Int.pow_nonneg (by omega))
      have h1 : n / b < 2 ^ k := Int.ediv_lt_of_lt_mul (by omega) (by rw [Int.pow_succ] at h; omega)
      have := dl_len hb k (n / b) (div_ge h0 hb) h1
      simp; omega
    · obtain rfl : n = 0 := by omega
      simp [dl_zero]
theorem dl_len40 {b n : Int} (hb : 2 ≤ b) (h0 : 0 ≤ n) (h : n ≤ 1000000000001) : (dl b n).length ≤ 40 := dl_len hb 40 n h0 (by omega)
theorem dl_mem {b : Int} (hb : 2 ≤ b) : ∀ (m : Nat) (n : Int), n.toNat < m → ∀ x ∈ dl b n, 0 ≤ x ∧ x < b
  | 0, n, h => by omega
  | m + 1, n, h => by
    intro x hx
    by_cases hn : 1 ≤ n
    · rw [dl_pos hn hb] at hx
      rcases List.mem_cons.mp hx with rfl | hx
      · exact ⟨Int.emod_nonneg _ (by omega), Int.emod_lt_of_pos _ (by omega)⟩
      · exact dl_mem hb m (n / b) (by have := div_lt_of hn hb; have := div_ge (n := n) (by omega) hb; omega) x hx
    · rw [dl] at hx; simp [hn] at hx
theorem ds_len {b n : Int} (hb : 2 ≤ b) (h0 : 0 ≤ n) (h : n ≤ 1000000000001) : (ds b n).length ≤ 40 := by
  unfold ds
  split
  · simp
  · simpa using dl_len40 hb h0 h
theorem ds_mem {b n : Int} (hb : 2 ≤ b) : ∀ x ∈ ds b n, 0 ≤ x ∧ x < b := by
  intro x hx
  unfold ds at hx
  split at hx
  · simp at hx; omega
  · exact dl_mem hb _ n (Nat.lt_succ_self _) x (by simpa using hx)
theorem ds_ne {b n : Int} (hb : 2 ≤ b) (h0 : 0 ≤ n) : ds b n ≠ [] := by
  unfold ds
  split
  · simp
  · rw [dl_pos (by omega) hb]; simp

theorem dgOf_l0 {b : Int} (hb : 2 ≤ b) : ∀ (m : Nat) (n : Int) (acc : List Int), 0 ≤ n → n ≤ 1000000000001 → n.toNat < m → acc.length + n.toNat < 17592186044416 → Ev (fun k => spec_dgOf.l0 k n b acc) ((dl b n).reverse ++ acc)
  | 0, _, _, _, _, h, _ => by omega
  | m + 1, n, acc, h0, h1, h, hl => by
    by_cases hn : n > 0
    · have hlt := div_lt_of (show 1 ≤ n by omega) hb
      have hge := div_ge h0 hb
      refine Ev.step (fun k => by rw [spec_dgOf.l0]) ?_
      refine Ev.pos hn (Ev.neg (by omega) (Ev.pure rfl (Ev.pos (by simp; omega) ?_)))
      rw [tdiv_of h0, tmod_of h0, w64 (by omega) (by omega), dl_pos (by omega) hb]
      have ih := dgOf_l0 hb m (n / b) ([n % b] ++ acc) hge (by omega) (by omega) (by simp; omega)
      simpa using ih
    · obtain rfl : n = 0 := by omega
      exact Ev.step (fun k => by rw [spec_dgOf.l0]) (Ev.neg hn (Ev.val (by simp [dl_zero])))
theorem dgOf_ev {b n : Int} (hb : 2 ≤ b) (h0 : 0 ≤ n) (h1 : n ≤ 1000000000001) : Ev (fun k => spec_dgOf.f k n b) (ds b n) := by
  unfold spec_dgOf.f ds
  by_cases h : n = 0
  · rw [if_pos h]; exact Ev.pos h (Ev.now _)
  · rw [if_neg h]
    have := dgOf_l0 hb _ n [] h0 h1 (Nat.lt_succ_self _) (by simp; omega)
    exact Ev.neg h (by simpa using this)
theorem digitsOf_l0 {b : Int} (hb : 2 ≤ b) : ∀ (m : Nat) (n : Int) (acc : List Int), 0 ≤ n → n ≤ 1000000000001 → n.toNat < m → acc.length + n.toNat < 17592186044416 → Ev (fun k => impl_digitsOf.l0 k n b acc) ((acc ++ dl b n).reverse)
  | 0, _, _, _, _, h, _ => by omega
  | m + 1, n, acc, h0, h1, h, hl => by
    by_cases hn : n > 0
    · have hlt := div_lt_of (show 1 ≤ n by omega) hb
      have hge := div_ge h0 hb
      refine Ev.step (fun k => by rw [impl_digitsOf.l0]) (Ev.pos hn (Ev.neg (by omega) (Ev.pos (by omega) ?_)))
      rw [tdiv_of h0, tmod_of h0, w64 (by omega) (by omega), dl_pos (by omega) hb]
      have ih := digitsOf_l0 hb m (n / b) (acc ++ [n % b]) hge (by omega) (by omega) (by simp; omega)
      simpa using ih
    · obtain rfl : n = 0 := by omega
      refine Ev.step (fun k => by rw [impl_digitsOf.l0]) (Ev.neg hn (Ev.bind (rev_ev acc (by omega)) (Ev.val (by simp [dl_zero]))))
theorem digitsOf_ev {b n : Int} (hb : 2 ≤ b) (h0 : 0 ≤ n) (h1 : n ≤ 1000000000001) : Ev (fun k => impl_digitsOf.f k n b) (ds b n) := by
  unfold impl_digitsOf.f ds
  have hle := div_le h0 hb
  have hge := div_ge h0 hb
  refine Ev.neg (by omega) ?_
  rw [tdiv_of h0, tmod_of h0, w64 (by omega) (by omega)]
  have := digitsOf_l0 hb _ (n / b) [n % b] hge (by omega) (Nat.lt_succ_self _) (by simp; omega)
  by_cases h : n = 0
  · rw [if_pos h]
    subst h
    simpa [dl_zero] using this
  · rw [if_neg h, dl_pos (by omega) hb]
    simpa using this

/-- the widths and bases that are tried: the reference's first number and how many, and the program's powers: asked of the kernel, case by case -/
def tried1 (w b : Int) : Bool :=
  match spec_rvFrom.l0 40 w b 1 1, impl_isTried.l0 40 w b (wrap64 (b - 1)) 1, impl_toPower.f 40 b (wrap64 (w - 1)), impl_toPower.f 40 b w with
  | some (f, c), some t, some p, some q => if t = true then (p == f) && ((q == f + c) && (decide (0 < c ∧ c ≤ 20000) && decide (0 ≤ f ∧ f ≤ 20000))) else (c == 0)
  | _, _, _, _ => false
def triedAll : Bool := (List.range 14).all fun w => (List.range 15).all fun b => tried1 ((w : Int) + 1) ((b : Int) + 2)
theorem triedAll_true : triedAll = true := by decide +kernel
theorem tried_at {w b : Int} (hw : 1 ≤ w ∧ w ≤ 14) (hb : 2 ≤ b ∧ b ≤ 16) : tried1 w b = true := by
  have hall := triedAll_true
  unfold triedAll at hall
  rw [List.all_eq_true] at hall
  have h3 := hall (w - 1).toNat (by rw [List.mem_range]; omega)
  rw [List.all_eq_true] at h3
  have h4 := h3 (b - 2).toNat (by rw [List.mem_range]; omega)
  have e0 : (((w - 1).toNat : Nat) : Int) + 1 = w := by omega
  have e1 : (((b - 2).toNat : Nat) : Int) + 2 = b := by omega
  rw [e0, e1] at h4
  exact h4
theorem rvFrom_l0_mono : ∀ k x0 x1 x6 x7, LeO (spec_rvFrom.l0 k x0 x1 x6 x7) (spec_rvFrom.l0 (k + 1) x0 x1 x6 x7)
  | 0, _, _, _, _ => fun r h => by simp [spec_rvFrom.l0] at h
  | k + 1, x0, x1, x6, x7 => by
    rw [spec_rvFrom.l0, spec_rvFrom.l0]
    refine LeO.ite (LeO.ite (LeO.refl _) (rvFrom_l0_mono k _ _ _ _)) (LeO.refl _)
theorem isTried_l0_mono : ∀ k x0 x1 x6 x7, LeO (impl_isTried.l0 k x0 x1 x6 x7) (impl_isTried.l0 (k + 1) x0 x1 x6 x7)
  | 0, _, _, _, _ => fun r h => by simp [impl_isTried.l0] at h
  | k + 1, x0, x1, x6, x7 => by
    rw [impl_isTried.l0, impl_isTried.l0]
    refine LeO.ite (LeO.ite (isTried_l0_mono k _ _ _ _) (LeO.refl _)) (LeO.refl _)
theorem toPower_l0_mono : ∀ k x0 x1 x6 x7, LeO (impl_toPower.l0 k x0 x1 x6 x7) (impl_toPower.l0 (k + 1) x0 x1 x6 x7)
  | 0, _, _, _, _ => fun r h => by simp [impl_toPower.l0] at h
  | k + 1, x0, x1, x6, x7 => by
    rw [impl_toPower.l0, impl_toPower.l0]
    refine LeO.ite (toPower_l0_mono k _ _ _ _) (LeO.refl _)
/-- what is tried: one of three -/
theorem tried_ev (w b most : Int) :
    (∃ f c : Int, (2 ≤ b ∧ b ≤ 16) ∧ (0 ≤ most ∧ most ≤ 100) ∧ (0 < c ∧ c ≤ 20000) ∧ (0 ≤ f ∧ f ≤ 20000) ∧ Ev (fun k => spec_rvFrom.f k w b) (f, c) ∧ Ev (fun k => impl_isTried.f k w b most) true ∧ Ev (fun k => impl_toPower.f k b (wrap64 (w - 1))) f ∧ Ev (fun k => impl_toPower.f k b w) (f + c)) ∨
    (∃ f c : Int, (c = 0 ∨ ¬ (0 ≤ most ∧ most ≤ 100)) ∧ Ev (fun k => spec_rvFrom.f k w b) (f, c) ∧ Ev (fun k => impl_isTried.f k w b most) false) := by
  unfold spec_rvFrom.f impl_isTried.f
  rw [spec_dgBase_eq, impl_isBase_eq, spec_l1In_eq, impl_in_eq, impl_in_eq]
  by_cases hb : 2 ≤ b ∧ b ≤ 16
  · by_cases hw : 1 ≤ w ∧ w ≤ 14
    · have ht := tried_at hw hb
      unfold tried1 at ht
      cases hf : spec_rvFrom.l0 40 w b 1 1 with
      | none => rw [hf] at ht; simp at ht
      | some fc =>
        obtain ⟨f, c⟩ := fc
        cases hi : impl_isTried.l0 40 w b (wrap64 (b - 1)) 1 with
        | none => rw [hf, hi] at ht; simp at ht
        | some t =>
          cases hp : impl_toPower.f 40 b (wrap64 (w - 1)) with
          | none => rw [hf, hi, hp] at ht; simp at ht
          | some p =>
            cases hq : impl_toPower.f 40 b w with
            | none => rw [hf, hi, hp, hq] at ht; simp at ht
            | some q =>
              rw [hf, hi, hp, hq] at ht
              simp only at ht
              have ef : Ev (fun k => spec_rvFrom.l0 k w b 1 1) (f, c) := Ev.of (fun k => rvFrom_l0_mono k _ _ _ _) hf
              have ei : Ev (fun k => impl_isTried.l0 k w b (wrap64 (b - 1)) 1) t := Ev.of (fun k => isTried_l0_mono k _ _ _ _) hi
              have ep : Ev (fun k => impl_toPower.f k b (wrap64 (w - 1))) p := Ev.of (fun k => toPower_l0_mono k _ _ _ _) hp
              have eq : Ev (fun k => impl_toPower.f k b w) q := Ev.of (fun k => toPower_l0_mono k _ _ _ _) hq
              have es : Ev (fun k => (some (decide (2 ≤ b ∧ b ≤ 16))).bind fun t => if t = true then (some (decide (1 ≤ w ∧ w ≤ 14))).bind fun t => spec_rvFrom.j0 k w b (!t) else spec_rvFrom.j0 k w b true) (f, c) := by
                refine Ev.pure rfl (Ev.pos (decide_eq_true hb) (Ev.pure rfl ?_))
                refine Ev.step (fun k => by rw [spec_rvFrom.j0]) ?_
                exact Ev.neg (by simp [hw]) ef
              cases t with
              | true =>
                simp only [if_true, Bool.and_eq_true, beq_iff_eq, decide_eq_true_eq] at ht
                obtain ⟨h1, h2, h3, h4⟩ := ht
                by_cases hm : 0 ≤ most ∧ most ≤ 100
                · refine .inl ⟨f, c, hb, hm, h3, h4, es, ?_, h1 ▸ ep, h2 ▸ eq⟩
                  refine Ev.pure rfl (Ev.pos (decide_eq_true hb) (Ev.pure rfl (Ev.pos (decide_eq_true hw) (Ev.pure rfl ?_))))
                  refine Ev.step (fun k => by rw [impl_isTried.j0]) ?_
                  exact Ev.neg (by simp [hm]) ei
                · refine .inr ⟨f, c, .inr hm, es, ?_⟩
                  refine Ev.pure rfl (Ev.pos (decide_eq_true hb) (Ev.pure rfl (Ev.pos (decide_eq_true hw) (Ev.pure rfl ?_))))
                  refine Ev.step (fun k => by rw [impl_isTried.j0]) ?_
                  exact Ev.pos (by simp; omega) (Ev.now _)
              | false =>
                simp only [Bool.false_eq_true, if_false, beq_iff_eq] at ht
                refine .inr ⟨f, c, .inl ht, es, ?_⟩
                refine Ev.pure rfl (Ev.pos (decide_eq_true hb) (Ev.pure rfl (Ev.pos (decide_eq_true hw) (Ev.pure rfl ?_))))
                refine Ev.step (fun k => by rw [impl_isTried.j0]) ?_
                by_cases hm : 0 ≤ most ∧ most ≤ 100
                · exact Ev.neg (by simp [hm]) ei
                · exact Ev.pos (by simp; omega) (Ev.now _)
    · refine .inr ⟨0, 0, .inl rfl, ?_, ?_⟩
      · refine Ev.pure rfl (Ev.pos (decide_eq_true hb) (Ev.pure rfl ?_))
        refine Ev.step (fun k => by rw [spec_rvFrom.j0]) ?_
        exact Ev.pos (by simp; omega) (Ev.now _)
      · refine Ev.pure rfl (Ev.pos (decide_eq_true hb) (Ev.pure rfl (Ev.neg (by simp only [decide_eq_true_eq]; exact hw) ?_)))
        refine Ev.step (fun k => by rw [impl_isTried.j0]) ?_
        exact Ev.pos rfl (Ev.now _)
  · refine .inr ⟨0, 0, .inl rfl, ?_, ?_⟩
    · refine Ev.pure rfl (Ev.neg (by simp only [decide_eq_true_eq]; exact hb) ?_)
      refine Ev.step (fun k => by rw [spec_rvFrom.j0]) ?_
      exact Ev.pos rfl (Ev.now _)
    · refine Ev.pure rfl (Ev.neg (by simp only [decide_eq_true_eq]; exact hb) ?_)
      refine Ev.step (fun k => by rw [impl_isTried.j0]) ?_
      exact Ev.pos rfl (Ev.now _)

theorem spread_l0 {w b most f c : Int} (hb : 2 ≤ b ∧ b ≤ 16) (hm : 0 ≤ most ∧ most ≤ 100) (hc : 0 < c ∧ c ≤ 20000) (hf : 0 ≤ f ∧ f ≤ 20000) (hq : Ev (fun k => impl_toPower.f k b w) (f + c)) :
    ∀ (m : Nat) (n : Int) (out : List Int), 0 ≤ n → n ≤ f + c → (f + c - n).toNat < m → (out.length : Int) = most + 2 →
    ∃ r : List Int, (r.length : Int) = most + 2 ∧ Ev (fun k => spec_StepsSpread.l0 k b most f c out n) (r, true) ∧ Ev (fun k => impl_StepsSpread.l0 k w b most out n) (r, true)
  | 0, _, _, _, _, h, _ => by omega
  | m + 1, n, out, h0, h1, h, ho => by
    have ew : wrap64 (f + c) = f + c := w64 (by omega) (by omega)
    by_cases hn : n < f + c
    · have hd := dgOf_ev (b := b) (n := n) hb.1 h0 (by omega)
      have hi := digitsOf_ev (b := b) (n := n) hb.1 h0 (by omega)
      have hl := ds_len (b := b) (n := n) hb.1 h0 (by omega)
      obtain ⟨v, v1, v2, vs, vi⟩ := steps_ev (l := ds b n) (b := b) (by omega) hm hl
      have en : wrap64 (n + 1) = n + 1 := w64 (by omega) (by omega)
      have em : wrap64 (most + 1) = most + 1 := w64 (by omega) (by omega)
      by_cases hv : v < 0
      · obtain ⟨r, hr, gs, gi⟩ := spread_l0 hb hm hc hf hq m (n + 1) (out.set (most + 1).toNat (wrap64 (rd out (most + 1) + 1))) (by omega) (by omega) (by omega) (by simpa using ho)
        rw [if_pos hv] at vs
        refine ⟨r, hr, ?_, ?_⟩
        · refine Ev.step (fun k => by rw [spec_StepsSpread.l0]) ?_
          rw [ew, en, em]
          exact Ev.pos hn (Ev.bind hd (Ev.bind vs (Ev.neg (by simp) (Ev.pos (by omega) (Ev.pos (by omega) gs)))))
        · refine Ev.step (fun k => by rw [impl_StepsSpread.l0]) ?_
          rw [en, em]
          exact Ev.bind hq (Ev.pos hn (Ev.bind hi (Ev.bind vi (Ev.pos hv (Ev.pos (by omega) (Ev.pos (by omega) gi))))))
      · obtain ⟨r, hr, gs, gi⟩ := spread_l0 hb hm hc hf hq m (n + 1) (out.set v.toNat (wrap64 (rd out v + 1))) (by omega) (by omega) (by omega) (by simpa using ho)
        rw [if_neg hv] at vs
        refine ⟨r, hr, ?_, ?_⟩
        · refine Ev.step (fun k => by rw [spec_StepsSpread.l0]) ?_
          rw [ew, en]
          exact Ev.pos hn (Ev.bind hd (Ev.bind vs (Ev.pos rfl (Ev.pos (by simp only; omega) (Ev.pos (by simp only; omega) gs)))))
        · refine Ev.step (fun k => by rw [impl_StepsSpread.l0]) ?_
          rw [en]
          exact Ev.bind hq (Ev.pos hn (Ev.bind hi (Ev.bind vi (Ev.neg hv (Ev.pos (by omega) (Ev.pos (by omega) gi))))))
    · refine ⟨out, ho, ?_, ?_⟩
      · refine Ev.step (fun k => by rw [spec_StepsSpread.l0]) ?_
        rw [ew]
        exact Ev.neg hn (Ev.now _)
      · refine Ev.step (fun k => by rw [impl_StepsSpread.l0]) ?_
        exact Ev.bind hq (Ev.neg hn (Ev.now _))
theorem law_ev (w b most : Int) : ∃ r : List Int × Bool, r.1.length ≤ 200 ∧ Ev (fun k => spec_StepsSpread.f k w b most) r ∧ Ev (fun k => impl_StepsSpread.f k w b most) r := by
  unfold spec_StepsSpread.f impl_StepsSpread.f
  rcases tried_ev w b most with ⟨f, c, hb, hm, hc, hf, es, ei, ep, eq⟩ | ⟨f, c, hc, es, ei⟩
  · have e2 : wrap64 (most + 2) = most + 2 := w64 (by omega) (by omega)
    obtain ⟨r, hr, gs, gi⟩ := spread_l0 hb hm hc hf eq _ f (List.replicate (most + 2).toNat 0) (by omega) (by omega) (Nat.lt_succ_self _) (by simp; omega)
    refine ⟨(r, true), by simp only; omega, ?_, ?_⟩
    · refine Ev.bind es (Ev.neg (by simp only; omega) (Ev.pure (rvMost_eq most) ?_))
      refine Ev.step (fun k => by rw [spec_StepsSpread.j0]) ?_
      rw [e2]
      exact Ev.neg (by simp [hm]) (Ev.pos (by omega) (Ev.pos (by omega) gs))
    · rw [e2]
      exact Ev.bind ei (Ev.pos rfl (Ev.pos (by omega) (Ev.pos (by omega) (Ev.bind ep gi))))
  · refine ⟨([], false), by simp, ?_, Ev.bind ei (Ev.neg (by simp) (Ev.now _))⟩
    refine Ev.bind es ?_
    by_cases hz : c = 0
    · refine Ev.pos hz ?_
      refine Ev.step (fun k => by rw [spec_StepsSpread.j0]) ?_
      exact Ev.pos rfl (Ev.now _)
    · have hm : ¬ (0 ≤ most ∧ most ≤ 100) := by rcases hc with hc | hc; exact absurd hc hz; exact hc
      refine Ev.neg hz (Ev.pure (rvMost_eq most) ?_)
      refine Ev.step (fun k => by rw [spec_StepsSpread.j0]) ?_
      exact Ev.pos (by simp; omega) (Ev.now _)

theorem FnExactStepsSpread : laws_FnExactStepsSpread.Pure := by
  intro w b most _ _ _
  apply Ev.rounds
  obtain ⟨⟨l, ok⟩, hl, hs, hi⟩ := law_ev w b most
  simp only at hl
  have he := eq_ev l (by omega)
  have hm := mark_ev l (by omega)
  have hh := held_ev l.length (by omega)
  refine Ev.bind hs (Ev.bind hi (Ev.bind he (Ev.pos rfl ?_)))
  refine Ev.step (fun k => by rw [laws_FnExactStepsSpread.j0]) (Ev.neg (by simp) (Ev.bind hm (Ev.bind hh (Ev.neg (not_neg _) (Ev.pos rfl (Ev.bind hi (Ev.bind he (Ev.pos rfl ?_))))))))
  exact Ev.step (fun k => by rw [laws_FnExactStepsSpread.j1]) (Ev.neg (by simp) (Ev.bind hh (Ev.neg (not_neg _) (Ev.pos rfl (Ev.now _)))))

end Go.Proofs.Ytaocjhoilbgaoaa.Pure
