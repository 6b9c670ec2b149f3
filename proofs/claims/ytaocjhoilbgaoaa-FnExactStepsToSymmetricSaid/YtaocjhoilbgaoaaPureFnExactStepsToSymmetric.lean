/- For every list of ints and all ints base and most, the program's StepsToSymmetric gives what the reference's gives, and leaves the list as it is. No conditions. -/
import Derived.Test.YtaocjhoilbgaoaaPFnExactStepsToSymmetricx5
namespace Go.Proofs.Ytaocjhoilbgaoaa.Pure
open Go.RowKit Go.Proofs.Ytaocjhoilbgaoaa.PFnExactStepsToSymmetric Go.Proofs.YtaocjhoilbgaoaaW.PrintWords Go.Proofs.YtaocjhoilbgaoaaW.PrintLast

theorem wf_i64 {x : Int} (h : (Lit.int .i64 x).wf = true) : -9223372036854775808 ≤ x ∧ x ≤ 9223372036854775807 := by
  simp only [Lit.wf, Bool.and_eq_true, decide_eq_true_eq, show IntKind.i64.min = -9223372036854775808 from rfl, show IntKind.i64.max = 9223372036854775807 from rfl] at h
  exact h
theorem w64 {x : Int} (h0 : -9223372036854775808 ≤ x) (h1 : x ≤ 9223372036854775807) : wrap64 x = x := by unfold wrap64; omega
theorem Ev.pos {α : Type} {c : Prop} [Decidable c] {A B : Nat → Option α} {r : α} (h : c) (e : Ev A r) : Ev (fun k => if c then A k else B k) r := by simpa only [if_pos h] using e
theorem Ev.neg {α : Type} {c : Prop} [Decidable c] {A B : Nat → Option α} {r : α} (h : ¬ c) (e : Ev B r) : Ev (fun k => if c then A k else B k) r := by simpa only [if_neg h] using e
theorem Ev.val {α : Type} {a r : α} (h : a = r) : Ev (fun _ => some a) r := h ▸ Ev.now a
theorem Ev.pure {α β : Type} {o : Option α} {f : Nat → α → Option β} {a : α} {r : β} (h : o = some a) (k : Ev (fun n => f n a) r) : Ev (fun n => o.bind (f n)) r := by subst h; exact k
theorem Ev.call {α β : Type} {g : Nat → Option α} {f : Nat → α → Option β} {a : α} {r : β} (h : Ev g a) (k : Ev (fun n => f n a) r) : Ev (fun n => (g n).bind (f n)) r := Ev.bind h k
theorem Ev.same {α : Type} {g f : Nat → Option α} {r : α} (h : ∀ k, g k = f k) (k : Ev g r) : Ev f r := Ev.congr (fun k => (h k).symm) k

theorem eq_l0 (l : List Int) (hl : l.length ≤ 4611686018427387904) : ∀ (m : Nat) (i : Int), 0 ≤ i → ((l.length : Int) - i).toNat < m → Ev (fun k => laws_eqIntS.l0 k l l i) true
  | 0, _, _, h => by omega
  | m + 1, i, h0, h => by
    by_cases hlt : i < (l.length : Int)
    · refine Ev.step (fun k => by rw [laws_eqIntS.l0]) (Ev.pos hlt (Ev.pos h0 (Ev.pos hlt (Ev.pos rfl ?_))))
      rw [w64 (by omega) (by omega)]
      exact eq_l0 l hl m (i + 1) (by omega) (by omega)
    · exact Ev.step (fun k => by rw [laws_eqIntS.l0]) (Ev.neg hlt (Ev.now _))
theorem eq_ev (l : List Int) (hl : l.length ≤ 4611686018427387904) : Ev (fun k => laws_eqIntS.f k l l) true := Ev.pos rfl (eq_l0 l hl _ 0 (by omega) (Nat.lt_succ_self _))

theorem toInt_l0 (L : List Int) (hL : L.length ≤ 1048576) : ∀ (rest pre : List Int) (i : Int), L = pre ++ rest → i = (pre.length : Int) → Ev (fun k => laws_toIntS.l0 k L (pre ++ List.replicate rest.length 0) i) L
  | [], pre, i, h, hi => by
    refine Ev.step (fun k => by rw [laws_toIntS.l0]) ?_
    exact Ev.neg (by rw [h]; simp; omega) (Ev.val (by rw [h]; simp))
  | a :: rest, pre, i, h, hi => by
    have hlen : L.length = pre.length + (rest.length + 1) := by rw [h]; simp
    have hr : rd L i = a := by rw [h, hi]; simp [rd]
    have e : (pre ++ List.replicate (a :: rest).length 0).set i.toNat a = (pre ++ [a]) ++ List.replicate rest.length 0 := by
      have : i.toNat = pre.length := by omega
      rw [this, List.length_cons, List.replicate_succ]; simp
    have ih := toInt_l0 L hL rest (pre ++ [a]) (i + 1) (by rw [h]; simp) (by simp; omega)
    refine Ev.step (fun k => by rw [laws_toIntS.l0]) ?_
    refine Ev.pos (by omega) (Ev.pos (by omega) (Ev.pos (by simp; omega) ?_))
    rw [hr, e, w64 (by omega) (by omega)]
    exact ih
theorem toInt_ev (L : List Int) (hL : L.length ≤ 1048576) : Ev (fun k => laws_toIntS.f k L) L := by
  unfold laws_toIntS.f
  refine Ev.pos (by omega) (Ev.pos (by omega) ?_)
  have := toInt_l0 L hL L [] 0 rfl rfl
  simpa using this

theorem spec_l1In_eq (a b c : Int) : spec_l1In.f a b c = some (decide (b ≤ a ∧ a ≤ c)) := by
  unfold spec_l1In.f
  by_cases h : b ≤ a
  · rw [if_pos (show a ≥ b from h)]; simp [h]
  · rw [if_neg (show ¬ a ≥ b from h)]; simp [h]
theorem impl_in_eq (a b c : Int) : impl_in.f a b c = some (decide (b ≤ a ∧ a ≤ c)) := by
  unfold impl_in.f
  by_cases h : b ≤ a
  · rw [if_pos h]; simp [h]
  · rw [if_neg h]; simp [h]
theorem spec_dgBase_eq (b : Int) : spec_dgBase.f b = some (decide (2 ≤ b ∧ b ≤ 16)) := by
  unfold spec_dgBase.f
  rw [spec_l1In_eq]; simp
theorem impl_isBase_eq (b : Int) : impl_isBase.f b = some (decide (2 ≤ b ∧ b ≤ 16)) := by
  unfold impl_isBase.f
  rw [impl_in_eq]; simp

/-- valid digits, at most 40 -/
def gd (l : List Int) (b : Int) : Bool := decide (2 ≤ b ∧ b ≤ 16) && (decide (1 ≤ (l.length : Int) ∧ (l.length : Int) ≤ 40) && (impl_areIn.all 0 (b - 1) l && (decide (rd l 0 > 0) || ((l.length : Int) == 1))))
theorem l1All_l0 (L : List Int) (hL : L.length ≤ 1048576) (lo hi : Int) : ∀ (rest pre : List Int) (i : Int), L = pre ++ rest → i = (pre.length : Int) → Ev (fun k => spec_l1All.l0 k lo hi L (L.length : Int) i) (impl_areIn.all lo hi rest)
  | [], pre, i, h, hi' => by
    refine Ev.step (fun k => by rw [spec_l1All.l0]) ?_
    exact Ev.neg (by rw [h]; simp; omega) (Ev.val rfl)
  | a :: rest, pre, i, h, hi' => by
    have hlen : L.length = pre.length + (rest.length + 1) := by rw [h]; simp
    have hr : rd L i = a := by rw [h, hi']; simp [rd]
    have ih := l1All_l0 L hL lo hi rest (pre ++ [a]) (i + 1) (by rw [h]; simp) (by simp; omega)
    refine Ev.step (fun k => by rw [spec_l1All.l0]) ?_
    rw [hr, w64 (by omega) (by omega)]
    refine Ev.pos (by omega) (Ev.pos (by omega) (Ev.pos (by omega) (Ev.pure (spec_l1In_eq _ _ _) ?_)))
    by_cases hc : lo ≤ a ∧ a ≤ hi
    · refine Ev.pos (decide_eq_true hc) ?_
      have e : impl_areIn.all lo hi (a :: rest) = impl_areIn.all lo hi rest := by simp [impl_areIn.all, impl_areIn.ok, hc]
      rw [e]; exact ih
    · refine Ev.neg (by simp [hc]) (Ev.val ?_)
      simp only [impl_areIn.all, impl_areIn.ok, List.all_cons]
      rw [show (decide (lo ≤ a) && decide (a ≤ hi)) = false by rw [← Bool.decide_and]; exact decide_eq_false hc]
      rfl
theorem l1All_ev (L : List Int) (hL : L.length ≤ 1048576) (lo hi : Int) : Ev (fun k => spec_l1All.f k L lo hi) (impl_areIn.all lo hi L) := l1All_l0 L hL lo hi L [] 0 rfl rfl
theorem rvGood_ev (L : List Int) (b : Int) (hL : L.length ≤ 1048576) : Ev (fun k => spec_rvGood.f k L b) (gd L b) := by
  unfold spec_rvGood.f gd
  refine Ev.pure (spec_dgBase_eq b) ?_
  by_cases hb : 2 ≤ b ∧ b ≤ 16
  · refine Ev.pos (decide_eq_true hb) (Ev.pure (spec_l1In_eq _ _ _) ?_)
    rw [decide_eq_true hb, Bool.true_and]
    by_cases hl : 1 ≤ (L.length : Int) ∧ (L.length : Int) ≤ 40
    · refine Ev.pos (decide_eq_true hl) ?_
      rw [decide_eq_true hl, Bool.true_and, w64 (by omega) (by omega)]
      refine Ev.bind (l1All_ev L hL 0 (b - 1)) ?_
      cases impl_areIn.all 0 (b - 1) L
      · exact Ev.neg (by simp) (Ev.val rfl)
      · refine Ev.pos rfl (Ev.pos (by omega) ?_)
        by_cases h0 : rd L 0 > 0
        · exact Ev.pos h0 (Ev.val (by simp [h0]))
        · exact Ev.neg h0 (Ev.val (by simp [h0]))
    · refine Ev.neg (by simp only [decide_eq_true_eq]; exact hl) (Ev.val ?_)
      rw [decide_eq_false hl]; rfl
  · refine Ev.neg (by simp only [decide_eq_true_eq]; exact hb) (Ev.val ?_)
    rw [decide_eq_false hb]; rfl
theorem isLong_eq (L : List Int) (b : Int) : impl_isLong.f L b = some (gd L b) := by
  unfold impl_isLong.f gd impl_areDigits.f impl_areIn.f
  rw [impl_isBase_eq]
  by_cases hb : 2 ≤ b ∧ b ≤ 16
  · simp only [Option.bind_some, decide_eq_true hb, if_true, Bool.true_and]
    rw [w64 (by omega) (by omega), ← Bool.decide_and]
    by_cases hl : 1 ≤ (L.length : Int) ∧ (L.length : Int) ≤ 40
    · rw [decide_eq_true hl, Bool.true_and]
      cases impl_areIn.all 0 (b - 1) L
      · simp
      · have hpos : 0 < (L.length : Int) := by omega
        have h40 : (L.length : Int) ≤ 40 := hl.2
        simp only [if_true, hpos, h40, decide_true, Bool.true_and]
        by_cases h0 : rd L 0 > 0
        · simp [h0]
        · simp only [h0, if_false, decide_false, Bool.false_or, Option.bind_some]
          cases ((L.length : Int) == 1) <;> rfl
    · rw [decide_eq_false hl]; simp
  · simp only [Option.bind_some, decide_eq_false hb]; simp
theorem gd_len {L : List Int} {b : Int} (h : gd L b = true) : (2 ≤ b ∧ b ≤ 16) ∧ 1 ≤ L.length ∧ L.length ≤ 40 ∧ (∀ x ∈ L, 0 ≤ x ∧ x < b) := by
  unfold gd at h
  simp only [Bool.and_eq_true, decide_eq_true_eq] at h
  refine ⟨h.1, by omega, by omega, fun x hx => ?_⟩
  have := h.2.2.1
  simp only [impl_areIn.all, impl_areIn.ok, List.all_eq_true, Bool.and_eq_true, decide_eq_true_eq] at this
  have := this x hx
  omega

theorem same_l0 : ∀ k a b n i, spec_l1Same.l0 k a b n i = slices_Equal_int_int.l0 k a b n i
  | 0, _, _, _, _ => by simp [spec_l1Same.l0, slices_Equal_int_int.l0]
  | k + 1, a, b, n, i => by rw [spec_l1Same.l0, slices_Equal_int_int.l0, same_l0 k]
theorem equal_l0 (A B : List Int) (hL : A.length ≤ 1048576) (hAB : A.length = B.length) : ∀ (r s pre : List Int) (i : Int), A = pre ++ r → B = pre ++ s → i = (pre.length : Int) → Ev (fun k => slices_Equal_int_int.l0 k A B (A.length : Int) i) (decide (A = B))
  | [], s, pre, i, h, h', hi => by
    refine Ev.step (fun k => by rw [slices_Equal_int_int.l0]) ?_
    refine Ev.neg (by rw [h]; simp; omega) (Ev.val ?_)
    have : s = [] := by rw [h, h'] at hAB; simp at hAB; exact hAB
    rw [h, h', this]; simp
  | a :: r, [], pre, i, h, h', hi => by rw [h, h'] at hAB; simp at hAB
  | a :: r, c :: s, pre, i, h, h', hi => by
    have hlen : A.length = pre.length + (r.length + 1) := by rw [h]; simp
    have hra : rd A i = a := by rw [h, hi]; simp [rd]
    have hrb : rd B i = c := by rw [h', hi]; simp [rd]
    refine Ev.step (fun k => by rw [slices_Equal_int_int.l0]) ?_
    refine Ev.pos (by omega) (Ev.pos (by omega) (Ev.pos (by omega) (Ev.pos (by omega) ?_)))
    rw [hra, hrb, w64 (by omega) (by omega)]
    by_cases e : a = c
    · exact Ev.pos e (equal_l0 A B hL hAB r s (pre ++ [a]) (i + 1) (by rw [h]; simp) (by rw [h', e]; simp) (by simp; omega))
    · refine Ev.neg e (Ev.val ?_)
      have : ¬ A = B := by rw [h, h']; simp; intro hh; exact absurd hh e
      rw [decide_eq_false this]
theorem equal_ev (A B : List Int) (hL : A.length ≤ 1048576) (hAB : A.length = B.length) : Ev (fun k => slices_Equal_int_int.f k A B) (decide (A = B)) ∧ Ev (fun k => spec_l1Same.f k A B) (decide (A = B)) := by
  have h := equal_l0 A B hL hAB A B [] 0 rfl rfl rfl
  unfold slices_Equal_int_int.f spec_l1Same.f
  exact ⟨Ev.pos (by omega) h, Ev.pos (by omega) (Ev.congr (fun k => same_l0 k _ _ _ _) h)⟩
theorem back_l0 (L : List Int) (hL : L.length ≤ 1048576) : ∀ (m : Nat) (i : Int) (acc : List Int), m ≤ L.length → i = (m : Int) - 1 → acc.length + m ≤ 1048576 → Ev (fun k => spec_dgBack.l0 k L acc i) (acc ++ (L.take m).reverse)
  | 0, i, acc, h, hi, ha => by
    refine Ev.step (fun k => by rw [spec_dgBack.l0]) ?_
    exact Ev.neg (by omega) (Ev.val (by simp))
  | m + 1, i, acc, h, hi, ha => by
    have hr : rd L i = L[m] := by
      have : i.toNat = m := by omega
      simp [rd, this, List.getElem?_eq_getElem (show m < L.length by omega)]
    have ih := back_l0 L hL m (i - 1) (acc ++ [rd L i]) (by omega) (by omega) (by simp; omega)
    refine Ev.step (fun k => by rw [spec_dgBack.l0]) ?_
    refine Ev.pos (by omega) (Ev.pos (by omega) (Ev.pos (by omega) (Ev.pos (by omega) ?_)))
    rw [w64 (by omega) (by omega)]
    have e : acc ++ (L.take (m + 1)).reverse = (acc ++ [rd L i]) ++ (L.take m).reverse := by
      rw [List.take_succ_eq_append_getElem (show m < L.length by omega), hr]; simp
    rw [e]; exact ih
theorem back_ev (L : List Int) (hL : L.length ≤ 1048576) : Ev (fun k => spec_dgBack.f k L) L.reverse := by
  have := back_l0 L hL L.length ((L.length : Int) - 1) [] (Nat.le_refl _) rfl (by simp; omega)
  unfold spec_dgBack.f
  rw [w64 (by omega) (by omega)]
  simpa using this
theorem rev_l0 : ∀ (m : Nat) (A M B : List Int) (i j : Int), M.length < m → i = (A.length : Int) → j = (A.length : Int) + M.length - 1 → A.length + M.length + B.length ≤ 4611686018427387904 →
    Ev (fun k => slices_Reverse_int_int.l0 k (A ++ M ++ B) i j) (A ++ M.reverse ++ B)
  | 0, _, _, _, _, _, h, _, _, _ => by omega
  | m + 1, A, M, B, i, j, h, hi, hj, hl => by
    match M, h, hj, hl with
    | [], h, hj, hl =>
      refine Ev.step (fun k => by rw [slices_Reverse_int_int.l0]) (Ev.neg (by simp at hj; omega) (Ev.val (by simp)))
    | [a], h, hj, hl =>
      refine Ev.step (fun k => by rw [slices_Reverse_int_int.l0]) (Ev.neg (by simp at hj; omega) (Ev.val (by simp)))
    | a :: c :: M', h, hj, hl =>
      obtain ⟨M2, b, hM⟩ : ∃ M2 b, c :: M' = M2 ++ [b] := ⟨_, _, (List.dropLast_concat_getLast (by simp : c :: M' ≠ [])).symm⟩
      rw [hM] at h hj hl ⊢
      simp only [List.length_cons, List.length_append, List.length_nil] at h hj hl
      have r1 : rd (A ++ (a :: (M2 ++ [b])) ++ B) i = a := by subst hi; simp [rd]
      have r2 : rd (A ++ (a :: (M2 ++ [b])) ++ B) j = b := by
        have : j.toNat = A.length + (M2.length + 1) := by omega
        simp [rd, this]
      have e : ((A ++ (a :: (M2 ++ [b])) ++ B).set i.toNat b).set j.toNat a = (A ++ [b]) ++ M2 ++ (a :: B) := by
        have e1 : j.toNat = (A ++ (b :: M2)).length := by simp; omega
        have e0 : i.toNat = A.length := by omega
        have s1 : (A ++ (a :: (M2 ++ [b])) ++ B).set i.toNat b = (A ++ (b :: M2)) ++ b :: B := by rw [e0]; simp
        rw [s1, e1]; simp
      refine Ev.step (fun k => by rw [slices_Reverse_int_int.l0]) (Ev.pos (by omega) (Ev.pos (by omega) (Ev.pos (by simp; omega) (Ev.pos (by omega) (Ev.pos (by simp; omega) ?_)))))
      rw [r1, r2, e, w64 (x := i + 1) (by omega) (by omega), w64 (x := j - 1) (by omega) (by omega)]
      have ih := rev_l0 m (A ++ [b]) M2 (a :: B) (i + 1) (j - 1) (by omega) (by simp; omega) (by simp; omega) (by simp; omega)
      have e2 : A ++ (a :: (M2 ++ [b])).reverse ++ B = (A ++ [b]) ++ M2.reverse ++ (a :: B) := by simp
      rw [e2]; exact ih
theorem rev_ev (l : List Int) (hl : l.length ≤ 4000000000000000000) : Ev (fun k => slices_Reverse_int_int.f k l) l.reverse := by
  have := rev_l0 _ [] l [] 0 ((l.length : Int) - 1) (Nat.lt_succ_self _) (by simp) (by simp) (by simp; omega)
  unfold slices_Reverse_int_int.f
  rw [w64 (by omega) (by omega)]
  simpa using this

theorem reversed_ev (L : List Int) (hL : L.length ≤ 1048576) : Ev (fun k => impl_reversed.f k L) L.reverse := by
  unfold impl_reversed.f
  exact Ev.pure (show slices_Clone_int_int.f L = some L by unfold slices_Clone_int_int.f; rw [if_pos (by omega)]) (Ev.bind (rev_ev L (by omega)) (Ev.now _))

theorem pal_ev (L : List Int) (hL : L.length ≤ 1048576) : Ev (fun k => spec_dgPalindrome.f k L) (decide (L = L.reverse)) ∧ Ev (fun k => impl_isSymmetric.f k L) (decide (L = L.reverse)) := by
  have h := equal_ev L L.reverse hL (by simp)
  exact ⟨Ev.bind (back_ev L hL) (Ev.bind h.2 (Ev.now _)), Ev.bind (reversed_ev L hL) (Ev.bind h.1 (Ev.now _))⟩

/-- the digits of the sum from the last one on, and what is carried, as int makes them -/
def ad (l : List Int) (b : Int) : Nat → Int → List Int → List Int → Int → List Int × List Int
  | 0, _, out, cs, c => (if c > 0 then out ++ [c] else out, cs)
  | m + 1, i, out, cs, c =>
    ad l b m (i + 1) (out ++ [Int.tmod (wrap64 (wrap64 (rd l ((l.length : Int) - 1 - i) + rd l i) + c)) b]) (cs ++ [wrap64 (Int.tdiv (wrap64 (wrap64 (rd l ((l.length : Int) - 1 - i) + rd l i) + c)) b)]) (wrap64 (Int.tdiv (wrap64 (wrap64 (rd l ((l.length : Int) - 1 - i) + rd l i) + c)) b))
theorem ad_len (l : List Int) (b : Int) : ∀ (m : Nat) (i : Int) (out cs : List Int) (c : Int), out.length + m ≤ (ad l b m i out cs c).1.length ∧ (ad l b m i out cs c).1.length ≤ out.length + m + 1 ∧ (ad l b m i out cs c).2.length = cs.length + m
  | 0, i, out, cs, c => by
    simp only [ad]
    split <;> simp
  | m + 1, i, out, cs, c => by
    have := ad_len l b m (i + 1) (out ++ [Int.tmod (wrap64 (wrap64 (rd l ((l.length : Int) - 1 - i) + rd l i) + c)) b]) (cs ++ [wrap64 (Int.tdiv (wrap64 (wrap64 (rd l ((l.length : Int) - 1 - i) + rd l i) + c)) b)]) (wrap64 (Int.tdiv (wrap64 (wrap64 (rd l ((l.length : Int) - 1 - i) + rd l i) + c)) b))
    simp only [ad]
    simp only [List.length_append, List.length_cons, List.length_nil] at this ⊢
    omega
theorem summed_l0 (l : List Int) (b : Int) (hb : b ≠ 0) (hl : l.length ≤ 1000) : ∀ (m : Nat) (i : Int) (out cs : List Int) (c : Int), i + m = (l.length : Int) → 0 ≤ i → out.length = i.toNat → cs.length = i.toNat →
    Ev (fun k => impl_summed.l0 k l b out cs c (l.length : Int) i) ((ad l b m i out cs c).1.reverse, (ad l b m i out cs c).2)
  | 0, i, out, cs, c, hi, h0, ho, hc => by
    refine Ev.step (fun k => by rw [impl_summed.l0]) ?_
    refine Ev.neg (by omega) ?_
    simp only [ad]
    by_cases hp : c > 0
    · rw [if_pos hp]
      exact Ev.pos hp (Ev.pos (by omega) (Ev.bind (reversed_ev _ (by simp; omega)) (Ev.now _)))
    · rw [if_neg hp]
      exact Ev.neg hp (Ev.bind (reversed_ev _ (by omega)) (Ev.now _))
  | m + 1, i, out, cs, c, hi, h0, ho, hc => by
    refine Ev.step (fun k => by rw [impl_summed.l0]) ?_
    rw [w64 (x := (l.length : Int) - 1) (by omega) (by omega), w64 (x := (l.length : Int) - 1 - i) (by omega) (by omega), w64 (x := i + 1) (by omega) (by omega)]
    refine Ev.pos (by omega) (Ev.pos (by omega) (Ev.pos (by omega) (Ev.pos (by omega) (Ev.pos (by omega) (Ev.neg hb (Ev.pos (by omega) (Ev.pos (by omega) ?_)))))))
    exact summed_l0 l b hb hl m (i + 1) _ _ _ (by omega) (by omega) (by simp; omega) (by simp; omega)
theorem rvAdd_l0 (l : List Int) (b : Int) (hb : b ≠ 0) (hl : l.length ≤ 1000) : ∀ (m : Nat) (i : Int) (out cs : List Int) (c : Int), i + m = (l.length : Int) → 0 ≤ i → out.length = i.toNat → cs.length = i.toNat →
    Ev (fun k => spec_rvAdd.l0 k l b (l.length : Int) out.reverse cs c ((l.length : Int) - 1 - i)) ((ad l b m i out cs c).1.reverse, (ad l b m i out cs c).2)
  | 0, i, out, cs, c, hi, h0, ho, hc => by
    refine Ev.step (fun k => by rw [spec_rvAdd.l0]) ?_
    refine Ev.neg (by omega) ?_
    simp only [ad]
    by_cases hp : c > 0
    · exact Ev.pos hp (Ev.pure rfl (Ev.pos (by simp; omega) (Ev.val (by simp [hp]))))
    · exact Ev.neg hp (Ev.val (by simp [hp]))
  | m + 1, i, out, cs, c, hi, h0, ho, hc => by
    refine Ev.step (fun k => by rw [spec_rvAdd.l0]) ?_
    have e1 : wrap64 (wrap64 ((l.length : Int) - 1) - ((l.length : Int) - 1 - i)) = i := by
      rw [w64 (x := (l.length : Int) - 1) (by omega) (by omega), w64 (by omega) (by omega)]; omega
    have e2 : wrap64 ((l.length : Int) - 1 - i - 1) = (l.length : Int) - 1 - (i + 1) := by rw [w64 (by omega) (by omega)]; omega
    rw [e1, e2]
    refine Ev.pos (by omega) (Ev.pos (by omega) (Ev.pos (by omega) (Ev.pos (by omega) (Ev.pos (by omega) (Ev.neg hb (Ev.pos (by omega) (Ev.pure rfl (Ev.pos (by simp; omega) ?_))))))))
    have ih := rvAdd_l0 l b hb hl m (i + 1) (out ++ [Int.tmod (wrap64 (wrap64 (rd l ((l.length : Int) - 1 - i) + rd l i) + c)) b]) (cs ++ [wrap64 (Int.tdiv (wrap64 (wrap64 (rd l ((l.length : Int) - 1 - i) + rd l i) + c)) b)]) (wrap64 (Int.tdiv (wrap64 (wrap64 (rd l ((l.length : Int) - 1 - i) + rd l i) + c)) b)) (by omega) (by omega) (by simp; omega) (by simp; omega)
    simp only [List.reverse_append, List.reverse_cons, List.reverse_nil, List.nil_append] at ih
    exact ih
def sumOf (l : List Int) (b : Int) : List Int := (ad l b l.length 0 [] [] 0).1.reverse
def carries (l : List Int) (b : Int) : List Int := (ad l b l.length 0 [] [] 0).2
theorem sum_len (l : List Int) (b : Int) : l.length ≤ (sumOf l b).length ∧ (sumOf l b).length ≤ l.length + 1 ∧ (carries l b).length = l.length := by
  have := ad_len l b l.length 0 [] [] 0
  unfold sumOf carries
  simp only [List.length_nil] at this
  rw [List.length_reverse]
  omega
theorem sum_ev {l : List Int} {b : Int} (hb : b ≠ 0) (hl : l.length ≤ 1000) : Ev (fun k => impl_summed.f k l b) (sumOf l b, carries l b) ∧ Ev (fun k => spec_rvAdd.f k l b) (sumOf l b, carries l b) := by
  have h1 := summed_l0 l b hb hl l.length 0 [] [] 0 (by omega) (by omega) rfl rfl
  have h2 := rvAdd_l0 l b hb hl l.length 0 [] [] 0 (by omega) (by omega) rfl rfl
  refine ⟨h1, ?_⟩
  unfold spec_rvAdd.f
  rw [w64 (by omega) (by omega)]
  rw [Int.sub_zero] at h2
  exact h2

/-- lists of lists: the last one -/
def lastL (xs : List (List Int)) : List Int := rd_L1 xs ((xs.length : Int) - 1)
theorem rd_L1_last (xs : List (List Int)) (x : List Int) (i : Int) (hi : i = (xs.length : Int)) : rd_L1 (xs ++ [x]) i = x := by subst hi; simp [rd_L1]
theorem rvMost_eq (m : Int) : spec_rvMost.f m = some (decide (0 ≤ m ∧ m ≤ 100)) := by
  unfold spec_rvMost.f
  rw [spec_l1In_eq]; rfl
theorem run_l0 {b most : Int} (hb : b ≠ 0) (hm : 0 ≤ most ∧ most ≤ 100) : ∀ (m : Nat) (i : Int) (pre : List (List Int)) (d : List Int), 0 ≤ i → i ≤ most → (most - i).toNat < m → i = (pre.length : Int) → d.length ≤ 40 →
    ∃ out : List (List Int), 1 ≤ out.length ∧ (out.length : Int) ≤ most + 1 ∧ (lastL out).length ≤ 40 ∧ Ev (fun k => spec_rvRun.l0 k b most (pre ++ [d]) i) out ∧ Ev (fun k => impl_stepsOf.l0 k d b most i) (if lastL out = (lastL out).reverse then (out.length : Int) - 1 else -1)
  | 0, _, _, _, _, _, h, _, _ => by omega
  | m + 1, i, pre, d, h0, h1, h, hi, hd => by
    have hlast : lastL (pre ++ [d]) = d := by unfold lastL; rw [rd_L1_last _ _ _ (by simp)]
    have hr := rd_L1_last pre d i hi
    have hp := pal_ev d (by omega)
    have hs := sum_ev (l := d) (b := b) hb (by omega)
    have hlen := sum_len d b
    by_cases hpal : d = d.reverse
    · -- symmetric
      rw [decide_eq_true hpal] at hp
      refine ⟨pre ++ [d], by simp, by simp; omega, by rw [hlast]; exact hd, ?_, ?_⟩
      · refine Ev.step (fun k => by rw [spec_rvRun.l0]) ?_
        by_cases hlt : i < most
        · refine Ev.pos hlt (Ev.pos h0 (Ev.pos (by simp; omega) ?_))
          rw [hr]
          refine Ev.bind hp.1 ?_
          refine Ev.step (fun k => by rw [spec_rvRun.j1]) ?_
          exact Ev.neg (by simp) (Ev.now _)
        · refine Ev.neg hlt ?_
          refine Ev.step (fun k => by rw [spec_rvRun.j1]) ?_
          exact Ev.neg (by simp) (Ev.now _)
      · rw [hlast, if_pos hpal]
        refine Ev.step (fun k => by rw [impl_stepsOf.l0]) ?_
        refine Ev.pos h1 ?_
        refine Ev.step (fun k => by rw [impl_stepsOf.j1]) ?_
        exact Ev.pos (by simp; omega) (Ev.bind hp.2 (Ev.pos rfl (Ev.val (by simp; omega))))
    · rw [decide_eq_false hpal] at hp
      by_cases hlt : i < most
      · by_cases h40 : ((sumOf d b).length : Int) > 40
        · refine ⟨pre ++ [d], by simp, by simp; omega, by rw [hlast]; exact hd, ?_, ?_⟩
          · refine Ev.step (fun k => by rw [spec_rvRun.l0]) ?_
            refine Ev.pos hlt (Ev.pos h0 (Ev.pos (by simp; omega) ?_))
            rw [hr]
            refine Ev.bind hp.1 ?_
            refine Ev.step (fun k => by rw [spec_rvRun.j1]) ?_
            refine Ev.pos rfl (Ev.pos h0 (Ev.pos (by simp; omega) ?_))
            rw [hr]
            exact Ev.bind hs.2 (Ev.pos h40 (Ev.now _))
          · rw [hlast, if_neg hpal]
            refine Ev.step (fun k => by rw [impl_stepsOf.l0]) ?_
            refine Ev.pos h1 ?_
            refine Ev.step (fun k => by rw [impl_stepsOf.j1]) ?_
            refine Ev.pos (by simp; omega) (Ev.bind hp.2 (Ev.neg (by simp) (Ev.bind hs.1 ?_)))
            rw [w64 (by omega) (by omega)]
            refine Ev.step (fun k => by rw [impl_stepsOf.l0]) ?_
            refine Ev.pos (by omega) ?_
            refine Ev.step (fun k => by rw [impl_stepsOf.j1]) ?_
            exact Ev.neg (by simp; omega) (Ev.now _)
        · obtain ⟨out, o1, o2, o3, gs, gi⟩ := run_l0 hb hm m (i + 1) (pre ++ [d]) (sumOf d b) (by omega) (by omega) (by omega) (by simp; omega) (by omega)
          refine ⟨out, o1, o2, o3, ?_, ?_⟩
          · refine Ev.step (fun k => by rw [spec_rvRun.l0]) ?_
            refine Ev.pos hlt (Ev.pos h0 (Ev.pos (by simp; omega) ?_))
            rw [hr]
            refine Ev.bind hp.1 ?_
            refine Ev.step (fun k => by rw [spec_rvRun.j1]) ?_
            refine Ev.pos rfl (Ev.pos h0 (Ev.pos (by simp; omega) ?_))
            rw [hr, w64 (by omega) (by omega)]
            exact Ev.bind hs.2 (Ev.neg h40 (Ev.pos (by simp; omega) gs))
          · refine Ev.step (fun k => by rw [impl_stepsOf.l0]) ?_
            refine Ev.pos h1 ?_
            refine Ev.step (fun k => by rw [impl_stepsOf.j1]) ?_
            refine Ev.pos (by simp; omega) (Ev.bind hp.2 (Ev.neg (by simp) (Ev.bind hs.1 ?_)))
            rw [w64 (by omega) (by omega)]
            exact gi
      · refine ⟨pre ++ [d], by simp, by simp; omega, by rw [hlast]; exact hd, ?_, ?_⟩
        · refine Ev.step (fun k => by rw [spec_rvRun.l0]) ?_
          refine Ev.neg hlt ?_
          refine Ev.step (fun k => by rw [spec_rvRun.j1]) ?_
          exact Ev.neg (by simp) (Ev.now _)
        · rw [hlast, if_neg hpal]
          refine Ev.step (fun k => by rw [impl_stepsOf.l0]) ?_
          refine Ev.pos h1 ?_
          refine Ev.step (fun k => by rw [impl_stepsOf.j1]) ?_
          refine Ev.pos (by simp; omega) (Ev.bind hp.2 (Ev.neg (by simp) (Ev.bind hs.1 ?_)))
          rw [w64 (by omega) (by omega)]
          refine Ev.step (fun k => by rw [impl_stepsOf.l0]) ?_
          refine Ev.neg (by omega) ?_
          refine Ev.step (fun k => by rw [impl_stepsOf.j1]) ?_
          exact Ev.neg (by simp) (Ev.now _)
/-- the reference's steps and the program's: both have enough, and as many; or neither -/
theorem steps_ev {l : List Int} {b most : Int} (hb : b ≠ 0) (hm : 0 ≤ most ∧ most ≤ 100) (hl : l.length ≤ 40) :
    ∃ v : Int, -1 ≤ v ∧ v ≤ most ∧ Ev (fun k => spec_rvSteps.f k l b most) (if v < 0 then (0, false) else (v, true)) ∧ Ev (fun k => impl_stepsOf.f k l b most) v := by
  obtain ⟨out, o1, o2, o3, gs, gi⟩ := run_l0 hb hm _ 0 [] l (by omega) hm.1 (Nat.lt_succ_self _) rfl hl
  have hp := (pal_ev (lastL out) (by omega)).1
  have ho : Ev (fun k => spec_rvRun.f k l b most) out := by
    unfold spec_rvRun.f
    refine Ev.pure (a := l) ?_ gs
    unfold spec_l1Own.f
    simp; omega
  have e : wrap64 ((out.length : Int) - 1) = (out.length : Int) - 1 := w64 (by omega) (by omega)
  by_cases hq : lastL out = (lastL out).reverse
  · rw [if_pos hq] at gi
    rw [decide_eq_true hq] at hp
    refine ⟨_, by omega, by omega, ?_, gi⟩
    unfold spec_rvSteps.f
    refine Ev.bind ho ?_
    rw [e, if_neg (by omega)]
    exact Ev.pos (by omega) (Ev.pos (by omega) (Ev.bind hp (Ev.pos rfl (Ev.now _))))
  · rw [if_neg hq] at gi
    rw [decide_eq_false hq] at hp
    refine ⟨_, by omega, by omega, ?_, gi⟩
    unfold spec_rvSteps.f
    refine Ev.bind ho ?_
    rw [e]
    exact Ev.pos (by omega) (Ev.pos (by omega) (Ev.bind hp (Ev.neg (by simp) (Ev.now _))))

theorem law_ev (l : List Int) (b most : Int) (hL : l.length ≤ 1048576) : ∃ r : Int × Bool, Ev (fun k => spec_StepsToSymmetric.f k l b most) r ∧ Ev (fun k => impl_StepsToSymmetric.f k l b most) r := by
  unfold spec_StepsToSymmetric.f impl_StepsToSymmetric.f
  rw [isLong_eq, rvMost_eq, impl_in_eq]
  have hg := rvGood_ev l b hL
  cases hq : gd l b
  · rw [hq] at hg
    exact ⟨(0, false), Ev.bind hg (Ev.neg (by simp) (Ev.now _)), Ev.pure rfl (Ev.neg (by simp) (Ev.now _))⟩
  · rw [hq] at hg
    have hv := gd_len hq
    by_cases hm : 0 ≤ most ∧ most ≤ 100
    · obtain ⟨v, v1, v2, vs, vi⟩ := steps_ev (l := l) (b := b) (by omega) hm (by omega)
      refine ⟨_, Ev.bind hg (Ev.pos rfl (Ev.pure rfl (Ev.pos (decide_eq_true hm) (Ev.bind vs (Ev.now _))))), Ev.pure rfl (Ev.pos rfl (Ev.pure rfl (Ev.pos (decide_eq_true hm) (Ev.bind vi (Ev.val ?_)))))⟩
      unfold mx
      by_cases hv0 : v < 0
      · simp [hv0]
      · simp [hv0]; omega
    · exact ⟨(0, false), Ev.bind hg (Ev.pos rfl (Ev.pure rfl (Ev.neg (by simp [hm]) (Ev.now _)))), Ev.pure rfl (Ev.pos rfl (Ev.pure rfl (Ev.neg (by simp [hm]) (Ev.now _))))⟩

theorem FnExactStepsToSymmetric : laws_FnExactStepsToSymmetric.Pure := by
  intro l b most hm hl hw hb hmo
  apply Ev.rounds
  unfold laws_FnExactStepsToSymmetric.f
  by_cases h : (l.length : Int) > 1048576
  · exact Ev.pos h (Ev.now _)
  · refine Ev.neg h ?_
    have hL : l.length ≤ 1048576 := by omega
    have ht := toInt_ev l hL
    obtain ⟨⟨x, y⟩, hs, hi⟩ := law_ev l b most hL
    refine Ev.bind ht (Ev.bind hs (Ev.bind ht (Ev.bind hi (Ev.pos rfl ?_))))
    refine Ev.step (fun k => by rw [laws_FnExactStepsToSymmetric.j0]) ?_
    exact Ev.neg (by simp) (Ev.bind ht (Ev.bind (eq_ev l (by omega)) (Ev.pos rfl (Ev.now _))))

end Go.Proofs.Ytaocjhoilbgaoaa.Pure
