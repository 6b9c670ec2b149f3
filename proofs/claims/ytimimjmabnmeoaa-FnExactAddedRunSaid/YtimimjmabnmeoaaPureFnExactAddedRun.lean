/- For every list of ints and all ints base and most, the program's AddedRun gives what the reference's gives, in memory of its own, and leaves the list as it is. No conditions. -/
import Derived.Test.YtimimjmabnmeoaaPFnExactAddedRunx5
namespace Go.Proofs.Ytimimjmabnmeoaa.Pure
open Go.RowKit Go.Proofs.Ytimimjmabnmeoaa.PFnExactAddedRun Go.Proofs.YtimimjmabnmeoaaW.PrintWords Go.Proofs.YtimimjmabnmeoaaW.PrintLast

theorem wf_i64 {x : Int} (h : (Lit.int .i64 x).wf = true) : -9223372036854775808 ≤ x ∧ x ≤ 9223372036854775807 := by
  simp only [Lit.wf, Bool.and_eq_true, decide_eq_true_eq, show IntKind.i64.min = -9223372036854775808 from rfl, show IntKind.i64.max = 9223372036854775807 from rfl] at h
  exact h
theorem w64 {x : Int} (h0 : -9223372036854775808 ≤ x) (h1 : x ≤ 9223372036854775807) : wrap64 x = x := by unfold wrap64; omega
theorem Ev.pos {α : Type} {c : Prop} [Decidable c] {A B : Nat → Option α} {r : α} (h : c) (e : Ev A r) : Ev (fun k => if c then A k else B k) r := by simpa only [if_pos h] using e
theorem Ev.neg {α : Type} {c : Prop} [Decidable c] {A B : Nat → Option α} {r : α} (h : ¬ c) (e : Ev B r) : Ev (fun k => if c then A k else B k) r := by simpa only [if_neg h] using e
theorem Ev.val {α : Type} {a r : α} (h : a = r) : Ev (fun _ => some a) r := h ▸ Ev.now a
theorem Ev.pure {α β : Type} {o : Option α} {f : Nat → α → Option β} {a : α} {r : β} (h : o = some a) (k : Ev (fun n => f n a) r) : Ev (fun n => o.bind (f n)) r := by subst h; exact k
theorem Ev.call {α β : Type} {g : Nat → Option α} {f : Nat → α → Option β} {a : α} {r : β} (h : Ev g a) (k : Ev (fun n => f n a) r) : Ev (fun n => (g n).bind (f n)) r := Ev.bind h k
theorem Ev.same {α : Type} {g f : Nat → Option α} {r : α} (h : ∀ k, g k = f k) (k : Ev g r) : Ev f r := Ev.congr (fun k => (h k).symm) k

theorem rd_mid (pre rest : List Int) (a : Int) : rd (pre ++ a :: rest) (pre.length : Int) = a := by simp [rd]

theorem toInt_l0 (L : List Int) (hL : L.length ≤ 1048576) : ∀ (rest pre : List Int) (i : Int), L = pre ++ rest → i = (pre.length : Int) → Ev (fun k => laws_toIntS.l0 k L (pre ++ List.replicate rest.length 0) i) L
  | [], pre, i, h, hi => by
    refine Ev.step (fun k => by rw [laws_toIntS.l0]) ?_
    exact Ev.neg (by rw [h]; simp; omega) (Ev.val (by rw [h]; simp))
  | a :: rest, pre, i, h, hi => by
    have hlen : L.length = pre.length + (rest.length + 1) := by rw [h]; simp
    have hr : rd L i = a := by rw [h, hi]; simp [rd]
    have e : (pre ++ List.replicate (a :: rest).length 0).set i.toNat a = (pre ++ [a]) ++ List.replicate rest.length 0 := by
      have : i.toNat = pre.length := by omega
      rw [this, List.length_cons, List.replicate_succ]; simp
    have ih := toInt_l0 L hL rest (pre ++ [a]) (i + 1) (by rw [h]; simp) (by simp; omega)
    refine Ev.step (fun k => by rw [laws_toIntS.l0]) ?_
    refine Ev.pos (by omega) (Ev.pos (by omega) (Ev.pos (by simp; omega) ?_))
    rw [hr, e, w64 (by omega) (by omega)]
    exact ih
theorem toInt_ev (L : List Int) (hL : L.length ≤ 1048576) : Ev (fun k => laws_toIntS.f k L) L := by
  unfold laws_toIntS.f
  refine Ev.pos (by omega) (Ev.pos (by omega) ?_)
  have := toInt_l0 L hL L [] 0 rfl rfl
  simpa using this

theorem spec_l1In_eq (a b c : Int) : spec_l1In.f a b c = some (decide (b ≤ a ∧ a ≤ c)) := by
  unfold spec_l1In.f
  by_cases h : b ≤ a
  · rw [if_pos (show a ≥ b from h)]; simp [h]
  · rw [if_neg (show ¬ a ≥ b from h)]; simp [h]
theorem impl_in_eq (a b c : Int) : impl_in.f a b c = some (decide (b ≤ a ∧ a ≤ c)) := by
  unfold impl_in.f
  by_cases h : b ≤ a
  · rw [if_pos h]; simp [h]
  · rw [if_neg h]; simp [h]
theorem spec_dgBase_eq (b : Int) : spec_dgBase.f b = some (decide (2 ≤ b ∧ b ≤ 16)) := by
  unfold spec_dgBase.f
  rw [spec_l1In_eq]; simp
theorem impl_isBase_eq (b : Int) : impl_isBase.f b = some (decide (2 ≤ b ∧ b ≤ 16)) := by
  unfold impl_isBase.f
  rw [impl_in_eq]; simp

theorem l1All_l0 (L : List Int) (hL : L.length ≤ 1048576) (lo hi : Int) : ∀ (rest pre : List Int) (i : Int), L = pre ++ rest → i = (pre.length : Int) → Ev (fun k => spec_l1All.l0 k lo hi L (L.length : Int) i) (impl_areIn.all lo hi rest)
  | [], pre, i, h, hi' => by
    refine Ev.step (fun k => by rw [spec_l1All.l0]) ?_
    exact Ev.neg (by rw [h]; simp; omega) (Ev.val rfl)
  | a :: rest, pre, i, h, hi' => by
    have hlen : L.length = pre.length + (rest.length + 1) := by rw [h]; simp
    have hr : rd L i = a := by rw [h, hi']; simp [rd]
    have ih := l1All_l0 L hL lo hi rest (pre ++ [a]) (i + 1) (by rw [h]; simp) (by simp; omega)
    refine Ev.step (fun k => by rw [spec_l1All.l0]) ?_
    rw [hr, w64 (by omega) (by omega)]
    refine Ev.pos (by omega) (Ev.pos (by omega) (Ev.pos (by omega) (Ev.pure (spec_l1In_eq _ _ _) ?_)))
    by_cases hc : lo ≤ a ∧ a ≤ hi
    · refine Ev.pos (decide_eq_true hc) ?_
      have e : impl_areIn.all lo hi (a :: rest) = impl_areIn.all lo hi rest := by simp [impl_areIn.all, impl_areIn.ok, hc]
      rw [e]; exact ih
    · refine Ev.neg (by simp [hc]) (Ev.val ?_)
      simp only [impl_areIn.all, impl_areIn.ok, List.all_cons]
      rw [show (decide (lo ≤ a) && decide (a ≤ hi)) = false by rw [← Bool.decide_and]; exact decide_eq_false hc]
      rfl
theorem l1All_ev (L : List Int) (hL : L.length ≤ 1048576) (lo hi : Int) : Ev (fun k => spec_l1All.f k L lo hi) (impl_areIn.all lo hi L) := l1All_l0 L hL lo hi L [] 0 rfl rfl

/-- valid digits, at most 40 -/
def gd (l : List Int) (b : Int) : Bool := decide (2 ≤ b ∧ b ≤ 16) && (decide (1 ≤ (l.length : Int) ∧ (l.length : Int) ≤ 40) && (impl_areIn.all 0 (b - 1) l && (decide (rd l 0 > 0) || ((l.length : Int) == 1))))
theorem rvGood_ev (L : List Int) (b : Int) (hL : L.length ≤ 1048576) : Ev (fun k => spec_rvGood.f k L b) (gd L b) := by
  unfold spec_rvGood.f gd
  refine Ev.pure (spec_dgBase_eq b) ?_
  by_cases hb : 2 ≤ b ∧ b ≤ 16
  · refine Ev.pos (decide_eq_true hb) (Ev.pure (spec_l1In_eq _ _ _) ?_)
    rw [decide_eq_true hb, Bool.true_and]
    by_cases hl : 1 ≤ (L.length : Int) ∧ (L.length : Int) ≤ 40
    · refine Ev.pos (decide_eq_true hl) ?_
      rw [decide_eq_true hl, Bool.true_and, w64 (by omega) (by omega)]
      refine Ev.bind (l1All_ev L hL 0 (b - 1)) ?_
      cases impl_areIn.all 0 (b - 1) L
      · exact Ev.neg (by simp) (Ev.val rfl)
      · refine Ev.pos rfl (Ev.pos (by omega) ?_)
        by_cases h0 : rd L 0 > 0
        · exact Ev.pos h0 (Ev.val (by simp [h0]))
        · exact Ev.neg h0 (Ev.val (by simp [h0]))
    · refine Ev.neg (by simp only [decide_eq_true_eq]; exact hl) (Ev.val ?_)
      rw [decide_eq_false hl]; rfl
  · refine Ev.neg (by simp only [decide_eq_true_eq]; exact hb) (Ev.val ?_)
    rw [decide_eq_false hb]; rfl
theorem isLong_eq (L : List Int) (b : Int) : impl_isLong.f L b = some (gd L b) := by
  unfold impl_isLong.f gd impl_areDigits.f impl_areIn.f
  rw [impl_isBase_eq]
  by_cases hb : 2 ≤ b ∧ b ≤ 16
  · simp only [Option.bind_some, decide_eq_true hb, if_true, Bool.true_and]
    rw [w64 (by omega) (by omega), ← Bool.decide_and]
    by_cases hl : 1 ≤ (L.length : Int) ∧ (L.length : Int) ≤ 40
    · rw [decide_eq_true hl, Bool.true_and]
      cases impl_areIn.all 0 (b - 1) L
      · simp
      · have hpos : 0 < (L.length : Int) := by omega
        have h40 : (L.length : Int) ≤ 40 := hl.2
        simp only [if_true, hpos, h40, decide_true, Bool.true_and]
        by_cases h0 : rd L 0 > 0
        · simp [h0]
        · simp only [h0, if_false, decide_false, Bool.false_or, Option.bind_some]
          cases ((L.length : Int) == 1) <;> rfl
    · rw [decide_eq_false hl]; simp
  · simp only [Option.bind_some, decide_eq_false hb]; simp
theorem gd_len {L : List Int} {b : Int} (h : gd L b = true) : (2 ≤ b ∧ b ≤ 16) ∧ 1 ≤ L.length ∧ L.length ≤ 40 ∧ (∀ x ∈ L, 0 ≤ x ∧ x < b) := by
  unfold gd at h
  simp only [Bool.and_eq_true, decide_eq_true_eq] at h
  refine ⟨h.1, by omega, by omega, fun x hx => ?_⟩
  have := h.2.2.1
  simp only [impl_areIn.all, impl_areIn.ok, List.all_eq_true, Bool.and_eq_true, decide_eq_true_eq] at this
  have := this x hx
  omega

theorem same_l0 : ∀ k a b n i, spec_l1Same.l0 k a b n i = slices_Equal_int_int.l0 k a b n i
  | 0, _, _, _, _ => by simp [spec_l1Same.l0, slices_Equal_int_int.l0]
  | k + 1, a, b, n, i => by rw [spec_l1Same.l0, slices_Equal_int_int.l0, same_l0 k]
theorem equal_l0 (A B : List Int) (hL : A.length ≤ 1048576) (hAB : A.length = B.length) : ∀ (r s pre : List Int) (i : Int), A = pre ++ r → B = pre ++ s → i = (pre.length : Int) → Ev (fun k => slices_Equal_int_int.l0 k A B (A.length : Int) i) (decide (A = B))
  | [], s, pre, i, h, h', hi => by
    refine Ev.step (fun k => by rw [slices_Equal_int_int.l0]) ?_
    refine Ev.neg (by rw [h]; simp; omega) (Ev.val ?_)
    have : s = [] := by rw [h, h'] at hAB; simp at hAB; exact hAB
    rw [h, h', this]; simp
  | a :: r, [], pre, i, h, h', hi => by rw [h, h'] at hAB; simp at hAB
  | a :: r, c :: s, pre, i, h, h', hi => by
    have hlen : A.length = pre.length + (r.length + 1) := by rw [h]; simp
    have hra : rd A i = a := by rw [h, hi]; simp [rd]
    have hrb : rd B i = c := by rw [h', hi]; simp [rd]
    refine Ev.step (fun k => by rw [slices_Equal_int_int.l0]) ?_
    refine Ev.pos (by omega) (Ev.pos (by omega) (Ev.pos (by omega) (Ev.pos (by omega) ?_)))
    rw [hra, hrb, w64 (by omega) (by omega)]
    by_cases e : a = c
    · exact Ev.pos e (equal_l0 A B hL hAB r s (pre ++ [a]) (i + 1) (by rw [h]; simp) (by rw [h', e]; simp) (by simp; omega))
    · refine Ev.neg e (Ev.val ?_)
      have : ¬ A = B := by rw [h, h']; simp; intro hh; exact absurd hh e
      rw [decide_eq_false this]
theorem equal_ev (A B : List Int) (hL : A.length ≤ 1048576) (hAB : A.length = B.length) : Ev (fun k => slices_Equal_int_int.f k A B) (decide (A = B)) ∧ Ev (fun k => spec_l1Same.f k A B) (decide (A = B)) := by
  have h := equal_l0 A B hL hAB A B [] 0 rfl rfl rfl
  unfold slices_Equal_int_int.f spec_l1Same.f
  exact ⟨Ev.pos (by omega) h, Ev.pos (by omega) (Ev.congr (fun k => same_l0 k _ _ _ _) h)⟩
theorem back_l0 (L : List Int) (hL : L.length ≤ 1048576) : ∀ (m : Nat) (i : Int) (acc : List Int), m ≤ L.length → i = (m : Int) - 1 → acc.length + m ≤ 1048576 → Ev (fun k => spec_dgBack.l0 k L acc i) (acc ++ (L.take m).reverse)
  | 0, i, acc, h, hi, ha => by
    refine Ev.step (fun k => by rw [spec_dgBack.l0]) ?_
    exact Ev.neg (by omega) (Ev.val (by simp))
  | m + 1, i, acc, h, hi, ha => by
    have hr : rd L i = L[m] := by
      have : i.toNat = m := by omega
      simp [rd, this, List.getElem?_eq_getElem (show m < L.length by omega)]
    have ih := back_l0 L hL m (i - 1) (acc ++ [rd L i]) (by omega) (by omega) (by simp; omega)
    refine Ev.step (fun k => by rw [spec_dgBack.l0]) ?_
    refine Ev.pos (by omega) (Ev.pos (by omega) (Ev.pos (by omega) (Ev.pos (by omega) ?_)))
    rw [w64 (by omega) (by omega)]
    have e : acc ++ (L.take (m + 1)).reverse = (acc ++ [rd L i]) ++ (L.take m).reverse := by
      rw [List.take_succ_eq_append_getElem (show m < L.length by omega), hr]; simp
    rw [e]; exact ih
theorem back_ev (L : List Int) (hL : L.length ≤ 1048576) : Ev (fun k => spec_dgBack.f k L) L.reverse := by
  have := back_l0 L hL L.length ((L.length : Int) - 1) [] (Nat.le_refl _) rfl (by simp; omega)
  unfold spec_dgBack.f
  rw [w64 (by omega) (by omega)]
  simpa using this

theorem rev_l0 : ∀ (m : Nat) (A M B : List Int) (i j : Int), M.length < m → i = (A.length : Int) → j = (A.length : Int) + M.length - 1 → A.length + M.length + B.length ≤ 4611686018427387904 →
    Ev (fun k => slices_Reverse_int_int.l0 k (A ++ M ++ B) i j) (A ++ M.reverse ++ B)
  | 0, _, _, _, _, _, h, _, _, _ => by omega
  | m + 1, A, M, B, i, j, h, hi, hj, hl => by
    match M, h, hj, hl with
    | [], h, hj, hl =>
      refine Ev.step (fun k => by rw [slices_Reverse_int_int.l0]) (Ev.neg (by simp at hj; omega) (Ev.val (by simp)))
    | [a], h, hj, hl =>
      refine Ev.step (fun k => by rw [slices_Reverse_int_int.l0]) (Ev.neg (by simp at hj; omega) (Ev.val (by simp)))
    | a :: c :: M', h, hj, hl =>
      obtain ⟨M2, b, hM⟩ : ∃ M2 b, c :: M' = M2 ++ [b] := ⟨_, _, (List.dropLast_concat_getLast (by simp : c :: M' ≠ [])).symm⟩
      rw [hM] at h hj hl ⊢
      simp only [List.length_cons, List.length_append, List.length_nil] at h hj hl
      have r1 : rd (A ++ (a :: (M2 ++ [b])) ++ B) i = a := by subst hi; simp [rd]
      have r2 : rd (A ++ (a :: (M2 ++ [b])) ++ B) j = b := by
        have : j.toNat = A.length + (M2.length + 1) := by omega
        simp [rd, this]
      have e : ((A ++ (a :: (M2 ++ [b])) ++ B).set i.toNat b).set j.toNat a = (A ++ [b]) ++ M2 ++ (a :: B) := by
        have e1 : j.toNat = (A ++ (b :: M2)).length := by simp; omega
        have e0 : i.toNat = A.length := by omega
        have s1 : (A ++ (a :: (M2 ++ [b])) ++ B).set i.toNat b = (A ++ (b :: M2)) ++ b :: B := by rw [e0]; simp
        rw [s1, e1]; simp
      refine Ev.step (fun k => by rw [slices_Reverse_int_int.l0]) (Ev.pos (by omega) (Ev.pos (by omega) (Ev.pos (by simp; omega) (Ev.pos (by omega) (Ev.pos (by simp; omega) ?_)))))
      rw [r1, r2, e, w64 (x := i + 1) (by omega) (by omega), w64 (x := j - 1) (by omega) (by omega)]
      have ih := rev_l0 m (A ++ [b]) M2 (a :: B) (i + 1) (j - 1) (by omega) (by simp; omega) (by simp; omega) (by simp; omega)
      have e2 : A ++ (a :: (M2 ++ [b])).reverse ++ B = (A ++ [b]) ++ M2.reverse ++ (a :: B) := by simp
      rw [e2]; exact ih
theorem rev_ev (l : List Int) (hl : l.length ≤ 4000000000000000000) : Ev (fun k => slices_Reverse_int_int.f k l) l.reverse := by
  have := rev_l0 _ [] l [] 0 ((l.length : Int) - 1) (Nat.lt_succ_self _) (by simp) (by simp) (by simp; omega)
  unfold slices_Reverse_int_int.f
  rw [w64 (by omega) (by omega)]
  simpa using this

theorem reversed_ev (L : List Int) (hL : L.length ≤ 1048576) : Ev (fun k => impl_reversed.f k L) L.reverse := by
  unfold impl_reversed.f
  exact Ev.pure (show slices_Clone_int_int.f L = some L by unfold slices_Clone_int_int.f; rw [if_pos (by omega)]) (Ev.bind (rev_ev L (by omega)) (Ev.now _))

theorem pal_ev (L : List Int) (hL : L.length ≤ 1048576) : Ev (fun k => spec_dgPalindrome.f k L) (decide (L = L.reverse)) ∧ Ev (fun k => impl_isSymmetric.f k L) (decide (L = L.reverse)) := by
  have h := equal_ev L L.reverse hL (by simp)
  exact ⟨Ev.bind (back_ev L hL) (Ev.bind h.2 (Ev.now _)), Ev.bind (reversed_ev L hL) (Ev.bind h.1 (Ev.now _))⟩

/-- the digits of the sum from the last one on, and what is carried, as int makes them -/
def ad (l : List Int) (b : Int) : Nat → Int → List Int → List Int → Int → List Int × List Int
  | 0, _, out, cs, c => (if c > 0 then out ++ [c] else out, cs)
  | m + 1, i, out, cs, c =>
    ad l b m (i + 1) (out ++ [Int.tmod (wrap64 (wrap64 (rd l ((l.length : Int) - 1 - i) + rd l i) + c)) b]) (cs ++ [wrap64 (Int.tdiv (wrap64 (wrap64 (rd l ((l.length : Int) - 1 - i) + rd l i) + c)) b)]) (wrap64 (Int.tdiv (wrap64 (wrap64 (rd l ((l.length : Int) - 1 - i) + rd l i) + c)) b))
theorem ad_len (l : List Int) (b : Int) : ∀ (m : Nat) (i : Int) (out cs : List Int) (c : Int), out.length + m ≤ (ad l b m i out cs c).1.length ∧ (ad l b m i out cs c).1.length ≤ out.length + m + 1 ∧ (ad l b m i out cs c).2.length = cs.length + m
  | 0, i, out, cs, c => by
    simp only [ad]
    split <;> simp
  | m + 1, i, out, cs, c => by
    have := ad_len l b m (i + 1) (out ++ [Int.tmod (wrap64 (wrap64 (rd l ((l.length : Int) - 1 - i) + rd l i) + c)) b]) (cs ++ [wrap64 (Int.tdiv (wrap64 (wrap64 (rd l ((l.length : Int) - 1 - i) + rd l i) + c)) b)]) (wrap64 (Int.tdiv (wrap64 (wrap64 (rd l ((l.length : Int) - 1 - i) + rd l i) + c)) b))
    simp only [ad]
    simp only [List.length_append, List.length_cons, List.length_nil] at this ⊢
    omega
theorem summed_l0 (l : List Int) (b : Int) (hb : b ≠ 0) (hl : l.length ≤ 1000) : ∀ (m : Nat) (i : Int) (out cs : List Int) (c : Int), i + m = (l.length : Int) → 0 ≤ i → out.length = i.toNat → cs.length = i.toNat →
    Ev (fun k => impl_summed.l0 k l b out cs c (l.length : Int) i) ((ad l b m i out cs c).1.reverse, (ad l b m i out cs c).2)
  | 0, i, out, cs, c, hi, h0, ho, hc => by
    refine Ev.step (fun k => by rw [impl_summed.l0]) ?_
    refine Ev.neg (by omega) ?_
    simp only [ad]
    by_cases hp : c > 0
    · rw [if_pos hp]
      exact Ev.pos hp (Ev.pos (by omega) (Ev.bind (reversed_ev _ (by simp; omega)) (Ev.now _)))
    · rw [if_neg hp]
      exact Ev.neg hp (Ev.bind (reversed_ev _ (by omega)) (Ev.now _))
  | m + 1, i, out, cs, c, hi, h0, ho, hc => by
    refine Ev.step (fun k => by rw [impl_summed.l0]) ?_
    rw [w64 (x := (l.length : Int) - 1) (by omega) (by omega), w64 (x := (l.length : Int) - 1 - i) (by omega) (by omega), w64 (x := i + 1) (by omega) (by omega)]
    refine Ev.pos (by omega) (Ev.pos (by omega) (Ev.pos (by omega) (Ev.pos (by omega) (Ev.pos (by omega) (Ev.neg hb (Ev.pos (by omega) (Ev.pos (by omega) ?_)))))))
    exact summed_l0 l b hb hl m (i + 1) _ _ _ (by omega) (by omega) (by simp; omega) (by simp; omega)
theorem rvAdd_l0 (l : List Int) (b : Int) (hb : b ≠ 0) (hl : l.length ≤ 1000) : ∀ (m : Nat) (i : Int) (out cs : List Int) (c : Int), i + m = (l.length : Int) → 0 ≤ i → out.length = i.toNat → cs.length = i.toNat →
    Ev (fun k => spec_rvAdd.l0 k l b (l.length : Int) out.reverse cs c ((l.length : Int) - 1 - i)) ((ad l b m i out cs c).1.reverse, (ad l b m i out cs c).2)
  | 0, i, out, cs, c, hi, h0, ho, hc => by
    refine Ev.step (fun k => by rw [spec_rvAdd.l0]) ?_
    refine Ev.neg (by omega) ?_
    simp only [ad]
    by_cases hp : c > 0
    · exact Ev.pos hp (Ev.pure rfl (Ev.pos (by simp; omega) (Ev.val (by simp [hp]))))
    · exact Ev.neg hp (Ev.val (by simp [hp]))
  | m + 1, i, out, cs, c, hi, h0, ho, hc => by
    refine Ev.step (fun k => by rw [spec_rvAdd.l0]) ?_
    have e1 : wrap64 (wrap64 ((l.length : Int) - 1) - ((l.length : Int) - 1 - i)) = i := by
      rw [w64 (x := (l.length : Int) - 1) (by omega) (by omega), w64 (by omega) (by omega)]; omega
    have e2 : wrap64 ((l.length : Int) - 1 - i - 1) = (l.length : Int) - 1 - (i + 1) := by rw [w64 (by omega) (by omega)]; omega
    rw [e1, e2]
    refine Ev.pos (by omega) (Ev.pos (by omega) (Ev.pos (by omega) (Ev.pos (by omega) (Ev.pos (by omega) (Ev.neg hb (Ev.pos (by omega) (Ev.pure rfl (Ev.pos (by simp; omega) ?_))))))))
    have ih := rvAdd_l0 l b hb hl m (i + 1) (out ++ [Int.tmod (wrap64 (wrap64 (rd l ((l.length : Int) - 1 - i) + rd l i) + c)) b]) (cs ++ [wrap64 (Int.tdiv (wrap64 (wrap64 (rd l ((l.length : Int) - 1 - i) + rd l i) + c)) b)]) (wrap64 (Int.tdiv (wrap64 (wrap64 (rd l ((l.length : Int) - 1 - i) + rd l i) + c)) b)) (by omega) (by omega) (by simp; omega) (by simp; omega)
    simp only [List.reverse_append, List.reverse_cons, List.reverse_nil, List.nil_append] at ih
    exact ih
def sumOf (l : List Int) (b : Int) : List Int := (ad l b l.length 0 [] [] 0).1.reverse
def carries (l : List Int) (b : Int) : List Int := (ad l b l.length 0 [] [] 0).2
theorem sum_len (l : List Int) (b : Int) : l.length ≤ (sumOf l b).length ∧ (sumOf l b).length ≤ l.length + 1 ∧ (carries l b).length = l.length := by
  have := ad_len l b l.length 0 [] [] 0
  unfold sumOf carries
  simp only [List.length_nil] at this
  rw [List.length_reverse]
  omega
theorem sum_ev {l : List Int} {b : Int} (hb : b ≠ 0) (hl : l.length ≤ 1000) : Ev (fun k => impl_summed.f k l b) (sumOf l b, carries l b) ∧ Ev (fun k => spec_rvAdd.f k l b) (sumOf l b, carries l b) := by
  have h1 := summed_l0 l b hb hl l.length 0 [] [] 0 (by omega) (by omega) rfl rfl
  have h2 := rvAdd_l0 l b hb hl l.length 0 [] [] 0 (by omega) (by omega) rfl rfl
  refine ⟨h1, ?_⟩
  unfold spec_rvAdd.f
  rw [w64 (by omega) (by omega)]
  rw [Int.sub_zero] at h2
  exact h2

theorem eq_l0 (l : List Int) (hl : l.length ≤ 4611686018427387904) : ∀ (m : Nat) (i : Int), 0 ≤ i → ((l.length : Int) - i).toNat < m → Ev (fun k => laws_eqIntS.l0 k l l i) true
  | 0, _, _, h => by omega
  | m + 1, i, h0, h => by
    by_cases hlt : i < (l.length : Int)
    · refine Ev.step (fun k => by rw [laws_eqIntS.l0]) (Ev.pos hlt (Ev.pos h0 (Ev.pos hlt (Ev.pos rfl ?_))))
      rw [w64 (by omega) (by omega)]
      exact eq_l0 l hl m (i + 1) (by omega) (by omega)
    · exact Ev.step (fun k => by rw [laws_eqIntS.l0]) (Ev.neg hlt (Ev.now _))
theorem eq_ev (l : List Int) (hl : l.length ≤ 4611686018427387904) : Ev (fun k => laws_eqIntS.f k l l) true := Ev.pos rfl (eq_l0 l hl _ 0 (by omega) (Nat.lt_succ_self _))

theorem heldc_l0 : ∀ (m : Nat) (pre : List Int) (x i : Int), i = (pre.length : Int) → pre.length + m ≤ 4611686018427387904 → 0 ≤ x → x + m ≤ 4611686018427387904 →
    Ev (fun k => laws_heldIntS.l0 k (pre ++ laws_markIntSS.cnt x m) x i) (x + m)
  | 0, pre, x, i, hi, hl, hx, hx2 => by
    refine Ev.step (fun k => by rw [laws_heldIntS.l0]) (Ev.neg (by simp [laws_markIntSS.cnt]; omega) (Ev.val ?_))
    simp
  | m + 1, pre, x, i, hi, hl, hx, hx2 => by
    have hr : rd (pre ++ laws_markIntSS.cnt x (m + 1)) i = x := by rw [hi, laws_markIntSS.cnt]; exact rd_mid _ _ _
    refine Ev.step (fun k => by rw [laws_heldIntS.l0]) (Ev.pos (by simp [laws_markIntSS.cnt_length]; omega) (Ev.pos (by omega) (Ev.pos hr ?_)))
    rw [w64 (x := x + 1) (by omega) (by omega), w64 (x := i + 1) (by omega) (by omega)]
    have ih := heldc_l0 m (pre ++ [x]) (x + 1) (i + 1) (by simp; omega) (by simp; omega) (by omega) (by omega)
    have e : pre ++ laws_markIntSS.cnt x (m + 1) = (pre ++ [x]) ++ laws_markIntSS.cnt (x + 1) m := by simp [laws_markIntSS.cnt]
    have e2 : x + ((m + 1 : Nat) : Int) = x + 1 + (m : Int) := by omega
    rw [e, e2]; exact ih
theorem heldc_ev (m : Nat) (x : Int) (hx : 0 ≤ x) (h : x + m ≤ 4611686018427387904) : Ev (fun k => laws_heldIntS.f k (laws_markIntSS.cnt x m) x) (x + m) := by
  have := heldc_l0 m [] x 0 (by simp) (by simp; omega) hx h
  unfold laws_heldIntS.f
  simpa using this
theorem rdL_at (P : List (List Int)) (a : List Int) (T : List (List Int)) (i : Int) (hi : i = (P.length : Int)) : rd_L1 (P ++ a :: T) i = a := by subst hi; simp [rd_L1]
theorem heldSS_l0 : ∀ (rest pre : List (List Int)) (x i : Int), i = (pre.length : Int) → pre.length + rest.length ≤ 4611686018427387904 → 0 ≤ x → x + (laws_markIntSS.tot rest : Nat) ≤ 4611686018427387904 →
    Ev (fun k => laws_heldIntSS.l0 k (pre ++ laws_markIntSS.mks rest x) x i) (x + (laws_markIntSS.tot rest : Nat))
  | [], pre, x, i, hi, hl, hx, hx2 => by
    refine Ev.step (fun k => by rw [laws_heldIntSS.l0]) (Ev.neg (by simp [laws_markIntSS.mks]; omega) (Ev.val ?_))
    simp [laws_markIntSS.tot]
  | l :: rest, pre, x, i, hi, hl, hx, hx2 => by
    simp only [List.length_cons, laws_markIntSS.tot] at hl hx2
    have hlen : (pre ++ laws_markIntSS.mks (l :: rest) x).length = pre.length + (rest.length + 1) := by rw [List.length_append, laws_markIntSS.mks_length, List.length_cons]
    have hr : rd_L1 (pre ++ laws_markIntSS.mks (l :: rest) x) i = laws_markIntSS.cnt x l.length := by rw [laws_markIntSS.mks]; exact rdL_at _ _ _ _ hi
    refine Ev.step (fun k => by rw [laws_heldIntSS.l0]) (Ev.pos (by rw [hlen]; omega) (Ev.pos (by omega) ?_))
    rw [hr]
    refine Ev.bind (heldc_ev l.length x hx (by omega)) (Ev.neg (by omega) ?_)
    rw [w64 (x := i + 1) (by omega) (by omega)]
    have ih := heldSS_l0 rest (pre ++ [laws_markIntSS.cnt x l.length]) (x + l.length) (i + 1) (by simp; omega) (by simp; omega) (by omega) (by omega)
    have e : pre ++ laws_markIntSS.mks (l :: rest) x = (pre ++ [laws_markIntSS.cnt x l.length]) ++ laws_markIntSS.mks rest (x + l.length) := by simp [laws_markIntSS.mks]
    have e2 : x + ((laws_markIntSS.tot (l :: rest) : Nat) : Int) = x + (l.length : Int) + (laws_markIntSS.tot rest : Nat) := by simp only [laws_markIntSS.tot]; omega
    rw [e, e2]; exact ih
theorem heldSS_ev (rows : List (List Int)) (h1 : rows.length ≤ 4611686018427387904) (h2 : 1 + ((laws_markIntSS.tot rows : Nat) : Int) ≤ 4611686018427387904) : Ev (fun k => laws_heldIntSS.f k (laws_markIntSS.mks rows 1) 1) (1 + ((laws_markIntSS.tot rows : Nat) : Int)) := by
  have := heldSS_l0 rows [] 1 0 (by simp) (by simp; omega) (by omega) h2
  unfold laws_heldIntSS.f
  simpa using this
theorem eqSS_l0 (X : List (List Int)) (hX : X.length ≤ 4611686018427387904) (hx : ∀ l ∈ X, l.length ≤ 4611686018427387904) : ∀ (rest pre : List (List Int)) (i : Int), X = pre ++ rest → i = (pre.length : Int) →
    Ev (fun k => laws_eqIntSS.l0 k X X i) true
  | [], pre, i, hp, hi => by
    refine Ev.step (fun k => by rw [laws_eqIntSS.l0]) (Ev.neg (by rw [hp]; simp; omega) (Ev.now _))
  | l :: rest, pre, i, hp, hi => by
    have hl : X.length = pre.length + (rest.length + 1) := by rw [hp]; simp
    have hr : rd_L1 X i = l := by rw [hp]; exact rdL_at _ _ _ _ hi
    refine Ev.step (fun k => by rw [laws_eqIntSS.l0]) (Ev.pos (by omega) (Ev.pos (by omega) (Ev.pos (by omega) ?_)))
    rw [hr]
    refine Ev.bind (eq_ev l (hx l (by rw [hp]; simp))) (Ev.pos rfl ?_)
    rw [w64 (x := i + 1) (by omega) (by omega)]
    exact eqSS_l0 X hX hx rest (pre ++ [l]) (i + 1) (by rw [hp]; simp) (by simp; omega)
theorem len_tot : ∀ (rows : List (List Int)) (l : List Int), l ∈ rows → l.length ≤ laws_markIntSS.tot rows
  | r :: rows, l, h => by
    simp only [laws_markIntSS.tot]
    rcases List.mem_cons.mp h with rfl | h
    · omega
    · have := len_tot rows l h; omega
theorem eqSS_ev (rows : List (List Int)) (h1 : rows.length ≤ 4611686018427387904) (h2 : laws_markIntSS.tot rows ≤ 4611686018427387904) : Ev (fun k => laws_eqIntSS.f k rows rows) true :=
  Ev.pos rfl (eqSS_l0 rows h1 (fun l hl => Nat.le_trans (len_tot rows l hl) h2) rows [] 0 rfl rfl)
theorem tot_le (B : Nat) : ∀ (rows : List (List Int)), (∀ l ∈ rows, l.length ≤ B) → laws_markIntSS.tot rows ≤ rows.length * B
  | [], _ => by simp [laws_markIntSS.tot]
  | r :: rows, h => by
    have := tot_le B rows (fun l hl => h l (List.mem_cons_of_mem _ hl))
    have h2 := h r List.mem_cons_self
    simp only [laws_markIntSS.tot, List.length_cons, Nat.succ_mul]
    omega

theorem markc_ev (l : List Int) (hl : l.length ≤ 1048576) : Ev (fun k => laws_markIntS.f k l 1) (1 + (l.length : Int), laws_markIntSS.cnt 1 l.length) := by
  obtain ⟨k, hk⟩ := laws_markIntSS.mark l 1 (by omega) (by omega)
  exact Ev.of (fun k => laws_markIntS.mono l 1 k) hk
theorem law_rows (l : List Int) (hl : l.length ≤ 1048576) {S I : Nat → Option (List (List Int) × Bool)} {rows : List (List Int)} {ok : Bool} (hs : Ev S (rows, ok)) (hi : Ev I (rows, ok)) (h1 : rows.length ≤ 1000000000000) (h2 : laws_markIntSS.tot rows ≤ 1000000000000000) :
    ∃ (k : Nat) (rows : List (List Int)) (ok_ : Bool), laws_toIntS.f k l = some l ∧ S k = some (rows, ok_) ∧ I k = some (rows, ok_) ∧ laws_eqIntSS.f k rows rows = some true ∧ laws_eqIntS.f k l l = some true ∧ laws_markIntS.f k l 1 = some (1 + (l.length : Int), laws_markIntSS.cnt 1 l.length) ∧ laws_heldIntSS.f k (laws_markIntSS.mks rows 1) 1 = some (1 + ((laws_markIntSS.tot rows : Nat) : Int)) ∧ 1 + ((laws_markIntSS.tot rows : Nat) : Int) ≤ 4611686018427387904 ∧ rows.length ≤ 4611686018427387904 := by
  obtain ⟨k1, e1⟩ := toInt_ev l hl
  obtain ⟨k2, e2⟩ := hs
  obtain ⟨k3, e3⟩ := hi
  obtain ⟨k4, e4⟩ := eqSS_ev rows (by omega) (by omega)
  obtain ⟨k5, e5⟩ := eq_ev l (by omega)
  obtain ⟨k6, e6⟩ := markc_ev l hl
  obtain ⟨k7, e7⟩ := heldSS_ev rows (by omega) (by omega)
  exact ⟨k1 + k2 + k3 + k4 + k5 + k6 + k7, rows, ok, e1 _ (by omega), e2 _ (by omega), e3 _ (by omega), e4 _ (by omega), e5 _ (by omega), e6 _ (by omega), e7 _ (by omega), by omega, by omega⟩

theorem rd_L1_last (xs : List (List Int)) (x : List Int) (i : Int) (hi : i = (xs.length : Int)) : rd_L1 (xs ++ [x]) i = x := by subst hi; simp [rd_L1]
theorem rvMost_eq (m : Int) : spec_rvMost.f m = some (decide (0 ≤ m ∧ m ≤ 100)) := by
  unfold spec_rvMost.f
  rw [spec_l1In_eq]; rfl
theorem run_l0 {b most : Int} (hb : b ≠ 0) (hm : 0 ≤ most ∧ most ≤ 100) : ∀ (m : Nat) (i : Int) (pre : List (List Int)) (d : List Int), 0 ≤ i → i ≤ most → (most - i).toNat < m → i = (pre.length : Int) → d.length ≤ 40 → (∀ l ∈ pre, l.length ≤ 40) →
    ∃ out : List (List Int), (out.length : Int) ≤ most + 1 ∧ (∀ l ∈ out, l.length ≤ 40) ∧ Ev (fun k => spec_rvRun.l0 k b most (pre ++ [d]) i) out ∧ Ev (fun k => impl_AddedRun.l0 k b most d (pre ++ [d]) i) (out, true)
  | 0, _, _, _, _, _, h, _, _, _ => by omega
  | m + 1, i, pre, d, h0, h1, h, hi, hd, hpre => by
    have hr := rd_L1_last pre d i hi
    have hp := pal_ev d (by omega)
    have hs := sum_ev (l := d) (b := b) hb (by omega)
    have hlen := sum_len d b
    have hall : ∀ l ∈ pre ++ [d], l.length ≤ 40 := fun l hl => by
      rcases List.mem_append.mp hl with h | h
      · exact hpre l h
      · rw [List.mem_singleton] at h; exact h ▸ hd
    have hpl : (pre ++ [d]).length = pre.length + 1 := by simp
    by_cases hlt : i < most
    · by_cases hpal : d = d.reverse
      · rw [decide_eq_true hpal] at hp
        refine ⟨pre ++ [d], by omega, hall, ?_, ?_⟩
        · refine Ev.step (fun k => by rw [spec_rvRun.l0]) ?_
          refine Ev.pos hlt (Ev.pos h0 (Ev.pos (by omega) ?_))
          rw [hr]
          refine Ev.bind hp.1 ?_
          refine Ev.step (fun k => by rw [spec_rvRun.j1]) ?_
          exact Ev.neg (by simp) (Ev.now _)
        · refine Ev.step (fun k => by rw [impl_AddedRun.l0]) ?_
          exact Ev.pos hlt (Ev.bind hp.2 (Ev.pos rfl (Ev.now _)))
      · rw [decide_eq_false hpal] at hp
        by_cases h40 : ((sumOf d b).length : Int) > 40
        · refine ⟨pre ++ [d], by omega, hall, ?_, ?_⟩
          · refine Ev.step (fun k => by rw [spec_rvRun.l0]) ?_
            refine Ev.pos hlt (Ev.pos h0 (Ev.pos (by omega) ?_))
            rw [hr]
            refine Ev.bind hp.1 ?_
            refine Ev.step (fun k => by rw [spec_rvRun.j1]) ?_
            refine Ev.pos rfl (Ev.pos h0 (Ev.pos (by omega) ?_))
            rw [hr]
            exact Ev.bind hs.2 (Ev.pos h40 (Ev.now _))
          · refine Ev.step (fun k => by rw [impl_AddedRun.l0]) ?_
            exact Ev.pos hlt (Ev.bind hp.2 (Ev.neg (by simp) (Ev.bind hs.1 (Ev.pos h40 (Ev.now _)))))
        · obtain ⟨out, o1, o2, gs, gi⟩ := run_l0 hb hm m (i + 1) (pre ++ [d]) (sumOf d b) (by omega) (by omega) (by omega) (by omega) (by omega) hall
          refine ⟨out, o1, o2, ?_, ?_⟩
          · refine Ev.step (fun k => by rw [spec_rvRun.l0]) ?_
            refine Ev.pos hlt (Ev.pos h0 (Ev.pos (by omega) ?_))
            rw [hr]
            refine Ev.bind hp.1 ?_
            refine Ev.step (fun k => by rw [spec_rvRun.j1]) ?_
            refine Ev.pos rfl (Ev.pos h0 (Ev.pos (by omega) ?_))
            rw [hr, w64 (by omega) (by omega)]
            exact Ev.bind hs.2 (Ev.neg h40 (Ev.pos (by omega) gs))
          · refine Ev.step (fun k => by rw [impl_AddedRun.l0]) ?_
            refine Ev.pos hlt (Ev.bind hp.2 (Ev.neg (by simp) (Ev.bind hs.1 (Ev.neg h40 (Ev.pos (by omega) ?_)))))
            rw [w64 (by omega) (by omega)]
            exact gi
    · refine ⟨pre ++ [d], by omega, hall, ?_, ?_⟩
      · refine Ev.step (fun k => by rw [spec_rvRun.l0]) ?_
        refine Ev.neg hlt ?_
        refine Ev.step (fun k => by rw [spec_rvRun.j1]) ?_
        exact Ev.neg (by simp) (Ev.now _)
      · refine Ev.step (fun k => by rw [impl_AddedRun.l0]) ?_
        exact Ev.neg hlt (Ev.now _)
theorem law_ev (l : List Int) (b most : Int) (hL : l.length ≤ 1048576) : ∃ (rows : List (List Int)) (ok : Bool), Ev (fun k => spec_AddedRun.f k l b most) (rows, ok) ∧ Ev (fun k => impl_AddedRun.f k l b most) (rows, ok) ∧ rows.length ≤ 101 ∧ laws_markIntSS.tot rows ≤ 4040 := by
  unfold spec_AddedRun.f impl_AddedRun.f
  rw [isLong_eq, rvMost_eq, impl_in_eq]
  have hg := rvGood_ev l b hL
  cases hq : gd l b
  · rw [hq] at hg
    exact ⟨[], false, Ev.bind hg (Ev.neg (by simp) (Ev.now _)), Ev.pure rfl (Ev.neg (by simp) (Ev.now _)), by simp, by simp [laws_markIntSS.tot]⟩
  · rw [hq] at hg
    have hv := gd_len hq
    by_cases hm : 0 ≤ most ∧ most ≤ 100
    · obtain ⟨out, o1, o2, gs, gi⟩ := run_l0 (b := b) (by omega) hm _ 0 [] l (by omega) hm.1 (Nat.lt_succ_self _) rfl hv.2.2.1 (fun _ h => by cases h)
      have ho : Ev (fun k => spec_rvRun.f k l b most) out := by
        unfold spec_rvRun.f
        refine Ev.pure (a := l) ?_ gs
        unfold spec_l1Own.f
        simp; omega
      have hc : slices_Clone_int_int.f l = some l := by unfold slices_Clone_int_int.f; rw [if_pos (by omega)]
      refine ⟨out, true, Ev.bind hg (Ev.pos rfl (Ev.pure rfl (Ev.pos (decide_eq_true hm) (Ev.bind ho (Ev.now _))))), Ev.pure rfl (Ev.pos rfl (Ev.pure rfl (Ev.pos (decide_eq_true hm) (Ev.pure hc gi)))), by omega, ?_⟩
      have := tot_le 40 out o2
      omega
    · exact ⟨[], false, Ev.bind hg (Ev.pos rfl (Ev.pure rfl (Ev.neg (by simp [hm]) (Ev.now _)))), Ev.pure rfl (Ev.pos rfl (Ev.pure rfl (Ev.neg (by simp [hm]) (Ev.now _)))), by simp, by simp [laws_markIntSS.tot]⟩
theorem FnExactAddedRun : laws_FnExactAddedRun.Pure := by
  intro l b most hm hl hw hb hmo hlen
  obtain ⟨rows, ok, hs, hi, h1, h2⟩ := law_ev l b most (by omega)
  exact law_rows l (by omega) hs hi (by omega) (by omega)

end Go.Proofs.Ytimimjmabnmeoaa.Pure
