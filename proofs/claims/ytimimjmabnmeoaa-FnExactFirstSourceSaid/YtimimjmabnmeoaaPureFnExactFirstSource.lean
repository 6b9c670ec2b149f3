/- For every list of ints and every int base, the program's FirstSource gives what the reference's gives, twice, in memory of its own, and leaves the list as it is. No conditions. -/
import Derived.Test.YtimimjmabnmeoaaPFnExactFirstSourcex7
namespace Go.Proofs.Ytimimjmabnmeoaa.Pure
open Go.RowKit Go.Proofs.Ytimimjmabnmeoaa.PFnExactFirstSource Go.Proofs.YtimimjmabnmeoaaW.PrintWords Go.Proofs.YtimimjmabnmeoaaW.PrintLast

theorem wf_i64 {x : Int} (h : (Lit.int .i64 x).wf = true) : -9223372036854775808 ≤ x ∧ x ≤ 9223372036854775807 := by
  simp only [Lit.wf, Bool.and_eq_true, decide_eq_true_eq, show IntKind.i64.min = -9223372036854775808 from rfl, show IntKind.i64.max = 9223372036854775807 from rfl] at h
  exact h
theorem w64 {x : Int} (h0 : -9223372036854775808 ≤ x) (h1 : x ≤ 9223372036854775807) : wrap64 x = x := by unfold wrap64; omega
theorem Ev.pos {α : Type} {c : Prop} [Decidable c] {A B : Nat → Option α} {r : α} (h : c) (e : Ev A r) : Ev (fun k => if c then A k else B k) r := by simpa only [if_pos h] using e
theorem Ev.neg {α : Type} {c : Prop} [Decidable c] {A B : Nat → Option α} {r : α} (h : ¬ c) (e : Ev B r) : Ev (fun k => if c then A k else B k) r := by simpa only [if_neg h] using e
theorem Ev.val {α : Type} {a r : α} (h : a = r) : Ev (fun _ => some a) r := h ▸ Ev.now a
theorem Ev.pure {α β : Type} {o : Option α} {f : Nat → α → Option β} {a : α} {r : β} (h : o = some a) (k : Ev (fun n => f n a) r) : Ev (fun n => o.bind (f n)) r := by subst h; exact k
theorem Ev.call {α β : Type} {g : Nat → Option α} {f : Nat → α → Option β} {a : α} {r : β} (h : Ev g a) (k : Ev (fun n => f n a) r) : Ev (fun n => (g n).bind (f n)) r := Ev.bind h k
theorem Ev.same {α : Type} {g f : Nat → Option α} {r : α} (h : ∀ k, g k = f k) (k : Ev g r) : Ev f r := Ev.congr (fun k => (h k).symm) k

def cnt (x : Int) : Nat → List Int
  | 0 => []
  | m + 1 => x :: cnt (x + 1) m
theorem cnt_length : ∀ (m : Nat) (x : Int), (cnt x m).length = m
  | 0, _ => rfl
  | m + 1, x => by simp [cnt, cnt_length m]
theorem rd_mid (pre rest : List Int) (a : Int) : rd (pre ++ a :: rest) (pre.length : Int) = a := by simp [rd]

theorem mark_l0 : ∀ (rest pre : List Int) (x i : Int), i = (pre.length : Int) → pre.length + rest.length ≤ 4611686018427387904 → 0 ≤ x → x + rest.length ≤ 4611686018427387904 →
    Ev (fun k => laws_markIntS.l0 k (pre ++ rest) x i) (x + rest.length, pre ++ cnt x rest.length)
  | [], pre, x, i, hi, hl, hx, hx2 => by
    refine Ev.step (fun k => by rw [laws_markIntS.l0]) (Ev.neg (by simp; omega) (Ev.val ?_))
    simp [cnt]
  | a :: rest, pre, x, i, hi, hl, hx, hx2 => by
    simp only [List.length_cons] at hl hx2
    refine Ev.step (fun k => by rw [laws_markIntS.l0]) (Ev.pos (by simp; omega) (Ev.pos (by omega) ?_))
    rw [w64 (x := x + 1) (by omega) (by omega), w64 (x := i + 1) (by omega) (by omega)]
    have e : (pre ++ a :: rest).set i.toNat x = (pre ++ [x]) ++ rest := by subst hi; simp
    have ih := mark_l0 rest (pre ++ [x]) (x + 1) (i + 1) (by simp; omega) (by simp; omega) (by omega) (by omega)
    rw [e]
    have e2 : (x + ((a :: rest).length : Int), pre ++ cnt x (a :: rest).length) = (x + 1 + (rest.length : Int), (pre ++ [x]) ++ cnt (x + 1) rest.length) := by
      simp [cnt]; omega
    rw [e2]; exact ih
theorem held_l0 : ∀ (m : Nat) (pre : List Int) (x i : Int), i = (pre.length : Int) → pre.length + m ≤ 4611686018427387904 → 0 ≤ x → x + m ≤ 4611686018427387904 →
    Ev (fun k => laws_heldIntS.l0 k (pre ++ cnt x m) x i) (x + m)
  | 0, pre, x, i, hi, hl, hx, hx2 => by
    refine Ev.step (fun k => by rw [laws_heldIntS.l0]) (Ev.neg (by simp [cnt]; omega) (Ev.val ?_))
    simp
  | m + 1, pre, x, i, hi, hl, hx, hx2 => by
    have hr : rd (pre ++ cnt x (m + 1)) i = x := by rw [hi, cnt]; exact rd_mid _ _ _
    refine Ev.step (fun k => by rw [laws_heldIntS.l0]) (Ev.pos (by simp [cnt_length]; omega) (Ev.pos (by omega) (Ev.pos hr ?_)))
    rw [w64 (x := x + 1) (by omega) (by omega), w64 (x := i + 1) (by omega) (by omega)]
    have ih := held_l0 m (pre ++ [x]) (x + 1) (i + 1) (by simp; omega) (by simp; omega) (by omega) (by omega)
    have e : pre ++ cnt x (m + 1) = (pre ++ [x]) ++ cnt (x + 1) m := by simp [cnt]
    have e2 : x + ((m + 1 : Nat) : Int) = x + 1 + (m : Int) := by omega
    rw [e, e2]; exact ih
theorem eq_l0 (l : List Int) (hl : l.length ≤ 4611686018427387904) : ∀ (m : Nat) (i : Int), 0 ≤ i → ((l.length : Int) - i).toNat < m → Ev (fun k => laws_eqIntS.l0 k l l i) true
  | 0, _, _, h => by omega
  | m + 1, i, h0, h => by
    by_cases hlt : i < (l.length : Int)
    · refine Ev.step (fun k => by rw [laws_eqIntS.l0]) (Ev.pos hlt (Ev.pos h0 (Ev.pos hlt (Ev.pos rfl ?_))))
      rw [w64 (by omega) (by omega)]
      exact eq_l0 l hl m (i + 1) (by omega) (by omega)
    · exact Ev.step (fun k => by rw [laws_eqIntS.l0]) (Ev.neg hlt (Ev.now _))
theorem eq_ev (l : List Int) (hl : l.length ≤ 4611686018427387904) : Ev (fun k => laws_eqIntS.f k l l) true := Ev.pos rfl (eq_l0 l hl _ 0 (by omega) (Nat.lt_succ_self _))

theorem mark_ev (l : List Int) (hl : l.length ≤ 4000000000000000000) : Ev (fun k => laws_markIntS.f k l 1) (1 + l.length, cnt 1 l.length) := by
  have := mark_l0 l [] 1 0 (by simp) (by simp; omega) (by omega) (by omega)
  unfold laws_markIntS.f
  simpa using this
theorem held_ev (m : Nat) (hl : m ≤ 4000000000000000000) : Ev (fun k => laws_heldIntS.f k (cnt 1 m) 1) (1 + m) := by
  have := held_l0 m [] 1 0 (by simp) (by simp; omega) (by omega) (by omega)
  unfold laws_heldIntS.f
  simpa using this
theorem not_neg (n : Nat) : ¬ 1 + (n : Int) < 0 := by omega

theorem toInt_l0 (L : List Int) (hL : L.length ≤ 1048576) : ∀ (rest pre : List Int) (i : Int), L = pre ++ rest → i = (pre.length : Int) → Ev (fun k => laws_toIntS.l0 k L (pre ++ List.replicate rest.length 0) i) L
  | [], pre, i, h, hi => by
    refine Ev.step (fun k => by rw [laws_toIntS.l0]) ?_
    exact Ev.neg (by rw [h]; simp; omega) (Ev.val (by rw [h]; simp))
  | a :: rest, pre, i, h, hi => by
    have hlen : L.length = pre.length + (rest.length + 1) := by rw [h]; simp
    have hr : rd L i = a := by rw [h, hi]; simp [rd]
    have e : (pre ++ List.replicate (a :: rest).length 0).set i.toNat a = (pre ++ [a]) ++ List.replicate rest.length 0 := by
      have : i.toNat = pre.length := by omega
      rw [this, List.length_cons, List.replicate_succ]; simp
    have ih := toInt_l0 L hL rest (pre ++ [a]) (i + 1) (by rw [h]; simp) (by simp; omega)
    refine Ev.step (fun k => by rw [laws_toIntS.l0]) ?_
    refine Ev.pos (by omega) (Ev.pos (by omega) (Ev.pos (by simp; omega) ?_))
    rw [hr, e, w64 (by omega) (by omega)]
    exact ih
theorem toInt_ev (L : List Int) (hL : L.length ≤ 1048576) : Ev (fun k => laws_toIntS.f k L) L := by
  unfold laws_toIntS.f
  refine Ev.pos (by omega) (Ev.pos (by omega) ?_)
  have := toInt_l0 L hL L [] 0 rfl rfl
  simpa using this

theorem spec_l1In_eq (a b c : Int) : spec_l1In.f a b c = some (decide (b ≤ a ∧ a ≤ c)) := by
  unfold spec_l1In.f
  by_cases h : b ≤ a
  · rw [if_pos (show a ≥ b from h)]; simp [h]
  · rw [if_neg (show ¬ a ≥ b from h)]; simp [h]
theorem impl_in_eq (a b c : Int) : impl_in.f a b c = some (decide (b ≤ a ∧ a ≤ c)) := by
  unfold impl_in.f
  by_cases h : b ≤ a
  · rw [if_pos h]; simp [h]
  · rw [if_neg h]; simp [h]
theorem spec_dgBase_eq (b : Int) : spec_dgBase.f b = some (decide (2 ≤ b ∧ b ≤ 16)) := by
  unfold spec_dgBase.f
  rw [spec_l1In_eq]; simp
theorem impl_isBase_eq (b : Int) : impl_isBase.f b = some (decide (2 ≤ b ∧ b ≤ 16)) := by
  unfold impl_isBase.f
  rw [impl_in_eq]; simp

theorem l1All_l0 (L : List Int) (hL : L.length ≤ 1048576) (lo hi : Int) : ∀ (rest pre : List Int) (i : Int), L = pre ++ rest → i = (pre.length : Int) → Ev (fun k => spec_l1All.l0 k lo hi L (L.length : Int) i) (impl_areIn.all lo hi rest)
  | [], pre, i, h, hi' => by
    refine Ev.step (fun k => by rw [spec_l1All.l0]) ?_
    exact Ev.neg (by rw [h]; simp; omega) (Ev.val rfl)
  | a :: rest, pre, i, h, hi' => by
    have hlen : L.length = pre.length + (rest.length + 1) := by rw [h]; simp
    have hr : rd L i = a := by rw [h, hi']; simp [rd]
    have ih := l1All_l0 L hL lo hi rest (pre ++ [a]) (i + 1) (by rw [h]; simp) (by simp; omega)
    refine Ev.step (fun k => by rw [spec_l1All.l0]) ?_
    rw [hr, w64 (by omega) (by omega)]
    refine Ev.pos (by omega) (Ev.pos (by omega) (Ev.pos (by omega) (Ev.pure (spec_l1In_eq _ _ _) ?_)))
    by_cases hc : lo ≤ a ∧ a ≤ hi
    · refine Ev.pos (decide_eq_true hc) ?_
      have e : impl_areIn.all lo hi (a :: rest) = impl_areIn.all lo hi rest := by simp [impl_areIn.all, impl_areIn.ok, hc]
      rw [e]; exact ih
    · refine Ev.neg (by simp [hc]) (Ev.val ?_)
      simp only [impl_areIn.all, impl_areIn.ok, List.all_cons]
      rw [show (decide (lo ≤ a) && decide (a ≤ hi)) = false by rw [← Bool.decide_and]; exact decide_eq_false hc]
      rfl
theorem l1All_ev (L : List Int) (hL : L.length ≤ 1048576) (lo hi : Int) : Ev (fun k => spec_l1All.f k L lo hi) (impl_areIn.all lo hi L) := l1All_l0 L hL lo hi L [] 0 rfl rfl

/-- valid digits, at most 40 -/
def gd (l : List Int) (b : Int) : Bool := decide (2 ≤ b ∧ b ≤ 16) && (decide (1 ≤ (l.length : Int) ∧ (l.length : Int) ≤ 40) && (impl_areIn.all 0 (b - 1) l && (decide (rd l 0 > 0) || ((l.length : Int) == 1))))
theorem rvGood_ev (L : List Int) (b : Int) (hL : L.length ≤ 1048576) : Ev (fun k => spec_rvGood.f k L b) (gd L b) := by
  unfold spec_rvGood.f gd
  refine Ev.pure (spec_dgBase_eq b) ?_
  by_cases hb : 2 ≤ b ∧ b ≤ 16
  · refine Ev.pos (decide_eq_true hb) (Ev.pure (spec_l1In_eq _ _ _) ?_)
    rw [decide_eq_true hb, Bool.true_and]
    by_cases hl : 1 ≤ (L.length : Int) ∧ (L.length : Int) ≤ 40
    · refine Ev.pos (decide_eq_true hl) ?_
      rw [decide_eq_true hl, Bool.true_and, w64 (by omega) (by omega)]
      refine Ev.bind (l1All_ev L hL 0 (b - 1)) ?_
      cases impl_areIn.all 0 (b - 1) L
      · exact Ev.neg (by simp) (Ev.val rfl)
      · refine Ev.pos rfl (Ev.pos (by omega) ?_)
        by_cases h0 : rd L 0 > 0
        · exact Ev.pos h0 (Ev.val (by simp [h0]))
        · exact Ev.neg h0 (Ev.val (by simp [h0]))
    · refine Ev.neg (by simp only [decide_eq_true_eq]; exact hl) (Ev.val ?_)
      rw [decide_eq_false hl]; rfl
  · refine Ev.neg (by simp only [decide_eq_true_eq]; exact hb) (Ev.val ?_)
    rw [decide_eq_false hb]; rfl
theorem isLong_eq (L : List Int) (b : Int) : impl_isLong.f L b = some (gd L b) := by
  unfold impl_isLong.f gd impl_areDigits.f impl_areIn.f
  rw [impl_isBase_eq]
  by_cases hb : 2 ≤ b ∧ b ≤ 16
  · simp only [Option.bind_some, decide_eq_true hb, if_true, Bool.true_and]
    rw [w64 (by omega) (by omega), ← Bool.decide_and]
    by_cases hl : 1 ≤ (L.length : Int) ∧ (L.length : Int) ≤ 40
    · rw [decide_eq_true hl, Bool.true_and]
      cases impl_areIn.all 0 (b - 1) L
      · simp
      · have hpos : 0 < (L.length : Int) := by omega
        have h40 : (L.length : Int) ≤ 40 := hl.2
        simp only [if_true, hpos, h40, decide_true, Bool.true_and]
        by_cases h0 : rd L 0 > 0
        · simp [h0]
        · simp only [h0, if_false, decide_false, Bool.false_or, Option.bind_some]
          cases ((L.length : Int) == 1) <;> rfl
    · rw [decide_eq_false hl]; simp
  · simp only [Option.bind_some, decide_eq_false hb]; simp
theorem gd_len {L : List Int} {b : Int} (h : gd L b = true) : (2 ≤ b ∧ b ≤ 16) ∧ 1 ≤ L.length ∧ L.length ≤ 40 ∧ (∀ x ∈ L, 0 ≤ x ∧ x < b) := by
  unfold gd at h
  simp only [Bool.and_eq_true, decide_eq_true_eq] at h
  refine ⟨h.1, by omega, by omega, fun x hx => ?_⟩
  have := h.2.2.1
  simp only [impl_areIn.all, impl_areIn.ok, List.all_eq_true, Bool.and_eq_true, decide_eq_true_eq] at this
  have := this x hx
  omega

theorem rev_l0 : ∀ (m : Nat) (A M B : List Int) (i j : Int), M.length < m → i = (A.length : Int) → j = (A.length : Int) + M.length - 1 → A.length + M.length + B.length ≤ 4611686018427387904 →
    Ev (fun k => slices_Reverse_int_int.l0 k (A ++ M ++ B) i j) (A ++ M.reverse ++ B)
  | 0, _, _, _, _, _, h, _, _, _ => by omega
  | m + 1, A, M, B, i, j, h, hi, hj, hl => by
    match M, h, hj, hl with
    | [], h, hj, hl =>
      refine Ev.step (fun k => by rw [slices_Reverse_int_int.l0]) (Ev.neg (by simp at hj; omega) (Ev.val (by simp)))
    | [a], h, hj, hl =>
      refine Ev.step (fun k => by rw [slices_Reverse_int_int.l0]) (Ev.neg (by simp at hj; omega) (Ev.val (by simp)))
    | a :: c :: M', h, hj, hl =>
      obtain ⟨M2, b, hM⟩ : ∃ M2 b, c :: M' = M2 ++ [b] := ⟨_, _, (List.dropLast_concat_getLast (by simp : c :: M' ≠ [])).symm⟩
      rw [hM] at h hj hl ⊢
      simp only [List.length_cons, List.length_append, List.length_nil] at h hj hl
      have r1 : rd (A ++ (a :: (M2 ++ [b])) ++ B) i = a := by subst hi; simp [rd]
      have r2 : rd (A ++ (a :: (M2 ++ [b])) ++ B) j = b := by
        have : j.toNat = A.length + (M2.length + 1) := by omega
        simp [rd, this]
      have e : ((A ++ (a :: (M2 ++ [b])) ++ B).set i.toNat b).set j.toNat a = (A ++ [b]) ++ M2 ++ (a :: B) := by
        have e1 : j.toNat = (A ++ (b :: M2)).length := by simp; omega
        have e0 : i.toNat = A.length := by omega
        have s1 : (A ++ (a :: (M2 ++ [b])) ++ B).set i.toNat b = (A ++ (b :: M2)) ++ b :: B := by rw [e0]; simp
        rw [s1, e1]; simp
      refine Ev.step (fun k => by rw [slices_Reverse_int_int.l0]) (Ev.pos (by omega) (Ev.pos (by omega) (Ev.pos (by simp; omega) (Ev.pos (by omega) (Ev.pos (by simp; omega) ?_)))))
      rw [r1, r2, e, w64 (x := i + 1) (by omega) (by omega), w64 (x := j - 1) (by omega) (by omega)]
      have ih := rev_l0 m (A ++ [b]) M2 (a :: B) (i + 1) (j - 1) (by omega) (by simp; omega) (by simp; omega) (by simp; omega)
      have e2 : A ++ (a :: (M2 ++ [b])).reverse ++ B = (A ++ [b]) ++ M2.reverse ++ (a :: B) := by simp
      rw [e2]; exact ih
theorem rev_ev (l : List Int) (hl : l.length ≤ 4000000000000000000) : Ev (fun k => slices_Reverse_int_int.f k l) l.reverse := by
  have := rev_l0 _ [] l [] 0 ((l.length : Int) - 1) (Nat.lt_succ_self _) (by simp) (by simp) (by simp; omega)
  unfold slices_Reverse_int_int.f
  rw [w64 (by omega) (by omega)]
  simpa using this

theorem reversed_ev (L : List Int) (hL : L.length ≤ 1048576) : Ev (fun k => impl_reversed.f k L) L.reverse := by
  unfold impl_reversed.f
  exact Ev.pure (show slices_Clone_int_int.f L = some L by unfold slices_Clone_int_int.f; rw [if_pos (by omega)]) (Ev.bind (rev_ev L (by omega)) (Ev.now _))

/-- the digits of the sum from the last one on, and what is carried, as int makes them -/
def ad (l : List Int) (b : Int) : Nat → Int → List Int → List Int → Int → List Int × List Int
  | 0, _, out, cs, c => (if c > 0 then out ++ [c] else out, cs)
  | m + 1, i, out, cs, c =>
    ad l b m (i + 1) (out ++ [Int.tmod (wrap64 (wrap64 (rd l ((l.length : Int) - 1 - i) + rd l i) + c)) b]) (cs ++ [wrap64 (Int.tdiv (wrap64 (wrap64 (rd l ((l.length : Int) - 1 - i) + rd l i) + c)) b)]) (wrap64 (Int.tdiv (wrap64 (wrap64 (rd l ((l.length : Int) - 1 - i) + rd l i) + c)) b))
theorem ad_len (l : List Int) (b : Int) : ∀ (m : Nat) (i : Int) (out cs : List Int) (c : Int), out.length + m ≤ (ad l b m i out cs c).1.length ∧ (ad l b m i out cs c).1.length ≤ out.length + m + 1 ∧ (ad l b m i out cs c).2.length = cs.length + m
  | 0, i, out, cs, c => by
    simp only [ad]
    split <;> simp
  | m + 1, i, out, cs, c => by
    have := ad_len l b m (i + 1) (out ++ [Int.tmod (wrap64 (wrap64 (rd l ((l.length : Int) - 1 - i) + rd l i) + c)) b]) (cs ++ [wrap64 (Int.tdiv (wrap64 (wrap64 (rd l ((l.length : Int) - 1 - i) + rd l i) + c)) b)]) (wrap64 (Int.tdiv (wrap64 (wrap64 (rd l ((l.length : Int) - 1 - i) + rd l i) + c)) b))
    simp only [ad]
    simp only [List.length_append, List.length_cons, List.length_nil] at this ⊢
    omega
theorem summed_l0 (l : List Int) (b : Int) (hb : b ≠ 0) (hl : l.length ≤ 1000) : ∀ (m : Nat) (i : Int) (out cs : List Int) (c : Int), i + m = (l.length : Int) → 0 ≤ i → out.length = i.toNat → cs.length = i.toNat →
    Ev (fun k => impl_summed.l0 k l b out cs c (l.length : Int) i) ((ad l b m i out cs c).1.reverse, (ad l b m i out cs c).2)
  | 0, i, out, cs, c, hi, h0, ho, hc => by
    refine Ev.step (fun k => by rw [impl_summed.l0]) ?_
    refine Ev.neg (by omega) ?_
    simp only [ad]
    by_cases hp : c > 0
    · rw [if_pos hp]
      exact Ev.pos hp (Ev.pos (by omega) (Ev.bind (reversed_ev _ (by simp; omega)) (Ev.now _)))
    · rw [if_neg hp]
      exact Ev.neg hp (Ev.bind (reversed_ev _ (by omega)) (Ev.now _))
  | m + 1, i, out, cs, c, hi, h0, ho, hc => by
    refine Ev.step (fun k => by rw [impl_summed.l0]) ?_
    rw [w64 (x := (l.length : Int) - 1) (by omega) (by omega), w64 (x := (l.length : Int) - 1 - i) (by omega) (by omega), w64 (x := i + 1) (by omega) (by omega)]
    refine Ev.pos (by omega) (Ev.pos (by omega) (Ev.pos (by omega) (Ev.pos (by omega) (Ev.pos (by omega) (Ev.neg hb (Ev.pos (by omega) (Ev.pos (by omega) ?_)))))))
    exact summed_l0 l b hb hl m (i + 1) _ _ _ (by omega) (by omega) (by simp; omega) (by simp; omega)
def sumOf (l : List Int) (b : Int) : List Int := (ad l b l.length 0 [] [] 0).1.reverse
def carries (l : List Int) (b : Int) : List Int := (ad l b l.length 0 [] [] 0).2
theorem sum_len (l : List Int) (b : Int) : l.length ≤ (sumOf l b).length ∧ (sumOf l b).length ≤ l.length + 1 ∧ (carries l b).length = l.length := by
  have := ad_len l b l.length 0 [] [] 0
  unfold sumOf carries
  simp only [List.length_nil] at this
  rw [List.length_reverse]
  omega
theorem summed_ev {l : List Int} {b : Int} (hb : b ≠ 0) (hl : l.length ≤ 1000) : Ev (fun k => impl_summed.f k l b) (sumOf l b, carries l b) := summed_l0 l b hb hl l.length 0 [] [] 0 (by omega) (by omega) rfl rfl

/-- the sums of pairs that make digits d from the last place on (j: the place, c: what is carried there), and what is carried at the end: all, as a tree -/
def en (b : Int) (d : Nat → Int) : Nat → Nat → Int → List Int → List (List Int × Int)
  | 0, _, c, S => [(S, c)]
  | n + 1, j, c, S => (if 0 ≤ d j - c then en b d n (j + 1) 0 (S ++ [d j - c]) else []) ++ (if d j + b - c ≤ 2 * b - 2 then en b d n (j + 1) 1 (S ++ [d j + b - c]) else [])
/-- the way that the bits of x choose -/
def path (b : Int) (d : Nat → Int) : Nat → Nat → Int → List Int → Nat → Option (List Int × Int)
  | 0, _, c, S, _ => some (S, c)
  | n + 1, j, c, S, x => if x % 2 = 0 then (if 0 ≤ d j - c then path b d n (j + 1) 0 (S ++ [d j - c]) (x / 2) else none) else (if d j + b - c ≤ 2 * b - 2 then path b d n (j + 1) 1 (S ++ [d j + b - c]) (x / 2) else none)
theorem range_two (f : Nat → Option (List Int × Int)) : ∀ q : Nat, ((List.range (2 * q)).filterMap f).Perm (((List.range q).filterMap fun x => f (2 * x)) ++ ((List.range q).filterMap fun x => f (2 * x + 1)))
  | 0 => by simp
  | q + 1 => by
    have ih := range_two f q
    rw [List.perm_iff_count] at ih ⊢
    intro a
    have h := ih a
    rw [show 2 * (q + 1) = (2 * q + 1) + 1 from rfl, List.range_succ, List.range_succ, List.range_succ]
    have e1 : [q].filterMap (fun x => f (2 * x)) = [2 * q].filterMap f := by simp only [List.filterMap_cons, List.filterMap_nil]
    have e2 : [q].filterMap (fun x => f (2 * x + 1)) = [2 * q + 1].filterMap f := by simp only [List.filterMap_cons, List.filterMap_nil]
    simp only [List.filterMap_append, List.count_append, e1, e2] at h ⊢
    omega
theorem en_perm (b : Int) (d : Nat → Int) : ∀ (n j : Nat) (c : Int) (S : List Int), ((List.range (2 ^ n)).filterMap (path b d n j c S)).Perm (en b d n j c S)
  | 0, j, c, S => by simp [path, en, List.range_succ]
  | n + 1, j, c, S => by
    rw [show 2 ^ (n + 1) = 2 * 2 ^ n by rw [Nat.pow_succ, Nat.mul_comm]]
    refine (range_two _ _).trans ?_
    unfold en
    refine List.Perm.append ?_ ?_
    · have e : (fun x => path b d (n + 1) j c S (2 * x)) = fun x => (if 0 ≤ d j - c then path b d n (j + 1) 0 (S ++ [d j - c]) x else none) := by
        funext x
        rw [path, if_pos (by omega), show 2 * x / 2 = x by omega]
      rw [e]
      by_cases h : 0 ≤ d j - c
      · simp only [if_pos h]; exact en_perm b d n (j + 1) 0 _
      · simp only [if_neg h]; rw [List.filterMap_eq_nil_iff.mpr (fun _ _ => rfl)]
    · have e : (fun x => path b d (n + 1) j c S (2 * x + 1)) = fun x => (if d j + b - c ≤ 2 * b - 2 then path b d n (j + 1) 1 (S ++ [d j + b - c]) x else none) := by
        funext x
        rw [path, if_neg (by omega), show (2 * x + 1) / 2 = x by omega]
      rw [e]
      by_cases h : d j + b - c ≤ 2 * b - 2
      · simp only [if_pos h]; exact en_perm b d n (j + 1) 1 _
      · simp only [if_neg h]; rw [List.filterMap_eq_nil_iff.mpr (fun _ _ => rfl)]
/-- what comes first, as lists of whole numbers -/
def lessL : List Int → List Int → Bool
  | [], [] => false
  | [], _ :: _ => true
  | _ :: _, [] => false
  | x :: xs, y :: ys => if x = y then lessL xs ys else decide (x < y)
theorem lessL_asym : ∀ x y, lessL x y = true → lessL y x = false
  | [], [], h => by simp [lessL] at h
  | [], _ :: _, _ => rfl
  | _ :: _, [], h => by simp [lessL] at h
  | x :: xs, y :: ys, h => by
    unfold lessL at h ⊢
    by_cases e : x = y
    · rw [if_pos e] at h; rw [if_pos e.symm]; exact lessL_asym xs ys h
    · rw [if_neg e] at h; rw [if_neg (fun h => e h.symm)]; simp only [decide_eq_true_eq] at h; simp only [decide_eq_false_iff_not]; omega
theorem lessL_tri : ∀ x y, lessL x y = false → lessL y x = false → x = y
  | [], [], _, _ => rfl
  | [], _ :: _, h, _ => by simp [lessL] at h
  | _ :: _, [], _, h => by simp [lessL] at h
  | x :: xs, y :: ys, h, g => by
    unfold lessL at h g
    by_cases e : x = y
    · rw [if_pos e] at h; rw [if_pos e.symm] at g; rw [e, lessL_tri xs ys h g]
    · rw [if_neg e] at h; rw [if_neg (fun h => e h.symm)] at g; simp only [decide_eq_false_iff_not] at h g; omega
theorem lessL_trans : ∀ x y z, lessL x y = true → lessL y z = true → lessL x z = true
  | [], [], _, h, _ => by simp [lessL] at h
  | [], _ :: _, [], _, g => by simp [lessL] at g
  | [], _ :: _, _ :: _, _, _ => rfl
  | _ :: _, [], _, h, _ => by simp [lessL] at h
  | _ :: _, _ :: _, [], _, g => by simp [lessL] at g
  | x :: xs, y :: ys, z :: zs, h, g => by
    unfold lessL at h g ⊢
    by_cases e : x = y
    · rw [if_pos e] at h
      by_cases f : y = z
      · rw [if_pos f] at g; rw [if_pos (e.trans f)]; exact lessL_trans xs ys zs h g
      · rw [if_neg f] at g; rw [if_neg (e ▸ f), e]; exact g
    · rw [if_neg e] at h
      simp only [decide_eq_true_eq] at h
      by_cases f : y = z
      · rw [if_neg (by omega)]; simp only [decide_eq_true_eq]; omega
      · rw [if_neg f] at g
        simp only [decide_eq_true_eq] at g
        rw [if_neg (by omega)]; simp only [decide_eq_true_eq]; omega
def best (F X : List Int) : List Int := if F = [] then X else if lessL X F = true then X else F
theorem best_comm (F X Y : List Int) (hx : X ≠ []) (hy : Y ≠ []) : best (best F X) Y = best (best F Y) X := by
  unfold best
  by_cases hF : F = []
  · simp only [if_pos hF, if_neg hx, if_neg hy]
    cases h : lessL Y X with
    | true => rw [lessL_asym Y X h]; simp
    | false =>
      cases g : lessL X Y with
      | true => simp
      | false => simp [lessL_tri X Y g h]
  · simp only [if_neg hF]
    cases h1 : lessL X F <;> cases h2 : lessL Y F <;> simp only [Bool.false_eq_true, if_false, if_true, if_neg hF, if_neg hx, if_neg hy, h1, h2]
    · cases g : lessL X Y with
      | false => rfl
      | true => rw [lessL_trans X Y F g h2] at h1; cases h1
    · cases g : lessL Y X with
      | false => rfl
      | true => rw [lessL_trans Y X F g h1] at h2; cases h2
    · cases h : lessL Y X with
      | true => rw [lessL_asym Y X h]; simp
      | false =>
        cases g : lessL X Y with
        | true => simp
        | false => simp [lessL_tri X Y g h]
theorem wrap_comm (c a e : Int) : wrap64 (wrap64 (c + a) + e) = wrap64 (wrap64 (c + e) + a) := by unfold wrap64; omega
theorem wrap_zero (c a : Int) : wrap64 (wrap64 (c + a) + 0) = wrap64 (c + a) := by unfold wrap64; omega

/-- adding pair sums t from the last place on: the digits are d, or none; what is carried at the end -/
def tst (b : Int) (t d : Nat → Int) : Nat → Nat → Int → Option Int
  | 0, _, c => some c
  | n + 1, j, c => if (t j + c) % b = d j then tst b t d n (j + 1) ((t j + c) / b) else none
theorem tst_add (b : Int) (t d : Nat → Int) : ∀ (n m j : Nat) (c : Int), tst b t d (n + m) j c = (tst b t d n j c).bind fun e => tst b t d m (j + n) e
  | 0, m, j, c => by simp [tst]
  | n + 1, m, j, c => by
    rw [show n + 1 + m = (n + m) + 1 by omega, tst, tst]
    by_cases h : (t j + c) % b = d j
    · rw [if_pos h, if_pos h, tst_add b t d n m, show j + 1 + n = j + (n + 1) by omega]
    · rw [if_neg h, if_neg h]; rfl
theorem tst_same (b : Int) (t t' d : Nat → Int) : ∀ (n j : Nat) (c : Int), (∀ i, j ≤ i → i < j + n → t i = t' i) → tst b t d n j c = tst b t' d n j c
  | 0, _, _, _ => rfl
  | n + 1, j, c, h => by
    unfold tst
    rw [h j (Nat.le_refl _) (by omega), tst_same b t t' d n (j + 1) _ (fun i h1 h2 => h i (by omega) (by omega))]
theorem carry_01 {b s c : Int} (hb : 2 ≤ b) (hs : 0 ≤ s ∧ s ≤ 2 * b - 2) (hc : 0 ≤ c ∧ c ≤ 1) : 0 ≤ (s + c) / b ∧ (s + c) / b ≤ 1 := by
  refine ⟨Int.ediv_nonneg (by omega) (by omega), ?_⟩
  have h1 := Int.ediv_lt_of_lt_mul (a := s + c) (b := 2) (c := b) (by omega) (by omega)
  omega
theorem tst_01 {b : Int} (hb : 2 ≤ b) (t d : Nat → Int) : ∀ (n j : Nat) (c e : Int), (∀ i, j ≤ i → i < j + n → 0 ≤ t i ∧ t i ≤ 2 * b - 2) → 0 ≤ c ∧ c ≤ 1 → tst b t d n j c = some e → 0 ≤ e ∧ e ≤ 1
  | 0, _, c, e, _, hc, h => by simp only [tst, Option.some.injEq] at h; omega
  | n + 1, j, c, e, ht, hc, h => by
    unfold tst at h
    by_cases g : (t j + c) % b = d j
    · rw [if_pos g] at h
      exact tst_01 hb t d n (j + 1) _ e (fun i h1 h2 => ht i (by omega) (by omega)) (carry_01 hb (ht j (Nat.le_refl _) (by omega)) hc) h
    · rw [if_neg g] at h; cases h
theorem ad_pre (X : List Int) (b : Int) : ∀ (n : Nat) (i : Int) (out cs : List Int) (c : Int), ∃ z, (ad X b n i out cs c).1 = out ++ z
  | 0, i, out, cs, c => by
    simp only [ad]
    by_cases h : c > 0
    · exact ⟨[c], by rw [if_pos h]⟩
    · exact ⟨[], by rw [if_neg h, List.append_nil]⟩
  | n + 1, i, out, cs, c => by
    simp only [ad]
    obtain ⟨z, hz⟩ := ad_pre X b n (i + 1) (out ++ [Int.tmod (wrap64 (wrap64 (rd X ((X.length : Int) - 1 - i) + rd X i) + c)) b]) (cs ++ [wrap64 (Int.tdiv (wrap64 (wrap64 (rd X ((X.length : Int) - 1 - i) + rd X i) + c)) b)]) (wrap64 (Int.tdiv (wrap64 (wrap64 (rd X ((X.length : Int) - 1 - i) + rd X i) + c)) b))
    exact ⟨_ :: z, by rw [hz, List.append_assoc]; rfl⟩
/-- the addition's digits, from the last one on, with the carry at the end, are those of d, so many (n or n + 1), exactly where tst passes -/
theorem ad_tst (X : List Int) {b : Int} (hb : 2 ≤ b ∧ b ≤ 16) (t d : Nat → Int) (hX : X.length ≤ 1000) : ∀ (n i : Nat) (out cs : List Int) (c : Int) (Dr : List Int), i + n = X.length → (∀ j, i ≤ j → j < i + n → rd X ((X.length : Int) - 1 - j) + rd X j = t j ∧ 0 ≤ t j ∧ t j ≤ 2 * b - 2) → 0 ≤ c ∧ c ≤ 1 →
    ((ad X b n i out cs c).1 = out ++ (List.range' i n).map d ++ Dr ↔ ∃ e, tst b t d n i c = some e ∧ Dr = if e > 0 then [e] else [])
  | 0, i, out, cs, c, Dr, hi, ht, hc => by
    simp only [ad, tst, List.range'_zero, List.map_nil, List.append_nil, Option.some.injEq]
    by_cases h : c > 0
    · rw [if_pos h]
      constructor
      · intro g; exact ⟨c, rfl, by rw [if_pos h]; exact (List.append_cancel_left g).symm⟩
      · rintro ⟨e, rfl, g⟩; rw [g, if_pos h]
    · rw [if_neg h]
      constructor
      · intro g
        refine ⟨c, rfl, ?_⟩
        rw [if_neg h]
        have := congrArg List.length g
        simp only [List.length_append] at this
        exact List.eq_nil_of_length_eq_zero (by omega)
      · rintro ⟨e, rfl, g⟩; rw [g, if_neg h, List.append_nil]
  | n + 1, i, out, cs, c, Dr, hi, ht, hc => by
    have h1 := ht i (Nat.le_refl _) (by omega)
    have hcc := carry_01 hb.1 h1.2 hc
    have e1 : wrap64 (wrap64 (rd X ((X.length : Int) - 1 - (i : Int)) + rd X (i : Int)) + c) = t i + c := by rw [h1.1, w64 (x := t i) (by omega) (by omega), w64 (by omega) (by omega)]
    have e2 : Int.tmod (t i + c) b = (t i + c) % b := Int.tmod_eq_emod_of_nonneg (by omega)
    have e3 : wrap64 (Int.tdiv (t i + c) b) = (t i + c) / b := by rw [Int.tdiv_eq_ediv_of_nonneg (by omega), w64 (by omega) (by omega)]
    simp only [ad]
    rw [e1, e2, e3, show (i : Int) + 1 = ((i + 1 : Nat) : Int) by omega]
    unfold tst
    rw [List.range'_succ, List.map_cons]
    by_cases g : (t i + c) % b = d i
    · rw [if_pos g]
      have ih := ad_tst X hb t d hX n (i + 1) (out ++ [(t i + c) % b]) (cs ++ [(t i + c) / b]) ((t i + c) / b) Dr (by omega) (fun j h2 h3 => ht j (by omega) (by omega)) hcc
      rw [← ih, g]
      simp only [List.append_assoc, List.cons_append, List.nil_append]
    · rw [if_neg g]
      constructor
      · intro h
        exfalso
        have h2 := ad_pre X b n ((i + 1 : Nat) : Int) (out ++ [(t i + c) % b]) (cs ++ [(t i + c) / b]) ((t i + c) / b)
        obtain ⟨z, hz⟩ := h2
        rw [hz] at h
        simp only [List.append_assoc, List.cons_append, List.append_cancel_left_eq, List.cons.injEq] at h
        exact g h.1
      · rintro ⟨e, h, _⟩; cases h

theorem rd_set (l : List Int) (i : Nat) (v : Int) (j : Nat) (hi : i < l.length) : rd (l.set i v) (j : Int) = if i = j then v else rd l (j : Int) := by
  simp only [rd, Int.toNat_natCast, List.getD_eq_getElem?_getD, List.getElem?_set]
  by_cases h : i = j
  · subst h; simp [hi]
  · simp [h]
def lz (b : Int) (S : List Int) (i : Nat) : Int := SR.least b (rd S (i : Int)) ((i : Int) == 0)
/-- the first digits with sums S of pairs, from pair i on -/
def mk (b : Int) (m : Nat) (S : List Int) : Nat → Nat → List Int → List Int
  | 0, _, X => X
  | n + 1, i, X => if 2 * i + 1 = m then mk b m S n (i + 1) (X.set i (Int.tdiv (rd S (i : Int)) 2)) else mk b m S n (i + 1) ((X.set i (lz b S i)).set (m - 1 - i) (rd S (i : Int) - lz b S i))
/-- in how many ways -/
def nm (b : Int) (m : Nat) (S : List Int) : Nat → Nat → Int → Int
  | 0, _, c => c
  | n + 1, i, c => if 2 * i + 1 = m then nm b m S n (i + 1) c else nm b m S n (i + 1) (wrap64 (c * SR.many b (rd S (i : Int)) (lz b S i)))
def excl (m : Nat) (S : List Int) : Bool := decide (m % 2 = 1 ∧ (rd S ((m / 2 : Nat) : Int) % 2 = 1 ∨ (m = 1 ∧ rd S ((m / 2 : Nat) : Int) = 0)))
def xs (b : Int) (m : Nat) (S : List Int) : List Int := mk b m S ((m + 1) / 2) 0 (List.replicate m 0)
def cv (b : Int) (m : Nat) (S : List Int) : Int := if excl m S = true then 0 else nm b m S ((m + 1) / 2) 0 1
def tr (m : Nat) (S : List Int) (j : Nat) : Int := rd S ((min j (m - 1 - j) : Nat) : Int)
theorem mk_len (b : Int) (m : Nat) (S : List Int) : ∀ (n i : Nat) (X : List Int), (mk b m S n i X).length = X.length
  | 0, _, _ => rfl
  | n + 1, i, X => by
    unfold mk
    split
    · rw [mk_len b m S n, List.length_set]
    · rw [mk_len b m S n, List.length_set, List.length_set]
theorem mk_sum (b : Int) (m : Nat) (S : List Int) (he : ∀ i : Nat, 2 * i + 1 = m → rd S (i : Int) % 2 = 0 ∧ 0 ≤ rd S (i : Int)) : ∀ (n i : Nat) (X : List Int), i + n = (m + 1) / 2 → X.length = m →
    (∀ j : Nat, j < m → (j < i ∨ m - 1 - j < i) → rd (mk b m S n i X) (j : Int) = rd X (j : Int)) ∧ (∀ j : Nat, i ≤ j → j < (m + 1) / 2 → rd (mk b m S n i X) (j : Int) + rd (mk b m S n i X) ((m - 1 - j : Nat) : Int) = rd S (j : Int))
  | 0, i, X, hi, hX => ⟨fun _ _ _ => rfl, fun j h1 h2 => by omega⟩
  | n + 1, i, X, hi, hX => by
    unfold mk
    by_cases hm : 2 * i + 1 = m
    · rw [if_pos hm]
      have ih := mk_sum b m S he n (i + 1) (X.set i (Int.tdiv (rd S (i : Int)) 2)) (by omega) (by rw [List.length_set]; exact hX)
      refine ⟨fun j h1 h2 => ?_, fun j h1 h2 => ?_⟩
      · rw [ih.1 j h1 (by omega), rd_set _ _ _ _ (by omega), if_neg (by omega)]
      · have e : j = i := by omega
        subst e
        rw [show m - 1 - j = j by omega, ih.1 j (by omega) (by omega), rd_set _ _ _ _ (by omega), if_pos rfl]
        have := he j hm
        rw [Int.tdiv_eq_ediv_of_nonneg this.2]
        omega
    · rw [if_neg hm]
      have ih := mk_sum b m S he n (i + 1) ((X.set i (lz b S i)).set (m - 1 - i) (rd S (i : Int) - lz b S i)) (by omega) (by rw [List.length_set, List.length_set]; exact hX)
      refine ⟨fun j h1 h2 => ?_, fun j h1 h2 => ?_⟩
      · rw [ih.1 j h1 (by omega), rd_set _ _ _ _ (by rw [List.length_set]; omega), if_neg (by omega), rd_set _ _ _ _ (by omega), if_neg (by omega)]
      · by_cases e : j = i
        · subst e
          rw [ih.1 j (by omega) (by omega), ih.1 (m - 1 - j) (by omega) (by omega), rd_set _ _ _ _ (by rw [List.length_set]; omega), if_neg (by omega), rd_set _ _ _ _ (by omega), if_pos rfl, rd_set _ _ _ _ (by rw [List.length_set]; omega), if_pos rfl]
          omega
        · exact ih.2 j (by omega) h2
theorem xs_len (b : Int) (m : Nat) (S : List Int) : (xs b m S).length = m := by unfold xs; rw [mk_len, List.length_replicate]
/-- each pair of the first digits has its sum -/
theorem xs_sum {b : Int} {m : Nat} {S : List Int} (hx : excl m S = false) (h0 : ∀ i : Nat, i < (m + 1) / 2 → 0 ≤ rd S (i : Int)) (j : Nat) (hj : j < m) : rd (xs b m S) ((m - 1 - j : Nat) : Int) + rd (xs b m S) (j : Int) = tr m S j := by
  have he : ∀ i : Nat, 2 * i + 1 = m → rd S (i : Int) % 2 = 0 ∧ 0 ≤ rd S (i : Int) := fun i hi => by
    unfold excl at hx
    simp only [decide_eq_false_iff_not, not_and, not_or] at hx
    have := hx (by omega)
    rw [show m / 2 = i by omega] at this
    exact ⟨by omega, h0 i (by omega)⟩
  have h := (mk_sum b m S he ((m + 1) / 2) 0 (List.replicate m 0) (by omega) (by simp)).2
  unfold tr xs
  by_cases g : j < (m + 1) / 2
  · rw [Nat.min_eq_left (by omega), ← h j (by omega) g, Int.add_comm]
  · rw [Nat.min_eq_right (by omega), ← h (m - 1 - j) (by omega) (by omega), show m - 1 - (m - 1 - j) = j by omega]
theorem mid_eq (m i : Nat) (hi : i ≤ 12) : SR.mid (m : Int) (i : Int) = decide (2 * i + 1 = m) := by
  unfold SR.mid
  rw [w64 (x := 2 * (i : Int)) (by omega) (by omega), w64 (by omega) (by omega)]
  by_cases h : 2 * i + 1 = m
  · rw [decide_eq_true h]; simp; omega
  · rw [decide_eq_false h]; simp; omega
theorem lz_eq {b s : Int} {o : Bool} (hb : 2 ≤ b ∧ b ≤ 16) (hs : 0 ≤ s ∧ s ≤ 2 * b - 2) : SR.least b s o = (if o = true then mx (s - (b - 1)) 1 else mx (s - (b - 1)) 0) ∧ 0 ≤ SR.least b s o ∧ SR.least b s o ≤ 40 := by
  unfold SR.least
  rw [w64 (x := b - 1) (by omega) (by omega), w64 (x := s - (b - 1)) (by omega) (by omega)]
  have hm : mx (mx (s - (b - 1)) 0) 1 = mx (s - (b - 1)) 1 := by unfold mx; by_cases h1 : s - (b - 1) < 0 <;> by_cases h2 : s - (b - 1) < 1 <;> simp only [h1, h2, if_true, if_false] <;> (try rfl) <;> omega
  cases o
  · simp only [Bool.false_eq_true, if_false]
    refine ⟨by first | trivial | rfl, ?_⟩
    unfold mx; split <;> omega
  · simp only [if_true]
    rw [hm]
    refine ⟨by first | trivial | rfl, ?_⟩
    unfold mx; split <;> omega
theorem ck_ev {b : Int} {m : Nat} {S : List Int} (hb : 2 ≤ b ∧ b ≤ 16) (hm : 1 ≤ m ∧ m ≤ 12) (hS : S.length = (m + 1) / 2) (hr : ∀ i : Nat, i < (m + 1) / 2 → 0 ≤ rd S (i : Int) ∧ rd S (i : Int) ≤ 2 * b - 2) : ∀ (n i : Nat) (X : List Int) (c : Int), i + n = (m + 1) / 2 → X.length = m →
    Ev (fun k => SR.ck b (m : Int) S k (i : Int) X c) (if excl m S = true ∧ 0 < n then none else some (mk b m S n i X, nm b m S n i c))
  | 0, i, X, c, hi, hX => by
    refine Ev.step (fun k => by rw [SR.ck]) ?_
    refine Ev.neg (by omega) (Ev.val ?_)
    simp [mk, nm]
  | n + 1, i, X, c, hi, hX => by
    have hs := hr i (by omega)
    refine Ev.step (fun k => by rw [SR.ck]) ?_
    refine Ev.pos (by omega) (Ev.pos (by omega) ?_)
    rw [mid_eq m i (by omega), w64 (x := (i : Int) + 1) (by omega) (by omega), w64 (x := (m : Int) - 1) (by omega) (by omega), w64 (x := (m : Int) - 1 - (i : Int)) (by omega) (by omega)]
    by_cases hmid : 2 * i + 1 = m
    · refine Ev.pos (decide_eq_true hmid) ?_
      have hn : n = 0 := by omega
      subst hn
      have hi2 : m / 2 = i := by omega
      by_cases h1 : Int.tmod (rd S (i : Int)) 2 = 1
      · refine Ev.pos h1 (Ev.val ?_)
        rw [Int.tmod_eq_emod_of_nonneg hs.1] at h1
        rw [if_pos ⟨by unfold excl; rw [hi2]; exact decide_eq_true ⟨by omega, .inl h1⟩, by omega⟩]
      · refine Ev.neg h1 ?_
        rw [Int.tmod_eq_emod_of_nonneg hs.1] at h1
        by_cases h2 : (i : Int) = 0 ∧ rd S (i : Int) = 0
        · refine Ev.pos h2 (Ev.val ?_)
          rw [if_pos ⟨by unfold excl; rw [hi2]; exact decide_eq_true ⟨by omega, .inr ⟨by omega, h2.2⟩⟩, by omega⟩]
        · refine Ev.neg h2 ?_
          have hx : excl m S = false := by
            unfold excl
            rw [hi2]
            refine decide_eq_false (fun h => ?_)
            rcases h.2 with h | h
            · exact h1 h
            · exact h2 ⟨by omega, h.2⟩
          have ih := ck_ev hb hm hS hr 0 (i + 1) (X.set i (Int.tdiv (rd S (i : Int)) 2)) c (by omega) (by rw [List.length_set]; exact hX)
          rw [hx] at ih ⊢
          simp only [Bool.false_eq_true, false_and, if_false] at ih ⊢
          rw [mk, nm, if_pos hmid, if_pos hmid, show wrap64 (Int.tdiv (rd S (i : Int)) 2) = Int.tdiv (rd S (i : Int)) 2 from by rw [Int.tdiv_eq_ediv_of_nonneg hs.1]; exact w64 (by omega) (by omega)]
          exact ih
    · refine Ev.neg (by simpa using hmid) (Ev.pos (by omega) ?_)
      have hlz : SR.least b (rd S (i : Int)) ((i : Int) == 0) = lz b S i := rfl
      have hlb := (lz_eq (o := ((i : Int) == 0)) hb hs).2
      rw [hlz] at hlb ⊢
      have ih := ck_ev hb hm hS hr n (i + 1) ((X.set i (lz b S i)).set (m - 1 - i) (rd S (i : Int) - lz b S i)) (wrap64 (c * SR.many b (rd S (i : Int)) (lz b S i))) (by omega) (by rw [List.length_set, List.length_set]; exact hX)
      rw [w64 (x := rd S (i : Int) - lz b S i) (by omega) (by omega), show ((m : Int) - 1 - (i : Int)).toNat = m - 1 - i by omega, show ((i : Int)).toNat = i by omega]
      have e : (excl m S = true ∧ 0 < n) ↔ (excl m S = true ∧ 0 < n + 1) := by
        constructor
        · exact fun h => ⟨h.1, by omega⟩
        · intro h
          refine ⟨h.1, ?_⟩
          have h1 := h.1
          unfold excl at h1
          simp only [decide_eq_true_eq] at h1
          omega
      rw [mk, nm, if_neg hmid, if_neg hmid]
      simp only [e] at ih
      exact ih

theorem equalL_l0 (A B : List Int) (hL : A.length ≤ 1000) (hAB : A.length = B.length) : ∀ (r s pre : List Int) (i : Int), A = pre ++ r → B = pre ++ s → i = (pre.length : Int) → Ev (fun k => slices_Equal_int_int.l0 k A B (A.length : Int) i) (decide (A = B))
  | [], s, pre, i, h, h', hi => by
    refine Ev.step (fun k => by rw [slices_Equal_int_int.l0]) ?_
    refine Ev.neg (by rw [h]; simp; omega) (Ev.val ?_)
    have : s = [] := by rw [h, h'] at hAB; simp at hAB; exact hAB
    rw [h, h', this]; simp
  | a :: r, [], pre, i, h, h', hi => by rw [h, h'] at hAB; simp at hAB
  | a :: r, c :: s, pre, i, h, h', hi => by
    have hlen : A.length = pre.length + (r.length + 1) := by rw [h]; simp
    have hra : rd A i = a := by rw [h, hi]; simp [rd]
    have hrb : rd B i = c := by rw [h', hi]; simp [rd]
    refine Ev.step (fun k => by rw [slices_Equal_int_int.l0]) ?_
    refine Ev.pos (by omega) (Ev.pos (by omega) (Ev.pos (by omega) (Ev.pos (by omega) ?_)))
    rw [hra, hrb, w64 (by omega) (by omega)]
    by_cases e : a = c
    · exact Ev.pos e (equalL_l0 A B hL hAB r s (pre ++ [a]) (i + 1) (by rw [h]; simp) (by rw [h', e]; simp) (by simp; omega))
    · refine Ev.neg e (Ev.val ?_)
      have : ¬ A = B := by rw [h, h']; simp; intro hh; exact absurd hh e
      rw [decide_eq_false this]
theorem equalL_ev (A B : List Int) (hL : A.length ≤ 1000) : Ev (fun k => slices_Equal_int_int.f k A B) (decide (A = B)) := by
  unfold slices_Equal_int_int.f
  by_cases h : A.length = B.length
  · exact Ev.pos (by omega) (equalL_l0 A B hL h A B [] 0 rfl rfl rfl)
  · refine Ev.neg (by omega) (Ev.val ?_)
    rw [decide_eq_false]
    intro e
    exact h (by rw [e])
theorem cmpInt_eq (x y : Int) : cmp_Compare_int.f x y = some (if x < y then -1 else if x > y then 1 else 0) := by
  unfold cmp_Compare_int.f cmp_isNaN_int.f
  simp
  split
  · rfl
  · split <;> rfl
theorem compL_l0 (A B : List Int) (hL : A.length ≤ 1000) : ∀ (r s pre : List Int) (i : Int), A = pre ++ r → B = pre ++ s → i = (pre.length : Int) →
    ∃ c : Int, Ev (fun k => slices_Compare_int_int.l0 k A B A (A.length : Int) i) c ∧ (c < 0 ↔ lessL r s = true)
  | [], [], pre, i, hA, hB, hi => by
    have hl : A.length = pre.length := by rw [hA]; simp
    have hl2 : B.length = pre.length := by rw [hB]; simp
    refine ⟨0, ?_, by simp [lessL]⟩
    refine Ev.step (fun k => by rw [slices_Compare_int_int.l0]) ?_
    exact Ev.neg (by omega) (Ev.neg (by omega) (Ev.now _))
  | [], y :: s, pre, i, hA, hB, hi => by
    have hl : A.length = pre.length := by rw [hA]; simp
    have hl2 : B.length = pre.length + (s.length + 1) := by rw [hB]; simp
    refine ⟨-1, ?_, by simp [lessL]⟩
    refine Ev.step (fun k => by rw [slices_Compare_int_int.l0]) ?_
    exact Ev.neg (by omega) (Ev.pos (by omega) (Ev.now _))
  | x :: r, [], pre, i, hA, hB, hi => by
    have hl : A.length = pre.length + (r.length + 1) := by rw [hA]; simp
    have hl2 : B.length = pre.length := by rw [hB]; simp
    refine ⟨1, ?_, by simp [lessL]⟩
    refine Ev.step (fun k => by rw [slices_Compare_int_int.l0]) ?_
    exact Ev.pos (by omega) (Ev.pos (by omega) (Ev.pos (by omega) (Ev.pos (by omega) (Ev.now _))))
  | x :: r, y :: s, pre, i, hA, hB, hi => by
    have hlA : A.length = pre.length + (r.length + 1) := by rw [hA]; simp
    have hlB : B.length = pre.length + (s.length + 1) := by rw [hB]; simp
    have hx : rd A i = x := by rw [hA, hi]; exact rd_mid _ _ _
    have hy : rd B i = y := by rw [hB, hi]; exact rd_mid _ _ _
    by_cases he : x = y
    · subst he
      obtain ⟨c, h2, h3⟩ := compL_l0 A B hL r s (pre ++ [x]) (i + 1) (by rw [hA]; simp) (by rw [hB]; simp) (by simp; omega)
      refine ⟨c, ?_, by rw [h3]; simp [lessL]⟩
      refine Ev.step (fun k => by rw [slices_Compare_int_int.l0]) ?_
      refine Ev.pos (by omega) (Ev.pos (by omega) (Ev.pos (by omega) (Ev.neg (by omega) (Ev.pos (by omega) (Ev.pure (cmpInt_eq _ _) ?_)))))
      refine Ev.pos (by rw [hx, hy]; simp) ?_
      rw [w64 (by omega) (by omega)]; exact h2
    · refine ⟨if x < y then -1 else 1, ?_, ?_⟩
      · refine Ev.step (fun k => by rw [slices_Compare_int_int.l0]) ?_
        refine Ev.pos (by omega) (Ev.pos (by omega) (Ev.pos (by omega) (Ev.neg (by omega) (Ev.pos (by omega) (Ev.pure (cmpInt_eq _ _) ?_)))))
        rw [hx, hy]
        by_cases hlt : x < y
        · rw [if_pos hlt, if_pos hlt]; exact Ev.neg (by omega) (Ev.now _)
        · rw [if_neg hlt, if_neg hlt, if_pos (by omega)]; exact Ev.neg (by omega) (Ev.now _)
      · by_cases hlt : x < y
        · simp [lessL, he, hlt]
        · simp [lessL, he, hlt]
theorem compL_ev (A B : List Int) (hL : A.length ≤ 1000) : ∃ c : Int, Ev (fun k => slices_Compare_int_int.f k A B) c ∧ (c < 0 ↔ lessL A B = true) := compL_l0 A B hL A B [] 0 rfl rfl rfl

def dg (D : List Int) (j : Nat) : Int := rd D ((D.length : Int) - 1 - (j : Int))
/-- the sums of pairs S make the digits D: what is left of the addition (e is carried behind the pairs) -/
def pass (b : Int) (m : Nat) (D S : List Int) (e : Int) : Bool := decide (tst b (tr m S) (dg D) (m - (m + 1) / 2) ((m + 1) / 2) e = some ((D.length : Int) - (m : Int)) ∧ ((D.length : Int) - (m : Int) = 1 → rd D 0 = 1))
/-- what a leaf of the tree is -/
structure Leaf (b : Int) (m : Nat) (D S : List Int) (e : Int) : Prop where
  len : S.length = (m + 1) / 2
  rg : ∀ i : Nat, i < (m + 1) / 2 → 0 ≤ rd S (i : Int) ∧ rd S (i : Int) ≤ 2 * b - 2
  dig : tst b (fun j => rd S (j : Int)) (dg D) ((m + 1) / 2) 0 0 = some e
def stp (b : Int) (m : Nat) (D : List Int) (a : Int × List Int) (l : List Int × Int) : Int × List Int := if pass b m D l.1 l.2 = true ∧ cv b m l.1 ≠ 0 then (wrap64 (a.1 + cv b m l.1), best a.2 (xs b m l.1)) else a
theorem rev_dg (D : List Int) : D.reverse = (List.range' 0 D.length).map (dg D) := by
  apply List.ext_getElem
  · simp
  · intro i h1 h2
    simp only [List.length_reverse] at h1
    rw [List.getElem_reverse, List.getElem_map, List.getElem_range']
    unfold dg rd
    rw [show ((D.length : Int) - 1 - ((0 + 1 * i : Nat) : Int)).toNat = D.length - 1 - i by omega]
    rw [List.getD_eq_getElem?_getD, List.getElem?_eq_getElem (by omega)]
    rfl
theorem sum_pass {b : Int} {m : Nat} {D S : List Int} {e : Int} (hb : 2 ≤ b ∧ b ≤ 16) (hm : 1 ≤ m ∧ m ≤ 12) (hD : D.length = m ∨ D.length = m + 1) (hl : Leaf b m D S e) (hx : excl m S = false) : sumOf (xs b m S) b = D ↔ pass b m D S e = true := by
  have hT : ∀ j, 0 ≤ j → j < 0 + m → rd (xs b m S) (((xs b m S).length : Int) - 1 - (j : Int)) + rd (xs b m S) (j : Int) = tr m S j ∧ 0 ≤ tr m S j ∧ tr m S j ≤ 2 * b - 2 := by
    intro j _ hj
    have h1 := xs_sum (b := b) hx (fun i hi => (hl.rg i hi).1) j (by omega)
    rw [xs_len, show (m : Int) - 1 - (j : Int) = ((m - 1 - j : Nat) : Int) by omega]
    exact ⟨h1, hl.rg (min j (m - 1 - j)) (by omega)⟩
  have key := fun Dr => ad_tst (xs b m S) hb (tr m S) (dg D) (by rw [xs_len]; omega) m 0 [] [] 0 Dr (by rw [xs_len]; omega) hT (by omega)
  simp only [List.nil_append] at key
  have hs : tst b (tr m S) (dg D) m 0 0 = tst b (tr m S) (dg D) (m - (m + 1) / 2) ((m + 1) / 2) e := by
    have h1 := tst_add b (tr m S) (dg D) ((m + 1) / 2) (m - (m + 1) / 2) 0 0
    rw [show (m + 1) / 2 + (m - (m + 1) / 2) = m by omega] at h1
    rw [h1, tst_same b (tr m S) (fun j => rd S (j : Int)) (dg D) ((m + 1) / 2) 0 0 (fun i _ h => by unfold tr; rw [Nat.min_eq_left (by omega)]), hl.dig]
    simp
  unfold sumOf pass
  rw [xs_len, ← hs]
  have e0 : ((ad (xs b m S) b m 0 [] [] 0).1.reverse = D) ↔ (ad (xs b m S) b m 0 [] [] 0).1 = D.reverse := by
    constructor
    · intro h; rw [← h, List.reverse_reverse]
    · intro h; rw [h, List.reverse_reverse]
  rw [e0, rev_dg, decide_eq_true_eq]
  rcases hD with h | h
  · rw [h, show ((m : Nat) : Int) - (m : Int) = 0 by omega]
    have k1 := key []
    rw [List.append_nil] at k1
    rw [show ((0 : Nat) : Int) = 0 from rfl] at k1
    rw [k1]
    constructor
    · rintro ⟨e', h1, h2⟩
      have h3 := tst_01 hb.1 (tr m S) (dg D) m 0 0 e' (fun i a c => (hT i a c).2) (by omega) h1
      by_cases g : e' > 0
      · rw [if_pos g] at h2; cases h2
      · exact ⟨by rw [h1, show e' = 0 by omega], fun h => by omega⟩
    · rintro ⟨h1, _⟩
      exact ⟨0, h1, by rw [if_neg (by omega)]⟩
  · rw [h, List.range'_concat, List.map_append, show ((m + 1 : Nat) : Int) - (m : Int) = 1 by omega]
    have hd : List.map (dg D) [0 + 1 * m] = [rd D 0] := by
      simp only [List.map_cons, List.map_nil]
      unfold dg
      rw [h, show ((m + 1 : Nat) : Int) - 1 - ((0 + 1 * m : Nat) : Int) = 0 by omega]
    rw [hd]
    have k1 := key [rd D 0]
    rw [show ((0 : Nat) : Int) = 0 from rfl] at k1
    rw [k1]
    constructor
    · rintro ⟨e', h1, h2⟩
      have h3 := tst_01 hb.1 (tr m S) (dg D) m 0 0 e' (fun i a c => (hT i a c).2) (by omega) h1
      by_cases g : e' > 0
      · rw [if_pos g] at h2
        simp only [List.cons.injEq, and_true] at h2
        have : e' = 1 := by omega
        subst this
        exact ⟨h1, fun _ => h2⟩
      · rw [if_neg g] at h2; cases h2
    · rintro ⟨h1, h2⟩
      exact ⟨1, h1, by rw [if_pos (by omega), h2 rfl]⟩
theorem check_ev {b : Int} {m : Nat} {D S : List Int} {e : Int} (hb : 2 ≤ b ∧ b ≤ 16) (hm : 1 ≤ m ∧ m ≤ 12) (hD : D.length = m ∨ D.length = m + 1) (hl : Leaf b m D S e) (c : Int) (F : List Int) : Ev (fun k => impl_source_check.f k D b (m : Int) S c F) (stp b m D (c, F) (S, e)) := by
  unfold impl_source_check.f
  refine Ev.pos (by omega) ?_
  have h := ck_ev hb hm hl.len hl.rg ((m + 1) / 2) 0 (List.replicate m 0) 1 (by omega) (by simp)
  rw [show ((m : Nat) : Int).toNat = m by omega]
  refine Ev.bind h ?_
  cases hx : excl m S with
  | true =>
    rw [if_pos ⟨rfl, by omega⟩]
    refine Ev.val ?_
    unfold stp
    rw [if_neg]
    rintro ⟨_, h2⟩
    exact h2 (by unfold cv; rw [hx, if_pos rfl])
  | false =>
    rw [if_neg (by simp)]
    have hcv : cv b m S = nm b m S ((m + 1) / 2) 0 1 := by unfold cv; rw [hx, if_neg (by simp)]
    show Ev (fun k => SR.fin k D b c F (xs b m S) (nm b m S ((m + 1) / 2) 0 1)) _
    rw [← hcv]
    unfold SR.fin
    by_cases h0 : cv b m S = 0
    · refine Ev.pos h0 (Ev.val ?_)
      unfold stp
      rw [if_neg (fun h => h.2 h0)]
    · refine Ev.neg h0 (Ev.bind (summed_ev (by omega) (by rw [xs_len]; omega)) ?_)
      have hsl := sum_len (xs b m S) b
      rw [xs_len] at hsl
      refine Ev.bind (equalL_ev (sumOf (xs b m S) b) D (by omega)) ?_
      have hp := sum_pass hb hm hD hl hx
      by_cases hq : pass b m D S e = true
      · refine Ev.pos (decide_eq_true (hp.mpr hq)) ?_
        have es : stp b m D (c, F) (S, e) = (wrap64 (c + cv b m S), best F (xs b m S)) := by unfold stp; rw [if_pos ⟨hq, h0⟩]
        rw [es]
        unfold best
        by_cases hF : F = []
        · exact Ev.pos hF (Ev.val (by rw [if_pos hF]))
        · refine Ev.neg hF ?_
          obtain ⟨q, h1, h2⟩ := compL_ev (xs b m S) F (by rw [xs_len]; omega)
          refine Ev.bind h1 ?_
          by_cases hq0 : q < 0
          · exact Ev.pos hq0 (Ev.val (by rw [if_neg hF, if_pos (h2.mp hq0)]))
          · exact Ev.neg hq0 (Ev.val (by rw [if_neg hF, if_neg (fun h => hq0 (h2.mpr h))]))
      · refine Ev.neg (by simp only [decide_eq_true_eq]; exact fun h => hq (hp.mp h)) (Ev.val ?_)
        unfold stp
        rw [if_neg (fun h => hq h.1)]

theorem Ev.more {α : Type} {g : Nat → Option α} {v : α} (h : Ev g v) (r : Nat) : Ev (fun k => g (k + r)) v := by
  obtain ⟨K, hK⟩ := h
  exact ⟨K, fun k hk => hK (k + r) (by omega)⟩
/-- a part of a leaf: the pairs so far -/
structure Pre (b : Int) (D S : List Int) (i : Nat) (cy : Int) : Prop where
  len : S.length = i
  rg : ∀ j : Nat, j < i → 0 ≤ rd S (j : Int) ∧ rd S (j : Int) ≤ 2 * b - 2
  dig : tst b (fun j => rd S (j : Int)) (dg D) i 0 0 = some cy
  cy01 : cy = 0 ∨ cy = 1
theorem rd_app (S : List Int) (s : Int) (j : Nat) (hj : j < S.length) : rd (S ++ [s]) (j : Int) = rd S (j : Int) := by simp [rd, List.getElem?_append_left hj]
theorem rd_app' (S : List Int) (s : Int) (j : Nat) (hj : j = S.length) : rd (S ++ [s]) (j : Int) = s := by subst hj; simp [rd]
theorem Pre.snoc {b : Int} {D S : List Int} {i : Nat} {cy : Int} (h : Pre b D S i cy) {s q : Int} (hd : 0 ≤ dg D i ∧ dg D i < b) (hs : s = dg D i + b * q - cy) (hq : q = 0 ∨ q = 1) (hr : 0 ≤ s ∧ s ≤ 2 * b - 2) : Pre b D (S ++ [s]) (i + 1) q ∧ (s + cy) / b = q := by
  have e : s + cy = dg D i + b * q := by omega
  have e1 : (s + cy) / b = q := by
    rw [e, Int.add_mul_ediv_left _ _ (by omega), Int.ediv_eq_zero_of_lt hd.1 hd.2]; omega
  have e2 : (s + cy) % b = dg D i := by
    rw [e, Int.add_mul_emod_self_left, Int.emod_eq_of_lt hd.1 hd.2]
  refine ⟨⟨by rw [List.length_append, h.len]; rfl, fun j hj => ?_, ?_, hq⟩, e1⟩
  · by_cases g : j < i
    · rw [rd_app _ _ _ (by rw [h.len]; exact g)]; exact h.rg j g
    · rw [rd_app' _ _ _ (by rw [h.len]; omega)]; exact hr
  · rw [tst_add b _ (dg D) i 1 0 0, tst_same b (fun j => rd (S ++ [s]) (j : Int)) (fun j => rd S (j : Int)) (dg D) i 0 0 (fun j _ hj => rd_app _ _ _ (by rw [h.len]; omega)), h.dig]
    simp only [Option.bind_some, tst, Nat.zero_add]
    rw [rd_app' _ _ _ h.len.symm, if_pos e2, e1]
theorem lp_go {b : Int} {m : Nat} {D S S1 S2 : List Int} {i r : Nat} {cy s c1 c2 : Int} {F1 F2 : List Int} {R : List Int × Int × List Int} (hb : 2 ≤ b ∧ b ≤ 16) (hi : i ≤ 12) (hcy : cy = 0 ∨ cy = 1) (hs : 0 ≤ s ∧ s ≤ 2 * b - 2) (hS : S1.take i = S) (hl : i ≤ S1.length ∧ S1.length ≤ 12)
    (h1 : Ev (fun k => impl_source_on.f D b (m : Int) k ((i + 1 : Nat) : Int) ((s + cy) / b) (S ++ [s]) c1 F1) (S2, c2, F2)) (h2 : Ev (fun k => SQ.lp b (i : Int) cy (impl_source_on.f D b (m : Int) (k + (r + 1))) k (s + b) S2 c2 F2) R) :
    Ev (fun k => SQ.lp b (i : Int) cy (impl_source_on.f D b (m : Int) (k + r)) k s S1 c1 F1) R := by
  refine Ev.step (fun k => by rw [SQ.lp]) ?_
  rw [w64 (x := b - 1) (by omega) (by omega), w64 (x := 2 * (b - 1)) (by omega) (by omega), w64 (x := (i : Int) + 1) (by omega) (by omega), w64 (x := s + cy) (by omega) (by omega), w64 (x := s + b) (by omega) (by omega)]
  have hq := carry_01 hb.1 hs (c := cy) (by omega)
  rw [Int.tdiv_eq_ediv_of_nonneg (by omega), w64 (x := (s + cy) / b) (by omega) (by omega), show ((i : Int)).toNat = i by omega, hS]
  refine Ev.pos (by omega) (Ev.pos (by omega) ?_)
  have h1' := Ev.more h1 (r + 1)
  have e : ∀ k, k + 1 + r = k + (r + 1) := fun k => by omega
  simp only [e]
  rw [show ((i + 1 : Nat) : Int) = (i : Int) + 1 by omega] at h1'
  exact Ev.bind h1' h2
theorem lp_end {b cy i s c1 : Int} {S1 F1 : List Int} {f : Nat → Int → Int → List Int → Int → List Int → Option (List Int × Int × List Int)} (hb : 2 ≤ b ∧ b ≤ 16) (hs : s > 2 * b - 2) : Ev (fun k => SQ.lp b i cy (f k) k s S1 c1 F1) (S1, c1, F1) := by
  refine Ev.step (fun k => by rw [SQ.lp]) ?_
  rw [w64 (x := b - 1) (by omega) (by omega), w64 (x := 2 * (b - 1)) (by omega) (by omega)]
  exact Ev.neg (by omega) (Ev.now _)
theorem take_snoc {S2 S : List Int} {s : Int} {i : Nat} (hl : S.length = i) (h : S2.take (i + 1) = S ++ [s]) : S2.take i = S := by
  have h1 : S2.take i = (S2.take (i + 1)).take i := by rw [List.take_take, Nat.min_eq_left (by omega)]
  rw [h1, h, List.take_append_of_le_length (by omega)]
  exact List.take_of_length_le (by omega)
theorem on_ev {b : Int} {m : Nat} {D : List Int} (hb : 2 ≤ b ∧ b ≤ 16) (hm : 1 ≤ m ∧ m ≤ 12) (hD : D.length = m ∨ D.length = m + 1) (hd : ∀ j : Nat, j < D.length → 0 ≤ dg D j ∧ dg D j < b) : ∀ (n i : Nat) (cy : Int) (S : List Int) (c : Int) (F : List Int), i + n = (m + 1) / 2 → Pre b D S i cy →
    ∃ S', S'.take i = S ∧ i ≤ S'.length ∧ S'.length ≤ 12 ∧ Ev (fun k => impl_source_on.f D b (m : Int) k (i : Int) cy S c F) (S', (List.foldl (stp b m D) (c, F) (en b (dg D) n i cy S)).1, (List.foldl (stp b m D) (c, F) (en b (dg D) n i cy S)).2)
  | 0, i, cy, S, c, F, hi, hp => by
    refine ⟨S, by rw [List.take_of_length_le (by have := hp.len; omega)], by have := hp.len; omega, by have := hp.len; omega, ?_⟩
    refine Ev.step (fun k => by rw [impl_source_on.f]) ?_
    rw [w64 (x := (m : Int) + 1) (by omega) (by omega), Int.tdiv_eq_ediv_of_nonneg (by omega), w64 (by omega) (by omega)]
    have hi2 : i = (m + 1) / 2 := by omega
    refine Ev.pos (by omega) ?_
    have h := check_ev hb hm hD (S := S) (e := cy) ⟨by rw [hp.len]; exact hi2, by rw [← hi2]; exact hp.rg, by rw [← hi2]; exact hp.dig⟩ c F
    exact Ev.bind h (Ev.now _)
  | n + 1, i, cy, S, c, F, hi, hp => by
    have hdi := hd i (by omega)
    have hcy := hp.cy01
    have hL : D.length ≤ 13 := by omega
    have key : ∀ (s q : Int) (S1 : List Int) (c1 : Int) (F1 : List Int) (r : Nat), S1.take i = S → i ≤ S1.length → S1.length ≤ 12 → s = dg D i + b * q - cy → (q = 0 ∨ q = 1) → 0 ≤ s ∧ s ≤ 2 * b - 2 → ∃ S2, S2.take i = S ∧ i ≤ S2.length ∧ S2.length ≤ 12 ∧ ∀ R, Ev (fun k => SQ.lp b (i : Int) cy (impl_source_on.f D b (m : Int) (k + (r + 1))) k (s + b) S2 (List.foldl (stp b m D) (c1, F1) (en b (dg D) n (i + 1) q (S ++ [s]))).1 (List.foldl (stp b m D) (c1, F1) (en b (dg D) n (i + 1) q (S ++ [s]))).2) R → Ev (fun k => SQ.lp b (i : Int) cy (impl_source_on.f D b (m : Int) (k + r)) k s S1 c1 F1) R := by
      intro s q S1 c1 F1 r h1 h2 h3 h4 h5 h6
      obtain ⟨hp', hq⟩ := hp.snoc hdi h4 h5 h6
      obtain ⟨S2, g1, g2, g3, g4⟩ := on_ev hb hm hD hd n (i + 1) q (S ++ [s]) c1 F1 (by omega) hp'
      refine ⟨S2, take_snoc hp.len g1, by omega, g3, fun R hR => ?_⟩
      exact lp_go hb (by omega) hcy h6 h1 ⟨h2, h3⟩ (by rw [hq]; exact g4) hR
    have hS0 : S.take i = S := List.take_of_length_le (by have := hp.len; omega)
    have hlen := hp.len
    have start : ∀ R, Ev (fun k => SQ.lp b (i : Int) cy (impl_source_on.f D b (m : Int) (k + 0)) k ((dg D i - cy + b) % b) S c F) R → Ev (fun k => impl_source_on.f D b (m : Int) k (i : Int) cy S c F) R := by
      intro R hR
      refine Ev.step (fun k => by rw [impl_source_on.f]) ?_
      rw [w64 (x := (m : Int) + 1) (by omega) (by omega), Int.tdiv_eq_ediv_of_nonneg (by omega), w64 (x := ((m : Int) + 1) / 2) (by omega) (by omega), w64 (x := (D.length : Int) - 1) (by omega) (by omega), w64 (x := (D.length : Int) - 1 - (i : Int)) (by omega) (by omega)]
      refine Ev.neg (by omega) (Ev.pos (by omega) ?_)
      have e : rd D ((D.length : Int) - 1 - (i : Int)) = dg D i := rfl
      rw [e, w64 (x := dg D i - cy) (by omega) (by omega), w64 (by omega) (by omega), Int.tmod_eq_emod_of_nonneg (by omega)]
      exact hR
    have een : en b (dg D) (n + 1) i cy S = (if 0 ≤ dg D i - cy then en b (dg D) n (i + 1) 0 (S ++ [dg D i - cy]) else []) ++ (if dg D i + b - cy ≤ 2 * b - 2 then en b (dg D) n (i + 1) 1 (S ++ [dg D i + b - cy]) else []) := rfl
    rw [een]
    by_cases h0 : 0 ≤ dg D i - cy
    · rw [if_pos h0, List.foldl_append]
      have ew : (dg D i - cy + b) % b = dg D i - cy := by rw [Int.add_emod_right, Int.emod_eq_of_lt h0 (by omega)]
      rw [ew] at start
      obtain ⟨S2, g1, g2, g3, g4⟩ := key (dg D i - cy) 0 S c F 0 hS0 (by omega) (by omega) (by omega) (.inl rfl) (by omega)
      generalize hz : List.foldl (stp b m D) (c, F) (en b (dg D) n (i + 1) 0 (S ++ [dg D i - cy])) = z at g4 ⊢
      by_cases h1 : dg D i + b - cy ≤ 2 * b - 2
      · rw [if_pos h1]
        rw [show dg D i - cy + b = dg D i + b - cy by omega] at g4
        obtain ⟨S3, f1, f2, f3, f4⟩ := key (dg D i + b - cy) 1 S2 z.1 z.2 1 g1 g2 g3 (by omega) (.inr rfl) (by omega)
        exact ⟨S3, f1, f2, f3, start _ (g4 _ (f4 _ (lp_end (f := fun k => impl_source_on.f D b (m : Int) (k + (1 + 1))) hb (by omega))))⟩
      · rw [if_neg h1, List.foldl_nil]
        exact ⟨S2, g1, g2, g3, start _ (g4 _ (lp_end (f := fun k => impl_source_on.f D b (m : Int) (k + (0 + 1))) hb (by omega)))⟩
    · rw [if_neg h0, List.nil_append]
      have ew : (dg D i - cy + b) % b = dg D i + b - cy := by rw [Int.emod_eq_of_lt (by omega) (by omega)]; omega
      rw [ew] at start
      rw [if_pos (by omega)]
      obtain ⟨S2, g1, g2, g3, g4⟩ := key (dg D i + b - cy) 1 S c F 0 hS0 (by omega) (by omega) (by omega) (.inr rfl) (by omega)
      exact ⟨S2, g1, g2, g3, start _ (g4 _ (lp_end (f := fun k => impl_source_on.f D b (m : Int) (k + (0 + 1))) hb (by omega)))⟩
theorem dg_rg {b : Int} {D : List Int} (h : ∀ x ∈ D, 0 ≤ x ∧ x < b) (j : Nat) (hj : j < D.length) : 0 ≤ dg D j ∧ dg D j < b := by
  unfold dg rd
  rw [List.getD_eq_getElem?_getD, List.getElem?_eq_getElem (by omega)]
  exact h _ (List.getElem_mem _)
/-- what the program finds with so many digits -/
def found (b : Int) (m : Nat) (D : List Int) : Int × List Int := List.foldl (stp b m D) (0, []) (en b (dg D) ((m + 1) / 2) 0 0 [])
theorem sources_ev {b : Int} {m : Nat} {D : List Int} (hb : 2 ≤ b ∧ b ≤ 16) (hm : 1 ≤ m ∧ m ≤ 12) (hD : D.length = m ∨ D.length = m + 1) (hd : ∀ x ∈ D, 0 ≤ x ∧ x < b) : Ev (fun k => impl_sourcesOf.f k D b (m : Int)) (found b m D) := by
  unfold impl_sourcesOf.f
  refine Ev.pos (by omega) ?_
  obtain ⟨S', _, _, _, h⟩ := on_ev hb hm hD (fun j hj => dg_rg hd j hj) ((m + 1) / 2) 0 0 [] 0 [] (by omega) ⟨rfl, fun j hj => by omega, rfl, .inl rfl⟩
  exact Ev.bind h (Ev.now _)
theorem sources_0 (b : Int) (D : List Int) : Ev (fun k => impl_sourcesOf.f k D b 0) (0, []) := by
  unfold impl_sourcesOf.f
  exact Ev.neg (by omega) (Ev.now _)

theorem l1Least_eq (a c : Int) : spec_l1Least.f a c = some (if a < c then a else c) := by unfold spec_l1Least.f; split <;> rfl
theorem shr_eq (n j : Nat) (hj : j ≤ 12) : shr .i64 (n : Int) (j : Int) = ((n / 2 ^ j : Nat) : Int) := by
  unfold shr
  rw [Nat.min_eq_left (by show (j : Int).toNat ≤ 64; omega), Int.toNat_natCast]
  simp
def full (m : Nat) (S : List Int) : List Int := (List.range m).map (tr m S)
theorem full_of {m : Nat} {S A : List Int} (hA : A.length = m) (h : ∀ j : Nat, j < m → rd A (j : Int) = tr m S j) : A = full m S := by
  apply List.ext_getElem
  · simp [full, hA]
  · intro i h1 h2
    have := h i (by omega)
    simp only [full, List.getElem_map, List.getElem_range]
    rw [← this]
    simp [rd, h1]
/-- what one way of the bits gives -/
def told (b : Int) (m : Nat) (D : List Int) : Option (List Int × Int) → List (List Int)
  | none => []
  | some (S, e) => if tst b (tr m S) (dg D) (m - (m + 1) / 2) ((m + 1) / 2) e = some ((D.length : Int) - (m : Int)) then [full m S] else []
section
variable {b : Int} {m : Nat} {D : List Int} {p : Int} {out : List (List Int)} {n : Nat} {Res : List (List Int) × Bool}
theorem ways_fail (hn : n ≤ 1000) (A : List Int) (c i over : Int) (h : Ev (fun k => spec_rvWays.l0 k D (m : Int) b over p out ((n + 1 : Nat) : Int)) Res) : Ev (fun k => spec_rvWays.l1 k D (m : Int) b over p out (n : Int) A c false i) Res := by
  have h3 : Ev (fun k => spec_rvWays.j3 k D (m : Int) b over p out (n : Int) A c false i false) Res := by
    refine Ev.step (fun k => by rw [spec_rvWays.j3]) ?_
    refine Ev.neg (by simp) (Ev.neg (by simp) ?_)
    rw [w64 (by omega) (by omega)]
    rw [show ((n + 1 : Nat) : Int) = (n : Int) + 1 by omega] at h
    exact h
  refine Ev.step (fun k => by rw [spec_rvWays.l1]) ?_
  by_cases hi : i ≥ 0
  · exact Ev.pos hi h3
  · exact Ev.neg hi h3
theorem ways_left (hb : 2 ≤ b ∧ b ≤ 16) (hm : 1 ≤ m ∧ m ≤ 12) (hD : D.length = m ∨ D.length = m + 1) (hn : n ≤ 1000) (ho : out.length ≤ 1000) (hp : p = (((m + 1) / 2 : Nat) : Int)) {S A : List Int} (hA : A.length = m) (hT : ∀ j : Nat, j < m → rd A (j : Int) = tr m S j) (hr : ∀ j : Nat, j < m → 0 ≤ tr m S j ∧ tr m S j ≤ 2 * b - 2) : ∀ (r j : Nat) (c : Int), j + r = m → (m + 1) / 2 ≤ j → 0 ≤ c ∧ c ≤ 1 →
    Ev (fun k => spec_rvWays.l0 k D (m : Int) b ((D.length : Int) - (m : Int)) p (out ++ (if tst b (tr m S) (dg D) r j c = some ((D.length : Int) - (m : Int)) then [full m S] else [])) ((n + 1 : Nat) : Int)) Res → Ev (fun k => spec_rvWays.l1 k D (m : Int) b ((D.length : Int) - (m : Int)) p out (n : Int) A c true ((m : Int) - 1 - (j : Int))) Res
  | 0, j, c, hj, hpj, hc, h => by
    refine Ev.step (fun k => by rw [spec_rvWays.l1]) ?_
    refine Ev.neg (by omega) ?_
    refine Ev.step (fun k => by rw [spec_rvWays.j3]) ?_
    refine Ev.neg (by simp) (Ev.pos rfl ?_)
    rw [w64 (x := (n : Int) + 1) (by omega) (by omega)]
    rw [show ((n + 1 : Nat) : Int) = (n : Int) + 1 by omega] at h
    simp only [tst, Option.some.injEq] at h
    by_cases hco : c = (D.length : Int) - (m : Int)
    · rw [if_pos hco, ← full_of hA hT] at h
      exact Ev.pos hco (Ev.pos (by omega) h)
    · rw [if_neg hco, List.append_nil] at h
      exact Ev.neg hco h
  | r + 1, j, c, hj, hpj, hc, h => by
    have hi : ((m : Int) - 1 - (j : Int)) = ((m - 1 - j : Nat) : Int) := by omega
    have hrj := hr j (by omega)
    have hcc := carry_01 hb.1 hrj hc
    have etr : tr m S (m - 1 - j) = tr m S j := by unfold tr; rw [show min (m - 1 - j) (m - 1 - (m - 1 - j)) = min j (m - 1 - j) by omega]
    have eA : rd A ((m : Int) - 1 - (j : Int)) = tr m S j := by rw [hi, hT _ (by omega), etr]
    refine Ev.step (fun k => by rw [spec_rvWays.l1]) ?_
    refine Ev.pos (by omega) ?_
    refine Ev.step (fun k => by rw [spec_rvWays.j3]) ?_
    refine Ev.pos rfl (Ev.pure (l1Least_eq _ _) ?_)
    rw [w64 (x := (m : Int) - 1) (by omega) (by omega), w64 (x := (m : Int) - 1 - ((m : Int) - 1 - (j : Int))) (by omega) (by omega), w64 (x := (m : Int) - p) (by omega) (by omega), w64 (x := (D.length : Int) - (m : Int) + ((m : Int) - 1 - (j : Int))) (by omega) (by omega), w64 (x := (m : Int) - 1 - (j : Int) - 1) (by omega) (by omega)]
    rw [if_pos (show (m : Int) - 1 - (j : Int) < (m : Int) - 1 - ((m : Int) - 1 - (j : Int)) by omega), eA, w64 (x := tr m S j + c) (by omega) (by omega), Int.tdiv_eq_ediv_of_nonneg (by omega), w64 (x := (tr m S j + c) / b) (by omega) (by omega), show Int.tmod (tr m S j + c) b = (tr m S j + c) % b from Int.tmod_eq_emod_of_nonneg (by omega)]
    refine Ev.neg (by omega) (Ev.pos (by omega) (Ev.pos (by omega) (Ev.neg (by omega) (Ev.pos (by omega) (Ev.pos (by omega) ?_)))))
    have ed : rd D ((D.length : Int) - (m : Int) + ((m : Int) - 1 - (j : Int))) = dg D j := by unfold dg; rw [show (D.length : Int) - (m : Int) + ((m : Int) - 1 - (j : Int)) = (D.length : Int) - 1 - (j : Int) by omega]
    rw [ed, show (m : Int) - 1 - (j : Int) - 1 = (m : Int) - 1 - ((j + 1 : Nat) : Int) by omega]
    unfold tst at h
    by_cases g : (tr m S j + c) % b = dg D j
    · rw [if_pos g] at h
      rw [show ((tr m S j + c) % b == dg D j) = true by simp [g]]
      exact ways_left hb hm hD hn ho hp hA hT hr r (j + 1) _ (by omega) (by omega) hcc h
    · rw [if_neg g, if_neg (by simp), List.append_nil] at h
      rw [show ((tr m S j + c) % b == dg D j) = false by simp [g]]
      exact ways_fail hn _ _ _ _ h
theorem ways_right (hb : 2 ≤ b ∧ b ≤ 16) (hm : 1 ≤ m ∧ m ≤ 12) (hD : D.length = m ∨ D.length = m + 1) (hd : ∀ j : Nat, j < D.length → 0 ≤ dg D j ∧ dg D j < b) (hn : n ≤ 1000) (ho : out.length ≤ 1000) (hp : p = (((m + 1) / 2 : Nat) : Int)) : ∀ (q j : Nat) (c : Int) (S A : List Int), j + q = (m + 1) / 2 → Pre b D S j c → A.length = m → (∀ i : Nat, i < j → rd A (i : Int) = rd S (i : Int) ∧ rd A ((m - 1 - i : Nat) : Int) = rd S (i : Int)) →
    Ev (fun k => spec_rvWays.l0 k D (m : Int) b ((D.length : Int) - (m : Int)) p (out ++ told b m D (path b (dg D) q j c S (n / 2 ^ j))) ((n + 1 : Nat) : Int)) Res → Ev (fun k => spec_rvWays.l1 k D (m : Int) b ((D.length : Int) - (m : Int)) p out (n : Int) A c true ((m : Int) - 1 - (j : Int))) Res
  | 0, j, c, S, A, hj, hpre, hA, hrd, h => by
    have hj2 : j = (m + 1) / 2 := by omega
    have hT : ∀ i : Nat, i < m → rd A (i : Int) = tr m S i := fun i hi => by
      unfold tr
      by_cases g : i < j
      · rw [Nat.min_eq_left (by omega)]; exact (hrd i g).1
      · have := (hrd (m - 1 - i) (by omega)).2
        rw [show m - 1 - (m - 1 - i) = i by omega] at this
        rw [Nat.min_eq_right (by omega)]; exact this
    have hr : ∀ i : Nat, i < m → 0 ≤ tr m S i ∧ tr m S i ≤ 2 * b - 2 := fun i hi => hpre.rg (min i (m - 1 - i)) (by omega)
    have hc := hpre.cy01
    simp only [path, told] at h
    rw [← hj2] at h
    exact ways_left hb hm hD hn ho hp hA hT hr (m - j) j c (by omega) (by omega) (by omega) h
  | q + 1, j, c, S, A, hj, hpre, hA, hrd, h => by
    have hi : ((m : Int) - 1 - (j : Int)) = ((m - 1 - j : Nat) : Int) := by omega
    have hdj := hd j (by omega)
    have hc := hpre.cy01
    obtain ⟨x, hx⟩ : ∃ x : Nat, x = n / 2 ^ j := ⟨_, rfl⟩
    have hx2 : n / 2 ^ (j + 1) = x / 2 := by rw [hx, Nat.pow_succ, Nat.div_div_eq_div_mul]
    rw [← hx] at h
    obtain ⟨q1, hq1⟩ : ∃ y : Int, y = ((x % 2 : Nat) : Int) := ⟨_, rfl⟩
    have hq01 : q1 = 0 ∨ q1 = 1 := by omega
    have ebit : Int.tmod (shr .i64 (n : Int) (j : Int)) 2 = q1 := by
      rw [shr_eq n j (by omega), ← hx, Int.tmod_eq_emod_of_nonneg (by omega), hq1]; omega
    have hbq : b * q1 = 0 ∨ b * q1 = b := by rcases hq01 with e | e <;> rw [e] <;> simp
    obtain ⟨s, hs⟩ : ∃ s : Int, s = dg D j + b * q1 - c := ⟨_, rfl⟩
    have ed : rd D ((D.length : Int) - (m : Int) + ((m : Int) - 1 - (j : Int))) = dg D j := by unfold dg; rw [show (D.length : Int) - (m : Int) + ((m : Int) - 1 - (j : Int)) = (D.length : Int) - 1 - (j : Int) by omega]
    have e1 : rd (A.set (m - 1 - j) s) ((m - 1 - j : Nat) : Int) = s := by rw [rd_set _ _ _ _ (by omega), if_pos rfl]
    refine Ev.step (fun k => by rw [spec_rvWays.l1]) ?_
    refine Ev.pos (by omega) ?_
    refine Ev.step (fun k => by rw [spec_rvWays.j3]) ?_
    refine Ev.pos rfl (Ev.pure (l1Least_eq _ _) ?_)
    rw [w64 (x := (m : Int) - 1) (by omega) (by omega), w64 (x := (m : Int) - 1 - ((m : Int) - 1 - (j : Int))) (by omega) (by omega), w64 (x := (m : Int) - p) (by omega) (by omega), w64 (x := (D.length : Int) - (m : Int) + ((m : Int) - 1 - (j : Int))) (by omega) (by omega), w64 (x := (m : Int) - 1 - (j : Int) - 1) (by omega) (by omega)]
    rw [if_neg (show ¬ (m : Int) - 1 - (j : Int) < (m : Int) - 1 - ((m : Int) - 1 - (j : Int)) by omega), show (m : Int) - 1 - ((m : Int) - 1 - (j : Int)) = (j : Int) by omega, ebit, ed, w64 (x := b * q1) (by omega) (by omega), w64 (x := dg D j + b * q1) (by omega) (by omega), w64 (x := dg D j + b * q1 - c) (by omega) (by omega), ← hs, hi, Int.toNat_natCast, Int.toNat_natCast]
    refine Ev.pos (by omega) (Ev.pos (by omega) (Ev.pos (by omega) (Ev.pos (by omega) (Ev.pos (by omega) (Ev.pos (by omega) (Ev.pure rfl ?_))))))
    rw [e1, w64 (x := 2 * b) (by omega) (by omega), w64 (x := 2 * b - 2) (by omega) (by omega)]
    refine Ev.pure (spec_l1In_eq _ _ _) ?_
    have hpath : path b (dg D) (q + 1) j c S x = if 0 ≤ s ∧ s ≤ 2 * b - 2 then path b (dg D) q (j + 1) q1 (S ++ [s]) (x / 2) else none := by
      rw [path]
      by_cases g : x % 2 = 0
      · have : q1 = 0 := by omega
        subst this
        rw [if_pos g]
        have es : s = dg D j - c := by omega
        by_cases g2 : 0 ≤ dg D j - c
        · rw [if_pos g2, if_pos (by omega), es]
        · rw [if_neg g2, if_neg (by omega)]
      · have : q1 = 1 := by omega
        subst this
        rw [if_neg g]
        have es : s = dg D j + b - c := by omega
        by_cases g2 : dg D j + b - c ≤ 2 * b - 2
        · rw [if_pos g2, if_pos (by omega), es]
        · rw [if_neg g2, if_neg (by omega)]
    rw [hpath] at h
    by_cases g : 0 ≤ s ∧ s ≤ 2 * b - 2
    · rw [if_pos g, ← hx2] at h
      obtain ⟨hpre', hq⟩ := hpre.snoc hdj hs hq01 g
      refine Ev.pos (decide_eq_true g) (Ev.neg (by omega) (Ev.pos (by omega) (Ev.pos (by omega) ?_)))
      rw [w64 (x := s + c) (by omega) (by omega), Int.tdiv_eq_ediv_of_nonneg (by omega), hq, w64 (x := q1) (by omega) (by omega), show (q1 == q1) = true by simp, ← hi, show (m : Int) - 1 - (j : Int) - 1 = (m : Int) - 1 - ((j + 1 : Nat) : Int) by omega]
      refine ways_right hb hm hD hd hn ho hp q (j + 1) q1 (S ++ [s]) _ (by omega) hpre' (by rw [List.length_set, List.length_set]; exact hA) (fun i hi' => ?_) h
      have hSl := hpre.len
      rw [rd_set _ _ _ _ (by rw [List.length_set]; omega), rd_set _ _ _ _ (by omega), rd_set _ _ _ _ (by rw [List.length_set]; omega), rd_set _ _ _ _ (by omega)]
      by_cases gi : i = j
      · subst gi
        rw [rd_app' _ _ _ hSl.symm, if_pos rfl, if_pos rfl]
        refine ⟨rfl, ?_⟩
        split <;> rfl
      · have h2 := hrd i (by omega)
        rw [rd_app _ _ _ (by omega), if_neg (by omega), if_neg (by omega), if_neg (by omega), if_neg (by omega)]
        exact h2
    · rw [if_neg g] at h
      simp only [told, List.append_nil] at h
      refine Ev.neg (by simp only [decide_eq_true_eq]; exact g) (Ev.pos (by omega) (Ev.pos (by omega) ?_))
      exact ways_fail hn _ _ _ _ h
end

theorem shl_one (p : Nat) (hp : p ≤ 6) : shl .i64 1 (p : Int) = ((2 ^ p : Nat) : Int) := by
  have h : p = 0 ∨ p = 1 ∨ p = 2 ∨ p = 3 ∨ p = 4 ∨ p = 5 ∨ p = 6 := by omega
  rcases h with e | e | e | e | e | e | e <;> rw [e] <;> decide
theorem pow_le (p : Nat) (hp : p ≤ 6) : 2 ^ p ≤ 64 := by
  have h : p = 0 ∨ p = 1 ∨ p = 2 ∨ p = 3 ∨ p = 4 ∨ p = 5 ∨ p = 6 := by omega
  rcases h with e | e | e | e | e | e | e <;> rw [e] <;> decide
theorem told_len (b : Int) (m : Nat) (D : List Int) (o : Option (List Int × Int)) : (told b m D o).length ≤ 1 := by
  unfold told
  split
  · simp
  · split <;> simp
theorem ways_l0 {b : Int} {m : Nat} {D : List Int} (hb : 2 ≤ b ∧ b ≤ 16) (hm : 1 ≤ m ∧ m ≤ 12) (hD : D.length = m ∨ D.length = m + 1) (hd : ∀ j : Nat, j < D.length → 0 ≤ dg D j ∧ dg D j < b) : ∀ (r n : Nat) (out : List (List Int)), n + r = 2 ^ ((m + 1) / 2) → out.length ≤ n →
    Ev (fun k => spec_rvWays.l0 k D (m : Int) b ((D.length : Int) - (m : Int)) (((m + 1) / 2 : Nat) : Int) out (n : Int)) (out ++ (List.range' n r).flatMap (fun x => told b m D (path b (dg D) ((m + 1) / 2) 0 0 [] x)), true)
  | 0, n, out, hn, ho => by
    refine Ev.step (fun k => by rw [spec_rvWays.l0]) ?_
    rw [shl_one _ (by omega)]
    exact Ev.pos (by omega) (Ev.neg (by omega) (Ev.val (by simp)))
  | r + 1, n, out, hn, ho => by
    have hp := pow_le ((m + 1) / 2) (by omega)
    refine Ev.step (fun k => by rw [spec_rvWays.l0]) ?_
    rw [shl_one _ (by omega), w64 (x := (m : Int) - 1) (by omega) (by omega), Int.toNat_natCast]
    refine Ev.pos (by omega) (Ev.pos (by omega) (Ev.pos (by omega) (Ev.pos (by omega) ?_)))
    have hl := told_len b m D (path b (dg D) ((m + 1) / 2) 0 0 [] n)
    have ih := ways_l0 hb hm hD hd r (n + 1) (out ++ told b m D (path b (dg D) ((m + 1) / 2) 0 0 [] n)) (by omega) (by rw [List.length_append]; omega)
    rw [List.range'_succ, List.flatMap_cons, ← List.append_assoc]
    have h := ways_right (Res := _) (out := out) hb hm hD hd (n := n) (by omega) (by omega) rfl ((m + 1) / 2) 0 0 [] (List.replicate m 0) (by omega) ⟨rfl, fun j hj => by omega, rfl, .inl rfl⟩ (by simp) (fun i hi => by omega) (by rw [Nat.pow_zero, Nat.div_one]; exact ih)
    rw [show (m : Int) - 1 - ((0 : Nat) : Int) = (m : Int) - 1 by omega] at h
    exact h
/-- the leaves, as the bits choose them -/
def lv (b : Int) (m : Nat) (D : List Int) : List (List Int × Int) := (List.range (2 ^ ((m + 1) / 2))).filterMap (path b (dg D) ((m + 1) / 2) 0 0 [])
def lists (b : Int) (m : Nat) (D : List Int) : List (List Int) := if (D.length : Int) - (m : Int) = 1 ∧ rd D 0 ≠ 1 then [] else (lv b m D).flatMap (fun l => told b m D (some l))
theorem flat_some (b : Int) (m : Nat) (D : List Int) (f : Nat → Option (List Int × Int)) : ∀ L : List Nat, L.flatMap (fun x => told b m D (f x)) = (L.filterMap f).flatMap (fun l => told b m D (some l))
  | [] => rfl
  | x :: L => by
    rw [List.flatMap_cons, flat_some b m D f L, List.filterMap_cons]
    cases f x with
    | none => rfl
    | some l => rw [List.flatMap_cons]
theorem ways_ev {b : Int} {m : Nat} {D : List Int} (hb : 2 ≤ b ∧ b ≤ 16) (hm : 1 ≤ m ∧ m ≤ 12) (hD : D.length = m ∨ D.length = m + 1) (hd : ∀ x ∈ D, 0 ≤ x ∧ x < b) : ∃ ok, Ev (fun k => spec_rvWays.f k D (m : Int) b) (lists b m D, ok) := by
  unfold spec_rvWays.f
  rw [w64 (x := (D.length : Int) - (m : Int)) (by omega) (by omega)]
  have h0 := ways_l0 hb hm hD (fun j hj => dg_rg hd j hj) (2 ^ ((m + 1) / 2)) 0 [] (by omega) (by simp)
  rw [List.nil_append, flat_some, ← List.range_eq_range'] at h0
  have hj : ∀ R, Ev (fun k => spec_rvWays.l0 k D (m : Int) b ((D.length : Int) - (m : Int)) (((m + 1) / 2 : Nat) : Int) [] ((0 : Nat) : Int)) R → Ev (fun k => spec_rvWays.j0 k D (m : Int) b ((D.length : Int) - (m : Int)) false) R := by
    intro R hR
    refine Ev.step (fun k => by rw [spec_rvWays.j0]) ?_
    refine Ev.neg (by simp) ?_
    rw [w64 (x := (m : Int) + 1) (by omega) (by omega), Int.tdiv_eq_ediv_of_nonneg (by omega), w64 (x := ((m : Int) + 1) / 2) (by omega) (by omega)]
    rw [show (((m + 1) / 2 : Nat) : Int) = ((m : Int) + 1) / 2 by omega] at hR
    exact hR
  by_cases h1 : (D.length : Int) - (m : Int) = 1
  · by_cases h2 : rd D 0 = 1
    · refine ⟨true, Ev.pure (spec_l1In_eq _ _ _) (Ev.pos (decide_eq_true (by omega)) (Ev.pos h1 (Ev.pos (by omega) ?_)))⟩
      rw [show (rd D 0 != 1) = false by simp [h2]]
      unfold lists
      rw [if_neg (fun h => h.2 h2)]
      exact hj _ h0
    · refine ⟨false, Ev.pure (spec_l1In_eq _ _ _) (Ev.pos (decide_eq_true (by omega)) (Ev.pos h1 (Ev.pos (by omega) ?_)))⟩
      rw [show (rd D 0 != 1) = true by simp [h2]]
      unfold lists
      rw [if_pos ⟨h1, h2⟩]
      refine Ev.step (fun k => by rw [spec_rvWays.j0]) ?_
      exact Ev.pos rfl (Ev.now _)
  · refine ⟨true, Ev.pure (spec_l1In_eq _ _ _) (Ev.pos (decide_eq_true (by omega)) (Ev.neg h1 ?_))⟩
    unfold lists
    rw [if_neg (fun h => h1 h.1)]
    exact hj _ h0
/-- each one is a leaf -/
theorem path_leaf {b : Int} {D : List Int} (hb : 2 ≤ b ∧ b ≤ 16) (hd : ∀ j : Nat, j < D.length → 0 ≤ dg D j ∧ dg D j < b) : ∀ (n j : Nat) (c : Int) (S : List Int) (x : Nat) (l : List Int × Int), j + n ≤ D.length → Pre b D S j c → path b (dg D) n j c S x = some l → Pre b D l.1 (j + n) l.2
  | 0, j, c, S, x, l, hn, hp, h => by
    simp only [path, Option.some.injEq] at h
    subst h
    exact hp
  | n + 1, j, c, S, x, l, hn, hp, h => by
    rw [path] at h
    have hdj := hd j (by omega)
    have hc := hp.cy01
    by_cases g : x % 2 = 0
    · rw [if_pos g] at h
      by_cases g2 : 0 ≤ dg D j - c
      · rw [if_pos g2] at h
        have h2 := (hp.snoc (s := dg D j - c) (q := 0) hdj (by omega) (.inl rfl) (by omega)).1
        have := path_leaf hb hd n (j + 1) 0 _ _ l (by omega) h2 h
        rw [show j + (n + 1) = j + 1 + n by omega]; exact this
      · rw [if_neg g2] at h; cases h
    · rw [if_neg g] at h
      by_cases g2 : dg D j + b - c ≤ 2 * b - 2
      · rw [if_pos g2] at h
        have h2 := (hp.snoc (s := dg D j + b - c) (q := 1) hdj (by omega) (.inr rfl) (by omega)).1
        have := path_leaf hb hd n (j + 1) 1 _ _ l (by omega) h2 h
        rw [show j + (n + 1) = j + 1 + n by omega]; exact this
      · rw [if_neg g2] at h; cases h
theorem lv_leaf {b : Int} {m : Nat} {D : List Int} (hb : 2 ≤ b ∧ b ≤ 16) (hm : 1 ≤ m ∧ m ≤ 12) (hD : D.length = m ∨ D.length = m + 1) (hd : ∀ x ∈ D, 0 ≤ x ∧ x < b) : ∀ l ∈ lv b m D, Leaf b m D l.1 l.2 := by
  intro l hl
  unfold lv at hl
  rw [List.mem_filterMap] at hl
  obtain ⟨x, _, hx⟩ := hl
  have h := path_leaf hb (fun j hj => dg_rg hd j hj) _ 0 0 [] x l (by omega) ⟨rfl, fun j hj => by omega, rfl, .inl rfl⟩ hx
  rw [Nat.zero_add] at h
  exact ⟨h.len, h.rg, h.dig⟩
theorem stp_comm {b : Int} {m : Nat} {D : List Int} (hm : 1 ≤ m) (x y : List Int × Int) (z : Int × List Int) : stp b m D (stp b m D z x) y = stp b m D (stp b m D z y) x := by
  unfold stp
  have hne : ∀ S, xs b m S ≠ [] := fun S h => by have := xs_len b m S; rw [h] at this; simp at this; omega
  by_cases h1 : pass b m D x.1 x.2 = true ∧ cv b m x.1 ≠ 0 <;> by_cases h2 : pass b m D y.1 y.2 = true ∧ cv b m y.1 ≠ 0
  · simp only [if_pos h1, if_pos h2]
    rw [wrap_comm, best_comm _ _ _ (hne _) (hne _)]
  · simp only [if_pos h1, if_neg h2]
  · simp only [if_neg h1, if_pos h2]
  · simp only [if_neg h1, if_neg h2]
theorem found_lv {b : Int} {m : Nat} {D : List Int} (hm : 1 ≤ m) : found b m D = List.foldl (stp b m D) (0, []) (lv b m D) :=
  (List.Perm.foldl_eq' (en_perm b (dg D) ((m + 1) / 2) 0 0 []) (fun x _ y _ z => stp_comm hm x y z) (0, [])).symm

def pc (b s x : Int) : Int := mx (mn s (b - 1) - mx (s - (b - 1)) x + 1) 0
theorem pair_l0 {b s : Int} (hb : 2 ≤ b ∧ b ≤ 16) (hs : 0 ≤ s ∧ s ≤ 2 * b - 2) : ∀ (r : Nat) (x acc : Int), x + r = b → 0 ≤ x → 0 ≤ acc ∧ acc ≤ x → Ev (fun k => spec_rvPair.l0 k s b acc x) (acc + pc b s x)
  | 0, x, acc, hx, h0, ha => by
    refine Ev.step (fun k => by rw [spec_rvPair.l0]) ?_
    refine Ev.neg (by omega) (Ev.val ?_)
    unfold pc mx mn
    repeat' split
    all_goals omega
  | r + 1, x, acc, hx, h0, ha => by
    refine Ev.step (fun k => by rw [spec_rvPair.l0]) ?_
    refine Ev.pos (by omega) ?_
    rw [w64 (x := s - x) (by omega) (by omega), w64 (x := b - 1) (by omega) (by omega), w64 (x := acc + 1) (by omega) (by omega), w64 (x := x + 1) (by omega) (by omega)]
    refine Ev.pure (spec_l1In_eq _ _ _) ?_
    by_cases g : 0 ≤ s - x ∧ s - x ≤ b - 1
    · refine Ev.pos (decide_eq_true g) ?_
      have ih := pair_l0 hb hs r (x + 1) (acc + 1) (by omega) (by omega) (by omega)
      have e : acc + pc b s x = acc + 1 + pc b s (x + 1) := by
        unfold pc mx mn
        repeat' split
        all_goals omega
      rw [e]; exact ih
    · refine Ev.neg (by simp only [decide_eq_true_eq]; exact g) ?_
      have ih := pair_l0 hb hs r (x + 1) acc (by omega) (by omega) (by omega)
      have e : acc + pc b s x = acc + pc b s (x + 1) := by
        unfold pc mx mn
        repeat' split
        all_goals omega
      rw [e]; exact ih
theorem pair_ev {b s : Int} (hb : 2 ≤ b ∧ b ≤ 16) (hs : 0 ≤ s ∧ s ≤ 2 * b - 2) (x : Int) (hx : x = 0 ∨ x = 1) : Ev (fun k => spec_rvPair.f k s b x) (pc b s x) := by
  unfold spec_rvPair.f
  have := pair_l0 hb hs (b - x).toNat x 0 (by omega) (by omega) (by omega)
  rw [Int.zero_add] at this
  exact this
theorem many_pc {b s : Int} (hb : 2 ≤ b ∧ b ≤ 16) (hs : 0 ≤ s ∧ s ≤ 2 * b - 2) (o : Bool) : SR.many b s (SR.least b s o) = pc b s (if o = true then 1 else 0) := by
  have h := lz_eq (o := o) hb hs
  have hmn : 0 ≤ mn s (b - 1) ∧ mn s (b - 1) ≤ 40 := by unfold mn; split <;> omega
  unfold SR.many
  rw [w64 (x := b - 1) (by omega) (by omega), w64 (x := mn s (b - 1) - SR.least b s o) (by omega) (by omega), w64 (x := mn s (b - 1) - SR.least b s o + 1) (by omega) (by omega), h.1]
  unfold pc
  cases o
  · simp only [Bool.false_eq_true, if_false]
  · simp only [if_true]
theorem full_len (m : Nat) (S : List Int) : (full m S).length = m := by simp [full]
theorem rd_full (m : Nat) (S : List Int) (i : Nat) (hi : i < m) : rd (full m S) (i : Int) = tr m S i := by
  unfold rd full
  rw [Int.toNat_natCast, List.getD_eq_getElem?_getD, List.getElem?_map, List.getElem?_range hi]
  rfl
theorem tr_lo (m : Nat) (S : List Int) (i : Nat) (hi : i < (m + 1) / 2) : tr m S i = rd S (i : Int) := by unfold tr; rw [Nat.min_eq_left (by omega)]
theorem count_l0 {b : Int} {m : Nat} {S : List Int} (hb : 2 ≤ b ∧ b ≤ 16) (hm : 1 ≤ m ∧ m ≤ 12) (hr : ∀ i : Nat, i < (m + 1) / 2 → 0 ≤ rd S (i : Int) ∧ rd S (i : Int) ≤ 2 * b - 2) : ∀ (n i : Nat) (c : Int), i + n = m / 2 → Ev (fun k => spec_rvCount.l0 k (full m S) b (m : Int) c (i : Int)) (if excl m S = true then 0 else nm b m S (n + m % 2) i c)
  | 0, i, c, hi => by
    have hi2 : i = m / 2 := by omega
    have e2 : ((m : Int) / 2) = ((m / 2 : Nat) : Int) := by omega
    refine Ev.step (fun k => by rw [spec_rvCount.l0]) ?_
    rw [w64 (x := (m : Int) / 2) (by omega) (by omega), full_len]
    refine Ev.neg (by omega) ?_
    by_cases hodd : m % 2 = 1
    · have hs := hr (m / 2) (by omega)
      have er : rd (full m S) ((m : Int) / 2) = rd S ((m / 2 : Nat) : Int) := by rw [e2, rd_full _ _ _ (by omega), tr_lo _ _ _ (by omega)]
      rw [er, Int.tmod_eq_emod_of_nonneg hs.1]
      refine Ev.pos (by omega) (Ev.pos (by omega) (Ev.pos (by omega) ?_))
      by_cases h1 : rd S ((m / 2 : Nat) : Int) % 2 = 1
      · refine Ev.pos h1 (Ev.val ?_)
        rw [if_pos]
        unfold excl
        exact decide_eq_true ⟨hodd, .inl h1⟩
      · refine Ev.neg h1 ?_
        have enm : nm b m S (0 + m % 2) i c = c := by
          rw [hodd, Nat.zero_add, nm, if_pos (by omega)]; rfl
        by_cases hm1 : m = 1
        · refine Ev.pos (by omega) (Ev.pos (by omega) ?_)
          have er0 : rd (full m S) 0 = rd S ((m / 2 : Nat) : Int) := by
            have := rd_full m S 0 (by omega)
            rw [tr_lo _ _ _ (by omega)] at this
            rw [show m / 2 = 0 by omega]
            exact this
          rw [er0]
          by_cases h2 : rd S ((m / 2 : Nat) : Int) = 0
          · refine Ev.pos h2 (Ev.val ?_)
            rw [if_pos]
            unfold excl
            exact decide_eq_true ⟨hodd, .inr ⟨hm1, h2⟩⟩
          · refine Ev.neg h2 (Ev.val ?_)
            rw [if_neg, enm]
            unfold excl
            simp only [decide_eq_true_eq]
            exact fun h => h.2.elim h1 (fun h => h2 h.2)
        · refine Ev.neg (by omega) (Ev.val ?_)
          rw [if_neg, enm]
          unfold excl
          simp only [decide_eq_true_eq]
          exact fun h => h.2.elim h1 (fun h => hm1 h.1)
    · refine Ev.neg (by omega) (Ev.val ?_)
      rw [if_neg, show m % 2 = 0 by omega]
      · rfl
      · unfold excl
        simp only [decide_eq_true_eq]
        exact fun h => hodd h.1
  | n + 1, i, c, hi => by
    have hs := hr i (by omega)
    refine Ev.step (fun k => by rw [spec_rvCount.l0]) ?_
    rw [w64 (x := (m : Int) / 2) (by omega) (by omega), full_len, rd_full _ _ _ (by omega), tr_lo _ _ _ (by omega), w64 (x := (i : Int) + 1) (by omega) (by omega)]
    refine Ev.pos (by omega) ?_
    have ih := count_l0 hb hm hr n (i + 1) (wrap64 (c * SR.many b (rd S (i : Int)) (lz b S i))) (by omega)
    have enm : nm b m S (n + 1 + m % 2) i c = nm b m S (n + m % 2) (i + 1) (wrap64 (c * SR.many b (rd S (i : Int)) (lz b S i))) := by
      rw [show n + 1 + m % 2 = (n + m % 2) + 1 by omega, nm, if_neg (by omega)]
    rw [enm]
    have el : SR.many b (rd S (i : Int)) (lz b S i) = pc b (rd S (i : Int)) (if ((i : Int) == 0) = true then 1 else 0) := many_pc hb hs _
    rw [show ((i + 1 : Nat) : Int) = (i : Int) + 1 by omega] at ih
    by_cases h0 : i = 0
    · refine Ev.pos (by omega) (Ev.pos (by omega) (Ev.pos (by omega) (Ev.bind (pair_ev hb hs 1 (.inr rfl)) ?_)))
      rw [if_pos (by simp [h0])] at el
      rw [el] at ih ⊢
      exact ih
    · refine Ev.neg (by omega) (Ev.pos (by omega) (Ev.pos (by omega) (Ev.bind (pair_ev hb hs 0 (.inl rfl)) ?_)))
      rw [if_neg (by simp; omega)] at el
      rw [el] at ih ⊢
      exact ih
theorem count_ev {b : Int} {m : Nat} {S : List Int} (hb : 2 ≤ b ∧ b ≤ 16) (hm : 1 ≤ m ∧ m ≤ 12) (hr : ∀ i : Nat, i < (m + 1) / 2 → 0 ≤ rd S (i : Int) ∧ rd S (i : Int) ≤ 2 * b - 2) : Ev (fun k => spec_rvCount.f k (full m S) b) (cv b m S) := by
  unfold spec_rvCount.f
  rw [full_len]
  have h := count_l0 hb hm hr (m / 2) 0 1 (by omega)
  rw [show m / 2 + m % 2 = (m + 1) / 2 by omega] at h
  exact h
/-- where the front digit fits, a leaf passes exactly where it is among the reference's lists -/
theorem pass_told {b : Int} {m : Nat} {D : List Int} (ho : ¬ ((D.length : Int) - (m : Int) = 1 ∧ rd D 0 ≠ 1)) (l : List Int × Int) : told b m D (some l) = if pass b m D l.1 l.2 = true then [full m l.1] else [] := by
  obtain ⟨S, e⟩ := l
  unfold told pass
  simp only [decide_eq_true_eq]
  by_cases h : tst b (tr m S) (dg D) (m - (m + 1) / 2) ((m + 1) / 2) e = some ((D.length : Int) - (m : Int))
  · rw [if_pos h, if_pos ⟨h, fun h1 => Classical.byContradiction fun h2 => ho ⟨h1, h2⟩⟩]
  · rw [if_neg h, if_neg (fun g => h g.1)]
theorem stp_none {b : Int} {m : Nat} {D : List Int} (ho : (D.length : Int) - (m : Int) = 1 ∧ rd D 0 ≠ 1) : ∀ (L : List (List Int × Int)) (z : Int × List Int), List.foldl (stp b m D) z L = z
  | [], _ => rfl
  | l :: L, z => by
    rw [List.foldl_cons]
    have : stp b m D z l = z := by
      unfold stp pass
      rw [if_neg]
      simp only [decide_eq_true_eq]
      exact fun h => ho.2 (h.1.2 ho.1)
    rw [this, stp_none ho L z]

theorem l1Most_eq (a c : Int) : spec_l1Most.f a c = some (if a > c then a else c) := by unfold spec_l1Most.f; split <;> rfl
theorem first_l0 {b : Int} {m : Nat} {S : List Int} (hb : 2 ≤ b ∧ b ≤ 16) (hm : 1 ≤ m ∧ m ≤ 12) (hr : ∀ i : Nat, i < (m + 1) / 2 → 0 ≤ rd S (i : Int) ∧ rd S (i : Int) ≤ 2 * b - 2) : ∀ (n i : Nat) (X : List Int), i + n = (m + 1) / 2 → X.length = m → Ev (fun k => spec_rvFirst.l0 k (full m S) b (m : Int) X (i : Int)) (mk b m S n i X)
  | 0, i, X, hi, hX => by
    refine Ev.step (fun k => by rw [spec_rvFirst.l0]) ?_
    rw [w64 (x := (m : Int) + 1) (by omega) (by omega), Int.tdiv_eq_ediv_of_nonneg (by omega), w64 (x := ((m : Int) + 1) / 2) (by omega) (by omega)]
    exact Ev.neg (by omega) (Ev.val rfl)
  | n + 1, i, X, hi, hX => by
    have hs := hr i (by omega)
    refine Ev.step (fun k => by rw [spec_rvFirst.l0]) ?_
    rw [w64 (x := (m : Int) + 1) (by omega) (by omega), show Int.tdiv ((m : Int) + 1) 2 = ((m : Int) + 1) / 2 from Int.tdiv_eq_ediv_of_nonneg (by omega), w64 (x := ((m : Int) + 1) / 2) (by omega) (by omega), w64 (x := (m : Int) - 1) (by omega) (by omega), w64 (x := (m : Int) - 1 - (i : Int)) (by omega) (by omega), w64 (x := (i : Int) + 1) (by omega) (by omega), full_len, rd_full _ _ _ (by omega), tr_lo _ _ _ (by omega), Int.toNat_natCast, show (i : Int) + 1 = ((i + 1 : Nat) : Int) by omega]
    refine Ev.pos (by omega) ?_
    by_cases hmid : 2 * i + 1 = m
    · refine Ev.pos (by omega) (Ev.pos (by omega) (Ev.pos (by omega) (Ev.pos (by omega) ?_)))
      rw [mk, if_pos hmid, show wrap64 (Int.tdiv (rd S (i : Int)) 2) = Int.tdiv (rd S (i : Int)) 2 from by rw [Int.tdiv_eq_ediv_of_nonneg hs.1]; exact w64 (by omega) (by omega)]
      exact first_l0 hb hm hr n (i + 1) _ (by omega) (by rw [List.length_set]; exact hX)
    · refine Ev.neg (by omega) ?_
      rw [mk, if_neg hmid, w64 (x := rd S (i : Int) - b) (by omega) (by omega), w64 (x := rd S (i : Int) - b + 1) (by omega) (by omega)]
      have hlz := lz_eq (o := ((i : Int) == 0)) hb hs
      have hl : SR.least b (rd S (i : Int)) ((i : Int) == 0) = lz b S i := rfl
      rw [hl] at hlz
      have ih := first_l0 hb hm hr n (i + 1) ((X.set i (lz b S i)).set (m - 1 - i) (rd S (i : Int) - lz b S i)) (by omega) (by rw [List.length_set, List.length_set]; exact hX)
      have er : rd (X.set i (lz b S i)) (i : Int) = lz b S i := by rw [rd_set _ _ _ _ (by omega), if_pos rfl]
      by_cases h0 : i = 0
      · have el : (if (1 : Int) > rd S (i : Int) - b + 1 then 1 else rd S (i : Int) - b + 1) = lz b S i := by
          have e1 : lz b S i = mx (rd S (i : Int) - (b - 1)) 1 := hlz.1.trans (if_pos (by simp [h0]))
          rw [e1]
          unfold mx
          split <;> split <;> omega
        refine Ev.pos (by omega) (Ev.pos (by omega) (Ev.pos (by omega) (Ev.pure (l1Most_eq _ _) ?_)))
        rw [el]
        refine Ev.pos (by omega) (Ev.pure rfl (Ev.pos (by omega) (Ev.pos (by rw [hX]; omega) ?_)))
        rw [er, w64 (x := rd S (i : Int) - lz b S i) (by omega) (by omega), show ((m : Int) - 1 - (i : Int)).toNat = m - 1 - i by omega]
        exact ih
      · have el : (if (0 : Int) > rd S (i : Int) - b + 1 then 0 else rd S (i : Int) - b + 1) = lz b S i := by
          have e1 : lz b S i = mx (rd S (i : Int) - (b - 1)) 0 := hlz.1.trans (if_neg (by simp; omega))
          rw [e1]
          unfold mx
          split <;> split <;> omega
        refine Ev.neg (by omega) (Ev.pos (by omega) (Ev.pos (by omega) (Ev.pure (l1Most_eq _ _) ?_)))
        rw [el]
        refine Ev.pos (by omega) (Ev.pure rfl (Ev.pos (by omega) (Ev.pos (by rw [hX]; omega) ?_)))
        rw [er, w64 (x := rd S (i : Int) - lz b S i) (by omega) (by omega), show ((m : Int) - 1 - (i : Int)).toNat = m - 1 - i by omega]
        exact ih
theorem first_ev {b : Int} {m : Nat} {S : List Int} (hb : 2 ≤ b ∧ b ≤ 16) (hm : 1 ≤ m ∧ m ≤ 12) (hr : ∀ i : Nat, i < (m + 1) / 2 → 0 ≤ rd S (i : Int) ∧ rd S (i : Int) ≤ 2 * b - 2) : Ev (fun k => spec_rvFirst.f k (full m S) b) (xs b m S) := by
  unfold spec_rvFirst.f
  rw [full_len, Int.toNat_natCast]
  exact Ev.pos (by omega) (Ev.pos (by omega) (first_l0 hb hm hr ((m + 1) / 2) 0 _ (by omega) (by simp)))
theorem less_l0 (A B : List Int) (hL : A.length ≤ 1000) (hAB : A.length = B.length) : ∀ (r s pre : List Int) (i : Int), A = pre ++ r → B = pre ++ s → i = (pre.length : Int) → Ev (fun k => spec_rvLess.l0 k A B (A.length : Int) i) (lessL r s)
  | [], s, pre, i, hA, hB, hi => by
    have hl : A.length = pre.length := by rw [hA]; simp
    have hs : s = [] := by
      have := congrArg List.length hB
      simp only [List.length_append] at this
      exact List.length_eq_zero_iff.mp (by omega)
    subst hs
    refine Ev.step (fun k => by rw [spec_rvLess.l0]) ?_
    exact Ev.neg (by omega) (Ev.val rfl)
  | x :: r, [], pre, i, hA, hB, hi => by rw [hA, hB] at hAB; simp at hAB
  | x :: r, y :: s, pre, i, hA, hB, hi => by
    have hlA : A.length = pre.length + (r.length + 1) := by rw [hA]; simp
    have hlB : B.length = pre.length + (s.length + 1) := by rw [hB]; simp
    have hx : rd A i = x := by rw [hA, hi]; exact rd_mid _ _ _
    have hy : rd B i = y := by rw [hB, hi]; exact rd_mid _ _ _
    refine Ev.step (fun k => by rw [spec_rvLess.l0]) ?_
    refine Ev.pos (by omega) (Ev.pos (by omega) (Ev.pos (by omega) (Ev.pos (by omega) ?_)))
    rw [hx, hy]
    by_cases he : x = y
    · refine Ev.pos he ?_
      rw [w64 (by omega) (by omega)]
      have ih := less_l0 A B hL hAB r s (pre ++ [x]) (i + 1) (by rw [hA]; simp) (by rw [hB, he]; simp) (by simp; omega)
      have e : lessL (x :: r) (y :: s) = lessL r s := by unfold lessL; rw [if_pos he]; cases r <;> cases s <;> simp only [lessL]
      rw [e]; exact ih
    · exact Ev.neg he (Ev.val (by simp [lessL, he]))
theorem less_ev (A B : List Int) (hL : A.length ≤ 1000) (hAB : A.length = B.length) : Ev (fun k => spec_rvLess.f k A B) (lessL A B) := less_l0 A B hL hAB A B [] 0 rfl rfl rfl
theorem best_len {m : Nat} {F X : List Int} (hF : F = [] ∨ F.length = m) (hX : X.length = m) : best F X = [] ∨ (best F X).length = m := by
  unfold best
  split
  · exact .inr hX
  · split
    · exact .inr hX
    · exact hF
theorem stp_len {b : Int} {m : Nat} {D : List Int} {z : Int × List Int} (l : List Int × Int) (hz : z.2 = [] ∨ z.2.length = m) : (stp b m D z l).2 = [] ∨ (stp b m D z l).2.length = m := by
  unfold stp
  split
  · exact best_len hz (xs_len b m l.1)
  · exact hz
theorem fold_len {b : Int} {m : Nat} {D : List Int} : ∀ (L : List (List Int × Int)) (z : Int × List Int), (z.2 = [] ∨ z.2.length = m) → (List.foldl (stp b m D) z L).2 = [] ∨ (List.foldl (stp b m D) z L).2.length = m
  | [], _, h => h
  | l :: L, z, h => by rw [List.foldl_cons]; exact fold_len L _ (stp_len l h)

theorem flat_len (b : Int) (m : Nat) (D : List Int) : ∀ L : List (List Int × Int), (L.flatMap (fun l => told b m D (some l))).length ≤ L.length
  | [] => by simp
  | l :: L => by
    have h1 := flat_len b m D L
    have h2 := told_len b m D (some l)
    rw [List.flatMap_cons, List.length_append, List.length_cons]
    omega
theorem lists_len {b : Int} {m : Nat} {D : List Int} (hm : 1 ≤ m ∧ m ≤ 12) : (lists b m D).length ≤ 1000 := by
  have hp := pow_le ((m + 1) / 2) (by omega)
  unfold lists
  split
  · simp
  · have h1 := flat_len b m D (lv b m D)
    have h2 : (lv b m D).length ≤ 2 ^ ((m + 1) / 2) := by
      unfold lv
      exact Nat.le_trans (List.length_filterMap_le _ _) (by simp)
    omega

theorem rows_ev {b : Int} {m : Nat} {D : List Int} (hb : 2 ≤ b ∧ b ≤ 16) (hm : 1 ≤ m ∧ m ≤ 12) (ho : ¬ ((D.length : Int) - (m : Int) = 1 ∧ rd D 0 ≠ 1)) (rows : List (List Int)) (hrows : rows.length ≤ 1000) (R : List Int × Bool) : ∀ (L : List (List Int × Int)) (pre : List (List Int)) (z : Int × List Int), (∀ l ∈ L, Leaf b m D l.1 l.2) → (z.2 = [] ∨ z.2.length = m) → rows = pre ++ L.flatMap (fun l => told b m D (some l)) →
    ((List.foldl (stp b m D) z L).2 ≠ [] → R = ((List.foldl (stp b m D) z L).2, true)) → ((List.foldl (stp b m D) z L).2 = [] → Ev (fun k => spec_FirstSource.l0 k D b ((m + 1 : Nat) : Int)) R) → Ev (fun k => spec_FirstSource.l1 k D b (m : Int) z.2 rows (rows.length : Int) (pre.length : Int)) R
  | [], pre, z, hl, hz, hr, h1, h2 => by
    have he : rows.length = pre.length := by rw [hr]; simp
    rw [List.foldl_nil] at h1 h2
    refine Ev.step (fun k => by rw [spec_FirstSource.l1]) ?_
    refine Ev.neg (by omega) ?_
    by_cases hb0 : z.2 = []
    · refine Ev.neg (by rw [hb0]; simp) ?_
      rw [w64 (x := (m : Int) + 1) (by omega) (by omega)]
      exact h2 hb0
    · have hpos : z.2.length ≠ 0 := fun h => hb0 (List.eq_nil_of_length_eq_zero h)
      exact Ev.pos (by omega) (Ev.val (h1 hb0).symm)
  | l :: L, pre, z, hl, hz, hr, h1, h2 => by
    have hll := hl l List.mem_cons_self
    have hl' : ∀ x ∈ L, Leaf b m D x.1 x.2 := fun x hx => hl x (List.mem_cons_of_mem _ hx)
    rw [List.flatMap_cons, pass_told ho] at hr
    rw [List.foldl_cons] at h1 h2
    by_cases hp : pass b m D l.1 l.2 = true
    · rw [if_pos hp, ← List.append_assoc] at hr
      have hlen : rows.length = pre.length + (1 + (L.flatMap (fun l => told b m D (some l))).length) := by rw [hr]; simp; omega
      have hrd : rd_L1 rows (pre.length : Int) = full m l.1 := by rw [hr]; simp [rd_L1]
      refine Ev.step (fun k => by rw [spec_FirstSource.l1]) ?_
      refine Ev.pos (by omega) (Ev.pos (by omega) (Ev.pos (by omega) ?_))
      rw [hrd]
      refine Ev.bind (count_ev hb hm hll.rg) ?_
      have ih := rows_ev hb hm ho rows hrows R L (pre ++ [full m l.1]) (stp b m D z l) hl' (stp_len l hz) hr h1 h2
      rw [w64 (x := (pre.length : Int) + 1) (by omega) (by omega)]
      rw [List.length_append, List.length_singleton, show ((pre.length + 1 : Nat) : Int) = (pre.length : Int) + 1 by omega] at ih
      by_cases h0 : cv b m l.1 = 0
      · have es : stp b m D z l = z := by unfold stp; rw [if_neg (fun g => g.2 h0)]
        rw [es] at ih
        exact Ev.pos h0 ih
      · have es : (stp b m D z l).2 = best z.2 (xs b m l.1) := by unfold stp; rw [if_pos ⟨hp, h0⟩]
        rw [es] at ih
        refine Ev.neg h0 (Ev.bind (first_ev hb hm hll.rg) ?_)
        unfold best at ih
        by_cases hb0 : z.2 = []
        · rw [if_pos hb0] at ih
          exact Ev.pos (by rw [hb0]; rfl) ih
        · rw [if_neg hb0] at ih
          have hpos : z.2.length ≠ 0 := fun h => hb0 (List.eq_nil_of_length_eq_zero h)
          refine Ev.neg (by omega) (Ev.bind (less_ev (xs b m l.1) z.2 (by rw [xs_len]; omega) (by rw [xs_len, hz.resolve_left hb0])) ?_)
          by_cases hlt : lessL (xs b m l.1) z.2 = true
          · rw [if_pos hlt] at ih
            exact Ev.pos hlt ih
          · rw [if_neg hlt] at ih
            exact Ev.neg hlt ih
    · rw [if_neg hp, List.nil_append] at hr
      have es : stp b m D z l = z := by unfold stp; rw [if_neg (fun g => hp g.1)]
      rw [es] at h1 h2
      exact rows_ev hb hm ho rows hrows R L pre z hl' hz hr h1 h2
theorem width_ev {b : Int} {m : Nat} {D : List Int} (hb : 2 ≤ b ∧ b ≤ 16) (hm : 1 ≤ m ∧ m ≤ 12) (hD : D.length = m ∨ D.length = m + 1) (hd : ∀ x ∈ D, 0 ≤ x ∧ x < b) (R : List Int × Bool) (h1 : (found b m D).2 ≠ [] → R = ((found b m D).2, true)) (h2 : (found b m D).2 = [] → Ev (fun k => spec_FirstSource.l0 k D b ((m + 1 : Nat) : Int)) R) : Ev (fun k => spec_FirstSource.l0 k D b (m : Int)) R := by
  obtain ⟨ok, hw⟩ := ways_ev hb hm hD hd
  refine Ev.step (fun k => by rw [spec_FirstSource.l0]) ?_
  refine Ev.pos (by omega) (Ev.neg (by omega) (Ev.bind hw ?_))
  have hlen := lists_len (b := b) (D := D) hm
  rw [found_lv hm.1] at h1 h2
  show Ev (fun k => spec_FirstSource.l1 k D b (m : Int) [] (lists b m D) ((lists b m D).length : Int) 0) R
  by_cases ho : (D.length : Int) - (m : Int) = 1 ∧ rd D 0 ≠ 1
  · rw [stp_none ho] at h2
    have e : lists b m D = [] := by unfold lists; rw [if_pos ho]
    rw [e]
    refine Ev.step (fun k => by rw [spec_FirstSource.l1]) ?_
    refine Ev.neg (by simp) (Ev.neg (by simp) ?_)
    rw [w64 (x := (m : Int) + 1) (by omega) (by omega)]
    exact h2 rfl
  · exact rows_ev hb hm ho (lists b m D) hlen R (lv b m D) [] (0, []) (lv_leaf hb hm hD hd) (.inl rfl) (by unfold lists; rw [if_neg ho]; rfl) h1 h2
theorem found_len {b : Int} {m : Nat} {D : List Int} (hm : m ≤ 12) : (found b m D).2.length ≤ 1000 := by
  rcases fold_len (b := b) (m := m) (D := D) (en b (dg D) ((m + 1) / 2) 0 0 []) (0, []) (.inl rfl) with h | h
  · unfold found; rw [h]; simp
  · unfold found; rw [h]; omega
theorem law_ev (l : List Int) (b : Int) (hL : l.length ≤ 1048576) : ∃ r : List Int × Bool, r.1.length ≤ 1000 ∧ Ev (fun k => spec_FirstSource.f k l b) r ∧ Ev (fun k => impl_FirstSource.f k l b) r := by
  unfold spec_FirstSource.f impl_FirstSource.f impl_isSourced.f spec_rvAsked.f
  rw [isLong_eq]
  have hg := rvGood_ev l b hL
  cases hq : gd l b
  · rw [hq] at hg
    exact ⟨([], false), by simp, Ev.bind (Ev.bind hg (Ev.neg (by simp) (Ev.now false))) (Ev.neg (by simp) (Ev.now _)), Ev.pure rfl (Ev.neg (by simp) (Ev.now _))⟩
  · rw [hq] at hg
    obtain ⟨hb, h1, h40, hd⟩ := gd_len hq
    by_cases h12 : (l.length : Int) ≤ 12
    · have hs12 : Ev (fun k => (spec_rvGood.f k l b).bind fun t => if t = true then some (decide ((l.length : Int) ≤ 12)) else some false) true := Ev.bind hg (Ev.pos rfl (Ev.val (decide_eq_true h12)))
      have hi12 : ((some true : Option Bool).bind fun t => if t = true then some (decide ((l.length : Int) ≤ 12)) else some false) = some true := by simp [h12]
      have hend : Ev (fun k => spec_FirstSource.l0 k l b ((l.length + 1 : Nat) : Int)) ([], false) := by
        refine Ev.step (fun k => by rw [spec_FirstSource.l0]) ?_
        exact Ev.neg (by omega) (Ev.now _)
      have h2 := sources_ev (m := l.length) hb (by omega) (.inl rfl) hd
      obtain ⟨Y, hY⟩ : ∃ Y : List Int × Bool, Y = if (found b l.length l).2 = [] then ([], false) else ((found b l.length l).2, true) := ⟨_, rfl⟩
      have hYl : Y.1.length ≤ 1000 := by
        rw [hY]
        split
        · simp
        · exact found_len (by omega)
      have hspec : Ev (fun k => spec_FirstSource.l0 k l b ((l.length : Nat) : Int)) Y := by
        refine width_ev hb (by omega) (.inl rfl) hd Y (fun h => by rw [hY, if_neg h]) (fun h => ?_)
        rw [hY, if_pos h]; exact hend
      have himpl : Ev (fun k => (impl_sourcesOf.f k l b (l.length : Int)).bind fun y => (if y.2 = [] then some ([], false) else some (y.2, true))) Y := by
        refine Ev.bind h2 ?_
        by_cases h : (found b l.length l).2 = []
        · exact Ev.pos h (Ev.val (by rw [hY, if_pos h]))
        · exact Ev.neg h (Ev.val (by rw [hY, if_neg h]))
      by_cases hone : l.length = 1
      · refine ⟨Y, hYl, Ev.bind hs12 (Ev.pos rfl ?_), Ev.pure hi12 (Ev.pos rfl ?_)⟩
        · rw [w64 (x := (l.length : Int) - 1) (by omega) (by omega)]
          refine Ev.step (fun k => by rw [spec_FirstSource.l0]) ?_
          refine Ev.pos (by omega) (Ev.pos (by omega) ?_)
          rw [w64 (x := (l.length : Int) - 1 + 1) (by omega) (by omega), Int.sub_add_cancel]
          exact hspec
        · rw [w64 (x := (l.length : Int) - 1) (by omega) (by omega), show (l.length : Int) - 1 = 0 by omega]
          exact Ev.bind (sources_0 b l) (Ev.pos rfl himpl)
      · have h3 := sources_ev (m := l.length - 1) hb (by omega) (.inr (by omega)) hd
        rw [show ((l.length - 1 : Nat) : Int) = (l.length : Int) - 1 by omega] at h3
        obtain ⟨Z, hZ⟩ : ∃ Z : List Int × Bool, Z = if (found b (l.length - 1) l).2 = [] then Y else ((found b (l.length - 1) l).2, true) := ⟨_, rfl⟩
        refine ⟨Z, ?_, Ev.bind hs12 (Ev.pos rfl ?_), Ev.pure hi12 (Ev.pos rfl ?_)⟩
        · rw [hZ]
          split
          · exact hYl
          · exact found_len (by omega)
        · rw [w64 (x := (l.length : Int) - 1) (by omega) (by omega)]
          have g := width_ev (m := l.length - 1) hb (by omega) (.inr (by omega)) hd Z (fun h => by rw [hZ, if_neg h]) (fun h => by rw [hZ, if_pos h, show l.length - 1 + 1 = l.length by omega]; exact hspec)
          rw [show ((l.length - 1 : Nat) : Int) = (l.length : Int) - 1 by omega] at g
          exact g
        · rw [w64 (x := (l.length : Int) - 1) (by omega) (by omega)]
          refine Ev.bind h3 ?_
          by_cases h : (found b (l.length - 1) l).2 = []
          · rw [hZ, if_pos h]
            exact Ev.pos h himpl
          · exact Ev.neg h (Ev.val (by rw [hZ, if_neg h]))
    · exact ⟨([], false), by simp, Ev.bind (Ev.bind hg (Ev.pos rfl (Ev.val (decide_eq_false h12)))) (Ev.neg (by simp) (Ev.now _)), Ev.pure (by simp only [Option.bind_some, if_true]; rw [decide_eq_false h12]) (Ev.neg (by simp) (Ev.now _))⟩
theorem FnExactFirstSource : laws_FnExactFirstSource.Pure := by
  intro l b hm hl hw hb
  apply Ev.rounds
  unfold laws_FnExactFirstSource.f
  by_cases h : (l.length : Int) > 1048576
  · exact Ev.pos h (Ev.now _)
  · refine Ev.neg h ?_
    have hL : l.length ≤ 1048576 := by omega
    have ht := toInt_ev l hL
    obtain ⟨⟨x, y⟩, hx, hs, hi⟩ := law_ev l b hL
    simp only at hx
    have he := eq_ev x (by omega)
    have hel := eq_ev l (by omega)
    have hml := mark_ev l (by omega)
    have hm := mark_ev x (by omega)
    have hh := held_ev x.length (by omega)
    refine Ev.bind ht (Ev.bind hs (Ev.bind ht (Ev.bind hi (Ev.bind he (Ev.pos rfl ?_)))))
    refine Ev.step (fun k => by rw [laws_FnExactFirstSource.j0]) ?_
    refine Ev.neg (by simp) (Ev.bind ht (Ev.bind hel (Ev.pos rfl (Ev.bind hml (Ev.neg (not_neg _) (Ev.bind he (Ev.pos rfl ?_)))))))
    refine Ev.step (fun k => by rw [laws_FnExactFirstSource.j1]) ?_
    refine Ev.neg (by simp) (Ev.bind hm (Ev.bind hh (Ev.neg (not_neg _) (Ev.pos rfl (Ev.bind ht (Ev.bind hi (Ev.bind he (Ev.pos rfl ?_))))))))
    refine Ev.step (fun k => by rw [laws_FnExactFirstSource.j2]) ?_
    exact Ev.neg (by simp) (Ev.bind hh (Ev.neg (not_neg _) (Ev.pos rfl (Ev.now _))))

end Go.Proofs.Ytimimjmabnmeoaa.Pure
