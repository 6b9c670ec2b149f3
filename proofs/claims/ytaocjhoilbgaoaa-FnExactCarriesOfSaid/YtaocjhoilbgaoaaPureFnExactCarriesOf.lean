/- For every list of ints and every int base, the program's CarriesOf gives what the reference's gives, twice, in memory of its own, and leaves the list as it is. No conditions. -/
import Derived.Test.YtaocjhoilbgaoaaPFnExactCarriesOfx4
namespace Go.Proofs.Ytaocjhoilbgaoaa.Pure
open Go.RowKit Go.Proofs.Ytaocjhoilbgaoaa.PFnExactCarriesOf Go.Proofs.YtaocjhoilbgaoaaW.PrintWords Go.Proofs.YtaocjhoilbgaoaaW.PrintLast

theorem wf_i64 {x : Int} (h : (Lit.int .i64 x).wf = true) : -9223372036854775808 ≤ x ∧ x ≤ 9223372036854775807 := by
  simp only [Lit.wf, Bool.and_eq_true, decide_eq_true_eq, show IntKind.i64.min = -9223372036854775808 from rfl, show IntKind.i64.max = 9223372036854775807 from rfl] at h
  exact h
theorem w64 {x : Int} (h0 : -9223372036854775808 ≤ x) (h1 : x ≤ 9223372036854775807) : wrap64 x = x := by unfold wrap64; omega
theorem Ev.pos {α : Type} {c : Prop} [Decidable c] {A B : Nat → Option α} {r : α} (h : c) (e : Ev A r) : Ev (fun k => if c then A k else B k) r := by simpa only [if_pos h] using e
theorem Ev.neg {α : Type} {c : Prop} [Decidable c] {A B : Nat → Option α} {r : α} (h : ¬ c) (e : Ev B r) : Ev (fun k => if c then A k else B k) r := by simpa only [if_neg h] using e
theorem Ev.val {α : Type} {a r : α} (h : a = r) : Ev (fun _ => some a) r := h ▸ Ev.now a
theorem Ev.pure {α β : Type} {o : Option α} {f : Nat → α → Option β} {a : α} {r : β} (h : o = some a) (k : Ev (fun n => f n a) r) : Ev (fun n => o.bind (f n)) r := by subst h; exact k
theorem Ev.call {α β : Type} {g : Nat → Option α} {f : Nat → α → Option β} {a : α} {r : β} (h : Ev g a) (k : Ev (fun n => f n a) r) : Ev (fun n => (g n).bind (f n)) r := Ev.bind h k
theorem Ev.same {α : Type} {g f : Nat → Option α} {r : α} (h : ∀ k, g k = f k) (k : Ev g r) : Ev f r := Ev.congr (fun k => (h k).symm) k

def cnt (x : Int) : Nat → List Int
  | 0 => []
  | m + 1 => x :: cnt (x + 1) m
theorem cnt_length : ∀ (m : Nat) (x : Int), (cnt x m).length = m
  | 0, _ => rfl
  | m + 1, x => by simp [cnt, cnt_length m]
theorem rd_mid (pre rest : List Int) (a : Int) : rd (pre ++ a :: rest) (pre.length : Int) = a := by simp [rd]
theorem mark_l0 : ∀ (rest pre : List Int) (x i : Int), i = (pre.length : Int) → pre.length + rest.length ≤ 4611686018427387904 → 0 ≤ x → x + rest.length ≤ 4611686018427387904 →
    Ev (fun k => laws_markIntS.l0 k (pre ++ rest) x i) (x + rest.length, pre ++ cnt x rest.length)
  | [], pre, x, i, hi, hl, hx, hx2 => by
    refine Ev.step (fun k => by rw [laws_markIntS.l0]) (Ev.neg (by simp; omega) (Ev.val ?_))
    simp [cnt]
  | a :: rest, pre, x, i, hi, hl, hx, hx2 => by
    simp only [List.length_cons] at hl hx2
    refine Ev.step (fun k => by rw [laws_markIntS.l0]) (Ev.pos (by simp; omega) (Ev.pos (by omega) ?_))
    rw [w64 (x := x + 1) (by omega) (by omega), w64 (x := i + 1) (by omega) (by omega)]
    have e : (pre ++ a :: rest).set i.toNat x = (pre ++ [x]) ++ rest := by subst hi; simp
    have ih := mark_l0 rest (pre ++ [x]) (x + 1) (i + 1) (by simp; omega) (by simp; omega) (by omega) (by omega)
    rw [e]
    have e2 : (x + ((a :: rest).length : Int), pre ++ cnt x (a :: rest).length) = (x + 1 + (rest.length : Int), (pre ++ [x]) ++ cnt (x + 1) rest.length) := by
      simp [cnt]; omega
    rw [e2]; exact ih
theorem held_l0 : ∀ (m : Nat) (pre : List Int) (x i : Int), i = (pre.length : Int) → pre.length + m ≤ 4611686018427387904 → 0 ≤ x → x + m ≤ 4611686018427387904 →
    Ev (fun k => laws_heldIntS.l0 k (pre ++ cnt x m) x i) (x + m)
  | 0, pre, x, i, hi, hl, hx, hx2 => by
    refine Ev.step (fun k => by rw [laws_heldIntS.l0]) (Ev.neg (by simp [cnt]; omega) (Ev.val ?_))
    simp
  | m + 1, pre, x, i, hi, hl, hx, hx2 => by
    have hr : rd (pre ++ cnt x (m + 1)) i = x := by rw [hi, cnt]; exact rd_mid _ _ _
    refine Ev.step (fun k => by rw [laws_heldIntS.l0]) (Ev.pos (by simp [cnt_length]; omega) (Ev.pos (by omega) (Ev.pos hr ?_)))
    rw [w64 (x := x + 1) (by omega) (by omega), w64 (x := i + 1) (by omega) (by omega)]
    have ih := held_l0 m (pre ++ [x]) (x + 1) (i + 1) (by simp; omega) (by simp; omega) (by omega) (by omega)
    have e : pre ++ cnt x (m + 1) = (pre ++ [x]) ++ cnt (x + 1) m := by simp [cnt]
    have e2 : x + ((m + 1 : Nat) : Int) = x + 1 + (m : Int) := by omega
    rw [e, e2]; exact ih
theorem eq_l0 (l : List Int) (hl : l.length ≤ 4611686018427387904) : ∀ (m : Nat) (i : Int), 0 ≤ i → ((l.length : Int) - i).toNat < m → Ev (fun k => laws_eqIntS.l0 k l l i) true
  | 0, _, _, h => by omega
  | m + 1, i, h0, h => by
    by_cases hlt : i < (l.length : Int)
    · refine Ev.step (fun k => by rw [laws_eqIntS.l0]) (Ev.pos hlt (Ev.pos h0 (Ev.pos hlt (Ev.pos rfl ?_))))
      rw [w64 (by omega) (by omega)]
      exact eq_l0 l hl m (i + 1) (by omega) (by omega)
    · exact Ev.step (fun k => by rw [laws_eqIntS.l0]) (Ev.neg hlt (Ev.now _))
theorem eq_ev (l : List Int) (hl : l.length ≤ 4611686018427387904) : Ev (fun k => laws_eqIntS.f k l l) true := Ev.pos rfl (eq_l0 l hl _ 0 (by omega) (Nat.lt_succ_self _))

theorem mark_ev (l : List Int) (hl : l.length ≤ 4000000000000000000) : Ev (fun k => laws_markIntS.f k l 1) (1 + l.length, cnt 1 l.length) := by
  have := mark_l0 l [] 1 0 (by simp) (by simp; omega) (by omega) (by omega)
  unfold laws_markIntS.f
  simpa using this
theorem held_ev (m : Nat) (hl : m ≤ 4000000000000000000) : Ev (fun k => laws_heldIntS.f k (cnt 1 m) 1) (1 + m) := by
  have := held_l0 m [] 1 0 (by simp) (by simp; omega) (by omega) (by omega)
  unfold laws_heldIntS.f
  simpa using this
theorem not_neg (n : Nat) : ¬ 1 + (n : Int) < 0 := by omega

theorem toInt_l0 (L : List Int) (hL : L.length ≤ 1048576) : ∀ (rest pre : List Int) (i : Int), L = pre ++ rest → i = (pre.length : Int) → Ev (fun k => laws_toIntS.l0 k L (pre ++ List.replicate rest.length 0) i) L
  | [], pre, i, h, hi => by
    refine Ev.step (fun k => by rw [laws_toIntS.l0]) ?_
    exact Ev.neg (by rw [h]; simp; omega) (Ev.val (by rw [h]; simp))
  | a :: rest, pre, i, h, hi => by
    have hlen : L.length = pre.length + (rest.length + 1) := by rw [h]; simp
    have hr : rd L i = a := by rw [h, hi]; simp [rd]
    have e : (pre ++ List.replicate (a :: rest).length 0).set i.toNat a = (pre ++ [a]) ++ List.replicate rest.length 0 := by
      have : i.toNat = pre.length := by omega
      rw [this, List.length_cons, List.replicate_succ]; simp
    have ih := toInt_l0 L hL rest (pre ++ [a]) (i + 1) (by rw [h]; simp) (by simp; omega)
    refine Ev.step (fun k => by rw [laws_toIntS.l0]) ?_
    refine Ev.pos (by omega) (Ev.pos (by omega) (Ev.pos (by simp; omega) ?_))
    rw [hr, e, w64 (by omega) (by omega)]
    exact ih
theorem toInt_ev (L : List Int) (hL : L.length ≤ 1048576) : Ev (fun k => laws_toIntS.f k L) L := by
  unfold laws_toIntS.f
  refine Ev.pos (by omega) (Ev.pos (by omega) ?_)
  have := toInt_l0 L hL L [] 0 rfl rfl
  simpa using this

theorem spec_l1In_eq (a b c : Int) : spec_l1In.f a b c = some (decide (b ≤ a ∧ a ≤ c)) := by
  unfold spec_l1In.f
  by_cases h : b ≤ a
  · rw [if_pos (show a ≥ b from h)]; simp [h]
  · rw [if_neg (show ¬ a ≥ b from h)]; simp [h]
theorem impl_in_eq (a b c : Int) : impl_in.f a b c = some (decide (b ≤ a ∧ a ≤ c)) := by
  unfold impl_in.f
  by_cases h : b ≤ a
  · rw [if_pos h]; simp [h]
  · rw [if_neg h]; simp [h]
theorem spec_dgBase_eq (b : Int) : spec_dgBase.f b = some (decide (2 ≤ b ∧ b ≤ 16)) := by
  unfold spec_dgBase.f
  rw [spec_l1In_eq]; simp
theorem impl_isBase_eq (b : Int) : impl_isBase.f b = some (decide (2 ≤ b ∧ b ≤ 16)) := by
  unfold impl_isBase.f
  rw [impl_in_eq]; simp

/-- valid digits, at most 40 -/
def gd (l : List Int) (b : Int) : Bool := decide (2 ≤ b ∧ b ≤ 16) && (decide (1 ≤ (l.length : Int) ∧ (l.length : Int) ≤ 40) && (impl_areIn.all 0 (b - 1) l && (decide (rd l 0 > 0) || ((l.length : Int) == 1))))
theorem l1All_l0 (L : List Int) (hL : L.length ≤ 1048576) (lo hi : Int) : ∀ (rest pre : List Int) (i : Int), L = pre ++ rest → i = (pre.length : Int) → Ev (fun k => spec_l1All.l0 k lo hi L (L.length : Int) i) (impl_areIn.all lo hi rest)
  | [], pre, i, h, hi' => by
    refine Ev.step (fun k => by rw [spec_l1All.l0]) ?_
    exact Ev.neg (by rw [h]; simp; omega) (Ev.val rfl)
  | a :: rest, pre, i, h, hi' => by
    have hlen : L.length = pre.length + (rest.length + 1) := by rw [h]; simp
    have hr : rd L i = a := by rw [h, hi']; simp [rd]
    have ih := l1All_l0 L hL lo hi rest (pre ++ [a]) (i + 1) (by rw [h]; simp) (by simp; omega)
    refine Ev.step (fun k => by rw [spec_l1All.l0]) ?_
    rw [hr, w64 (by omega) (by omega)]
    refine Ev.pos (by omega) (Ev.pos (by omega) (Ev.pos (by omega) (Ev.pure (spec_l1In_eq _ _ _) ?_)))
    by_cases hc : lo ≤ a ∧ a ≤ hi
    · refine Ev.pos (decide_eq_true hc) ?_
      have e : impl_areIn.all lo hi (a :: rest) = impl_areIn.all lo hi rest := by simp [impl_areIn.all, impl_areIn.ok, hc]
      rw [e]; exact ih
    · refine Ev.neg (by simp [hc]) (Ev.val ?_)
      simp only [impl_areIn.all, impl_areIn.ok, List.all_cons]
      rw [show (decide (lo ≤ a) && decide (a ≤ hi)) = false by rw [← Bool.decide_and]; exact decide_eq_false hc]
      rfl
theorem l1All_ev (L : List Int) (hL : L.length ≤ 1048576) (lo hi : Int) : Ev (fun k => spec_l1All.f k L lo hi) (impl_areIn.all lo hi L) := l1All_l0 L hL lo hi L [] 0 rfl rfl
theorem rvGood_ev (L : List Int) (b : Int) (hL : L.length ≤ 1048576) : Ev (fun k => spec_rvGood.f k L b) (gd L b) := by
  unfold spec_rvGood.f gd
  refine Ev.pure (spec_dgBase_eq b) ?_
  by_cases hb : 2 ≤ b ∧ b ≤ 16
  · refine Ev.pos (decide_eq_true hb) (Ev.pure (spec_l1In_eq _ _ _) ?_)
    rw [decide_eq_true hb, Bool.true_and]
    by_cases hl : 1 ≤ (L.length : Int) ∧ (L.length : Int) ≤ 40
    · refine Ev.pos (decide_eq_true hl) ?_
      rw [decide_eq_true hl, Bool.true_and, w64 (by omega) (by omega)]
      refine Ev.bind (l1All_ev L hL 0 (b - 1)) ?_
      cases impl_areIn.all 0 (b - 1) L
      · exact Ev.neg (by simp) (Ev.val rfl)
      · refine Ev.pos rfl (Ev.pos (by omega) ?_)
        by_cases h0 : rd L 0 > 0
        · exact Ev.pos h0 (Ev.val (by simp [h0]))
        · exact Ev.neg h0 (Ev.val (by simp [h0]))
    · refine Ev.neg (by simp only [decide_eq_true_eq]; exact hl) (Ev.val ?_)
      rw [decide_eq_false hl]; rfl
  · refine Ev.neg (by simp only [decide_eq_true_eq]; exact hb) (Ev.val ?_)
    rw [decide_eq_false hb]; rfl
theorem isLong_eq (L : List Int) (b : Int) : impl_isLong.f L b = some (gd L b) := by
  unfold impl_isLong.f gd impl_areDigits.f impl_areIn.f
  rw [impl_isBase_eq]
  by_cases hb : 2 ≤ b ∧ b ≤ 16
  · simp only [Option.bind_some, decide_eq_true hb, if_true, Bool.true_and]
    rw [w64 (by omega) (by omega), ← Bool.decide_and]
    by_cases hl : 1 ≤ (L.length : Int) ∧ (L.length : Int) ≤ 40
    · rw [decide_eq_true hl, Bool.true_and]
      cases impl_areIn.all 0 (b - 1) L
      · simp
      · have hpos : 0 < (L.length : Int) := by omega
        have h40 : (L.length : Int) ≤ 40 := hl.2
        simp only [if_true, hpos, h40, decide_true, Bool.true_and]
        by_cases h0 : rd L 0 > 0
        · simp [h0]
        · simp only [h0, if_false, decide_false, Bool.false_or, Option.bind_some]
          cases ((L.length : Int) == 1) <;> rfl
    · rw [decide_eq_false hl]; simp
  · simp only [Option.bind_some, decide_eq_false hb]; simp
theorem gd_len {L : List Int} {b : Int} (h : gd L b = true) : (2 ≤ b ∧ b ≤ 16) ∧ 1 ≤ L.length ∧ L.length ≤ 40 ∧ (∀ x ∈ L, 0 ≤ x ∧ x < b) := by
  unfold gd at h
  simp only [Bool.and_eq_true, decide_eq_true_eq] at h
  refine ⟨h.1, by omega, by omega, fun x hx => ?_⟩
  have := h.2.2.1
  simp only [impl_areIn.all, impl_areIn.ok, List.all_eq_true, Bool.and_eq_true, decide_eq_true_eq] at this
  have := this x hx
  omega

theorem rev_l0 : ∀ (m : Nat) (A M B : List Int) (i j : Int), M.length < m → i = (A.length : Int) → j = (A.length : Int) + M.length - 1 → A.length + M.length + B.length ≤ 4611686018427387904 →
    Ev (fun k => slices_Reverse_int_int.l0 k (A ++ M ++ B) i j) (A ++ M.reverse ++ B)
  | 0, _, _, _, _, _, h, _, _, _ => by omega
  | m + 1, A, M, B, i, j, h, hi, hj, hl => by
    match M, h, hj, hl with
    | [], h, hj, hl =>
      refine Ev.step (fun k => by rw [slices_Reverse_int_int.l0]) (Ev.neg (by simp at hj; omega) (Ev.val (by simp)))
    | [a], h, hj, hl =>
      refine Ev.step (fun k => by rw [slices_Reverse_int_int.l0]) (Ev.neg (by simp at hj; omega) (Ev.val (by simp)))
    | a :: c :: M', h, hj, hl =>
      obtain ⟨M2, b, hM⟩ : ∃ M2 b, c :: M' = M2 ++ [b] := ⟨_, _, (List.dropLast_concat_getLast (by simp : c :: M' ≠ [])).symm⟩
      rw [hM] at h hj hl ⊢
      simp only [List.length_cons, List.length_append, List.length_nil] at h hj hl
      have r1 : rd (A ++ (a :: (M2 ++ [b])) ++ B) i = a := by subst hi; simp [rd]
      have r2 : rd (A ++ (a :: (M2 ++ [b])) ++ B) j = b := by
        have : j.toNat = A.length + (M2.length + 1) := by omega
        simp [rd, this]
      have e : ((A ++ (a :: (M2 ++ [b])) ++ B).set i.toNat b).set j.toNat a = (A ++ [b]) ++ M2 ++ (a :: B) := by
        have e1 : j.toNat = (A ++ (b :: M2)).length := by simp; omega
        have e0 : i.toNat = A.length := by omega
        have s1 : (A ++ (a :: (M2 ++ [b])) ++ B).set i.toNat b = (A ++ (b :: M2)) ++ b :: B := by rw [e0]; simp
        rw [s1, e1]; simp
      refine Ev.step (fun k => by rw [slices_Reverse_int_int.l0]) (Ev.pos (by omega) (Ev.pos (by omega) (Ev.pos (by simp; omega) (Ev.pos (by omega) (Ev.pos (by simp; omega) ?_)))))
      rw [r1, r2, e, w64 (x := i + 1) (by omega) (by omega), w64 (x := j - 1) (by omega) (by omega)]
      have ih := rev_l0 m (A ++ [b]) M2 (a :: B) (i + 1) (j - 1) (by omega) (by simp; omega) (by simp; omega) (by simp; omega)
      have e2 : A ++ (a :: (M2 ++ [b])).reverse ++ B = (A ++ [b]) ++ M2.reverse ++ (a :: B) := by simp
      rw [e2]; exact ih
theorem rev_ev (l : List Int) (hl : l.length ≤ 4000000000000000000) : Ev (fun k => slices_Reverse_int_int.f k l) l.reverse := by
  have := rev_l0 _ [] l [] 0 ((l.length : Int) - 1) (Nat.lt_succ_self _) (by simp) (by simp) (by simp; omega)
  unfold slices_Reverse_int_int.f
  rw [w64 (by omega) (by omega)]
  simpa using this

theorem reversed_ev (L : List Int) (hL : L.length ≤ 1048576) : Ev (fun k => impl_reversed.f k L) L.reverse := by
  unfold impl_reversed.f
  exact Ev.pure (show slices_Clone_int_int.f L = some L by unfold slices_Clone_int_int.f; rw [if_pos (by omega)]) (Ev.bind (rev_ev L (by omega)) (Ev.now _))

/-- the digits of the sum from the last one on, and what is carried, as int makes them -/
def ad (l : List Int) (b : Int) : Nat → Int → List Int → List Int → Int → List Int × List Int
  | 0, _, out, cs, c => (if c > 0 then out ++ [c] else out, cs)
  | m + 1, i, out, cs, c =>
    ad l b m (i + 1) (out ++ [Int.tmod (wrap64 (wrap64 (rd l ((l.length : Int) - 1 - i) + rd l i) + c)) b]) (cs ++ [wrap64 (Int.tdiv (wrap64 (wrap64 (rd l ((l.length : Int) - 1 - i) + rd l i) + c)) b)]) (wrap64 (Int.tdiv (wrap64 (wrap64 (rd l ((l.length : Int) - 1 - i) + rd l i) + c)) b))
theorem ad_len (l : List Int) (b : Int) : ∀ (m : Nat) (i : Int) (out cs : List Int) (c : Int), out.length + m ≤ (ad l b m i out cs c).1.length ∧ (ad l b m i out cs c).1.length ≤ out.length + m + 1 ∧ (ad l b m i out cs c).2.length = cs.length + m
  | 0, i, out, cs, c => by
    simp only [ad]
    split <;> simp
  | m + 1, i, out, cs, c => by
    have := ad_len l b m (i + 1) (out ++ [Int.tmod (wrap64 (wrap64 (rd l ((l.length : Int) - 1 - i) + rd l i) + c)) b]) (cs ++ [wrap64 (Int.tdiv (wrap64 (wrap64 (rd l ((l.length : Int) - 1 - i) + rd l i) + c)) b)]) (wrap64 (Int.tdiv (wrap64 (wrap64 (rd l ((l.length : Int) - 1 - i) + rd l i) + c)) b))
    simp only [ad]
    simp only [List.length_append, List.length_cons, List.length_nil] at this ⊢
    omega
theorem summed_l0 (l : List Int) (b : Int) (hb : b ≠ 0) (hl : l.length ≤ 1000) : ∀ (m : Nat) (i : Int) (out cs : List Int) (c : Int), i + m = (l.length : Int) → 0 ≤ i → out.length = i.toNat → cs.length = i.toNat →
    Ev (fun k => impl_summed.l0 k l b out cs c (l.length : Int) i) ((ad l b m i out cs c).1.reverse, (ad l b m i out cs c).2)
  | 0, i, out, cs, c, hi, h0, ho, hc => by
    refine Ev.step (fun k => by rw [impl_summed.l0]) ?_
    refine Ev.neg (by omega) ?_
    simp only [ad]
    by_cases hp : c > 0
    · rw [if_pos hp]
      exact Ev.pos hp (Ev.pos (by omega) (Ev.bind (reversed_ev _ (by simp; omega)) (Ev.now _)))
    · rw [if_neg hp]
      exact Ev.neg hp (Ev.bind (reversed_ev _ (by omega)) (Ev.now _))
  | m + 1, i, out, cs, c, hi, h0, ho, hc => by
    refine Ev.step (fun k => by rw [impl_summed.l0]) ?_
    rw [w64 (x := (l.length : Int) - 1) (by omega) (by omega), w64 (x := (l.length : Int) - 1 - i) (by omega) (by omega), w64 (x := i + 1) (by omega) (by omega)]
    refine Ev.pos (by omega) (Ev.pos (by omega) (Ev.pos (by omega) (Ev.pos (by omega) (Ev.pos (by omega) (Ev.neg hb (Ev.pos (by omega) (Ev.pos (by omega) ?_)))))))
    exact summed_l0 l b hb hl m (i + 1) _ _ _ (by omega) (by omega) (by simp; omega) (by simp; omega)
theorem rvAdd_l0 (l : List Int) (b : Int) (hb : b ≠ 0) (hl : l.length ≤ 1000) : ∀ (m : Nat) (i : Int) (out cs : List Int) (c : Int), i + m = (l.length : Int) → 0 ≤ i → out.length = i.toNat → cs.length = i.toNat →
    Ev (fun k => spec_rvAdd.l0 k l b (l.length : Int) out.reverse cs c ((l.length : Int) - 1 - i)) ((ad l b m i out cs c).1.reverse, (ad l b m i out cs c).2)
  | 0, i, out, cs, c, hi, h0, ho, hc => by
    refine Ev.step (fun k => by rw [spec_rvAdd.l0]) ?_
    refine Ev.neg (by omega) ?_
    simp only [ad]
    by_cases hp : c > 0
    · exact Ev.pos hp (Ev.pure rfl (Ev.pos (by simp; omega) (Ev.val (by simp [hp]))))
    · exact Ev.neg hp (Ev.val (by simp [hp]))
  | m + 1, i, out, cs, c, hi, h0, ho, hc => by
    refine Ev.step (fun k => by rw [spec_rvAdd.l0]) ?_
    have e1 : wrap64 (wrap64 ((l.length : Int) - 1) - ((l.length : Int) - 1 - i)) = i := by
      rw [w64 (x := (l.length : Int) - 1) (by omega) (by omega), w64 (by omega) (by omega)]; omega
    have e2 : wrap64 ((l.length : Int) - 1 - i - 1) = (l.length : Int) - 1 - (i + 1) := by rw [w64 (by omega) (by omega)]; omega
    rw [e1, e2]
    refine Ev.pos (by omega) (Ev.pos (by omega) (Ev.pos (by omega) (Ev.pos (by omega) (Ev.pos (by omega) (Ev.neg hb (Ev.pos (by omega) (Ev.pure rfl (Ev.pos (by simp; omega) ?_))))))))
    have ih := rvAdd_l0 l b hb hl m (i + 1) (out ++ [Int.tmod (wrap64 (wrap64 (rd l ((l.length : Int) - 1 - i) + rd l i) + c)) b]) (cs ++ [wrap64 (Int.tdiv (wrap64 (wrap64 (rd l ((l.length : Int) - 1 - i) + rd l i) + c)) b)]) (wrap64 (Int.tdiv (wrap64 (wrap64 (rd l ((l.length : Int) - 1 - i) + rd l i) + c)) b)) (by omega) (by omega) (by simp; omega) (by simp; omega)
    simp only [List.reverse_append, List.reverse_cons, List.reverse_nil, List.nil_append] at ih
    exact ih
def sumOf (l : List Int) (b : Int) : List Int := (ad l b l.length 0 [] [] 0).1.reverse
def carries (l : List Int) (b : Int) : List Int := (ad l b l.length 0 [] [] 0).2
theorem sum_len (l : List Int) (b : Int) : l.length ≤ (sumOf l b).length ∧ (sumOf l b).length ≤ l.length + 1 ∧ (carries l b).length = l.length := by
  have := ad_len l b l.length 0 [] [] 0
  unfold sumOf carries
  simp only [List.length_nil] at this
  rw [List.length_reverse]
  omega
theorem sum_ev {l : List Int} {b : Int} (hb : b ≠ 0) (hl : l.length ≤ 1000) : Ev (fun k => impl_summed.f k l b) (sumOf l b, carries l b) ∧ Ev (fun k => spec_rvAdd.f k l b) (sumOf l b, carries l b) := by
  have h1 := summed_l0 l b hb hl l.length 0 [] [] 0 (by omega) (by omega) rfl rfl
  have h2 := rvAdd_l0 l b hb hl l.length 0 [] [] 0 (by omega) (by omega) rfl rfl
  refine ⟨h1, ?_⟩
  unfold spec_rvAdd.f
  rw [w64 (by omega) (by omega)]
  rw [Int.sub_zero] at h2
  exact h2

theorem law_ev (l : List Int) (b : Int) (hL : l.length ≤ 1048576) : ∃ r : List Int × Bool, r.1.length ≤ 1000 ∧ Ev (fun k => spec_CarriesOf.f k l b) r ∧ Ev (fun k => impl_CarriesOf.f k l b) r := by
  unfold spec_CarriesOf.f impl_CarriesOf.f
  rw [isLong_eq]
  have hg := rvGood_ev l b hL
  cases hq : gd l b
  · rw [hq] at hg
    exact ⟨([], false), by simp, Ev.bind hg (Ev.neg (by simp) (Ev.now _)), Ev.pure rfl (Ev.neg (by simp) (Ev.now _))⟩
  · rw [hq] at hg
    have hv := gd_len hq
    have hs := sum_ev (l := l) (b := b) (by omega) (by omega)
    have hlen := sum_len l b
    exact ⟨(carries l b, true), by simp only; omega, Ev.bind hg (Ev.pos rfl (Ev.bind hs.2 (Ev.now _))), Ev.pure rfl (Ev.pos rfl (Ev.bind hs.1 (Ev.now _)))⟩

theorem FnExactCarriesOf : laws_FnExactCarriesOf.Pure := by
  intro l b hm hl hw hb
  apply Ev.rounds
  unfold laws_FnExactCarriesOf.f
  by_cases h : (l.length : Int) > 1048576
  · exact Ev.pos h (Ev.now _)
  · refine Ev.neg h ?_
    have hL : l.length ≤ 1048576 := by omega
    have ht := toInt_ev l hL
    obtain ⟨⟨x, y⟩, hx, hs, hi⟩ := law_ev l b hL
    simp only at hx
    have he := eq_ev x (by omega)
    have hel := eq_ev l (by omega)
    have hml := mark_ev l (by omega)
    have hm := mark_ev x (by omega)
    have hh := held_ev x.length (by omega)
    refine Ev.bind ht (Ev.bind hs (Ev.bind ht (Ev.bind hi (Ev.bind he (Ev.pos rfl ?_)))))
    refine Ev.step (fun k => by rw [laws_FnExactCarriesOf.j0]) ?_
    refine Ev.neg (by simp) (Ev.bind ht (Ev.bind hel (Ev.pos rfl (Ev.bind hml (Ev.neg (not_neg _) (Ev.bind he (Ev.pos rfl ?_)))))))
    refine Ev.step (fun k => by rw [laws_FnExactCarriesOf.j1]) ?_
    refine Ev.neg (by simp) (Ev.bind hm (Ev.bind hh (Ev.neg (not_neg _) (Ev.pos rfl (Ev.bind ht (Ev.bind hi (Ev.bind he (Ev.pos rfl ?_))))))))
    refine Ev.step (fun k => by rw [laws_FnExactCarriesOf.j2]) ?_
    exact Ev.neg (by simp) (Ev.bind hh (Ev.neg (not_neg _) (Ev.pos rfl (Ev.now _))))

end Go.Proofs.Ytaocjhoilbgaoaa.Pure
