/- For every list of ints and every int base, the program's SubtractReversed gives what the reference's gives, twice, in memory of its own, and leaves the list as it is. No conditions. -/
import Derived.Test.YtaocjhoilbgaoaaPFnExactSubtractReversedx5
namespace Go.Proofs.Ytaocjhoilbgaoaa.Pure
open Go.RowKit Go.Proofs.Ytaocjhoilbgaoaa.PFnExactSubtractReversed Go.Proofs.YtaocjhoilbgaoaaW.PrintWords Go.Proofs.YtaocjhoilbgaoaaW.PrintLast

theorem wf_i64 {x : Int} (h : (Lit.int .i64 x).wf = true) : -9223372036854775808 ≤ x ∧ x ≤ 9223372036854775807 := by
  simp only [Lit.wf, Bool.and_eq_true, decide_eq_true_eq, show IntKind.i64.min = -9223372036854775808 from rfl, show IntKind.i64.max = 9223372036854775807 from rfl] at h
  exact h
theorem w64 {x : Int} (h0 : -9223372036854775808 ≤ x) (h1 : x ≤ 9223372036854775807) : wrap64 x = x := by unfold wrap64; omega
theorem Ev.pos {α : Type} {c : Prop} [Decidable c] {A B : Nat → Option α} {r : α} (h : c) (e : Ev A r) : Ev (fun k => if c then A k else B k) r := by simpa only [if_pos h] using e
theorem Ev.neg {α : Type} {c : Prop} [Decidable c] {A B : Nat → Option α} {r : α} (h : ¬ c) (e : Ev B r) : Ev (fun k => if c then A k else B k) r := by simpa only [if_neg h] using e
theorem Ev.val {α : Type} {a r : α} (h : a = r) : Ev (fun _ => some a) r := h ▸ Ev.now a
theorem Ev.pure {α β : Type} {o : Option α} {f : Nat → α → Option β} {a : α} {r : β} (h : o = some a) (k : Ev (fun n => f n a) r) : Ev (fun n => o.bind (f n)) r := by subst h; exact k
theorem Ev.call {α β : Type} {g : Nat → Option α} {f : Nat → α → Option β} {a : α} {r : β} (h : Ev g a) (k : Ev (fun n => f n a) r) : Ev (fun n => (g n).bind (f n)) r := Ev.bind h k
theorem Ev.same {α : Type} {g f : Nat → Option α} {r : α} (h : ∀ k, g k = f k) (k : Ev g r) : Ev f r := Ev.congr (fun k => (h k).symm) k

def cnt (x : Int) : Nat → List Int
  | 0 => []
  | m + 1 => x :: cnt (x + 1) m
theorem cnt_length : ∀ (m : Nat) (x : Int), (cnt x m).length = m
  | 0, _ => rfl
  | m + 1, x => by simp [cnt, cnt_length m]
theorem rd_mid (pre rest : List Int) (a : Int) : rd (pre ++ a :: rest) (pre.length : Int) = a := by simp [rd]
theorem mark_l0 : ∀ (rest pre : List Int) (x i : Int), i = (pre.length : Int) → pre.length + rest.length ≤ 4611686018427387904 → 0 ≤ x → x + rest.length ≤ 4611686018427387904 →
    Ev (fun k => laws_markIntS.l0 k (pre ++ rest) x i) (x + rest.length, pre ++ cnt x rest.length)
  | [], pre, x, i, hi, hl, hx, hx2 => by
    refine Ev.step (fun k => by rw [laws_markIntS.l0]) (Ev.neg (by simp; omega) (Ev.val ?_))
    simp [cnt]
  | a :: rest, pre, x, i, hi, hl, hx, hx2 => by
    simp only [List.length_cons] at hl hx2
    refine Ev.step (fun k => by rw [laws_markIntS.l0]) (Ev.pos (by simp; omega) (Ev.pos (by omega) ?_))
    rw [w64 (x := x + 1) (by omega) (by omega), w64 (x := i + 1) (by omega) (by omega)]
    have e : (pre ++ a :: rest).set i.toNat x = (pre ++ [x]) ++ rest := by subst hi; simp
    have ih := mark_l0 rest (pre ++ [x]) (x + 1) (i + 1) (by simp; omega) (by simp; omega) (by omega) (by omega)
    rw [e]
    have e2 : (x + ((a :: rest).length : Int), pre ++ cnt x (a :: rest).length) = (x + 1 + (rest.length : Int), (pre ++ [x]) ++ cnt (x + 1) rest.length) := by
      simp [cnt]; omega
    rw [e2]; exact ih
theorem held_l0 : ∀ (m : Nat) (pre : List Int) (x i : Int), i = (pre.length : Int) → pre.length + m ≤ 4611686018427387904 → 0 ≤ x → x + m ≤ 4611686018427387904 →
    Ev (fun k => laws_heldIntS.l0 k (pre ++ cnt x m) x i) (x + m)
  | 0, pre, x, i, hi, hl, hx, hx2 => by
    refine Ev.step (fun k => by rw [laws_heldIntS.l0]) (Ev.neg (by simp [cnt]; omega) (Ev.val ?_))
    simp
  | m + 1, pre, x, i, hi, hl, hx, hx2 => by
    have hr : rd (pre ++ cnt x (m + 1)) i = x := by rw [hi, cnt]; exact rd_mid _ _ _
    refine Ev.step (fun k => by rw [laws_heldIntS.l0]) (Ev.pos (by simp [cnt_length]; omega) (Ev.pos (by omega) (Ev.pos hr ?_)))
    rw [w64 (x := x + 1) (by omega) (by omega), w64 (x := i + 1) (by omega) (by omega)]
    have ih := held_l0 m (pre ++ [x]) (x + 1) (i + 1) (by simp; omega) (by simp; omega) (by omega) (by omega)
    have e : pre ++ cnt x (m + 1) = (pre ++ [x]) ++ cnt (x + 1) m := by simp [cnt]
    have e2 : x + ((m + 1 : Nat) : Int) = x + 1 + (m : Int) := by omega
    rw [e, e2]; exact ih
theorem eq_l0 (l : List Int) (hl : l.length ≤ 4611686018427387904) : ∀ (m : Nat) (i : Int), 0 ≤ i → ((l.length : Int) - i).toNat < m → Ev (fun k => laws_eqIntS.l0 k l l i) true
  | 0, _, _, h => by omega
  | m + 1, i, h0, h => by
    by_cases hlt : i < (l.length : Int)
    · refine Ev.step (fun k => by rw [laws_eqIntS.l0]) (Ev.pos hlt (Ev.pos h0 (Ev.pos hlt (Ev.pos rfl ?_))))
      rw [w64 (by omega) (by omega)]
      exact eq_l0 l hl m (i + 1) (by omega) (by omega)
    · exact Ev.step (fun k => by rw [laws_eqIntS.l0]) (Ev.neg hlt (Ev.now _))
theorem eq_ev (l : List Int) (hl : l.length ≤ 4611686018427387904) : Ev (fun k => laws_eqIntS.f k l l) true := Ev.pos rfl (eq_l0 l hl _ 0 (by omega) (Nat.lt_succ_self _))

theorem mark_ev (l : List Int) (hl : l.length ≤ 4000000000000000000) : Ev (fun k => laws_markIntS.f k l 1) (1 + l.length, cnt 1 l.length) := by
  have := mark_l0 l [] 1 0 (by simp) (by simp; omega) (by omega) (by omega)
  unfold laws_markIntS.f
  simpa using this
theorem held_ev (m : Nat) (hl : m ≤ 4000000000000000000) : Ev (fun k => laws_heldIntS.f k (cnt 1 m) 1) (1 + m) := by
  have := held_l0 m [] 1 0 (by simp) (by simp; omega) (by omega) (by omega)
  unfold laws_heldIntS.f
  simpa using this
theorem not_neg (n : Nat) : ¬ 1 + (n : Int) < 0 := by omega

theorem toInt_l0 (L : List Int) (hL : L.length ≤ 1048576) : ∀ (rest pre : List Int) (i : Int), L = pre ++ rest → i = (pre.length : Int) → Ev (fun k => laws_toIntS.l0 k L (pre ++ List.replicate rest.length 0) i) L
  | [], pre, i, h, hi => by
    refine Ev.step (fun k => by rw [laws_toIntS.l0]) ?_
    exact Ev.neg (by rw [h]; simp; omega) (Ev.val (by rw [h]; simp))
  | a :: rest, pre, i, h, hi => by
    have hlen : L.length = pre.length + (rest.length + 1) := by rw [h]; simp
    have hr : rd L i = a := by rw [h, hi]; simp [rd]
    have e : (pre ++ List.replicate (a :: rest).length 0).set i.toNat a = (pre ++ [a]) ++ List.replicate rest.length 0 := by
      have : i.toNat = pre.length := by omega
      rw [this, List.length_cons, List.replicate_succ]; simp
    have ih := toInt_l0 L hL rest (pre ++ [a]) (i + 1) (by rw [h]; simp) (by simp; omega)
    refine Ev.step (fun k => by rw [laws_toIntS.l0]) ?_
    refine Ev.pos (by omega) (Ev.pos (by omega) (Ev.pos (by simp; omega) ?_))
    rw [hr, e, w64 (by omega) (by omega)]
    exact ih
theorem toInt_ev (L : List Int) (hL : L.length ≤ 1048576) : Ev (fun k => laws_toIntS.f k L) L := by
  unfold laws_toIntS.f
  refine Ev.pos (by omega) (Ev.pos (by omega) ?_)
  have := toInt_l0 L hL L [] 0 rfl rfl
  simpa using this

theorem spec_l1In_eq (a b c : Int) : spec_l1In.f a b c = some (decide (b ≤ a ∧ a ≤ c)) := by
  unfold spec_l1In.f
  by_cases h : b ≤ a
  · rw [if_pos (show a ≥ b from h)]; simp [h]
  · rw [if_neg (show ¬ a ≥ b from h)]; simp [h]
theorem impl_in_eq (a b c : Int) : impl_in.f a b c = some (decide (b ≤ a ∧ a ≤ c)) := by
  unfold impl_in.f
  by_cases h : b ≤ a
  · rw [if_pos h]; simp [h]
  · rw [if_neg h]; simp [h]
theorem spec_dgBase_eq (b : Int) : spec_dgBase.f b = some (decide (2 ≤ b ∧ b ≤ 16)) := by
  unfold spec_dgBase.f
  rw [spec_l1In_eq]; simp
theorem impl_isBase_eq (b : Int) : impl_isBase.f b = some (decide (2 ≤ b ∧ b ≤ 16)) := by
  unfold impl_isBase.f
  rw [impl_in_eq]; simp

/-- valid digits, at most 40 -/
def gd (l : List Int) (b : Int) : Bool := decide (2 ≤ b ∧ b ≤ 16) && (decide (1 ≤ (l.length : Int) ∧ (l.length : Int) ≤ 40) && (impl_areIn.all 0 (b - 1) l && (decide (rd l 0 > 0) || ((l.length : Int) == 1))))
theorem l1All_l0 (L : List Int) (hL : L.length ≤ 1048576) (lo hi : Int) : ∀ (rest pre : List Int) (i : Int), L = pre ++ rest → i = (pre.length : Int) → Ev (fun k => spec_l1All.l0 k lo hi L (L.length : Int) i) (impl_areIn.all lo hi rest)
  | [], pre, i, h, hi' => by
    refine Ev.step (fun k => by rw [spec_l1All.l0]) ?_
    exact Ev.neg (by rw [h]; simp; omega) (Ev.val rfl)
  | a :: rest, pre, i, h, hi' => by
    have hlen : L.length = pre.length + (rest.length + 1) := by rw [h]; simp
    have hr : rd L i = a := by rw [h, hi']; simp [rd]
    have ih := l1All_l0 L hL lo hi rest (pre ++ [a]) (i + 1) (by rw [h]; simp) (by simp; omega)
    refine Ev.step (fun k => by rw [spec_l1All.l0]) ?_
    rw [hr, w64 (by omega) (by omega)]
    refine Ev.pos (by omega) (Ev.pos (by omega) (Ev.pos (by omega) (Ev.pure (spec_l1In_eq _ _ _) ?_)))
    by_cases hc : lo ≤ a ∧ a ≤ hi
    · refine Ev.pos (decide_eq_true hc) ?_
      have e : impl_areIn.all lo hi (a :: rest) = impl_areIn.all lo hi rest := by simp [impl_areIn.all, impl_areIn.ok, hc]
      rw [e]; exact ih
    · refine Ev.neg (by simp [hc]) (Ev.val ?_)
      simp only [impl_areIn.all, impl_areIn.ok, List.all_cons]
      rw [show (decide (lo ≤ a) && decide (a ≤ hi)) = false by rw [← Bool.decide_and]; exact decide_eq_false hc]
      rfl
theorem l1All_ev (L : List Int) (hL : L.length ≤ 1048576) (lo hi : Int) : Ev (fun k => spec_l1All.f k L lo hi) (impl_areIn.all lo hi L) := l1All_l0 L hL lo hi L [] 0 rfl rfl
theorem rvGood_ev (L : List Int) (b : Int) (hL : L.length ≤ 1048576) : Ev (fun k => spec_rvGood.f k L b) (gd L b) := by
  unfold spec_rvGood.f gd
  refine Ev.pure (spec_dgBase_eq b) ?_
  by_cases hb : 2 ≤ b ∧ b ≤ 16
  · refine Ev.pos (decide_eq_true hb) (Ev.pure (spec_l1In_eq _ _ _) ?_)
    rw [decide_eq_true hb, Bool.true_and]
    by_cases hl : 1 ≤ (L.length : Int) ∧ (L.length : Int) ≤ 40
    · refine Ev.pos (decide_eq_true hl) ?_
      rw [decide_eq_true hl, Bool.true_and, w64 (by omega) (by omega)]
      refine Ev.bind (l1All_ev L hL 0 (b - 1)) ?_
      cases impl_areIn.all 0 (b - 1) L
      · exact Ev.neg (by simp) (Ev.val rfl)
      · refine Ev.pos rfl (Ev.pos (by omega) ?_)
        by_cases h0 : rd L 0 > 0
        · exact Ev.pos h0 (Ev.val (by simp [h0]))
        · exact Ev.neg h0 (Ev.val (by simp [h0]))
    · refine Ev.neg (by simp only [decide_eq_true_eq]; exact hl) (Ev.val ?_)
      rw [decide_eq_false hl]; rfl
  · refine Ev.neg (by simp only [decide_eq_true_eq]; exact hb) (Ev.val ?_)
    rw [decide_eq_false hb]; rfl
theorem isLong_eq (L : List Int) (b : Int) : impl_isLong.f L b = some (gd L b) := by
  unfold impl_isLong.f gd impl_areDigits.f impl_areIn.f
  rw [impl_isBase_eq]
  by_cases hb : 2 ≤ b ∧ b ≤ 16
  · simp only [Option.bind_some, decide_eq_true hb, if_true, Bool.true_and]
    rw [w64 (by omega) (by omega), ← Bool.decide_and]
    by_cases hl : 1 ≤ (L.length : Int) ∧ (L.length : Int) ≤ 40
    · rw [decide_eq_true hl, Bool.true_and]
      cases impl_areIn.all 0 (b - 1) L
      · simp
      · have hpos : 0 < (L.length : Int) := by omega
        have h40 : (L.length : Int) ≤ 40 := hl.2
        simp only [if_true, hpos, h40, decide_true, Bool.true_and]
        by_cases h0 : rd L 0 > 0
        · simp [h0]
        · simp only [h0, if_false, decide_false, Bool.false_or, Option.bind_some]
          cases ((L.length : Int) == 1) <;> rfl
    · rw [decide_eq_false hl]; simp
  · simp only [Option.bind_some, decide_eq_false hb]; simp
theorem gd_len {L : List Int} {b : Int} (h : gd L b = true) : (2 ≤ b ∧ b ≤ 16) ∧ 1 ≤ L.length ∧ L.length ≤ 40 ∧ (∀ x ∈ L, 0 ≤ x ∧ x < b) := by
  unfold gd at h
  simp only [Bool.and_eq_true, decide_eq_true_eq] at h
  refine ⟨h.1, by omega, by omega, fun x hx => ?_⟩
  have := h.2.2.1
  simp only [impl_areIn.all, impl_areIn.ok, List.all_eq_true, Bool.and_eq_true, decide_eq_true_eq] at this
  have := this x hx
  omega

theorem rev_l0 : ∀ (m : Nat) (A M B : List Int) (i j : Int), M.length < m → i = (A.length : Int) → j = (A.length : Int) + M.length - 1 → A.length + M.length + B.length ≤ 4611686018427387904 →
    Ev (fun k => slices_Reverse_int_int.l0 k (A ++ M ++ B) i j) (A ++ M.reverse ++ B)
  | 0, _, _, _, _, _, h, _, _, _ => by omega
  | m + 1, A, M, B, i, j, h, hi, hj, hl => by
    match M, h, hj, hl with
    | [], h, hj, hl =>
      refine Ev.step (fun k => by rw [slices_Reverse_int_int.l0]) (Ev.neg (by simp at hj; omega) (Ev.val (by simp)))
    | [a], h, hj, hl =>
      refine Ev.step (fun k => by rw [slices_Reverse_int_int.l0]) (Ev.neg (by simp at hj; omega) (Ev.val (by simp)))
    | a :: c :: M', h, hj, hl =>
      obtain ⟨M2, b, hM⟩ : ∃ M2 b, c :: M' = M2 ++ [b] := ⟨_, _, (List.dropLast_concat_getLast (by simp : c :: M' ≠ [])).symm⟩
      rw [hM] at h hj hl ⊢
      simp only [List.length_cons, List.length_append, List.length_nil] at h hj hl
      have r1 : rd (A ++ (a :: (M2 ++ [b])) ++ B) i = a := by subst hi; simp [rd]
      have r2 : rd (A ++ (a :: (M2 ++ [b])) ++ B) j = b := by
        have : j.toNat = A.length + (M2.length + 1) := by omega
        simp [rd, this]
      have e : ((A ++ (a :: (M2 ++ [b])) ++ B).set i.toNat b).set j.toNat a = (A ++ [b]) ++ M2 ++ (a :: B) := by
        have e1 : j.toNat = (A ++ (b :: M2)).length := by simp; omega
        have e0 : i.toNat = A.length := by omega
        have s1 : (A ++ (a :: (M2 ++ [b])) ++ B).set i.toNat b = (A ++ (b :: M2)) ++ b :: B := by rw [e0]; simp
        rw [s1, e1]; simp
      refine Ev.step (fun k => by rw [slices_Reverse_int_int.l0]) (Ev.pos (by omega) (Ev.pos (by omega) (Ev.pos (by simp; omega) (Ev.pos (by omega) (Ev.pos (by simp; omega) ?_)))))
      rw [r1, r2, e, w64 (x := i + 1) (by omega) (by omega), w64 (x := j - 1) (by omega) (by omega)]
      have ih := rev_l0 m (A ++ [b]) M2 (a :: B) (i + 1) (j - 1) (by omega) (by simp; omega) (by simp; omega) (by simp; omega)
      have e2 : A ++ (a :: (M2 ++ [b])).reverse ++ B = (A ++ [b]) ++ M2.reverse ++ (a :: B) := by simp
      rw [e2]; exact ih
theorem rev_ev (l : List Int) (hl : l.length ≤ 4000000000000000000) : Ev (fun k => slices_Reverse_int_int.f k l) l.reverse := by
  have := rev_l0 _ [] l [] 0 ((l.length : Int) - 1) (Nat.lt_succ_self _) (by simp) (by simp) (by simp; omega)
  unfold slices_Reverse_int_int.f
  rw [w64 (by omega) (by omega)]
  simpa using this

theorem reversed_ev (L : List Int) (hL : L.length ≤ 1048576) : Ev (fun k => impl_reversed.f k L) L.reverse := by
  unfold impl_reversed.f
  exact Ev.pure (show slices_Clone_int_int.f L = some L by unfold slices_Clone_int_int.f; rw [if_pos (by omega)]) (Ev.bind (rev_ev L (by omega)) (Ev.now _))

theorem back_l0 (L : List Int) (hL : L.length ≤ 1048576) : ∀ (m : Nat) (i : Int) (acc : List Int), m ≤ L.length → i = (m : Int) - 1 → acc.length + m ≤ 1048576 → Ev (fun k => spec_dgBack.l0 k L acc i) (acc ++ (L.take m).reverse)
  | 0, i, acc, h, hi, ha => by
    refine Ev.step (fun k => by rw [spec_dgBack.l0]) ?_
    exact Ev.neg (by omega) (Ev.val (by simp))
  | m + 1, i, acc, h, hi, ha => by
    have hr : rd L i = L[m] := by
      have : i.toNat = m := by omega
      simp [rd, this, List.getElem?_eq_getElem (show m < L.length by omega)]
    have ih := back_l0 L hL m (i - 1) (acc ++ [rd L i]) (by omega) (by omega) (by simp; omega)
    refine Ev.step (fun k => by rw [spec_dgBack.l0]) ?_
    refine Ev.pos (by omega) (Ev.pos (by omega) (Ev.pos (by omega) (Ev.pos (by omega) ?_)))
    rw [w64 (by omega) (by omega)]
    have e : acc ++ (L.take (m + 1)).reverse = (acc ++ [rd L i]) ++ (L.take m).reverse := by
      rw [List.take_succ_eq_append_getElem (show m < L.length by omega), hr]; simp
    rw [e]; exact ih
theorem back_ev (L : List Int) (hL : L.length ≤ 1048576) : Ev (fun k => spec_dgBack.f k L) L.reverse := by
  have := back_l0 L hL L.length ((L.length : Int) - 1) [] (Nat.le_refl _) rfl (by simp; omega)
  unfold spec_dgBack.f
  rw [w64 (by omega) (by omega)]
  simpa using this

/-- the number that digits stand for, behind an accumulator -/
def vl (b acc : Int) (l : List Int) : Int := l.foldl (fun a x => a * b + x) acc
theorem vl_cons (b acc x : Int) (t : List Int) : vl b acc (x :: t) = vl b (acc * b + x) t := rfl
theorem vl_snoc (b acc x : Int) (t : List Int) : vl b acc (t ++ [x]) = vl b acc t * b + x := by simp [vl]
theorem vl_lt {b : Int} (hb : 2 ≤ b) : ∀ (r s : List Int) (u v : Int), r.length = s.length → (∀ x ∈ r, 0 ≤ x ∧ x < b) → (∀ x ∈ s, 0 ≤ x ∧ x < b) → u + 1 ≤ v → vl b u r + 1 ≤ vl b v s
  | [], [], u, v, _, _, _, h => h
  | [], _ :: _, _, _, h, _, _, _ => by simp at h
  | _ :: _, [], _, _, h, _, _, _ => by simp at h
  | x :: r, y :: s, u, v, hl, hr, hs, h => by
    rw [vl_cons, vl_cons]
    refine vl_lt hb r s _ _ (by simpa using hl) (fun z hz => hr z (List.mem_cons_of_mem _ hz)) (fun z hz => hs z (List.mem_cons_of_mem _ hz)) ?_
    have h1 := hr x List.mem_cons_self
    have h2 := hs y List.mem_cons_self
    have h3 : (u + 1) * b ≤ v * b := Int.mul_le_mul_of_nonneg_right h (by omega)
    rw [Int.add_mul, Int.one_mul] at h3
    omega
theorem cmpInt_eq (x y : Int) : cmp_Compare_int.f x y = some (if x < y then -1 else if x > y then 1 else 0) := by
  unfold cmp_Compare_int.f cmp_isNaN_int.f
  simp
  split
  · rfl
  · split <;> rfl
theorem cmp_l0 {b : Int} (hb : 2 ≤ b) (A B : List Int) (hL : A.length ≤ 1048576) (hAB : A.length = B.length) : ∀ (r s pre : List Int) (i u : Int), A = pre ++ r → B = pre ++ s → i = (pre.length : Int) → (∀ x ∈ r, 0 ≤ x ∧ x < b) → (∀ x ∈ s, 0 ≤ x ∧ x < b) →
    ∃ (lt : Bool) (c : Int), Ev (fun k => spec_rvLess.l0 k A B (A.length : Int) i) lt ∧ Ev (fun k => slices_Compare_int_int.l0 k A B A (A.length : Int) i) c ∧ ((c < 0) ↔ lt = true) ∧ (lt = false → vl b u s ≤ vl b u r) ∧ (lt = true → vl b u r ≤ vl b u s) := by
  intro r
  induction r with
  | nil =>
    intro s pre i u hA hB hi _ _
    have hs : s = [] := by
      have := congrArg List.length hA; have h2 := congrArg List.length hB
      simp only [List.length_append, List.length_nil] at this h2
      exact List.length_eq_zero_iff.mp (by omega)
    subst hs
    have hl : A.length = pre.length := by rw [hA]; simp
    refine ⟨false, 0, ?_, ?_, by simp, fun _ => Int.le_refl _, fun h => by cases h⟩
    · refine Ev.step (fun k => by rw [spec_rvLess.l0]) ?_
      exact Ev.neg (by omega) (Ev.now _)
    · refine Ev.step (fun k => by rw [slices_Compare_int_int.l0]) ?_
      exact Ev.neg (by omega) (Ev.neg (by omega) (Ev.now _))
  | cons x r ih =>
    intro s pre i u hA hB hi hr hs
    have hlA : A.length = pre.length + (r.length + 1) := by rw [hA]; simp
    cases s with
    | nil => rw [hB] at hAB; simp at hAB; omega
    | cons y s =>
      have hlB : B.length = pre.length + (s.length + 1) := by rw [hB]; simp
      have hx : rd A i = x := by rw [hA, hi]; exact rd_mid _ _ _
      have hy : rd B i = y := by rw [hB, hi]; exact rd_mid _ _ _
      have hxr := hr x List.mem_cons_self
      have hys := hs y List.mem_cons_self
      have hr' : ∀ z ∈ r, 0 ≤ z ∧ z < b := fun z hz => hr z (List.mem_cons_of_mem _ hz)
      have hs' : ∀ z ∈ s, 0 ≤ z ∧ z < b := fun z hz => hs z (List.mem_cons_of_mem _ hz)
      by_cases he : x = y
      · subst he
        obtain ⟨lt, c, h1, h2, h3, h4, h5⟩ := ih s (pre ++ [x]) (i + 1) (u * b + x) (by rw [hA]; simp) (by rw [hB]; simp) (by simp; omega) hr' hs'
        refine ⟨lt, c, ?_, ?_, h3, h4, h5⟩
        · refine Ev.step (fun k => by rw [spec_rvLess.l0]) ?_
          refine Ev.pos (by omega) (Ev.pos (by omega) (Ev.pos (by omega) (Ev.pos (by omega) (Ev.pos (by rw [hx, hy]) ?_))))
          rw [w64 (by omega) (by omega)]; exact h1
        · refine Ev.step (fun k => by rw [slices_Compare_int_int.l0]) ?_
          refine Ev.pos (by omega) (Ev.pos (by omega) (Ev.pos (by omega) (Ev.neg (by omega) (Ev.pos (by omega) (Ev.pure (cmpInt_eq _ _) ?_)))))
          refine Ev.pos (by rw [hx, hy]; simp) ?_
          rw [w64 (by omega) (by omega)]; exact h2
      · refine ⟨decide (x < y), if x < y then -1 else 1, ?_, ?_, ?_, ?_, ?_⟩
        · refine Ev.step (fun k => by rw [spec_rvLess.l0]) ?_
          exact Ev.pos (by omega) (Ev.pos (by omega) (Ev.pos (by omega) (Ev.pos (by omega) (Ev.neg (by rw [hx, hy]; exact he) (Ev.val (by rw [hx, hy]))))))
        · refine Ev.step (fun k => by rw [slices_Compare_int_int.l0]) ?_
          refine Ev.pos (by omega) (Ev.pos (by omega) (Ev.pos (by omega) (Ev.neg (by omega) (Ev.pos (by omega) (Ev.pure (cmpInt_eq _ _) ?_)))))
          rw [hx, hy]
          by_cases hlt : x < y
          · rw [if_pos hlt, if_pos hlt]; exact Ev.neg (by omega) (Ev.now _)
          · rw [if_neg hlt, if_neg hlt, if_pos (by omega)]; exact Ev.neg (by omega) (Ev.now _)
        · by_cases hlt : x < y
          · simp [hlt]
          · simp [hlt]
        · intro h
          have hlt : ¬ x < y := by simpa using h
          have := vl_lt hb s r (u * b + y) (u * b + x) (by omega) hs' hr' (by omega)
          rw [vl_cons, vl_cons]; omega
        · intro h
          have hlt : x < y := by simpa using h
          have := vl_lt hb r s (u * b + x) (u * b + y) (by omega) hr' hs' (by omega)
          rw [vl_cons, vl_cons]; omega
/-- the zeros in front are cut alike -/
theorem trim_l1 (X : List Int) (hX : X.length ≤ 1048576) : ∀ (r pre : List Int) (z : Int) (i : Int), X = pre ++ z :: r → i = (pre.length : Int) →
    ∃ o : List Int × Bool, o.1.length ≤ X.length ∧ Ev (fun k => spec_SubtractReversed.l1 k X i) o ∧ Ev (fun k => impl_SubtractReversed.l1 k (z :: r)) o := by
  have w1 : wrap64 ((X.length : Int) - 1) = (X.length : Int) - 1 := w64 (by omega) (by omega)
  intro r
  induction r with
  | nil =>
    intro pre z i hXp hi
    have hl : X.length = pre.length + 1 := by rw [hXp]; simp
    have hd : X.drop i.toNat = [z] := by rw [hXp, hi]; simp
    refine ⟨([z], true), by simp; omega, ?_, ?_⟩
    · refine Ev.step (fun k => by rw [spec_SubtractReversed.l1]) ?_
      exact Ev.neg (by rw [w1]; omega) (Ev.pos (by omega) (Ev.pos (by omega) (Ev.val (by rw [hd]))))
    · refine Ev.step (fun k => by rw [impl_SubtractReversed.l1]) ?_
      exact Ev.neg (by simp) (Ev.pure (by unfold slices_Clone_int_int.f; exact if_pos (by simp)) (Ev.now _))
  | cons z2 r ih =>
    intro pre z i hXp hi
    have hl : X.length = pre.length + (r.length + 2) := by rw [hXp]; simp
    have hz : rd X i = z := by rw [hXp, hi]; exact rd_mid _ _ _
    by_cases h0 : z = 0
    · obtain ⟨o, h1, h2, h3⟩ := ih (pre ++ [z]) z2 (i + 1) (by rw [hXp]; simp) (by simp; omega)
      refine ⟨o, h1, ?_, ?_⟩
      · refine Ev.step (fun k => by rw [spec_SubtractReversed.l1]) ?_
        refine Ev.pos (by rw [w1]; omega) (Ev.pos (by omega) (Ev.pos (by omega) (Ev.pos (by rw [hz]; exact h0) ?_)))
        rw [w64 (by omega) (by omega)]; exact h2
      · refine Ev.step (fun k => by rw [impl_SubtractReversed.l1]) ?_
        exact Ev.pos (by simp; omega) (Ev.pos (by simp; omega) (Ev.pos (by simpa [rd] using h0) (Ev.pos (by simp; omega) h3)))
    · have hd : X.drop i.toNat = z :: z2 :: r := by rw [hXp, hi]; simp
      refine ⟨(z :: z2 :: r, true), by simp; omega, ?_, ?_⟩
      · refine Ev.step (fun k => by rw [spec_SubtractReversed.l1]) ?_
        exact Ev.pos (by rw [w1]; omega) (Ev.pos (by omega) (Ev.pos (by omega) (Ev.neg (by rw [hz]; exact h0) (Ev.pos (by omega) (Ev.val (by rw [hd]))))))
      · refine Ev.step (fun k => by rw [impl_SubtractReversed.l1]) ?_
        exact Ev.pos (by simp; omega) (Ev.pos (by simp; omega) (Ev.neg (by simpa [rd] using h0) (Ev.pure (by unfold slices_Clone_int_int.f; exact if_pos (by simp; omega)) (Ev.now _))))
theorem set_mid (pre rest : List Int) (a v : Int) (i : Int) (hi : i = (pre.length : Int)) : (pre ++ a :: rest).set i.toNat v = pre ++ v :: rest := by
  subst hi; simp
theorem sub_l0 {b : Int} (hb : 2 ≤ b) (hb16 : b ≤ 16) : ∀ (m : Nat) (PA PB SA SB dn L : List Int) (c : Int), PA.length = m → PB.length = m → dn.length = SA.length → SB.length = SA.length → 1 ≤ m + SA.length → m + SA.length ≤ 40 →
    (∀ x ∈ PA, 0 ≤ x ∧ x < b) → (∀ x ∈ PB, 0 ≤ x ∧ x < b) → (c = 0 ∨ c = 1) → vl b 0 PB + c ≤ vl b 0 PA → (PA = [] → L = dn) → (∀ Q x, PA = Q ++ [x] → L = Q ++ (x - c) :: dn) →
    ∃ o : List Int × Bool, o.1.length ≤ 40 ∧ Ev (fun k => spec_SubtractReversed.l0 k b (PA ++ SA) (PB ++ SB) (List.replicate m 0 ++ dn) c ((m : Int) - 1)) o ∧ Ev (fun k => impl_SubtractReversed.l0 k b L (PB ++ SB) ((m : Int) - 1)) o := by
  intro m
  induction m with
  | zero =>
    intro PA PB SA SB dn L c hPA hPB hdn hSB h1 h40 _ _ hc hv hL0 hL1
    have e : PA = [] := List.length_eq_zero_iff.mp hPA
    subst e
    rw [hL0 rfl]
    cases dn with
    | nil => simp at hdn; omega
    | cons z r =>
      have hlz : (z :: r).length = SA.length := hdn
      obtain ⟨o, h2, h3, h4⟩ := trim_l1 (z :: r) (by omega) r [] z 0 rfl rfl
      refine ⟨o, by omega, ?_, ?_⟩
      · refine Ev.step (fun k => by rw [spec_SubtractReversed.l0]) ?_
        exact Ev.neg (by omega) h3
      · refine Ev.step (fun k => by rw [impl_SubtractReversed.l0]) ?_
        exact Ev.neg (by omega) h4
  | succ m ih =>
    intro PA PB SA SB dn L c hPA hPB hdn hSB h1 h40 hA hB hc hv hL0 hL1
    rcases List.eq_nil_or_concat PA with e | ⟨QA, x, e⟩
    · subst e; simp at hPA
    rcases List.eq_nil_or_concat PB with e2 | ⟨QB, y, e2⟩
    · subst e2; simp at hPB
    have e : PA = QA ++ [x] := by rw [e]; simp
    have e2 : PB = QB ++ [y] := by rw [e2]; simp
    have hL := hL1 QA x e
    subst e e2 hL
    clear hL0 hL1
    have hqa : QA.length = m := by simpa using hPA
    have hqb : QB.length = m := by simpa using hPB
    have hx := hA x (by simp)
    have hy := hB y (by simp)
    have hA' : ∀ z ∈ QA, 0 ≤ z ∧ z < b := fun z hz => hA z (by simp [hz])
    have hB' : ∀ z ∈ QB, 0 ≤ z ∧ z < b := fun z hz => hB z (by simp [hz])
    rw [vl_snoc, vl_snoc] at hv
    generalize hVA : vl b 0 QA = VA at hv
    generalize hVB : vl b 0 QB = VB at hv
    have hi : (((m + 1 : Nat) : Int) - 1) = (m : Int) := by omega
    rw [hi]
    have eA : QA ++ [x] ++ SA = QA ++ x :: SA := by simp
    have eB : QB ++ [y] ++ SB = QB ++ y :: SB := by simp
    have eO : (List.replicate (m + 1) (0 : Int)) ++ dn = List.replicate m 0 ++ 0 :: dn := by rw [List.replicate_succ']; simp
    rw [eA, eB, eO]
    have rA : rd (QA ++ x :: SA) (m : Int) = x := by rw [← hqa]; exact rd_mid _ _ _
    have rB : rd (QB ++ y :: SB) (m : Int) = y := by rw [← hqb]; exact rd_mid _ _ _
    have rL : rd (QA ++ (x - c) :: dn) (m : Int) = x - c := by rw [← hqa]; exact rd_mid _ _ _
    have lA : (QA ++ x :: SA).length = m + SA.length + 1 := by simp; omega
    have lB : (QB ++ y :: SB).length = m + SA.length + 1 := by simp; omega
    have lO : (List.replicate m (0 : Int) ++ 0 :: dn).length = m + SA.length + 1 := by simp; omega
    have lL : (QA ++ (x - c) :: dn).length = m + SA.length + 1 := by simp; omega
    have w1 : wrap64 (x - y) = x - y := w64 (by omega) (by omega)
    have w2 : wrap64 (x - y - c) = x - y - c := w64 (by omega) (by omega)
    have w3 : wrap64 (x - y - c + b) = x - y - c + b := w64 (by omega) (by omega)
    have w4 : wrap64 (x - c - y) = x - y - c := by rw [w64 (by omega) (by omega)]; omega
    have w5 : wrap64 ((m : Int) - 1) = (m : Int) - 1 := w64 (by omega) (by omega)
    have sO : ∀ v, (List.replicate m (0 : Int) ++ 0 :: dn).set ((m : Int)).toNat v = List.replicate m 0 ++ v :: dn := fun v => set_mid _ _ _ _ _ (by simp)
    have sL : ∀ u v, (QA ++ u :: dn).set ((m : Int)).toNat v = QA ++ v :: dn := fun u v => set_mid _ _ _ _ _ (by omega)
    by_cases hneg : x - y - c < 0
    · have hD : VB + 1 ≤ VA := by
        refine Int.not_lt.mp (fun hlt => ?_)
        have h9 : VA * b ≤ VB * b := Int.mul_le_mul_of_nonneg_right (by omega) (by omega)
        omega
      have hm : QA ≠ [] := by
        rintro rfl
        have : QB = [] := List.length_eq_zero_iff.mp (by simp at hqa; omega)
        subst this
        rw [← hVA, ← hVB] at hD
        simp [vl] at hD
      rcases List.eq_nil_or_concat QA with e | ⟨QQ, z, e⟩
      · exact absurd e hm
      have e : QA = QQ ++ [z] := by rw [e]; simp
      have hqq : QQ.length + 1 = m := by rw [e] at hqa; simpa using hqa
      have hz := hA' z (by rw [e]; simp)
      obtain ⟨o, h2, h3, h4⟩ := ih QA QB (x :: SA) (y :: SB) ((x - y - c + b) :: dn) (QQ ++ (z - 1) :: (x - y - c + b) :: dn) 1 hqa hqb (by simp; omega) (by simp; omega) (by simp; omega) (by simp; omega) hA' hB' (.inr rfl) (by rw [hVA, hVB]; omega) (fun h => absurd h hm) (fun Q z' h => by
        rw [e] at h
        obtain ⟨rfl, h5⟩ := List.append_inj' h rfl
        simp at h5
        rw [h5])
      refine ⟨o, h2, ?_, ?_⟩
      · refine Ev.step (fun k => by rw [spec_SubtractReversed.l0]) ?_
        refine Ev.pos (by omega) (Ev.pos (by omega) (Ev.pos (by omega) (Ev.pos (by omega) ?_)))
        rw [rA, rB, w1, w2, w3, w5, sO]
        exact Ev.pos hneg (Ev.pos (by omega) h3)
      · refine Ev.step (fun k => by rw [impl_SubtractReversed.l0]) ?_
        refine Ev.pos (by omega) (Ev.pos (by omega) (Ev.pos (by omega) (Ev.pos (by omega) ?_)))
        rw [rL, rB, w4, w3, w5, sL]
        refine Ev.pure rfl (Ev.pos hneg (Ev.pure rfl (Ev.pos (by omega) (Ev.pos (by omega) ?_))))
        have e3 : (QA ++ (x - y - c) :: dn).set ((m : Int)).toNat (x - y - c + b) = QQ ++ z :: (x - y - c + b) :: dn := by rw [sL, e]; simp
        have e4 : rd (QQ ++ z :: (x - y - c + b) :: dn) ((m : Int) - 1) = z := by
          have : (m : Int) - 1 = (QQ.length : Int) := by omega
          rw [this]; exact rd_mid _ _ _
        rw [e3, e4, set_mid _ _ _ _ _ (by omega), w64 (show (-9223372036854775808 : Int) ≤ z - 1 by omega) (by omega)]
        exact h4
    · have hD : VB ≤ VA := by
        refine Int.not_lt.mp (fun hlt => ?_)
        have h9 : (VA + 1) * b ≤ VB * b := Int.mul_le_mul_of_nonneg_right (by omega) (by omega)
        rw [Int.add_mul, Int.one_mul] at h9
        omega
      obtain ⟨o, h2, h3, h4⟩ := ih QA QB (x :: SA) (y :: SB) ((x - y - c) :: dn) (QA ++ (x - y - c) :: dn) 0 hqa hqb (by simp; omega) (by simp; omega) (by simp; omega) (by simp; omega) hA' hB' (.inl rfl) (by rw [hVA, hVB]; omega) (fun h => by rw [h]; rfl) (fun Q z' h => by rw [h]; simp)
      refine ⟨o, h2, ?_, ?_⟩
      · refine Ev.step (fun k => by rw [spec_SubtractReversed.l0]) ?_
        refine Ev.pos (by omega) (Ev.pos (by omega) (Ev.pos (by omega) (Ev.pos (by omega) ?_)))
        rw [rA, rB, w1, w2, w3, w5, sO, sO]
        exact Ev.neg hneg (Ev.pos (by omega) h3)
      · refine Ev.step (fun k => by rw [impl_SubtractReversed.l0]) ?_
        refine Ev.pos (by omega) (Ev.pos (by omega) (Ev.pos (by omega) (Ev.pos (by omega) ?_)))
        rw [rL, rB, w4, w3, w5, sL]
        exact Ev.pure rfl (Ev.neg hneg h4)

theorem sub_ev {A B : List Int} {b : Int} (hb : 2 ≤ b ∧ b ≤ 16) (hl1 : 1 ≤ A.length) (hl : A.length ≤ 40) (hAB : A.length = B.length) (hA : ∀ x ∈ A, 0 ≤ x ∧ x < b) (hB : ∀ x ∈ B, 0 ≤ x ∧ x < b) (hv : vl b 0 B ≤ vl b 0 A) :
    ∃ o : List Int × Bool, o.1.length ≤ 40 ∧ Ev (fun k => spec_SubtractReversed.j0 k b A B) o ∧ Ev (fun k => impl_SubtractReversed.j0 k b A B) o := by
  obtain ⟨o, h1, h2, h3⟩ := sub_l0 hb.1 hb.2 A.length A B [] [] [] A 0 rfl hAB.symm rfl rfl (by simp; omega) (by simp; omega) hA hB (.inl rfl) (by omega) (fun h => h) (fun Q x h => by rw [h]; simp)
  have w1 : wrap64 ((A.length : Int) - 1) = (A.length : Int) - 1 := w64 (by omega) (by omega)
  simp only [List.append_nil] at h2 h3
  refine ⟨o, h1, ?_, ?_⟩
  · refine Ev.step (fun k => by rw [spec_SubtractReversed.j0]) ?_
    refine Ev.pos (by omega) (Ev.pos (by omega) ?_)
    rw [w1, Int.toNat_natCast]; exact h2
  · refine Ev.step (fun k => by rw [impl_SubtractReversed.j0]) ?_
    rw [w1]; exact h3
theorem law_ev (l : List Int) (b : Int) (hL : l.length ≤ 1048576) : ∃ r : List Int × Bool, r.1.length ≤ 1000 ∧ Ev (fun k => spec_SubtractReversed.f k l b) r ∧ Ev (fun k => impl_SubtractReversed.f k l b) r := by
  unfold spec_SubtractReversed.f impl_SubtractReversed.f
  rw [isLong_eq]
  have hg := rvGood_ev l b hL
  cases hq : gd l b
  · rw [hq] at hg
    exact ⟨([], false), by simp, Ev.bind hg (Ev.neg (by simp) (Ev.now _)), Ev.pure rfl (Ev.neg (by simp) (Ev.now _))⟩
  · rw [hq] at hg
    have hv := gd_len hq
    have hm : ∀ x ∈ l.reverse, 0 ≤ x ∧ x < b := fun x hx => hv.2.2.2 x (List.mem_reverse.mp hx)
    have own : spec_l1Own.f l = some l := by unfold spec_l1Own.f; simp; omega
    have cl : slices_Clone_int_int.f l = some l := by unfold slices_Clone_int_int.f; exact if_pos (by omega)
    have hb := back_ev l hL
    have hr := reversed_ev l hL
    obtain ⟨lt, c, h1, h2, h3, h4, h5⟩ := cmp_l0 hv.1.1 l l.reverse hL (by simp) l l.reverse [] 0 0 rfl rfl rfl hv.2.2.2 hm
    cases lt with
    | true =>
      obtain ⟨o, g1, g2, g3⟩ := sub_ev (A := l.reverse) (B := l) hv.1 (by simp; omega) (by simp; omega) (by simp) hm hv.2.2.2 (h5 rfl)
      refine ⟨o, by omega, ?_, ?_⟩
      · exact Ev.bind hg (Ev.pos rfl (Ev.pure own (Ev.bind hb (Ev.bind h1 (Ev.pos rfl g2)))))
      · exact Ev.pure rfl (Ev.pos rfl (Ev.pure cl (Ev.bind hr (Ev.bind h2 (Ev.pos (h3.mpr rfl) g3)))))
    | false =>
      obtain ⟨o, g1, g2, g3⟩ := sub_ev (A := l) (B := l.reverse) hv.1 (by omega) (by omega) (by simp) hv.2.2.2 hm (h4 rfl)
      refine ⟨o, by omega, ?_, ?_⟩
      · exact Ev.bind hg (Ev.pos rfl (Ev.pure own (Ev.bind hb (Ev.bind h1 (Ev.neg (by simp) g2)))))
      · exact Ev.pure rfl (Ev.pos rfl (Ev.pure cl (Ev.bind hr (Ev.bind h2 (Ev.neg (fun h => by have := h3.mp h; cases this) g3)))))

theorem FnExactSubtractReversed : laws_FnExactSubtractReversed.Pure := by
  intro l b hm hl hw hb
  apply Ev.rounds
  unfold laws_FnExactSubtractReversed.f
  by_cases h : (l.length : Int) > 1048576
  · exact Ev.pos h (Ev.now _)
  · refine Ev.neg h ?_
    have hL : l.length ≤ 1048576 := by omega
    have ht := toInt_ev l hL
    obtain ⟨⟨x, y⟩, hx, hs, hi⟩ := law_ev l b hL
    simp only at hx
    have he := eq_ev x (by omega)
    have hel := eq_ev l (by omega)
    have hml := mark_ev l (by omega)
    have hm := mark_ev x (by omega)
    have hh := held_ev x.length (by omega)
    refine Ev.bind ht (Ev.bind hs (Ev.bind ht (Ev.bind hi (Ev.bind he (Ev.pos rfl ?_)))))
    refine Ev.step (fun k => by rw [laws_FnExactSubtractReversed.j0]) ?_
    refine Ev.neg (by simp) (Ev.bind ht (Ev.bind hel (Ev.pos rfl (Ev.bind hml (Ev.neg (not_neg _) (Ev.bind he (Ev.pos rfl ?_)))))))
    refine Ev.step (fun k => by rw [laws_FnExactSubtractReversed.j1]) ?_
    refine Ev.neg (by simp) (Ev.bind hm (Ev.bind hh (Ev.neg (not_neg _) (Ev.pos rfl (Ev.bind ht (Ev.bind hi (Ev.bind he (Ev.pos rfl ?_))))))))
    refine Ev.step (fun k => by rw [laws_FnExactSubtractReversed.j2]) ?_
    exact Ev.neg (by simp) (Ev.bind hh (Ev.neg (not_neg _) (Ev.pos rfl (Ev.now _))))

end Go.Proofs.Ytaocjhoilbgaoaa.Pure
