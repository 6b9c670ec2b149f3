/- For all ints n and base, the program's ProductRun gives what the reference's gives, twice, in memory of its own. No conditions. -/
import Derived.Test.YtpmhbpapchmeiaaPFnExactProductRunx3
namespace Go.Proofs.Ytpmhbpapchmeiaa.Pure
open Go.RowKit Go.Proofs.Ytpmhbpapchmeiaa.PFnExactProductRun Go.Proofs.YtpmhbpapchmeiaaW.PrintWords Go.Proofs.YtpmhbpapchmeiaaW.PrintLast

theorem wf_i64 {x : Int} (h : (Lit.int .i64 x).wf = true) : -9223372036854775808 ≤ x ∧ x ≤ 9223372036854775807 := by
  simp only [Lit.wf, Bool.and_eq_true, decide_eq_true_eq, show IntKind.i64.min = -9223372036854775808 from rfl, show IntKind.i64.max = 9223372036854775807 from rfl] at h
  exact h
theorem w64 {x : Int} (h0 : -9223372036854775808 ≤ x) (h1 : x ≤ 9223372036854775807) : wrap64 x = x := by unfold wrap64; omega
theorem Ev.pos {α : Type} {c : Prop} [Decidable c] {A B : Nat → Option α} {r : α} (h : c) (e : Ev A r) : Ev (fun k => if c then A k else B k) r := by simpa only [if_pos h] using e
theorem Ev.neg {α : Type} {c : Prop} [Decidable c] {A B : Nat → Option α} {r : α} (h : ¬ c) (e : Ev B r) : Ev (fun k => if c then A k else B k) r := by simpa only [if_neg h] using e
theorem Ev.val {α : Type} {a r : α} (h : a = r) : Ev (fun _ => some a) r := h ▸ Ev.now a
theorem Ev.pure {α β : Type} {o : Option α} {f : Nat → α → Option β} {a : α} {r : β} (h : o = some a) (k : Ev (fun n => f n a) r) : Ev (fun n => o.bind (f n)) r := by subst h; exact k
theorem Ev.call {α β : Type} {g : Nat → Option α} {f : Nat → α → Option β} {a : α} {r : β} (h : Ev g a) (k : Ev (fun n => f n a) r) : Ev (fun n => (g n).bind (f n)) r := Ev.bind h k
theorem Ev.same {α : Type} {g f : Nat → Option α} {r : α} (h : ∀ k, g k = f k) (k : Ev g r) : Ev f r := Ev.congr (fun k => (h k).symm) k

theorem div_lt_of {n d : Int} (hn : 1 ≤ n) (hd : 2 ≤ d) : n / d < n := by
  apply Int.ediv_lt_of_lt_mul (by omega)
  have : n * 2 ≤ n * d := Int.mul_le_mul_of_nonneg_left hd (by omega)
  omega
theorem div_ge {n d : Int} (hn : 0 ≤ n) (hd : 2 ≤ d) : 0 ≤ n / d := Int.ediv_nonneg hn (by omega)
theorem div_le {n d : Int} (hn : 0 ≤ n) (hd : 2 ≤ d) : n / d ≤ n := by
  by_cases h : n = 0
  · subst h; simp
  · have := div_lt_of (n := n) (d := d) (by omega) hd; omega
theorem div_pos_of {n d : Int} (hn : 1 ≤ n) (hd : 2 ≤ d) (h : n % d = 0) : 1 ≤ n / d := by
  have e := Int.mul_ediv_add_emod n d
  have h0 : 0 ≤ n / d := div_ge (by omega) hd
  by_cases hz : n / d = 0
  · rw [hz, h] at e; simp at e; omega
  · omega
theorem tmod_of {a b : Int} (h : 0 ≤ a) : Int.tmod a b = a % b := Int.tmod_eq_emod_of_nonneg h
theorem tdiv_of {a b : Int} (h : 0 ≤ a) : Int.tdiv a b = a / b := Int.tdiv_eq_ediv_of_nonneg h

def cnt (x : Int) : Nat → List Int
  | 0 => []
  | m + 1 => x :: cnt (x + 1) m
theorem cnt_length : ∀ (m : Nat) (x : Int), (cnt x m).length = m
  | 0, _ => rfl
  | m + 1, x => by simp [cnt, cnt_length m]
theorem rd_mid (pre rest : List Int) (a : Int) : rd (pre ++ a :: rest) (pre.length : Int) = a := by simp [rd]
theorem mark_l0 : ∀ (rest pre : List Int) (x i : Int), i = (pre.length : Int) → pre.length + rest.length ≤ 4611686018427387904 → 0 ≤ x → x + rest.length ≤ 4611686018427387904 →
    Ev (fun k => laws_markIntS.l0 k (pre ++ rest) x i) (x + rest.length, pre ++ cnt x rest.length)
  | [], pre, x, i, hi, hl, hx, hx2 => by
    refine Ev.step (fun k => by rw [laws_markIntS.l0]) (Ev.neg (by simp; omega) (Ev.val ?_))
    simp [cnt]
  | a :: rest, pre, x, i, hi, hl, hx, hx2 => by
    simp only [List.length_cons] at hl hx2
    refine Ev.step (fun k => by rw [laws_markIntS.l0]) (Ev.pos (by simp; omega) (Ev.pos (by omega) ?_))
    rw [w64 (x := x + 1) (by omega) (by omega), w64 (x := i + 1) (by omega) (by omega)]
    have e : (pre ++ a :: rest).set i.toNat x = (pre ++ [x]) ++ rest := by subst hi; simp
    have ih := mark_l0 rest (pre ++ [x]) (x + 1) (i + 1) (by simp; omega) (by simp; omega) (by omega) (by omega)
    rw [e]
    have e2 : (x + ((a :: rest).length : Int), pre ++ cnt x (a :: rest).length) = (x + 1 + (rest.length : Int), (pre ++ [x]) ++ cnt (x + 1) rest.length) := by
      simp [cnt]; omega
    rw [e2]; exact ih
theorem held_l0 : ∀ (m : Nat) (pre : List Int) (x i : Int), i = (pre.length : Int) → pre.length + m ≤ 4611686018427387904 → 0 ≤ x → x + m ≤ 4611686018427387904 →
    Ev (fun k => laws_heldIntS.l0 k (pre ++ cnt x m) x i) (x + m)
  | 0, pre, x, i, hi, hl, hx, hx2 => by
    refine Ev.step (fun k => by rw [laws_heldIntS.l0]) (Ev.neg (by simp [cnt]; omega) (Ev.val ?_))
    simp
  | m + 1, pre, x, i, hi, hl, hx, hx2 => by
    have hr : rd (pre ++ cnt x (m + 1)) i = x := by rw [hi, cnt]; exact rd_mid _ _ _
    refine Ev.step (fun k => by rw [laws_heldIntS.l0]) (Ev.pos (by simp [cnt_length]; omega) (Ev.pos (by omega) (Ev.pos hr ?_)))
    rw [w64 (x := x + 1) (by omega) (by omega), w64 (x := i + 1) (by omega) (by omega)]
    have ih := held_l0 m (pre ++ [x]) (x + 1) (i + 1) (by simp; omega) (by simp; omega) (by omega) (by omega)
    have e : pre ++ cnt x (m + 1) = (pre ++ [x]) ++ cnt (x + 1) m := by simp [cnt]
    have e2 : x + ((m + 1 : Nat) : Int) = x + 1 + (m : Int) := by omega
    rw [e, e2]; exact ih
theorem eq_l0 (l : List Int) (hl : l.length ≤ 4611686018427387904) : ∀ (m : Nat) (i : Int), 0 ≤ i → ((l.length : Int) - i).toNat < m → Ev (fun k => laws_eqIntS.l0 k l l i) true
  | 0, _, _, h => by omega
  | m + 1, i, h0, h => by
    by_cases hlt : i < (l.length : Int)
    · refine Ev.step (fun k => by rw [laws_eqIntS.l0]) (Ev.pos hlt (Ev.pos h0 (Ev.pos hlt (Ev.pos rfl ?_))))
      rw [w64 (by omega) (by omega)]
      exact eq_l0 l hl m (i + 1) (by omega) (by omega)
    · exact Ev.step (fun k => by rw [laws_eqIntS.l0]) (Ev.neg hlt (Ev.now _))
theorem eq_ev (l : List Int) (hl : l.length ≤ 4611686018427387904) : Ev (fun k => laws_eqIntS.f k l l) true := Ev.pos rfl (eq_l0 l hl _ 0 (by omega) (Nat.lt_succ_self _))
theorem mark_ev (l : List Int) (hl : l.length ≤ 4000000000000000000) : Ev (fun k => laws_markIntS.f k l 1) (1 + l.length, cnt 1 l.length) := by
  have := mark_l0 l [] 1 0 (by simp) (by simp; omega) (by omega) (by omega)
  unfold laws_markIntS.f
  simpa using this
theorem held_ev (m : Nat) (hl : m ≤ 4000000000000000000) : Ev (fun k => laws_heldIntS.f k (cnt 1 m) 1) (1 + m) := by
  have := held_l0 m [] 1 0 (by simp) (by simp; omega) (by omega) (by omega)
  unfold laws_heldIntS.f
  simpa using this
theorem not_neg (n : Nat) : ¬ 1 + (n : Int) < 0 := by omega

def asked (n base : Int) : Prop := (0 ≤ n ∧ n ≤ 1000000000000) ∧ (2 ≤ base ∧ base ≤ 16)
instance (n base : Int) : Decidable (asked n base) := by unfold asked; infer_instance
theorem spec_l1In_eq (a b c : Int) : spec_l1In.f a b c = some (decide (b ≤ a ∧ a ≤ c)) := by
  unfold spec_l1In.f
  by_cases h : b ≤ a
  · rw [if_pos (show a ≥ b from h)]; simp [h]
  · rw [if_neg (show ¬ a ≥ b from h)]; simp [h]
theorem impl_in_eq (a b c : Int) : impl_in.f a b c = some (decide (b ≤ a ∧ a ≤ c)) := by
  unfold impl_in.f
  by_cases h : b ≤ a
  · rw [if_pos h]; simp [h]
  · rw [if_neg h]; simp [h]
theorem spec_dgBase_eq (b : Int) : spec_dgBase.f b = some (decide (2 ≤ b ∧ b ≤ 16)) := by
  unfold spec_dgBase.f
  rw [spec_l1In_eq]; simp
theorem impl_isBase_eq (b : Int) : impl_isBase.f b = some (decide (2 ≤ b ∧ b ≤ 16)) := by
  unfold impl_isBase.f
  rw [impl_in_eq]; simp

theorem spec_dgAsked_eq (a b : Int) : spec_dgAsked.f a b = some (decide (asked a b)) := by
  unfold spec_dgAsked.f spec_dgNumber.f asked
  rw [spec_dgBase_eq, spec_l1In_eq]
  by_cases h : 0 ≤ a ∧ a ≤ 1000000000000
  · simp [h]
  · simp [h]
theorem impl_isNumber_eq (a b : Int) : impl_isNumber.f a b = some (decide (asked a b)) := by
  unfold impl_isNumber.f asked
  rw [impl_isBase_eq, impl_in_eq]
  by_cases h : 0 ≤ a ∧ a ≤ 1000000000000
  · simp [h]
  · simp [h]

/-- the digits of a number, the least place first; none of 0 -/
def dl (b n : Int) : List Int := if _h : 1 ≤ n ∧ 2 ≤ b then (n % b) :: dl b (n / b) else []
termination_by n.toNat
decreasing_by have := div_lt_of _h.1 _h.2; omega
theorem dl_pos {b n : Int} (h : 1 ≤ n) (hb : 2 ≤ b) : dl b n = (n % b) :: dl b (n / b) := by rw [dl]; simp [h, hb]
theorem dl_zero (b : Int) : dl b 0 = [] := by rw [dl]; simp
/-- the digits, the greatest place first -/
def ds (b n : Int) : List Int := if n = 0 then [0] else (dl b n).reverse
theorem dl_len {b : Int} (hb : 2 ≤ b) : ∀ (k : Nat) (n : Int), 0 ≤ n → n < 2 ^ k → (dl b n).length ≤ k
  | 0, n, h0, h => by
    obtain rfl : n = 0 := by omega
    simp [dl_zero]
  | k + 1, n, h0, h => by
    by_cases hn : 1 ≤ n
    · rw [dl_pos hn hb]
      have h2 : (2 : Int) ^ k * 2 ≤ 2 ^ k * b := Int.mul_le_mul_of_nonneg_left hb (Int.pow_nonneg (by omega))
      have h1 : n / b < 2 ^ k := Int.ediv_lt_of_lt_mul (by omega) (by rw [Int.pow_succ] at h; omega)
      have := dl_len hb k (n / b) (div_ge h0 hb) h1
      simp; omega
    · obtain rfl : n = 0 := by omega
      simp [dl_zero]
theorem dl_len40 {b n : Int} (hb : 2 ≤ b) (h0 : 0 ≤ n) (h : n ≤ 1000000000001) : (dl b n).length ≤ 40 := dl_len hb 40 n h0 (by omega)
theorem dl_mem {b : Int} (hb : 2 ≤ b) : ∀ (m : Nat) (n : Int), n.toNat < m → ∀ x ∈ dl b n, 0 ≤ x ∧ x < b
  | 0, n, h => by omega
  | m + 1, n, h => by
    intro x hx
    by_cases hn : 1 ≤ n
    · rw [dl_pos hn hb] at hx
      rcases List.mem_cons.mp hx with rfl | hx
      · exact ⟨Int.emod_nonneg _ (by omega), Int.emod_lt_of_pos _ (by omega)⟩
      · exact dl_mem hb m (n / b) (by have := div_lt_of hn hb; have := div_ge (n := n) (by omega) hb; omega) x hx
    · rw [dl] at hx; simp [hn] at hx
theorem ds_len {b n : Int} (hb : 2 ≤ b) (h0 : 0 ≤ n) (h : n ≤ 1000000000001) : (ds b n).length ≤ 40 := by
  unfold ds
  split
  · simp
  · simpa using dl_len40 hb h0 h
theorem ds_mem {b n : Int} (hb : 2 ≤ b) : ∀ x ∈ ds b n, 0 ≤ x ∧ x < b := by
  intro x hx
  unfold ds at hx
  split at hx
  · simp at hx; omega
  · exact dl_mem hb _ n (Nat.lt_succ_self _) x (by simpa using hx)
theorem ds_ne {b n : Int} (hb : 2 ≤ b) (h0 : 0 ≤ n) : ds b n ≠ [] := by
  unfold ds
  split
  · simp
  · rw [dl_pos (by omega) hb]; simp

theorem rev_l0 : ∀ (m : Nat) (A M B : List Int) (i j : Int), M.length < m → i = (A.length : Int) → j = (A.length : Int) + M.length - 1 → A.length + M.length + B.length ≤ 4611686018427387904 →
    Ev (fun k => slices_Reverse_int_int.l0 k (A ++ M ++ B) i j) (A ++ M.reverse ++ B)
  | 0, _, _, _, _, _, h, _, _, _ => by omega
  | m + 1, A, M, B, i, j, h, hi, hj, hl => by
    match M, h, hj, hl with
    | [], h, hj, hl =>
      refine Ev.step (fun k => by rw [slices_Reverse_int_int.l0]) (Ev.neg (by simp at hj; omega) (Ev.val (by simp)))
    | [a], h, hj, hl =>
      refine Ev.step (fun k => by rw [slices_Reverse_int_int.l0]) (Ev.neg (by simp at hj; omega) (Ev.val (by simp)))
    | a :: c :: M', h, hj, hl =>
      obtain ⟨M2, b, hM⟩ : ∃ M2 b, c :: M' = M2 ++ [b] := ⟨_, _, (List.dropLast_concat_getLast (by simp : c :: M' ≠ [])).symm⟩
      rw [hM] at h hj hl ⊢
      simp only [List.length_cons, List.length_append, List.length_nil] at h hj hl
      have r1 : rd (A ++ (a :: (M2 ++ [b])) ++ B) i = a := by subst hi; simp [rd]
      have r2 : rd (A ++ (a :: (M2 ++ [b])) ++ B) j = b := by
        have : j.toNat = A.length + (M2.length + 1) := by omega
        simp [rd, this]
      have e : ((A ++ (a :: (M2 ++ [b])) ++ B).set i.toNat b).set j.toNat a = (A ++ [b]) ++ M2 ++ (a :: B) := by
        have e1 : j.toNat = (A ++ (b :: M2)).length := by simp; omega
        have e0 : i.toNat = A.length := by omega
        have s1 : (A ++ (a :: (M2 ++ [b])) ++ B).set i.toNat b = (A ++ (b :: M2)) ++ b :: B := by rw [e0]; simp
        rw [s1, e1]; simp
      refine Ev.step (fun k => by rw [slices_Reverse_int_int.l0]) (Ev.pos (by omega) (Ev.pos (by omega) (Ev.pos (by simp; omega) (Ev.pos (by omega) (Ev.pos (by simp; omega) ?_)))))
      rw [r1, r2, e, w64 (x := i + 1) (by omega) (by omega), w64 (x := j - 1) (by omega) (by omega)]
      have ih := rev_l0 m (A ++ [b]) M2 (a :: B) (i + 1) (j - 1) (by omega) (by simp; omega) (by simp; omega) (by simp; omega)
      have e2 : A ++ (a :: (M2 ++ [b])).reverse ++ B = (A ++ [b]) ++ M2.reverse ++ (a :: B) := by simp
      rw [e2]; exact ih
theorem rev_ev (l : List Int) (hl : l.length ≤ 4000000000000000000) : Ev (fun k => slices_Reverse_int_int.f k l) l.reverse := by
  have := rev_l0 _ [] l [] 0 ((l.length : Int) - 1) (Nat.lt_succ_self _) (by simp) (by simp) (by simp; omega)
  unfold slices_Reverse_int_int.f
  rw [w64 (by omega) (by omega)]
  simpa using this

theorem dgOf_l0 {b : Int} (hb : 2 ≤ b) : ∀ (m : Nat) (n : Int) (acc : List Int), 0 ≤ n → n ≤ 1000000000001 → n.toNat < m → acc.length + n.toNat < 17592186044416 → Ev (fun k => spec_dgOf.l0 k n b acc) ((dl b n).reverse ++ acc)
  | 0, _, _, _, _, h, _ => by omega
  | m + 1, n, acc, h0, h1, h, hl => by
    by_cases hn : n > 0
    · have hlt := div_lt_of (show 1 ≤ n by omega) hb
      have hge := div_ge h0 hb
      refine Ev.step (fun k => by rw [spec_dgOf.l0]) ?_
      refine Ev.pos hn (Ev.neg (by omega) (Ev.pure rfl (Ev.pos (by simp; omega) ?_)))
      rw [tdiv_of h0, tmod_of h0, w64 (by omega) (by omega), dl_pos (by omega) hb]
      have ih := dgOf_l0 hb m (n / b) ([n % b] ++ acc) hge (by omega) (by omega) (by simp; omega)
      simpa using ih
    · obtain rfl : n = 0 := by omega
      exact Ev.step (fun k => by rw [spec_dgOf.l0]) (Ev.neg hn (Ev.val (by simp [dl_zero])))
theorem dgOf_ev {b n : Int} (hb : 2 ≤ b) (h0 : 0 ≤ n) (h1 : n ≤ 1000000000001) : Ev (fun k => spec_dgOf.f k n b) (ds b n) := by
  unfold spec_dgOf.f ds
  by_cases h : n = 0
  · rw [if_pos h]; exact Ev.pos h (Ev.now _)
  · rw [if_neg h]
    have := dgOf_l0 hb _ n [] h0 h1 (Nat.lt_succ_self _) (by simp; omega)
    exact Ev.neg h (by simpa using this)
theorem digitsOf_l0 {b : Int} (hb : 2 ≤ b) : ∀ (m : Nat) (n : Int) (acc : List Int), 0 ≤ n → n ≤ 1000000000001 → n.toNat < m → acc.length + n.toNat < 17592186044416 → Ev (fun k => impl_digitsOf.l0 k n b acc) ((acc ++ dl b n).reverse)
  | 0, _, _, _, _, h, _ => by omega
  | m + 1, n, acc, h0, h1, h, hl => by
    by_cases hn : n > 0
    · have hlt := div_lt_of (show 1 ≤ n by omega) hb
      have hge := div_ge h0 hb
      refine Ev.step (fun k => by rw [impl_digitsOf.l0]) (Ev.pos hn (Ev.neg (by omega) (Ev.pos (by omega) ?_)))
      rw [tdiv_of h0, tmod_of h0, w64 (by omega) (by omega), dl_pos (by omega) hb]
      have ih := digitsOf_l0 hb m (n / b) (acc ++ [n % b]) hge (by omega) (by omega) (by simp; omega)
      simpa using ih
    · obtain rfl : n = 0 := by omega
      refine Ev.step (fun k => by rw [impl_digitsOf.l0]) (Ev.neg hn (Ev.bind (rev_ev acc (by omega)) (Ev.val (by simp [dl_zero]))))
theorem digitsOf_ev {b n : Int} (hb : 2 ≤ b) (h0 : 0 ≤ n) (h1 : n ≤ 1000000000001) : Ev (fun k => impl_digitsOf.f k n b) (ds b n) := by
  unfold impl_digitsOf.f ds
  have hle := div_le h0 hb
  have hge := div_ge h0 hb
  refine Ev.neg (by omega) ?_
  rw [tdiv_of h0, tmod_of h0, w64 (by omega) (by omega)]
  have := digitsOf_l0 hb _ (n / b) [n % b] hge (by omega) (Nat.lt_succ_self _) (by simp; omega)
  by_cases h : n = 0
  · rw [if_pos h]
    subst h
    simpa [dl_zero] using this
  · rw [if_neg h, dl_pos (by omega) hb]
    simpa using this

theorem rd_at' (pre rest : List Int) (a i : Int) (hi : i = (pre.length : Int)) : rd (pre ++ a :: rest) i = a := by subst hi; simp [rd]
/-- the product as int makes it -/
def wprod (s : Int) : List Int → Int
  | [] => s
  | a :: l => wprod (wrap64 (s * a)) l
theorem dgProduct_l0 (L : List Int) (hL : L.length ≤ 1000000) : ∀ (rest pre : List Int) (s i : Int), L = pre ++ rest → i = (pre.length : Int) →
    Ev (fun k => spec_dgProduct.l0 k s L (L.length : Int) i) (wprod s rest) ∧ Ev (fun k => impl_digitProduct.l0 k s L (L.length : Int) i) (wprod s rest)
  | [], pre, s, i, h, hi => by
    subst h
    constructor
    · refine Ev.step (fun k => by rw [spec_dgProduct.l0]) ?_
      exact Ev.neg (by simp; omega) (Ev.now _)
    · refine Ev.step (fun k => by rw [impl_digitProduct.l0]) ?_
      exact Ev.neg (by simp; omega) (Ev.now _)
  | a :: rest, pre, s, i, h, hi => by
    have hlen : L.length = pre.length + (rest.length + 1) := by subst h; simp
    have hr : rd L i = a := by rw [h]; exact rd_at' _ _ _ _ hi
    have ih := dgProduct_l0 L hL rest (pre ++ [a]) (wrap64 (s * a)) (i + 1) (by rw [h]; simp) (by simp; omega)
    constructor
    · refine Ev.step (fun k => by rw [spec_dgProduct.l0]) (Ev.pos (by omega) (Ev.pos (by omega) (Ev.pos (by omega) ?_)))
      rw [hr, w64 (x := i + 1) (by omega) (by omega)]
      exact ih.1
    · refine Ev.step (fun k => by rw [impl_digitProduct.l0]) (Ev.pos (by omega) (Ev.pos (by omega) (Ev.pos (by omega) ?_)))
      rw [hr, w64 (x := i + 1) (by omega) (by omega)]
      exact ih.2
theorem dgProduct_ev (L : List Int) (hL : L.length ≤ 1000000) : Ev (fun k => spec_dgProduct.f k L) (wprod 1 L) := (dgProduct_l0 L hL L [] 1 0 rfl rfl).1
theorem digitProduct_ev {b n : Int} (hb : 2 ≤ b) (h0 : 0 ≤ n) (h1 : n ≤ 1000000000001) : Ev (fun k => impl_digitProduct.f k n b) (wprod 1 (ds b n)) := by
  have hl := ds_len hb h0 h1
  exact Ev.bind (digitsOf_ev hb h0 h1) (dgProduct_l0 (ds b n) (by omega) _ [] 1 0 rfl rfl).2

theorem wprod_app (l : List Int) : ∀ (s a : Int), wprod s (l ++ [a]) = wrap64 (wprod s l * a) := by
  induction l with
  | nil => intro s a; rfl
  | cons b l ih => intro s a; simp only [List.cons_append, wprod]; exact ih _ _
/-- the product of the digits is not greater than the number, and less where there are two or more -/
theorem wprod_le {b : Int} (hb : 2 ≤ b) : ∀ (m : Nat) (n : Int), n.toNat < m → 1 ≤ n → n ≤ 1000000000001 → 0 ≤ wprod 1 (dl b n).reverse ∧ wprod 1 (dl b n).reverse ≤ n ∧ (b ≤ n → wprod 1 (dl b n).reverse < n)
  | 0, n, h, _, _ => by omega
  | m + 1, n, h, h1, h2 => by
    have e := Int.mul_ediv_add_emod n b
    have m0 := Int.emod_nonneg n (show b ≠ 0 by omega)
    have m1 := Int.emod_lt_of_pos n (show 0 < b by omega)
    rw [dl_pos h1 hb, List.reverse_cons, wprod_app]
    by_cases hlt : n < b
    · have hz : n / b = 0 := Int.ediv_eq_zero_of_lt (by omega) hlt
      have hq : n % b = n := Int.emod_eq_of_lt (by omega) hlt
      rw [hz, dl_zero, hq]
      simp only [List.reverse_nil, wprod]
      rw [Int.one_mul, w64 (by omega) (by omega)]
      omega
    · have hd := div_lt_of h1 hb
      have hp : 1 ≤ n / b := by
        by_cases hz : n / b = 0
        · rw [hz] at e; simp at e; omega
        · have := div_ge (n := n) (by omega) hb; omega
      obtain ⟨i1, i2, _⟩ := wprod_le hb m (n / b) (by omega) hp (by omega)
      have p0 : 0 ≤ wprod 1 (dl b (n / b)).reverse * (n % b) := Int.mul_nonneg i1 m0
      have p1 : wprod 1 (dl b (n / b)).reverse * (n % b) ≤ (n / b) * (b - 1) := Int.mul_le_mul i2 (by omega) m0 (by omega)
      have p2 : (n / b) * (b - 1) = b * (n / b) - n / b := by rw [Int.mul_sub, Int.mul_comm]; simp
      rw [w64 (by omega) (by omega)]
      omega
theorem ds_prod_lt {b n : Int} (hb : 2 ≤ b) (h : b ≤ n) (h2 : n ≤ 1000000000001) : 0 ≤ wprod 1 (ds b n) ∧ wprod 1 (ds b n) < n := by
  unfold ds
  rw [if_neg (by omega)]
  have := wprod_le hb _ n (Nat.lt_succ_self _) (by omega) h2
  exact ⟨this.1, this.2.2 h⟩

theorem run_l0 {b : Int} (hb : 2 ≤ b) : ∀ (m : Nat) (n : Int) (l : List Int), 0 ≤ n → n ≤ 1000000000000 → n.toNat < m → l.length + n.toNat ≤ 1000000000001 → 1 ≤ l.length →
    ∃ r : List Int, 1 ≤ r.length ∧ r.length ≤ 1000000000001 ∧ Ev (fun k => spec_prRun.l0 k n b false l) r ∧ Ev (fun k => impl_down.l0 k n b l) r
  | 0, _, _, _, _, h, _, _ => by omega
  | m + 1, n, l, h0, h1, h, hl, hne => by
    by_cases hn : n ≥ b
    · have ht := ds_prod_lt hb hn (by omega)
      have hd := dgOf_ev hb h0 (show n ≤ 1000000000001 by omega)
      have hlen := ds_len hb h0 (show n ≤ 1000000000001 by omega)
      have hs := dgProduct_ev (ds b n) (by omega)
      have hi := digitProduct_ev hb h0 (show n ≤ 1000000000001 by omega)
      obtain ⟨r, r1, r2, gs, gi⟩ := run_l0 hb m (wprod 1 (ds b n)) (l ++ [wprod 1 (ds b n)]) ht.1 (by omega) (by omega) (by simp; omega) (by simp)
      refine ⟨r, r1, r2, ?_, ?_⟩
      · refine Ev.step (fun k => by rw [spec_prRun.l0]) ?_
        exact Ev.pos hn (Ev.neg (by simp) (Ev.bind hd (Ev.bind hs (Ev.pos (by omega) gs))))
      · refine Ev.step (fun k => by rw [impl_down.l0]) ?_
        exact Ev.pos hn (Ev.bind hi (Ev.pos (by omega) gi))
    · refine ⟨l, hne, by omega, ?_, ?_⟩
      · refine Ev.step (fun k => by rw [spec_prRun.l0]) ?_
        exact Ev.neg hn (Ev.now _)
      · refine Ev.step (fun k => by rw [impl_down.l0]) ?_
        exact Ev.neg hn (Ev.now _)
theorem run_ev {n b : Int} (h : asked n b) : ∃ r : List Int, 1 ≤ r.length ∧ r.length ≤ 1000000000001 ∧ Ev (fun k => spec_prRun.f k n b false) r ∧ Ev (fun k => impl_down.f k n b) r := by
  unfold asked at h
  obtain ⟨r, r1, r2, gs, gi⟩ := run_l0 h.2.1 _ n [n] h.1.1 h.1.2 (Nat.lt_succ_self _) (by simp; omega) (by simp)
  exact ⟨r, r1, r2, gs, gi⟩

theorem pr_ev (n b : Int) : ∃ r : List Int × Bool, r.1.length ≤ 1000000000001 ∧ Ev (fun k => spec_ProductRun.f k n b) r ∧ Ev (fun k => impl_ProductRun.f k n b) r := by
  unfold spec_ProductRun.f impl_ProductRun.f
  rw [spec_dgAsked_eq, impl_isNumber_eq]
  by_cases h : asked n b
  · obtain ⟨r, _, r2, gs, gi⟩ := run_ev h
    exact ⟨(r, true), r2, Ev.pure rfl (Ev.pos (decide_eq_true h) (Ev.bind gs (Ev.now _))), Ev.pure rfl (Ev.pos (decide_eq_true h) (Ev.bind gi (Ev.now _)))⟩
  · exact ⟨([], false), by simp, Ev.pure rfl (Ev.neg (by simp [h]) (Ev.now _)), Ev.pure rfl (Ev.neg (by simp [h]) (Ev.now _))⟩

theorem FnExactProductRun : laws_FnExactProductRun.Pure := by
  intro a0 a1 hw hw1
  apply Ev.rounds
  obtain ⟨⟨l, ok⟩, hl, hs, hi⟩ := pr_ev a0 a1
  simp only at hl
  have he := eq_ev l (by omega)
  have hm := mark_ev l (by omega)
  have hh := held_ev l.length (by omega)
  refine Ev.bind hs (Ev.bind hi (Ev.bind he (Ev.pos rfl ?_)))
  refine Ev.step (fun k => by rw [laws_FnExactProductRun.j0]) (Ev.neg (by simp) (Ev.bind hm (Ev.bind hh (Ev.neg (not_neg _) (Ev.pos rfl (Ev.bind hi (Ev.bind he (Ev.pos rfl ?_))))))))
  exact Ev.step (fun k => by rw [laws_FnExactProductRun.j1]) (Ev.neg (by simp) (Ev.bind hh (Ev.neg (not_neg _) (Ev.pos rfl (Ev.now _)))))

end Go.Proofs.Ytpmhbpapchmeiaa.Pure
