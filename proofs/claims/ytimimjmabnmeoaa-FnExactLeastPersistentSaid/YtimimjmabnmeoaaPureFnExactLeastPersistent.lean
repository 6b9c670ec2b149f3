/- For all ints k and base, the program's LeastPersistent gives what the reference's gives. No conditions. -/
import Derived.Test.YtimimjmabnmeoaaPFnExactLeastPersistentx5
namespace Go.Proofs.Ytimimjmabnmeoaa.Pure
open Go.RowKit Go.Proofs.Ytimimjmabnmeoaa.PFnExactLeastPersistent Go.Proofs.YtimimjmabnmeoaaW.PrintWords Go.Proofs.YtimimjmabnmeoaaW.PrintLast

theorem wf_i64 {x : Int} (h : (Lit.int .i64 x).wf = true) : -9223372036854775808 ≤ x ∧ x ≤ 9223372036854775807 := by
  simp only [Lit.wf, Bool.and_eq_true, decide_eq_true_eq, show IntKind.i64.min = -9223372036854775808 from rfl, show IntKind.i64.max = 9223372036854775807 from rfl] at h
  exact h
theorem w64 {x : Int} (h0 : -9223372036854775808 ≤ x) (h1 : x ≤ 9223372036854775807) : wrap64 x = x := by unfold wrap64; omega
theorem Ev.pos {α : Type} {c : Prop} [Decidable c] {A B : Nat → Option α} {r : α} (h : c) (e : Ev A r) : Ev (fun k => if c then A k else B k) r := by simpa only [if_pos h] using e
theorem Ev.neg {α : Type} {c : Prop} [Decidable c] {A B : Nat → Option α} {r : α} (h : ¬ c) (e : Ev B r) : Ev (fun k => if c then A k else B k) r := by simpa only [if_neg h] using e
theorem Ev.val {α : Type} {a r : α} (h : a = r) : Ev (fun _ => some a) r := h ▸ Ev.now a
theorem Ev.pure {α β : Type} {o : Option α} {f : Nat → α → Option β} {a : α} {r : β} (h : o = some a) (k : Ev (fun n => f n a) r) : Ev (fun n => o.bind (f n)) r := by subst h; exact k
theorem Ev.call {α β : Type} {g : Nat → Option α} {f : Nat → α → Option β} {a : α} {r : β} (h : Ev g a) (k : Ev (fun n => f n a) r) : Ev (fun n => (g n).bind (f n)) r := Ev.bind h k
theorem Ev.same {α : Type} {g f : Nat → Option α} {r : α} (h : ∀ k, g k = f k) (k : Ev g r) : Ev f r := Ev.congr (fun k => (h k).symm) k

theorem div_lt_of {n d : Int} (hn : 1 ≤ n) (hd : 2 ≤ d) : n / d < n := by
  apply Int.ediv_lt_of_lt_mul (by omega)
  have : n * 2 ≤ n * d := Int.mul_le_mul_of_nonneg_left hd (by omega)
  omega
theorem div_ge {n d : Int} (hn : 0 ≤ n) (hd : 2 ≤ d) : 0 ≤ n / d := Int.ediv_nonneg hn (by omega)
theorem div_le {n d : Int} (hn : 0 ≤ n) (hd : 2 ≤ d) : n / d ≤ n := by
  by_cases h : n = 0
  · subst h; simp
  · have := div_lt_of (n := n) (d := d) (by omega) hd; omega
theorem div_pos_of {n d : Int} (hn : 1 ≤ n) (hd : 2 ≤ d) (h : n % d = 0) : 1 ≤ n / d := by
  have e := Int.mul_ediv_add_emod n d
  have h0 : 0 ≤ n / d := div_ge (by omega) hd
  by_cases hz : n / d = 0
  · rw [hz, h] at e; simp at e; omega
  · omega
theorem tmod_of {a b : Int} (h : 0 ≤ a) : Int.tmod a b = a % b := Int.tmod_eq_emod_of_nonneg h
theorem tdiv_of {a b : Int} (h : 0 ≤ a) : Int.tdiv a b = a / b := Int.tdiv_eq_ediv_of_nonneg h

theorem spec_l1In_eq (a b c : Int) : spec_l1In.f a b c = some (decide (b ≤ a ∧ a ≤ c)) := by
  unfold spec_l1In.f
  by_cases h : b ≤ a
  · rw [if_pos (show a ≥ b from h)]; simp [h]
  · rw [if_neg (show ¬ a ≥ b from h)]; simp [h]
theorem impl_in_eq (a b c : Int) : impl_in.f a b c = some (decide (b ≤ a ∧ a ≤ c)) := by
  unfold impl_in.f
  by_cases h : b ≤ a
  · rw [if_pos h]; simp [h]
  · rw [if_neg h]; simp [h]
theorem spec_dgBase_eq (b : Int) : spec_dgBase.f b = some (decide (2 ≤ b ∧ b ≤ 16)) := by
  unfold spec_dgBase.f
  rw [spec_l1In_eq]; simp
theorem impl_isBase_eq (b : Int) : impl_isBase.f b = some (decide (2 ≤ b ∧ b ≤ 16)) := by
  unfold impl_isBase.f
  rw [impl_in_eq]; simp

def asked (n base : Int) : Prop := (0 ≤ n ∧ n ≤ 1000000000000) ∧ (2 ≤ base ∧ base ≤ 16)
instance (n base : Int) : Decidable (asked n base) := by unfold asked; infer_instance
theorem rd_mid (pre rest : List Int) (a : Int) : rd (pre ++ a :: rest) (pre.length : Int) = a := by simp [rd]

/-- the digits of a number, the least place first; none of 0 -/
def dl (b n : Int) : List Int := if _h : 1 ≤ n ∧ 2 ≤ b then (n % b) :: dl b (n / b) else []
termination_by n.toNat
decreasing_by have := div_lt_of _h.1 _h.2; omega
theorem dl_pos {b n : Int} (h : 1 ≤ n) (hb : 2 ≤ b) : dl b n = (n % b) :: dl b (n / b) := by rw [dl]; simp [h, hb]
theorem dl_zero (b : Int) : dl b 0 = [] := by rw [dl]; simp
/-- the digits, the greatest place first -/
def ds (b n : Int) : List Int := if n = 0 then [0] else (dl b n).reverse
theorem dl_len {b : Int} (hb : 2 ≤ b) : ∀ (k : Nat) (n : Int), 0 ≤ n → n < 2 ^ k → (dl b n).length ≤ k
  | 0, n, h0, h => by
    obtain rfl : n = 0 := by omega
    simp [dl_zero]
  | k + 1, n, h0, h => by
    by_cases hn : 1 ≤ n
    · rw [dl_pos hn hb]
      have h2 : (2 : Int) ^ k * 2 ≤ 2 ^ k * b := Int.mul_le_mul_of_nonneg_left hb (Int.pow_nonneg (by omega))
      have h1 : n / b < 2 ^ k := Int.ediv_lt_of_lt_mul (by omega) (by rw [Int.pow_succ] at h; omega)
      have := dl_len hb k (n / b) (div_ge h0 hb) h1
      simp; omega
    · obtain rfl : n = 0 := by omega
      simp [dl_zero]
theorem dl_len40 {b n : Int} (hb : 2 ≤ b) (h0 : 0 ≤ n) (h : n ≤ 1000000000001) : (dl b n).length ≤ 40 := dl_len hb 40 n h0 (by omega)
theorem dl_mem {b : Int} (hb : 2 ≤ b) : ∀ (m : Nat) (n : Int), n.toNat < m → ∀ x ∈ dl b n, 0 ≤ x ∧ x < b
  | 0, n, h => by omega
  | m + 1, n, h => by
    intro x hx
    by_cases hn : 1 ≤ n
    · rw [dl_pos hn hb] at hx
      rcases List.mem_cons.mp hx with rfl | hx
      · exact ⟨Int.emod_nonneg _ (by omega), Int.emod_lt_of_pos _ (by omega)⟩
      · exact dl_mem hb m (n / b) (by have := div_lt_of hn hb; have := div_ge (n := n) (by omega) hb; omega) x hx
    · rw [dl] at hx; simp [hn] at hx
theorem ds_len {b n : Int} (hb : 2 ≤ b) (h0 : 0 ≤ n) (h : n ≤ 1000000000001) : (ds b n).length ≤ 40 := by
  unfold ds
  split
  · simp
  · simpa using dl_len40 hb h0 h
theorem ds_mem {b n : Int} (hb : 2 ≤ b) : ∀ x ∈ ds b n, 0 ≤ x ∧ x < b := by
  intro x hx
  unfold ds at hx
  split at hx
  · simp at hx; omega
  · exact dl_mem hb _ n (Nat.lt_succ_self _) x (by simpa using hx)
theorem ds_ne {b n : Int} (hb : 2 ≤ b) (h0 : 0 ≤ n) : ds b n ≠ [] := by
  unfold ds
  split
  · simp
  · rw [dl_pos (by omega) hb]; simp

theorem rev_l0 : ∀ (m : Nat) (A M B : List Int) (i j : Int), M.length < m → i = (A.length : Int) → j = (A.length : Int) + M.length - 1 → A.length + M.length + B.length ≤ 4611686018427387904 →
    Ev (fun k => slices_Reverse_int_int.l0 k (A ++ M ++ B) i j) (A ++ M.reverse ++ B)
  | 0, _, _, _, _, _, h, _, _, _ => by omega
  | m + 1, A, M, B, i, j, h, hi, hj, hl => by
    match M, h, hj, hl with
    | [], h, hj, hl =>
      refine Ev.step (fun k => by rw [slices_Reverse_int_int.l0]) (Ev.neg (by simp at hj; omega) (Ev.val (by simp)))
    | [a], h, hj, hl =>
      refine Ev.step (fun k => by rw [slices_Reverse_int_int.l0]) (Ev.neg (by simp at hj; omega) (Ev.val (by simp)))
    | a :: c :: M', h, hj, hl =>
      obtain ⟨M2, b, hM⟩ : ∃ M2 b, c :: M' = M2 ++ [b] := ⟨_, _, (List.dropLast_concat_getLast (by simp : c :: M' ≠ [])).symm⟩
      rw [hM] at h hj hl ⊢
      simp only [List.length_cons, List.length_append, List.length_nil] at h hj hl
      have r1 : rd (A ++ (a :: (M2 ++ [b])) ++ B) i = a := by subst hi; simp [rd]
      have r2 : rd (A ++ (a :: (M2 ++ [b])) ++ B) j = b := by
        have : j.toNat = A.length + (M2.length + 1) := by omega
        simp [rd, this]
      have e : ((A ++ (a :: (M2 ++ [b])) ++ B).set i.toNat b).set j.toNat a = (A ++ [b]) ++ M2 ++ (a :: B) := by
        have e1 : j.toNat = (A ++ (b :: M2)).length := by simp; omega
        have e0 : i.toNat = A.length := by omega
        have s1 : (A ++ (a :: (M2 ++ [b])) ++ B).set i.toNat b = (A ++ (b :: M2)) ++ b :: B := by rw [e0]; simp
        rw [s1, e1]; simp
      refine Ev.step (fun k => by rw [slices_Reverse_int_int.l0]) (Ev.pos (by omega) (Ev.pos (by omega) (Ev.pos (by simp; omega) (Ev.pos (by omega) (Ev.pos (by simp; omega) ?_)))))
      rw [r1, r2, e, w64 (x := i + 1) (by omega) (by omega), w64 (x := j - 1) (by omega) (by omega)]
      have ih := rev_l0 m (A ++ [b]) M2 (a :: B) (i + 1) (j - 1) (by omega) (by simp; omega) (by simp; omega) (by simp; omega)
      have e2 : A ++ (a :: (M2 ++ [b])).reverse ++ B = (A ++ [b]) ++ M2.reverse ++ (a :: B) := by simp
      rw [e2]; exact ih
theorem rev_ev (l : List Int) (hl : l.length ≤ 4000000000000000000) : Ev (fun k => slices_Reverse_int_int.f k l) l.reverse := by
  have := rev_l0 _ [] l [] 0 ((l.length : Int) - 1) (Nat.lt_succ_self _) (by simp) (by simp) (by simp; omega)
  unfold slices_Reverse_int_int.f
  rw [w64 (by omega) (by omega)]
  simpa using this

theorem dgOf_l0 {b : Int} (hb : 2 ≤ b) : ∀ (m : Nat) (n : Int) (acc : List Int), 0 ≤ n → n ≤ 1000000000001 → n.toNat < m → acc.length + n.toNat < 17592186044416 → Ev (fun k => spec_dgOf.l0 k n b acc) ((dl b n).reverse ++ acc)
  | 0, _, _, _, _, h, _ => by omega
  | m + 1, n, acc, h0, h1, h, hl => by
    by_cases hn : n > 0
    · have hlt := div_lt_of (show 1 ≤ n by omega) hb
      have hge := div_ge h0 hb
      refine Ev.step (fun k => by rw [spec_dgOf.l0]) ?_
      refine Ev.pos hn (Ev.neg (by omega) (Ev.pure rfl (Ev.pos (by simp; omega) ?_)))
      rw [tdiv_of h0, tmod_of h0, w64 (by omega) (by omega), dl_pos (by omega) hb]
      have ih := dgOf_l0 hb m (n / b) ([n % b] ++ acc) hge (by omega) (by omega) (by simp; omega)
      simpa using ih
    · obtain rfl : n = 0 := by omega
      exact Ev.step (fun k => by rw [spec_dgOf.l0]) (Ev.neg hn (Ev.val (by simp [dl_zero])))
theorem dgOf_ev {b n : Int} (hb : 2 ≤ b) (h0 : 0 ≤ n) (h1 : n ≤ 1000000000001) : Ev (fun k => spec_dgOf.f k n b) (ds b n) := by
  unfold spec_dgOf.f ds
  by_cases h : n = 0
  · rw [if_pos h]; exact Ev.pos h (Ev.now _)
  · rw [if_neg h]
    have := dgOf_l0 hb _ n [] h0 h1 (Nat.lt_succ_self _) (by simp; omega)
    exact Ev.neg h (by simpa using this)
theorem digitsOf_l0 {b : Int} (hb : 2 ≤ b) : ∀ (m : Nat) (n : Int) (acc : List Int), 0 ≤ n → n ≤ 1000000000001 → n.toNat < m → acc.length + n.toNat < 17592186044416 → Ev (fun k => impl_digitsOf.l0 k n b acc) ((acc ++ dl b n).reverse)
  | 0, _, _, _, _, h, _ => by omega
  | m + 1, n, acc, h0, h1, h, hl => by
    by_cases hn : n > 0
    · have hlt := div_lt_of (show 1 ≤ n by omega) hb
      have hge := div_ge h0 hb
      refine Ev.step (fun k => by rw [impl_digitsOf.l0]) (Ev.pos hn (Ev.neg (by omega) (Ev.pos (by omega) ?_)))
      rw [tdiv_of h0, tmod_of h0, w64 (by omega) (by omega), dl_pos (by omega) hb]
      have ih := digitsOf_l0 hb m (n / b) (acc ++ [n % b]) hge (by omega) (by omega) (by simp; omega)
      simpa using ih
    · obtain rfl : n = 0 := by omega
      refine Ev.step (fun k => by rw [impl_digitsOf.l0]) (Ev.neg hn (Ev.bind (rev_ev acc (by omega)) (Ev.val (by simp [dl_zero]))))
theorem digitsOf_ev {b n : Int} (hb : 2 ≤ b) (h0 : 0 ≤ n) (h1 : n ≤ 1000000000001) : Ev (fun k => impl_digitsOf.f k n b) (ds b n) := by
  unfold impl_digitsOf.f ds
  have hle := div_le h0 hb
  have hge := div_ge h0 hb
  refine Ev.neg (by omega) ?_
  rw [tdiv_of h0, tmod_of h0, w64 (by omega) (by omega)]
  have := digitsOf_l0 hb _ (n / b) [n % b] hge (by omega) (Nat.lt_succ_self _) (by simp; omega)
  by_cases h : n = 0
  · rw [if_pos h]
    subst h
    simpa [dl_zero] using this
  · rw [if_neg h, dl_pos (by omega) hb]
    simpa using this

theorem rd_at' (pre rest : List Int) (a i : Int) (hi : i = (pre.length : Int)) : rd (pre ++ a :: rest) i = a := by subst hi; simp [rd]
/-- the product as int makes it -/
def wprod (s : Int) : List Int → Int
  | [] => s
  | a :: l => wprod (wrap64 (s * a)) l
theorem dgProduct_l0 (L : List Int) (hL : L.length ≤ 1000000) : ∀ (rest pre : List Int) (s i : Int), L = pre ++ rest → i = (pre.length : Int) →
    Ev (fun k => spec_dgProduct.l0 k s L (L.length : Int) i) (wprod s rest) ∧ Ev (fun k => impl_digitProduct.l0 k s L (L.length : Int) i) (wprod s rest)
  | [], pre, s, i, h, hi => by
    subst h
    constructor
    · refine Ev.step (fun k => by rw [spec_dgProduct.l0]) ?_
      exact Ev.neg (by simp; omega) (Ev.now _)
    · refine Ev.step (fun k => by rw [impl_digitProduct.l0]) ?_
      exact Ev.neg (by simp; omega) (Ev.now _)
  | a :: rest, pre, s, i, h, hi => by
    have hlen : L.length = pre.length + (rest.length + 1) := by subst h; simp
    have hr : rd L i = a := by rw [h]; exact rd_at' _ _ _ _ hi
    have ih := dgProduct_l0 L hL rest (pre ++ [a]) (wrap64 (s * a)) (i + 1) (by rw [h]; simp) (by simp; omega)
    constructor
    · refine Ev.step (fun k => by rw [spec_dgProduct.l0]) (Ev.pos (by omega) (Ev.pos (by omega) (Ev.pos (by omega) ?_)))
      rw [hr, w64 (x := i + 1) (by omega) (by omega)]
      exact ih.1
    · refine Ev.step (fun k => by rw [impl_digitProduct.l0]) (Ev.pos (by omega) (Ev.pos (by omega) (Ev.pos (by omega) ?_)))
      rw [hr, w64 (x := i + 1) (by omega) (by omega)]
      exact ih.2
theorem dgProduct_ev (L : List Int) (hL : L.length ≤ 1000000) : Ev (fun k => spec_dgProduct.f k L) (wprod 1 L) := (dgProduct_l0 L hL L [] 1 0 rfl rfl).1
theorem digitProduct_ev {b n : Int} (hb : 2 ≤ b) (h0 : 0 ≤ n) (h1 : n ≤ 1000000000001) : Ev (fun k => impl_digitProduct.f k n b) (wprod 1 (ds b n)) := by
  have hl := ds_len hb h0 h1
  exact Ev.bind (digitsOf_ev hb h0 h1) (dgProduct_l0 (ds b n) (by omega) _ [] 1 0 rfl rfl).2

theorem wprod_app (l : List Int) : ∀ (s a : Int), wprod s (l ++ [a]) = wrap64 (wprod s l * a) := by
  induction l with
  | nil => intro s a; rfl
  | cons b l ih => intro s a; simp only [List.cons_append, wprod]; exact ih _ _
/-- the product of the digits is not greater than the number, and less where there are two or more -/
theorem wprod_le {b : Int} (hb : 2 ≤ b) : ∀ (m : Nat) (n : Int), n.toNat < m → 1 ≤ n → n ≤ 1000000000001 → 0 ≤ wprod 1 (dl b n).reverse ∧ wprod 1 (dl b n).reverse ≤ n ∧ (b ≤ n → wprod 1 (dl b n).reverse < n)
  | 0, n, h, _, _ => by omega
  | m + 1, n, h, h1, h2 => by
    have e := Int.mul_ediv_add_emod n b
    have m0 := Int.emod_nonneg n (show b ≠ 0 by omega)
    have m1 := Int.emod_lt_of_pos n (show 0 < b by omega)
    rw [dl_pos h1 hb, List.reverse_cons, wprod_app]
    by_cases hlt : n < b
    · have hz : n / b = 0 := Int.ediv_eq_zero_of_lt (by omega) hlt
      have hq : n % b = n := Int.emod_eq_of_lt (by omega) hlt
      rw [hz, dl_zero, hq]
      simp only [List.reverse_nil, wprod]
      rw [Int.one_mul, w64 (by omega) (by omega)]
      omega
    · have hd := div_lt_of h1 hb
      have hp : 1 ≤ n / b := by
        by_cases hz : n / b = 0
        · rw [hz] at e; simp at e; omega
        · have := div_ge (n := n) (by omega) hb; omega
      obtain ⟨i1, i2, _⟩ := wprod_le hb m (n / b) (by omega) hp (by omega)
      have p0 : 0 ≤ wprod 1 (dl b (n / b)).reverse * (n % b) := Int.mul_nonneg i1 m0
      have p1 : wprod 1 (dl b (n / b)).reverse * (n % b) ≤ (n / b) * (b - 1) := Int.mul_le_mul i2 (by omega) m0 (by omega)
      have p2 : (n / b) * (b - 1) = b * (n / b) - n / b := by rw [Int.mul_sub, Int.mul_comm]; simp
      rw [w64 (by omega) (by omega)]
      omega
theorem ds_prod_lt {b n : Int} (hb : 2 ≤ b) (h : b ≤ n) (h2 : n ≤ 1000000000001) : 0 ≤ wprod 1 (ds b n) ∧ wprod 1 (ds b n) < n := by
  unfold ds
  rw [if_neg (by omega)]
  have := wprod_le hb _ n (Nat.lt_succ_self _) (by omega) h2
  exact ⟨this.1, this.2.2 h⟩

theorem run_l0 {b : Int} (hb : 2 ≤ b) : ∀ (m : Nat) (n : Int) (l : List Int), 0 ≤ n → n ≤ 1000000000000 → n.toNat < m → l.length + n.toNat ≤ 1000000000001 → 1 ≤ l.length →
    ∃ r : List Int, 1 ≤ r.length ∧ r.length ≤ 1000000000001 ∧ Ev (fun k => spec_prRun.l0 k n b false l) r ∧ Ev (fun k => impl_down.l0 k n b l) r
  | 0, _, _, _, _, h, _, _ => by omega
  | m + 1, n, l, h0, h1, h, hl, hne => by
    by_cases hn : n ≥ b
    · have ht := ds_prod_lt hb hn (by omega)
      have hd := dgOf_ev hb h0 (show n ≤ 1000000000001 by omega)
      have hlen := ds_len hb h0 (show n ≤ 1000000000001 by omega)
      have hs := dgProduct_ev (ds b n) (by omega)
      have hi := digitProduct_ev hb h0 (show n ≤ 1000000000001 by omega)
      obtain ⟨r, r1, r2, gs, gi⟩ := run_l0 hb m (wprod 1 (ds b n)) (l ++ [wprod 1 (ds b n)]) ht.1 (by omega) (by omega) (by simp; omega) (by simp)
      refine ⟨r, r1, r2, ?_, ?_⟩
      · refine Ev.step (fun k => by rw [spec_prRun.l0]) ?_
        exact Ev.pos hn (Ev.neg (by simp) (Ev.bind hd (Ev.bind hs (Ev.pos (by omega) gs))))
      · refine Ev.step (fun k => by rw [impl_down.l0]) ?_
        exact Ev.pos hn (Ev.bind hi (Ev.pos (by omega) gi))
    · refine ⟨l, hne, by omega, ?_, ?_⟩
      · refine Ev.step (fun k => by rw [spec_prRun.l0]) ?_
        exact Ev.neg hn (Ev.now _)
      · refine Ev.step (fun k => by rw [impl_down.l0]) ?_
        exact Ev.neg hn (Ev.now _)
theorem run_ev {n b : Int} (h : asked n b) : ∃ r : List Int, 1 ≤ r.length ∧ r.length ≤ 1000000000001 ∧ Ev (fun k => spec_prRun.f k n b false) r ∧ Ev (fun k => impl_down.f k n b) r := by
  unfold asked at h
  obtain ⟨r, r1, r2, gs, gi⟩ := run_l0 h.2.1 _ n [n] h.1.1 h.1.2 (Nat.lt_succ_self _) (by simp; omega) (by simp)
  exact ⟨r, r1, r2, gs, gi⟩

/-- lists that do not fall, each of its numbers from d to M -/
def up (M : Int) : Int → List Int → Prop
  | _, [] => True
  | d, x :: t => d ≤ x ∧ x ≤ M ∧ up M x t
theorem up_mem (M : Int) : ∀ (t : List Int) (d : Int), up M d t → ∀ x ∈ t, d ≤ x ∧ x ≤ M
  | [], d, _, x, hx => by simp at hx
  | y :: t, d, h, x, hx => by
    obtain ⟨h1, h2, h3⟩ := h
    rcases List.mem_cons.mp hx with rfl | hx
    · exact ⟨h1, h2⟩
    · have := up_mem M t y h3 x hx; omega
theorem mem_go (g : List Int → Int → List (List Int)) (l : List Int) (L : List Int) : ∀ (m : Nat) (d : Int), L ∈ NF.go g l m d ↔ ∃ x : Int, d ≤ x ∧ x < d + m ∧ L ∈ g (l ++ [x]) x
  | 0, d => by
    simp only [NF.go, List.not_mem_nil, false_iff]
    rintro ⟨x, h1, h2, _⟩
    omega
  | m + 1, d => by
    simp only [NF.go, List.mem_append]
    rw [mem_go g l L m (d + 1)]
    constructor
    · rintro (h | ⟨x, h1, h2, h3⟩)
      · exact ⟨d, by omega, by omega, h⟩
      · exact ⟨x, by omega, by omega, h3⟩
    · rintro ⟨x, h1, h2, h3⟩
      by_cases h : x = d
      · subst h; exact .inl h3
      · exact .inr ⟨x, by omega, by omega, h3⟩
theorem mem_en (most : Int) : ∀ (r : Nat) (l : List Int) (d : Int) (L : List Int), L ∈ NF.en most r l d ↔ ∃ t, L = l ++ t ∧ t.length = r ∧ up most d t
  | 0, l, d, L => by
    simp only [NF.en, List.mem_singleton]
    constructor
    · rintro rfl; exact ⟨[], by simp, rfl, trivial⟩
    · rintro ⟨t, rfl, ht, _⟩; rw [List.length_eq_zero_iff.mp ht]; simp
  | r + 1, l, d, L => by
    simp only [NF.en]
    rw [mem_go]
    constructor
    · rintro ⟨x, h1, h2, h3⟩
      obtain ⟨t, rfl, ht, hu⟩ := (mem_en most r _ x L).mp h3
      exact ⟨x :: t, by simp, by simp [ht], h1, by omega, hu⟩
    · rintro ⟨t, rfl, ht, hu⟩
      cases t with
      | nil => simp at ht
      | cons x t =>
        obtain ⟨h1, h2, h3⟩ := hu
        exact ⟨x, h1, by omega, (mem_en most r _ x _).mpr ⟨t, by simp, by simpa using ht, h3⟩⟩

def vl (b acc : Int) (l : List Int) : Int := l.foldl (fun a x => a * b + x) acc
theorem vl_cons (b a x : Int) (l : List Int) : vl b a (x :: l) = vl b (a * b + x) l := rfl
theorem vl_app (b a : Int) (l t : List Int) : vl b a (l ++ t) = vl b (vl b a l) t := List.foldl_append ..
theorem vl_ge {b : Int} (hb : 2 ≤ b) : ∀ (t : List Int) (a : Int), 0 ≤ a → (∀ x ∈ t, 0 ≤ x) → a ≤ vl b a t
  | [], a, _, _ => Int.le_refl _
  | x :: t, a, ha, h => by
    have hx := h x (by simp)
    have h1 : a * 1 ≤ a * b := Int.mul_le_mul_of_nonneg_left (by omega) ha
    have ih := vl_ge hb t (a * b + x) (by omega) (fun y hy => h y (List.mem_cons_of_mem _ hy))
    rw [vl_cons]; omega
/-- the number of a list lies between two multiples of a power -/
theorem vl_lo {b : Int} (hb : 2 ≤ b) : ∀ (t : List Int) (a : Int), (∀ x ∈ t, 0 ≤ x ∧ x < b) → a * b ^ t.length ≤ vl b a t ∧ vl b a t < (a + 1) * b ^ t.length
  | [], a, _ => by simp [vl]; omega
  | x :: t, a, h => by
    have hx := h x (by simp)
    obtain ⟨i1, i2⟩ := vl_lo hb t (a * b + x) (fun y hy => h y (List.mem_cons_of_mem _ hy))
    rw [vl_cons, List.length_cons, Int.pow_succ]
    have hp : 0 ≤ b ^ t.length := Int.pow_nonneg (by omega)
    have e1 : a * (b ^ t.length * b) = (a * b) * b ^ t.length := by rw [Int.mul_comm (b ^ t.length), ← Int.mul_assoc]
    have e2 : (a + 1) * (b ^ t.length * b) = (a * b + b) * b ^ t.length := by rw [Int.mul_comm (b ^ t.length), ← Int.mul_assoc, Int.add_mul, Int.one_mul]
    have l1 : (a * b) * b ^ t.length ≤ (a * b + x) * b ^ t.length := Int.mul_le_mul_of_nonneg_right (by omega) hp
    have l2 : (a * b + x + 1) * b ^ t.length ≤ (a * b + b) * b ^ t.length := Int.mul_le_mul_of_nonneg_right (by omega) hp
    rw [e1, e2]
    omega
def IsMin (S : Int → Prop) (R : Int) : Prop := (R = 0 ∧ ∀ v, ¬ S v) ∨ (S R ∧ ∀ v, S v → R ≤ v)
theorem isMin_congr {S S' : Int → Prop} (h : ∀ v, S v ↔ S' v) {R : Int} (hm : IsMin S R) : IsMin S' R := by
  rcases hm with ⟨h0, h1⟩ | ⟨h0, h1⟩
  · exact .inl ⟨h0, fun v hv => h1 v ((h v).mpr hv)⟩
  · exact .inr ⟨(h R).mp h0, fun v hv => h1 v ((h v).mpr hv)⟩
theorem isMin_unique {S : Int → Prop} {R R' : Int} (h : IsMin S R) (h' : IsMin S R') : R = R' := by
  rcases h with ⟨h0, h1⟩ | ⟨h0, h1⟩ <;> rcases h' with ⟨h2, h3⟩ | ⟨h2, h3⟩
  · omega
  · exact absurd h2 (h1 _)
  · exact absurd h0 (h3 _)
  · have := h1 _ h2; have := h3 _ h0; omega
/-- the numbers whose digits behind n do not fall, the first of them from lo on and below hi, with the persistence -/
def Sv (b kk : Int) (D : Int → Int) (n lo hi v : Int) : Prop := ∃ x t, lo ≤ x ∧ x < hi ∧ up (b - 1) x t ∧ vl b n (x :: t) = v ∧ v ≤ 10000000 ∧ D v = kk
theorem sv_ge {b kk : Int} {D : Int → Int} (hb : 2 ≤ b) {n lo hi v : Int} (hn : 0 ≤ n) (hlo : 1 ≤ lo) (h : Sv b kk D n lo hi v) : n * b + lo ≤ v := by
  obtain ⟨x, t, h1, h2, h3, h4, _⟩ := h
  have h5 : 0 ≤ n * b := Int.mul_nonneg hn (by omega)
  have := vl_ge hb t (n * b + x) (by omega) (fun y hy => by have := up_mem _ _ _ h3 y hy; omega)
  rw [vl_cons] at h4
  omega
theorem sv_split {b kk : Int} {D : Int → Int} {n lo d v : Int} (hd : lo ≤ d) : Sv b kk D n lo (d + 1) v ↔ Sv b kk D n lo d v ∨ Sv b kk D n d (d + 1) v := by
  constructor
  · rintro ⟨x, t, h1, h2, h3⟩
    by_cases h : x < d
    · exact .inl ⟨x, t, h1, h, h3⟩
    · exact .inr ⟨x, t, by omega, h2, h3⟩
  · rintro (⟨x, t, h1, h2, h3⟩ | ⟨x, t, h1, h2, h3⟩)
    · exact ⟨x, t, h1, by omega, h3⟩
    · exact ⟨x, t, by omega, h2, h3⟩
theorem sv_wide {b kk : Int} {D : Int → Int} {n lo d hi v : Int} (hd : lo ≤ d) (hh : d ≤ hi) : Sv b kk D n lo hi v ↔ Sv b kk D n lo d v ∨ Sv b kk D n d hi v := by
  constructor
  · rintro ⟨x, t, h1, h2, h3⟩
    by_cases h : x < d
    · exact .inl ⟨x, t, h1, h, h3⟩
    · exact .inr ⟨x, t, by omega, h2, h3⟩
  · rintro (⟨x, t, h1, h2, h3⟩ | ⟨x, t, h1, h2, h3⟩)
    · exact ⟨x, t, h1, by omega, h3⟩
    · exact ⟨x, t, by omega, h2, h3⟩
/-- what begins with d: d alone, or d and more -/
theorem sv_one {b kk : Int} {D : Int → Int} {n d v : Int} (hdb : d < b) : Sv b kk D n d (d + 1) v ↔ (v = n * b + d ∧ v ≤ 10000000 ∧ D v = kk) ∨ Sv b kk D (n * b + d) d b v := by
  constructor
  · rintro ⟨x, t, h1, h2, h3, h4, h5, h6⟩
    obtain rfl : x = d := by omega
    cases t with
    | nil => exact .inl ⟨by rw [← h4]; rfl, h5, h6⟩
    | cons y t =>
      obtain ⟨g1, g2, g3⟩ := h3
      exact .inr ⟨y, t, g1, by omega, g3, by rw [← h4]; rfl, h5, h6⟩
  · rintro (⟨h1, h2, h3⟩ | ⟨x, t, h1, h2, h3, h4, h5⟩)
    · exact ⟨d, [], by omega, by omega, trivial, by rw [h1]; rfl, h2, h3⟩
    · exact ⟨d, x :: t, by omega, by omega, ⟨h1, by omega, h3⟩, by rw [← h4]; rfl, h5⟩
def Told (b : Int) (D : Int → Int) : Prop := ∀ n, 0 ≤ n → n ≤ 1000000000000 → (n < b → D n = 0) ∧ ∃ r : List Int, 1 ≤ r.length ∧ r.length ≤ 1000000000001 ∧ (r.length : Int) - 1 = D n ∧ Ev (fun k => spec_prRun.f k n b false) r ∧ Ev (fun k => impl_down.f k n b) r
theorem told (b : Int) (hb : 2 ≤ b ∧ b ≤ 16) : ∃ D : Int → Int, Told b D := by
  have h : ∀ n : Int, ∃ d : Int, 0 ≤ n → n ≤ 1000000000000 → (n < b → d = 0) ∧ ∃ r : List Int, 1 ≤ r.length ∧ r.length ≤ 1000000000001 ∧ (r.length : Int) - 1 = d ∧ Ev (fun k => spec_prRun.f k n b false) r ∧ Ev (fun k => impl_down.f k n b) r := by
    intro n
    by_cases hn : 0 ≤ n ∧ n ≤ 1000000000000
    · by_cases hlt : n < b
      · refine ⟨0, fun _ _ => ⟨fun _ => rfl, [n], by simp, by simp, by simp, ?_, ?_⟩⟩
        · unfold spec_prRun.f
          exact Ev.step (fun k => by rw [spec_prRun.l0]) (Ev.neg (by omega) (Ev.now _))
        · unfold impl_down.f
          exact Ev.step (fun k => by rw [impl_down.l0]) (Ev.neg (by omega) (Ev.now _))
      · obtain ⟨r, r1, r2, r3, r4⟩ := run_ev (show asked n b from ⟨hn, hb⟩)
        exact ⟨(r.length : Int) - 1, fun _ _ => ⟨fun h => absurd h hlt, r, r1, r2, rfl, r3, r4⟩⟩
    · exact ⟨0, fun h1 h2 => absurd ⟨h1, h2⟩ hn⟩
  exact ⟨fun n => (h n).choose, fun n => (h n).choose_spec⟩
theorem pl_l0 {b kk : Int} (hb : 2 ≤ b ∧ b ≤ 16) {D : Int → Int} (hD : Told b D) {n least : Int} (hn : 0 ≤ n) (hn2 : n ≤ 10000000) (hl : 1 ≤ least) (rec : ∀ n' d : Int, n < n' → n' ≤ 10000000 → 1 ≤ d → d ≤ b → ∃ R, Ev (fun k => spec_prLeast.f k n' d b kk 10000000) R ∧ IsMin (Sv b kk D n' d b) R) : ∀ (j : Nat) (d best : Int), d + j = b → least ≤ d → IsMin (Sv b kk D n least d) best → ∃ R, Ev (fun k => spec_prLeast.l0 k n b kk 10000000 best d) R ∧ IsMin (Sv b kk D n least b) R
  | 0, d, best, hj, hd, hm => by
    obtain rfl : d = b := by omega
    exact ⟨best, Ev.step (fun k => by rw [spec_prLeast.l0]) (Ev.neg (by omega) (Ev.now _)), hm⟩
  | j + 1, d, best, hj, hd, hm => by
    have hnb : 0 ≤ n * b := Int.mul_nonneg hn (by omega)
    have hnb1 : n * 1 ≤ n * b := Int.mul_le_mul_of_nonneg_left (by omega) hn
    have hnb2 : n * b ≤ 10000000 * 16 := Int.mul_le_mul hn2 hb.2 (by omega) (by omega)
    obtain ⟨nx, hnx⟩ : ∃ nx, nx = n * b + d := ⟨_, rfl⟩
    have hw : wrap64 (wrap64 (n * b) + d) = nx := by rw [w64 (x := n * b) (by omega) (by omega), w64 (by omega) (by omega), hnx]
    have hge : ∀ v, Sv b kk D n d b v → nx ≤ v := fun v hv => by have := sv_ge hb.1 hn (by omega) hv; omega
    have w1 : wrap64 (d + 1) = d + 1 := w64 (by omega) (by omega)
    have s0 : ∀ r, Ev (fun k => if nx > 10000000 then spec_prLeast.j1 k n b kk 10000000 best d nx true else (if best > 0 then spec_prLeast.j1 k n b kk 10000000 best d nx (decide (nx > best)) else spec_prLeast.j1 k n b kk 10000000 best d nx false)) r → Ev (fun k => spec_prLeast.l0 k n b kk 10000000 best d) r := fun r h => by
      refine Ev.step (fun k => by rw [spec_prLeast.l0, hw]) (Ev.pos (by omega) h)
    have j1t : ∀ r, r = best → Ev (fun k => spec_prLeast.j1 k n b kk 10000000 best d nx true) r := fun r h => by
      subst h
      exact Ev.step (fun k => by rw [spec_prLeast.j1]) (Ev.pos rfl (Ev.now _))
    by_cases h1 : nx > 10000000
    · refine ⟨best, s0 _ (Ev.pos h1 (j1t _ rfl)), isMin_congr (fun v => ?_) hm⟩
      rw [sv_wide hd (show d ≤ b by omega)]
      refine ⟨.inl, fun h => h.elim id fun h2 => ?_⟩
      have := hge v h2
      obtain ⟨_, _, _, _, _, _, h3, _⟩ := h2
      omega
    · have j1f : ∀ r, (best > 0 → nx ≤ best) → Ev (fun k => spec_prLeast.j1 k n b kk 10000000 best d nx false) r → Ev (fun k => spec_prLeast.l0 k n b kk 10000000 best d) r := fun r h0 h => by
        refine s0 _ (Ev.neg h1 ?_)
        by_cases hb0 : best > 0
        · refine Ev.pos hb0 ?_
          rw [decide_eq_false (show ¬ nx > best by have := h0 hb0; omega)]
          exact h
        · exact Ev.neg hb0 h
      by_cases h2 : best > 0 ∧ nx > best
      · refine ⟨best, s0 _ (Ev.neg h1 (Ev.pos h2.1 ?_)), ?_⟩
        · rw [decide_eq_true h2.2]
          exact j1t _ rfl
        · rcases hm with ⟨h3, _⟩ | ⟨h3, h4⟩
          · omega
          · refine .inr ⟨(sv_wide hd (show d ≤ b by omega)).mpr (.inl h3), fun v hv => ?_⟩
            rcases (sv_wide hd (show d ≤ b by omega)).mp hv with hv | hv
            · exact h4 v hv
            · have := hge v hv; omega
      · have hle : best > 0 → nx ≤ best := fun h => by
          by_cases h3 : nx > best
          · exact absurd ⟨h, h3⟩ h2
          · omega
        have hbp : ∀ v, Sv b kk D n least d v → 0 < v := fun v hv => by have := sv_ge hb.1 hn hl hv; omega
        obtain ⟨_, r, r1, r2, r3, r4, _⟩ := hD nx (by omega) (by omega)
        have hrl : wrap64 ((r.length : Int) - 1) = D nx := by rw [w64 (by omega) (by omega), r3]
        have s1 : ∀ R, Ev (fun k => if D nx = kk then spec_prLeast.l0 k n b kk 10000000 nx (wrap64 (d + 1)) else ((spec_prLeast.f k nx d b kk 10000000).bind fun t133 => (if t133 > 0 then (if best = 0 then (spec_prLeast.l0 k n b kk 10000000 t133 (wrap64 (d + 1))) else (if t133 < best then (spec_prLeast.l0 k n b kk 10000000 t133 (wrap64 (d + 1))) else (spec_prLeast.l0 k n b kk 10000000 best (wrap64 (d + 1))))) else (spec_prLeast.l0 k n b kk 10000000 best (wrap64 (d + 1)))))) R → Ev (fun k => spec_prLeast.l0 k n b kk 10000000 best d) R := fun R h => by
          refine j1f R hle (Ev.step (fun k => by rw [spec_prLeast.j1]) (Ev.neg (by decide) (Ev.bind r4 ?_)))
          rw [hrl]
          exact h
        rw [w1] at s1
        by_cases h3 : D nx = kk
        · have hm2 : IsMin (Sv b kk D n least (d + 1)) nx := by
            refine .inr ⟨(sv_split hd).mpr (.inr ((sv_one (by omega)).mpr (.inl ⟨hnx, by omega, h3⟩))), fun v hv => ?_⟩
            rcases (sv_split hd).mp hv with hv | hv
            · rcases hm with ⟨_, h5⟩ | ⟨h4, h5⟩
              · exact absurd hv (h5 v)
              · have := h5 v hv; have := hle (hbp _ h4); omega
            · have := sv_ge hb.1 hn (by omega) hv; omega
          obtain ⟨R, e1, e2⟩ := pl_l0 hb hD hn hn2 hl rec j (d + 1) nx (by omega) (by omega) hm2
          exact ⟨R, s1 R (Ev.pos h3 e1), e2⟩
        · obtain ⟨lo, f1, f2⟩ := rec nx d (by omega) (by omega) (by omega) (by omega)
          have hone : ∀ v, Sv b kk D n d (d + 1) v ↔ Sv b kk D nx d b v := fun v => by
            rw [sv_one (show d < b by omega), ← hnx]
            refine ⟨fun h => h.elim (fun h => ?_) id, .inr⟩
            rw [h.1] at h
            exact absurd h.2.2 h3
          by_cases h4 : lo > 0
          · have hlo : Sv b kk D n d (d + 1) lo ∧ ∀ v, Sv b kk D n d (d + 1) v → lo ≤ v := by
              rcases f2 with ⟨h5, _⟩ | ⟨h5, h6⟩
              · omega
              · exact ⟨(hone lo).mpr h5, fun v hv => h6 v ((hone v).mp hv)⟩
            have take : (∀ v, Sv b kk D n least d v → lo ≤ v) → IsMin (Sv b kk D n least (d + 1)) lo := fun h => by
              refine .inr ⟨(sv_split hd).mpr (.inr hlo.1), fun v hv => ?_⟩
              exact ((sv_split hd).mp hv).elim (h v) (hlo.2 v)
            by_cases h5 : best = 0
            · have hm2 : IsMin (Sv b kk D n least (d + 1)) lo := take fun v hv => by
                rcases hm with ⟨_, h6⟩ | ⟨h6, _⟩
                · exact absurd hv (h6 v)
                · have := hbp _ h6; omega
              obtain ⟨R, e1, e2⟩ := pl_l0 hb hD hn hn2 hl rec j (d + 1) lo (by omega) (by omega) hm2
              exact ⟨R, s1 R (Ev.neg h3 (Ev.bind f1 (Ev.pos h4 (Ev.pos h5 e1)))), e2⟩
            · have hm' : Sv b kk D n least d best ∧ ∀ v, Sv b kk D n least d v → best ≤ v := by
                rcases hm with ⟨h6, _⟩ | h6
                · exact absurd h6 h5
                · exact h6
              by_cases h6 : lo < best
              · have hm2 : IsMin (Sv b kk D n least (d + 1)) lo := take fun v hv => by have := hm'.2 v hv; omega
                obtain ⟨R, e1, e2⟩ := pl_l0 hb hD hn hn2 hl rec j (d + 1) lo (by omega) (by omega) hm2
                exact ⟨R, s1 R (Ev.neg h3 (Ev.bind f1 (Ev.pos h4 (Ev.neg h5 (Ev.pos h6 e1))))), e2⟩
              · have hm2 : IsMin (Sv b kk D n least (d + 1)) best := by
                  refine .inr ⟨(sv_split hd).mpr (.inl hm'.1), fun v hv => ?_⟩
                  rcases (sv_split hd).mp hv with hv | hv
                  · exact hm'.2 v hv
                  · have := hlo.2 v hv; omega
                obtain ⟨R, e1, e2⟩ := pl_l0 hb hD hn hn2 hl rec j (d + 1) best (by omega) (by omega) hm2
                exact ⟨R, s1 R (Ev.neg h3 (Ev.bind f1 (Ev.pos h4 (Ev.neg h5 (Ev.neg h6 e1))))), e2⟩
          · have hnone : ∀ v, ¬ Sv b kk D n d (d + 1) v := fun v hv => by
              have hv2 := (hone v).mp hv
              rcases f2 with ⟨_, h6⟩ | ⟨h5, _⟩
              · exact h6 v hv2
              · have := sv_ge hb.1 (show 0 ≤ nx by omega) (by omega) h5
                have : 0 ≤ nx * b := Int.mul_nonneg (by omega) (by omega)
                omega
            have hm2 : IsMin (Sv b kk D n least (d + 1)) best := isMin_congr (fun v => ⟨fun h => (sv_split hd).mpr (.inl h), fun h => ((sv_split hd).mp h).elim id (fun h => absurd h (hnone v))⟩) hm
            obtain ⟨R, e1, e2⟩ := pl_l0 hb hD hn hn2 hl rec j (d + 1) best (by omega) (by omega) hm2
            exact ⟨R, s1 R (Ev.neg h3 (Ev.bind f1 (Ev.neg h4 e1))), e2⟩
theorem pl_f {b kk : Int} (hb : 2 ≤ b ∧ b ≤ 16) {D : Int → Int} (hD : Told b D) : ∀ (m : Nat) (n least : Int), 0 ≤ n → n ≤ 10000000 → 1 ≤ least → least ≤ b → (10000000 - n).toNat < m → ∃ R, Ev (fun k => spec_prLeast.f k n least b kk 10000000) R ∧ IsMin (Sv b kk D n least b) R
  | 0, _, _, _, _, _, _, h => by omega
  | m + 1, n, least, h0, h1, h2, h3, h => by
    have h0s : IsMin (Sv b kk D n least least) 0 := .inl ⟨rfl, fun v hv => by obtain ⟨x, _, h4, h5, _⟩ := hv; omega⟩
    obtain ⟨R, e1, e2⟩ := pl_l0 hb hD h0 h1 h2 (fun n' d g1 g2 g3 g4 => pl_f hb hD m n' d (by omega) g2 g3 g4 (by omega)) (b - least).toNat least 0 (by omega) (by omega) h0s
    exact ⟨R, Ev.step (fun k => by rw [spec_prLeast.f]) e1, e2⟩
theorem val_l0 {b : Int} (hb : 2 ≤ b ∧ b ≤ 16) (l : List Int) (hl : l.length ≤ 1000) : ∀ (T P : List Int) (a i : Int), l = P ++ T → i = (P.length : Int) → 0 ≤ a → vl b a T ≤ 1000000000000 → (∀ x ∈ T, 0 ≤ x ∧ x < b) → Ev (fun k => impl_value.l0 k b a l (l.length : Int) i) (vl b a T)
  | [], P, a, i, hp, hi, _, _, _ => by
    have : l.length = P.length := by rw [hp]; simp
    refine Ev.step (fun k => by rw [impl_value.l0]) ?_
    exact Ev.neg (by omega) (Ev.val rfl)
  | x :: T, P, a, i, hp, hi, ha, hv, hd => by
    have hll : l.length = P.length + (T.length + 1) := by rw [hp]; simp
    have hx : rd l i = x := by rw [hp, hi]; exact rd_mid _ _ _
    have hxd := hd x (by simp)
    have hd' : ∀ z ∈ T, 0 ≤ z ∧ z < b := fun z hz => hd z (List.mem_cons_of_mem _ hz)
    have hab : 0 ≤ a * b := Int.mul_nonneg ha (by omega)
    have hge := vl_ge hb.1 T (a * b + x) (by omega) (fun z hz => (hd' z hz).1)
    rw [vl_cons] at hv ⊢
    refine Ev.step (fun k => by rw [impl_value.l0]) (Ev.pos (by omega) (Ev.pos (by omega) (Ev.pos (by omega) ?_)))
    rw [hx, w64 (show -9223372036854775808 ≤ a * b by omega) (by omega), w64 (x := a * b + x) (by omega) (by omega), w64 (x := i + 1) (by omega) (by omega)]
    exact Ev.neg (by omega) (val_l0 hb l hl T (P ++ [x]) (a * b + x) (i + 1) (by rw [hp]; simp) (by simp; omega) (by omega) hv hd')
theorem val_ev {b : Int} (hb : 2 ≤ b ∧ b ≤ 16) (l : List Int) (hl : l.length ≤ 1000) (hv : vl b 0 l ≤ 1000000000000) (hd : ∀ x ∈ l, 0 ≤ x ∧ x < b) : Ev (fun k => impl_value.f k l b) (vl b 0 l) := val_l0 hb l hl l [] 0 0 rfl rfl (by omega) hv hd
theorem pow_up {b : Int} (hb : 1 ≤ b) {m n : Nat} (h : m ≤ n) : b ^ m ≤ b ^ n := by
  obtain ⟨d, rfl⟩ := Nat.exists_eq_add_of_le h
  induction d with
  | zero => exact Int.le_refl _
  | succ d ih =>
    have h1 : b ^ (m + d) * 1 ≤ b ^ (m + d) * b := Int.mul_le_mul_of_nonneg_left hb (Int.pow_nonneg (by omega))
    have e : b ^ (m + (d + 1)) = b ^ (m + d) * b := Int.pow_succ b (m + d)
    have := ih (by omega)
    omega
theorem toPow_l0 {b : Int} (hb : 2 ≤ b ∧ b ≤ 16) (K : Nat) (hK : b ^ K ≤ 1000000000000) (hK2 : K ≤ 1000) : ∀ (m n : Nat), n + m = K → Ev (fun k => impl_toPower.l0 k b (b ^ n) (K : Int) (n : Int)) (b ^ K)
  | 0, n, h => by
    obtain rfl : n = K := by omega
    exact Ev.step (fun k => by rw [impl_toPower.l0]) (Ev.neg (by omega) (Ev.now _))
  | m + 1, n, h => by
    have h1 : 0 ≤ b ^ (n + 1) := Int.pow_nonneg (by omega)
    have h2 : b ^ (n + 1) ≤ b ^ K := pow_up (by omega) (by omega)
    refine Ev.step (fun k => by rw [impl_toPower.l0]) (Ev.pos (by omega) ?_)
    rw [← Int.pow_succ]
    have ih := toPow_l0 hb K hK hK2 m (n + 1) (by omega)
    generalize b ^ (n + 1) = q at h1 h2 ih
    generalize b ^ K = p at h2 hK ih
    rw [w64 (x := q) (by omega) (by omega), w64 (x := (n : Int) + 1) (by omega) (by omega)]
    exact ih
theorem toPow_ev {b : Int} (hb : 2 ≤ b ∧ b ≤ 16) (K : Nat) (hK : b ^ K ≤ 1000000000000) (hK2 : K ≤ 1000) : Ev (fun k => impl_toPower.f k b (K : Int)) (b ^ K) := by
  have := toPow_l0 hb K hK hK2 K 0 (by omega)
  simpa [impl_toPower.f] using this
def gd (b kk : Int) (D : Int → Int) (l : List Int) : Prop := vl b 0 l ≤ 10000000 ∧ D (vl b 0 l) = kk
def fo (b kk : Int) (D : Int → Int) : List (List Int) → Int → Int
  | [], o => o
  | l :: t, o => fo b kk D t (if o = 0 then (if vl b 0 l ≤ 10000000 then (if D (vl b 0 l) = kk then vl b 0 l else o) else o) else o)
def okl (b : Int) (l : List Int) : Prop := l.length ≤ 1000 ∧ vl b 0 l ≤ 1000000000000 ∧ 0 < vl b 0 l ∧ ∀ x ∈ l, 0 ≤ x ∧ x < b
theorem fo_ev {b kk : Int} (hb : 2 ≤ b ∧ b ≤ 16) {D : Int → Int} (hD : Told b D) : ∀ (L : List (List Int)) (o : Int), (∀ l ∈ L, okl b l) → Ev (fun k => LP.fo k b kk L o) (fo b kk D L o)
  | [], o, _ => Ev.now _
  | l :: t, o, h => by
    obtain ⟨h1, h2, h3, h4⟩ := h l (by simp)
    have ih := fun o => fo_ev (kk := kk) hb hD t o (fun l hl => h l (List.mem_cons_of_mem _ hl))
    show Ev (fun k => (LP.st k b kk o l).bind fun o2 => LP.fo k b kk t o2) _
    refine Ev.bind ?_ (ih _)
    unfold LP.st
    refine Ev.bind (val_ev hb l h1 h2 h4) ?_
    by_cases c1 : o = 0
    · rw [if_pos c1]
      refine Ev.pos c1 ?_
      by_cases c2 : vl b 0 l ≤ 10000000
      · rw [if_pos c2]
        refine Ev.pos c2 ?_
        obtain ⟨_, r, r1, r2, r3, _, r4⟩ := hD (vl b 0 l) (by omega) (by omega)
        refine Ev.bind r4 ?_
        rw [w64 (by omega) (by omega), r3]
        by_cases c3 : D (vl b 0 l) = kk
        · exact Ev.pos c3 (by rw [if_pos c3]; exact Ev.now _)
        · exact Ev.neg c3 (by rw [if_neg c3]; exact Ev.now _)
      · rw [if_neg c2]; exact Ev.neg c2 (Ev.now _)
    · rw [if_neg c1]; exact Ev.neg c1 (Ev.now _)
theorem fo_stay (b kk : Int) (D : Int → Int) : ∀ (L : List (List Int)) (o : Int), o ≠ 0 → fo b kk D L o = o
  | [], o, _ => rfl
  | l :: t, o, h => by
    show fo b kk D t (if o = 0 then _ else o) = o
    rw [if_neg h]
    exact fo_stay b kk D t o h
theorem fo_min {b kk : Int} {D : Int → Int} : ∀ (L : List (List Int)), (∀ l ∈ L, 0 < vl b 0 l) → L.Pairwise (fun x y => vl b 0 x < vl b 0 y) → IsMin (fun v => ∃ l ∈ L, vl b 0 l = v ∧ v ≤ 10000000 ∧ D v = kk) (fo b kk D L 0)
  | [], _, _ => .inl ⟨rfl, fun v h => by obtain ⟨l, hl, _⟩ := h; simp at hl⟩
  | l :: t, h0, hp => by
    obtain ⟨p1, p2⟩ := List.pairwise_cons.mp hp
    have hl := h0 l (by simp)
    have ih := fo_min (kk := kk) (D := D) t (fun x hx => h0 x (List.mem_cons_of_mem _ hx)) p2
    by_cases c : vl b 0 l ≤ 10000000 ∧ D (vl b 0 l) = kk
    · have e : fo b kk D (l :: t) 0 = vl b 0 l := by
        show fo b kk D t (if (0 : Int) = 0 then _ else 0) = _
        rw [if_pos rfl, if_pos c.1, if_pos c.2]
        exact fo_stay _ _ _ _ _ (by omega)
      rw [e]
      refine .inr ⟨⟨l, by simp, rfl, c.1, c.2⟩, fun v hv => ?_⟩
      obtain ⟨x, hx, rfl, _⟩ := hv
      rcases List.mem_cons.mp hx with rfl | hx
      · exact Int.le_refl _
      · have := p1 x hx; omega
    · have e : fo b kk D (l :: t) 0 = fo b kk D t 0 := by
        show fo b kk D t (if (0 : Int) = 0 then _ else 0) = _
        rw [if_pos rfl]
        by_cases c2 : vl b 0 l ≤ 10000000
        · rw [if_pos c2, if_neg (fun h => c ⟨c2, h⟩)]
        · rw [if_neg c2]
      rw [e]
      refine isMin_congr (fun v => ?_) ih
      constructor
      · rintro ⟨x, hx, h⟩
        exact ⟨x, List.mem_cons_of_mem _ hx, h⟩
      · rintro ⟨x, hx, rfl, h⟩
        rcases List.mem_cons.mp hx with rfl | hx
        · exact absurd h c
        · exact ⟨x, hx, rfl, h⟩
theorem en_lt {b : Int} (hb : 2 ≤ b) : ∀ (r : Nat) (l : List Int) (d : Int), 0 ≤ d → (NF.en (b - 1) r l d).Pairwise (fun x y => vl b 0 x < vl b 0 y)
  | 0, l, d, _ => by simp [NF.en]
  | r + 1, l, d, hd => by
    simp only [NF.en]
    have key : ∀ (m : Nat) (d : Int), 0 ≤ d → (NF.go (NF.en (b - 1) r) l m d).Pairwise (fun x y => vl b 0 x < vl b 0 y) := by
      intro m
      induction m with
      | zero => intro d _; simp [NF.go]
      | succ m ih =>
        intro d hd
        simp only [NF.go]
        rw [List.pairwise_append]
        refine ⟨en_lt hb r _ d hd, ih (d + 1) (by omega), fun x hx y hy => ?_⟩
        obtain ⟨t, rfl, t1, t2⟩ := (mem_en _ r _ d x).mp hx
        obtain ⟨z, hz, _, hy⟩ := (mem_go _ l y m (d + 1)).mp hy
        obtain ⟨u, rfl, u1, u2⟩ := (mem_en _ r _ z y).mp hy
        have a1 := (vl_lo hb t (vl b 0 (l ++ [d])) (fun q hq => by have := up_mem _ _ _ t2 q hq; omega)).2
        have a2 := (vl_lo hb u (vl b 0 (l ++ [z])) (fun q hq => by have := up_mem _ _ _ u2 q hq; omega)).1
        rw [vl_app b 0 (l ++ [d]) t, vl_app b 0 (l ++ [z]) u]
        rw [vl_app b 0 l [d]] at a1 ⊢
        rw [vl_app b 0 l [z]] at a2 ⊢
        rw [t1] at a1
        rw [u1] at a2
        have a3 : (vl b (vl b 0 l) [d] + 1) * b ^ r ≤ vl b (vl b 0 l) [z] * b ^ r := Int.mul_le_mul_of_nonneg_right (by simp only [vl, List.foldl]; omega) (Int.pow_nonneg (by omega))
        omega
    exact key _ d hd
/-- the numbers of a list that begins with at least 1 -/
theorem lead {b : Int} (hb : 2 ≤ b) {x : Int} {t : List Int} (h1 : 1 ≤ x) (h2 : x < b) (h3 : up (b - 1) x t) : b ^ t.length ≤ vl b 0 (x :: t) ∧ vl b 0 (x :: t) < b ^ (t.length + 1) := by
  have h := vl_lo hb t x (fun q hq => by have := up_mem _ _ _ h3 q hq; omega)
  have e : vl b 0 (x :: t) = vl b x t := by rw [vl_cons]; congr 1; omega
  have hp : 0 ≤ b ^ t.length := Int.pow_nonneg (by omega)
  have a1 : 1 * b ^ t.length ≤ x * b ^ t.length := Int.mul_le_mul_of_nonneg_right h1 hp
  have a2 : (x + 1) * b ^ t.length ≤ b * b ^ t.length := Int.mul_le_mul_of_nonneg_right (by omega) hp
  rw [e, Int.pow_succ, Int.mul_comm (b ^ t.length) b]
  omega
theorem il_l0 {b kk : Int} (hb : 2 ≤ b ∧ b ≤ 16) {D : Int → Int} (hD : Told b D) : ∀ (j many : Nat), 26 ≤ many + j → 2 ≤ many → b ^ (many - 2) ≤ 10000000 → (∀ v, Sv b kk D 0 1 b v → b ^ (many - 1) ≤ v) → ∃ R, (∃ K, ∀ k m, K ≤ k → K ≤ m → impl_LeastPersistent.l0 k b kk m many 0 = some R) ∧ IsMin (Sv b kk D 0 1 b) R
  | 0, many, hj, h2, hp, _ => by
    exfalso
    have a1 : (2 : Int) ^ 24 ≤ b ^ 24 := by
      have h : (2 : Int).toNat ^ 24 ≤ b.toNat ^ 24 := Nat.pow_le_pow_left (by omega) 24
      have e : b = (b.toNat : Int) := by omega
      rw [e, ← Int.natCast_pow]
      exact Int.ofNat_le.mpr h
    have a2 : b ^ 24 ≤ b ^ (many - 2) := pow_up (by omega) (by omega)
    have a3 : (2 : Int) ^ 24 = 16777216 := by decide
    omega
  | j + 1, many, hj, h2, hp, hmin => by
    obtain ⟨q, rfl⟩ : ∃ q, many = q + 2 := ⟨many - 2, by omega⟩
    have hq : q ≤ 23 := by
      refine Nat.le_of_not_lt fun h => ?_
      have a1 : (2 : Int) ^ 24 ≤ b ^ 24 := by
        have h : (2 : Int).toNat ^ 24 ≤ b.toNat ^ 24 := Nat.pow_le_pow_left (by omega) 24
        have e : b = (b.toNat : Int) := by omega
        rw [e, ← Int.natCast_pow]
        exact Int.ofNat_le.mpr h
      have a2 : b ^ 24 ≤ b ^ (q + 2 - 2) := pow_up (by omega) (by omega)
      have a3 : (2 : Int) ^ 24 = 16777216 := by decide
      omega
    rw [show q + 2 - 2 = q by omega] at hp
    rw [show q + 2 - 1 = q + 1 by omega] at hmin
    have hp0 : 0 ≤ b ^ q := Int.pow_nonneg (by omega)
    have e1 : b ^ (q + 1) = b ^ q * b := Int.pow_succ b q
    have e2 : b ^ (q + 2) = b ^ (q + 1) * b := Int.pow_succ b (q + 1)
    have hp1 : b ^ q * b ≤ 10000000 * 16 := Int.mul_le_mul hp hb.2 (by omega) (by omega)
    have hp10 : 0 ≤ b ^ (q + 1) := Int.pow_nonneg (by omega)
    have hp2 : b ^ (q + 1) * b ≤ 160000000 * 16 := Int.mul_le_mul (by omega) hb.2 (by omega) (by omega)
    obtain ⟨K1, g1⟩ := toPow_ev hb (q + 1) (by omega) (by omega)
    replace g1 : ∀ k, K1 ≤ k → impl_toPower.f k b ((q + 1 : Nat) : Int) = some (b ^ (q + 1)) := g1
    have c26 : (((q + 2 : Nat) : Int) - 1) = ((q + 1 : Nat) : Int) := by omega
    by_cases hpp : b ^ (q + 1) ≤ 10000000
    · have hok : ∀ l ∈ NF.en (b - 1) (q + 2) [] 1, okl b l := by
        intro l hl
        obtain ⟨t, et, t1, t2⟩ := (mem_en _ _ _ _ _).mp hl
        rw [List.nil_append] at et
        subst et
        cases l with
        | nil => simp at t1
        | cons x t =>
          obtain ⟨u1, u2, u3⟩ := t2
          obtain ⟨v1, v2⟩ := lead hb.1 u1 (by omega) u3
          rw [show t.length = q + 1 by simpa using t1] at v1 v2
          rw [show q + 1 + 1 = q + 2 by omega] at v2
          have hp3 : 0 < b ^ (q + 1) := Int.pow_pos (by omega)
          refine ⟨by simp at t1 ⊢; omega, by omega, by omega, fun z hz => ?_⟩
          have := up_mem (b - 1) (x :: t) 1 ⟨u1, u2, u3⟩ z hz
          omega
      obtain ⟨K2, g2⟩ := fo_ev (kk := kk) hb hD _ 0 hok
      replace g2 : ∀ k, K2 ≤ k → LP.fo k b kk (NF.en (b - 1) (q + 2) [] 1) 0 = some (fo b kk D (NF.en (b - 1) (q + 2) [] 1) 0) := g2
      have hmn := fo_min (kk := kk) (D := D) _ (fun l hl => (hok l hl).2.2.1) (en_lt hb.1 (q + 2) [] 1 (by omega))
      have hlist : ∀ v, Sv b kk D 0 1 b v → v < b ^ (q + 2) → ∃ l ∈ NF.en (b - 1) (q + 2) [] 1, vl b 0 l = v ∧ v ≤ 10000000 ∧ D v = kk := by
        intro v hv hlt
        have hge := hmin v hv
        obtain ⟨x, t, u1, u2, u3, rfl, u5⟩ := hv
        obtain ⟨v1, v2⟩ := lead hb.1 u1 u2 u3
        have hlen : t.length = q + 1 := by
          rcases Nat.lt_trichotomy t.length (q + 1) with h | h | h
          · have := pow_up (b := b) (by omega) (show t.length + 1 ≤ q + 1 by omega); omega
          · exact h
          · have := pow_up (b := b) (by omega) (show q + 2 ≤ t.length by omega); omega
        exact ⟨x :: t, (mem_en _ _ _ _ _).mpr ⟨x :: t, by simp, by simp [hlen], u1, by omega, u3⟩, rfl, u5⟩
      by_cases hz : fo b kk D (NF.en (b - 1) (q + 2) [] 1) 0 = 0
      · have hnone : ∀ v, Sv b kk D 0 1 b v → b ^ (q + 2) ≤ v := by
          intro v hv
          refine Int.le_of_not_gt fun h => ?_
          have hl := hlist v hv h
          rcases hmn with ⟨_, h3⟩ | ⟨h3, _⟩
          · exact h3 v hl
          · rw [hz] at h3
            obtain ⟨l, hl, e, _⟩ := h3
            have := (hok l hl).2.2.1
            omega
        obtain ⟨R, ⟨K3, g3⟩, g4⟩ := il_l0 hb hD j (q + 3) (by omega) (by omega) (by rw [show q + 3 - 2 = q + 1 by omega]; exact hpp) (by rw [show q + 3 - 1 = q + 2 by omega]; exact hnone)
        refine ⟨R, ⟨K1 + K2 + K3 + 1, fun k m hk hm => ?_⟩, g4⟩
        obtain ⟨m, rfl⟩ : ∃ m', m = m' + 1 := ⟨m - 1, by omega⟩
        rw [impl_LeastPersistent.l0, if_pos rfl, if_pos (by omega), c26, g1 k (by omega), Option.bind_some, if_pos hpp, g2 k (by omega), Option.bind_some, hz]
        exact g3 k m (by omega) (by omega)
      · refine ⟨fo b kk D (NF.en (b - 1) (q + 2) [] 1) 0, ⟨K1 + K2 + 2, fun k m hk hm => ?_⟩, ?_⟩
        · obtain ⟨m, rfl⟩ : ∃ m', m = m' + 1 + 1 := ⟨m - 2, by omega⟩
          rw [impl_LeastPersistent.l0, if_pos rfl, if_pos (by omega), c26, g1 k (by omega), Option.bind_some, if_pos hpp, g2 k (by omega), Option.bind_some, impl_LeastPersistent.l0, if_neg hz]
        · rcases hmn with ⟨h3, _⟩ | ⟨⟨l, hl, e, h5, h6⟩, h4⟩
          · exact absurd h3 hz
          · generalize fo b kk D (NF.en (b - 1) (q + 2) [] 1) 0 = R at *
            obtain ⟨t, et, t1, t2⟩ := (mem_en _ _ _ _ _).mp hl
            rw [List.nil_append] at et
            subst et
            cases l with
            | nil => simp at t1
            | cons x t =>
              obtain ⟨u1, u2, u3⟩ := t2
              obtain ⟨v1, v2⟩ := lead hb.1 u1 (by omega) u3
              rw [show t.length = q + 1 by simpa using t1] at v1 v2
              refine .inr ⟨⟨x, t, u1, by omega, u3, e, h5, h6⟩, fun v hv => ?_⟩
              by_cases hlt : v < b ^ (q + 2)
              · exact h4 v (hlist v hv hlt)
              · rw [show q + 1 + 1 = q + 2 by omega] at v2; omega
    · refine ⟨0, ⟨K1 + 1, fun k m hk hm => ?_⟩, .inl ⟨rfl, fun v hv => ?_⟩⟩
      · obtain ⟨m, rfl⟩ : ∃ m', m = m' + 1 := ⟨m - 1, by omega⟩
        rw [impl_LeastPersistent.l0, if_pos rfl, if_pos (by omega), c26, g1 k (by omega), Option.bind_some, if_neg hpp]
      · have := hmin v hv
        obtain ⟨_, _, _, _, _, _, h3, _⟩ := hv
        omega
theorem lp_ev (a b : Int) : ∃ r : Int × Bool, Ev (fun k => spec_LeastPersistent.f k a b) r ∧ Ev (fun k => impl_LeastPersistent.f k a b) r := by
  unfold spec_LeastPersistent.f impl_LeastPersistent.f
  by_cases hb : 2 ≤ b ∧ b ≤ 16
  · by_cases ha : 0 ≤ a ∧ a ≤ 12
    · by_cases h2 : a < 2
      · refine ⟨(a * b, true), ?_, ?_⟩
        · refine Ev.pure (spec_dgBase_eq b) (Ev.pos (decide_eq_true hb) (Ev.pure (spec_l1In_eq a 0 12) ?_))
          rw [decide_eq_true ha]
          refine Ev.step (fun k => by rw [spec_LeastPersistent.j0]) (Ev.neg (by decide) ?_)
          rcases (show a = 0 ∨ a = 1 by omega) with rfl | rfl
          · exact Ev.pos rfl (Ev.val (by rw [Int.zero_mul]))
          · exact Ev.neg (by decide) (Ev.pos rfl (Ev.val (by rw [Int.one_mul])))
        · exact Ev.pos ⟨ha.1, ha.2, hb⟩ (Ev.pos h2 (Ev.now _))
      · obtain ⟨D, hD⟩ := told b hb
        obtain ⟨R, e1, e2⟩ := pl_f (kk := a) hb hD 10000001 0 1 (by omega) (by omega) (by omega) (by omega) (by omega)
        obtain ⟨R', ⟨K, g1⟩, g2⟩ := il_l0 (kk := a) hb hD 24 2 (by omega) (by omega) (by rw [show 2 - 2 = 0 from rfl, Int.pow_zero]; decide) (fun v hv => by
          have h3 := sv_ge hb.1 (by omega) (by omega) hv
          obtain ⟨_, _, _, _, _, _, h4, h5⟩ := hv
          refine Int.le_of_not_gt fun hlt => ?_
          rw [show b ^ (2 - 1) = b from Int.pow_one b] at hlt
          have := (hD v (by omega) (by omega)).1 hlt
          omega)
        obtain rfl := isMin_unique e2 g2
        refine ⟨(R, decide (R > 0)), ?_, ?_⟩
        · refine Ev.pure (spec_dgBase_eq b) (Ev.pos (decide_eq_true hb) (Ev.pure (spec_l1In_eq a 0 12) ?_))
          rw [decide_eq_true ha]
          refine Ev.step (fun k => by rw [spec_LeastPersistent.j0]) (Ev.neg (by decide) (Ev.neg (by omega) (Ev.neg (by omega) ?_)))
          exact Ev.bind e1 (Ev.now _)
        · refine Ev.pos ⟨ha.1, ha.2, hb⟩ (Ev.neg h2 ?_)
          exact Ev.bind ⟨K, fun k hk => g1 k k hk hk⟩ (Ev.now _)
    · refine ⟨(0, false), ?_, Ev.neg (fun h => ha ⟨h.1, h.2.1⟩) (Ev.now _)⟩
      refine Ev.pure (spec_dgBase_eq b) (Ev.pos (decide_eq_true hb) (Ev.pure (spec_l1In_eq a 0 12) ?_))
      rw [decide_eq_false ha]
      refine Ev.step (fun k => by rw [spec_LeastPersistent.j0]) ?_
      exact Ev.pos rfl (Ev.now _)
  · refine ⟨(0, false), ?_, Ev.neg (fun h => hb h.2.2) (Ev.now _)⟩
    refine Ev.pure (spec_dgBase_eq b) (Ev.neg (by simpa using hb) ?_)
    refine Ev.step (fun k => by rw [spec_LeastPersistent.j0]) ?_
    exact Ev.pos rfl (Ev.now _)
theorem FnExactLeastPersistent : laws_FnExactLeastPersistent.Pure := by
  intro a0 a1 hw hw1
  apply Ev.rounds
  obtain ⟨r, hs, hi⟩ := lp_ev a0 a1
  refine Ev.bind hs (Ev.bind hi ?_)
  simp; exact Ev.now _

end Go.Proofs.Ytimimjmabnmeoaa.Pure
