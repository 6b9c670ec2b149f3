/- For every list of ints and every int base, the program's CycleOf gives what the reference gives, in memory of its own, and leaves the list as it is. No conditions. -/
import Derived.Test.YteojcnegdcopdaaPFnExactCycleOfx7
namespace Go.Proofs.Yteojcnegdcopdaa.Pure
open Go.RowKit Go.Proofs.Yteojcnegdcopdaa.PFnExactCycleOf Go.Proofs.YteojcnegdcopdaaW.PrintWords Go.Proofs.YteojcnegdcopdaaW.PrintLast

theorem wf_i64 {x : Int} (h : (Lit.int .i64 x).wf = true) : -9223372036854775808 ≤ x ∧ x ≤ 9223372036854775807 := by
  simp only [Lit.wf, Bool.and_eq_true, decide_eq_true_eq, show IntKind.i64.min = -9223372036854775808 from rfl, show IntKind.i64.max = 9223372036854775807 from rfl] at h
  exact h
theorem w64 {x : Int} (h0 : -9223372036854775808 ≤ x) (h1 : x ≤ 9223372036854775807) : wrap64 x = x := by unfold wrap64; omega
theorem Ev.pos {α : Type} {c : Prop} [Decidable c] {A B : Nat → Option α} {r : α} (h : c) (e : Ev A r) : Ev (fun k => if c then A k else B k) r := by simpa only [if_pos h] using e
theorem Ev.neg {α : Type} {c : Prop} [Decidable c] {A B : Nat → Option α} {r : α} (h : ¬ c) (e : Ev B r) : Ev (fun k => if c then A k else B k) r := by simpa only [if_neg h] using e
theorem Ev.val {α : Type} {a r : α} (h : a = r) : Ev (fun _ => some a) r := h ▸ Ev.now a
theorem Ev.pure {α β : Type} {o : Option α} {f : Nat → α → Option β} {a : α} {r : β} (h : o = some a) (k : Ev (fun n => f n a) r) : Ev (fun n => o.bind (f n)) r := by subst h; exact k
theorem Ev.call {α β : Type} {g : Nat → Option α} {f : Nat → α → Option β} {a : α} {r : β} (h : Ev g a) (k : Ev (fun n => f n a) r) : Ev (fun n => (g n).bind (f n)) r := Ev.bind h k
theorem Ev.same {α : Type} {g f : Nat → Option α} {r : α} (h : ∀ k, g k = f k) (k : Ev g r) : Ev f r := Ev.congr (fun k => (h k).symm) k

theorem rd_mid (pre rest : List Int) (a : Int) : rd (pre ++ a :: rest) (pre.length : Int) = a := by simp [rd]

theorem toInt_l0 (L : List Int) (hL : L.length ≤ 1048576) : ∀ (rest pre : List Int) (i : Int), L = pre ++ rest → i = (pre.length : Int) → Ev (fun k => laws_toIntS.l0 k L (pre ++ List.replicate rest.length 0) i) L
  | [], pre, i, h, hi => by
    refine Ev.step (fun k => by rw [laws_toIntS.l0]) ?_
    exact Ev.neg (by rw [h]; simp; omega) (Ev.val (by rw [h]; simp))
  | a :: rest, pre, i, h, hi => by
    have hlen : L.length = pre.length + (rest.length + 1) := by rw [h]; simp
    have hr : rd L i = a := by rw [h, hi]; simp [rd]
    have e : (pre ++ List.replicate (a :: rest).length 0).set i.toNat a = (pre ++ [a]) ++ List.replicate rest.length 0 := by
      have : i.toNat = pre.length := by omega
      rw [this, List.length_cons, List.replicate_succ]; simp
    have ih := toInt_l0 L hL rest (pre ++ [a]) (i + 1) (by rw [h]; simp) (by simp; omega)
    refine Ev.step (fun k => by rw [laws_toIntS.l0]) ?_
    refine Ev.pos (by omega) (Ev.pos (by omega) (Ev.pos (by simp; omega) ?_))
    rw [hr, e, w64 (by omega) (by omega)]
    exact ih
theorem toInt_ev (L : List Int) (hL : L.length ≤ 1048576) : Ev (fun k => laws_toIntS.f k L) L := by
  unfold laws_toIntS.f
  refine Ev.pos (by omega) (Ev.pos (by omega) ?_)
  have := toInt_l0 L hL L [] 0 rfl rfl
  simpa using this

theorem spec_l1In_eq (a b c : Int) : spec_l1In.f a b c = some (decide (b ≤ a ∧ a ≤ c)) := by
  unfold spec_l1In.f
  by_cases h : b ≤ a
  · rw [if_pos (show a ≥ b from h)]; simp [h]
  · rw [if_neg (show ¬ a ≥ b from h)]; simp [h]
theorem impl_in_eq (a b c : Int) : impl_in.f a b c = some (decide (b ≤ a ∧ a ≤ c)) := by
  unfold impl_in.f
  by_cases h : b ≤ a
  · rw [if_pos h]; simp [h]
  · rw [if_neg h]; simp [h]
theorem spec_dgBase_eq (b : Int) : spec_dgBase.f b = some (decide (2 ≤ b ∧ b ≤ 16)) := by
  unfold spec_dgBase.f
  rw [spec_l1In_eq]; simp
theorem impl_isBase_eq (b : Int) : impl_isBase.f b = some (decide (2 ≤ b ∧ b ≤ 16)) := by
  unfold impl_isBase.f
  rw [impl_in_eq]; simp

theorem l1All_l0 (L : List Int) (hL : L.length ≤ 1048576) (lo hi : Int) : ∀ (rest pre : List Int) (i : Int), L = pre ++ rest → i = (pre.length : Int) → Ev (fun k => spec_l1All.l0 k lo hi L (L.length : Int) i) (impl_areIn.all lo hi rest)
  | [], pre, i, h, hi' => by
    refine Ev.step (fun k => by rw [spec_l1All.l0]) ?_
    exact Ev.neg (by rw [h]; simp; omega) (Ev.val rfl)
  | a :: rest, pre, i, h, hi' => by
    have hlen : L.length = pre.length + (rest.length + 1) := by rw [h]; simp
    have hr : rd L i = a := by rw [h, hi']; simp [rd]
    have ih := l1All_l0 L hL lo hi rest (pre ++ [a]) (i + 1) (by rw [h]; simp) (by simp; omega)
    refine Ev.step (fun k => by rw [spec_l1All.l0]) ?_
    rw [hr, w64 (by omega) (by omega)]
    refine Ev.pos (by omega) (Ev.pos (by omega) (Ev.pos (by omega) (Ev.pure (spec_l1In_eq _ _ _) ?_)))
    by_cases hc : lo ≤ a ∧ a ≤ hi
    · refine Ev.pos (decide_eq_true hc) ?_
      have e : impl_areIn.all lo hi (a :: rest) = impl_areIn.all lo hi rest := by simp [impl_areIn.all, impl_areIn.ok, hc]
      rw [e]; exact ih
    · refine Ev.neg (by simp [hc]) (Ev.val ?_)
      simp only [impl_areIn.all, impl_areIn.ok, List.all_cons]
      rw [show (decide (lo ≤ a) && decide (a ≤ hi)) = false by rw [← Bool.decide_and]; exact decide_eq_false hc]
      rfl
theorem l1All_ev (L : List Int) (hL : L.length ≤ 1048576) (lo hi : Int) : Ev (fun k => spec_l1All.f k L lo hi) (impl_areIn.all lo hi L) := l1All_l0 L hL lo hi L [] 0 rfl rfl

/-- a word in a base -/
def gw (l : List Int) (b : Int) : Bool := decide (2 ≤ b ∧ b ≤ 16) && (decide (1 ≤ (l.length : Int) ∧ (l.length : Int) ≤ 8) && impl_areIn.all 0 (b - 1) l)
theorem gpWord_ev (L : List Int) (b : Int) (hL : L.length ≤ 1048576) : Ev (fun k => spec_gpWord.f k L b) (gw L b) := by
  unfold spec_gpWord.f gw
  refine Ev.pure (spec_dgBase_eq b) ?_
  by_cases hb : 2 ≤ b ∧ b ≤ 16
  · refine Ev.pos (decide_eq_true hb) (Ev.pure (spec_l1In_eq _ _ _) ?_)
    rw [decide_eq_true hb, Bool.true_and]
    by_cases hl : 1 ≤ (L.length : Int) ∧ (L.length : Int) ≤ 8
    · refine Ev.pos (decide_eq_true hl) ?_
      rw [decide_eq_true hl, Bool.true_and, w64 (by omega) (by omega)]
      exact Ev.bind (l1All_ev L hL 0 (b - 1)) (Ev.now _)
    · refine Ev.neg (by simp only [decide_eq_true_eq]; exact hl) (Ev.val ?_)
      rw [decide_eq_false hl]; rfl
  · refine Ev.neg (by simp only [decide_eq_true_eq]; exact hb) (Ev.val ?_)
    rw [decide_eq_false hb]; rfl
theorem isWord_eq (L : List Int) (b : Int) : impl_isWord.f L b = some (gw L b) := by
  unfold impl_isWord.f gw impl_areIn.f
  rw [impl_isBase_eq]
  by_cases hb : 2 ≤ b ∧ b ≤ 16
  · simp only [Option.bind_some, decide_eq_true hb, if_true, Bool.true_and]
    rw [w64 (by omega) (by omega), ← Bool.decide_and]
  · simp [decide_eq_false hb]
theorem gw_len {L : List Int} {b : Int} (h : gw L b = true) : (2 ≤ b ∧ b ≤ 16) ∧ 1 ≤ L.length ∧ L.length ≤ 8 ∧ (∀ x ∈ L, 0 ≤ x ∧ x < b) := by
  unfold gw impl_areIn.all impl_areIn.ok at h
  simp only [Bool.and_eq_true, decide_eq_true_eq, List.all_eq_true] at h
  refine ⟨h.1, by omega, by omega, fun x hx => ?_⟩
  have := h.2.2 x hx
  omega

/-- the reference's sorting: each number in turn, behind those that are not greater -/
def insR (x : Int) : List Int → List Int
  | [] => [x]
  | y :: t => if y ≤ x then y :: insR x t else x :: y :: t
theorem insR_perm (x : Int) : ∀ l : List Int, (insR x l).Perm (x :: l)
  | [] => List.Perm.refl _
  | y :: t => by
    unfold insR
    split
    · exact ((insR_perm x t).cons y).trans (List.Perm.swap x y t)
    · exact List.Perm.refl _
theorem insR_sorted (x : Int) : ∀ l : List Int, l.Pairwise (· ≤ ·) → (insR x l).Pairwise (· ≤ ·)
  | [], _ => by simp [insR]
  | y :: t, h => by
    unfold insR
    obtain ⟨h1, h2⟩ := List.pairwise_cons.mp h
    split
    · rename_i hx
      refine List.pairwise_cons.mpr ⟨fun z hz => ?_, insR_sorted x t h2⟩
      rcases List.mem_cons.mp ((insR_perm x t).mem_iff.mp hz) with rfl | hz
      · exact hx
      · exact h1 z hz
    · rename_i hx
      refine List.pairwise_cons.mpr ⟨fun z hz => ?_, h⟩
      rcases List.mem_cons.mp hz with rfl | hz
      · omega
      · have := h1 z hz; omega
theorem gins_perm (x : Int) : ∀ l : List Int, (slices_Sort_int_int.ins x l).Perm (x :: l)
  | [] => List.Perm.refl _
  | y :: t => by
    unfold slices_Sort_int_int.ins
    split
    · exact List.Perm.refl _
    · exact ((gins_perm x t).cons y).trans (List.Perm.swap x y t)
theorem gso_perm : ∀ l : List Int, (slices_Sort_int_int.so l).Perm l
  | [] => List.Perm.refl _
  | x :: t => (gins_perm x _).trans ((gso_perm t).cons x)
theorem gins_sorted (x : Int) : ∀ l : List Int, l.Pairwise (· ≤ ·) → (slices_Sort_int_int.ins x l).Pairwise (· ≤ ·)
  | [], _ => by simp [slices_Sort_int_int.ins]
  | y :: t, h => by
    unfold slices_Sort_int_int.ins
    obtain ⟨h1, h2⟩ := List.pairwise_cons.mp h
    split
    · rename_i hx
      refine List.pairwise_cons.mpr ⟨fun z hz => ?_, h⟩
      rcases List.mem_cons.mp hz with rfl | hz
      · exact hx
      · exact Int.le_trans hx (h1 z hz)
    · rename_i hx
      refine List.pairwise_cons.mpr ⟨fun z hz => ?_, gins_sorted x t h2⟩
      rcases List.mem_cons.mp ((gins_perm x t).mem_iff.mp hz) with rfl | hz
      · omega
      · exact h1 z hz
theorem gso_sorted : ∀ l : List Int, (slices_Sort_int_int.so l).Pairwise (· ≤ ·)
  | [] => List.Pairwise.nil
  | x :: t => gins_sorted x _ (gso_sorted t)
theorem own_eq (l : List Int) (h : l.length ≤ 1048576) : spec_l1Own.f l = some l := by unfold spec_l1Own.f; simp; omega
/-- one number put in its place: A in front of place i not greater -/
theorem dgs_l1 (L : List Int) (n j x : Int) : ∀ (B A : List Int) (i : Int), A.length + B.length ≤ 1000000 → i = (A.length : Int) →
    ∀ r, Ev (fun k => spec_dgSorted.l0 k (A ++ insR x B) L n (wrap64 (j + 1))) r → Ev (fun k => spec_dgSorted.l1 k (A ++ B) x i L n j) r
  | [], A, i, hl, hi, r, h => by
    have hA : A.length ≤ 1000000 := by simpa using hl
    rw [List.append_nil]
    refine Ev.step (fun k => by rw [spec_dgSorted.l1]) ?_
    have e1 : A.take i.toNat = A := by rw [hi, Int.toNat_natCast, List.take_length]
    have e2 : A.drop i.toNat = [] := by rw [hi, Int.toNat_natCast, List.drop_length]
    refine Ev.neg (by omega) (Ev.pos (by omega) (Ev.pos (by omega) ?_))
    rw [e1, e2]
    refine Ev.pure (own_eq A (by omega)) (Ev.pos (by omega) (Ev.pure rfl (Ev.pure rfl (Ev.pos (by simp; omega) ?_))))
    simpa [insR] using h
  | y :: B, A, i, hl, hi, r, h => by
    have hA : A.length + B.length + 1 ≤ 1000000 := by simp at hl; omega
    have hlen : (A ++ y :: B).length = A.length + (B.length + 1) := by simp
    have hy : rd (A ++ y :: B) i = y := by rw [hi]; exact rd_mid _ _ _
    refine Ev.step (fun k => by rw [spec_dgSorted.l1]) ?_
    refine Ev.pos (by omega) (Ev.pos (by omega) ?_)
    rw [hy]
    by_cases hxy : y ≤ x
    · refine Ev.pos hxy ?_
      have e : A ++ y :: B = (A ++ [y]) ++ B := by simp
      rw [e, w64 (by omega) (by omega)]
      refine dgs_l1 L n j x B (A ++ [y]) (i + 1) (by simp; omega) (by simp; omega) r ?_
      unfold insR at h
      rw [if_pos hxy] at h
      simpa using h
    · have e1 : (A ++ y :: B).take i.toNat = A := by rw [hi, Int.toNat_natCast]; simp
      have e2 : (A ++ y :: B).drop i.toNat = y :: B := by rw [hi, Int.toNat_natCast]; simp
      refine Ev.neg hxy (Ev.pos (by omega) ?_)
      rw [e1, e2]
      refine Ev.pure (own_eq A (by omega)) (Ev.pos (by omega) (Ev.pure rfl (Ev.pure rfl (Ev.pos (by simp; omega) ?_))))
      unfold insR at h
      rw [if_neg hxy] at h
      simpa using h
theorem dgs_l0 (L : List Int) (hL : L.length ≤ 1000) : ∀ (T P : List Int) (S : List Int) (i : Int), L = P ++ T → i = (P.length : Int) → S.Perm P → S.Pairwise (· ≤ ·) →
    ∃ r : List Int, r.Perm L ∧ r.Pairwise (· ≤ ·) ∧ Ev (fun k => spec_dgSorted.l0 k S L (L.length : Int) i) r
  | [], P, S, i, hLP, hi, hp, hs => by
    have : L.length = P.length := by rw [hLP]; simp
    refine ⟨S, by rw [hLP]; simpa using hp, hs, ?_⟩
    refine Ev.step (fun k => by rw [spec_dgSorted.l0]) ?_
    exact Ev.neg (by omega) (Ev.now _)
  | x :: T, P, S, i, hLP, hi, hp, hs => by
    have hl : L.length = P.length + (T.length + 1) := by rw [hLP]; simp
    have hx : rd L i = x := by rw [hLP, hi]; exact rd_mid _ _ _
    have hS : S.length = P.length := hp.length_eq
    obtain ⟨r, h1, h2, h3⟩ := dgs_l0 L hL T (P ++ [x]) (insR x S) (i + 1) (by rw [hLP]; simp) (by simp; omega) ((insR_perm x S).trans ((hp.cons x).trans (List.perm_append_singleton x P).symm)) (insR_sorted x S hs)
    refine ⟨r, h1, h2, ?_⟩
    refine Ev.step (fun k => by rw [spec_dgSorted.l0]) ?_
    refine Ev.pos (by omega) (Ev.pos (by omega) (Ev.pos (by omega) ?_))
    rw [hx]
    have := dgs_l1 L (L.length : Int) i x S [] 0 (by simp; omega) rfl r (by rw [w64 (by omega) (by omega)]; simpa using h3)
    simpa using this
theorem dgSorted_ev (L : List Int) (hL : L.length ≤ 1000) : Ev (fun k => spec_dgSorted.f k L) (slices_Sort_int_int.so L) := by
  obtain ⟨r, h1, h2, h3⟩ := dgs_l0 L hL L [] [] 0 rfl rfl (List.Perm.refl _) List.Pairwise.nil
  have e : r = slices_Sort_int_int.so L := (h1.trans (gso_perm L).symm).eq_of_pairwise (fun a b _ _ h1 h2 => Int.le_antisymm h1 h2) h2 (gso_sorted L)
  rw [← e]
  exact h3

theorem back_l0 (L : List Int) (hL : L.length ≤ 1048576) : ∀ (m : Nat) (i : Int) (acc : List Int), m ≤ L.length → i = (m : Int) - 1 → acc.length + m ≤ 1048576 → Ev (fun k => spec_dgBack.l0 k L acc i) (acc ++ (L.take m).reverse)
  | 0, i, acc, h, hi, ha => by
    refine Ev.step (fun k => by rw [spec_dgBack.l0]) ?_
    exact Ev.neg (by omega) (Ev.val (by simp))
  | m + 1, i, acc, h, hi, ha => by
    have hr : rd L i = L[m] := by
      have : i.toNat = m := by omega
      simp [rd, this, List.getElem?_eq_getElem (show m < L.length by omega)]
    have ih := back_l0 L hL m (i - 1) (acc ++ [rd L i]) (by omega) (by omega) (by simp; omega)
    refine Ev.step (fun k => by rw [spec_dgBack.l0]) ?_
    refine Ev.pos (by omega) (Ev.pos (by omega) (Ev.pos (by omega) (Ev.pos (by omega) ?_)))
    rw [w64 (by omega) (by omega)]
    have e : acc ++ (L.take (m + 1)).reverse = (acc ++ [rd L i]) ++ (L.take m).reverse := by
      rw [List.take_succ_eq_append_getElem (show m < L.length by omega), hr]; simp
    rw [e]; exact ih
theorem back_ev (L : List Int) (hL : L.length ≤ 1048576) : Ev (fun k => spec_dgBack.f k L) L.reverse := by
  have := back_l0 L hL L.length ((L.length : Int) - 1) [] (Nat.le_refl _) rfl (by simp; omega)
  unfold spec_dgBack.f
  rw [w64 (by omega) (by omega)]
  simpa using this

/-- the number that digits stand for, behind an accumulator -/
def vl (b acc : Int) (l : List Int) : Int := l.foldl (fun a x => a * b + x) acc
theorem vl_cons (b acc x : Int) (t : List Int) : vl b acc (x :: t) = vl b (acc * b + x) t := rfl
theorem vl_bd {b : Int} (hb : 2 ≤ b ∧ b ≤ 16) : ∀ (l : List Int) (a m : Int), 0 ≤ a → a + 1 ≤ m → (∀ x ∈ l, 0 ≤ x ∧ x < b) → 0 ≤ vl b a l ∧ vl b a l + 1 ≤ m * b ^ l.length
  | [], a, m, h0, h1, _ => by simp [vl]; omega
  | x :: t, a, m, h0, h1, hd => by
    rw [vl_cons]
    have hx := hd x List.mem_cons_self
    have h2 : (a + 1) * b ≤ m * b := Int.mul_le_mul_of_nonneg_right h1 (by omega)
    have h3 : 0 ≤ a * b := Int.mul_nonneg h0 (by omega)
    rw [Int.add_mul, Int.one_mul] at h2
    have := vl_bd hb t (a * b + x) (m * b) (by omega) (by omega) (fun z hz => hd z (List.mem_cons_of_mem _ hz))
    refine ⟨this.1, ?_⟩
    have e : m * b ^ (x :: t).length = m * b * b ^ t.length := by rw [List.length_cons, Int.pow_succ, Int.mul_comm (b ^ t.length) b, ← Int.mul_assoc]
    rw [e]; exact this.2
theorem pow_le8 {b : Int} (hb : 2 ≤ b ∧ b ≤ 16) {n : Nat} (hn : n ≤ 8) : 1 ≤ b ^ n ∧ b ^ n ≤ 4294967296 := by
  have e : b = 2 ∨ b = 3 ∨ b = 4 ∨ b = 5 ∨ b = 6 ∨ b = 7 ∨ b = 8 ∨ b = 9 ∨ b = 10 ∨ b = 11 ∨ b = 12 ∨ b = 13 ∨ b = 14 ∨ b = 15 ∨ b = 16 := by omega
  have f : n = 0 ∨ n = 1 ∨ n = 2 ∨ n = 3 ∨ n = 4 ∨ n = 5 ∨ n = 6 ∨ n = 7 ∨ n = 8 := by omega
  rcases e with rfl | rfl | rfl | rfl | rfl | rfl | rfl | rfl | rfl | rfl | rfl | rfl | rfl | rfl | rfl <;> rcases f with rfl | rfl | rfl | rfl | rfl | rfl | rfl | rfl | rfl <;> decide
theorem gpv_l0 {b : Int} (hb : 2 ≤ b ∧ b ≤ 16) (L : List Int) (hL : L.length ≤ 8) : ∀ (T P : List Int) (a m i : Int), L = P ++ T → i = (P.length : Int) → 0 ≤ a → a + 1 ≤ m → m * b ^ T.length ≤ 4294967296 → (∀ x ∈ T, 0 ≤ x ∧ x < b) →
    Ev (fun k => spec_gpValue.l0 k b a L (L.length : Int) i) (vl b a T)
  | [], P, a, m, i, hLP, hi, h0, h1, hm, hd => by
    have : L.length = P.length := by rw [hLP]; simp
    refine Ev.step (fun k => by rw [spec_gpValue.l0]) ?_
    exact Ev.neg (by omega) (Ev.now _)
  | x :: T, P, a, m, i, hLP, hi, h0, h1, hm, hd => by
    have hl : L.length = P.length + (T.length + 1) := by rw [hLP]; simp
    have hx : rd L i = x := by rw [hLP, hi]; exact rd_mid _ _ _
    have hxd := hd x List.mem_cons_self
    have hd' : ∀ z ∈ T, 0 ≤ z ∧ z < b := fun z hz => hd z (List.mem_cons_of_mem _ hz)
    have h2 : (a + 1) * b ≤ m * b := Int.mul_le_mul_of_nonneg_right h1 (by omega)
    rw [Int.add_mul, Int.one_mul] at h2
    have h3 : 0 ≤ a * b := Int.mul_nonneg h0 (by omega)
    have e : m * b ^ (x :: T).length = m * b * b ^ T.length := by rw [List.length_cons, Int.pow_succ, Int.mul_comm (b ^ T.length) b, ← Int.mul_assoc]
    rw [e] at hm
    have h4 : m * b * 1 ≤ m * b * b ^ T.length := Int.mul_le_mul_of_nonneg_left (pow_le8 hb (by omega)).1 (by omega)
    have ih := gpv_l0 hb L hL T (P ++ [x]) (a * b + x) (m * b) (i + 1) (by rw [hLP]; simp) (by simp; omega) (by omega) (by omega) hm hd'
    generalize hq : m * b * b ^ T.length = q at hm h4
    refine Ev.step (fun k => by rw [spec_gpValue.l0]) ?_
    refine Ev.pos (by omega) (Ev.pos (by omega) (Ev.pos (by omega) ?_))
    rw [hx, w64 (show -9223372036854775808 ≤ a * b by omega) (by omega), w64 (by omega) (by omega), w64 (show -9223372036854775808 ≤ i + 1 by omega) (by omega), vl_cons]
    exact ih
theorem gpv_ev {b : Int} (hb : 2 ≤ b ∧ b ≤ 16) (L : List Int) (hL : L.length ≤ 8) (hd : ∀ x ∈ L, 0 ≤ x ∧ x < b) : Ev (fun k => spec_gpValue.f k L b) (vl b 0 L) :=
  gpv_l0 hb L hL L [] 0 1 0 rfl rfl (by omega) (by omega) (by have := (pow_le8 hb hL).2; omega) hd
theorem toPow_l0 {b : Int} (hb : 2 ≤ b ∧ b ≤ 16) (K : Nat) (hK : K ≤ 8) : ∀ (m n : Nat), n + m = K → Ev (fun k => impl_toPower.l0 k b (b ^ n) (K : Int) (n : Int)) (b ^ K)
  | 0, n, h => by
    refine Ev.step (fun k => by rw [impl_toPower.l0]) ?_
    exact Ev.neg (by omega) (Ev.val (by rw [show n = K by omega]))
  | m + 1, n, h => by
    have h1 := pow_le8 hb (show n + 1 ≤ 8 by omega)
    have e : b ^ n * b = b ^ (n + 1) := (Int.pow_succ b n).symm
    refine Ev.step (fun k => by rw [impl_toPower.l0]) ?_
    refine Ev.pos (by omega) ?_
    rw [e]
    have ih := toPow_l0 hb K hK m (n + 1) (by omega)
    generalize b ^ (n + 1) = q at h1 ih
    rw [w64 (by omega) (by omega), w64 (show -9223372036854775808 ≤ (n : Int) + 1 by omega) (by omega)]
    simpa using ih
theorem toPow_ev {b : Int} (hb : 2 ≤ b ∧ b ≤ 16) {n : Nat} (hn : n ≤ 8) : Ev (fun k => impl_toPower.f k b (n : Int)) (b ^ n) := by
  have := toPow_l0 hb n hn n 0 (by omega)
  simpa [impl_toPower.f] using this
/-- what the gaps sum up to, from gap i on -/
def gsum (b : Int) (w : Nat) : Nat → List Int → Int
  | _, [] => 0
  | i, g :: t => g * (b ^ (w - 1 - i) - b ^ i) + gsum b w (i + 1) t
theorem mul_bd {g d : Int} (hg : -16 ≤ g ∧ g ≤ 16) (hd : -4294967296 ≤ d ∧ d ≤ 4294967296) : -68719476736 ≤ g * d ∧ g * d ≤ 68719476736 := by
  have e : g = -16 ∨ g = -15 ∨ g = -14 ∨ g = -13 ∨ g = -12 ∨ g = -11 ∨ g = -10 ∨ g = -9 ∨ g = -8 ∨ g = -7 ∨ g = -6 ∨ g = -5 ∨ g = -4 ∨ g = -3 ∨ g = -2 ∨ g = -1 ∨ g = 0 ∨ g = 1 ∨ g = 2 ∨ g = 3 ∨ g = 4 ∨ g = 5 ∨ g = 6 ∨ g = 7 ∨ g = 8 ∨ g = 9 ∨ g = 10 ∨ g = 11 ∨ g = 12 ∨ g = 13 ∨ g = 14 ∨ g = 15 ∨ g = 16 := by omega
  rcases e with rfl | rfl | rfl | rfl | rfl | rfl | rfl | rfl | rfl | rfl | rfl | rfl | rfl | rfl | rfl | rfl | rfl | rfl | rfl | rfl | rfl | rfl | rfl | rfl | rfl | rfl | rfl | rfl | rfl | rfl | rfl | rfl | rfl <;> omega
theorem byg_l0 {b : Int} (hb : 2 ≤ b ∧ b ≤ 16) (w : Nat) (hw : 1 ≤ w ∧ w ≤ 8) (G : List Int) (hG : G.length ≤ 4) (hGw : G.length ≤ w) : ∀ (T P : List Int) (a i : Int), G = P ++ T → i = (P.length : Int) → -(P.length * 68719476736 : Int) ≤ a → a ≤ (P.length * 68719476736 : Int) → (∀ x ∈ T, -16 ≤ x ∧ x ≤ 16) →
    Ev (fun k => impl_byGaps.l0 k (w : Int) b a G (G.length : Int) i) (a + gsum b w P.length T) := by
  intro T
  induction T with
  | nil =>
    intro P a i hGP hi h0 h1 hd
    have : G.length = P.length := by rw [hGP]; simp
    refine Ev.step (fun k => by rw [impl_byGaps.l0]) ?_
    exact Ev.neg (by omega) (Ev.val (by simp [gsum]))
  | cons x T ih0 =>
    intro P a i hGP hi h0 h1 hd
    have hl : G.length = P.length + (T.length + 1) := by rw [hGP]; simp
    have hx : rd G i = x := by rw [hGP, hi]; exact rd_mid _ _ _
    have hxd := hd x List.mem_cons_self
    have hd' : ∀ z ∈ T, -16 ≤ z ∧ z ≤ 16 := fun z hz => hd z (List.mem_cons_of_mem _ hz)
    have p1 := pow_le8 hb (show w - 1 - P.length ≤ 8 by omega)
    have p2 := pow_le8 hb (show P.length ≤ 8 by omega)
    have t1 := toPow_ev hb (show w - 1 - P.length ≤ 8 by omega)
    have t2 := toPow_ev hb (show P.length ≤ 8 by omega)
    have e1 : wrap64 (wrap64 ((w : Int) - 1) - i) = ((w - 1 - P.length : Nat) : Int) := by
      rw [w64 (show -9223372036854775808 ≤ (w : Int) - 1 by omega) (by omega), w64 (by omega) (by omega)]; omega
    have hs : gsum b w P.length (x :: T) = x * (b ^ (w - 1 - P.length) - b ^ P.length) + gsum b w (P.length + 1) T := rfl
    rw [hs]
    have ih := ih0 (P ++ [x]) (a + x * (b ^ (w - 1 - P.length) - b ^ P.length)) (i + 1) (by rw [hGP]; simp) (by simp; omega)
    generalize b ^ (w - 1 - P.length) = q1 at p1 t1 ih ⊢
    generalize b ^ P.length = q2 at p2 t2 ih ⊢
    have hm := mul_bd hxd (show -4294967296 ≤ q1 - q2 ∧ q1 - q2 ≤ 4294967296 by omega)
    generalize hmq : x * (q1 - q2) = mq at hm ih ⊢
    have hlen : ((P ++ [x]).length : Int) = P.length + 1 := by simp
    have ih2 := ih (by rw [hlen]; omega) (by rw [hlen]; omega) hd'
    refine Ev.step (fun k => by rw [impl_byGaps.l0]) ?_
    refine Ev.pos (by omega) (Ev.pos (by omega) (Ev.pos (by omega) ?_))
    rw [e1, hi]
    refine Ev.bind t1 (Ev.bind t2 ?_)
    rw [← hi, hx, w64 (show -9223372036854775808 ≤ q1 - q2 by omega) (by omega), hmq, w64 (show -9223372036854775808 ≤ mq by omega) (by omega), w64 (show -9223372036854775808 ≤ a + mq by omega) (by omega), w64 (show -9223372036854775808 ≤ i + 1 by omega) (by omega)]
    have e3 : (P ++ [x]).length = P.length + 1 := by simp
    rw [e3] at ih2
    rw [← Int.add_assoc]
    exact ih2
theorem byg_ev {b : Int} (hb : 2 ≤ b ∧ b ≤ 16) (w : Nat) (hw : 1 ≤ w ∧ w ≤ 8) (G : List Int) (hG : G.length ≤ 4) (hGw : G.length ≤ w) (hd : ∀ x ∈ G, -16 ≤ x ∧ x ≤ 16) : Ev (fun k => impl_byGaps.f k G (w : Int) b) (gsum b w 0 G) := by
  have := byg_l0 hb w hw G hG hGw G [] 0 0 rfl rfl (by simp) (by simp) hd
  unfold impl_byGaps.f
  simpa using this
/-- the gaps of sorted digits -/
def gl (up : List Int) : List Int := (List.range (up.length / 2)).map fun (i : Nat) => wrap64 (rd up ((up.length : Int) - 1 - i) - rd up (i : Int))
theorem wr_sub {b x y : Int} (hb : 2 ≤ b ∧ b ≤ 16) (hx : 0 ≤ x ∧ x < b) (hy : 0 ≤ y ∧ y < b) : wrap64 (x - y) = x - y := w64 (by omega) (by omega)
theorem gap_alg {b : Int} (hb : 2 ≤ b ∧ b ≤ 16) (up : List Int) (h1 : 1 ≤ up.length) (h8 : up.length ≤ 8) (hd : ∀ x ∈ up, 0 ≤ x ∧ x < b) : vl b 0 up.reverse - vl b 0 up = gsum b up.length 0 (gl up) := by
  match up, h1, h8, hd with
  | [x0], _, _, hd => simp [vl, gl, gsum]
  | [x0, x1], _, _, hd =>
    have d0 := hd x0 (by simp); have d1 := hd x1 (by simp)
    simp [vl, gl, gsum, rd, List.range_succ, wr_sub hb d1 d0]
    grind
  | [x0, x1, x2], _, _, hd =>
    have d0 := hd x0 (by simp); have d2 := hd x2 (by simp)
    simp [vl, gl, gsum, rd, List.range_succ, wr_sub hb d2 d0]
    grind
  | [x0, x1, x2, x3], _, _, hd =>
    have d0 := hd x0 (by simp); have d1 := hd x1 (by simp); have d2 := hd x2 (by simp); have d3 := hd x3 (by simp)
    simp [vl, gl, gsum, rd, List.range_succ, wr_sub hb d3 d0, wr_sub hb d2 d1]
    grind
  | [x0, x1, x2, x3, x4], _, _, hd =>
    have d0 := hd x0 (by simp); have d1 := hd x1 (by simp); have d3 := hd x3 (by simp); have d4 := hd x4 (by simp)
    simp [vl, gl, gsum, rd, List.range_succ, wr_sub hb d4 d0, wr_sub hb d3 d1]
    grind
  | [x0, x1, x2, x3, x4, x5], _, _, hd =>
    have d0 := hd x0 (by simp); have d1 := hd x1 (by simp); have d2 := hd x2 (by simp); have d3 := hd x3 (by simp); have d4 := hd x4 (by simp); have d5 := hd x5 (by simp)
    simp [vl, gl, gsum, rd, List.range_succ, wr_sub hb d5 d0, wr_sub hb d4 d1, wr_sub hb d3 d2]
    grind
  | [x0, x1, x2, x3, x4, x5, x6], _, _, hd =>
    have d0 := hd x0 (by simp); have d1 := hd x1 (by simp); have d2 := hd x2 (by simp); have d4 := hd x4 (by simp); have d5 := hd x5 (by simp); have d6 := hd x6 (by simp)
    simp [vl, gl, gsum, rd, List.range_succ, wr_sub hb d6 d0, wr_sub hb d5 d1, wr_sub hb d4 d2]
    grind
  | [x0, x1, x2, x3, x4, x5, x6, x7], _, _, hd =>
    have d0 := hd x0 (by simp); have d1 := hd x1 (by simp); have d2 := hd x2 (by simp); have d3 := hd x3 (by simp); have d4 := hd x4 (by simp); have d5 := hd x5 (by simp); have d6 := hd x6 (by simp); have d7 := hd x7 (by simp)
    simp [vl, gl, gsum, rd, List.range_succ, wr_sub hb d7 d0, wr_sub hb d6 d1, wr_sub hb d5 d2, wr_sub hb d4 d3]
    grind

/-- the word of a width with a value -/
def wd (b : Int) : Nat → Int → List Int
  | 0, _ => []
  | w + 1, v => wd b w (v / b) ++ [v % b]
theorem wd_len (b : Int) : ∀ (w : Nat) (v : Int), (wd b w v).length = w
  | 0, _ => rfl
  | w + 1, v => by simp [wd, wd_len b w]
theorem wd_mem {b : Int} (hb : 2 ≤ b) : ∀ (w : Nat) (v : Int), ∀ x ∈ wd b w v, 0 ≤ x ∧ x < b
  | 0, _, x, h => by simp [wd] at h
  | w + 1, v, x, h => by
    simp only [wd, List.mem_append, List.mem_singleton] at h
    rcases h with h | rfl
    · exact wd_mem hb w _ x h
    · exact ⟨Int.emod_nonneg _ (by omega), Int.emod_lt_of_pos _ (by omega)⟩
theorem vl_snoc (b a x : Int) (t : List Int) : vl b a (t ++ [x]) = vl b a t * b + x := by simp [vl]
theorem vl_wd {b : Int} (hb : 2 ≤ b) : ∀ (w : Nat) (v : Int), 0 ≤ v → v < b ^ w → vl b 0 (wd b w v) = v
  | 0, v, h0, h1 => by simp [wd, vl] at *; omega
  | w + 1, v, h0, h1 => by
    have hq : v / b < b ^ w := by
      rw [Int.pow_succ] at h1
      exact Int.ediv_lt_of_lt_mul (by omega) h1
    rw [wd, vl_snoc, vl_wd hb w (v / b) (Int.ediv_nonneg h0 (by omega)) hq]
    have := Int.emod_add_mul_ediv v b
    rw [Int.mul_comm]; omega
theorem wd_vl {b : Int} (hb : 2 ≤ b) (l : List Int) : (∀ x ∈ l, 0 ≤ x ∧ x < b) → wd b l.length (vl b 0 l) = l := by
  have h : ∀ r : List Int, (∀ x ∈ r.reverse, 0 ≤ x ∧ x < b) → wd b r.reverse.length (vl b 0 r.reverse) = r.reverse := by
    intro r
    induction r with
    | nil => intro _; rfl
    | cons a r ih =>
      intro hd
      rw [List.reverse_cons] at hd ⊢
      have ha := hd a (by simp)
      have hr := ih (fun x hx => hd x (List.mem_append_left _ hx))
      rw [List.length_append, List.length_singleton, wd, vl_snoc]
      have e1 : (vl b 0 r.reverse * b + a) / b = vl b 0 r.reverse := by
        rw [Int.add_comm, Int.add_mul_ediv_right _ _ (by omega), Int.ediv_eq_zero_of_lt ha.1 ha.2]; omega
      have e2 : (vl b 0 r.reverse * b + a) % b = a := by
        rw [Int.add_comm, Int.add_mul_emod_self_right]; exact Int.emod_eq_of_lt ha.1 ha.2
      rw [e1, e2, hr]
  simpa using h l.reverse
theorem wo_l0 {b : Int} (hb : 2 ≤ b) : ∀ (m : Nat) (S : List Int) (n : Int), 0 ≤ n → n ≤ 4294967296 → m + S.length ≤ 1000 →
    Ev (fun k => spec_gpWith.l0 k n b (List.replicate m 0 ++ S) ((m : Int) - 1)) (wd b m n ++ S) ∧ Ev (fun k => impl_wordOf.l0 k n b (List.replicate m 0 ++ S) ((m : Int) - 1)) (wd b m n ++ S) := by
  intro m
  induction m with
  | zero =>
    intro S n h0 h1 hS
    refine ⟨?_, ?_⟩
    · refine Ev.step (fun k => by rw [spec_gpWith.l0]) ?_
      exact Ev.neg (by omega) (Ev.val rfl)
    · refine Ev.step (fun k => by rw [impl_wordOf.l0]) ?_
      exact Ev.neg (by omega) (Ev.val rfl)
  | succ m ih =>
    intro S n h0 h1 hS
    have hq0 : 0 ≤ n / b := Int.ediv_nonneg h0 (by omega)
    have hq1 : n / b ≤ n := Int.ediv_le_self b h0
    have e1 : (((m + 1 : Nat) : Int) - 1) = (m : Int) := by omega
    have e2 : (List.replicate (m + 1) (0 : Int)) ++ S = List.replicate m 0 ++ 0 :: S := by rw [List.replicate_succ']; simp
    have e3 : (List.replicate m (0 : Int) ++ 0 :: S).set ((m : Int)).toNat (n % b) = List.replicate m 0 ++ (n % b) :: S := by simp
    have e4 : wd b (m + 1) n ++ S = wd b m (n / b) ++ (n % b) :: S := by simp [wd]
    have hlen : (List.replicate m (0 : Int) ++ 0 :: S).length = m + S.length + 1 := by simp; omega
    have w1 : wrap64 (n / b) = n / b := w64 (by omega) (by omega)
    have w2 : wrap64 ((m : Int) - 1) = (m : Int) - 1 := w64 (by omega) (by omega)
    obtain ⟨h2, h3⟩ := ih ((n % b) :: S) (n / b) hq0 (by omega) (by simp; omega)
    rw [e1, e2, e4]
    refine ⟨?_, ?_⟩
    · refine Ev.step (fun k => by rw [spec_gpWith.l0]) ?_
      refine Ev.pos (by omega) (Ev.neg (by omega) (Ev.pos (by omega) (Ev.pos (by omega) ?_)))
      rw [Int.tdiv_eq_ediv_of_nonneg h0, Int.tmod_eq_emod_of_nonneg h0, w1, w2, e3]
      exact h2
    · refine Ev.step (fun k => by rw [impl_wordOf.l0]) ?_
      refine Ev.pos (by omega) (Ev.neg (by omega) (Ev.pos (by omega) (Ev.pos (by omega) ?_)))
      rw [Int.tdiv_eq_ediv_of_nonneg h0, Int.tmod_eq_emod_of_nonneg h0, w1, w2, e3]
      exact h3
theorem wo_ev {b : Int} (hb : 2 ≤ b) (n : Int) (w : Nat) (h0 : 0 ≤ n) (h1 : n ≤ 4294967296) (hw : w ≤ 8) : Ev (fun k => spec_gpWith.f k n (w : Int) b) (wd b w n) ∧ Ev (fun k => impl_wordOf.f k n (w : Int) b) (wd b w n) := by
  obtain ⟨h2, h3⟩ := wo_l0 hb w [] n h0 h1 (by simp; omega)
  simp only [List.append_nil] at h2 h3
  have w1 : wrap64 ((w : Int) - 1) = (w : Int) - 1 := w64 (by omega) (by omega)
  refine ⟨?_, ?_⟩
  · unfold spec_gpWith.f
    refine Ev.pos (by omega) (Ev.pos (by omega) ?_)
    rw [w1, Int.toNat_natCast]
    exact h2
  · unfold impl_wordOf.f
    refine Ev.pos (by omega) (Ev.pos (by omega) ?_)
    rw [w1, Int.toNat_natCast]
    exact h3

theorem gsum_nonneg {b : Int} (hb : 2 ≤ b ∧ b ≤ 16) (w : Nat) (hw : w ≤ 8) : ∀ (T : List Int) (i : Nat), 2 * (i + T.length) ≤ w → (∀ x ∈ T, 0 ≤ x) → 0 ≤ gsum b w i T := by
  intro T
  induction T with
  | nil => intro i _ _; exact Int.le_refl _
  | cons g t ih =>
    intro i hi hd
    have h1 := ih (i + 1) (by simp at hi; omega) (fun x hx => hd x (List.mem_cons_of_mem _ hx))
    have hg := hd g List.mem_cons_self
    have hlen : 2 * (i + (t.length + 1)) ≤ w := by simpa using hi
    have e : w - 1 - i = i + (w - 1 - i - i) := by omega
    have p1 := (pow_le8 hb (show i ≤ 8 by omega)).1
    have p2 := (pow_le8 hb (show w - 1 - i - i ≤ 8 by omega)).1
    have hd2 : 0 ≤ b ^ (w - 1 - i) - b ^ i := by
      rw [e, Int.pow_add]
      have := Int.mul_le_mul_of_nonneg_left p2 (show 0 ≤ b ^ i by omega)
      omega
    have := Int.mul_nonneg hg hd2
    show 0 ≤ g * (b ^ (w - 1 - i) - b ^ i) + gsum b w (i + 1) t
    omega
theorem gl_nonneg {b : Int} (hb : 2 ≤ b ∧ b ≤ 16) (up : List Int) (hs : up.Pairwise (· ≤ ·)) (hd : ∀ x ∈ up, 0 ≤ x ∧ x < b) : ∀ x ∈ gl up, 0 ≤ x := by
  intro x hx
  obtain ⟨i, hi, rfl⟩ := List.mem_map.mp hx
  rw [List.mem_range] at hi
  have e1 : rd up ((up.length : Int) - 1 - i) = up[up.length - 1 - i]'(by omega) := by
    show up.getD ((up.length : Int) - 1 - i).toNat 0 = _
    rw [show ((up.length : Int) - 1 - i).toNat = up.length - 1 - i by omega, List.getD_eq_getElem?_getD, List.getElem?_eq_getElem (by omega)]
    rfl
  have e2 : rd up (i : Int) = up[i]'(by omega) := by
    show up.getD ((i : Int)).toNat 0 = _
    rw [Int.toNat_natCast, List.getD_eq_getElem?_getD, List.getElem?_eq_getElem (by omega)]
    rfl
  have d1 := hd _ (List.getElem_mem (show up.length - 1 - i < up.length by omega))
  have d2 := hd _ (List.getElem_mem (show i < up.length by omega))
  have hle : up[i]'(by omega) ≤ up[up.length - 1 - i]'(by omega) := by
    by_cases h : i = up.length - 1 - i
    · simp only [← h]; exact Int.le_refl _
    · exact List.pairwise_iff_getElem.mp hs i (up.length - 1 - i) (by omega) (by omega) (by omega)
  rw [e1, e2, w64 (by omega) (by omega)]
  omega

theorem gl_mem {b : Int} (hb : 2 ≤ b ∧ b ≤ 16) (up : List Int) (_h8 : up.length ≤ 8) (hd : ∀ x ∈ up, 0 ≤ x ∧ x < b) : ∀ x ∈ gl up, -16 ≤ x ∧ x ≤ 16 := by
  have hrd : ∀ i : Int, 0 ≤ rd up i ∧ rd up i < b := by
    intro i
    show 0 ≤ up.getD i.toNat 0 ∧ up.getD i.toNat 0 < b
    rw [List.getD_eq_getElem?_getD]
    by_cases h : i.toNat < up.length
    · rw [List.getElem?_eq_getElem h]
      exact hd _ (List.getElem_mem h)
    · rw [List.getElem?_eq_none (by omega)]
      simp; omega
  intro x hx
  obtain ⟨i, _, rfl⟩ := List.mem_map.mp hx
  have h1 := hrd ((up.length : Int) - 1 - i)
  have h2 := hrd (i : Int)
  rw [w64 (by omega) (by omega)]
  omega
theorem gaps_l0 (up : List Int) (hl : up.length ≤ 1000) : ∀ (m i : Nat), i + m = up.length / 2 →
    Ev (fun k => impl_gaps.l0 k up ((List.range i).map fun (j : Nat) => wrap64 (rd up ((up.length : Int) - 1 - j) - rd up (j : Int))) ((up.length / 2 : Nat) : Int) (i : Int)) (gl up) := by
  intro m
  induction m with
  | zero =>
    intro i hi
    refine Ev.step (fun k => by rw [impl_gaps.l0]) ?_
    refine Ev.neg (by omega) (Ev.val ?_)
    unfold gl
    rw [show i = up.length / 2 by omega]
  | succ m ih =>
    intro i hi
    have h := ih (i + 1) (by omega)
    rw [List.range_succ, List.map_append, List.map_cons, List.map_nil] at h
    have w1 : wrap64 (wrap64 ((up.length : Int) - 1) - i) = (up.length : Int) - 1 - i := by
      rw [w64 (show -9223372036854775808 ≤ (up.length : Int) - 1 by omega) (by omega), w64 (by omega) (by omega)]
    have w2 : wrap64 ((i : Int) + 1) = ((i + 1 : Nat) : Int) := by rw [w64 (by omega) (by omega)]; omega
    refine Ev.step (fun k => by rw [impl_gaps.l0]) ?_
    rw [w1, w2]
    refine Ev.pos (by omega) (Ev.pos (by omega) (Ev.pos (by omega) (Ev.pos (by omega) (Ev.pos (by omega) (Ev.pos (by simp; omega) ?_)))))
    exact h
theorem gaps_ev (l : List Int) (h1 : 1 ≤ l.length) (hl : l.length ≤ 1000) : Ev (fun k => impl_gaps.f k l) (gl (slices_Sort_int_int.so l)) := by
  have hlen : (slices_Sort_int_int.so l).length = l.length := (gso_perm l).length_eq
  have hS : Ev (fun k => slices_Sorted_int.f k l) (slices_Sort_int_int.so l) := by
    have e : (fun k => slices_Sorted_int.f k l) = fun _ => some (slices_Sort_int_int.so l) := by
      funext k
      unfold slices_Sorted_int.f
      exact if_pos (by omega)
    rw [e]; exact Ev.now _
  unfold impl_gaps.f
  refine Ev.bind hS ?_
  have hw : wrap64 (((slices_Sort_int_int.so l).length : Int) / 2) = (((slices_Sort_int_int.so l).length / 2 : Nat) : Int) := by
    rw [w64 (by omega) (by omega)]; omega
  rw [hw]
  exact gaps_l0 (slices_Sort_int_int.so l) (by omega) ((slices_Sort_int_int.so l).length / 2) 0 (by omega)

/-- the value of the sorted step of a word -/
def sv (b : Int) (u : List Int) : Int := vl b 0 (slices_Sort_int_int.so u).reverse - vl b 0 (slices_Sort_int_int.so u)
theorem sv_ev {b : Int} (hb : 2 ≤ b ∧ b ≤ 16) (u : List Int) (h1 : 1 ≤ u.length) (h8 : u.length ≤ 8) (hd : ∀ x ∈ u, 0 ≤ x ∧ x < b) :
    0 ≤ sv b u ∧ sv b u < b ^ u.length ∧ Ev (fun k => spec_gpStep.f k u b) (wd b u.length (sv b u)) ∧ Ev (fun k => impl_step.f k (vl b 0 u) (u.length : Int) b) (sv b u) := by
  have hso := dgSorted_ev u (by omega)
  have hgp := gaps_ev u h1 (by omega)
  have hsd := gso_sorted u
  have hlen : (slices_Sort_int_int.so u).length = u.length := (gso_perm u).length_eq
  have hmem : ∀ x ∈ slices_Sort_int_int.so u, 0 ≤ x ∧ x < b := fun x hx => hd x ((gso_perm u).mem_iff.mp hx)
  unfold sv
  generalize slices_Sort_int_int.so u = up at hso hgp hsd hlen hmem ⊢
  have hmr : ∀ x ∈ up.reverse, 0 ≤ x ∧ x < b := fun x hx => hmem x (List.mem_reverse.mp hx)
  have hbk := back_ev up (by omega)
  have v1 := gpv_ev hb up.reverse (by simp; omega) hmr
  have v2 := gpv_ev hb up (by omega) hmem
  have b1 := vl_bd hb up.reverse 0 1 (by omega) (by omega) hmr
  have b2 := vl_bd hb up 0 1 (by omega) (by omega) hmem
  have b3 := vl_bd hb u 0 1 (by omega) (by omega) hd
  rw [List.length_reverse] at b1
  have hp := (pow_le8 hb (show u.length ≤ 8 by omega)).2
  have halg := gap_alg hb up (by omega) (by omega) hmem
  have hgs := byg_ev hb up.length (by omega) (gl up) (by simp [gl]; omega) (by simp [gl]; omega) (gl_mem hb up (by omega) hmem)
  have hge : 0 ≤ gsum b up.length 0 (gl up) := gsum_nonneg hb up.length (by omega) (gl up) 0 (by simp [gl]; omega) (gl_nonneg hb up hsd hmem)
  rw [← halg] at hgs hge
  rw [hlen] at hgs b1 b2
  have hwd := wd_vl hb.1 u hd
  generalize vl b 0 up.reverse = V1 at *
  generalize vl b 0 up = V2 at *
  generalize hV0 : vl b 0 u = V0 at *
  generalize hq : b ^ u.length = q at *
  obtain ⟨w1, _⟩ := wo_ev hb.1 (V1 - V2) u.length (by omega) (by omega) h8
  obtain ⟨_, w4⟩ := wo_ev hb.1 V0 u.length (by omega) (by omega) h8
  rw [hwd] at w4
  refine ⟨by omega, by omega, ?_, ?_⟩
  · unfold spec_gpStep.f
    refine Ev.bind hso (Ev.bind hbk (Ev.bind v1 (Ev.bind v2 ?_)))
    rw [w64 (show -9223372036854775808 ≤ V1 - V2 by omega) (by omega)]
    exact Ev.bind w1 (Ev.now _)
  · unfold impl_step.f
    exact Ev.bind w4 (Ev.bind hgp (Ev.bind hgs (Ev.now _)))

theorem pigeon : ∀ (M : Nat) (l : List Int), l.Nodup → (∀ x ∈ l, 0 ≤ x ∧ x < (M : Int)) → l.length ≤ M
  | 0, l, _, h => by
    cases l with
    | nil => exact Nat.le_refl _
    | cons a t => have := h a List.mem_cons_self; omega
  | M + 1, l, hn, h => by
    by_cases hm : (M : Int) ∈ l
    · have h1 := pigeon M (l.erase (M : Int)) (hn.erase _) (fun x hx => by
        have hx2 := (hn.mem_erase_iff).mp hx
        have h3 := h x hx2.2
        have h4 : x ≠ (M : Int) := hx2.1
        omega)
      rw [List.length_erase_of_mem hm] at h1
      omega
    · have h1 := pigeon M l hn (fun x hx => by
        have h3 := h x hx
        have h4 : x ≠ (M : Int) := fun e => hm (e ▸ hx)
        omega)
      omega
/-- where a number stands, in a list without repeats -/
theorem find_none {n : Int} : ∀ out : List Int, n ∉ out → impl_sortedRun.find n out = none := by
  refine impl_sortedRun.snoc (p := fun out => n ∉ out → impl_sortedRun.find n out = none) (fun _ => rfl) (fun l a ih h => ?_)
  rw [impl_sortedRun.find_snoc, if_neg (fun e => h (by simp [e])), ih (fun hx => h (by simp [hx]))]
theorem find_at {n : Int} (A B : List Int) (hB : n ∉ B) : impl_sortedRun.find n (A ++ n :: B) = some (A.length : Int) := by
  have h : ∀ B : List Int, n ∉ B → impl_sortedRun.find n (A ++ n :: B) = some (A.length : Int) := by
    refine impl_sortedRun.snoc (p := fun B => n ∉ B → impl_sortedRun.find n (A ++ n :: B) = some (A.length : Int)) (fun _ => ?_) (fun l a ih h => ?_)
    · rw [impl_sortedRun.find_snoc, if_pos rfl]
    · have e : A ++ n :: (l ++ [a]) = (A ++ n :: l) ++ [a] := by simp
      rw [e, impl_sortedRun.find_snoc, if_neg (fun e => h (by simp [e])), ih (fun hx => h (by simp [hx]))]
  exact h B hB

theorem same_l0 (A B : List Int) (hl : A.length = B.length) (hL : A.length ≤ 1000) : ∀ (r s pre : List Int) (i : Int), A = pre ++ r → B = pre ++ s → i = (pre.length : Int) → Ev (fun k => spec_l1Same.l0 k A B (A.length : Int) i) (decide (r = s)) := by
  intro r
  induction r with
  | nil =>
    intro s pre i hA hB hi
    have h1 : A.length = pre.length := by rw [hA]; simp
    have h2 : B.length = pre.length + s.length := by rw [hB]; simp
    have hs : s = [] := List.length_eq_zero_iff.mp (by omega)
    subst hs
    refine Ev.step (fun k => by rw [spec_l1Same.l0]) ?_
    exact Ev.neg (by omega) (Ev.val (by simp))
  | cons x r ih =>
    intro s pre i hA hB hi
    have h1 : A.length = pre.length + (r.length + 1) := by rw [hA]; simp
    cases s with
    | nil => have h2 : B.length = pre.length := by rw [hB]; simp
             omega
    | cons y s =>
      have h2 : B.length = pre.length + (s.length + 1) := by rw [hB]; simp
      have hx : rd A i = x := by rw [hA, hi]; exact rd_mid _ _ _
      have hy : rd B i = y := by rw [hB, hi]; exact rd_mid _ _ _
      refine Ev.step (fun k => by rw [spec_l1Same.l0]) ?_
      refine Ev.pos (by omega) (Ev.pos (by omega) (Ev.pos (by omega) (Ev.pos (by omega) ?_)))
      rw [hx, hy]
      by_cases he : x = y
      · subst he
        refine Ev.pos rfl ?_
        have h := ih s (pre ++ [x]) (i + 1) (by rw [hA]; simp) (by rw [hB]; simp) (by simp; omega)
        rw [w64 (by omega) (by omega)]
        simpa using h
      · exact Ev.neg he (Ev.val (by simp [he]))
theorem same_ev {A B : List Int} (hl : A.length = B.length) (hL : A.length ≤ 1000) : Ev (fun k => spec_l1Same.f k A B) (decide (A = B)) := by
  unfold spec_l1Same.f
  exact Ev.pos (by omega) (same_l0 A B hl hL A B [] 0 rfl rfl rfl)
theorem rdL_mid (P : List (List Int)) (a : List Int) (T : List (List Int)) : rd_L1 (P ++ a :: T) (P.length : Int) = a := by simp [rd_L1]
theorem gpf_none (u : List Int) (hu : u.length ≤ 1000) (W : List (List Int)) (hW : W.length ≤ 10000000000) (hw : ∀ x ∈ W, x.length = u.length) (hn : u ∉ W) : ∀ (T P : List (List Int)) (i : Int), W = P ++ T → i = (P.length : Int) → Ev (fun k => spec_gpFind.l0 k u W (W.length : Int) i) (-1) := by
  intro T
  induction T with
  | nil =>
    intro P i hP hi
    have h1 : W.length = P.length := by rw [hP]; simp
    refine Ev.step (fun k => by rw [spec_gpFind.l0]) ?_
    exact Ev.neg (by omega) (Ev.now _)
  | cons a T ih =>
    intro P i hP hi
    have h1 : W.length = P.length + (T.length + 1) := by rw [hP]; simp
    have ha : a ∈ W := by rw [hP]; simp
    have hr : rd_L1 W i = a := by rw [hP, hi]; exact rdL_mid _ _ _
    have hne : a ≠ u := fun e => hn (e ▸ ha)
    have hs := same_ev (A := a) (B := u) (hw a ha) (by rw [hw a ha]; exact hu)
    refine Ev.step (fun k => by rw [spec_gpFind.l0]) ?_
    refine Ev.pos (by omega) (Ev.pos (by omega) (Ev.pos (by omega) ?_))
    rw [hr]
    refine Ev.bind hs (Ev.neg (by simp [hne]) ?_)
    rw [w64 (by omega) (by omega)]
    exact ih (P ++ [a]) (i + 1) (by rw [hP]; simp) (by simp; omega)
theorem gpf_some (u : List Int) (hu : u.length ≤ 1000) (W A B : List (List Int)) (hWAB : W = A ++ u :: B) (hW : W.length ≤ 10000000000) (hw : ∀ x ∈ W, x.length = u.length) (hn : u ∉ A) : ∀ (T P : List (List Int)) (i : Int), A = P ++ T → i = (P.length : Int) → Ev (fun k => spec_gpFind.l0 k u W (W.length : Int) i) (A.length : Int) := by
  intro T
  induction T with
  | nil =>
    intro P i hP hi
    have h0 : A = P := by simpa using hP
    have h1 : W.length = A.length + (B.length + 1) := by rw [hWAB]; simp
    have hr : rd_L1 W i = u := by rw [hWAB, hi, ← h0]; exact rdL_mid _ _ _
    have hs := same_ev (A := u) (B := u) rfl hu
    have hi2 : i = (A.length : Int) := by rw [h0]; exact hi
    refine Ev.step (fun k => by rw [spec_gpFind.l0]) ?_
    refine Ev.pos (by omega) (Ev.pos (by omega) (Ev.pos (by omega) ?_))
    rw [hr]
    exact Ev.bind hs (Ev.pos (by simp) (Ev.val hi2))
  | cons a T ih =>
    intro P i hP hi
    have h1 : W.length = A.length + (B.length + 1) := by rw [hWAB]; simp
    have h2 : A.length = P.length + (T.length + 1) := by rw [hP]; simp
    have haA : a ∈ A := by rw [hP]; simp
    have ha : a ∈ W := by rw [hWAB]; simp [haA]
    have hr : rd_L1 W i = a := by rw [hWAB, hP, hi]; simp [rd_L1]
    have hne : a ≠ u := fun e => hn (e ▸ haA)
    have hs := same_ev (A := a) (B := u) (hw a ha) (by rw [hw a ha]; exact hu)
    refine Ev.step (fun k => by rw [spec_gpFind.l0]) ?_
    refine Ev.pos (by omega) (Ev.pos (by omega) (Ev.pos (by omega) ?_))
    rw [hr]
    refine Ev.bind hs (Ev.neg (by simp [hne]) ?_)
    rw [w64 (by omega) (by omega)]
    exact ih (P ++ [a]) (i + 1) (by rw [hP]; simp) (by simp; omega)

def okw (b : Int) (w : Nat) (u : List Int) : Prop := u.length = w ∧ ∀ x ∈ u, 0 ≤ x ∧ x < b
theorem vl_inj {b : Int} (hb : 2 ≤ b) {w : Nat} {x y : List Int} (hx : okw b w x) (hy : okw b w y) (h : vl b 0 x = vl b 0 y) : x = y := by
  have h1 := wd_vl hb x hx.2
  have h2 := wd_vl hb y hy.2
  rw [← h1, ← h2, hx.1, hy.1, h]
theorem vl_rng {b : Int} (hb : 2 ≤ b ∧ b ≤ 16) {w : Nat} {x : List Int} (hx : okw b w x) : 0 ≤ vl b 0 x ∧ vl b 0 x < b ^ w := by
  have := vl_bd hb x 0 1 (by omega) (by omega) hx.2
  rw [hx.1] at this
  omega
theorem run_ev {b : Int} (hb : 2 ≤ b ∧ b ≤ 16) {w : Nat} (hw : 1 ≤ w ∧ w ≤ 8) : ∀ (m : Nat) (W : List (List Int)) (u : List Int), (b ^ w).toNat - W.length < m → (∀ x ∈ W, okw b w x) → okw b w u → (W.map (vl b 0)).Nodup →
    ∃ (W' : List (List Int)) (at_ : Nat), W'.length ≤ 4294967296 ∧ at_ ≤ W'.length ∧ Ev (fun k => spec_gpRun.l0 k b W u) (W', (at_ : Int)) ∧ Ev (fun k => impl_sortedRun.l0 k (w : Int) b (vl b 0 u) (W.map (vl b 0))) (W'.map (vl b 0), (at_ : Int)) ∧ at_ < W'.length ∧ (∀ x ∈ W', okw b w x) ∧ (W'.map (vl b 0)).Nodup := by
  intro m
  induction m with
  | zero => intro W u h; omega
  | succ m ih =>
    intro W u hm hW hu hn
    have hp := (pow_le8 hb hw.2).2
    have hM : ∀ x ∈ W.map (vl b 0), 0 ≤ x ∧ x < ((b ^ w).toNat : Int) := by
      intro x hx
      obtain ⟨y, hy, rfl⟩ := List.mem_map.mp hx
      have := vl_rng hb (hW y hy)
      omega
    have hlen := pigeon (b ^ w).toNat _ hn hM
    rw [List.length_map] at hlen
    have hru := vl_rng hb hu
    have hwf : (Lit.int .i64 (vl b 0 u)).wf = true := by
      simp only [Lit.wf, Bool.and_eq_true, decide_eq_true_eq, show IntKind.i64.min = -9223372036854775808 from rfl, show IntKind.i64.max = 9223372036854775807 from rfl]
      omega
    have hok : (Lit.int .i64 (vl b 0 u)).wf = true ∧ (W.map (vl b 0)).length < 5000000000 := ⟨hwf, by rw [List.length_map]; omega⟩
    have hwl : ∀ x ∈ W, x.length = u.length := fun x hx => (hW x hx).1.trans hu.1.symm
    by_cases hmem : u ∈ W
    · obtain ⟨A, B, hAB⟩ := List.append_of_mem hmem
      have hn2 := hn
      rw [hAB, List.map_append, List.map_cons] at hn2
      obtain ⟨_, hc, hd⟩ := List.nodup_append.mp hn2
      have hB : vl b 0 u ∉ B.map (vl b 0) := (List.nodup_cons.mp hc).1
      have hA : u ∉ A := fun h => hd _ (List.mem_map.mpr ⟨u, h, rfl⟩) _ List.mem_cons_self rfl
      have hf : Ev (fun k => spec_gpFind.f k W u) (A.length : Int) := gpf_some u (by rw [hu.1]; omega) W A B hAB (by omega) hwl hA A [] 0 rfl rfl
      have hfi : impl_sortedRun.find (vl b 0 u) (W.map (vl b 0)) = some (A.length : Int) := by
        rw [hAB, List.map_append, List.map_cons, find_at _ _ hB, List.length_map]
      have hAl : A.length ≤ W.length := by rw [hAB]; simp
      refine ⟨W, A.length, by omega, hAl, ?_, ?_, by rw [hAB, List.length_append, List.length_cons]; omega, hW, hn⟩
      · refine Ev.step (fun k => by rw [spec_gpRun.l0]) ?_
        exact Ev.bind hf (Ev.neg (by omega) (Ev.bind hf (Ev.now _)))
      · refine Ev.step (fun k => by rw [impl_sortedRun.l0]) ?_
        refine Ev.pos hok (Ev.pos (by rw [hfi]; rfl) (Ev.val ?_))
        rw [hfi]; rfl
    · have hnm : vl b 0 u ∉ W.map (vl b 0) := by
        intro h
        obtain ⟨y, hy, e⟩ := List.mem_map.mp h
        exact hmem (vl_inj hb.1 (hW y hy) hu e ▸ hy)
      have hf : Ev (fun k => spec_gpFind.f k W u) (-1) := gpf_none u (by rw [hu.1]; omega) W (by omega) hwl hmem W [] 0 rfl rfl
      have hfi := find_none _ hnm
      obtain ⟨s0, s1, s2, s3⟩ := sv_ev hb u (by rw [hu.1]; omega) (by rw [hu.1]; omega) hu.2
      rw [hu.1] at s1 s2 s3
      have hu2 : okw b w (wd b w (sv b u)) := ⟨wd_len b w _, wd_mem hb.1 w _⟩
      have hv2 : vl b 0 (wd b w (sv b u)) = sv b u := vl_wd hb.1 w _ s0 s1
      have hn3 : ((W ++ [u]).map (vl b 0)).Nodup := by
        rw [List.map_append, List.map_cons, List.map_nil]
        refine List.nodup_append.mpr ⟨hn, by simp, fun a ha c hc e => ?_⟩
        rw [List.mem_singleton] at hc
        exact hnm (hc ▸ e ▸ ha)
      have hW3 : ∀ x ∈ W ++ [u], okw b w x := fun x hx => by
        rcases List.mem_append.mp hx with h | h
        · exact hW x h
        · rw [List.mem_singleton] at h; exact h ▸ hu
      have hlen3 := pigeon (b ^ w).toNat _ hn3 (fun x hx => by
        obtain ⟨y, hy, rfl⟩ := List.mem_map.mp hx
        have := vl_rng hb (hW3 y hy)
        omega)
      rw [List.length_map, List.length_append, List.length_singleton] at hlen3
      obtain ⟨W', at_, g1, g2, g3, g4, g5⟩ := ih (W ++ [u]) (wd b w (sv b u)) (by simp; omega) hW3 hu2 hn3
      rw [hv2, List.map_append, List.map_cons, List.map_nil] at g4
      refine ⟨W', at_, g1, g2, ?_, ?_, g5⟩
      · refine Ev.step (fun k => by rw [spec_gpRun.l0]) ?_
        exact Ev.bind hf (Ev.pos (by omega) (Ev.pos (by omega) (Ev.bind s2 g3)))
      · refine Ev.step (fun k => by rw [impl_sortedRun.l0]) ?_
        exact Ev.pos hok (Ev.neg (by rw [hfi]; simp) (Ev.bind s3 g4))

theorem words_l0 {b : Int} (hb : 2 ≤ b ∧ b ≤ 16) {w : Nat} (hw : 1 ≤ w ∧ w ≤ 8) (L : List (List Int)) (hL : L.length ≤ 4294967296) (hd : ∀ x ∈ L, okw b w x) : ∀ (rest pre : List (List Int)) (i : Int), L = pre ++ rest → i = (pre.length : Int) →
    Ev (fun k => impl_words.l0 k (w : Int) b pre (L.map (vl b 0)) (L.length : Int) i) L
  | [], pre, i, hp, hi => by
    refine Ev.step (fun k => by rw [impl_words.l0]) (Ev.neg (by rw [hp]; simp; omega) (Ev.val ?_))
    rw [hp]; simp
  | u :: rest, pre, i, hp, hi => by
    have hl : L.length = pre.length + (rest.length + 1) := by rw [hp]; simp
    have hr : rd (L.map (vl b 0)) i = vl b 0 u := by rw [hp, List.map_append, List.map_cons, hi]; have := rd_mid (pre.map (vl b 0)) (rest.map (vl b 0)) (vl b 0 u); rw [List.length_map] at this; exact this
    have hu := hd u (by rw [hp]; simp)
    have hp8 := (pow_le8 hb hw.2).2
    have hru := vl_rng hb hu
    have hwo := (wo_ev hb.1 (vl b 0 u) w hru.1 (by omega) hw.2).2
    have hwd : wd b w (vl b 0 u) = u := by rw [← hu.1]; exact wd_vl hb.1 u hu.2
    rw [hwd] at hwo
    refine Ev.step (fun k => by rw [impl_words.l0]) (Ev.pos (by omega) (Ev.pos (by omega) (Ev.pos (by rw [List.length_map]; omega) ?_)))
    rw [hr]
    refine Ev.bind hwo (Ev.pos (by omega) ?_)
    rw [w64 (x := i + 1) (by omega) (by omega)]
    exact words_l0 hb hw L hL hd rest (pre ++ [u]) (i + 1) (by rw [hp]; simp) (by simp; omega)
theorem words_ev {b : Int} (hb : 2 ≤ b ∧ b ≤ 16) {w : Nat} (hw : 1 ≤ w ∧ w ≤ 8) (L : List (List Int)) (hL : L.length ≤ 4294967296) (hd : ∀ x ∈ L, okw b w x) : Ev (fun k => impl_words.f k (L.map (vl b 0)) (w : Int) b) L := by
  have := words_l0 hb hw L hL hd L [] 0 rfl rfl
  unfold impl_words.f
  rw [List.length_map]
  exact this

theorem min_l0 (V : List Int) (hV : V.length ≤ 4611686018427387904) (k : Nat) (hk : k < V.length) (h1 : ∀ j : Nat, j < V.length → rd V (k : Int) ≤ rd V (j : Int)) : ∀ (m : Nat) (x i : Int), 0 ≤ i → i ≤ V.length → ((V.length : Int) - i).toNat < m → rd V (k : Int) ≤ x → ((k : Int) < i → x = rd V (k : Int)) →
    Ev (fun n => slices_Min_int_int.l0 n V x i) (rd V (k : Int))
  | 0, _, _, _, _, h, _, _ => by omega
  | m + 1, x, i, h0, hi, hm, hx, hx2 => by
    by_cases hlt : i < (V.length : Int)
    · refine Ev.step (fun n => by rw [slices_Min_int_int.l0]) (Ev.pos hlt (Ev.pos h0 ?_))
      rw [w64 (x := i + 1) (by omega) (by omega)]
      obtain ⟨j, rfl⟩ : ∃ j : Nat, i = (j : Int) := ⟨i.toNat, by omega⟩
      have hj := h1 j (by omega)
      refine min_l0 V hV k hk h1 m _ _ (by omega) (by omega) (by omega) ?_ (fun hkj => ?_)
      · unfold mn; split <;> omega
      · by_cases e : k = j
        · subst e; unfold mn; split <;> omega
        · have := hx2 (by omega); unfold mn; split <;> omega
    · have := hx2 (by omega)
      exact Ev.step (fun n => by rw [slices_Min_int_int.l0]) (Ev.neg hlt (Ev.val this))
theorem idx_l0 (V : List Int) (hV : V.length ≤ 4611686018427387904) (k : Nat) (hk : k < V.length) (h2 : ∀ j : Nat, j < k → rd V (j : Int) ≠ rd V (k : Int)) : ∀ (m : Nat) (i : Int), 0 ≤ i → i ≤ k → ((k : Int) - i).toNat < m →
    Ev (fun n => slices_Index_int_int.l0 n V (rd V (k : Int)) (V.length : Int) i) (k : Int)
  | 0, _, _, _, h => by omega
  | m + 1, i, h0, hi, hm => by
    refine Ev.step (fun n => by rw [slices_Index_int_int.l0]) (Ev.pos (by omega) (Ev.pos h0 (Ev.pos (by omega) ?_)))
    obtain ⟨j, rfl⟩ : ∃ j : Nat, i = (j : Int) := ⟨i.toNat, by omega⟩
    by_cases e : j = k
    · subst e; exact Ev.pos rfl (Ev.now _)
    · refine Ev.neg (fun h => h2 j (by omega) h.symm) ?_
      rw [w64 (x := (j : Int) + 1) (by omega) (by omega)]
      exact idx_l0 V hV k hk h2 m _ (by omega) (by omega) (by omega)
theorem rdL_0 (a b : List Int) : rd_L1 [a, b] 0 = a := rfl
theorem rdL_1 (a b : List Int) : rd_L1 [a, b] 1 = b := rfl
theorem concat_ev (a b : List Int) (hl : a.length + b.length ≤ 5000000000) : Ev (fun n => slices_Concat_int_int.f n [a, b]) (a ++ b) := by
  unfold slices_Concat_int_int.f
  have e2 : (([a, b] : List (List Int)).length : Int) = 2 := rfl
  rw [e2]
  refine Ev.step (fun n => by rw [slices_Concat_int_int.l0]) (Ev.pos (by omega) (Ev.pos (by omega) (Ev.pos (by rw [e2]; omega) ?_)))
  rw [rdL_0, w64 (x := 0 + (a.length : Int)) (by omega) (by omega)]
  refine Ev.neg (by omega) ?_
  rw [w64 (x := (0 : Int) + 1) (by omega) (by omega)]
  refine Ev.step (fun n => by rw [slices_Concat_int_int.l0]) (Ev.pos (by omega) (Ev.pos (by omega) (Ev.pos (by rw [e2]; omega) ?_)))
  rw [show (0 : Int) + 1 = 1 from rfl, rdL_1, w64 (x := 0 + (a.length : Int) + (b.length : Int)) (by omega) (by omega)]
  refine Ev.neg (by omega) ?_
  rw [w64 (x := (1 : Int) + 1) (by omega) (by omega)]
  refine Ev.step (fun n => by rw [slices_Concat_int_int.l0]) (Ev.neg (by omega) ?_)
  have hg : slices_Grow_int_int.f ([] : List Int) (0 + (a.length : Int) + (b.length : Int)) = some [] := by unfold slices_Grow_int_int.f; rw [if_pos ⟨rfl, by omega, by omega⟩]
  refine Ev.pure hg ?_
  rw [e2]
  refine Ev.step (fun n => by rw [slices_Concat_int_int.l1]) (Ev.pos (by omega) (Ev.pos (by omega) (Ev.pos (by rw [e2]; omega) ?_)))
  rw [rdL_0]
  refine Ev.pos (by simp; omega) ?_
  rw [w64 (x := (0 : Int) + 1) (by omega) (by omega)]
  refine Ev.step (fun n => by rw [slices_Concat_int_int.l1]) (Ev.pos (by omega) (Ev.pos (by omega) (Ev.pos (by rw [e2]; omega) ?_)))
  rw [show (0 : Int) + 1 = 1 from rfl, rdL_1]
  refine Ev.pos (by simp; omega) ?_
  rw [w64 (x := (1 : Int) + 1) (by omega) (by omega)]
  exact Ev.step (fun n => by rw [slices_Concat_int_int.l1]) (Ev.neg (by omega) (Ev.val (by simp)))
theorem lf_ev (V : List Int) (hV : V.length ≤ 4294967296) (k : Nat) (hk : k < V.length) (h1 : ∀ j : Nat, j < V.length → rd V (k : Int) ≤ rd V (j : Int)) (h2 : ∀ j : Nat, j < k → rd V (j : Int) ≠ rd V (k : Int)) : Ev (fun n => impl_leastFirst.f n V) (V.drop k ++ V.take k) := by
  unfold impl_leastFirst.f
  have hm : Ev (fun n => slices_Min_int_int.f n V) (rd V (k : Int)) := by
    unfold slices_Min_int_int.f
    refine Ev.neg (by omega) (Ev.pos (by omega) ?_)
    refine min_l0 V (by omega) k hk h1 _ _ 1 (by omega) (by omega) (Nat.lt_succ_self _) ?_ (fun h => ?_)
    · exact h1 0 (by omega)
    · have : k = 0 := by omega
      subst this; rfl
  have hi : Ev (fun n => slices_Index_int_int.f n V (rd V (k : Int))) (k : Int) := by
    unfold slices_Index_int_int.f
    exact idx_l0 V (by omega) k hk h2 _ 0 (by omega) (by omega) (Nat.lt_succ_self _)
  refine Ev.bind hm (Ev.bind hi (Ev.pos (by omega) (Ev.pos (by omega) ?_)))
  rw [Int.toNat_natCast]
  exact Ev.bind (concat_ev _ _ (by rw [List.length_drop, List.length_take]; omega)) (Ev.now _)

theorem rdL_map (b : Int) (C : List (List Int)) (j : Nat) (hj : j < C.length) : vl b 0 (rd_L1 C (j : Int)) = rd (C.map (vl b 0)) (j : Int) := by
  simp [rd_L1, rd, hj]
theorem rdL_mem (C : List (List Int)) (j : Nat) (hj : j < C.length) : rd_L1 C (j : Int) ∈ C := by
  simp [rd_L1, hj]
theorem cyc_l1 (C : List (List Int)) (hC : C.length ≤ 4294967296) (k : Nat) (hk : k < C.length) : ∀ (m i : Nat), i + m = C.length → Ev (fun n => spec_gpCycle.l1 n C (k : Int) ((C.drop k ++ C.take k).take i) (C.length : Int) (i : Int)) (C.drop k ++ C.take k)
  | 0, i, hi => by
    refine Ev.step (fun n => by rw [spec_gpCycle.l1]) (Ev.neg (by omega) (Ev.val ?_))
    apply List.take_of_length_le
    rw [List.length_append, List.length_drop, List.length_take]; omega
  | m + 1, i, hi => by
    have e1 : wrap64 ((k : Int) + (i : Int)) = (k : Int) + i := w64 (by omega) (by omega)
    have e2 : Int.tmod ((k : Int) + i) (C.length : Int) = (((k + i) % C.length : Nat) : Int) := by
      rw [Int.tmod_eq_emod_of_nonneg (by omega)]; simp
    have hlt := Nat.mod_lt (k + i) (show 0 < C.length by omega)
    refine Ev.step (fun n => by rw [spec_gpCycle.l1]) (Ev.pos (by omega) (Ev.neg (by omega) ?_))
    rw [e1, e2]
    refine Ev.pos (by omega) (Ev.pos (by omega) (Ev.pos (by rw [List.length_take, List.length_append, List.length_drop, List.length_take]; omega) ?_))
    rw [w64 (x := (i : Int) + 1) (by omega) (by omega)]
    have e3 : (C.drop k ++ C.take k).take i ++ [rd_L1 C (((k + i) % C.length : Nat) : Int)] = (C.drop k ++ C.take k).take (i + 1) := by
      have hlen : i < (C.drop k ++ C.take k).length := by rw [List.length_append, List.length_drop, List.length_take]; omega
      rw [List.take_succ_eq_append_getElem hlen]
      congr 2
      rw [List.getElem_append]
      split
      · rename_i h
        rw [List.length_drop] at h
        rw [List.getElem_drop]
        have : (k + i) % C.length = k + i := Nat.mod_eq_of_lt (by omega)
        simp only [this, rd_L1, Int.toNat_natCast]
        rw [List.getD_eq_getElem?_getD, List.getElem?_eq_getElem (by omega)]; rfl
      · rename_i h
        rw [List.length_drop] at h
        rw [List.getElem_take]
        have : (k + i) % C.length = i - (C.length - k) := by
          rw [Nat.mod_eq_sub_mod (by omega), Nat.mod_eq_of_lt (by omega)]; omega
        simp only [this, rd_L1, Int.toNat_natCast, List.length_drop]
        rw [List.getD_eq_getElem?_getD, List.getElem?_eq_getElem (by omega)]; rfl
    rw [e3]
    exact cyc_l1 C hC k hk m (i + 1) (by omega)
/-- which of a cycle's words the reference takes first -/
theorem cyc_l0 {b : Int} (C : List (List Int)) (hC : C.length ≤ 4294967296) (hv : ∀ j : Nat, j < C.length → Ev (fun n => spec_gpValue.f n (rd_L1 C (j : Int)) b) (rd (C.map (vl b 0)) (j : Int))) : ∀ (m i k : Nat), i + m = C.length → k < C.length → (∀ j, j < i → rd (C.map (vl b 0)) (k : Int) ≤ rd (C.map (vl b 0)) (j : Int)) → (∀ j, j < k → rd (C.map (vl b 0)) (k : Int) < rd (C.map (vl b 0)) (j : Int)) → k ≤ i →
    ∃ k' : Nat, k' < C.length ∧ (∀ j, j < C.length → rd (C.map (vl b 0)) (k' : Int) ≤ rd (C.map (vl b 0)) (j : Int)) ∧ (∀ j, j < k' → rd (C.map (vl b 0)) (k' : Int) < rd (C.map (vl b 0)) (j : Int)) ∧ ∀ r, Ev (fun n => spec_gpCycle.l1 n C (k' : Int) [] (C.length : Int) 0) r → Ev (fun n => spec_gpCycle.l0 n b C (k : Int) C (C.length : Int) (i : Int)) r
  | 0, i, k, hi, hk, h1, h2, h3 => ⟨k, hk, fun j hj => h1 j (by omega), h2, fun r hr => Ev.step (fun n => by rw [spec_gpCycle.l0]) (Ev.neg (by omega) hr)⟩
  | m + 1, i, k, hi, hk, h1, h2, h3 => by
    have hvi := hv i (by omega)
    have hvk := hv k hk
    by_cases hlt : rd (C.map (vl b 0)) (i : Int) < rd (C.map (vl b 0)) (k : Int)
    · obtain ⟨k', g1, g2, g3, g4⟩ := cyc_l0 C hC hv m (i + 1) i (by omega) (by omega) (fun j hj => by
          by_cases e : j = i
          · subst e; omega
          · have := h1 j (by omega); omega) (fun j hj => by have := h1 j hj; omega) (by omega)
      refine ⟨k', g1, g2, g3, fun r hr => ?_⟩
      refine Ev.step (fun n => by rw [spec_gpCycle.l0]) (Ev.pos (by omega) (Ev.pos (by omega) (Ev.pos (by omega) (Ev.bind hvi ?_))))
      refine Ev.pos (by omega) (Ev.pos (by omega) (Ev.bind hvk ?_))
      refine Ev.pos hlt ?_
      rw [w64 (x := (i : Int) + 1) (by omega) (by omega)]
      exact g4 r hr
    · obtain ⟨k', g1, g2, g3, g4⟩ := cyc_l0 C hC hv m (i + 1) k (by omega) hk (fun j hj => by
          by_cases e : j = i
          · subst e; omega
          · exact h1 j (by omega)) h2 (by omega)
      refine ⟨k', g1, g2, g3, fun r hr => ?_⟩
      refine Ev.step (fun n => by rw [spec_gpCycle.l0]) (Ev.pos (by omega) (Ev.pos (by omega) (Ev.pos (by omega) (Ev.bind hvi ?_))))
      refine Ev.pos (by omega) (Ev.pos (by omega) (Ev.bind hvk ?_))
      refine Ev.neg hlt ?_
      rw [w64 (x := (i : Int) + 1) (by omega) (by omega)]
      exact g4 r hr

theorem cycleOf_ev {b : Int} (hb : 2 ≤ b ∧ b ≤ 16) {w : Nat} (hw : 1 ≤ w ∧ w ≤ 8) (l : List Int) (hl : okw b w l) :
    ∃ (W C : List (List Int)) (at_ : Nat), at_ < W.length ∧ W.length ≤ 4294967296 ∧ C ≠ [] ∧ C.length ≤ 4294967296 ∧ (∀ x ∈ C, okw b w x) ∧ (C.map (vl b 0)).Nodup ∧ Ev (fun n => spec_gpCycle.f n l b) C ∧ Ev (fun n => impl_sortedRun.f n (vl b 0 l) (w : Int) b) (W.map (vl b 0), (at_ : Int)) ∧ Ev (fun n => impl_leastFirst.f n ((W.map (vl b 0)).drop at_)) (C.map (vl b 0)) := by
  obtain ⟨W, at_, g1, g2, g3, g4, g5, g6, g7⟩ := run_ev hb hw ((b ^ w).toNat + 1) [] l (by simp) (fun x hx => by simp at hx) hl List.nodup_nil
  have hC6 : ∀ x ∈ W.drop at_, okw b w x := fun x hx => g6 x (List.mem_of_mem_drop hx)
  have hCl : (W.drop at_).length = W.length - at_ := List.length_drop
  have hmd : (W.map (vl b 0)).drop at_ = (W.drop at_).map (vl b 0) := by rw [List.map_drop]
  have hCn : ((W.drop at_).map (vl b 0)).Nodup := by
    rw [← hmd]
    exact g7.sublist (List.drop_sublist _ _)
  generalize hCd : W.drop at_ = C0 at hC6 hCl hmd hCn
  have hv : ∀ j : Nat, j < C0.length → Ev (fun n => spec_gpValue.f n (rd_L1 C0 (j : Int)) b) (rd (C0.map (vl b 0)) (j : Int)) := fun j hj => by
    have h := hC6 _ (rdL_mem C0 j hj)
    rw [← rdL_map b C0 j hj]
    exact gpv_ev hb _ (by rw [h.1]; exact hw.2) h.2
  obtain ⟨k, k1, k2, k3, k4⟩ := cyc_l0 C0 (by omega) hv C0.length 0 0 (by omega) (by omega) (fun j hj => by omega) (fun j hj => by omega) (Nat.le_refl _)
  have hperm : (C0.drop k ++ C0.take k).Perm C0 := by
    have : (C0.drop k ++ C0.take k).Perm (C0.take k ++ C0.drop k) := List.perm_append_comm
    rwa [List.take_append_drop] at this
  refine ⟨W, C0.drop k ++ C0.take k, at_, g5, g1, ?_, ?_, ?_, ?_, ?_, g4, ?_⟩
  · intro h
    have := hperm.length_eq
    rw [h] at this
    simp at this
    omega
  · rw [hperm.length_eq]; omega
  · intro x hx
    exact hC6 x (hperm.mem_iff.mp hx)
  · exact (hperm.map _).nodup_iff.mpr hCn
  · unfold spec_gpCycle.f
    have hr : Ev (fun n => spec_gpRun.f n l b) (W, (at_ : Int)) := by
      unfold spec_gpRun.f
      exact Ev.pure (own_eq l (by rw [hl.1]; omega)) g3
    refine Ev.bind hr (Ev.pos (by omega) (Ev.pos (by show (at_ : Int) ≤ (W.length : Int); omega) ?_))
    show Ev (fun n => (some (W.drop (at_ : Int).toNat : List (List Int))).bind fun y => spec_gpCycle.l0 n b y 0 y (y.length : Int) 0) _
    rw [Int.toNat_natCast, hCd]
    refine Ev.pure rfl (k4 _ ?_)
    have := cyc_l1 C0 (by omega) k k1 C0.length 0 (by omega)
    rw [List.take_zero] at this
    exact this
  · rw [hmd, List.map_append, List.map_drop, List.map_take]
    exact lf_ev _ (by rw [List.length_map]; omega) k (by rw [List.length_map]; exact k1) (fun j hj => k2 j (by rwa [List.length_map] at hj)) (fun j hj => by have := k3 j hj; omega)

theorem wor_l0 {b : Int} (hb : 2 ≤ b ∧ b ≤ 16) (L : List Int) (hL : L.length ≤ 8) : ∀ (T P : List Int) (a m i : Int), L = P ++ T → i = (P.length : Int) → 0 ≤ a → a + 1 ≤ m → m * b ^ T.length ≤ 4294967296 → (∀ x ∈ T, 0 ≤ x ∧ x < b) →
    Ev (fun k => impl_worth.l0 k b a L (L.length : Int) i) (vl b a T)
  | [], P, a, m, i, hLP, hi, h0, h1, hm, hd => by
    have : L.length = P.length := by rw [hLP]; simp
    refine Ev.step (fun k => by rw [impl_worth.l0]) ?_
    exact Ev.neg (by omega) (Ev.now _)
  | x :: T, P, a, m, i, hLP, hi, h0, h1, hm, hd => by
    have hl : L.length = P.length + (T.length + 1) := by rw [hLP]; simp
    have hx : rd L i = x := by rw [hLP, hi]; exact rd_mid _ _ _
    have hxd := hd x List.mem_cons_self
    have hd' : ∀ z ∈ T, 0 ≤ z ∧ z < b := fun z hz => hd z (List.mem_cons_of_mem _ hz)
    have h2 : (a + 1) * b ≤ m * b := Int.mul_le_mul_of_nonneg_right h1 (by omega)
    rw [Int.add_mul, Int.one_mul] at h2
    have h3 : 0 ≤ a * b := Int.mul_nonneg h0 (by omega)
    have e : m * b ^ (x :: T).length = m * b * b ^ T.length := by rw [List.length_cons, Int.pow_succ, Int.mul_comm (b ^ T.length) b, ← Int.mul_assoc]
    rw [e] at hm
    have h4 : m * b * 1 ≤ m * b * b ^ T.length := Int.mul_le_mul_of_nonneg_left (pow_le8 hb (by omega)).1 (by omega)
    have ih := wor_l0 hb L hL T (P ++ [x]) (a * b + x) (m * b) (i + 1) (by rw [hLP]; simp) (by simp; omega) (by omega) (by omega) hm hd'
    generalize hq : m * b * b ^ T.length = q at hm h4
    refine Ev.step (fun k => by rw [impl_worth.l0]) ?_
    refine Ev.pos (by omega) (Ev.pos (by omega) (Ev.pos (by omega) ?_))
    rw [hx, w64 (show -9223372036854775808 ≤ a * b by omega) (by omega), w64 (by omega) (by omega), w64 (show -9223372036854775808 ≤ i + 1 by omega) (by omega), vl_cons]
    exact ih
theorem wor_ev {b : Int} (hb : 2 ≤ b ∧ b ≤ 16) (L : List Int) (hL : L.length ≤ 8) (hd : ∀ x ∈ L, 0 ≤ x ∧ x < b) : Ev (fun k => impl_worth.f k L b) (vl b 0 L) :=
  wor_l0 hb L hL L [] 0 1 0 rfl rfl (by omega) (by omega) (by have := (pow_le8 hb hL).2; omega) hd

theorem eq_l0 (l : List Int) (hl : l.length ≤ 4611686018427387904) : ∀ (m : Nat) (i : Int), 0 ≤ i → ((l.length : Int) - i).toNat < m → Ev (fun k => laws_eqIntS.l0 k l l i) true
  | 0, _, _, h => by omega
  | m + 1, i, h0, h => by
    by_cases hlt : i < (l.length : Int)
    · refine Ev.step (fun k => by rw [laws_eqIntS.l0]) (Ev.pos hlt (Ev.pos h0 (Ev.pos hlt (Ev.pos rfl ?_))))
      rw [w64 (by omega) (by omega)]
      exact eq_l0 l hl m (i + 1) (by omega) (by omega)
    · exact Ev.step (fun k => by rw [laws_eqIntS.l0]) (Ev.neg hlt (Ev.now _))
theorem eq_ev (l : List Int) (hl : l.length ≤ 4611686018427387904) : Ev (fun k => laws_eqIntS.f k l l) true := Ev.pos rfl (eq_l0 l hl _ 0 (by omega) (Nat.lt_succ_self _))

theorem heldc_l0 : ∀ (m : Nat) (pre : List Int) (x i : Int), i = (pre.length : Int) → pre.length + m ≤ 4611686018427387904 → 0 ≤ x → x + m ≤ 4611686018427387904 →
    Ev (fun k => laws_heldIntS.l0 k (pre ++ laws_markIntSS.cnt x m) x i) (x + m)
  | 0, pre, x, i, hi, hl, hx, hx2 => by
    refine Ev.step (fun k => by rw [laws_heldIntS.l0]) (Ev.neg (by simp [laws_markIntSS.cnt]; omega) (Ev.val ?_))
    simp
  | m + 1, pre, x, i, hi, hl, hx, hx2 => by
    have hr : rd (pre ++ laws_markIntSS.cnt x (m + 1)) i = x := by rw [hi, laws_markIntSS.cnt]; exact rd_mid _ _ _
    refine Ev.step (fun k => by rw [laws_heldIntS.l0]) (Ev.pos (by simp [laws_markIntSS.cnt_length]; omega) (Ev.pos (by omega) (Ev.pos hr ?_)))
    rw [w64 (x := x + 1) (by omega) (by omega), w64 (x := i + 1) (by omega) (by omega)]
    have ih := heldc_l0 m (pre ++ [x]) (x + 1) (i + 1) (by simp; omega) (by simp; omega) (by omega) (by omega)
    have e : pre ++ laws_markIntSS.cnt x (m + 1) = (pre ++ [x]) ++ laws_markIntSS.cnt (x + 1) m := by simp [laws_markIntSS.cnt]
    have e2 : x + ((m + 1 : Nat) : Int) = x + 1 + (m : Int) := by omega
    rw [e, e2]; exact ih
theorem heldc_ev (m : Nat) (x : Int) (hx : 0 ≤ x) (h : x + m ≤ 4611686018427387904) : Ev (fun k => laws_heldIntS.f k (laws_markIntSS.cnt x m) x) (x + m) := by
  have := heldc_l0 m [] x 0 (by simp) (by simp; omega) hx h
  unfold laws_heldIntS.f
  simpa using this
theorem rdL_at (P : List (List Int)) (a : List Int) (T : List (List Int)) (i : Int) (hi : i = (P.length : Int)) : rd_L1 (P ++ a :: T) i = a := by subst hi; simp [rd_L1]
theorem heldSS_l0 : ∀ (rest pre : List (List Int)) (x i : Int), i = (pre.length : Int) → pre.length + rest.length ≤ 4611686018427387904 → 0 ≤ x → x + (laws_markIntSS.tot rest : Nat) ≤ 4611686018427387904 →
    Ev (fun k => laws_heldIntSS.l0 k (pre ++ laws_markIntSS.mks rest x) x i) (x + (laws_markIntSS.tot rest : Nat))
  | [], pre, x, i, hi, hl, hx, hx2 => by
    refine Ev.step (fun k => by rw [laws_heldIntSS.l0]) (Ev.neg (by simp [laws_markIntSS.mks]; omega) (Ev.val ?_))
    simp [laws_markIntSS.tot]
  | l :: rest, pre, x, i, hi, hl, hx, hx2 => by
    simp only [List.length_cons, laws_markIntSS.tot] at hl hx2
    have hlen : (pre ++ laws_markIntSS.mks (l :: rest) x).length = pre.length + (rest.length + 1) := by rw [List.length_append, laws_markIntSS.mks_length, List.length_cons]
    have hr : rd_L1 (pre ++ laws_markIntSS.mks (l :: rest) x) i = laws_markIntSS.cnt x l.length := by rw [laws_markIntSS.mks]; exact rdL_at _ _ _ _ hi
    refine Ev.step (fun k => by rw [laws_heldIntSS.l0]) (Ev.pos (by rw [hlen]; omega) (Ev.pos (by omega) ?_))
    rw [hr]
    refine Ev.bind (heldc_ev l.length x hx (by omega)) (Ev.neg (by omega) ?_)
    rw [w64 (x := i + 1) (by omega) (by omega)]
    have ih := heldSS_l0 rest (pre ++ [laws_markIntSS.cnt x l.length]) (x + l.length) (i + 1) (by simp; omega) (by simp; omega) (by omega) (by omega)
    have e : pre ++ laws_markIntSS.mks (l :: rest) x = (pre ++ [laws_markIntSS.cnt x l.length]) ++ laws_markIntSS.mks rest (x + l.length) := by simp [laws_markIntSS.mks]
    have e2 : x + ((laws_markIntSS.tot (l :: rest) : Nat) : Int) = x + (l.length : Int) + (laws_markIntSS.tot rest : Nat) := by simp only [laws_markIntSS.tot]; omega
    rw [e, e2]; exact ih
theorem heldSS_ev (rows : List (List Int)) (h1 : rows.length ≤ 4611686018427387904) (h2 : 1 + ((laws_markIntSS.tot rows : Nat) : Int) ≤ 4611686018427387904) : Ev (fun k => laws_heldIntSS.f k (laws_markIntSS.mks rows 1) 1) (1 + ((laws_markIntSS.tot rows : Nat) : Int)) := by
  have := heldSS_l0 rows [] 1 0 (by simp) (by simp; omega) (by omega) h2
  unfold laws_heldIntSS.f
  simpa using this
theorem eqSS_l0 (X : List (List Int)) (hX : X.length ≤ 4611686018427387904) (hx : ∀ l ∈ X, l.length ≤ 4611686018427387904) : ∀ (rest pre : List (List Int)) (i : Int), X = pre ++ rest → i = (pre.length : Int) →
    Ev (fun k => laws_eqIntSS.l0 k X X i) true
  | [], pre, i, hp, hi => by
    refine Ev.step (fun k => by rw [laws_eqIntSS.l0]) (Ev.neg (by rw [hp]; simp; omega) (Ev.now _))
  | l :: rest, pre, i, hp, hi => by
    have hl : X.length = pre.length + (rest.length + 1) := by rw [hp]; simp
    have hr : rd_L1 X i = l := by rw [hp]; exact rdL_at _ _ _ _ hi
    refine Ev.step (fun k => by rw [laws_eqIntSS.l0]) (Ev.pos (by omega) (Ev.pos (by omega) (Ev.pos (by omega) ?_)))
    rw [hr]
    refine Ev.bind (eq_ev l (hx l (by rw [hp]; simp))) (Ev.pos rfl ?_)
    rw [w64 (x := i + 1) (by omega) (by omega)]
    exact eqSS_l0 X hX hx rest (pre ++ [l]) (i + 1) (by rw [hp]; simp) (by simp; omega)
theorem len_tot : ∀ (rows : List (List Int)) (l : List Int), l ∈ rows → l.length ≤ laws_markIntSS.tot rows
  | r :: rows, l, h => by
    simp only [laws_markIntSS.tot]
    rcases List.mem_cons.mp h with rfl | h
    · omega
    · have := len_tot rows l h; omega
theorem eqSS_ev (rows : List (List Int)) (h1 : rows.length ≤ 4611686018427387904) (h2 : laws_markIntSS.tot rows ≤ 4611686018427387904) : Ev (fun k => laws_eqIntSS.f k rows rows) true :=
  Ev.pos rfl (eqSS_l0 rows h1 (fun l hl => Nat.le_trans (len_tot rows l hl) h2) rows [] 0 rfl rfl)
theorem tot_le (B : Nat) : ∀ (rows : List (List Int)), (∀ l ∈ rows, l.length ≤ B) → laws_markIntSS.tot rows ≤ rows.length * B
  | [], _ => by simp [laws_markIntSS.tot]
  | r :: rows, h => by
    have := tot_le B rows (fun l hl => h l (List.mem_cons_of_mem _ hl))
    have h2 := h r List.mem_cons_self
    simp only [laws_markIntSS.tot, List.length_cons, Nat.succ_mul]
    omega

theorem markc_ev (l : List Int) (hl : l.length ≤ 1048576) : Ev (fun k => laws_markIntS.f k l 1) (1 + (l.length : Int), laws_markIntSS.cnt 1 l.length) := by
  obtain ⟨k, hk⟩ := laws_markIntSS.mark l 1 (by omega) (by omega)
  exact Ev.of (fun k => laws_markIntS.mono l 1 k) hk
theorem law_rows (l : List Int) (hl : l.length ≤ 1048576) {S I : Nat → Option (List (List Int) × Bool)} {rows : List (List Int)} {ok : Bool} (hs : Ev S (rows, ok)) (hi : Ev I (rows, ok)) (h1 : rows.length ≤ 1000000000000) (h2 : laws_markIntSS.tot rows ≤ 1000000000000000) :
    ∃ (k : Nat) (rows : List (List Int)) (ok_ : Bool), laws_toIntS.f k l = some l ∧ S k = some (rows, ok_) ∧ I k = some (rows, ok_) ∧ laws_eqIntSS.f k rows rows = some true ∧ laws_eqIntS.f k l l = some true ∧ laws_markIntS.f k l 1 = some (1 + (l.length : Int), laws_markIntSS.cnt 1 l.length) ∧ laws_heldIntSS.f k (laws_markIntSS.mks rows 1) 1 = some (1 + ((laws_markIntSS.tot rows : Nat) : Int)) ∧ 1 + ((laws_markIntSS.tot rows : Nat) : Int) ≤ 4611686018427387904 ∧ rows.length ≤ 4611686018427387904 := by
  obtain ⟨k1, e1⟩ := toInt_ev l hl
  obtain ⟨k2, e2⟩ := hs
  obtain ⟨k3, e3⟩ := hi
  obtain ⟨k4, e4⟩ := eqSS_ev rows (by omega) (by omega)
  obtain ⟨k5, e5⟩ := eq_ev l (by omega)
  obtain ⟨k6, e6⟩ := markc_ev l hl
  obtain ⟨k7, e7⟩ := heldSS_ev rows (by omega) (by omega)
  exact ⟨k1 + k2 + k3 + k4 + k5 + k6 + k7, rows, ok, e1 _ (by omega), e2 _ (by omega), e3 _ (by omega), e4 _ (by omega), e5 _ (by omega), e6 _ (by omega), e7 _ (by omega), by omega, by omega⟩

theorem law_ev (l : List Int) (b : Int) (hL : l.length ≤ 1048576) : ∃ (rows : List (List Int)) (ok : Bool), Ev (fun k => spec_CycleOf.f k l b) (rows, ok) ∧ Ev (fun k => impl_CycleOf.f k l b) (rows, ok) ∧ rows.length ≤ 4294967296 ∧ laws_markIntSS.tot rows ≤ 34359738368 := by
  unfold spec_CycleOf.f impl_CycleOf.f
  rw [isWord_eq]
  have hg := gpWord_ev l b hL
  cases hq : gw l b
  · rw [hq] at hg
    exact ⟨[], false, Ev.bind hg (Ev.neg (by simp) (Ev.now _)), Ev.pure rfl (Ev.neg (by simp) (Ev.now _)), by simp, by simp [laws_markIntSS.tot]⟩
  · rw [hq] at hg
    obtain ⟨hb, h1, h8, hd⟩ := gw_len hq
    obtain ⟨W, C, at_, c1, c2, c3, c4, c5, c6, c7, c8, c9⟩ := cycleOf_ev hb (w := l.length) ⟨h1, h8⟩ l ⟨rfl, hd⟩
    have hw := wor_ev hb l h8 hd
    refine ⟨C, true, ?_, ?_, c4, ?_⟩
    · exact Ev.bind hg (Ev.pos rfl (Ev.bind c7 (Ev.now _)))
    · refine Ev.pure rfl (Ev.pos rfl (Ev.bind hw ?_))
      refine Ev.bind c8 (Ev.pos (by omega) (Ev.pos (by show (at_ : Int) ≤ ((W.map (vl b 0)).length : Int); rw [List.length_map]; omega) ?_))
      rw [Int.toNat_natCast]
      exact Ev.bind c9 (Ev.bind (words_ev hb ⟨h1, h8⟩ C c4 c5) (Ev.now _))
    · have := tot_le 8 C (fun x hx => by rw [(c5 x hx).1]; exact h8)
      omega
theorem FnExactCycleOf : laws_FnExactCycleOf.Pure := by
  intro l b hm hl hw hb hlen
  obtain ⟨rows, ok, hs, hi, h1, h2⟩ := law_ev l b (by omega)
  exact law_rows l (by omega) hs hi (by omega) (by omega)

end Go.Proofs.Yteojcnegdcopdaa.Pure
