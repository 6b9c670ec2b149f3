/- For every int width and every int base, the program's CountReaching gives what the reference gives, in memory of its own. No conditions. -/
import Derived.Test.YteojcnegdcopdaaPFnExactCountReachingx12
namespace Go.Proofs.Yteojcnegdcopdaa.Pure
open Go.RowKit Go.Proofs.Yteojcnegdcopdaa.PFnExactCountReaching Go.Proofs.YteojcnegdcopdaaW.PrintWords Go.Proofs.YteojcnegdcopdaaW.PrintLast

theorem w64 {x : Int} (h0 : -9223372036854775808 ≤ x) (h1 : x ≤ 9223372036854775807) : wrap64 x = x := by unfold wrap64; omega
theorem Ev.pos {α : Type} {c : Prop} [Decidable c] {A B : Nat → Option α} {r : α} (h : c) (e : Ev A r) : Ev (fun k => if c then A k else B k) r := by simpa only [if_pos h] using e
theorem Ev.neg {α : Type} {c : Prop} [Decidable c] {A B : Nat → Option α} {r : α} (h : ¬ c) (e : Ev B r) : Ev (fun k => if c then A k else B k) r := by simpa only [if_neg h] using e
theorem Ev.val {α : Type} {a r : α} (h : a = r) : Ev (fun _ => some a) r := h ▸ Ev.now a
theorem Ev.pure {α β : Type} {o : Option α} {f : Nat → α → Option β} {a : α} {r : β} (h : o = some a) (k : Ev (fun n => f n a) r) : Ev (fun n => o.bind (f n)) r := by subst h; exact k
theorem rd_mid (pre rest : List Int) (a : Int) : rd (pre ++ a :: rest) (pre.length : Int) = a := by simp [rd]

theorem spec_l1In_eq (a b c : Int) : spec_l1In.f a b c = some (decide (b ≤ a ∧ a ≤ c)) := by
  unfold spec_l1In.f
  by_cases h : b ≤ a
  · rw [if_pos (show a ≥ b from h)]; simp [h]
  · rw [if_neg (show ¬ a ≥ b from h)]; simp [h]
theorem impl_in_eq (a b c : Int) : impl_in.f a b c = some (decide (b ≤ a ∧ a ≤ c)) := by
  unfold impl_in.f
  by_cases h : b ≤ a
  · rw [if_pos h]; simp [h]
  · rw [if_neg h]; simp [h]
theorem spec_dgBase_eq (b : Int) : spec_dgBase.f b = some (decide (2 ≤ b ∧ b ≤ 16)) := by
  unfold spec_dgBase.f
  rw [spec_l1In_eq]; simp
theorem impl_isBase_eq (b : Int) : impl_isBase.f b = some (decide (2 ≤ b ∧ b ≤ 16)) := by
  unfold impl_isBase.f
  rw [impl_in_eq]; simp

def wb (a b : Int) : Prop := (2 ≤ b ∧ b ≤ 16) ∧ (1 ≤ a ∧ a ≤ 8)
instance (a b : Int) : Decidable (wb a b) := by unfold wb; infer_instance
theorem gpAsked_eq (a b : Int) : spec_gpAsked.f a b = some (decide (wb a b)) := by
  unfold spec_gpAsked.f wb
  rw [spec_dgBase_eq, spec_l1In_eq]
  by_cases h : 2 ≤ b ∧ b ≤ 16
  · simp [h]
  · simp [h]
theorem l1Own_eq (l : List Int) (h : l.length < 17592186044416) : spec_l1Own.f l = some l := by
  unfold spec_l1Own.f
  simp only [Option.bind_some, List.length_nil, Nat.zero_add, List.nil_append]
  rw [if_pos h]
theorem gpAll_l0 (r q : Nat) (hq : q ≤ 4) (l : List Int) (hl : l.length + (r + 1) = q) (c : Nat) (hc : c ≤ 15)
    (ih : ∀ (y : Nat) (l' : List Int), y ≤ 15 → l'.length + r = q → Ev (fun k => spec_gpAll.f k l' (q : Int) (y : Int)) ((AG.dn r y).map (l' ++ ·))) :
    ∀ (m x : Nat) (acc : List (List Int)), x + m = c + 1 → acc.length ≤ x * 4000 →
      Ev (fun k => spec_gpAll.l0 k l (q : Int) (c : Int) acc (x : Int)) (acc ++ (List.range' x m).flatMap fun y => (AG.dn r y).map fun t => l ++ (y : Int) :: t)
  | 0, x, acc, hx, ha => by
    refine Ev.step (fun k => by rw [spec_gpAll.l0]) (Ev.neg (by omega) (Ev.val ?_))
    simp
  | m + 1, x, acc, hx, ha => by
    have hd := (AG.dn_len r (by omega) x (by omega)).1
    refine Ev.step (fun k => by rw [spec_gpAll.l0]) (Ev.pos (by omega) (Ev.pure (l1Own_eq l (by omega)) ?_))
    refine Ev.pos (by show l.length < 17592186044416; omega) ?_
    refine Ev.bind (ih x (l ++ [(x : Int)]) (by omega) (by simp; omega)) ?_
    refine Ev.pos (by rw [List.length_map]; omega) ?_
    rw [w64 (x := (x : Int) + 1) (by omega) (by omega)]
    have := gpAll_l0 r q hq l hl c hc ih m (x + 1) (acc ++ (AG.dn r x).map ((l ++ [(x : Int)]) ++ ·)) (by omega) (by rw [List.length_append, List.length_map]; omega)
    have e : acc ++ (List.range' x (m + 1)).flatMap (fun y => (AG.dn r y).map fun t => l ++ (y : Int) :: t) = acc ++ (AG.dn r x).map ((l ++ [(x : Int)]) ++ ·) ++ (List.range' (x + 1) m).flatMap fun y => (AG.dn r y).map fun t => l ++ (y : Int) :: t := by
      rw [List.range'_succ, List.flatMap_cons]
      simp
    rw [e]
    exact this
theorem gpAll_ev (q : Nat) (hq : q ≤ 4) : ∀ (r c : Nat) (l : List Int), c ≤ 15 → l.length + r = q → Ev (fun k => spec_gpAll.f k l (q : Int) (c : Int)) ((AG.dn r c).map (l ++ ·))
  | 0, c, l, hc, hl => by
    refine Ev.step (fun k => by rw [spec_gpAll.f]) (Ev.pos (by omega) (Ev.pure (l1Own_eq l (by omega)) (Ev.val ?_)))
    simp [AG.dn]
  | r + 1, c, l, hc, hl => by
    refine Ev.step (fun k => by rw [spec_gpAll.f]) (Ev.neg (by omega) ?_)
    have := gpAll_l0 r q hq l hl c hc (fun y l' hy hl' => gpAll_ev q hq r y l' hy hl') (c + 1) 0 [] (by omega) (by simp)
    have e : (AG.dn (r + 1) c).map (l ++ ·) = [] ++ (List.range' 0 (c + 1)).flatMap fun y => (AG.dn r y).map fun t => l ++ (y : Int) :: t := by
      rw [List.nil_append, AG.dn, List.map_flatMap, List.range_eq_range']
      simp [Function.comp_def]
    rw [e]
    exact this
theorem gpAll_full (a b : Int) (h : wb a b) : Ev (fun k => spec_gpAll.f k [] (wrap64 (Int.tdiv a 2)) (wrap64 (b - 1))) (AG.dn (a.toNat / 2) (b.toNat - 1)) := by
  obtain ⟨⟨h1, h2⟩, h3, h4⟩ := h
  have e8 : wrap64 (Int.tdiv a 2) = ((a.toNat / 2 : Nat) : Int) := by rw [Int.tdiv_eq_ediv_of_nonneg (by omega), w64 (by omega) (by omega)]; omega
  have e10 : wrap64 (b - 1) = ((b.toNat - 1 : Nat) : Int) := by rw [w64 (by omega) (by omega)]; omega
  rw [e8, e10]
  have := gpAll_ev (a.toNat / 2) (by omega) (a.toNat / 2) (b.toNat - 1) [] (by omega) (by simp)
  simpa using this
theorem allGaps_eq (a b : Int) (h : wb a b) : impl_allGaps.f a b = some (AG.dn (a.toNat / 2) (b.toNat - 1)) := by
  unfold impl_allGaps.f
  obtain ⟨⟨h1, h2⟩, h3, h4⟩ := h
  rw [if_pos ⟨h3, h4, h1, h2⟩]

/-- the reference's sorting: each number in turn, behind those that are not greater -/
def insR (x : Int) : List Int → List Int
  | [] => [x]
  | y :: t => if y ≤ x then y :: insR x t else x :: y :: t
theorem insR_perm (x : Int) : ∀ l : List Int, (insR x l).Perm (x :: l)
  | [] => List.Perm.refl _
  | y :: t => by
    unfold insR
    split
    · exact ((insR_perm x t).cons y).trans (List.Perm.swap x y t)
    · exact List.Perm.refl _
theorem insR_sorted (x : Int) : ∀ l : List Int, l.Pairwise (· ≤ ·) → (insR x l).Pairwise (· ≤ ·)
  | [], _ => by simp [insR]
  | y :: t, h => by
    unfold insR
    obtain ⟨h1, h2⟩ := List.pairwise_cons.mp h
    split
    · rename_i hx
      refine List.pairwise_cons.mpr ⟨fun z hz => ?_, insR_sorted x t h2⟩
      rcases List.mem_cons.mp ((insR_perm x t).mem_iff.mp hz) with rfl | hz
      · exact hx
      · exact h1 z hz
    · rename_i hx
      refine List.pairwise_cons.mpr ⟨fun z hz => ?_, h⟩
      rcases List.mem_cons.mp hz with rfl | hz
      · omega
      · have := h1 z hz; omega
theorem gins_perm (x : Int) : ∀ l : List Int, (slices_Sort_int_int.ins x l).Perm (x :: l)
  | [] => List.Perm.refl _
  | y :: t => by
    unfold slices_Sort_int_int.ins
    split
    · exact List.Perm.refl _
    · exact ((gins_perm x t).cons y).trans (List.Perm.swap x y t)
theorem gso_perm : ∀ l : List Int, (slices_Sort_int_int.so l).Perm l
  | [] => List.Perm.refl _
  | x :: t => (gins_perm x _).trans ((gso_perm t).cons x)
theorem gins_sorted (x : Int) : ∀ l : List Int, l.Pairwise (· ≤ ·) → (slices_Sort_int_int.ins x l).Pairwise (· ≤ ·)
  | [], _ => by simp [slices_Sort_int_int.ins]
  | y :: t, h => by
    unfold slices_Sort_int_int.ins
    obtain ⟨h1, h2⟩ := List.pairwise_cons.mp h
    split
    · rename_i hx
      refine List.pairwise_cons.mpr ⟨fun z hz => ?_, h⟩
      rcases List.mem_cons.mp hz with rfl | hz
      · exact hx
      · exact Int.le_trans hx (h1 z hz)
    · rename_i hx
      refine List.pairwise_cons.mpr ⟨fun z hz => ?_, gins_sorted x t h2⟩
      rcases List.mem_cons.mp ((gins_perm x t).mem_iff.mp hz) with rfl | hz
      · omega
      · exact h1 z hz
theorem gso_sorted : ∀ l : List Int, (slices_Sort_int_int.so l).Pairwise (· ≤ ·)
  | [] => List.Pairwise.nil
  | x :: t => gins_sorted x _ (gso_sorted t)
theorem own_eq (l : List Int) (h : l.length ≤ 1048576) : spec_l1Own.f l = some l := by unfold spec_l1Own.f; simp; omega
/-- one number put in its place: A in front of place i not greater -/
theorem dgs_l1 (L : List Int) (n j x : Int) : ∀ (B A : List Int) (i : Int), A.length + B.length ≤ 1000000 → i = (A.length : Int) →
    ∀ r, Ev (fun k => spec_dgSorted.l0 k (A ++ insR x B) L n (wrap64 (j + 1))) r → Ev (fun k => spec_dgSorted.l1 k (A ++ B) x i L n j) r
  | [], A, i, hl, hi, r, h => by
    have hA : A.length ≤ 1000000 := by simpa using hl
    rw [List.append_nil]
    refine Ev.step (fun k => by rw [spec_dgSorted.l1]) ?_
    have e1 : A.take i.toNat = A := by rw [hi, Int.toNat_natCast, List.take_length]
    have e2 : A.drop i.toNat = [] := by rw [hi, Int.toNat_natCast, List.drop_length]
    refine Ev.neg (by omega) (Ev.pos (by omega) (Ev.pos (by omega) ?_))
    rw [e1, e2]
    refine Ev.pure (own_eq A (by omega)) (Ev.pos (by omega) (Ev.pure rfl (Ev.pure rfl (Ev.pos (by simp; omega) ?_))))
    simpa [insR] using h
  | y :: B, A, i, hl, hi, r, h => by
    have hA : A.length + B.length + 1 ≤ 1000000 := by simp at hl; omega
    have hlen : (A ++ y :: B).length = A.length + (B.length + 1) := by simp
    have hy : rd (A ++ y :: B) i = y := by rw [hi]; exact rd_mid _ _ _
    refine Ev.step (fun k => by rw [spec_dgSorted.l1]) ?_
    refine Ev.pos (by omega) (Ev.pos (by omega) ?_)
    rw [hy]
    by_cases hxy : y ≤ x
    · refine Ev.pos hxy ?_
      have e : A ++ y :: B = (A ++ [y]) ++ B := by simp
      rw [e, w64 (by omega) (by omega)]
      refine dgs_l1 L n j x B (A ++ [y]) (i + 1) (by simp; omega) (by simp; omega) r ?_
      unfold insR at h
      rw [if_pos hxy] at h
      simpa using h
    · have e1 : (A ++ y :: B).take i.toNat = A := by rw [hi, Int.toNat_natCast]; simp
      have e2 : (A ++ y :: B).drop i.toNat = y :: B := by rw [hi, Int.toNat_natCast]; simp
      refine Ev.neg hxy (Ev.pos (by omega) ?_)
      rw [e1, e2]
      refine Ev.pure (own_eq A (by omega)) (Ev.pos (by omega) (Ev.pure rfl (Ev.pure rfl (Ev.pos (by simp; omega) ?_))))
      unfold insR at h
      rw [if_neg hxy] at h
      simpa using h
theorem dgs_l0 (L : List Int) (hL : L.length ≤ 1000) : ∀ (T P : List Int) (S : List Int) (i : Int), L = P ++ T → i = (P.length : Int) → S.Perm P → S.Pairwise (· ≤ ·) →
    ∃ r : List Int, r.Perm L ∧ r.Pairwise (· ≤ ·) ∧ Ev (fun k => spec_dgSorted.l0 k S L (L.length : Int) i) r
  | [], P, S, i, hLP, hi, hp, hs => by
    have : L.length = P.length := by rw [hLP]; simp
    refine ⟨S, by rw [hLP]; simpa using hp, hs, ?_⟩
    refine Ev.step (fun k => by rw [spec_dgSorted.l0]) ?_
    exact Ev.neg (by omega) (Ev.now _)
  | x :: T, P, S, i, hLP, hi, hp, hs => by
    have hl : L.length = P.length + (T.length + 1) := by rw [hLP]; simp
    have hx : rd L i = x := by rw [hLP, hi]; exact rd_mid _ _ _
    have hS : S.length = P.length := hp.length_eq
    obtain ⟨r, h1, h2, h3⟩ := dgs_l0 L hL T (P ++ [x]) (insR x S) (i + 1) (by rw [hLP]; simp) (by simp; omega) ((insR_perm x S).trans ((hp.cons x).trans (List.perm_append_singleton x P).symm)) (insR_sorted x S hs)
    refine ⟨r, h1, h2, ?_⟩
    refine Ev.step (fun k => by rw [spec_dgSorted.l0]) ?_
    refine Ev.pos (by omega) (Ev.pos (by omega) (Ev.pos (by omega) ?_))
    rw [hx]
    have := dgs_l1 L (L.length : Int) i x S [] 0 (by simp; omega) rfl r (by rw [w64 (by omega) (by omega)]; simpa using h3)
    simpa using this
theorem dgSorted_ev (L : List Int) (hL : L.length ≤ 1000) : Ev (fun k => spec_dgSorted.f k L) (slices_Sort_int_int.so L) := by
  obtain ⟨r, h1, h2, h3⟩ := dgs_l0 L hL L [] [] 0 rfl rfl (List.Perm.refl _) List.Pairwise.nil
  have e : r = slices_Sort_int_int.so L := (h1.trans (gso_perm L).symm).eq_of_pairwise (fun a b _ _ h1 h2 => Int.le_antisymm h1 h2) h2 (gso_sorted L)
  rw [← e]
  exact h3

theorem back_l0 (L : List Int) (hL : L.length ≤ 1048576) : ∀ (m : Nat) (i : Int) (acc : List Int), m ≤ L.length → i = (m : Int) - 1 → acc.length + m ≤ 1048576 → Ev (fun k => spec_dgBack.l0 k L acc i) (acc ++ (L.take m).reverse)
  | 0, i, acc, h, hi, ha => by
    refine Ev.step (fun k => by rw [spec_dgBack.l0]) ?_
    exact Ev.neg (by omega) (Ev.val (by simp))
  | m + 1, i, acc, h, hi, ha => by
    have hr : rd L i = L[m] := by
      have : i.toNat = m := by omega
      simp [rd, this, List.getElem?_eq_getElem (show m < L.length by omega)]
    have ih := back_l0 L hL m (i - 1) (acc ++ [rd L i]) (by omega) (by omega) (by simp; omega)
    refine Ev.step (fun k => by rw [spec_dgBack.l0]) ?_
    refine Ev.pos (by omega) (Ev.pos (by omega) (Ev.pos (by omega) (Ev.pos (by omega) ?_)))
    rw [w64 (by omega) (by omega)]
    have e : acc ++ (L.take (m + 1)).reverse = (acc ++ [rd L i]) ++ (L.take m).reverse := by
      rw [List.take_succ_eq_append_getElem (show m < L.length by omega), hr]; simp
    rw [e]; exact ih
theorem back_ev (L : List Int) (hL : L.length ≤ 1048576) : Ev (fun k => spec_dgBack.f k L) L.reverse := by
  have := back_l0 L hL L.length ((L.length : Int) - 1) [] (Nat.le_refl _) rfl (by simp; omega)
  unfold spec_dgBack.f
  rw [w64 (by omega) (by omega)]
  simpa using this

/-- the number that digits stand for, behind an accumulator -/
def vl (b acc : Int) (l : List Int) : Int := l.foldl (fun a x => a * b + x) acc
theorem vl_cons (b acc x : Int) (t : List Int) : vl b acc (x :: t) = vl b (acc * b + x) t := rfl
theorem vl_bd {b : Int} (hb : 2 ≤ b ∧ b ≤ 16) : ∀ (l : List Int) (a m : Int), 0 ≤ a → a + 1 ≤ m → (∀ x ∈ l, 0 ≤ x ∧ x < b) → 0 ≤ vl b a l ∧ vl b a l + 1 ≤ m * b ^ l.length
  | [], a, m, h0, h1, _ => by simp [vl]; omega
  | x :: t, a, m, h0, h1, hd => by
    rw [vl_cons]
    have hx := hd x List.mem_cons_self
    have h2 : (a + 1) * b ≤ m * b := Int.mul_le_mul_of_nonneg_right h1 (by omega)
    have h3 : 0 ≤ a * b := Int.mul_nonneg h0 (by omega)
    rw [Int.add_mul, Int.one_mul] at h2
    have := vl_bd hb t (a * b + x) (m * b) (by omega) (by omega) (fun z hz => hd z (List.mem_cons_of_mem _ hz))
    refine ⟨this.1, ?_⟩
    have e : m * b ^ (x :: t).length = m * b * b ^ t.length := by rw [List.length_cons, Int.pow_succ, Int.mul_comm (b ^ t.length) b, ← Int.mul_assoc]
    rw [e]; exact this.2
theorem pow_le8 {b : Int} (hb : 2 ≤ b ∧ b ≤ 16) {n : Nat} (hn : n ≤ 8) : 1 ≤ b ^ n ∧ b ^ n ≤ 4294967296 := by
  have e : b = 2 ∨ b = 3 ∨ b = 4 ∨ b = 5 ∨ b = 6 ∨ b = 7 ∨ b = 8 ∨ b = 9 ∨ b = 10 ∨ b = 11 ∨ b = 12 ∨ b = 13 ∨ b = 14 ∨ b = 15 ∨ b = 16 := by omega
  have f : n = 0 ∨ n = 1 ∨ n = 2 ∨ n = 3 ∨ n = 4 ∨ n = 5 ∨ n = 6 ∨ n = 7 ∨ n = 8 := by omega
  rcases e with rfl | rfl | rfl | rfl | rfl | rfl | rfl | rfl | rfl | rfl | rfl | rfl | rfl | rfl | rfl <;> rcases f with rfl | rfl | rfl | rfl | rfl | rfl | rfl | rfl | rfl <;> decide
theorem gpv_l0 {b : Int} (hb : 2 ≤ b ∧ b ≤ 16) (L : List Int) (hL : L.length ≤ 8) : ∀ (T P : List Int) (a m i : Int), L = P ++ T → i = (P.length : Int) → 0 ≤ a → a + 1 ≤ m → m * b ^ T.length ≤ 4294967296 → (∀ x ∈ T, 0 ≤ x ∧ x < b) →
    Ev (fun k => spec_gpValue.l0 k b a L (L.length : Int) i) (vl b a T)
  | [], P, a, m, i, hLP, hi, h0, h1, hm, hd => by
    have : L.length = P.length := by rw [hLP]; simp
    refine Ev.step (fun k => by rw [spec_gpValue.l0]) ?_
    exact Ev.neg (by omega) (Ev.now _)
  | x :: T, P, a, m, i, hLP, hi, h0, h1, hm, hd => by
    have hl : L.length = P.length + (T.length + 1) := by rw [hLP]; simp
    have hx : rd L i = x := by rw [hLP, hi]; exact rd_mid _ _ _
    have hxd := hd x List.mem_cons_self
    have hd' : ∀ z ∈ T, 0 ≤ z ∧ z < b := fun z hz => hd z (List.mem_cons_of_mem _ hz)
    have h2 : (a + 1) * b ≤ m * b := Int.mul_le_mul_of_nonneg_right h1 (by omega)
    rw [Int.add_mul, Int.one_mul] at h2
    have h3 : 0 ≤ a * b := Int.mul_nonneg h0 (by omega)
    have e : m * b ^ (x :: T).length = m * b * b ^ T.length := by rw [List.length_cons, Int.pow_succ, Int.mul_comm (b ^ T.length) b, ← Int.mul_assoc]
    rw [e] at hm
    have h4 : m * b * 1 ≤ m * b * b ^ T.length := Int.mul_le_mul_of_nonneg_left (pow_le8 hb (by omega)).1 (by omega)
    have ih := gpv_l0 hb L hL T (P ++ [x]) (a * b + x) (m * b) (i + 1) (by rw [hLP]; simp) (by simp; omega) (by omega) (by omega) hm hd'
    generalize hq : m * b * b ^ T.length = q at hm h4
    refine Ev.step (fun k => by rw [spec_gpValue.l0]) ?_
    refine Ev.pos (by omega) (Ev.pos (by omega) (Ev.pos (by omega) ?_))
    rw [hx, w64 (show -9223372036854775808 ≤ a * b by omega) (by omega), w64 (by omega) (by omega), w64 (show -9223372036854775808 ≤ i + 1 by omega) (by omega), vl_cons]
    exact ih
theorem gpv_ev {b : Int} (hb : 2 ≤ b ∧ b ≤ 16) (L : List Int) (hL : L.length ≤ 8) (hd : ∀ x ∈ L, 0 ≤ x ∧ x < b) : Ev (fun k => spec_gpValue.f k L b) (vl b 0 L) :=
  gpv_l0 hb L hL L [] 0 1 0 rfl rfl (by omega) (by omega) (by have := (pow_le8 hb hL).2; omega) hd
theorem toPow_l0 {b : Int} (hb : 2 ≤ b ∧ b ≤ 16) (K : Nat) (hK : K ≤ 8) : ∀ (m n : Nat), n + m = K → Ev (fun k => impl_toPower.l0 k b (b ^ n) (K : Int) (n : Int)) (b ^ K)
  | 0, n, h => by
    refine Ev.step (fun k => by rw [impl_toPower.l0]) ?_
    exact Ev.neg (by omega) (Ev.val (by rw [show n = K by omega]))
  | m + 1, n, h => by
    have h1 := pow_le8 hb (show n + 1 ≤ 8 by omega)
    have e : b ^ n * b = b ^ (n + 1) := (Int.pow_succ b n).symm
    refine Ev.step (fun k => by rw [impl_toPower.l0]) ?_
    refine Ev.pos (by omega) ?_
    rw [e]
    have ih := toPow_l0 hb K hK m (n + 1) (by omega)
    generalize b ^ (n + 1) = q at h1 ih
    rw [w64 (by omega) (by omega), w64 (show -9223372036854775808 ≤ (n : Int) + 1 by omega) (by omega)]
    simpa using ih
theorem toPow_ev {b : Int} (hb : 2 ≤ b ∧ b ≤ 16) {n : Nat} (hn : n ≤ 8) : Ev (fun k => impl_toPower.f k b (n : Int)) (b ^ n) := by
  have := toPow_l0 hb n hn n 0 (by omega)
  simpa [impl_toPower.f] using this
/-- what the gaps sum up to, from gap i on -/
def gsum (b : Int) (w : Nat) : Nat → List Int → Int
  | _, [] => 0
  | i, g :: t => g * (b ^ (w - 1 - i) - b ^ i) + gsum b w (i + 1) t
theorem mul_bd {g d : Int} (hg : -16 ≤ g ∧ g ≤ 16) (hd : -4294967296 ≤ d ∧ d ≤ 4294967296) : -68719476736 ≤ g * d ∧ g * d ≤ 68719476736 := by
  have e : g = -16 ∨ g = -15 ∨ g = -14 ∨ g = -13 ∨ g = -12 ∨ g = -11 ∨ g = -10 ∨ g = -9 ∨ g = -8 ∨ g = -7 ∨ g = -6 ∨ g = -5 ∨ g = -4 ∨ g = -3 ∨ g = -2 ∨ g = -1 ∨ g = 0 ∨ g = 1 ∨ g = 2 ∨ g = 3 ∨ g = 4 ∨ g = 5 ∨ g = 6 ∨ g = 7 ∨ g = 8 ∨ g = 9 ∨ g = 10 ∨ g = 11 ∨ g = 12 ∨ g = 13 ∨ g = 14 ∨ g = 15 ∨ g = 16 := by omega
  rcases e with rfl | rfl | rfl | rfl | rfl | rfl | rfl | rfl | rfl | rfl | rfl | rfl | rfl | rfl | rfl | rfl | rfl | rfl | rfl | rfl | rfl | rfl | rfl | rfl | rfl | rfl | rfl | rfl | rfl | rfl | rfl | rfl | rfl <;> omega
theorem byg_l0 {b : Int} (hb : 2 ≤ b ∧ b ≤ 16) (w : Nat) (hw : 1 ≤ w ∧ w ≤ 8) (G : List Int) (hG : G.length ≤ 4) (hGw : G.length ≤ w) : ∀ (T P : List Int) (a i : Int), G = P ++ T → i = (P.length : Int) → -(P.length * 68719476736 : Int) ≤ a → a ≤ (P.length * 68719476736 : Int) → (∀ x ∈ T, -16 ≤ x ∧ x ≤ 16) →
    Ev (fun k => impl_byGaps.l0 k (w : Int) b a G (G.length : Int) i) (a + gsum b w P.length T) := by
  intro T
  induction T with
  | nil =>
    intro P a i hGP hi h0 h1 hd
    have : G.length = P.length := by rw [hGP]; simp
    refine Ev.step (fun k => by rw [impl_byGaps.l0]) ?_
    exact Ev.neg (by omega) (Ev.val (by simp [gsum]))
  | cons x T ih0 =>
    intro P a i hGP hi h0 h1 hd
    have hl : G.length = P.length + (T.length + 1) := by rw [hGP]; simp
    have hx : rd G i = x := by rw [hGP, hi]; exact rd_mid _ _ _
    have hxd := hd x List.mem_cons_self
    have hd' : ∀ z ∈ T, -16 ≤ z ∧ z ≤ 16 := fun z hz => hd z (List.mem_cons_of_mem _ hz)
    have p1 := pow_le8 hb (show w - 1 - P.length ≤ 8 by omega)
    have p2 := pow_le8 hb (show P.length ≤ 8 by omega)
    have t1 := toPow_ev hb (show w - 1 - P.length ≤ 8 by omega)
    have t2 := toPow_ev hb (show P.length ≤ 8 by omega)
    have e1 : wrap64 (wrap64 ((w : Int) - 1) - i) = ((w - 1 - P.length : Nat) : Int) := by
      rw [w64 (show -9223372036854775808 ≤ (w : Int) - 1 by omega) (by omega), w64 (by omega) (by omega)]; omega
    have hs : gsum b w P.length (x :: T) = x * (b ^ (w - 1 - P.length) - b ^ P.length) + gsum b w (P.length + 1) T := rfl
    rw [hs]
    have ih := ih0 (P ++ [x]) (a + x * (b ^ (w - 1 - P.length) - b ^ P.length)) (i + 1) (by rw [hGP]; simp) (by simp; omega)
    generalize b ^ (w - 1 - P.length) = q1 at p1 t1 ih ⊢
    generalize b ^ P.length = q2 at p2 t2 ih ⊢
    have hm := mul_bd hxd (show -4294967296 ≤ q1 - q2 ∧ q1 - q2 ≤ 4294967296 by omega)
    generalize hmq : x * (q1 - q2) = mq at hm ih ⊢
    have hlen : ((P ++ [x]).length : Int) = P.length + 1 := by simp
    have ih2 := ih (by rw [hlen]; omega) (by rw [hlen]; omega) hd'
    refine Ev.step (fun k => by rw [impl_byGaps.l0]) ?_
    refine Ev.pos (by omega) (Ev.pos (by omega) (Ev.pos (by omega) ?_))
    rw [e1, hi]
    refine Ev.bind t1 (Ev.bind t2 ?_)
    rw [← hi, hx, w64 (show -9223372036854775808 ≤ q1 - q2 by omega) (by omega), hmq, w64 (show -9223372036854775808 ≤ mq by omega) (by omega), w64 (show -9223372036854775808 ≤ a + mq by omega) (by omega), w64 (show -9223372036854775808 ≤ i + 1 by omega) (by omega)]
    have e3 : (P ++ [x]).length = P.length + 1 := by simp
    rw [e3] at ih2
    rw [← Int.add_assoc]
    exact ih2
theorem byg_ev {b : Int} (hb : 2 ≤ b ∧ b ≤ 16) (w : Nat) (hw : 1 ≤ w ∧ w ≤ 8) (G : List Int) (hG : G.length ≤ 4) (hGw : G.length ≤ w) (hd : ∀ x ∈ G, -16 ≤ x ∧ x ≤ 16) : Ev (fun k => impl_byGaps.f k G (w : Int) b) (gsum b w 0 G) := by
  have := byg_l0 hb w hw G hG hGw G [] 0 0 rfl rfl (by simp) (by simp) hd
  unfold impl_byGaps.f
  simpa using this
/-- the gaps of sorted digits -/
def gl (up : List Int) : List Int := (List.range (up.length / 2)).map fun (i : Nat) => wrap64 (rd up ((up.length : Int) - 1 - i) - rd up (i : Int))
theorem wr_sub {b x y : Int} (hb : 2 ≤ b ∧ b ≤ 16) (hx : 0 ≤ x ∧ x < b) (hy : 0 ≤ y ∧ y < b) : wrap64 (x - y) = x - y := w64 (by omega) (by omega)
theorem gap_alg {b : Int} (hb : 2 ≤ b ∧ b ≤ 16) (up : List Int) (h1 : 1 ≤ up.length) (h8 : up.length ≤ 8) (hd : ∀ x ∈ up, 0 ≤ x ∧ x < b) : vl b 0 up.reverse - vl b 0 up = gsum b up.length 0 (gl up) := by
  match up, h1, h8, hd with
  | [x0], _, _, hd => simp [vl, gl, gsum]
  | [x0, x1], _, _, hd =>
    have d0 := hd x0 (by simp); have d1 := hd x1 (by simp)
    simp [vl, gl, gsum, rd, List.range_succ, wr_sub hb d1 d0]
    grind
  | [x0, x1, x2], _, _, hd =>
    have d0 := hd x0 (by simp); have d2 := hd x2 (by simp)
    simp [vl, gl, gsum, rd, List.range_succ, wr_sub hb d2 d0]
    grind
  | [x0, x1, x2, x3], _, _, hd =>
    have d0 := hd x0 (by simp); have d1 := hd x1 (by simp); have d2 := hd x2 (by simp); have d3 := hd x3 (by simp)
    simp [vl, gl, gsum, rd, List.range_succ, wr_sub hb d3 d0, wr_sub hb d2 d1]
    grind
  | [x0, x1, x2, x3, x4], _, _, hd =>
    have d0 := hd x0 (by simp); have d1 := hd x1 (by simp); have d3 := hd x3 (by simp); have d4 := hd x4 (by simp)
    simp [vl, gl, gsum, rd, List.range_succ, wr_sub hb d4 d0, wr_sub hb d3 d1]
    grind
  | [x0, x1, x2, x3, x4, x5], _, _, hd =>
    have d0 := hd x0 (by simp); have d1 := hd x1 (by simp); have d2 := hd x2 (by simp); have d3 := hd x3 (by simp); have d4 := hd x4 (by simp); have d5 := hd x5 (by simp)
    simp [vl, gl, gsum, rd, List.range_succ, wr_sub hb d5 d0, wr_sub hb d4 d1, wr_sub hb d3 d2]
    grind
  | [x0, x1, x2, x3, x4, x5, x6], _, _, hd =>
    have d0 := hd x0 (by simp); have d1 := hd x1 (by simp); have d2 := hd x2 (by simp); have d4 := hd x4 (by simp); have d5 := hd x5 (by simp); have d6 := hd x6 (by simp)
    simp [vl, gl, gsum, rd, List.range_succ, wr_sub hb d6 d0, wr_sub hb d5 d1, wr_sub hb d4 d2]
    grind
  | [x0, x1, x2, x3, x4, x5, x6, x7], _, _, hd =>
    have d0 := hd x0 (by simp); have d1 := hd x1 (by simp); have d2 := hd x2 (by simp); have d3 := hd x3 (by simp); have d4 := hd x4 (by simp); have d5 := hd x5 (by simp); have d6 := hd x6 (by simp); have d7 := hd x7 (by simp)
    simp [vl, gl, gsum, rd, List.range_succ, wr_sub hb d7 d0, wr_sub hb d6 d1, wr_sub hb d5 d2, wr_sub hb d4 d3]
    grind

/-- the word of a width with a value -/
def wd (b : Int) : Nat → Int → List Int
  | 0, _ => []
  | w + 1, v => wd b w (v / b) ++ [v % b]
theorem wd_len (b : Int) : ∀ (w : Nat) (v : Int), (wd b w v).length = w
  | 0, _ => rfl
  | w + 1, v => by simp [wd, wd_len b w]
theorem wd_mem {b : Int} (hb : 2 ≤ b) : ∀ (w : Nat) (v : Int), ∀ x ∈ wd b w v, 0 ≤ x ∧ x < b
  | 0, _, x, h => by simp [wd] at h
  | w + 1, v, x, h => by
    simp only [wd, List.mem_append, List.mem_singleton] at h
    rcases h with h | rfl
    · exact wd_mem hb w _ x h
    · exact ⟨Int.emod_nonneg _ (by omega), Int.emod_lt_of_pos _ (by omega)⟩
theorem vl_snoc (b a x : Int) (t : List Int) : vl b a (t ++ [x]) = vl b a t * b + x := by simp [vl]
theorem vl_wd {b : Int} (hb : 2 ≤ b) : ∀ (w : Nat) (v : Int), 0 ≤ v → v < b ^ w → vl b 0 (wd b w v) = v
  | 0, v, h0, h1 => by simp [wd, vl] at *; omega
  | w + 1, v, h0, h1 => by
    have hq : v / b < b ^ w := by
      rw [Int.pow_succ] at h1
      exact Int.ediv_lt_of_lt_mul (by omega) h1
    rw [wd, vl_snoc, vl_wd hb w (v / b) (Int.ediv_nonneg h0 (by omega)) hq]
    have := Int.emod_add_mul_ediv v b
    rw [Int.mul_comm]; omega
theorem wd_vl {b : Int} (hb : 2 ≤ b) (l : List Int) : (∀ x ∈ l, 0 ≤ x ∧ x < b) → wd b l.length (vl b 0 l) = l := by
  have h : ∀ r : List Int, (∀ x ∈ r.reverse, 0 ≤ x ∧ x < b) → wd b r.reverse.length (vl b 0 r.reverse) = r.reverse := by
    intro r
    induction r with
    | nil => intro _; rfl
    | cons a r ih =>
      intro hd
      rw [List.reverse_cons] at hd ⊢
      have ha := hd a (by simp)
      have hr := ih (fun x hx => hd x (List.mem_append_left _ hx))
      rw [List.length_append, List.length_singleton, wd, vl_snoc]
      have e1 : (vl b 0 r.reverse * b + a) / b = vl b 0 r.reverse := by
        rw [Int.add_comm, Int.add_mul_ediv_right _ _ (by omega), Int.ediv_eq_zero_of_lt ha.1 ha.2]; omega
      have e2 : (vl b 0 r.reverse * b + a) % b = a := by
        rw [Int.add_comm, Int.add_mul_emod_self_right]; exact Int.emod_eq_of_lt ha.1 ha.2
      rw [e1, e2, hr]
  simpa using h l.reverse
theorem wo_l0 {b : Int} (hb : 2 ≤ b) : ∀ (m : Nat) (S : List Int) (n : Int), 0 ≤ n → n ≤ 4294967296 → m + S.length ≤ 1000 →
    Ev (fun k => spec_gpWith.l0 k n b (List.replicate m 0 ++ S) ((m : Int) - 1)) (wd b m n ++ S) ∧ Ev (fun k => impl_wordOf.l0 k n b (List.replicate m 0 ++ S) ((m : Int) - 1)) (wd b m n ++ S) := by
  intro m
  induction m with
  | zero =>
    intro S n h0 h1 hS
    refine ⟨?_, ?_⟩
    · refine Ev.step (fun k => by rw [spec_gpWith.l0]) ?_
      exact Ev.neg (by omega) (Ev.val rfl)
    · refine Ev.step (fun k => by rw [impl_wordOf.l0]) ?_
      exact Ev.neg (by omega) (Ev.val rfl)
  | succ m ih =>
    intro S n h0 h1 hS
    have hq0 : 0 ≤ n / b := Int.ediv_nonneg h0 (by omega)
    have hq1 : n / b ≤ n := Int.ediv_le_self b h0
    have e1 : (((m + 1 : Nat) : Int) - 1) = (m : Int) := by omega
    have e2 : (List.replicate (m + 1) (0 : Int)) ++ S = List.replicate m 0 ++ 0 :: S := by rw [List.replicate_succ']; simp
    have e3 : (List.replicate m (0 : Int) ++ 0 :: S).set ((m : Int)).toNat (n % b) = List.replicate m 0 ++ (n % b) :: S := by simp
    have e4 : wd b (m + 1) n ++ S = wd b m (n / b) ++ (n % b) :: S := by simp [wd]
    have hlen : (List.replicate m (0 : Int) ++ 0 :: S).length = m + S.length + 1 := by simp; omega
    have w1 : wrap64 (n / b) = n / b := w64 (by omega) (by omega)
    have w2 : wrap64 ((m : Int) - 1) = (m : Int) - 1 := w64 (by omega) (by omega)
    obtain ⟨h2, h3⟩ := ih ((n % b) :: S) (n / b) hq0 (by omega) (by simp; omega)
    rw [e1, e2, e4]
    refine ⟨?_, ?_⟩
    · refine Ev.step (fun k => by rw [spec_gpWith.l0]) ?_
      refine Ev.pos (by omega) (Ev.neg (by omega) (Ev.pos (by omega) (Ev.pos (by omega) ?_)))
      rw [Int.tdiv_eq_ediv_of_nonneg h0, Int.tmod_eq_emod_of_nonneg h0, w1, w2, e3]
      exact h2
    · refine Ev.step (fun k => by rw [impl_wordOf.l0]) ?_
      refine Ev.pos (by omega) (Ev.neg (by omega) (Ev.pos (by omega) (Ev.pos (by omega) ?_)))
      rw [Int.tdiv_eq_ediv_of_nonneg h0, Int.tmod_eq_emod_of_nonneg h0, w1, w2, e3]
      exact h3
theorem wo_ev {b : Int} (hb : 2 ≤ b) (n : Int) (w : Nat) (h0 : 0 ≤ n) (h1 : n ≤ 4294967296) (hw : w ≤ 8) : Ev (fun k => spec_gpWith.f k n (w : Int) b) (wd b w n) ∧ Ev (fun k => impl_wordOf.f k n (w : Int) b) (wd b w n) := by
  obtain ⟨h2, h3⟩ := wo_l0 hb w [] n h0 h1 (by simp; omega)
  simp only [List.append_nil] at h2 h3
  have w1 : wrap64 ((w : Int) - 1) = (w : Int) - 1 := w64 (by omega) (by omega)
  refine ⟨?_, ?_⟩
  · unfold spec_gpWith.f
    refine Ev.pos (by omega) (Ev.pos (by omega) ?_)
    rw [w1, Int.toNat_natCast]
    exact h2
  · unfold impl_wordOf.f
    refine Ev.pos (by omega) (Ev.pos (by omega) ?_)
    rw [w1, Int.toNat_natCast]
    exact h3

theorem gsum_nonneg {b : Int} (hb : 2 ≤ b ∧ b ≤ 16) (w : Nat) (hw : w ≤ 8) : ∀ (T : List Int) (i : Nat), 2 * (i + T.length) ≤ w → (∀ x ∈ T, 0 ≤ x) → 0 ≤ gsum b w i T := by
  intro T
  induction T with
  | nil => intro i _ _; exact Int.le_refl _
  | cons g t ih =>
    intro i hi hd
    have h1 := ih (i + 1) (by simp at hi; omega) (fun x hx => hd x (List.mem_cons_of_mem _ hx))
    have hg := hd g List.mem_cons_self
    have hlen : 2 * (i + (t.length + 1)) ≤ w := by simpa using hi
    have e : w - 1 - i = i + (w - 1 - i - i) := by omega
    have p1 := (pow_le8 hb (show i ≤ 8 by omega)).1
    have p2 := (pow_le8 hb (show w - 1 - i - i ≤ 8 by omega)).1
    have hd2 : 0 ≤ b ^ (w - 1 - i) - b ^ i := by
      rw [e, Int.pow_add]
      have := Int.mul_le_mul_of_nonneg_left p2 (show 0 ≤ b ^ i by omega)
      omega
    have := Int.mul_nonneg hg hd2
    show 0 ≤ g * (b ^ (w - 1 - i) - b ^ i) + gsum b w (i + 1) t
    omega
theorem gl_nonneg {b : Int} (hb : 2 ≤ b ∧ b ≤ 16) (up : List Int) (hs : up.Pairwise (· ≤ ·)) (hd : ∀ x ∈ up, 0 ≤ x ∧ x < b) : ∀ x ∈ gl up, 0 ≤ x := by
  intro x hx
  obtain ⟨i, hi, rfl⟩ := List.mem_map.mp hx
  rw [List.mem_range] at hi
  have e1 : rd up ((up.length : Int) - 1 - i) = up[up.length - 1 - i]'(by omega) := by
    show up.getD ((up.length : Int) - 1 - i).toNat 0 = _
    rw [show ((up.length : Int) - 1 - i).toNat = up.length - 1 - i by omega, List.getD_eq_getElem?_getD, List.getElem?_eq_getElem (by omega)]
    rfl
  have e2 : rd up (i : Int) = up[i]'(by omega) := by
    show up.getD ((i : Int)).toNat 0 = _
    rw [Int.toNat_natCast, List.getD_eq_getElem?_getD, List.getElem?_eq_getElem (by omega)]
    rfl
  have d1 := hd _ (List.getElem_mem (show up.length - 1 - i < up.length by omega))
  have d2 := hd _ (List.getElem_mem (show i < up.length by omega))
  have hle : up[i]'(by omega) ≤ up[up.length - 1 - i]'(by omega) := by
    by_cases h : i = up.length - 1 - i
    · simp only [← h]; exact Int.le_refl _
    · exact List.pairwise_iff_getElem.mp hs i (up.length - 1 - i) (by omega) (by omega) (by omega)
  rw [e1, e2, w64 (by omega) (by omega)]
  omega

theorem gl_mem {b : Int} (hb : 2 ≤ b ∧ b ≤ 16) (up : List Int) (_h8 : up.length ≤ 8) (hd : ∀ x ∈ up, 0 ≤ x ∧ x < b) : ∀ x ∈ gl up, -16 ≤ x ∧ x ≤ 16 := by
  have hrd : ∀ i : Int, 0 ≤ rd up i ∧ rd up i < b := by
    intro i
    show 0 ≤ up.getD i.toNat 0 ∧ up.getD i.toNat 0 < b
    rw [List.getD_eq_getElem?_getD]
    by_cases h : i.toNat < up.length
    · rw [List.getElem?_eq_getElem h]
      exact hd _ (List.getElem_mem h)
    · rw [List.getElem?_eq_none (by omega)]
      simp; omega
  intro x hx
  obtain ⟨i, _, rfl⟩ := List.mem_map.mp hx
  have h1 := hrd ((up.length : Int) - 1 - i)
  have h2 := hrd (i : Int)
  rw [w64 (by omega) (by omega)]
  omega
theorem gaps_l0 (up : List Int) (hl : up.length ≤ 1000) : ∀ (m i : Nat), i + m = up.length / 2 →
    Ev (fun k => impl_gaps.l0 k up ((List.range i).map fun (j : Nat) => wrap64 (rd up ((up.length : Int) - 1 - j) - rd up (j : Int))) ((up.length / 2 : Nat) : Int) (i : Int)) (gl up) := by
  intro m
  induction m with
  | zero =>
    intro i hi
    refine Ev.step (fun k => by rw [impl_gaps.l0]) ?_
    refine Ev.neg (by omega) (Ev.val ?_)
    unfold gl
    rw [show i = up.length / 2 by omega]
  | succ m ih =>
    intro i hi
    have h := ih (i + 1) (by omega)
    rw [List.range_succ, List.map_append, List.map_cons, List.map_nil] at h
    have w1 : wrap64 (wrap64 ((up.length : Int) - 1) - i) = (up.length : Int) - 1 - i := by
      rw [w64 (show -9223372036854775808 ≤ (up.length : Int) - 1 by omega) (by omega), w64 (by omega) (by omega)]
    have w2 : wrap64 ((i : Int) + 1) = ((i + 1 : Nat) : Int) := by rw [w64 (by omega) (by omega)]; omega
    refine Ev.step (fun k => by rw [impl_gaps.l0]) ?_
    rw [w1, w2]
    refine Ev.pos (by omega) (Ev.pos (by omega) (Ev.pos (by omega) (Ev.pos (by omega) (Ev.pos (by omega) (Ev.pos (by simp; omega) ?_)))))
    exact h
theorem gaps_ev (l : List Int) (h1 : 1 ≤ l.length) (hl : l.length ≤ 1000) : Ev (fun k => impl_gaps.f k l) (gl (slices_Sort_int_int.so l)) := by
  have hlen : (slices_Sort_int_int.so l).length = l.length := (gso_perm l).length_eq
  have hS : Ev (fun k => slices_Sorted_int.f k l) (slices_Sort_int_int.so l) := by
    have e : (fun k => slices_Sorted_int.f k l) = fun _ => some (slices_Sort_int_int.so l) := by
      funext k
      unfold slices_Sorted_int.f
      exact if_pos (by omega)
    rw [e]; exact Ev.now _
  unfold impl_gaps.f
  refine Ev.bind hS ?_
  have hw : wrap64 (((slices_Sort_int_int.so l).length : Int) / 2) = (((slices_Sort_int_int.so l).length / 2 : Nat) : Int) := by
    rw [w64 (by omega) (by omega)]; omega
  rw [hw]
  exact gaps_l0 (slices_Sort_int_int.so l) (by omega) ((slices_Sort_int_int.so l).length / 2) 0 (by omega)

/-- the value of the sorted step of a word -/
def sv (b : Int) (u : List Int) : Int := vl b 0 (slices_Sort_int_int.so u).reverse - vl b 0 (slices_Sort_int_int.so u)
theorem sv_ev {b : Int} (hb : 2 ≤ b ∧ b ≤ 16) (u : List Int) (h1 : 1 ≤ u.length) (h8 : u.length ≤ 8) (hd : ∀ x ∈ u, 0 ≤ x ∧ x < b) :
    0 ≤ sv b u ∧ sv b u < b ^ u.length ∧ Ev (fun k => spec_gpStep.f k u b) (wd b u.length (sv b u)) ∧ Ev (fun k => impl_step.f k (vl b 0 u) (u.length : Int) b) (sv b u) := by
  have hso := dgSorted_ev u (by omega)
  have hgp := gaps_ev u h1 (by omega)
  have hsd := gso_sorted u
  have hlen : (slices_Sort_int_int.so u).length = u.length := (gso_perm u).length_eq
  have hmem : ∀ x ∈ slices_Sort_int_int.so u, 0 ≤ x ∧ x < b := fun x hx => hd x ((gso_perm u).mem_iff.mp hx)
  unfold sv
  generalize slices_Sort_int_int.so u = up at hso hgp hsd hlen hmem ⊢
  have hmr : ∀ x ∈ up.reverse, 0 ≤ x ∧ x < b := fun x hx => hmem x (List.mem_reverse.mp hx)
  have hbk := back_ev up (by omega)
  have v1 := gpv_ev hb up.reverse (by simp; omega) hmr
  have v2 := gpv_ev hb up (by omega) hmem
  have b1 := vl_bd hb up.reverse 0 1 (by omega) (by omega) hmr
  have b2 := vl_bd hb up 0 1 (by omega) (by omega) hmem
  have b3 := vl_bd hb u 0 1 (by omega) (by omega) hd
  rw [List.length_reverse] at b1
  have hp := (pow_le8 hb (show u.length ≤ 8 by omega)).2
  have halg := gap_alg hb up (by omega) (by omega) hmem
  have hgs := byg_ev hb up.length (by omega) (gl up) (by simp [gl]; omega) (by simp [gl]; omega) (gl_mem hb up (by omega) hmem)
  have hge : 0 ≤ gsum b up.length 0 (gl up) := gsum_nonneg hb up.length (by omega) (gl up) 0 (by simp [gl]; omega) (gl_nonneg hb up hsd hmem)
  rw [← halg] at hgs hge
  rw [hlen] at hgs b1 b2
  have hwd := wd_vl hb.1 u hd
  generalize vl b 0 up.reverse = V1 at *
  generalize vl b 0 up = V2 at *
  generalize hV0 : vl b 0 u = V0 at *
  generalize hq : b ^ u.length = q at *
  obtain ⟨w1, _⟩ := wo_ev hb.1 (V1 - V2) u.length (by omega) (by omega) h8
  obtain ⟨_, w4⟩ := wo_ev hb.1 V0 u.length (by omega) (by omega) h8
  rw [hwd] at w4
  refine ⟨by omega, by omega, ?_, ?_⟩
  · unfold spec_gpStep.f
    refine Ev.bind hso (Ev.bind hbk (Ev.bind v1 (Ev.bind v2 ?_)))
    rw [w64 (show -9223372036854775808 ≤ V1 - V2 by omega) (by omega)]
    exact Ev.bind w1 (Ev.now _)
  · unfold impl_step.f
    exact Ev.bind w4 (Ev.bind hgp (Ev.bind hgs (Ev.now _)))

theorem pigeon : ∀ (M : Nat) (l : List Int), l.Nodup → (∀ x ∈ l, 0 ≤ x ∧ x < (M : Int)) → l.length ≤ M
  | 0, l, _, h => by
    cases l with
    | nil => exact Nat.le_refl _
    | cons a t => have := h a List.mem_cons_self; omega
  | M + 1, l, hn, h => by
    by_cases hm : (M : Int) ∈ l
    · have h1 := pigeon M (l.erase (M : Int)) (hn.erase _) (fun x hx => by
        have hx2 := (hn.mem_erase_iff).mp hx
        have h3 := h x hx2.2
        have h4 : x ≠ (M : Int) := hx2.1
        omega)
      rw [List.length_erase_of_mem hm] at h1
      omega
    · have h1 := pigeon M l hn (fun x hx => by
        have h3 := h x hx
        have h4 : x ≠ (M : Int) := fun e => hm (e ▸ hx)
        omega)
      omega
/-- where a number stands, in a list without repeats -/

theorem same_l0 (A B : List Int) (hl : A.length = B.length) (hL : A.length ≤ 1000) : ∀ (r s pre : List Int) (i : Int), A = pre ++ r → B = pre ++ s → i = (pre.length : Int) → Ev (fun k => spec_l1Same.l0 k A B (A.length : Int) i) (decide (r = s)) := by
  intro r
  induction r with
  | nil =>
    intro s pre i hA hB hi
    have h1 : A.length = pre.length := by rw [hA]; simp
    have h2 : B.length = pre.length + s.length := by rw [hB]; simp
    have hs : s = [] := List.length_eq_zero_iff.mp (by omega)
    subst hs
    refine Ev.step (fun k => by rw [spec_l1Same.l0]) ?_
    exact Ev.neg (by omega) (Ev.val (by simp))
  | cons x r ih =>
    intro s pre i hA hB hi
    have h1 : A.length = pre.length + (r.length + 1) := by rw [hA]; simp
    cases s with
    | nil => have h2 : B.length = pre.length := by rw [hB]; simp
             omega
    | cons y s =>
      have h2 : B.length = pre.length + (s.length + 1) := by rw [hB]; simp
      have hx : rd A i = x := by rw [hA, hi]; exact rd_mid _ _ _
      have hy : rd B i = y := by rw [hB, hi]; exact rd_mid _ _ _
      refine Ev.step (fun k => by rw [spec_l1Same.l0]) ?_
      refine Ev.pos (by omega) (Ev.pos (by omega) (Ev.pos (by omega) (Ev.pos (by omega) ?_)))
      rw [hx, hy]
      by_cases he : x = y
      · subst he
        refine Ev.pos rfl ?_
        have h := ih s (pre ++ [x]) (i + 1) (by rw [hA]; simp) (by rw [hB]; simp) (by simp; omega)
        rw [w64 (by omega) (by omega)]
        simpa using h
      · exact Ev.neg he (Ev.val (by simp [he]))
theorem same_ev {A B : List Int} (hl : A.length = B.length) (hL : A.length ≤ 1000) : Ev (fun k => spec_l1Same.f k A B) (decide (A = B)) := by
  unfold spec_l1Same.f
  exact Ev.pos (by omega) (same_l0 A B hl hL A B [] 0 rfl rfl rfl)
theorem rdL_mid (P : List (List Int)) (a : List Int) (T : List (List Int)) : rd_L1 (P ++ a :: T) (P.length : Int) = a := by simp [rd_L1]
theorem gpf_none (u : List Int) (hu : u.length ≤ 1000) (W : List (List Int)) (hW : W.length ≤ 10000000000) (hw : ∀ x ∈ W, x.length = u.length) (hn : u ∉ W) : ∀ (T P : List (List Int)) (i : Int), W = P ++ T → i = (P.length : Int) → Ev (fun k => spec_gpFind.l0 k u W (W.length : Int) i) (-1) := by
  intro T
  induction T with
  | nil =>
    intro P i hP hi
    have h1 : W.length = P.length := by rw [hP]; simp
    refine Ev.step (fun k => by rw [spec_gpFind.l0]) ?_
    exact Ev.neg (by omega) (Ev.now _)
  | cons a T ih =>
    intro P i hP hi
    have h1 : W.length = P.length + (T.length + 1) := by rw [hP]; simp
    have ha : a ∈ W := by rw [hP]; simp
    have hr : rd_L1 W i = a := by rw [hP, hi]; exact rdL_mid _ _ _
    have hne : a ≠ u := fun e => hn (e ▸ ha)
    have hs := same_ev (A := a) (B := u) (hw a ha) (by rw [hw a ha]; exact hu)
    refine Ev.step (fun k => by rw [spec_gpFind.l0]) ?_
    refine Ev.pos (by omega) (Ev.pos (by omega) (Ev.pos (by omega) ?_))
    rw [hr]
    refine Ev.bind hs (Ev.neg (by simp [hne]) ?_)
    rw [w64 (by omega) (by omega)]
    exact ih (P ++ [a]) (i + 1) (by rw [hP]; simp) (by simp; omega)
theorem gpf_some (u : List Int) (hu : u.length ≤ 1000) (W A B : List (List Int)) (hWAB : W = A ++ u :: B) (hW : W.length ≤ 10000000000) (hw : ∀ x ∈ W, x.length = u.length) (hn : u ∉ A) : ∀ (T P : List (List Int)) (i : Int), A = P ++ T → i = (P.length : Int) → Ev (fun k => spec_gpFind.l0 k u W (W.length : Int) i) (A.length : Int) := by
  intro T
  induction T with
  | nil =>
    intro P i hP hi
    have h0 : A = P := by simpa using hP
    have h1 : W.length = A.length + (B.length + 1) := by rw [hWAB]; simp
    have hr : rd_L1 W i = u := by rw [hWAB, hi, ← h0]; exact rdL_mid _ _ _
    have hs := same_ev (A := u) (B := u) rfl hu
    have hi2 : i = (A.length : Int) := by rw [h0]; exact hi
    refine Ev.step (fun k => by rw [spec_gpFind.l0]) ?_
    refine Ev.pos (by omega) (Ev.pos (by omega) (Ev.pos (by omega) ?_))
    rw [hr]
    exact Ev.bind hs (Ev.pos (by simp) (Ev.val hi2))
  | cons a T ih =>
    intro P i hP hi
    have h1 : W.length = A.length + (B.length + 1) := by rw [hWAB]; simp
    have h2 : A.length = P.length + (T.length + 1) := by rw [hP]; simp
    have haA : a ∈ A := by rw [hP]; simp
    have ha : a ∈ W := by rw [hWAB]; simp [haA]
    have hr : rd_L1 W i = a := by rw [hWAB, hP, hi]; simp [rd_L1]
    have hne : a ≠ u := fun e => hn (e ▸ haA)
    have hs := same_ev (A := a) (B := u) (hw a ha) (by rw [hw a ha]; exact hu)
    refine Ev.step (fun k => by rw [spec_gpFind.l0]) ?_
    refine Ev.pos (by omega) (Ev.pos (by omega) (Ev.pos (by omega) ?_))
    rw [hr]
    refine Ev.bind hs (Ev.neg (by simp [hne]) ?_)
    rw [w64 (by omega) (by omega)]
    exact ih (P ++ [a]) (i + 1) (by rw [hP]; simp) (by simp; omega)

/-- n, g n, g (g n), .. are W, and what comes next is e -/
def Ch (g : Int → Int) : Int → List Int → Int → Prop
  | n, [], e => n = e
  | n, x :: t, e => x = n ∧ Ch g (g n) t e
theorem ch_app (g : Int → Int) : ∀ (A B : List Int) (n e : Int), Ch g n (A ++ B) e ↔ ∃ m, Ch g n A m ∧ Ch g m B e
  | [], B, n, e => by
    constructor
    · intro h; exact ⟨n, rfl, h⟩
    · rintro ⟨m, h1, h2⟩; obtain rfl : n = m := h1; exact h2
  | x :: A, B, n, e => by
    show x = n ∧ Ch g (g n) (A ++ B) e ↔ ∃ m, (x = n ∧ Ch g (g n) A m) ∧ Ch g m B e
    rw [ch_app g A B (g n) e]
    constructor
    · rintro ⟨h, m, h1, h2⟩; exact ⟨m, ⟨h, h1⟩, h2⟩
    · rintro ⟨m, ⟨h, h1⟩, h2⟩; exact ⟨h, m, h1, h2⟩
theorem ch_snoc {g : Int → Int} {W : List Int} {n e : Int} (h : Ch g n W e) : Ch g n (W ++ [e]) (g e) := (ch_app g W [e] n (g e)).mpr ⟨e, h, rfl, rfl⟩
theorem ch_pre (g : Int → Int) : ∀ (A B : List Int) (n e e' : Int), Ch g n A e → Ch g n B e' → (∃ D, B = A ++ D ∧ Ch g e D e') ∨ (∃ D, A = B ++ D ∧ Ch g e' D e)
  | [], B, n, e, e', h, h' => by obtain rfl : n = e := h; exact .inl ⟨B, rfl, h'⟩
  | x :: A, [], n, e, e', h, h' => by obtain rfl : n = e' := h'; exact .inr ⟨x :: A, rfl, h⟩
  | x :: A, y :: B, n, e, e', h, h' => by
    obtain ⟨rfl, h⟩ := h
    obtain ⟨rfl, h'⟩ := h'
    rcases ch_pre g A B _ e e' h h' with ⟨D, rfl, hD⟩ | ⟨D, rfl, hD⟩
    · exact .inl ⟨D, rfl, hD⟩
    · exact .inr ⟨D, rfl, hD⟩
/-- a cycle, from its first element on -/
def Cy (g : Int → Int) (c : List Int) : Prop := ∃ e t, c = e :: t ∧ Ch g e c e
def Ld (g : Int → Int) (n : Int) (c : List Int) : Prop := ∃ A m, Ch g n A m ∧ m ∈ c
theorem ld_of {g : Int → Int} {n m : Int} {A c : List Int} (h : Ch g n A m) (hl : Ld g m c) : Ld g n c := by
  obtain ⟨B, x, hB, hx⟩ := hl
  exact ⟨A ++ B, x, (ch_app g A B n x).mpr ⟨m, h, hB⟩, hx⟩
theorem cy_reach {g : Int → Int} {c : List Int} (hc : Cy g c) {m x : Int} (hm : m ∈ c) (hx : x ∈ c) : ∃ A, Ch g m A x := by
  obtain ⟨e, t, _, hch⟩ := hc
  obtain ⟨A, B, hA⟩ := List.append_of_mem hm
  obtain ⟨A', B', hA'⟩ := List.append_of_mem hx
  have h1 := hch
  rw [hA] at h1
  obtain ⟨y, _, h2⟩ := (ch_app g A (m :: B) e e).mp h1
  obtain rfl : m = y := h2.1
  have h3 := hch
  rw [hA'] at h3
  obtain ⟨z, h4, h5⟩ := (ch_app g A' (x :: B') e e).mp h3
  obtain rfl : x = z := h5.1
  exact ⟨m :: B ++ A', (ch_app g _ A' m x).mpr ⟨e, h2, h4⟩⟩
theorem cy_next {g : Int → Int} {c : List Int} (hc : Cy g c) {m : Int} (hm : m ∈ c) : g m ∈ c := by
  obtain ⟨e, t, he, hch⟩ := hc
  obtain ⟨A, B, hA⟩ := List.append_of_mem hm
  rw [hA] at hch
  obtain ⟨y, _, h2⟩ := (ch_app g A (m :: B) e e).mp hch
  obtain ⟨rfl, h3⟩ := h2
  cases B with
  | nil => obtain h3 : g m = e := h3; rw [h3, he]; simp
  | cons b B => obtain ⟨h4, _⟩ := h3; rw [hA, ← h4]; simp
theorem cy_stay {g : Int → Int} {c : List Int} (hc : Cy g c) : ∀ (A : List Int) (m x : Int), m ∈ c → Ch g m A x → x ∈ c
  | [], m, x, hm, h => by obtain rfl : m = x := h; exact hm
  | a :: A, m, x, hm, h => cy_stay hc A (g m) x (cy_next hc hm) h.2
/-- two cycles with the same first element -/
theorem cy_det {g : Int → Int} {c c' : List Int} {e : Int} (h : Ch g e c e) (h' : Ch g e c' e) (hn : c.Nodup) (hn' : c'.Nodup) (h0 : c ≠ []) (h0' : c' ≠ []) : c = c' := by
  have key : ∀ {a D : List Int}, Ch g e a e → a ≠ [] → (a ++ D).Nodup → Ch g e D e → D = [] := by
    intro a D ha ha0 hnd hD
    cases D with
    | nil => rfl
    | cons x D =>
      obtain ⟨rfl, _⟩ := hD
      cases a with
      | nil => exact absurd rfl ha0
      | cons y a =>
        obtain ⟨rfl, _⟩ := ha
        simp at hnd
  rcases ch_pre g c c' e e e h h' with ⟨D, rfl, hD⟩ | ⟨D, rfl, hD⟩
  · rw [key h h0 hn' hD, List.append_nil]
  · rw [key h' h0' hn hD, List.append_nil]
/-- the cycle that is told from its least element on -/
def Mc (g : Int → Int) (c : List Int) : Prop := Cy g c ∧ c.Nodup ∧ ∀ x ∈ c, ∀ e t, c = e :: t → e ≤ x
theorem mc_unique {g : Int → Int} {c c' : List Int} {n : Int} (h : Mc g c) (h' : Mc g c') (hl : Ld g n c) (hl' : Ld g n c') : c = c' := by
  have meet : ∃ m, m ∈ c ∧ m ∈ c' := by
    obtain ⟨A, m, hA, hm⟩ := hl
    obtain ⟨A', m', hA', hm'⟩ := hl'
    rcases ch_pre g A A' n m m' hA hA' with ⟨D, _, hD⟩ | ⟨D, _, hD⟩
    · exact ⟨m', cy_stay h.1 D m m' hm hD, hm'⟩
    · exact ⟨m, hm, cy_stay h'.1 D m' m hm' hD⟩
  obtain ⟨m, hm, hm'⟩ := meet
  have sub : ∀ x ∈ c, x ∈ c' := fun x hx => by
    obtain ⟨A, hA⟩ := cy_reach h.1 hm hx
    exact cy_stay h'.1 A m x hm' hA
  have sub' : ∀ x ∈ c', x ∈ c := fun x hx => by
    obtain ⟨A, hA⟩ := cy_reach h'.1 hm' hx
    exact cy_stay h.1 A m x hm hA
  obtain ⟨e, t, he, hch⟩ := h.1
  obtain ⟨e', t', he', hch'⟩ := h'.1
  have e1 : e ≤ e' := h.2.2 e' (sub' e' (by rw [he']; simp)) e t he
  have e2 : e' ≤ e := h'.2.2 e (sub e (by rw [he]; simp)) e' t' he'
  obtain rfl : e = e' := by omega
  exact cy_det hch hch' h.2.1 h'.2.1 (by rw [he]; simp) (by rw [he']; simp)
/-- a cycle told from another of its elements on -/
theorem cy_turn {g : Int → Int} {c : List Int} (hc : Cy g c) (k : Nat) (hk : k < c.length) : Cy g (c.drop k ++ c.take k) := by
  obtain ⟨e, t, _, hch⟩ := hc
  have hd := List.drop_eq_getElem_cons hk
  have h := hch
  rw [← List.take_append_drop k c] at h
  obtain ⟨m, h1, h2⟩ := (ch_app g _ _ e e).mp h
  rw [hd] at h2
  obtain ⟨hm, h3⟩ := h2
  refine ⟨m, c.drop (k + 1) ++ c.take k, by rw [hd, hm]; rfl, (ch_app g _ _ m m).mpr ⟨e, ?_, h1⟩⟩
  rw [hd]
  exact ⟨hm, h3⟩

theorem min_l0 (V : List Int) (hV : V.length ≤ 4611686018427387904) (k : Nat) (hk : k < V.length) (h1 : ∀ j : Nat, j < V.length → rd V (k : Int) ≤ rd V (j : Int)) : ∀ (m : Nat) (x i : Int), 0 ≤ i → i ≤ V.length → ((V.length : Int) - i).toNat < m → rd V (k : Int) ≤ x → ((k : Int) < i → x = rd V (k : Int)) →
    Ev (fun n => slices_Min_int_int.l0 n V x i) (rd V (k : Int))
  | 0, _, _, _, _, h, _, _ => by omega
  | m + 1, x, i, h0, hi, hm, hx, hx2 => by
    by_cases hlt : i < (V.length : Int)
    · refine Ev.step (fun n => by rw [slices_Min_int_int.l0]) (Ev.pos hlt (Ev.pos h0 ?_))
      rw [w64 (x := i + 1) (by omega) (by omega)]
      obtain ⟨j, rfl⟩ : ∃ j : Nat, i = (j : Int) := ⟨i.toNat, by omega⟩
      have hj := h1 j (by omega)
      refine min_l0 V hV k hk h1 m _ _ (by omega) (by omega) (by omega) ?_ (fun hkj => ?_)
      · unfold mn; split <;> omega
      · by_cases e : k = j
        · subst e; unfold mn; split <;> omega
        · have := hx2 (by omega); unfold mn; split <;> omega
    · have := hx2 (by omega)
      exact Ev.step (fun n => by rw [slices_Min_int_int.l0]) (Ev.neg hlt (Ev.val this))
theorem idx_l0 (V : List Int) (hV : V.length ≤ 4611686018427387904) (k : Nat) (hk : k < V.length) (h2 : ∀ j : Nat, j < k → rd V (j : Int) ≠ rd V (k : Int)) : ∀ (m : Nat) (i : Int), 0 ≤ i → i ≤ k → ((k : Int) - i).toNat < m →
    Ev (fun n => slices_Index_int_int.l0 n V (rd V (k : Int)) (V.length : Int) i) (k : Int)
  | 0, _, _, _, h => by omega
  | m + 1, i, h0, hi, hm => by
    refine Ev.step (fun n => by rw [slices_Index_int_int.l0]) (Ev.pos (by omega) (Ev.pos h0 (Ev.pos (by omega) ?_)))
    obtain ⟨j, rfl⟩ : ∃ j : Nat, i = (j : Int) := ⟨i.toNat, by omega⟩
    by_cases e : j = k
    · subst e; exact Ev.pos rfl (Ev.now _)
    · refine Ev.neg (fun h => h2 j (by omega) h.symm) ?_
      rw [w64 (x := (j : Int) + 1) (by omega) (by omega)]
      exact idx_l0 V hV k hk h2 m _ (by omega) (by omega) (by omega)
theorem rdL_0 (a b : List Int) : rd_L1 [a, b] 0 = a := rfl
theorem rdL_1 (a b : List Int) : rd_L1 [a, b] 1 = b := rfl
theorem concat_ev (a b : List Int) (hl : a.length + b.length ≤ 5000000000) : Ev (fun n => slices_Concat_int_int.f n [a, b]) (a ++ b) := by
  unfold slices_Concat_int_int.f
  have e2 : (([a, b] : List (List Int)).length : Int) = 2 := rfl
  rw [e2]
  refine Ev.step (fun n => by rw [slices_Concat_int_int.l0]) (Ev.pos (by omega) (Ev.pos (by omega) (Ev.pos (by rw [e2]; omega) ?_)))
  rw [rdL_0, w64 (x := 0 + (a.length : Int)) (by omega) (by omega)]
  refine Ev.neg (by omega) ?_
  rw [w64 (x := (0 : Int) + 1) (by omega) (by omega)]
  refine Ev.step (fun n => by rw [slices_Concat_int_int.l0]) (Ev.pos (by omega) (Ev.pos (by omega) (Ev.pos (by rw [e2]; omega) ?_)))
  rw [show (0 : Int) + 1 = 1 from rfl, rdL_1, w64 (x := 0 + (a.length : Int) + (b.length : Int)) (by omega) (by omega)]
  refine Ev.neg (by omega) ?_
  rw [w64 (x := (1 : Int) + 1) (by omega) (by omega)]
  refine Ev.step (fun n => by rw [slices_Concat_int_int.l0]) (Ev.neg (by omega) ?_)
  have hg : slices_Grow_int_int.f ([] : List Int) (0 + (a.length : Int) + (b.length : Int)) = some [] := by unfold slices_Grow_int_int.f; rw [if_pos ⟨rfl, by omega, by omega⟩]
  refine Ev.pure hg ?_
  rw [e2]
  refine Ev.step (fun n => by rw [slices_Concat_int_int.l1]) (Ev.pos (by omega) (Ev.pos (by omega) (Ev.pos (by rw [e2]; omega) ?_)))
  rw [rdL_0]
  refine Ev.pos (by simp; omega) ?_
  rw [w64 (x := (0 : Int) + 1) (by omega) (by omega)]
  refine Ev.step (fun n => by rw [slices_Concat_int_int.l1]) (Ev.pos (by omega) (Ev.pos (by omega) (Ev.pos (by rw [e2]; omega) ?_)))
  rw [show (0 : Int) + 1 = 1 from rfl, rdL_1]
  refine Ev.pos (by simp; omega) ?_
  rw [w64 (x := (1 : Int) + 1) (by omega) (by omega)]
  exact Ev.step (fun n => by rw [slices_Concat_int_int.l1]) (Ev.neg (by omega) (Ev.val (by simp)))
theorem lf_ev (V : List Int) (hV : V.length ≤ 4294967296) (k : Nat) (hk : k < V.length) (h1 : ∀ j : Nat, j < V.length → rd V (k : Int) ≤ rd V (j : Int)) (h2 : ∀ j : Nat, j < k → rd V (j : Int) ≠ rd V (k : Int)) : Ev (fun n => impl_leastFirst.f n V) (V.drop k ++ V.take k) := by
  unfold impl_leastFirst.f
  have hm : Ev (fun n => slices_Min_int_int.f n V) (rd V (k : Int)) := by
    unfold slices_Min_int_int.f
    refine Ev.neg (by omega) (Ev.pos (by omega) ?_)
    refine min_l0 V (by omega) k hk h1 _ _ 1 (by omega) (by omega) (Nat.lt_succ_self _) ?_ (fun h => ?_)
    · exact h1 0 (by omega)
    · have : k = 0 := by omega
      subst this; rfl
  have hi : Ev (fun n => slices_Index_int_int.f n V (rd V (k : Int))) (k : Int) := by
    unfold slices_Index_int_int.f
    exact idx_l0 V (by omega) k hk h2 _ 0 (by omega) (by omega) (Nat.lt_succ_self _)
  refine Ev.bind hm (Ev.bind hi (Ev.pos (by omega) (Ev.pos (by omega) ?_)))
  rw [Int.toNat_natCast]
  exact Ev.bind (concat_ev _ _ (by rw [List.length_drop, List.length_take]; omega)) (Ev.now _)

theorem rdL_map (b : Int) (C : List (List Int)) (j : Nat) (hj : j < C.length) : vl b 0 (rd_L1 C (j : Int)) = rd (C.map (vl b 0)) (j : Int) := by
  simp [rd_L1, rd, hj]
theorem rdL_mem (C : List (List Int)) (j : Nat) (hj : j < C.length) : rd_L1 C (j : Int) ∈ C := by
  simp [rd_L1, hj]
theorem cyc_l1 (C : List (List Int)) (hC : C.length ≤ 4294967296) (k : Nat) (hk : k < C.length) : ∀ (m i : Nat), i + m = C.length → Ev (fun n => spec_gpCycle.l1 n C (k : Int) ((C.drop k ++ C.take k).take i) (C.length : Int) (i : Int)) (C.drop k ++ C.take k)
  | 0, i, hi => by
    refine Ev.step (fun n => by rw [spec_gpCycle.l1]) (Ev.neg (by omega) (Ev.val ?_))
    apply List.take_of_length_le
    rw [List.length_append, List.length_drop, List.length_take]; omega
  | m + 1, i, hi => by
    have e1 : wrap64 ((k : Int) + (i : Int)) = (k : Int) + i := w64 (by omega) (by omega)
    have e2 : Int.tmod ((k : Int) + i) (C.length : Int) = (((k + i) % C.length : Nat) : Int) := by
      rw [Int.tmod_eq_emod_of_nonneg (by omega)]; simp
    have hlt := Nat.mod_lt (k + i) (show 0 < C.length by omega)
    refine Ev.step (fun n => by rw [spec_gpCycle.l1]) (Ev.pos (by omega) (Ev.neg (by omega) ?_))
    rw [e1, e2]
    refine Ev.pos (by omega) (Ev.pos (by omega) (Ev.pos (by rw [List.length_take, List.length_append, List.length_drop, List.length_take]; omega) ?_))
    rw [w64 (x := (i : Int) + 1) (by omega) (by omega)]
    have e3 : (C.drop k ++ C.take k).take i ++ [rd_L1 C (((k + i) % C.length : Nat) : Int)] = (C.drop k ++ C.take k).take (i + 1) := by
      have hlen : i < (C.drop k ++ C.take k).length := by rw [List.length_append, List.length_drop, List.length_take]; omega
      rw [List.take_succ_eq_append_getElem hlen]
      congr 2
      rw [List.getElem_append]
      split
      · rename_i h
        rw [List.length_drop] at h
        rw [List.getElem_drop]
        have : (k + i) % C.length = k + i := Nat.mod_eq_of_lt (by omega)
        simp only [this, rd_L1, Int.toNat_natCast]
        rw [List.getD_eq_getElem?_getD, List.getElem?_eq_getElem (by omega)]; rfl
      · rename_i h
        rw [List.length_drop] at h
        rw [List.getElem_take]
        have : (k + i) % C.length = i - (C.length - k) := by
          rw [Nat.mod_eq_sub_mod (by omega), Nat.mod_eq_of_lt (by omega)]; omega
        simp only [this, rd_L1, Int.toNat_natCast, List.length_drop]
        rw [List.getD_eq_getElem?_getD, List.getElem?_eq_getElem (by omega)]; rfl
    rw [e3]
    exact cyc_l1 C hC k hk m (i + 1) (by omega)
/-- which of a cycle's words the reference takes first -/
theorem cyc_l0 {b : Int} (C : List (List Int)) (hC : C.length ≤ 4294967296) (hv : ∀ j : Nat, j < C.length → Ev (fun n => spec_gpValue.f n (rd_L1 C (j : Int)) b) (rd (C.map (vl b 0)) (j : Int))) : ∀ (m i k : Nat), i + m = C.length → k < C.length → (∀ j, j < i → rd (C.map (vl b 0)) (k : Int) ≤ rd (C.map (vl b 0)) (j : Int)) → (∀ j, j < k → rd (C.map (vl b 0)) (k : Int) < rd (C.map (vl b 0)) (j : Int)) → k ≤ i →
    ∃ k' : Nat, k' < C.length ∧ (∀ j, j < C.length → rd (C.map (vl b 0)) (k' : Int) ≤ rd (C.map (vl b 0)) (j : Int)) ∧ (∀ j, j < k' → rd (C.map (vl b 0)) (k' : Int) < rd (C.map (vl b 0)) (j : Int)) ∧ ∀ r, Ev (fun n => spec_gpCycle.l1 n C (k' : Int) [] (C.length : Int) 0) r → Ev (fun n => spec_gpCycle.l0 n b C (k : Int) C (C.length : Int) (i : Int)) r
  | 0, i, k, hi, hk, h1, h2, h3 => ⟨k, hk, fun j hj => h1 j (by omega), h2, fun r hr => Ev.step (fun n => by rw [spec_gpCycle.l0]) (Ev.neg (by omega) hr)⟩
  | m + 1, i, k, hi, hk, h1, h2, h3 => by
    have hvi := hv i (by omega)
    have hvk := hv k hk
    by_cases hlt : rd (C.map (vl b 0)) (i : Int) < rd (C.map (vl b 0)) (k : Int)
    · obtain ⟨k', g1, g2, g3, g4⟩ := cyc_l0 C hC hv m (i + 1) i (by omega) (by omega) (fun j hj => by
          by_cases e : j = i
          · subst e; omega
          · have := h1 j (by omega); omega) (fun j hj => by have := h1 j hj; omega) (by omega)
      refine ⟨k', g1, g2, g3, fun r hr => ?_⟩
      refine Ev.step (fun n => by rw [spec_gpCycle.l0]) (Ev.pos (by omega) (Ev.pos (by omega) (Ev.pos (by omega) (Ev.bind hvi ?_))))
      refine Ev.pos (by omega) (Ev.pos (by omega) (Ev.bind hvk ?_))
      refine Ev.pos hlt ?_
      rw [w64 (x := (i : Int) + 1) (by omega) (by omega)]
      exact g4 r hr
    · obtain ⟨k', g1, g2, g3, g4⟩ := cyc_l0 C hC hv m (i + 1) k (by omega) hk (fun j hj => by
          by_cases e : j = i
          · subst e; omega
          · exact h1 j (by omega)) h2 (by omega)
      refine ⟨k', g1, g2, g3, fun r hr => ?_⟩
      refine Ev.step (fun n => by rw [spec_gpCycle.l0]) (Ev.pos (by omega) (Ev.pos (by omega) (Ev.pos (by omega) (Ev.bind hvi ?_))))
      refine Ev.pos (by omega) (Ev.pos (by omega) (Ev.bind hvk ?_))
      refine Ev.neg hlt ?_
      rw [w64 (x := (i : Int) + 1) (by omega) (by omega)]
      exact g4 r hr

def gf (b : Int) (w : Nat) (v : Int) : Int := sv b (wd b w v)
def okw (b : Int) (w : Nat) (u : List Int) : Prop := u.length = w ∧ ∀ x ∈ u, 0 ≤ x ∧ x < b
theorem vl_inj {b : Int} (hb : 2 ≤ b) {w : Nat} {x y : List Int} (hx : okw b w x) (hy : okw b w y) (h : vl b 0 x = vl b 0 y) : x = y := by
  rw [← wd_vl hb x hx.2, ← wd_vl hb y hy.2, hx.1, hy.1, h]
theorem vl_rng {b : Int} (hb : 2 ≤ b ∧ b ≤ 16) {w : Nat} {x : List Int} (hx : okw b w x) : 0 ≤ vl b 0 x ∧ vl b 0 x < b ^ w := by
  have := vl_bd hb x 0 1 (by omega) (by omega) hx.2
  rw [hx.1] at this
  omega
theorem gf_vl {b : Int} (hb : 2 ≤ b) {w : Nat} {u : List Int} (hu : okw b w u) : gf b w (vl b 0 u) = sv b u := by
  have := wd_vl hb u hu.2
  rw [hu.1] at this
  unfold gf
  rw [this]
theorem runc_ev {b : Int} (hb : 2 ≤ b ∧ b ≤ 16) {w : Nat} (hw : 1 ≤ w ∧ w ≤ 8) (n0 : Int) : ∀ (m : Nat) (W : List (List Int)) (u : List Int), (b ^ w).toNat - W.length < m → (∀ x ∈ W, okw b w x) → okw b w u → (W.map (vl b 0)).Nodup → Ch (gf b w) n0 (W.map (vl b 0)) (vl b 0 u) →
    ∃ (W' : List (List Int)) (at_ : Nat), W'.length ≤ 4294967296 ∧ Ev (fun k => spec_gpRun.l0 k b W u) (W', (at_ : Int)) ∧ at_ < W'.length ∧ (∀ x ∈ W', okw b w x) ∧ (W'.map (vl b 0)).Nodup ∧ ∃ e t, Ch (gf b w) n0 (W'.map (vl b 0)) e ∧ (W'.map (vl b 0)).drop at_ = e :: t := by
  intro m
  induction m with
  | zero => intro W u h; omega
  | succ m ih =>
    intro W u hm hW hu hn hch
    have hp := (pow_le8 hb hw.2).2
    have hM : ∀ x ∈ W.map (vl b 0), 0 ≤ x ∧ x < ((b ^ w).toNat : Int) := by
      intro x hx
      obtain ⟨y, hy, rfl⟩ := List.mem_map.mp hx
      have := vl_rng hb (hW y hy)
      omega
    have hlen := pigeon (b ^ w).toNat _ hn hM
    rw [List.length_map] at hlen
    have hru := vl_rng hb hu
    have hwl : ∀ x ∈ W, x.length = u.length := fun x hx => (hW x hx).1.trans hu.1.symm
    by_cases hmem : u ∈ W
    · obtain ⟨A, B, hAB⟩ := List.append_of_mem hmem
      have hn2 := hn
      rw [hAB, List.map_append, List.map_cons] at hn2
      obtain ⟨_, hc, hd⟩ := List.nodup_append.mp hn2
      have hA : u ∉ A := fun h => hd _ (List.mem_map.mpr ⟨u, h, rfl⟩) _ List.mem_cons_self rfl
      have hf : Ev (fun k => spec_gpFind.f k W u) (A.length : Int) := gpf_some u (by rw [hu.1]; omega) W A B hAB (by omega) hwl hA A [] 0 rfl rfl
      refine ⟨W, A.length, by omega, ?_, by rw [hAB, List.length_append, List.length_cons]; omega, hW, hn, vl b 0 u, B.map (vl b 0), hch, ?_⟩
      · refine Ev.step (fun k => by rw [spec_gpRun.l0]) ?_
        exact Ev.bind hf (Ev.neg (by omega) (Ev.bind hf (Ev.now _)))
      · rw [hAB]
        simp
    · have hnm : vl b 0 u ∉ W.map (vl b 0) := by
        intro h
        obtain ⟨y, hy, e⟩ := List.mem_map.mp h
        exact hmem (vl_inj hb.1 (hW y hy) hu e ▸ hy)
      have hf : Ev (fun k => spec_gpFind.f k W u) (-1) := gpf_none u (by rw [hu.1]; omega) W (by omega) hwl hmem W [] 0 rfl rfl
      obtain ⟨s0, s1, s2, s3⟩ := sv_ev hb u (by rw [hu.1]; omega) (by rw [hu.1]; omega) hu.2
      rw [hu.1] at s1 s2 s3
      have hu2 : okw b w (wd b w (sv b u)) := ⟨wd_len b w _, wd_mem hb.1 w _⟩
      have hv2 : vl b 0 (wd b w (sv b u)) = sv b u := vl_wd hb.1 w _ s0 s1
      have hn3 : ((W ++ [u]).map (vl b 0)).Nodup := by
        rw [List.map_append, List.map_cons, List.map_nil]
        refine List.nodup_append.mpr ⟨hn, by simp, fun a ha c hc e => ?_⟩
        rw [List.mem_singleton] at hc
        exact hnm (hc ▸ e ▸ ha)
      have hW3 : ∀ x ∈ W ++ [u], okw b w x := fun x hx => by
        rcases List.mem_append.mp hx with h | h
        · exact hW x h
        · rw [List.mem_singleton] at h; exact h ▸ hu
      have hlen3 := pigeon (b ^ w).toNat _ hn3 (fun x hx => by
        obtain ⟨y, hy, rfl⟩ := List.mem_map.mp hx
        have := vl_rng hb (hW3 y hy)
        omega)
      rw [List.length_map, List.length_append, List.length_singleton] at hlen3
      have hch3 : Ch (gf b w) n0 ((W ++ [u]).map (vl b 0)) (vl b 0 (wd b w (sv b u))) := by
        rw [hv2, ← gf_vl hb.1 hu, List.map_append]
        exact ch_snoc hch
      obtain ⟨W', at_, g1, g3, g5⟩ := ih (W ++ [u]) (wd b w (sv b u)) (by simp; omega) hW3 hu2 hn3 hch3
      refine ⟨W', at_, g1, ?_, g5⟩
      refine Ev.step (fun k => by rw [spec_gpRun.l0]) ?_
      exact Ev.bind hf (Ev.pos (by omega) (Ev.pos (by omega) (Ev.bind s2 g3)))
theorem cyc_ev {b : Int} (hb : 2 ≤ b ∧ b ≤ 16) {w : Nat} (hw : 1 ≤ w ∧ w ≤ 8) (l : List Int) (hl : okw b w l) :
    ∃ C : List (List Int), C ≠ [] ∧ C.length ≤ 4294967296 ∧ (∀ x ∈ C, okw b w x) ∧ Ev (fun n => spec_gpCycle.f n l b) C ∧ Mc (gf b w) (C.map (vl b 0)) ∧ Ld (gf b w) (vl b 0 l) (C.map (vl b 0)) := by
  obtain ⟨W, at_, g1, g3, g5, g6, g7, e, t, hch, hdr⟩ := runc_ev hb hw (vl b 0 l) ((b ^ w).toNat + 1) [] l (by simp) (fun x hx => by simp at hx) hl List.nodup_nil rfl
  have hC6 : ∀ x ∈ W.drop at_, okw b w x := fun x hx => g6 x (List.mem_of_mem_drop hx)
  have hCl : (W.drop at_).length = W.length - at_ := List.length_drop
  have hmd : (W.map (vl b 0)).drop at_ = (W.drop at_).map (vl b 0) := by rw [List.map_drop]
  have hCn : ((W.drop at_).map (vl b 0)).Nodup := by
    rw [← hmd]
    exact g7.sublist (List.drop_sublist _ _)
  have hcy : Ch (gf b w) (vl b 0 l) ((W.map (vl b 0)).take at_) e ∧ Ch (gf b w) e ((W.drop at_).map (vl b 0)) e := by
    have h := hch
    rw [← List.take_append_drop at_ (W.map (vl b 0))] at h
    obtain ⟨m, h1, h2⟩ := (ch_app _ _ _ _ _).mp h
    have h3 := h2
    rw [hdr] at h3
    obtain rfl : e = m := h3.1
    exact ⟨h1, hmd ▸ h2⟩
  obtain ⟨hpre, hcy⟩ := hcy
  rw [hmd] at hdr
  generalize hCd : W.drop at_ = C0 at hC6 hCl hCn hcy hdr
  have hv : ∀ j : Nat, j < C0.length → Ev (fun n => spec_gpValue.f n (rd_L1 C0 (j : Int)) b) (rd (C0.map (vl b 0)) (j : Int)) := fun j hj => by
    have h := hC6 _ (rdL_mem C0 j hj)
    rw [← rdL_map b C0 j hj]
    exact gpv_ev hb _ (by rw [h.1]; exact hw.2) h.2
  obtain ⟨k, k1, k2, k3, k4⟩ := cyc_l0 C0 (by omega) hv C0.length 0 0 (by omega) (by omega) (fun j hj => by omega) (fun j hj => by omega) (Nat.le_refl _)
  have hperm : (C0.drop k ++ C0.take k).Perm C0 := by
    have : (C0.drop k ++ C0.take k).Perm (C0.take k ++ C0.drop k) := List.perm_append_comm
    rwa [List.take_append_drop] at this
  have hpm := hperm.map (vl b 0)
  refine ⟨C0.drop k ++ C0.take k, ?_, ?_, ?_, ?_, ?_, ?_⟩
  · intro h
    have := hperm.length_eq
    rw [h] at this
    simp at this
    omega
  · rw [hperm.length_eq]; omega
  · intro x hx
    exact hC6 x (hperm.mem_iff.mp hx)
  · unfold spec_gpCycle.f
    have hr : Ev (fun n => spec_gpRun.f n l b) (W, (at_ : Int)) := by
      unfold spec_gpRun.f
      exact Ev.pure (own_eq l (by rw [hl.1]; omega)) g3
    refine Ev.bind hr (Ev.pos (by omega) (Ev.pos (by show (at_ : Int) ≤ (W.length : Int); omega) ?_))
    show Ev (fun n => (some (W.drop (at_ : Int).toNat : List (List Int))).bind fun y => spec_gpCycle.l0 n b y 0 y (y.length : Int) 0) _
    rw [Int.toNat_natCast, hCd]
    refine Ev.pure rfl (k4 _ ?_)
    have := cyc_l1 C0 (by omega) k k1 C0.length 0 (by omega)
    rw [List.take_zero] at this
    exact this
  · refine ⟨?_, hpm.nodup_iff.mpr hCn, ?_⟩
    · rw [List.map_append, List.map_drop, List.map_take]
      exact cy_turn ⟨e, t, hdr, hcy⟩ k (by rw [List.length_map]; exact k1)
    · intro x hx e' t' he'
      obtain ⟨j, hj, rfl⟩ := List.mem_iff_getElem.mp (hpm.mem_iff.mp hx)
      have hj' : j < C0.length := by simpa using hj
      have h2 := k2 j hj'
      have hh : e' = rd (C0.map (vl b 0)) (k : Int) := by
        rw [List.map_append, List.drop_eq_getElem_cons k1, List.map_cons, List.cons_append] at he'
        injection he' with h1 _
        rw [← h1]
        simp [rd, k1]
      have hx' : (C0.map (vl b 0))[j] = rd (C0.map (vl b 0)) (j : Int) := by simp [rd, hj']
      rw [hh, hx']
      exact h2
  · refine ⟨_, e, hpre, hpm.mem_iff.mpr ?_⟩
    rw [hdr]
    simp

theorem gl_zeros {b : Int} (hb : 2 ≤ b ∧ b ≤ 16) {w : Nat} (_hw : 1 ≤ w ∧ w ≤ 8) (G : List Int) (hl : G.length = w / 2) (hd : ∀ x ∈ G, 0 ≤ x ∧ x < b) (hs : G.Pairwise (fun x y => y ≤ x)) :
    gl (slices_Sort_int_int.so (G ++ List.replicate (w - w / 2) 0)) = G := by
  have hso : slices_Sort_int_int.so (G ++ List.replicate (w - w / 2) 0) = List.replicate (w - w / 2) 0 ++ G.reverse := by
    refine List.Perm.eq_of_pairwise (le := fun a b : Int => a ≤ b) (fun a b _ _ h1 h2 => Int.le_antisymm h1 h2) (gso_sorted _) ?_ ((gso_perm _).trans ?_)
    · rw [List.pairwise_append]
      refine ⟨List.pairwise_replicate.mpr (.inr (by omega)), ?_, fun a ha c hc => ?_⟩
      · rw [List.pairwise_reverse]; exact hs
      · have h1 := (List.mem_replicate.mp ha).2
        have h2 := hd c (by simpa using hc)
        omega
    · exact List.perm_append_comm.trans ((List.reverse_perm G).symm.append_left _)
  rw [hso]
  unfold gl
  apply List.ext_getElem
  · simp
    omega
  · intro i h1 h2
    have hi : i < G.length := h2
    simp only [List.getElem_map, List.getElem_range]
    have hlen : (List.replicate (w - w / 2) (0 : Int) ++ G.reverse).length = w := by simp; omega
    rw [hlen]
    have e1 : rd (List.replicate (w - w / 2) 0 ++ G.reverse) ((w : Int) - 1 - i) = G[i] := by
      have e : ((w : Int) - 1 - i).toNat = w - 1 - i := by omega
      show (List.replicate (w - w / 2) 0 ++ G.reverse).getD ((w : Int) - 1 - i).toNat 0 = _
      rw [e, List.getD_eq_getElem?_getD, List.getElem?_append_right (by simp; omega), List.length_replicate, List.getElem?_reverse (by omega)]
      have e2 : G.length - 1 - (w - 1 - i - (w - w / 2)) = i := by omega
      rw [e2, List.getElem?_eq_getElem hi]
      rfl
    have e2 : rd (List.replicate (w - w / 2) 0 ++ G.reverse) (i : Int) = 0 := by
      show (List.replicate (w - w / 2) 0 ++ G.reverse).getD ((i : Int)).toNat 0 = _
      rw [Int.toNat_natCast, List.getD_eq_getElem?_getD, List.getElem?_append_left (by simp; omega), List.getElem?_replicate]
      split <;> rfl
    rw [e1, e2]
    have := hd _ (List.getElem_mem hi)
    rw [w64 (by omega) (by omega)]
    omega
theorem gpBy_l0 (b : Int) (w : Nat) (hw : 1 ≤ w ∧ w ≤ 8) (G : List Int) (hl : G.length = w / 2) (r : List Int) (h : Ev (fun k => spec_gpStep.f k (G ++ List.replicate (w - w / 2) 0) b) r) :
    ∀ (m i : Nat), i + m = G.length → Ev (fun k => spec_gpBy.l0 k b (G.take i ++ List.replicate (w - i) 0) G (G.length : Int) (i : Int)) r
  | 0, i, hi => by
    refine Ev.step (fun k => by rw [spec_gpBy.l0]) (Ev.neg (by omega) ?_)
    rw [List.take_of_length_le (by omega), show w - i = w - w / 2 by omega]
    exact Ev.bind h (Ev.now _)
  | m + 1, i, hi => by
    have hiG : i < G.length := by omega
    have ih := gpBy_l0 b w hw G hl r h m (i + 1) (by omega)
    refine Ev.step (fun k => by rw [spec_gpBy.l0]) (Ev.pos (by omega) (Ev.pos (by omega) (Ev.pos (by omega) (Ev.pos (by simp; omega) ?_))))
    rw [w64 (x := (i : Int) + 1) (by omega) (by omega)]
    have e : (G.take i ++ List.replicate (w - i) 0).set (i : Int).toNat (rd G (i : Int)) = G.take (i + 1) ++ List.replicate (w - (i + 1)) 0 := by
      have e1 : rd G (i : Int) = G[i] := by simp [rd, hiG]
      rw [e1, Int.toNat_natCast, List.set_append_right _ _ (by simp; omega), List.take_succ_eq_append_getElem hiG]
      have e2 : w - i = (w - (i + 1)) + 1 := by omega
      have e3 : i - (G.take i).length = 0 := by simp; omega
      rw [e2, e3, List.replicate_succ, List.append_assoc]
      rfl
    rw [e]
    exact ih
theorem gapw {b : Int} (hb : 2 ≤ b ∧ b ≤ 16) {w : Nat} (hw : 1 ≤ w ∧ w ≤ 8) (G : List Int) (hG : G ∈ AG.dn (w / 2) (b.toNat - 1)) :
    ∃ u, okw b w u ∧ Ev (fun k => spec_gpBy.f k G (w : Int) b) u ∧ Ev (fun k => impl_byGaps.f k G (w : Int) b) (vl b 0 u) := by
  obtain ⟨hl, hd, hs⟩ := (AG.dn_iff _ _ G).mp hG
  have hd' : ∀ x ∈ G, 0 ≤ x ∧ x < b := fun x hx => by have := hd x hx; omega
  have hgl := gl_zeros hb hw G hl hd' hs
  have hz : okw b w (G ++ List.replicate (w - w / 2) 0) := by
    refine ⟨by simp; omega, fun x hx => ?_⟩
    rcases List.mem_append.mp hx with h | h
    · exact hd' x h
    · have := (List.mem_replicate.mp h).2; omega
  obtain ⟨s0, s1, s2, _⟩ := sv_ev hb _ (by rw [hz.1]; omega) (by rw [hz.1]; omega) hz.2
  rw [hz.1] at s1 s2
  have hup : (slices_Sort_int_int.so (G ++ List.replicate (w - w / 2) 0)).length = w := (gso_perm _).length_eq.trans hz.1
  have hum : ∀ x ∈ slices_Sort_int_int.so (G ++ List.replicate (w - w / 2) 0), 0 ≤ x ∧ x < b := fun x hx => hz.2 x ((gso_perm _).mem_iff.mp hx)
  have halg := gap_alg hb (slices_Sort_int_int.so (G ++ List.replicate (w - w / 2) 0)) (by omega) (by omega) hum
  rw [hgl, hup] at halg
  have hsv : sv b (G ++ List.replicate (w - w / 2) 0) = gsum b w 0 G := halg
  have hby := byg_ev hb w (by omega) G (by omega) (by omega) (fun x hx => by have := hd' x hx; omega)
  refine ⟨wd b w (sv b (G ++ List.replicate (w - w / 2) 0)), ⟨wd_len b w _, wd_mem hb.1 w _⟩, ?_, ?_⟩
  · unfold spec_gpBy.f
    refine Ev.pos (by omega) (Ev.pos (by omega) ?_)
    have := gpBy_l0 b w hw G hl _ s2 G.length 0 (by omega)
    rw [Int.toNat_natCast]
    simpa using this
  · rw [vl_wd hb.1 w _ s0 s1, hsv]
    exact hby

theorem idx_none (V : List Int) (x : Int) (hV : V.length ≤ 4611686018427387904) (hx : x ∉ V) : ∀ (m i : Nat), i + m = V.length → Ev (fun n => slices_Index_int_int.l0 n V x (V.length : Int) (i : Int)) (-1)
  | 0, i, hi => Ev.step (fun n => by rw [slices_Index_int_int.l0]) (Ev.neg (by omega) (Ev.now _))
  | m + 1, i, hi => by
    have ih := idx_none V x hV hx m (i + 1) (by omega)
    have hne : ¬ x = rd V (i : Int) := by
      intro e
      have h : rd V (i : Int) = V[i]'(by omega) := by simp [rd, show i < V.length by omega]
      exact hx (by rw [e, h]; exact List.getElem_mem _)
    refine Ev.step (fun n => by rw [slices_Index_int_int.l0]) (Ev.pos (by omega) (Ev.pos (by omega) (Ev.pos (by omega) (Ev.neg hne ?_))))
    rw [w64 (x := (i : Int) + 1) (by omega) (by omega)]
    exact ih
theorem idx_some (A B : List Int) (x : Int) (hl : (A ++ x :: B).length ≤ 4611686018427387904) (hx : x ∉ A) : Ev (fun n => slices_Index_int_int.f n (A ++ x :: B) x) (A.length : Int) := by
  have hk : A.length < (A ++ x :: B).length := by simp
  have hr : rd (A ++ x :: B) (A.length : Int) = x := by simp [rd]
  have h := idx_l0 (A ++ x :: B) hl A.length hk (fun j hj => by
    rw [hr]
    have h : rd (A ++ x :: B) (j : Int) = A[j]'hj := by simp [rd, List.getElem?_append_left hj, hj]
    rw [h]
    exact fun e => hx (e ▸ List.getElem_mem hj)) ((A.length + 1)) 0 (by omega) (by omega) (by omega)
  rw [hr] at h
  unfold slices_Index_int_int.f
  exact h
theorem gf_ev {b : Int} (hb : 2 ≤ b ∧ b ≤ 16) {w : Nat} (hw : 1 ≤ w ∧ w ≤ 8) (v : Int) (h0 : 0 ≤ v) (h1 : v < b ^ w) : 0 ≤ gf b w v ∧ gf b w v < b ^ w ∧ Ev (fun k => impl_step.f k v (w : Int) b) (gf b w v) := by
  have hl := wd_len b w v
  obtain ⟨s0, s1, _, s3⟩ := sv_ev hb (wd b w v) (by omega) (by omega) (wd_mem hb.1 w v)
  rw [vl_wd hb.1 w v h0 h1] at s3
  rw [hl] at s1 s3
  exact ⟨s0, s1, s3⟩
theorem way_ev {b : Int} (hb : 2 ≤ b ∧ b ≤ 16) {w : Nat} (hw : 1 ≤ w ∧ w ≤ 8) (v : Int) (hv : v ≠ 0) (n0 : Int) (V : List Int) (hV : ∀ x ∈ V, 0 ≤ x ∧ x < b ^ w) : ∀ (m : Nat) (W : List Int) (n : Int) (F : Int → Int), (b ^ w).toNat - (V ++ W).length < m → (V ++ W).Nodup → (∀ x ∈ W, 0 ≤ x ∧ x < b ^ w) → 0 ≤ n → n < b ^ w → Ch (gf b w) n0 W n → (∀ x, F x ≠ 0 ↔ x ∈ V ++ W) →
    ∃ (W' : List Int) (n' : Int) (F' : Int → Int), Ev (fun k => impl_gapCycles.way (w : Int) b v k F (V ++ W).length W n) (W', n', F', (V ++ W').length) ∧ Ch (gf b w) n0 W' n' ∧ (V ++ W').Nodup ∧ (∀ x ∈ W', 0 ≤ x ∧ x < b ^ w) ∧ (∀ x, F' x ≠ 0 ↔ x ∈ V ++ W') ∧ n' ∈ V ++ W' ∧ (V ++ W').length ≤ 4294967296 := by
  intro m
  induction m with
  | zero => intro W n F h; omega
  | succ m ih =>
    intro W n F hm hnd hW h0 h1 hch hF
    have hp := (pow_le8 hb hw.2).2
    have hlen := pigeon (b ^ w).toNat _ hnd (fun x hx => by
      rcases List.mem_append.mp hx with h | h
      · have := hV x h; omega
      · have := hW x h; omega)
    have hwf : (Lit.int .i64 n).wf = true := by
      simp only [Lit.wf, Bool.and_eq_true, decide_eq_true_eq, show IntKind.i64.min = -9223372036854775808 from rfl, show IntKind.i64.max = 9223372036854775807 from rfl]
      omega
    have hla : (V ++ W).length = V.length + W.length := List.length_append
    have hg : (Lit.int .i64 n).wf = true ∧ (V ++ W).length < 5000000000 ∧ W.length < 5000000000 := ⟨hwf, by omega, by omega⟩
    by_cases hz : F n = 0
    · obtain ⟨s0, s1, s3⟩ := gf_ev hb hw n h0 h1
      have hn : n ∉ V ++ W := fun h => (hF n).mpr h hz
      have hnd2 : (V ++ (W ++ [n])).Nodup := by
        rw [← List.append_assoc]
        refine List.nodup_append.mpr ⟨hnd, by simp, fun a ha c hc e => ?_⟩
        rw [List.mem_singleton] at hc
        exact hn (hc ▸ e ▸ ha)
      have hl2 : (V ++ (W ++ [n])).length = (V ++ W).length + 1 := by simp; omega
      have hlen2 := pigeon (b ^ w).toNat _ hnd2 (fun x hx => by
        rcases List.mem_append.mp hx with h | h
        · have := hV x h; omega
        · rcases List.mem_append.mp h with h | h
          · have := hW x h; omega
          · rw [List.mem_singleton] at h; omega)
      obtain ⟨W', n', F', g1, g⟩ := ih (W ++ [n]) (gf b w n) (GM.put F n v) (by omega) hnd2 (fun x hx => by
          rcases List.mem_append.mp hx with h | h
          · exact hW x h
          · rw [List.mem_singleton] at h; omega) s0 s1 (ch_snoc hch) (fun x => by
          unfold GM.put
          by_cases e : x = n
          · subst e
            simp [hv]
          · rw [if_neg e, hF x]
            simp [e])
      refine ⟨W', n', F', ?_, g⟩
      rw [hl2] at g1
      refine Ev.step (fun k => by rw [impl_gapCycles.way]) (Ev.pos hg (Ev.pos hz (Ev.bind s3 ?_)))
      exact g1
    · refine ⟨W, n, F, ?_, hch, hnd, hW, hF, (hF n).mp hz, by omega⟩
      exact Ev.step (fun k => by rw [impl_gapCycles.way]) (Ev.pos hg (Ev.neg hz (Ev.now _)))

def hd (b : Int) (c : List (List Int)) : Int := vl b 0 (rd_L1 c 0)
theorem ex_min (V : List Int) : ∀ n : Nat, 0 < n → n ≤ V.length → ∃ k, k < n ∧ ∀ j : Nat, j < n → rd V (k : Int) ≤ rd V (j : Int)
  | 0, h, _ => by omega
  | n + 1, _, hn => by
    by_cases h0 : n = 0
    · subst h0
      exact ⟨0, by omega, fun j hj => by rw [show j = 0 by omega]; exact Int.le_refl _⟩
    · obtain ⟨k, hk, hm⟩ := ex_min V n (by omega) (by omega)
      by_cases h : rd V (k : Int) ≤ rd V (n : Int)
      · refine ⟨k, by omega, fun j hj => ?_⟩
        by_cases e : j = n
        · subst e; exact h
        · exact hm j (by omega)
      · refine ⟨n, by omega, fun j hj => ?_⟩
        by_cases e : j = n
        · subst e; omega
        · have := hm j (by omega); omega
theorem lf_mc {g : Int → Int} {c0 : List Int} (hc : Cy g c0) (hn : c0.Nodup) (hl : c0.length ≤ 4294967296) : ∃ c, Ev (fun n => impl_leastFirst.f n c0) c ∧ Mc g c ∧ ∀ x, x ∈ c ↔ x ∈ c0 := by
  have h0 : 0 < c0.length := by obtain ⟨e, t, he, _⟩ := hc; rw [he]; simp
  obtain ⟨k, hk, hm⟩ := ex_min c0 c0.length h0 (Nat.le_refl _)
  have hperm : (c0.drop k ++ c0.take k).Perm c0 := by
    have : (c0.drop k ++ c0.take k).Perm (c0.take k ++ c0.drop k) := List.perm_append_comm
    rwa [List.take_append_drop] at this
  have hrd : ∀ j (hj : j < c0.length), rd c0 (j : Int) = c0[j] := fun j hj => by simp [rd, hj]
  refine ⟨c0.drop k ++ c0.take k, lf_ev c0 hl k hk hm (fun j hj e => ?_), ⟨cy_turn hc k hk, hperm.nodup_iff.mpr hn, ?_⟩, fun x => hperm.mem_iff⟩
  · rw [hrd j (by omega), hrd k hk] at e
    have := (List.pairwise_iff_getElem.mp hn) j k (by omega) hk hj
    exact this e
  · intro x hx e t he
    obtain ⟨j, hj, rfl⟩ := List.mem_iff_getElem.mp (hperm.mem_iff.mp hx)
    rw [List.drop_eq_getElem_cons hk, List.cons_append] at he
    injection he with h1 _
    have := hm j hj
    rw [hrd j hj, hrd k hk] at this
    omega
theorem rdL2_mid (P : List (List (List Int))) (a : List (List Int)) (T : List (List (List Int))) (i : Int) (hi : i = (P.length : Int)) : rd_L2 (P ++ a :: T) i = a := by subst hi; simp [rd_L2]
theorem l1_ev {b : Int} (hb : 2 ≤ b ∧ b ≤ 16) {w : Nat} (hw : 1 ≤ w ∧ w ≤ 8) (out : List (List (List Int))) (hout : out.length ≤ 100000) (C : List (List Int)) (hC : C ≠ []) (hC0 : okw b w (rd_L1 C 0)) (rows : List (List Int)) (x19 x20 : Int) (r : List (List (List Int)))
    (p : List (List Int) → Bool) (hpp : ∀ o, p o = true ↔ hd b o < hd b C) (ho : ∀ o ∈ out, o ≠ [] ∧ okw b w (rd_L1 o 0)) : ∀ (rest pre : List (List (List Int))) (j : Int) (cnt : Nat) (kn : Bool), out = pre ++ rest → j = (pre.length : Int) → cnt + rest.length ≤ out.length →
    ((kn || rest.any (fun o => decide (rd_L1 o 0 = rd_L1 C 0))) = true → Ev (fun k => spec_gpCycles.l0 k (w : Int) b out rows x19 (wrap64 (x20 + 1))) r) →
    ((kn || rest.any (fun o => decide (rd_L1 o 0 = rd_L1 C 0))) = false → Ev (fun k => spec_gpCycles.l0 k (w : Int) b ((out.take (cnt + (rest.filter p).length) ++ [C]) ++ out.drop (cnt + (rest.filter p).length)) rows x19 (wrap64 (x20 + 1))) r) →
    Ev (fun k => spec_gpCycles.l1 k (w : Int) b out C (cnt : Int) kn rows x19 x20 out (out.length : Int) j) r := by
  intro rest
  induction rest with
  | nil =>
    intro pre j cnt kn hp hj hc h1 h2
    have hl : out.length = pre.length := by rw [hp]; simp
    refine Ev.step (fun k => by rw [spec_gpCycles.l1]) (Ev.neg (by omega) ?_)
    simp only [List.any_nil, Bool.or_false, List.filter_nil, List.length_nil, Nat.add_zero] at h1 h2
    cases kn with
    | true => exact Ev.pos rfl (h1 rfl)
    | false =>
      refine Ev.neg (by simp) (Ev.pure rfl (Ev.pos (by omega) (Ev.pos (by simp at hc; omega) (Ev.pure rfl ?_))))
      refine Ev.pos (by simp; omega) (Ev.pure rfl ?_)
      refine Ev.pos (by simp; omega) (Ev.pure rfl (Ev.pure rfl ?_))
      refine Ev.pos (by simp; omega) ?_
      rw [Int.toNat_natCast]
      exact h2 rfl
  | cons o rest ih =>
    intro pre j cnt kn hp hj hc h1 h2
    have hl : out.length = pre.length + (rest.length + 1) := by rw [hp]; simp
    have hcl : cnt + (rest.length + 1) ≤ out.length := hc
    obtain ⟨a1, a2, a3, a4⟩ : j < (out.length : Int) ∧ 0 ≤ j ∧ cnt + 1 + rest.length ≤ out.length ∧ cnt + rest.length ≤ out.length := by
      clear h1 h2 ih hp ho hpp hC0 hC hb
      refine ⟨?_, ?_, ?_, ?_⟩ <;> omega
    have e1 : ∀ X : Nat, cnt + (X + 1) = cnt + 1 + X := fun X => by rw [Nat.add_comm X 1, ← Nat.add_assoc]
    have hr : rd_L2 out j = o := by rw [hp]; exact rdL2_mid _ _ _ _ hj
    obtain ⟨ho1, ho2⟩ := ho o (by rw [hp]; simp)
    have hol : 0 < (o.length : Int) := by have := List.length_pos_iff.mpr ho1; omega
    have hCl : 0 < (C.length : Int) := by have := List.length_pos_iff.mpr hC; omega
    have hvo : Ev (fun n => spec_gpValue.f n (rd_L1 o 0) b) (hd b o) := gpv_ev hb _ (by rw [ho2.1]; exact hw.2) ho2.2
    have hvC : Ev (fun n => spec_gpValue.f n (rd_L1 C 0) b) (hd b C) := gpv_ev hb _ (by rw [hC0.1]; exact hw.2) hC0.2
    have hsm : Ev (fun n => spec_l1Same.f n (rd_L1 o 0) (rd_L1 C 0)) (decide (rd_L1 o 0 = rd_L1 C 0)) := same_ev (ho2.1.trans hC0.1.symm) (by rw [ho2.1]; omega)
    have w1 : wrap64 (j + 1) = ((pre ++ [o]).length : Int) := by rw [w64 (by omega) (by omega)]; simp; omega
    have w2 : wrap64 ((cnt : Int) + 1) = ((cnt + 1 : Nat) : Int) := by rw [w64 (by omega) (by omega)]; omega
    have hp' : out = (pre ++ [o]) ++ rest := by rw [hp]; simp
    by_cases hpo : p o = true
    · have hlt := (hpp o).mp hpo
      have hf : ((o :: rest).filter p).length = (rest.filter p).length + 1 := by rw [List.filter_cons_of_pos hpo, List.length_cons]
      rw [hf, e1] at h2
      refine Ev.step (fun k => by rw [spec_gpCycles.l1]) (Ev.pos a1 (Ev.pos a2 (Ev.pos a1 ?_)))
      rw [hr]
      cases kn with
      | true =>
        refine Ev.pos rfl ?_
        refine Ev.pos hol ?_
        refine Ev.bind hvo ?_
        refine Ev.pos hCl ?_
        refine Ev.bind hvC ?_
        refine Ev.pos hlt ?_
        rw [w1, w2]
        exact ih (pre ++ [o]) _ (cnt + 1) true hp' rfl a3 (fun _ => h1 (Bool.true_or _)) (fun h => by rw [Bool.true_or] at h; cases h)
      | false =>
        refine Ev.neg (show ¬ (false = true) by decide) ?_
        refine Ev.pos hol ?_
        refine Ev.pos hCl ?_
        refine Ev.bind hsm ?_
        refine Ev.bind hvo ?_
        refine Ev.bind hvC ?_
        refine Ev.pos hlt ?_
        rw [w1, w2]
        refine ih (pre ++ [o]) _ (cnt + 1) _ hp' rfl a3 (fun h => h1 ?_) (fun h => h2 ?_)
        · simpa using h
        · simpa using h
    · have hlt : ¬ hd b o < hd b C := fun h => hpo ((hpp o).mpr h)
      have hf : ((o :: rest).filter p).length = (rest.filter p).length := by rw [List.filter_cons_of_neg hpo]
      rw [hf] at h2
      refine Ev.step (fun k => by rw [spec_gpCycles.l1]) (Ev.pos a1 (Ev.pos a2 (Ev.pos a1 ?_)))
      rw [hr]
      cases kn with
      | true =>
        refine Ev.pos rfl ?_
        refine Ev.pos hol ?_
        refine Ev.bind hvo ?_
        refine Ev.pos hCl ?_
        refine Ev.bind hvC ?_
        refine Ev.neg hlt ?_
        rw [w1]
        exact ih (pre ++ [o]) _ cnt true hp' rfl a4 (fun _ => h1 (Bool.true_or _)) (fun h => by rw [Bool.true_or] at h; cases h)
      | false =>
        refine Ev.neg (show ¬ (false = true) by decide) ?_
        refine Ev.pos hol ?_
        refine Ev.pos hCl ?_
        refine Ev.bind hsm ?_
        refine Ev.bind hvo ?_
        refine Ev.bind hvC ?_
        refine Ev.neg hlt ?_
        rw [w1]
        refine ih (pre ++ [o]) _ cnt _ hp' rfl a4 (fun h => h1 ?_) (fun h => h2 ?_)
        · simpa using h
        · simpa using h
theorem ins_at (b x : Int) (p : List (List Int) → Bool) (hpp : ∀ o, p o = true ↔ hd b o < x) : ∀ out : List (List (List Int)), out.Pairwise (fun a c => hd b a < hd b c) → (∀ o ∈ out, hd b o ≠ x) → (∀ o ∈ out.take (out.filter p).length, hd b o < x) ∧ ∀ o ∈ out.drop (out.filter p).length, x < hd b o
  | [], _, _ => ⟨by simp, by simp⟩
  | o :: t, hs, hx => by
    obtain ⟨h1, h2⟩ := List.pairwise_cons.mp hs
    obtain ⟨i1, i2⟩ := ins_at b x p hpp t h2 (fun o ho => hx o (List.mem_cons_of_mem _ ho))
    by_cases h : p o = true
    · rw [List.filter_cons_of_pos h, List.length_cons, List.take_succ_cons, List.drop_succ_cons]
      refine ⟨fun o' ho' => ?_, i2⟩
      rcases List.mem_cons.mp ho' with rfl | ho'
      · exact (hpp _).mp h
      · exact i1 o' ho'
    · have hxo := hx o List.mem_cons_self
      have hge : ¬ hd b o < x := fun h' => h ((hpp o).mpr h')
      have hgt : x < hd b o := Int.lt_iff_le_and_ne.mpr ⟨Int.not_lt.mp hge, Ne.symm hxo⟩
      have e : (o :: t).filter p = [] := by
        rw [List.filter_eq_nil_iff]
        intro a ha hpa
        rcases List.mem_cons.mp ha with rfl | ha
        · exact h hpa
        · exact absurd ((hpp a).mp hpa) (Int.not_lt.mpr (Int.le_of_lt (Int.lt_trans hgt (h1 a ha))))
      rw [e]
      refine ⟨by simp, fun o' ho' => ?_⟩
      rcases List.mem_cons.mp (show o' ∈ o :: t from ho') with rfl | ho'
      · exact hgt
      · exact Int.lt_trans hgt (h1 o' ho')
structure GS (b : Int) (w : Nat) (out : List (List (List Int))) (O : List (List Int)) (V : List Int) (F : Int → Int) : Prop where
  perm : (out.map (List.map (vl b 0))).Perm O
  srt : out.Pairwise (fun a c => hd b a < hd b c)
  wok : ∀ c ∈ out, c ≠ [] ∧ c.length ≤ 4294967296 ∧ ∀ x ∈ c, okw b w x
  mc : ∀ c ∈ O, Mc (gf b w) c ∧ ∀ x ∈ c, x ∈ V
  vr : ∀ x ∈ V, 0 ≤ x ∧ x < b ^ w
  vn : V.Nodup
  ld : ∀ x ∈ V, ∃ c ∈ O, Ld (gf b w) x c
  fv : ∀ x, F x ≠ 0 ↔ x ∈ V
theorem hd_head {b : Int} {c : List (List Int)} {e : Int} {t : List Int} (h : c.map (vl b 0) = e :: t) : hd b c = e := by
  cases c with
  | nil => cases h
  | cons x c =>
    injection h with h1 _
theorem hd_ok {b : Int} {w : Nat} {c : List (List Int)} (h0 : c ≠ []) (h : ∀ x ∈ c, okw b w x) : okw b w (rd_L1 c 0) := by
  cases c with
  | nil => exact absurd rfl h0
  | cons x c => exact h x List.mem_cons_self
theorem ch_ld {g : Int → Int} {n e : Int} {W c : List Int} (h : Ch g n W e) (hl : Ld g e c) : ∀ x ∈ W, Ld g x c := by
  intro x hx
  obtain ⟨A, B, hA⟩ := List.append_of_mem hx
  rw [hA] at h
  obtain ⟨y, _, h2⟩ := (ch_app g A (x :: B) n e).mp h
  obtain rfl : x = y := h2.1
  exact ld_of h2 hl

theorem ch_start {g : Int → Int} {n e : Int} {V W : List Int} (h : Ch g n W e) (he : e ∈ V ++ W) : n ∈ V ++ W := by
  cases W with
  | nil => obtain rfl : n = e := h; exact he
  | cons x W => obtain ⟨rfl, _⟩ := h; simp
theorem gpc_l0 {b : Int} (hb : 2 ≤ b ∧ b ≤ 16) {w : Nat} (hw : 1 ≤ w ∧ w ≤ 8) (rows : List (List Int)) (hrl : rows.length ≤ 4000) (hrows : ∀ G ∈ rows, G ∈ AG.dn (w / 2) (b.toNat - 1)) : ∀ (rest pre : List (List Int)) (i : Int) (out : List (List (List Int))) (O : List (List Int)) (V : List Int) (F : Int → Int), rows = pre ++ rest → i = (pre.length : Int) → GS b w out O V F → out.length ≤ pre.length →
    ∃ (out' : List (List (List Int))) (O' : List (List Int)) (V' : List Int) (F' : Int → Int), Ev (fun k => spec_gpCycles.l0 k (w : Int) b out rows (rows.length : Int) i) out' ∧ Ev (fun k => impl_gapCycles.l0 (w : Int) b rows k O F V.length i) O' ∧ GS b w out' O' V' F' ∧ out'.length ≤ rows.length ∧ ((rest ≠ [] ∨ O ≠ []) → O' ≠ []) ∧ (∀ x ∈ V, x ∈ V') ∧ ∀ G ∈ rest, ∃ u, okw b w u ∧ Ev (fun k => spec_gpBy.f k G (w : Int) b) u ∧ Ev (fun k => impl_byGaps.f k G (w : Int) b) (vl b 0 u) ∧ vl b 0 u ∈ V' := by
  intro rest
  induction rest with
  | nil =>
    intro pre i out O V F hp hi hG hl
    have hrp : rows.length = pre.length := by rw [hp]; simp
    refine ⟨out, O, V, F, ?_, ?_, hG, by omega, fun h => h.elim (fun h => absurd rfl h) id, fun _ h => h, by simp⟩
    · exact Ev.step (fun k => by rw [spec_gpCycles.l0]) (Ev.neg (by omega) (Ev.now _))
    · exact Ev.step (fun k => by rw [impl_gapCycles.l0]) (Ev.neg (by omega) (Ev.now _))
  | cons G rest ih =>
    intro pre i out O V F hp hi hG hl
    have hrp : rows.length = pre.length + (rest.length + 1) := by rw [hp]; simp
    have hrd : rd_L1 rows i = G := by rw [hp, hi]; exact rdL_mid _ _ _
    have hOl : O.length = out.length := by rw [← hG.perm.length_eq]; simp
    obtain ⟨u, hu, hby, hbi⟩ := gapw hb hw G (hrows G (by rw [hp]; simp))
    have hru := vl_rng hb hu
    obtain ⟨C, hC0, hCl, hCw, hCs, hCm, hCd⟩ := cyc_ev hb hw u hu
    have hv : wrap64 (i + 1) = i + 1 := w64 (by omega) (by omega)
    obtain ⟨W, n, F', g1, g2, g3, g4, g5, g6, g7⟩ := way_ev hb hw (wrap64 (i + 1)) (by omega) (vl b 0 u) V hG.vr ((b ^ w).toNat + 1) [] (vl b 0 u) F (by simp; omega) (by simpa using hG.vn) (by simp) hru.1 hru.2 rfl (by simpa using hG.fv)
    rw [List.append_nil] at g1
    have hi2 : i + 1 = ((pre ++ [G]).length : Int) := by rw [hi]; simp
    have hp2 : rows = (pre ++ [G]) ++ rest := by rw [hp]; simp
    have hVr2 : ∀ x ∈ V ++ W, 0 ≤ x ∧ x < b ^ w := fun x hx => (List.mem_append.mp hx).elim (hG.vr x) (g4 x)
    obtain ⟨p, hpp⟩ : ∃ p : List (List Int) → Bool, ∀ o, p o = true ↔ hd b o < hd b C := ⟨fun o => decide (hd b o < hd b C), fun o => by simp⟩
    have hho : ∀ o ∈ out, o ≠ [] ∧ okw b w (rd_L1 o 0) := fun o ho => ⟨(hG.wok o ho).1, hd_ok (hG.wok o ho).1 (hG.wok o ho).2.2⟩
    have hC0k : okw b w (rd_L1 C 0) := hd_ok hC0 hCw
    have hoV : ∀ o ∈ out, hd b o ∈ V := fun o ho => by
      have hm : o.map (vl b 0) ∈ O := hG.perm.mem_iff.mp (List.mem_map.mpr ⟨o, ho, rfl⟩)
      obtain ⟨⟨⟨e, t, he, _⟩, _⟩, hin⟩ := hG.mc _ hm
      rw [hd_head he]
      exact hin e (by rw [he]; simp)
    have s0 : ∀ r, Ev (fun k => spec_gpCycles.l1 k (w : Int) b out C ((0 : Nat) : Int) false rows (rows.length : Int) i out (out.length : Int) 0) r → Ev (fun k => spec_gpCycles.l0 k (w : Int) b out rows (rows.length : Int) i) r := fun r hr => by
      refine Ev.step (fun k => by rw [spec_gpCycles.l0]) (Ev.pos (by omega) (Ev.pos (by omega) (Ev.pos (by omega) ?_)))
      rw [hrd]
      exact Ev.bind hby (Ev.bind hCs hr)
    have s1 : ∀ r, Ev (fun k => (slices_Index_int_int.f k W n).bind fun j => (if 0 ≤ j then (if j ≤ (W.length : Int) then ((impl_leastFirst.f k (W.drop j.toNat)).bind fun c => impl_gapCycles.l0 (w : Int) b rows k (O ++ [c]) F' (V ++ W).length (wrap64 (i + 1))) else none) else impl_gapCycles.l0 (w : Int) b rows k O F' (V ++ W).length (wrap64 (i + 1)))) r → Ev (fun k => impl_gapCycles.l0 (w : Int) b rows k O F V.length i) r := fun r hr => by
      refine Ev.step (fun k => by rw [impl_gapCycles.l0]) (Ev.pos (by omega) (Ev.pos (show 0 ≤ i ∧ O.length < 1000000000 from ⟨by omega, by omega⟩) ?_))
      rw [hrd]
      exact Ev.bind hbi (Ev.bind g1 hr)
    have huV : vl b 0 u ∈ V ++ W := ch_start g2 g6
    by_cases hn : n ∈ W
    · obtain ⟨A, B, hAB⟩ := List.append_of_mem hn
      have hWn : W.Nodup := (List.nodup_append.mp g3).2.1
      have hVW : ∀ x ∈ W, x ∉ V := fun x hx hxv => (List.nodup_append.mp g3).2.2 x hxv x hx rfl
      have hWn2 := hWn
      rw [hAB] at hWn2
      obtain ⟨_, hBn, hAd⟩ := List.nodup_append.mp hWn2
      have hnA : n ∉ A := fun h => hAd n h n List.mem_cons_self rfl
      have hWl : W.length ≤ 4294967296 := by rw [List.length_append] at g7; omega
      have hWA : W.length = A.length + (B.length + 1) := by rw [hAB]; simp
      have hix : Ev (fun k => slices_Index_int_int.f k W n) (A.length : Int) := by
        have := idx_some A B n (by rw [← hAB]; omega) hnA
        rwa [← hAB] at this
      have g2' := g2
      rw [hAB] at g2'
      obtain ⟨m, gA, gB⟩ := (ch_app _ A (n :: B) _ _).mp g2'
      obtain rfl : n = m := gB.1
      obtain ⟨c, hlf, hmc, hcm⟩ := lf_mc (c0 := n :: B) ⟨n, B, rfl, gB⟩ hBn (by rw [List.length_cons]; omega)
      have hcC : c = C.map (vl b 0) := mc_unique hmc hCm ⟨A, n, gA, (hcm n).mpr List.mem_cons_self⟩ hCd
      subst hcC
      have hCW : ∀ x ∈ C.map (vl b 0), x ∈ W := fun x hx => by rw [hAB]; exact List.mem_append.mpr (.inr ((hcm x).mp hx))
      have hhC : hd b C ∈ W := by
        obtain ⟨e, t, he, _⟩ := hCm.1
        rw [hd_head he]
        exact hCW e (by rw [he]; simp)
      have hne : ∀ o ∈ out, hd b o ≠ hd b C := fun o ho e => hVW _ hhC (e ▸ hoV o ho)
      obtain ⟨t1, t2⟩ := ins_at b (hd b C) p hpp out hG.srt hne
      have hfl : (out.filter p).length ≤ out.length := List.length_filter_le _ _
      generalize hq : (out.filter p).length = q at t1 t2 hfl
      have hp3 : ((out.take q ++ [C]) ++ out.drop q).Perm (out ++ [C]) := by
        rw [List.append_assoc]
        refine (List.perm_append_comm.append_left (out.take q)).trans ?_
        rw [← List.append_assoc, List.take_append_drop]
      have hGS : GS b w ((out.take q ++ [C]) ++ out.drop q) (O ++ [C.map (vl b 0)]) (V ++ W) F' := by
        refine ⟨?_, ?_, ?_, ?_, hVr2, g3, ?_, g5⟩
        · refine (hp3.map _).trans ?_
          rw [List.map_append]
          exact hG.perm.append_right _
        · have h1 : (out.take q).Pairwise (fun a c => hd b a < hd b c) := hG.srt.sublist (List.take_sublist _ _)
          have h2 : (out.drop q).Pairwise (fun a c => hd b a < hd b c) := hG.srt.sublist (List.drop_sublist _ _)
          rw [List.append_assoc]
          refine List.pairwise_append.mpr ⟨h1, List.pairwise_cons.mpr ⟨fun x hx => t2 x hx, h2⟩, fun x hx y hy => ?_⟩
          rcases List.mem_cons.mp hy with rfl | hy
          · exact t1 x hx
          · exact Int.lt_trans (t1 x hx) (t2 y hy)
        · intro c hc
          rcases List.mem_append.mp (hp3.mem_iff.mp hc) with h | h
          · exact hG.wok c h
          · rw [List.mem_singleton] at h
            subst h
            exact ⟨hC0, hCl, hCw⟩
        · intro c hc
          rcases List.mem_append.mp hc with h | h
          · exact ⟨(hG.mc c h).1, fun x hx => List.mem_append.mpr (.inl ((hG.mc c h).2 x hx))⟩
          · rw [List.mem_singleton] at h
            subst h
            exact ⟨hCm, fun x hx => List.mem_append.mpr (.inr (hCW x hx))⟩
        · intro x hx
          rcases List.mem_append.mp hx with h | h
          · obtain ⟨c, hc, hl⟩ := hG.ld x h
            exact ⟨c, List.mem_append.mpr (.inl hc), hl⟩
          · exact ⟨_, List.mem_append.mpr (.inr List.mem_cons_self), ch_ld g2 ⟨[], n, rfl, (hcm n).mpr List.mem_cons_self⟩ x h⟩
      obtain ⟨out', O', V', F2, i1, i2, i3, i4, i5, i6, i7⟩ := ih (pre ++ [G]) (i + 1) _ _ _ _ hp2 hi2 hGS (by rw [hp3.length_eq]; simp; omega)
      refine ⟨out', O', V', F2, ?_, ?_, i3, i4, fun _ => i5 (.inr (by simp)), fun x hx => i6 x (List.mem_append.mpr (.inl hx)), fun G2 hG2 => (List.mem_cons.mp hG2).elim (fun e => ⟨u, hu, e ▸ hby, e ▸ hbi, i6 _ huV⟩) (i7 G2)⟩
      · refine s0 _ (l1_ev hb hw out (by omega) C hC0 hC0k rows _ i _ p hpp hho out [] 0 0 false rfl rfl (by omega) (fun h => ?_) (fun _ => ?_))
        · exfalso
          rw [Bool.false_or, List.any_eq_true] at h
          obtain ⟨o, ho, h⟩ := h
          have h := of_decide_eq_true h
          exact hne o ho (by unfold hd; rw [h])
        · rw [Nat.zero_add, hq, hv]
          exact i1
      · refine s1 _ (Ev.bind hix (Ev.pos (by omega) (Ev.pos (by omega) ?_)))
        have hdr : W.drop ((A.length : Int)).toNat = n :: B := by rw [Int.toNat_natCast, hAB]; simp
        rw [hdr, hv]
        exact Ev.bind hlf i2
    · have hnV : n ∈ V := (List.mem_append.mp g6).resolve_right hn
      obtain ⟨c, hcO, hcl⟩ := hG.ld n hnV
      have hcC : c = C.map (vl b 0) := mc_unique (hG.mc c hcO).1 hCm (ld_of g2 hcl) hCd
      have hGS : GS b w out O (V ++ W) F' := by
        refine ⟨hG.perm, hG.srt, hG.wok, fun c hc => ⟨(hG.mc c hc).1, fun x hx => List.mem_append.mpr (.inl ((hG.mc c hc).2 x hx))⟩, hVr2, g3, ?_, g5⟩
        intro x hx
        rcases List.mem_append.mp hx with h | h
        · exact hG.ld x h
        · exact ⟨c, hcO, ch_ld g2 hcl x h⟩
      obtain ⟨out', O', V', F2, i1, i2, i3, i4, i5, i6, i7⟩ := ih (pre ++ [G]) (i + 1) _ _ _ _ hp2 hi2 hGS (by simp; omega)
      refine ⟨out', O', V', F2, ?_, ?_, i3, i4, fun _ => i5 (.inr (fun h => by rw [h] at hcO; cases hcO)), fun x hx => i6 x (List.mem_append.mpr (.inl hx)), fun G2 hG2 => (List.mem_cons.mp hG2).elim (fun e => ⟨u, hu, e ▸ hby, e ▸ hbi, i6 _ huV⟩) (i7 G2)⟩
      · refine s0 _ (l1_ev hb hw out (by omega) C hC0 hC0k rows _ i _ p hpp hho out [] 0 0 false rfl rfl (by omega) (fun _ => ?_) (fun h => ?_))
        · rw [hv]
          exact i1
        · exfalso
          obtain ⟨o, ho, hoc⟩ := List.mem_map.mp (hG.perm.mem_iff.mpr hcO)
          have hoC : o.map (vl b 0) = C.map (vl b 0) := hoc.trans hcC
          obtain ⟨e, t, he, _⟩ := hCm.1
          have hh : rd_L1 o 0 = rd_L1 C 0 := vl_inj hb.1 (hho o ho).2 hC0k ((hd_head (hoC.trans he)).trans (hd_head he).symm)
          have : (false || out.any fun o => decide (rd_L1 o 0 = rd_L1 C 0)) = true := by
            rw [Bool.false_or, List.any_eq_true]
            exact ⟨o, ho, decide_eq_true hh⟩
          rw [this] at h
          cases h
      · have hix : Ev (fun k => slices_Index_int_int.f k W n) (-1) := by
          have hWl : W.length ≤ 4294967296 := by rw [List.length_append] at g7; omega
          unfold slices_Index_int_int.f
          exact idx_none W n (by omega) hn W.length 0 (by omega)
        refine s1 _ (Ev.bind hix (Ev.neg (by omega) ?_))
        rw [hv]
        exact i2
theorem gpCyclesB_ev {b : Int} {w : Nat} (h : wb (w : Int) b) : ∃ out : List (List (List Int)), Ev (fun k => spec_gpCycles.f k (w : Int) b) out ∧ Ev (fun k => impl_gapCycles.f k (w : Int) b) (out.map (List.map (vl b 0))) ∧ out.length ≤ 4000 ∧ (∀ c ∈ out, c ≠ [] ∧ c.length ≤ 4294967296 ∧ ∀ x ∈ c, okw b w x) ∧ (∀ c ∈ out, Mc (gf b w) (c.map (vl b 0))) ∧ out.Pairwise (fun a c => hd b a < hd b c) ∧ ∀ G ∈ AG.dn (w / 2) (b.toNat - 1), ∃ u, okw b w u ∧ Ev (fun k => spec_gpBy.f k G (w : Int) b) u ∧ Ev (fun k => impl_byGaps.f k G (w : Int) b) (vl b 0 u) ∧ ∃ c ∈ out, Ld (gf b w) (vl b 0 u) (c.map (vl b 0)) := by
  have h' := h
  obtain ⟨hb, hw1, hw2⟩ := h'
  have hw : 1 ≤ w ∧ w ≤ 8 := by omega
  have hd1 := AG.dn_len (w / 2) (by omega) (b.toNat - 1) (by omega)
  have hga := gpAll_full (w : Int) b h
  have hal := allGaps_eq (w : Int) b h
  rw [Int.toNat_natCast] at hga hal
  generalize hr : AG.dn (w / 2) (b.toNat - 1) = rows at hd1 hga hal
  obtain ⟨out, O, V, F, e1, e2, hG, e4, e5, e6, e7⟩ := gpc_l0 hb hw rows hd1.1 (fun G hG => by rw [hr]; exact hG) rows [] 0 [] [] [] (fun _ => 0) rfl rfl ⟨by simp, List.Pairwise.nil, by simp, by simp, by simp, List.nodup_nil, by simp, by simp⟩ (by simp)
  have hOl : O.length = out.length := by rw [← hG.perm.length_eq]; simp
  have hO0 : O ≠ [] := e5 (.inl (List.ne_nil_of_length_pos hd1.2))
  have hso : SF.so O = out.map (List.map (vl b 0)) := by
    refine SF.unique ((SF.so_perm O).trans hG.perm.symm) (SF.so_sorted O) ?_
    rw [List.pairwise_map]
    refine hG.srt.imp_of_mem ?_
    intro a c ha hc hac
    have h1 := (hG.wok a ha).1
    have h2 := (hG.wok c hc).1
    cases a with
    | nil => exact absurd rfl h1
    | cons x a =>
      cases c with
      | nil => exact absurd rfl h2
      | cons y c =>
        have hac : vl b 0 x < vl b 0 y := hac
        show SF.cmp (vl b 0 x :: a.map (vl b 0)) (vl b 0 y :: c.map (vl b 0)) < 0
        unfold SF.cmp
        rw [if_pos hac]
        decide
  refine ⟨out, ?_, ?_, by omega, hG.wok, fun c hc => (hG.mc _ (hG.perm.mem_iff.mp (List.mem_map.mpr ⟨c, hc, rfl⟩))).1, hG.srt, fun G hG2 => ?_⟩
  rotate_left 2
  · obtain ⟨u, h1, h2, h3, h4⟩ := e7 G hG2
    obtain ⟨c, hc, hl⟩ := hG.ld _ h4
    obtain ⟨o, ho, rfl⟩ := List.mem_map.mp (hG.perm.mem_iff.mpr hc)
    exact ⟨u, h1, h2, h3, o, ho, hl⟩
  · unfold spec_gpCycles.f
    exact Ev.bind hga e1
  · unfold impl_gapCycles.f
    refine Ev.pure hal (Ev.bind e2 ?_)
    rw [hso]
    refine Ev.pos ⟨List.length_pos_iff.mpr hO0, by omega, fun l hl => ?_⟩ (Ev.now _)
    obtain ⟨c, hc, rfl⟩ := List.mem_map.mp (hG.perm.mem_iff.mpr hl)
    rw [List.length_map]
    exact (hG.wok c hc).2.1

theorem Ev.uniq {α : Type} {g : Nat → Option α} {r s : α} (h : Ev g r) (h' : Ev g s) : r = s := by
  obtain ⟨K, hK⟩ := h
  obtain ⟨K', hK'⟩ := h'
  have h1 := hK (K + K') (by omega)
  rw [hK' (K + K') (by omega)] at h1
  exact (Option.some.inj h1).symm
theorem wf_of {x : Int} (h0 : -9223372036854775808 ≤ x) (h1 : x ≤ 9223372036854775807) : (Lit.int .i64 x).wf = true := by
  simp only [Lit.wf, Bool.and_eq_true, decide_eq_true_eq, show IntKind.i64.min = -9223372036854775808 from rfl, show IntKind.i64.max = 9223372036854775807 from rfl]
  omega
/-! few -/
theorem pow_mono_le {b : Int} (hb : 2 ≤ b) {n m : Nat} (h : n ≤ m) : b ^ n ≤ b ^ m := by
  obtain ⟨d, rfl⟩ : ∃ d, m = n + d := ⟨m - n, by omega⟩
  induction d with
  | zero => exact Int.le_refl _
  | succ d ih =>
    have h1 := ih (by omega)
    rw [← Nat.add_assoc, Int.pow_succ]
    have h2 : 0 ≤ b ^ (n + d) := Int.pow_nonneg (by omega)
    have h3 := Int.mul_le_mul_of_nonneg_left hb h2
    omega
theorem few_l0 {b : Int} (hb : 2 ≤ b ∧ b ≤ 16) (K : Nat) (hK : K ≤ 8) (hM : b ^ K ≤ 100000) : ∀ (m n : Nat), n + m = K → Ev (fun k => spec_gpFew.l0 k (K : Int) b (b ^ n) (n : Int)) (b ^ K)
  | 0, n, h => by
    refine Ev.step (fun k => by rw [spec_gpFew.l0]) ?_
    exact Ev.neg (by omega) (Ev.val (by rw [show n = K by omega]))
  | m + 1, n, h => by
    have h1 := pow_le8 hb (show n + 1 ≤ 8 by omega)
    have h2 : b ^ (n + 1) ≤ b ^ K := pow_mono_le hb.1 (by omega)
    have e : b ^ n * b = b ^ (n + 1) := (Int.pow_succ b n).symm
    refine Ev.step (fun k => by rw [spec_gpFew.l0]) ?_
    refine Ev.pos (by omega) ?_
    rw [e]
    have ih := few_l0 hb K hK hM m (n + 1) (by omega)
    generalize b ^ (n + 1) = q at h1 h2 ih
    rw [w64 (by omega) (by omega), w64 (show -9223372036854775808 ≤ (n : Int) + 1 by omega) (by omega)]
    exact Ev.neg (by omega) (by simpa using ih)
theorem many_l0 {b : Int} (hb : 2 ≤ b ∧ b ≤ 16) (K : Nat) (hK : K ≤ 8) (hM : 100000 < b ^ K) : ∀ (m n : Nat), n + m = K → b ^ n ≤ 100000 → Ev (fun k => spec_gpFew.l0 k (K : Int) b (b ^ n) (n : Int)) 0
  | 0, n, h, hn => by
    rw [show n = K by omega] at hn
    omega
  | m + 1, n, h, hn => by
    have h1 := pow_le8 hb (show n + 1 ≤ 8 by omega)
    have e : b ^ n * b = b ^ (n + 1) := (Int.pow_succ b n).symm
    refine Ev.step (fun k => by rw [spec_gpFew.l0]) ?_
    refine Ev.pos (by omega) ?_
    rw [e]
    have ih := many_l0 hb K hK hM m (n + 1) (by omega)
    generalize b ^ (n + 1) = q at h1 ih
    rw [w64 (by omega) (by omega), w64 (show -9223372036854775808 ≤ (n : Int) + 1 by omega) (by omega)]
    by_cases hq : q > 100000
    · exact Ev.pos hq (Ev.now _)
    · exact Ev.neg hq (by simpa using ih (by omega))
theorem few_ev {b : Int} (hb : 2 ≤ b ∧ b ≤ 16) (K : Nat) (hK : K ≤ 8) : Ev (fun k => spec_gpFew.f k (K : Int) b) (if b ^ K ≤ 100000 then b ^ K else 0) := by
  unfold spec_gpFew.f
  by_cases h : b ^ K ≤ 100000
  · rw [if_pos h]
    simpa using few_l0 hb K hK h K 0 (by omega)
  · rw [if_neg h]
    simpa using many_l0 hb K hK (by omega) K 0 (by omega) (by simp)
/-! a run with where its cycle starts -/
/-- so many steps to the cycle -/
def TL (g : Int → Int) (v : Int) (c : List Int) (t : Nat) : Prop := ∃ A m, Ch g v A m ∧ A.length = t ∧ m ∈ c ∧ ∀ x ∈ A, x ∉ c
theorem tl_det {g : Int → Int} {v : Int} {c : List Int} {t t' : Nat} (h : TL g v c t) (h' : TL g v c t') : t = t' := by
  obtain ⟨A, m, h1, rfl, h2, h3⟩ := h
  obtain ⟨A', m', h1', rfl, h2', h3'⟩ := h'
  rcases ch_pre g A A' v m m' h1 h1' with ⟨D, rfl, hD⟩ | ⟨D, rfl, hD⟩
  · cases D with
    | nil => simp
    | cons x D =>
      obtain ⟨rfl, _⟩ := hD
      exact absurd h2 (h3' _ (by simp))
  · cases D with
    | nil => simp
    | cons x D =>
      obtain ⟨rfl, _⟩ := hD
      exact absurd h2' (h3 _ (by simp))
theorem tl_ld {g : Int → Int} {v : Int} {c : List Int} {t : Nat} (h : TL g v c t) : Ld g v c := by
  obtain ⟨A, m, h1, _, h2, _⟩ := h
  exact ⟨A, m, h1, h2⟩
theorem tl_zero {g : Int → Int} {v : Int} {c : List Int} (h : v ∈ c) : TL g v c 0 := ⟨[], v, rfl, rfl, h, by simp⟩
theorem tl_of_zero {g : Int → Int} {v : Int} {c : List Int} (h : TL g v c 0) : v ∈ c := by
  obtain ⟨A, m, h1, h2, h3, _⟩ := h
  rw [List.length_eq_zero_iff] at h2
  subst h2
  obtain rfl : v = m := h1
  exact h3
theorem tl_step {g : Int → Int} {v : Int} {c : List Int} {t : Nat} (h : TL g (g v) c t) (hv : v ∉ c) : TL g v c (t + 1) := by
  obtain ⟨A, m, h1, rfl, h2, h3⟩ := h
  exact ⟨v :: A, m, ⟨rfl, h1⟩, rfl, h2, fun x hx => (List.mem_cons.mp hx).elim (fun e => e ▸ hv) (h3 x)⟩
theorem tl_next {g : Int → Int} {v : Int} {c : List Int} {t : Nat} (h : TL g v c (t + 1)) : TL g (g v) c t := by
  obtain ⟨A, m, h1, h2, h3, h4⟩ := h
  cases A with
  | nil => simp at h2
  | cons x A =>
    obtain ⟨rfl, h1⟩ := h1
    exact ⟨A, m, h1, by simpa using h2, h3, fun y hy => h4 y (List.mem_cons_of_mem _ hy)⟩
theorem cycr_ev {b : Int} (hb : 2 ≤ b ∧ b ≤ 16) {w : Nat} (hw : 1 ≤ w ∧ w ≤ 8) (l : List Int) (hl : okw b w l) :
    ∃ (W : List (List Int)) (at_ : Nat), at_ ≤ 4294967296 ∧ Ev (fun n => spec_gpRun.f n l b) (W, (at_ : Int)) ∧ ∀ c, Mc (gf b w) c → Ld (gf b w) (vl b 0 l) c → TL (gf b w) (vl b 0 l) c at_ := by
  obtain ⟨W, at_, g1, g3, g5, g6, g7, e, t, hch, hdr⟩ := runc_ev hb hw (vl b 0 l) ((b ^ w).toNat + 1) [] l (by simp) (fun x hx => by simp at hx) hl List.nodup_nil rfl
  refine ⟨W, at_, by omega, ?_, fun c hc hlc => ?_⟩
  · unfold spec_gpRun.f
    exact Ev.pure (own_eq l (by rw [hl.1]; omega)) g3
  · have hwl : (W.map (vl b 0)).length = W.length := List.length_map _
    generalize hV : W.map (vl b 0) = V at g7 hch hdr hwl
    have hn := g7
    rw [← List.take_append_drop at_ V, hdr] at hn
    obtain ⟨_, hn2, hn3⟩ := List.nodup_append.mp hn
    rw [← List.take_append_drop at_ V] at hch
    obtain ⟨m, h1, h2⟩ := (ch_app _ _ _ _ _).mp hch
    rw [hdr] at h2
    obtain rfl : e = m := h2.1
    obtain ⟨c', _, hmc, hcm⟩ := lf_mc (c0 := e :: t) ⟨e, t, rfl, h2⟩ hn2 (by rw [← hdr]; simp; omega)
    have hcc : c' = c := mc_unique hmc hc ⟨_, e, h1, (hcm e).mpr List.mem_cons_self⟩ hlc
    subst hcc
    refine ⟨V.take at_, e, h1, ?_, (hcm e).mpr List.mem_cons_self, fun x hx hxc => hn3 x hx x ((hcm x).mp hxc) rfl⟩
    rw [List.length_take, hwl]
    omega
/-! the gaps of a word, as the reference tells them -/
theorem sgaps_l0 (l up : List Int) (hlu : l.length = up.length) (hl : up.length ≤ 1000) : ∀ (m i : Nat), i + m = up.length / 2 →
    Ev (fun k => spec_gpGaps.l0 k l up ((List.range i).map fun (j : Nat) => wrap64 (rd up ((up.length : Int) - 1 - j) - rd up (j : Int))) (i : Int)) (gl up) := by
  intro m
  induction m with
  | zero =>
    intro i hi
    refine Ev.step (fun k => by rw [spec_gpGaps.l0]) ?_
    rw [w64 (x := (l.length : Int) / 2) (by omega) (by omega)]
    refine Ev.neg (by omega) (Ev.val ?_)
    unfold gl
    rw [show i = up.length / 2 by omega]
  | succ m ih =>
    intro i hi
    have h := ih (i + 1) (by omega)
    rw [List.range_succ, List.map_append, List.map_cons, List.map_nil] at h
    have w1 : wrap64 (wrap64 ((up.length : Int) - 1) - i) = (up.length : Int) - 1 - i := by
      rw [w64 (show -9223372036854775808 ≤ (up.length : Int) - 1 by omega) (by omega), w64 (by omega) (by omega)]
    have w2 : wrap64 ((i : Int) + 1) = ((i + 1 : Nat) : Int) := by rw [w64 (by omega) (by omega)]; omega
    refine Ev.step (fun k => by rw [spec_gpGaps.l0]) ?_
    rw [w1, w2, w64 (x := (l.length : Int) / 2) (by omega) (by omega)]
    refine Ev.pos (by omega) (Ev.pos (by omega) (Ev.pos (by omega) (Ev.pos (by omega) (Ev.pos (by omega) (Ev.pos (by simp; omega) ?_)))))
    exact h
theorem sgaps_ev (l : List Int) (hl : l.length ≤ 1000) : Ev (fun k => spec_gpGaps.f k l) (gl (slices_Sort_int_int.so l)) := by
  have hlen : (slices_Sort_int_int.so l).length = l.length := (gso_perm l).length_eq
  unfold spec_gpGaps.f
  refine Ev.bind (dgSorted_ev l (by omega)) ?_
  exact sgaps_l0 l (slices_Sort_int_int.so l) hlen.symm (by omega) ((slices_Sort_int_int.so l).length / 2) 0 (by omega)
theorem gl_dn {b : Int} (hb : 2 ≤ b ∧ b ≤ 16) {w : Nat} (hw : 1 ≤ w ∧ w ≤ 8) (up : List Int) (hl : up.length = w) (hs : up.Pairwise (· ≤ ·)) (hd : ∀ x ∈ up, 0 ≤ x ∧ x < b) : gl up ∈ AG.dn (w / 2) (b.toNat - 1) := by
  have hr : ∀ i (h : i < up.length), rd up (i : Int) = up[i] := fun i h => by simp [rd, h]
  have hr2 : ∀ i (h : i < up.length), rd up ((up.length : Int) - 1 - i) = up[up.length - 1 - i] := fun i h => by
    rw [show (up.length : Int) - 1 - i = ((up.length - 1 - i : Nat) : Int) by omega, hr _ (by omega)]
  have hle : ∀ i j (hi : i < up.length) (hj : j < up.length), i ≤ j → up[i] ≤ up[j] := fun i j hi hj hij => by
    by_cases h : i = j
    · subst h; exact Int.le_refl _
    · exact List.pairwise_iff_getElem.mp hs i j hi hj (by omega)
  have hg : ∀ i (h : i < up.length), wrap64 (rd up ((up.length : Int) - 1 - i) - rd up (i : Int)) = up[up.length - 1 - i] - up[i] := fun i h => by
    have d1 := hd _ (List.getElem_mem (show up.length - 1 - i < up.length by omega))
    have d2 := hd _ (List.getElem_mem h)
    rw [hr i h, hr2 i h, w64 (by omega) (by omega)]
  refine (AG.dn_iff _ _ _).mpr ⟨by simp [gl, hl], fun x hx => ?_, ?_⟩
  · have h0 := gl_nonneg hb up hs hd x hx
    obtain ⟨i, hi, rfl⟩ := List.mem_map.mp hx
    rw [List.mem_range] at hi
    refine ⟨h0, ?_⟩
    have d1 := hd _ (List.getElem_mem (show up.length - 1 - i < up.length by omega))
    have d2 := hd _ (List.getElem_mem (show i < up.length by omega))
    rw [hg i (by omega)]
    omega
  · unfold gl
    rw [List.pairwise_map]
    refine List.pairwise_lt_range.imp_of_mem ?_
    intro i j hi hj hij
    rw [List.mem_range] at hi hj
    rw [hg i (by omega), hg j (by omega)]
    have h1 := hle i j (by omega) (by omega) (by omega)
    have h2 := hle (up.length - 1 - j) (up.length - 1 - i) (by omega) (by omega) (by omega)
    omega
/-! what the reference tells of a word out of its table -/
/-- what the table says of the gaps G -/
structure Told (b : Int) (w : Nat) (G : List Int) (s : S62) : Prop where
  f0 : s.f0 = G
  ex : ∃ (u : List Int) (C : List (List Int)) (t : Nat), okw b w u ∧ Ev (fun k => impl_byGaps.f k G (w : Int) b) (vl b 0 u) ∧ C ≠ [] ∧ (∀ x ∈ C, okw b w x) ∧ Mc (gf b w) (C.map (vl b 0)) ∧ Ld (gf b w) (vl b 0 u) (C.map (vl b 0)) ∧ s.f1 = rd_L1 C 0 ∧ s.f2 = (t : Int) ∧ t ≤ 4294967296 ∧ TL (gf b w) (vl b 0 u) (C.map (vl b 0)) t
theorem tails_l0 {b : Int} (hb : 2 ≤ b ∧ b ≤ 16) {w : Nat} (hw : 1 ≤ w ∧ w ≤ 8) (rows : List (List Int)) (hrl : rows.length ≤ 4000) (hrows : ∀ G ∈ rows, G ∈ AG.dn (w / 2) (b.toNat - 1)) : ∀ (rest pre : List (List Int)) (i : Int) (acc : List S62), rows = pre ++ rest → i = (pre.length : Int) → acc.length ≤ pre.length →
    ∃ T : List S62, Ev (fun k => spec_gpTails.l0 k (w : Int) b acc rows (rows.length : Int) i) (acc ++ T) ∧ T.map S62.f0 = rest ∧ ∀ s ∈ T, Told b w s.f0 s := by
  intro rest
  induction rest with
  | nil =>
    intro pre i acc hp hi ha
    have hrp : rows.length = pre.length := by rw [hp]; simp
    exact ⟨[], Ev.step (fun k => by rw [spec_gpTails.l0]) (Ev.neg (by omega) (Ev.val (by simp))), rfl, by simp⟩
  | cons G rest ih =>
    intro pre i acc hp hi ha
    have hrp : rows.length = pre.length + (rest.length + 1) := by rw [hp]; simp
    have hrd : rd_L1 rows i = G := by rw [hp, hi]; exact rdL_mid _ _ _
    obtain ⟨u, hu, hby, hbi⟩ := gapw hb hw G (hrows G (by rw [hp]; simp))
    obtain ⟨C, hC0, hCl, hCw, hCs, hCm, hCd⟩ := cyc_ev hb hw u hu
    obtain ⟨W, at_, hat, hrun, htl⟩ := cycr_ev hb hw u hu
    have hv : wrap64 (i + 1) = ((pre ++ [G]).length : Int) := by rw [w64 (by omega) (by omega)]; simp; omega
    obtain ⟨T, i1, i2, i3⟩ := ih (pre ++ [G]) _ (acc ++ [⟨G, rd_L1 C 0, (at_ : Int)⟩]) (by rw [hp]; simp) hv (by simp; omega)
    refine ⟨⟨G, rd_L1 C 0, (at_ : Int)⟩ :: T, ?_, by simp [i2], fun s hs => ?_⟩
    · refine Ev.step (fun k => by rw [spec_gpTails.l0]) (Ev.pos (by omega) (Ev.pos (by omega) (Ev.pos (by omega) ?_)))
      rw [hrd]
      refine Ev.bind hby (Ev.bind hrun (Ev.bind hCs (Ev.pos (by have := List.length_pos_iff.mpr hC0; omega) (Ev.pos (by omega) ?_))))
      rw [List.append_assoc] at i1
      exact i1
    · rcases List.mem_cons.mp hs with rfl | hs
      · exact ⟨rfl, u, C, at_, hu, hbi, hC0, hCw, hCm, hCd, rfl, rfl, hat, htl _ hCm hCd⟩
      · exact i3 s hs
theorem tails_ev {b : Int} {w : Nat} (h : wb (w : Int) b) : ∃ T : List S62, Ev (fun k => spec_gpTails.f k (w : Int) b) T ∧ T.map S62.f0 = AG.dn (w / 2) (b.toNat - 1) ∧ T.length ≤ 4000 ∧ ∀ s ∈ T, Told b w s.f0 s := by
  have h' := h
  obtain ⟨hb, hw1, hw2⟩ := h'
  have hw : 1 ≤ w ∧ w ≤ 8 := by omega
  have hd1 := AG.dn_len (w / 2) (by omega) (b.toNat - 1) (by omega)
  have hga := gpAll_full (w : Int) b h
  rw [Int.toNat_natCast] at hga
  obtain ⟨T, h1, h2, h3⟩ := tails_l0 hb hw (AG.dn (w / 2) (b.toNat - 1)) hd1.1 (fun G hG => hG) (AG.dn (w / 2) (b.toNat - 1)) [] 0 [] rfl rfl (by simp)
  refine ⟨T, ?_, h2, by rw [← List.length_map (f := S62.f0), h2]; exact hd1.1, h3⟩
  unfold spec_gpTails.f
  exact Ev.bind hga h1
theorem told_l0 (G : List Int) (q : Nat) (hq : q ≤ 1000) (hG : G.length = q) (T : List S62) (hT : T.length ≤ 4000) (hTl : ∀ s ∈ T, s.f0.length = q) : ∀ (rest pre : List S62) (i : Int), T = pre ++ rest → i = (pre.length : Int) → G ∈ rest.map S62.f0 →
    ∃ s ∈ T, s.f0 = G ∧ Ev (fun k => spec_gpTold.l0 k T G i) (s.f0, s.f1, s.f2) := by
  intro rest
  induction rest with
  | nil => intro pre i _ _ h; cases h
  | cons s rest ih =>
    intro pre i hp hi hm
    have hrp : T.length = pre.length + (rest.length + 1) := by rw [hp]; simp
    have hrd : rd_T62 T i = s := by rw [hp, hi]; simp [rd_T62]
    have hsT : s ∈ T := by rw [hp]; simp
    have hsl := hTl s hsT
    have hs := same_ev (A := s.f0) (B := G) (by omega) (by omega)
    by_cases he : s.f0 = G
    · refine ⟨s, hsT, he, ?_⟩
      refine Ev.step (fun k => by rw [spec_gpTold.l0]) (Ev.pos (by omega) (Ev.pos (by omega) ?_))
      rw [hrd]
      exact Ev.bind hs (Ev.pos (by simp [he]) (Ev.now _))
    · have hv : wrap64 (i + 1) = ((pre ++ [s]).length : Int) := by rw [w64 (by omega) (by omega)]; simp; omega
      obtain ⟨s', h1, h2, h3⟩ := ih (pre ++ [s]) _ (by rw [hp]; simp) hv (by
        rw [List.map_cons] at hm
        exact (List.mem_cons.mp hm).resolve_left (fun e => he e.symm))
      refine ⟨s', h1, h2, ?_⟩
      refine Ev.step (fun k => by rw [spec_gpTold.l0]) (Ev.pos (by omega) (Ev.pos (by omega) ?_))
      rw [hrd]
      exact Ev.bind hs (Ev.neg (by simp [he]) h3)
/-- the table's word on a value -/
theorem told_ev {b : Int} (hb : 2 ≤ b ∧ b ≤ 16) {w : Nat} (hw : 1 ≤ w ∧ w ≤ 8) {T : List S62} (hT : T.length ≤ 4000) (hTm : T.map S62.f0 = AG.dn (w / 2) (b.toNat - 1)) (hTt : ∀ s ∈ T, Told b w s.f0 s) (v : Int) :
    ∃ (G : List Int) (C : List (List Int)) (t : Nat), G ∈ AG.dn (w / 2) (b.toNat - 1) ∧ Ev (fun k => impl_byGaps.f k G (w : Int) b) (gf b w v) ∧ Ev (fun k => spec_gpTold.f k T (wd b w v)) (G, rd_L1 C 0, (t : Int)) ∧ C ≠ [] ∧ (∀ x ∈ C, okw b w x) ∧ Mc (gf b w) (C.map (vl b 0)) ∧ t ≤ 4294967296 ∧ TL (gf b w) (gf b w v) (C.map (vl b 0)) t := by
  have hlen := wd_len b w v
  have hmem := wd_mem hb.1 w v
  have hup : (slices_Sort_int_int.so (wd b w v)).length = w := (gso_perm _).length_eq.trans hlen
  have hum : ∀ x ∈ slices_Sort_int_int.so (wd b w v), 0 ≤ x ∧ x < b := fun x hx => hmem x ((gso_perm _).mem_iff.mp hx)
  have hdn := gl_dn hb hw _ hup (gso_sorted _) hum
  have halg := gap_alg hb _ (by omega) (by omega) hum
  rw [hup] at halg
  have hby := byg_ev hb w hw (gl (slices_Sort_int_int.so (wd b w v))) (by simp [gl]; omega) (by simp [gl]; omega) (gl_mem hb _ (by omega) hum)
  rw [← halg] at hby
  obtain ⟨s, hsT, hs0, hev⟩ := told_l0 (gl (slices_Sort_int_int.so (wd b w v))) (w / 2) (by omega) (by simp [gl, hup]) T hT (fun s hs => by
    have : s.f0 ∈ AG.dn (w / 2) (b.toNat - 1) := by rw [← hTm]; exact List.mem_map.mpr ⟨s, hs, rfl⟩
    exact ((AG.dn_iff _ _ _).mp this).1) T [] 0 rfl rfl (by rw [hTm]; exact hdn)
  obtain ⟨_, u, C, t, hu, hbi, hC0, hCw, hCm, hCd, e1, e2, ht, htl⟩ := hTt s hsT
  rw [hs0] at hbi
  have hgv : vl b 0 u = gf b w v := Ev.uniq hbi hby
  rw [hgv] at htl
  refine ⟨s.f0, C, t, by rw [hs0]; exact hdn, by rw [hs0]; exact hby, ?_, hC0, hCw, hCm, ht, htl⟩
  unfold spec_gpTold.f
  refine Ev.bind (sgaps_ev _ (by omega)) ?_
  rw [← e1, ← e2]
  exact hev

theorem nd_snoc {S rest : List Int} {z : Int} (h : (S ++ z :: rest).Nodup) : ((S ++ [z]) ++ rest).Nodup := by simpa using h
theorem nd_out {S rest : List Int} {z : Int} (h : (S ++ z :: rest).Nodup) : z ∉ S := fun hz => (List.nodup_append.mp h).2.2 z hz z List.mem_cons_self rfl
theorem put_keys {F : Int → Int} {S : List Int} {z v : Int} (hF : ∀ x, F x ≠ 0 ↔ x ∈ S) (hv : v ≠ 0) : ∀ x, GM.put F z v x ≠ 0 ↔ x ∈ S ++ [z] := fun x => by
  unfold GM.put
  by_cases e : x = z
  · subst e
    simp [hv]
  · rw [if_neg e, hF x]
    simp [e]
theorem put_said {P : Int → Int → Prop} {F : Int → Int} {S : List Int} {z v : Int} (hz : z ∉ S) (hF : ∀ x ∈ S, P x (F x)) (hv : P z v) : ∀ x ∈ S ++ [z], P x (GM.put F z v x) := fun x hx => by
  unfold GM.put
  rcases List.mem_append.mp hx with h | h
  · have hne : ¬ x = z := fun e => by subst e; exact hz h
    rw [if_neg hne]
    exact hF x h
  · rw [List.mem_singleton] at h
    subst h
    rw [if_pos rfl]
    exact hv
theorem rcin_ev {P : Int → Int → Prop} {v : Int} (hv : v ≠ 0) (M : Nat) (hM : M ≤ 100000) (c : List Int) : ∀ (rest pre : List Int) (i : Int) (F : Int → Int) (S : List Int), c = pre ++ rest → i = (pre.length : Int) → c.length ≤ 4294967296 → (S ++ rest).Nodup → (∀ x ∈ S ++ rest, 0 ≤ x ∧ x < (M : Int)) → (∀ x, F x ≠ 0 ↔ x ∈ S) → (∀ x ∈ S, P x (F x)) → (∀ x ∈ rest, P x v) →
    ∃ F', Ev (fun k => RC.in_ v c k i F S.length) (F', (S ++ rest).length) ∧ (∀ x, F' x ≠ 0 ↔ x ∈ S ++ rest) ∧ ∀ x ∈ S ++ rest, P x (F' x)
  | [], pre, i, F, S, hp, hi, hl, hn, hr, hF, hP, hv2 => by
    have h1 : c.length = pre.length := by rw [hp]; simp
    exact ⟨F, Ev.step (fun k => by rw [RC.in_]) (Ev.neg (by omega) (Ev.val (by simp))), by simpa using hF, by simpa using hP⟩
  | z :: rest, pre, i, F, S, hp, hi, hl, hn, hr, hF, hP, hv2 => by
    have h1 : c.length = pre.length + (rest.length + 1) := by rw [hp]; simp
    have hz : rd c i = z := by rw [hp, hi]; exact rd_mid _ _ _
    have hzr := hr z (by simp)
    have hpi := pigeon M _ hn hr
    rw [List.length_append, List.length_cons] at hpi
    have w1 : wrap64 (i + 1) = ((pre ++ [z]).length : Int) := by rw [w64 (by omega) (by omega)]; simp; omega
    obtain ⟨F', e1, e2, e3⟩ := rcin_ev hv M hM c rest (pre ++ [z]) _ (GM.put F z v) (S ++ [z]) (by rw [hp]; simp) w1 hl (nd_snoc hn) (by simpa using hr) (put_keys hF hv) (put_said (nd_out hn) hP (hv2 z List.mem_cons_self)) (fun x hx => hv2 x (List.mem_cons_of_mem _ hx))
    have e : S ++ [z] ++ rest = S ++ z :: rest := by simp
    rw [e] at e1 e2 e3
    refine ⟨F', ?_, e2, e3⟩
    refine Ev.step (fun k => by rw [RC.in_]) (Ev.pos (by omega) (Ev.pos (by rw [hz]; exact ⟨by omega, by omega, wf_of (by omega) (by omega)⟩) ?_))
    rw [hz]
    have e4 : (S ++ [z]).length = S.length + 1 := by simp
    rw [e4] at e1
    exact e1
theorem rcrows_ev {P : Int → Int → Prop} {val : Int → Int} (M : Nat) (hM : M ≤ 100000) (rows : List (List Int)) (hl : rows.length ≤ 4000) (hlc : ∀ c ∈ rows, c.length ≤ 4294967296) : ∀ (rest pre : List (List Int)) (i : Int) (F : Int → Int) (S : List Int), rows = pre ++ rest → i = (pre.length : Int) → (S ++ rest.flatten).Nodup → (∀ x ∈ S ++ rest.flatten, 0 ≤ x ∧ x < (M : Int)) → (∀ x, F x ≠ 0 ↔ x ∈ S) → (∀ x ∈ S, P x (F x)) → (∀ j : Nat, j < rows.length → val (j : Int) ≠ 0 ∧ ∀ x ∈ rd_L1 rows (j : Int), P x (val (j : Int))) →
    ∃ F', Ev (fun k => RC.rows val rows k i F S.length) (F', (S ++ rest.flatten).length) ∧ (∀ x, F' x ≠ 0 ↔ x ∈ S ++ rest.flatten) ∧ ∀ x ∈ S ++ rest.flatten, P x (F' x)
  | [], pre, i, F, S, hp, hi, hn, hr, hF, hP, hv2 => by
    have h1 : rows.length = pre.length := by rw [hp]; simp
    exact ⟨F, Ev.step (fun k => by rw [RC.rows]) (Ev.neg (by omega) (Ev.val (by simp))), by simpa using hF, by simpa using hP⟩
  | c :: rest, pre, i, F, S, hp, hi, hn, hr, hF, hP, hv2 => by
    have h1 : rows.length = pre.length + (rest.length + 1) := by rw [hp]; simp
    have hz : rd_L1 rows i = c := by rw [hp, hi]; exact rdL_mid _ _ _
    have hcr : c ∈ rows := by rw [hp]; simp
    have w1 : wrap64 (i + 1) = ((pre ++ [c]).length : Int) := by rw [w64 (by omega) (by omega)]; simp; omega
    have hv3 := hv2 pre.length (by omega)
    rw [← hi, hz] at hv3
    have e : S ++ (c :: rest).flatten = (S ++ c) ++ rest.flatten := by simp
    rw [e] at hn hr ⊢
    obtain ⟨F1, a1, a2, a3⟩ := rcin_ev hv3.1 M hM c c [] 0 F S rfl rfl (hlc c hcr) (List.nodup_append.mp hn).1 (fun x hx => hr x (List.mem_append.mpr (.inl hx))) hF hP hv3.2
    obtain ⟨F', e1, e2, e3⟩ := rcrows_ev M hM rows hl hlc rest (pre ++ [c]) _ F1 (S ++ c) (by rw [hp]; simp) w1 hn hr a2 a3 hv2
    refine ⟨F', ?_, e2, e3⟩
    refine Ev.step (fun k => by rw [RC.rows]) (Ev.pos (by omega) (Ev.pos (by omega) ?_))
    rw [hz]
    exact Ev.bind a1 e1
theorem rcback_ev {P : Int → Int → Prop} {val : Int → Int → Int} (M : Nat) (hM : M ≤ 100000) (x fx : Int) (hx : 0 ≤ x ∧ x < (M : Int)) (W : List Int) (hW : ∀ pre z rest, W = pre ++ z :: rest → P z (val fx (pre.length : Int)) ∧ val fx (pre.length : Int) ≠ 0 ∧ (Lit.int .i64 (val fx (pre.length : Int))).wf = true) : ∀ (rest pre : List Int) (i : Int) (F : Int → Int) (S : List Int), W = pre ++ rest → i = (pre.length : Int) → x ∈ S → F x = fx → (S ++ rest).Nodup → (∀ x ∈ S ++ rest, 0 ≤ x ∧ x < (M : Int)) → W.length ≤ 100000 → (∀ x, F x ≠ 0 ↔ x ∈ S) → (∀ x ∈ S, P x (F x)) →
    ∃ F', Ev (fun k => RC.back val x W k i F S.length) (F', (S ++ rest).length) ∧ (∀ x, F' x ≠ 0 ↔ x ∈ S ++ rest) ∧ ∀ x ∈ S ++ rest, P x (F' x)
  | [], pre, i, F, S, hp, hi, hxS, hfx, hn, hr, hl, hF, hP => by
    have h1 : W.length = pre.length := by rw [hp]; simp
    exact ⟨F, Ev.step (fun k => by rw [RC.back]) (Ev.neg (by omega) (Ev.val (by simp))), by simpa using hF, by simpa using hP⟩
  | z :: rest, pre, i, F, S, hp, hi, hxS, hfx, hn, hr, hl, hF, hP => by
    have h1 : W.length = pre.length + (rest.length + 1) := by rw [hp]; simp
    have hz : rd W i = z := by rw [hp, hi]; exact rd_mid _ _ _
    have hzr := hr z (by simp)
    have hpi := pigeon M _ hn hr
    rw [List.length_append, List.length_cons] at hpi
    have w1 : wrap64 (i + 1) = ((pre ++ [z]).length : Int) := by rw [w64 (by omega) (by omega)]; simp; omega
    obtain ⟨v1, v2, v3⟩ := hW pre z rest hp
    have hzx : x ≠ z := fun e => by subst e; exact nd_out hn hxS
    obtain ⟨F', e1, e2, e3⟩ := rcback_ev M hM x fx hx W hW rest (pre ++ [z]) _ (GM.put F z (val fx (pre.length : Int))) (S ++ [z]) (by rw [hp]; simp) w1 (List.mem_append.mpr (.inl hxS)) (by unfold GM.put; rw [if_neg hzx]; exact hfx) (nd_snoc hn) (by simpa using hr) hl (put_keys hF v2) (put_said (nd_out hn) hP v1)
    have e : S ++ [z] ++ rest = S ++ z :: rest := by simp
    rw [e] at e1 e2 e3
    refine ⟨F', ?_, e2, e3⟩
    refine Ev.step (fun k => by rw [RC.back]) (Ev.pos (by omega) (Ev.pos (by rw [hz, hfx, hi]; exact ⟨by omega, by omega, wf_of (by omega) (by omega), v3, wf_of (by omega) (by omega)⟩) ?_))
    rw [hz, hfx]
    have e4 : (S ++ [z]).length = S.length + 1 := by simp
    rw [e4, ← hi] at e1
    exact e1
theorem rcway_ev {b : Int} (hb : 2 ≤ b ∧ b ≤ 16) {w : Nat} (hw : 1 ≤ w ∧ w ≤ 8) (M : Nat) (hM : M ≤ 100000) (hbw : b ^ w = (M : Int)) (n0 : Int) (c : List Int) (F : Int → Int) (S : List Int) (hF : ∀ x, F x ≠ 0 ↔ x ∈ S) (hS : ∀ x ∈ S, 0 ≤ x ∧ x < (M : Int)) (hcS : ∀ x ∈ c, x ∈ S) : ∀ (t : Nat) (W : List Int) (n : Int), TL (gf b w) n c t → 0 ≤ n → n < (M : Int) → (S ++ W).Nodup → (∀ x ∈ W, 0 ≤ x ∧ x < (M : Int)) → (∀ y ∈ W, ∃ s, t < s ∧ TL (gf b w) y c s) → Ch (gf b w) n0 W n →
    ∃ (W' : List Int) (x : Int) (s : Nat), Ev (fun k => RC.way (w : Int) b F k W n) (W', x) ∧ TL (gf b w) x c s ∧ x ∈ S ∧ (S ++ W').Nodup ∧ (∀ x ∈ W', 0 ≤ x ∧ x < (M : Int)) ∧ Ch (gf b w) n0 W' x := by
  intro t
  induction t with
  | zero =>
    intro W n htl h0 h1 hn hW hWt hch
    have hnS := hcS n (tl_of_zero htl)
    have hpi := pigeon M _ hn (fun x hx => (List.mem_append.mp hx).elim (hS x) (hW x))
    rw [List.length_append] at hpi
    exact ⟨W, n, 0, Ev.step (fun k => by rw [RC.way]) (Ev.pos (show (Lit.int .i64 n).wf = true ∧ W.length < 5000000000 from ⟨wf_of (by omega) (by omega), by omega⟩) (Ev.neg ((hF n).mpr hnS) (Ev.now _))), htl, hnS, hn, hW, hch⟩
  | succ t ih =>
    intro W n htl h0 h1 hn hW hWt hch
    have hpi := pigeon M _ hn (fun x hx => (List.mem_append.mp hx).elim (hS x) (hW x))
    rw [List.length_append] at hpi
    by_cases hnS : n ∈ S
    · exact ⟨W, n, t + 1, Ev.step (fun k => by rw [RC.way]) (Ev.pos (show (Lit.int .i64 n).wf = true ∧ W.length < 5000000000 from ⟨wf_of (by omega) (by omega), by omega⟩) (Ev.neg ((hF n).mpr hnS) (Ev.now _))), htl, hnS, hn, hW, hch⟩
    · obtain ⟨s0, s1, s3⟩ := gf_ev hb hw n h0 (by omega)
      have hnW : n ∉ W := fun h => by
        obtain ⟨s, hs, htl2⟩ := hWt n h
        have := tl_det htl htl2
        omega
      obtain ⟨W', x, s, e1, e2⟩ := ih (W ++ [n]) (gf b w n) (tl_next htl) s0 (by omega) (by
          rw [← List.append_assoc]
          refine List.nodup_append.mpr ⟨hn, by simp, fun a ha d hd e => ?_⟩
          rw [List.mem_singleton] at hd
          subst hd e
          exact (List.mem_append.mp ha).elim hnS hnW) (fun x hx => by
          rcases List.mem_append.mp hx with h | h
          · exact hW x h
          · rw [List.mem_singleton] at h; omega) (fun y hy => by
          rcases List.mem_append.mp hy with h | h
          · obtain ⟨s, hs, h⟩ := hWt y h
            exact ⟨s, by omega, h⟩
          · rw [List.mem_singleton] at h
            subst h
            exact ⟨t + 1, by omega, htl⟩) (ch_snoc hch)
      refine ⟨W', x, s, ?_, e2⟩
      have hFn : F n = 0 := Classical.byContradiction fun h => hnS ((hF n).mp h)
      exact Ev.step (fun k => by rw [RC.way]) (Ev.pos (show (Lit.int .i64 n).wf = true ∧ W.length < 5000000000 from ⟨wf_of (by omega) (by omega), by omega⟩) (Ev.pos hFn (Ev.bind s3 e1)))
/-! cycles, and where each value goes -/
def cyl (b : Int) (out : List (List (List Int))) (j : Nat) : List Int := (rd_L2 out (j : Int)).map (vl b 0)
structure RR (b : Int) (w : Nat) (out : List (List (List Int))) (T : List S62) (J U : Int → Nat) : Prop where
  len : out.length ≤ 4000
  wok : ∀ c ∈ out, c ≠ [] ∧ c.length ≤ 4294967296 ∧ ∀ x ∈ c, okw b w x
  mc : ∀ j, j < out.length → Mc (gf b w) (cyl b out j)
  inj : ∀ i j, i < out.length → j < out.length → ∀ x, x ∈ cyl b out i → x ∈ cyl b out j → i = j
  nd : (out.map (List.map (vl b 0))).flatten.Nodup
  goes : ∀ v, 0 ≤ v → v < b ^ w → J v < out.length ∧ TL (gf b w) v (cyl b out (J v)) (U v) ∧ U v ≤ 4294967297
  told : ∀ v, 0 ≤ v → v < b ^ w → ∃ (G : List Int) (C : List (List Int)) (t : Nat), Ev (fun k => spec_gpTold.f k T (wd b w v)) (G, rd_L1 C 0, (t : Int)) ∧ C ≠ [] ∧ (∀ x ∈ C, okw b w x) ∧ C.map (vl b 0) = cyl b out (J v) ∧ t ≤ 4294967296 ∧ TL (gf b w) (gf b w v) (cyl b out (J v)) t
theorem cyl_get {b : Int} {out : List (List (List Int))} {j : Nat} (h : j < out.length) : cyl b out j = (out[j]).map (vl b 0) := by simp [cyl, rd_L2, h]
theorem rr_ev {b : Int} {w : Nat} (h : wb (w : Int) b) : ∃ (out : List (List (List Int))) (T : List S62) (J U : Int → Nat), Ev (fun k => spec_gpCycles.f k (w : Int) b) out ∧ Ev (fun k => impl_gapCycles.f k (w : Int) b) (out.map (List.map (vl b 0))) ∧ Ev (fun k => spec_gpTails.f k (w : Int) b) T ∧ RR b w out T J U := by
  have h' := h
  obtain ⟨hb, hw1, hw2⟩ := h'
  have hw : 1 ≤ w ∧ w ≤ 8 := by omega
  obtain ⟨out, e1, e2, e3, e4, e5, e6, e7⟩ := gpCyclesB_ev h
  obtain ⟨T, t1, t2, t3, t4⟩ := tails_ev h
  have hinj : ∀ i j, i < out.length → j < out.length → ∀ x, x ∈ cyl b out i → x ∈ cyl b out j → i = j := by
    have key : ∀ i j (hi : i < out.length) (hj : j < out.length), i < j → ∀ x, x ∈ cyl b out i → x ∈ cyl b out j → False := by
      intro i j hi hj hij x h1 h2
      have h3 := List.pairwise_iff_getElem.mp e6 i j hi hj hij
      rw [cyl_get hi] at h1
      rw [cyl_get hj] at h2
      have h4 := e5 _ (List.getElem_mem hi)
      have h5 := e5 _ (List.getElem_mem hj)
      have h6 := mc_unique h4 h5 ⟨[], x, rfl, h1⟩ ⟨[], x, rfl, h2⟩
      obtain ⟨e, t, he, _⟩ := h4.1
      have h7 := hd_head he
      rw [h6] at he
      have h8 := hd_head he
      omega
    intro i j hi hj x h1 h2
    rcases Nat.lt_trichotomy i j with h | h | h
    · exact (key i j hi hj h x h1 h2).elim
    · exact h
    · exact (key j i hj hi h x h2 h1).elim
  have hto : ∀ v, ∃ p : Nat × Nat, 0 ≤ v → v < b ^ w → (p.1 < out.length ∧ TL (gf b w) v (cyl b out p.1) p.2 ∧ p.2 ≤ 4294967297) ∧ ∃ (G : List Int) (C : List (List Int)) (t : Nat), Ev (fun k => spec_gpTold.f k T (wd b w v)) (G, rd_L1 C 0, (t : Int)) ∧ C ≠ [] ∧ (∀ x ∈ C, okw b w x) ∧ C.map (vl b 0) = cyl b out p.1 ∧ t ≤ 4294967296 ∧ TL (gf b w) (gf b w v) (cyl b out p.1) t := by
    intro v
    obtain ⟨G, C, t, g1, g2, g3, g4, g5, g6, g7, g8⟩ := told_ev hb hw t3 t2 t4 v
    obtain ⟨u, u1, _, u3, c, hc, hl⟩ := e7 G g1
    have hgv : vl b 0 u = gf b w v := Ev.uniq u3 g2
    rw [hgv] at hl
    have hcc : c.map (vl b 0) = C.map (vl b 0) := mc_unique (e5 c hc) g6 hl (tl_ld g8)
    obtain ⟨j, hj, rfl⟩ := List.mem_iff_getElem.mp hc
    rw [← cyl_get hj] at hcc
    rw [← hcc] at g8
    by_cases hv : v ∈ cyl b out j
    · exact ⟨(j, 0), fun _ _ => ⟨⟨hj, tl_zero hv, by omega⟩, G, C, t, g3, g4, g5, hcc.symm, g7, g8⟩⟩
    · exact ⟨(j, t + 1), fun _ _ => ⟨⟨hj, tl_step g8 hv, by show t + 1 ≤ _; omega⟩, G, C, t, g3, g4, g5, hcc.symm, g7, g8⟩⟩
  obtain ⟨p, hp⟩ := Classical.axiomOfChoice hto
  refine ⟨out, T, fun v => (p v).1, fun v => (p v).2, e1, e2, t1, ⟨e3, e4, fun j hj => ?_, hinj, ?_, fun v h0 h1 => (hp v h0 h1).1, fun v h0 h1 => (hp v h0 h1).2⟩⟩
  · rw [cyl_get hj]
    exact e5 _ (List.getElem_mem hj)
  · refine List.pairwise_flatten.mpr ⟨fun l hl => ?_, ?_⟩
    · obtain ⟨c, hc, rfl⟩ := List.mem_map.mp hl
      exact (e5 c hc).2.1
    · rw [List.pairwise_iff_getElem]
      intro i j hi hj hij x hx y hy e
      subst e
      rw [List.length_map] at hi hj
      rw [List.getElem_map, ← cyl_get hi] at hx
      rw [List.getElem_map, ← cyl_get hj] at hy
      have := hinj i j hi hj x hx hy
      omega
theorem RR.uniq {b : Int} {w : Nat} {out : List (List (List Int))} {T : List S62} {J U : Int → Nat} (R : RR b w out T J U) {v : Int} (h0 : 0 ≤ v) (h1 : v < b ^ w) {j : Nat} (hj : j < out.length) (hl : Ld (gf b w) v (cyl b out j)) : j = J v := by
  obtain ⟨g1, g2, _⟩ := R.goes v h0 h1
  have h := mc_unique (R.mc j hj) (R.mc _ g1) hl (tl_ld g2)
  obtain ⟨A, m, _, hm⟩ := hl
  exact R.inj _ _ hj g1 m hm (h ▸ hm)
structure Inv (b : Int) (w : Nat) (out : List (List (List Int))) (P : Int → Int → Prop) (S : List Int) (F : Int → Int) : Prop where
  nd : S.Nodup
  rg : ∀ x ∈ S, 0 ≤ x ∧ x < b ^ w
  keys : ∀ x, F x ≠ 0 ↔ x ∈ S
  said : ∀ x ∈ S, P x (F x)
  cyc : ∀ j, j < out.length → ∀ x ∈ cyl b out j, x ∈ S
theorem cyl_rng {b : Int} (hb : 2 ≤ b ∧ b ≤ 16) {w : Nat} {out : List (List (List Int))} (hok : ∀ c ∈ out, c ≠ [] ∧ c.length ≤ 4294967296 ∧ ∀ x ∈ c, okw b w x) {j : Nat} (hj : j < out.length) : ∀ x ∈ cyl b out j, 0 ≤ x ∧ x < b ^ w := by
  intro x hx
  rw [cyl_get hj] at hx
  obtain ⟨y, hy, rfl⟩ := List.mem_map.mp hx
  exact vl_rng hb ((hok _ (List.getElem_mem hj)).2.2 y hy)
theorem inv_start {b : Int} (hb : 2 ≤ b ∧ b ≤ 16) {w M : Nat} (hM : M ≤ 100000) (hbw : b ^ w = (M : Int)) {out : List (List (List Int))} {T : List S62} {J U : Int → Nat} (R : RR b w out T J U) {P : Int → Int → Prop} {val : Int → Int} (hv : ∀ j : Nat, j < out.length → val (j : Int) ≠ 0 ∧ ∀ x ∈ cyl b out j, P x (val (j : Int))) :
    ∃ (S : List Int) (F : Int → Int), Ev (fun k => RC.rows val (out.map (List.map (vl b 0))) k 0 (fun _ => 0) 0) (F, S.length) ∧ Inv b w out P S F := by
  have hrows : ∀ j : Nat, j < out.length → rd_L1 (out.map (List.map (vl b 0))) (j : Int) = cyl b out j := fun j hj => by rw [cyl_get hj]; simp [rd_L1, hj]
  have hfl : ∀ x ∈ (out.map (List.map (vl b 0))).flatten, 0 ≤ x ∧ x < b ^ w := fun x hx => by
    obtain ⟨l, hl, hxl⟩ := List.mem_flatten.mp hx
    obtain ⟨c, hc, rfl⟩ := List.mem_map.mp hl
    obtain ⟨y, hy, rfl⟩ := List.mem_map.mp hxl
    exact vl_rng hb ((R.wok c hc).2.2 y hy)
  obtain ⟨F, e1, e2, e3⟩ := rcrows_ev (P := P) (val := val) M hM (out.map (List.map (vl b 0))) (by rw [List.length_map]; exact R.len) (fun c hc => by
    obtain ⟨d, hd, rfl⟩ := List.mem_map.mp hc
    rw [List.length_map]
    exact (R.wok d hd).2.1) _ [] 0 (fun _ => 0) [] rfl rfl (by simpa using R.nd) (fun x hx => by have := hfl x (by simpa using hx); omega) (by simp) (by simp) (fun j hj => by
    rw [List.length_map] at hj
    rw [hrows j hj]
    exact hv j hj)
  rw [List.nil_append] at e1 e2 e3
  refine ⟨_, F, e1, R.nd, hfl, e2, e3, fun j hj x hx => ?_⟩
  rw [cyl_get hj] at hx
  exact List.mem_flatten.mpr ⟨_, List.mem_map.mpr ⟨_, List.getElem_mem hj, rfl⟩, hx⟩
theorem not_b {b : Int} {w : Nat} (hb : 2 ≤ b ∧ b ≤ 16) (hw : 1 ≤ w ∧ w ≤ 8) (h : b ^ w ≤ 100000) : ((b ^ w) == 0) = false := by
  have := (pow_le8 hb hw.2).1
  simp
  omega
theorem isFew_ev (a b : Int) : Ev (fun k => impl_isFew.f k a b) (decide (wb a b ∧ b ^ a.toNat ≤ 100000)) := by
  unfold impl_isFew.f
  refine Ev.pure (impl_isBase_eq b) ?_
  by_cases h1 : 2 ≤ b ∧ b ≤ 16
  · refine Ev.pos (decide_eq_true h1) ?_
    by_cases h2 : 1 ≤ a ∧ a ≤ 8
    · have hW : impl_isWidth.f a = some true := by
        unfold impl_isWidth.f
        rw [impl_in_eq, decide_eq_true h2]
        rfl
      refine Ev.pure hW (Ev.pos rfl ?_)
      have ht := toPow_ev h1 (show a.toNat ≤ 8 by omega)
      rw [Int.toNat_of_nonneg (by omega)] at ht
      refine Ev.bind ht (Ev.val ?_)
      simp [show wb a b from ⟨h1, h2⟩]
    · have hW : impl_isWidth.f a = some false := by
        unfold impl_isWidth.f
        rw [impl_in_eq, decide_eq_false h2]
        rfl
      refine Ev.pure hW (Ev.neg (by decide) (Ev.val ?_))
      have : ¬ wb a b := fun h => h2 h.2
      simp [this]
  · refine Ev.neg (by simpa using h1) (Ev.val ?_)
    have : ¬ wb a b := fun h => h1 h.1
    simp [this]

def cnt (x : Int) : Nat → List Int
  | 0 => []
  | m + 1 => x :: cnt (x + 1) m
theorem cnt_length : ∀ (m : Nat) (x : Int), (cnt x m).length = m
  | 0, _ => rfl
  | m + 1, x => by simp [cnt, cnt_length m]
theorem mark_l0 : ∀ (rest pre : List Int) (x i : Int), i = (pre.length : Int) → pre.length + rest.length ≤ 4611686018427387904 → 0 ≤ x → x + rest.length ≤ 4611686018427387904 →
    Ev (fun k => laws_markIntS.l0 k (pre ++ rest) x i) (x + rest.length, pre ++ cnt x rest.length)
  | [], pre, x, i, hi, hl, hx, hx2 => by
    refine Ev.step (fun k => by rw [laws_markIntS.l0]) (Ev.neg (by simp; omega) (Ev.val ?_))
    simp [cnt]
  | a :: rest, pre, x, i, hi, hl, hx, hx2 => by
    simp only [List.length_cons] at hl hx2
    refine Ev.step (fun k => by rw [laws_markIntS.l0]) (Ev.pos (by simp; omega) (Ev.pos (by omega) ?_))
    rw [w64 (x := x + 1) (by omega) (by omega), w64 (x := i + 1) (by omega) (by omega)]
    have e : (pre ++ a :: rest).set i.toNat x = (pre ++ [x]) ++ rest := by subst hi; simp
    have ih := mark_l0 rest (pre ++ [x]) (x + 1) (i + 1) (by simp; omega) (by simp; omega) (by omega) (by omega)
    rw [e]
    have e2 : (x + ((a :: rest).length : Int), pre ++ cnt x (a :: rest).length) = (x + 1 + (rest.length : Int), (pre ++ [x]) ++ cnt (x + 1) rest.length) := by
      simp [cnt]; omega
    rw [e2]; exact ih
theorem held_l0 : ∀ (m : Nat) (pre : List Int) (x i : Int), i = (pre.length : Int) → pre.length + m ≤ 4611686018427387904 → 0 ≤ x → x + m ≤ 4611686018427387904 →
    Ev (fun k => laws_heldIntS.l0 k (pre ++ cnt x m) x i) (x + m)
  | 0, pre, x, i, hi, hl, hx, hx2 => by
    refine Ev.step (fun k => by rw [laws_heldIntS.l0]) (Ev.neg (by simp [cnt]; omega) (Ev.val ?_))
    simp
  | m + 1, pre, x, i, hi, hl, hx, hx2 => by
    have hr : rd (pre ++ cnt x (m + 1)) i = x := by rw [hi, cnt]; exact rd_mid _ _ _
    refine Ev.step (fun k => by rw [laws_heldIntS.l0]) (Ev.pos (by simp [cnt_length]; omega) (Ev.pos (by omega) (Ev.pos hr ?_)))
    rw [w64 (x := x + 1) (by omega) (by omega), w64 (x := i + 1) (by omega) (by omega)]
    have ih := held_l0 m (pre ++ [x]) (x + 1) (i + 1) (by simp; omega) (by simp; omega) (by omega) (by omega)
    have e : pre ++ cnt x (m + 1) = (pre ++ [x]) ++ cnt (x + 1) m := by simp [cnt]
    have e2 : x + ((m + 1 : Nat) : Int) = x + 1 + (m : Int) := by omega
    rw [e, e2]; exact ih
theorem eq_l0 (l : List Int) (hl : l.length ≤ 4611686018427387904) : ∀ (m : Nat) (i : Int), 0 ≤ i → ((l.length : Int) - i).toNat < m → Ev (fun k => laws_eqIntS.l0 k l l i) true
  | 0, _, _, h => by omega
  | m + 1, i, h0, h => by
    by_cases hlt : i < (l.length : Int)
    · refine Ev.step (fun k => by rw [laws_eqIntS.l0]) (Ev.pos hlt (Ev.pos h0 (Ev.pos hlt (Ev.pos rfl ?_))))
      rw [w64 (by omega) (by omega)]
      exact eq_l0 l hl m (i + 1) (by omega) (by omega)
    · exact Ev.step (fun k => by rw [laws_eqIntS.l0]) (Ev.neg hlt (Ev.now _))
theorem eq_ev (l : List Int) (hl : l.length ≤ 4611686018427387904) : Ev (fun k => laws_eqIntS.f k l l) true := Ev.pos rfl (eq_l0 l hl _ 0 (by omega) (Nat.lt_succ_self _))

theorem mark_ev (l : List Int) (hl : l.length ≤ 4000000000000000000) : Ev (fun k => laws_markIntS.f k l 1) (1 + l.length, cnt 1 l.length) := by
  have := mark_l0 l [] 1 0 (by simp) (by simp; omega) (by omega) (by omega)
  unfold laws_markIntS.f
  simpa using this
theorem held_ev (m : Nat) (hl : m ≤ 4000000000000000000) : Ev (fun k => laws_heldIntS.f k (cnt 1 m) 1) (1 + m) := by
  have := held_l0 m [] 1 0 (by simp) (by simp; omega) (by omega) (by omega)
  unfold laws_heldIntS.f
  simpa using this
theorem not_neg (n : Nat) : ¬ 1 + (n : Int) < 0 := by omega

theorem cr_l1 {b : Int} (hb : 2 ≤ b ∧ b ≤ 16) {w : Nat} (hw : 1 ≤ w ∧ w ≤ 8) {out : List (List (List Int))} {T : List S62} {J U : Int → Nat} (R : RR b w out T J U) (O : List Int) (hO : O.length = out.length) (n : Int) (jt : Nat) (hjt : jt < out.length) (C : List (List Int)) (hC : C ≠ []) (hCw : ∀ x ∈ C, okw b w x) (hCj : C.map (vl b 0) = cyl b out jt) (G : List Int) (t : Int) (r : List Int × Bool)
    (hr : Ev (fun k => spec_CountReaching.l0 k (w : Int) b out T (O.set jt (wrap64 (rd O (jt : Int) + 1))) (wrap64 (n + 1))) r) : ∀ (m i : Nat), i + m = out.length → Ev (fun k => spec_CountReaching.l1 k (w : Int) b out T (if i ≤ jt then O else O.set jt (wrap64 (rd O (jt : Int) + 1))) n out (out.length : Int) (i : Int) G (rd_L1 C 0) t) r
  | 0, i, hi => by
    rw [if_neg (by omega)]
    exact Ev.step (fun k => by rw [spec_CountReaching.l1]) (Ev.neg (by omega) hr)
  | m + 1, i, hi => by
    have hiO : i < out.length := by omega
    have ih := cr_l1 hb hw R O hO n jt hjt C hC hCw hCj G t r hr m (i + 1) (by omega)
    have hlen := R.len
    have w1 : wrap64 ((i : Int) + 1) = ((i + 1 : Nat) : Int) := by rw [w64 (by omega) (by omega)]; omega
    have hrd : rd_L2 out (i : Int) = out[i] := by simp [rd_L2, hiO]
    obtain ⟨o1, o2, o3⟩ := R.wok _ (List.getElem_mem hiO)
    have hok := hd_ok o1 o3
    have hCk := hd_ok hC hCw
    have hsm : Ev (fun k => spec_l1Same.f k (rd_L1 (rd_L2 out (i : Int)) 0) (rd_L1 C 0)) (decide (i = jt)) := by
      rw [hrd]
      have h := same_ev (A := rd_L1 out[i] 0) (B := rd_L1 C 0) (hok.1.trans hCk.1.symm) (by rw [hok.1]; omega)
      have hd0 : vl b 0 (rd_L1 out[i] 0) ∈ cyl b out i := by
        rw [cyl_get hiO]
        exact List.mem_map.mpr ⟨_, rdL_mem _ 0 (List.length_pos_iff.mpr o1), rfl⟩
      have e : (rd_L1 out[i] 0 = rd_L1 C 0) ↔ i = jt := by
        constructor
        · intro e
          refine R.inj i jt hiO hjt _ hd0 ?_
          rw [e, ← hCj]
          exact List.mem_map.mpr ⟨_, rdL_mem _ 0 (List.length_pos_iff.mpr hC), rfl⟩
        · rintro rfl
          refine vl_inj hb.1 hok hCk ?_
          obtain ⟨e, t, he, _⟩ := (R.mc i hiO).1
          rw [cyl_get hiO] at he
          have h1 := hd_head he
          have h2 : hd b C = e := hd_head (hCj.trans ((cyl_get hiO).trans he))
          exact h1.trans h2.symm
      rw [show decide (i = jt) = decide (rd_L1 out[i] 0 = rd_L1 C 0) by simp [e]]
      exact h
    refine Ev.step (fun k => by rw [spec_CountReaching.l1]) (Ev.pos (by omega) (Ev.pos (by omega) (Ev.pos (by omega) (Ev.pos (by rw [hrd]; have := List.length_pos_iff.mpr o1; omega) (Ev.bind hsm ?_)))))
    rw [w1]
    by_cases h : i = jt
    · subst h
      rw [if_neg (by omega)] at ih
      rw [if_pos (Nat.le_refl _)]
      refine Ev.pos (by simp) (Ev.pos (by omega) ?_)
      rw [Int.toNat_natCast]
      exact ih
    · refine Ev.neg (by simp [h]) ?_
      have e : (if i ≤ jt then O else O.set jt (wrap64 (rd O (jt : Int) + 1))) = if i + 1 ≤ jt then O else O.set jt (wrap64 (rd O (jt : Int) + 1)) := by
        by_cases h2 : i ≤ jt
        · rw [if_pos h2, if_pos (by omega)]
        · rw [if_neg h2, if_neg (by omega)]
      rw [e]
      exact ih
def told1 (J : Int → Nat) (x v : Int) : Prop := v = (J x : Int) + 1
theorem cr_main {b : Int} (hb : 2 ≤ b ∧ b ≤ 16) {w : Nat} (hw : 1 ≤ w ∧ w ≤ 8) {M : Nat} (hM : M ≤ 100000) (hbw : b ^ w = (M : Int)) {out : List (List (List Int))} {T : List S62} {J U : Int → Nat} (R : RR b w out T J U) : ∀ (m n : Nat), n + m = M → ∀ (O S : List Int) (F : Int → Int), O.length = out.length → Inv b w out (told1 J) S F →
    ∃ O', O'.length = out.length ∧ Ev (fun k => spec_CountReaching.l0 k (w : Int) b out T O (n : Int)) (O', true) ∧ Ev (fun k => impl_CountReaching.main (w : Int) b (M : Int) k (n : Int) O F S.length) O'
  | 0, n, hn, O, S, F, hO, hI => by
    have hf := few_ev hb w hw.2
    rw [if_pos (by omega), hbw] at hf
    refine ⟨O, hO, ?_, ?_⟩
    · refine Ev.step (fun k => by rw [spec_CountReaching.l0]) ?_
      exact Ev.bind hf (Ev.neg (by omega) (Ev.now _))
    · refine Ev.step (fun k => by rw [impl_CountReaching.main]) ?_
      exact Ev.neg (by omega) (Ev.now _)
  | m + 1, n, hn, O, S, F, hO, hI => by
    have hf := few_ev hb w hw.2
    rw [if_pos (by omega), hbw] at hf
    have w1 : wrap64 ((n : Int) + 1) = ((n + 1 : Nat) : Int) := by rw [w64 (by omega) (by omega)]; omega
    have hnr : (0 : Int) ≤ n ∧ (n : Int) < b ^ w := by omega
    have hlen := R.len
    obtain ⟨g1, g2, _⟩ := R.goes n hnr.1 hnr.2
    obtain ⟨G, C, t, t1, t2, t3, t4, _, _⟩ := R.told n hnr.1 hnr.2
    have hSM : ∀ x ∈ S, 0 ≤ x ∧ x < (M : Int) := fun x hx => by have := hI.rg x hx; omega
    obtain ⟨W, x, s, a1, a2, a3, a4, a5, a6⟩ := rcway_ev hb hw M hM hbw (n : Int) _ F S hI.keys hSM (hI.cyc _ g1) _ [] (n : Int) g2 hnr.1 (by omega) (by simpa using hI.nd) (by simp) (by simp) rfl
    have hxr := hSM x a3
    have hJx : J n = J x := R.uniq hxr.1 (by omega) g1 (tl_ld a2)
    have hFx : F x = (J n : Int) + 1 := by rw [hJx]; exact hI.said x a3
    have hWJ : ∀ z ∈ W, J n = J z := fun z hz => by
      have := a5 z hz
      exact R.uniq this.1 (by omega) g1 (ch_ld a6 (tl_ld a2) z hz)
    have hpi := pigeon M _ a4 (fun x hx => (List.mem_append.mp hx).elim (hSM x) (a5 x))
    rw [List.length_append] at hpi
    obtain ⟨F', b1, b2, b3⟩ := rcback_ev (P := told1 J) (val := fun v _ => v) M hM x ((J n : Int) + 1) hxr W (fun pre z rest e => ⟨by rw [hWJ z (by rw [e]; simp)]; rfl, by omega, wf_of (by omega) (by omega)⟩) W [] 0 F S rfl rfl a3 hFx a4 (fun x hx => (List.mem_append.mp hx).elim (hSM x) (a5 x)) (by omega) hI.keys hI.said
    have hI2 : Inv b w out (told1 J) (S ++ W) F' := ⟨a4, fun x hx => by have := (List.mem_append.mp hx).elim (hSM x) (a5 x); omega, b2, b3, fun j hj x hx => List.mem_append.mpr (.inl (hI.cyc j hj x hx))⟩
    have hF'x : F' x = (J n : Int) + 1 := by rw [hJx]; exact b3 x (List.mem_append.mpr (.inl a3))
    have e1 : wrap64 (F' x - 1) = (J n : Int) := by rw [hF'x, w64 (by omega) (by omega)]; omega
    obtain ⟨O', o1, o2, o3⟩ := cr_main hb hw hM hbw R m (n + 1) (by omega) (O.set (J n) (wrap64 (rd O (J n : Int) + 1))) (S ++ W) F' (by simpa using hO) hI2
    refine ⟨O', o1, ?_, ?_⟩
    · have hwo := (wo_ev hb.1 (n : Int) w hnr.1 (by omega) hw.2).1
      refine Ev.step (fun k => by rw [spec_CountReaching.l0]) ?_
      refine Ev.bind hf (Ev.pos (by omega) (Ev.bind hwo (Ev.bind t1 ?_)))
      rw [← w1] at o2
      have := cr_l1 hb hw R O hO n (J n) g1 C t2 t3 t4 G (t : Int) _ o2 out.length 0 (by omega)
      rw [if_pos (Nat.zero_le _)] at this
      exact this
    · refine Ev.step (fun k => by rw [impl_CountReaching.main]) ?_
      refine Ev.pos (by omega) (Ev.bind a1 (Ev.bind b1 ?_))
      show Ev (fun k => if (Lit.int .i64 x).wf = true ∧ 0 ≤ wrap64 (F' x - 1) ∧ wrap64 (F' x - 1) < (O.length : Int) then impl_CountReaching.main (w : Int) b (M : Int) k (wrap64 ((n : Int) + 1)) (O.set (wrap64 (F' x - 1)).toNat (wrap64 (rd O (wrap64 (F' x - 1)) + 1))) F' (S ++ W).length else none) O'
      rw [e1, w1, Int.toNat_natCast]
      exact Ev.pos ⟨wf_of (by omega) (by omega), by omega, by omega⟩ o3
theorem law_ev (a b : Int) : ∃ (O : List Int) (ok : Bool), O.length ≤ 4000 ∧ Ev (fun k => spec_CountReaching.f k a b) (O, ok) ∧ Ev (fun k => impl_CountReaching.f k a b) (O, ok) := by
  unfold spec_CountReaching.f impl_CountReaching.f
  have hfew := isFew_ev a b
  rw [gpAsked_eq]
  by_cases h : wb a b
  · have h' := h
    obtain ⟨hb, h3, h4⟩ := h'
    obtain ⟨w, rfl⟩ : ∃ w : Nat, a = (w : Int) := ⟨a.toNat, by omega⟩
    have hw : 1 ≤ w ∧ w ≤ 8 := by omega
    rw [Int.toNat_natCast] at hfew
    have hf := few_ev hb w hw.2
    by_cases hM : b ^ w ≤ 100000
    · rw [if_pos hM] at hf
      rw [decide_eq_true (show wb (w : Int) b ∧ b ^ w ≤ 100000 from ⟨h, hM⟩)] at hfew
      obtain ⟨M, hbw⟩ : ∃ M : Nat, b ^ w = (M : Int) := ⟨(b ^ w).toNat, by have := (pow_le8 hb hw.2).1; omega⟩
      obtain ⟨out, T, J, U, e1, e2, e3, R⟩ := rr_ev h
      have hlen := R.len
      obtain ⟨S, F, s1, s2⟩ := inv_start hb (by omega) hbw R (P := told1 J) (val := fun i => wrap64 (i + 1)) (fun j hj => by
        have e : wrap64 ((j : Int) + 1) = (j : Int) + 1 := w64 (by omega) (by omega)
        refine ⟨by show wrap64 ((j : Int) + 1) ≠ 0; omega, fun x hx => ?_⟩
        have hr := cyl_rng hb R.wok hj x hx
        have := R.uniq hr.1 hr.2 hj ⟨[], x, rfl, hx⟩
        show wrap64 ((j : Int) + 1) = _
        rw [e, this])
      obtain ⟨O, o1, o2, o3⟩ := cr_main hb hw (by omega) hbw R M 0 (by omega) (List.replicate out.length 0) S F (by simp) s2
      refine ⟨O, true, by omega, ?_, ?_⟩
      · refine Ev.pure rfl (Ev.pos (decide_eq_true h) (Ev.bind hf ?_))
        rw [not_b hb hw hM]
        refine Ev.step (fun k => by rw [spec_CountReaching.j0]) ?_
        refine Ev.neg (by decide) (Ev.bind e1 (Ev.bind e3 (Ev.pos (by omega) (Ev.pos (by omega) ?_))))
        rw [Int.toNat_natCast]
        exact o2
      · refine Ev.bind hfew (Ev.pos rfl (Ev.bind e2 (Ev.pos (by rw [List.length_map]; omega) (Ev.bind s1 ?_))))
        have htp := toPow_ev hb hw.2
        rw [hbw] at htp
        refine Ev.bind htp ?_
        rw [List.length_map]
        exact Ev.bind o3 (Ev.now _)
    · rw [if_neg hM] at hf
      rw [decide_eq_false (show ¬ (wb (w : Int) b ∧ b ^ w ≤ 100000) from fun h => hM h.2)] at hfew
      refine ⟨[], false, by simp, ?_, ?_⟩
      · refine Ev.pure rfl (Ev.pos (decide_eq_true h) (Ev.bind hf ?_))
        refine Ev.step (fun k => by rw [spec_CountReaching.j0]) ?_
        exact Ev.pos rfl (Ev.now _)
      · exact Ev.bind hfew (Ev.neg (by decide) (Ev.now _))
  · rw [decide_eq_false (show ¬ (wb a b ∧ b ^ a.toNat ≤ 100000) from fun h' => h h'.1)] at hfew
    refine ⟨[], false, by simp, ?_, ?_⟩
    · refine Ev.pure rfl (Ev.neg (by simpa using h) ?_)
      refine Ev.step (fun k => by rw [spec_CountReaching.j0]) ?_
      exact Ev.pos rfl (Ev.now _)
    · exact Ev.bind hfew (Ev.neg (by decide) (Ev.now _))
theorem FnExactCountReaching : laws_FnExactCountReaching.Pure := by
  intro a b ha hb
  apply Ev.rounds
  unfold laws_FnExactCountReaching.f
  obtain ⟨O, ok, hl, hs, hi⟩ := law_ev a b
  have he := eq_ev O (by omega)
  have hm := mark_ev O (by omega)
  have hh := held_ev O.length (by omega)
  refine Ev.bind hs (Ev.bind hi (Ev.bind he (Ev.pos rfl ?_)))
  refine Ev.step (fun k => by rw [laws_FnExactCountReaching.j0]) ?_
  refine Ev.neg (by simp) (Ev.bind hm (Ev.bind hh (Ev.neg (not_neg _) (Ev.pos rfl (Ev.bind hi (Ev.bind he (Ev.pos rfl ?_)))))))
  exact Ev.neg (by simp) (Ev.bind hh (Ev.neg (not_neg _) (Ev.pos rfl (Ev.now _))))

end Go.Proofs.Yteojcnegdcopdaa.Pure
