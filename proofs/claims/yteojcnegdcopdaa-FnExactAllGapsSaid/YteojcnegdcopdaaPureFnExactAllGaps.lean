/- For every int width and every int base, the program's AllGaps gives what the reference gives, in memory of its own. No conditions. -/
import Derived.Test.YteojcnegdcopdaaPFnExactAllGapsx5
namespace Go.Proofs.Yteojcnegdcopdaa.Pure
open Go.RowKit Go.Proofs.Yteojcnegdcopdaa.PFnExactAllGaps Go.Proofs.YteojcnegdcopdaaW.PrintWords Go.Proofs.YteojcnegdcopdaaW.PrintLast

theorem wf_i64 {x : Int} (h : (Lit.int .i64 x).wf = true) : -9223372036854775808 ≤ x ∧ x ≤ 9223372036854775807 := by
  simp only [Lit.wf, Bool.and_eq_true, decide_eq_true_eq, show IntKind.i64.min = -9223372036854775808 from rfl, show IntKind.i64.max = 9223372036854775807 from rfl] at h
  exact h
theorem w64 {x : Int} (h0 : -9223372036854775808 ≤ x) (h1 : x ≤ 9223372036854775807) : wrap64 x = x := by unfold wrap64; omega
theorem Ev.pos {α : Type} {c : Prop} [Decidable c] {A B : Nat → Option α} {r : α} (h : c) (e : Ev A r) : Ev (fun k => if c then A k else B k) r := by simpa only [if_pos h] using e
theorem Ev.neg {α : Type} {c : Prop} [Decidable c] {A B : Nat → Option α} {r : α} (h : ¬ c) (e : Ev B r) : Ev (fun k => if c then A k else B k) r := by simpa only [if_neg h] using e
theorem Ev.val {α : Type} {a r : α} (h : a = r) : Ev (fun _ => some a) r := h ▸ Ev.now a
theorem Ev.pure {α β : Type} {o : Option α} {f : Nat → α → Option β} {a : α} {r : β} (h : o = some a) (k : Ev (fun n => f n a) r) : Ev (fun n => o.bind (f n)) r := by subst h; exact k
theorem Ev.call {α β : Type} {g : Nat → Option α} {f : Nat → α → Option β} {a : α} {r : β} (h : Ev g a) (k : Ev (fun n => f n a) r) : Ev (fun n => (g n).bind (f n)) r := Ev.bind h k
theorem Ev.same {α : Type} {g f : Nat → Option α} {r : α} (h : ∀ k, g k = f k) (k : Ev g r) : Ev f r := Ev.congr (fun k => (h k).symm) k

theorem rd_mid (pre rest : List Int) (a : Int) : rd (pre ++ a :: rest) (pre.length : Int) = a := by simp [rd]

theorem spec_l1In_eq (a b c : Int) : spec_l1In.f a b c = some (decide (b ≤ a ∧ a ≤ c)) := by
  unfold spec_l1In.f
  by_cases h : b ≤ a
  · rw [if_pos (show a ≥ b from h)]; simp [h]
  · rw [if_neg (show ¬ a ≥ b from h)]; simp [h]
theorem impl_in_eq (a b c : Int) : impl_in.f a b c = some (decide (b ≤ a ∧ a ≤ c)) := by
  unfold impl_in.f
  by_cases h : b ≤ a
  · rw [if_pos h]; simp [h]
  · rw [if_neg h]; simp [h]
theorem spec_dgBase_eq (b : Int) : spec_dgBase.f b = some (decide (2 ≤ b ∧ b ≤ 16)) := by
  unfold spec_dgBase.f
  rw [spec_l1In_eq]; simp
theorem impl_isBase_eq (b : Int) : impl_isBase.f b = some (decide (2 ≤ b ∧ b ≤ 16)) := by
  unfold impl_isBase.f
  rw [impl_in_eq]; simp

def wb (a b : Int) : Prop := (2 ≤ b ∧ b ≤ 16) ∧ (1 ≤ a ∧ a ≤ 8)
instance (a b : Int) : Decidable (wb a b) := by unfold wb; infer_instance
theorem gpAsked_eq (a b : Int) : spec_gpAsked.f a b = some (decide (wb a b)) := by
  unfold spec_gpAsked.f wb
  rw [spec_dgBase_eq, spec_l1In_eq]
  by_cases h : 2 ≤ b ∧ b ≤ 16
  · simp [h]
  · simp [h]
theorem l1Own_eq (l : List Int) (h : l.length < 17592186044416) : spec_l1Own.f l = some l := by
  unfold spec_l1Own.f
  simp only [Option.bind_some, List.length_nil, Nat.zero_add, List.nil_append]
  rw [if_pos h]
theorem gpAll_l0 (r q : Nat) (hq : q ≤ 4) (l : List Int) (hl : l.length + (r + 1) = q) (c : Nat) (hc : c ≤ 15)
    (ih : ∀ (y : Nat) (l' : List Int), y ≤ 15 → l'.length + r = q → Ev (fun k => spec_gpAll.f k l' (q : Int) (y : Int)) ((AG.dn r y).map (l' ++ ·))) :
    ∀ (m x : Nat) (acc : List (List Int)), x + m = c + 1 → acc.length ≤ x * 4000 →
      Ev (fun k => spec_gpAll.l0 k l (q : Int) (c : Int) acc (x : Int)) (acc ++ (List.range' x m).flatMap fun y => (AG.dn r y).map fun t => l ++ (y : Int) :: t)
  | 0, x, acc, hx, ha => by
    refine Ev.step (fun k => by rw [spec_gpAll.l0]) (Ev.neg (by omega) (Ev.val ?_))
    simp
  | m + 1, x, acc, hx, ha => by
    have hd := (AG.dn_len r (by omega) x (by omega)).1
    refine Ev.step (fun k => by rw [spec_gpAll.l0]) (Ev.pos (by omega) (Ev.pure (l1Own_eq l (by omega)) ?_))
    refine Ev.pos (by show l.length < 17592186044416; omega) ?_
    refine Ev.bind (ih x (l ++ [(x : Int)]) (by omega) (by simp; omega)) ?_
    refine Ev.pos (by rw [List.length_map]; omega) ?_
    rw [w64 (x := (x : Int) + 1) (by omega) (by omega)]
    have := gpAll_l0 r q hq l hl c hc ih m (x + 1) (acc ++ (AG.dn r x).map ((l ++ [(x : Int)]) ++ ·)) (by omega) (by rw [List.length_append, List.length_map]; omega)
    have e : acc ++ (List.range' x (m + 1)).flatMap (fun y => (AG.dn r y).map fun t => l ++ (y : Int) :: t) = acc ++ (AG.dn r x).map ((l ++ [(x : Int)]) ++ ·) ++ (List.range' (x + 1) m).flatMap fun y => (AG.dn r y).map fun t => l ++ (y : Int) :: t := by
      rw [List.range'_succ, List.flatMap_cons]
      simp
    rw [e]
    exact this
theorem gpAll_ev (q : Nat) (hq : q ≤ 4) : ∀ (r c : Nat) (l : List Int), c ≤ 15 → l.length + r = q → Ev (fun k => spec_gpAll.f k l (q : Int) (c : Int)) ((AG.dn r c).map (l ++ ·))
  | 0, c, l, hc, hl => by
    refine Ev.step (fun k => by rw [spec_gpAll.f]) (Ev.pos (by omega) (Ev.pure (l1Own_eq l (by omega)) (Ev.val ?_)))
    simp [AG.dn]
  | r + 1, c, l, hc, hl => by
    refine Ev.step (fun k => by rw [spec_gpAll.f]) (Ev.neg (by omega) ?_)
    have := gpAll_l0 r q hq l hl c hc (fun y l' hy hl' => gpAll_ev q hq r y l' hy hl') (c + 1) 0 [] (by omega) (by simp)
    have e : (AG.dn (r + 1) c).map (l ++ ·) = [] ++ (List.range' 0 (c + 1)).flatMap fun y => (AG.dn r y).map fun t => l ++ (y : Int) :: t := by
      rw [List.nil_append, AG.dn, List.map_flatMap, List.range_eq_range']
      simp [Function.comp_def]
    rw [e]
    exact this
theorem gpAll_full (a b : Int) (h : wb a b) : Ev (fun k => spec_gpAll.f k [] (wrap64 (Int.tdiv a 2)) (wrap64 (b - 1))) (AG.dn (a.toNat / 2) (b.toNat - 1)) := by
  obtain ⟨⟨h1, h2⟩, h3, h4⟩ := h
  have e8 : wrap64 (Int.tdiv a 2) = ((a.toNat / 2 : Nat) : Int) := by rw [Int.tdiv_eq_ediv_of_nonneg (by omega), w64 (by omega) (by omega)]; omega
  have e10 : wrap64 (b - 1) = ((b.toNat - 1 : Nat) : Int) := by rw [w64 (by omega) (by omega)]; omega
  rw [e8, e10]
  have := gpAll_ev (a.toNat / 2) (by omega) (a.toNat / 2) (b.toNat - 1) [] (by omega) (by simp)
  simpa using this
theorem allGaps_eq (a b : Int) (h : wb a b) : impl_allGaps.f a b = some (AG.dn (a.toNat / 2) (b.toNat - 1)) := by
  unfold impl_allGaps.f
  obtain ⟨⟨h1, h2⟩, h3, h4⟩ := h
  rw [if_pos ⟨h3, h4, h1, h2⟩]

theorem eq_l0 (l : List Int) (hl : l.length ≤ 4611686018427387904) : ∀ (m : Nat) (i : Int), 0 ≤ i → ((l.length : Int) - i).toNat < m → Ev (fun k => laws_eqIntS.l0 k l l i) true
  | 0, _, _, h => by omega
  | m + 1, i, h0, h => by
    by_cases hlt : i < (l.length : Int)
    · refine Ev.step (fun k => by rw [laws_eqIntS.l0]) (Ev.pos hlt (Ev.pos h0 (Ev.pos hlt (Ev.pos rfl ?_))))
      rw [w64 (by omega) (by omega)]
      exact eq_l0 l hl m (i + 1) (by omega) (by omega)
    · exact Ev.step (fun k => by rw [laws_eqIntS.l0]) (Ev.neg hlt (Ev.now _))
theorem eq_ev (l : List Int) (hl : l.length ≤ 4611686018427387904) : Ev (fun k => laws_eqIntS.f k l l) true := Ev.pos rfl (eq_l0 l hl _ 0 (by omega) (Nat.lt_succ_self _))

theorem heldc_l0 : ∀ (m : Nat) (pre : List Int) (x i : Int), i = (pre.length : Int) → pre.length + m ≤ 4611686018427387904 → 0 ≤ x → x + m ≤ 4611686018427387904 →
    Ev (fun k => laws_heldIntS.l0 k (pre ++ laws_markIntSS.cnt x m) x i) (x + m)
  | 0, pre, x, i, hi, hl, hx, hx2 => by
    refine Ev.step (fun k => by rw [laws_heldIntS.l0]) (Ev.neg (by simp [laws_markIntSS.cnt]; omega) (Ev.val ?_))
    simp
  | m + 1, pre, x, i, hi, hl, hx, hx2 => by
    have hr : rd (pre ++ laws_markIntSS.cnt x (m + 1)) i = x := by rw [hi, laws_markIntSS.cnt]; exact rd_mid _ _ _
    refine Ev.step (fun k => by rw [laws_heldIntS.l0]) (Ev.pos (by simp [laws_markIntSS.cnt_length]; omega) (Ev.pos (by omega) (Ev.pos hr ?_)))
    rw [w64 (x := x + 1) (by omega) (by omega), w64 (x := i + 1) (by omega) (by omega)]
    have ih := heldc_l0 m (pre ++ [x]) (x + 1) (i + 1) (by simp; omega) (by simp; omega) (by omega) (by omega)
    have e : pre ++ laws_markIntSS.cnt x (m + 1) = (pre ++ [x]) ++ laws_markIntSS.cnt (x + 1) m := by simp [laws_markIntSS.cnt]
    have e2 : x + ((m + 1 : Nat) : Int) = x + 1 + (m : Int) := by omega
    rw [e, e2]; exact ih
theorem heldc_ev (m : Nat) (x : Int) (hx : 0 ≤ x) (h : x + m ≤ 4611686018427387904) : Ev (fun k => laws_heldIntS.f k (laws_markIntSS.cnt x m) x) (x + m) := by
  have := heldc_l0 m [] x 0 (by simp) (by simp; omega) hx h
  unfold laws_heldIntS.f
  simpa using this
theorem rdL_at (P : List (List Int)) (a : List Int) (T : List (List Int)) (i : Int) (hi : i = (P.length : Int)) : rd_L1 (P ++ a :: T) i = a := by subst hi; simp [rd_L1]
theorem heldSS_l0 : ∀ (rest pre : List (List Int)) (x i : Int), i = (pre.length : Int) → pre.length + rest.length ≤ 4611686018427387904 → 0 ≤ x → x + (laws_markIntSS.tot rest : Nat) ≤ 4611686018427387904 →
    Ev (fun k => laws_heldIntSS.l0 k (pre ++ laws_markIntSS.mks rest x) x i) (x + (laws_markIntSS.tot rest : Nat))
  | [], pre, x, i, hi, hl, hx, hx2 => by
    refine Ev.step (fun k => by rw [laws_heldIntSS.l0]) (Ev.neg (by simp [laws_markIntSS.mks]; omega) (Ev.val ?_))
    simp [laws_markIntSS.tot]
  | l :: rest, pre, x, i, hi, hl, hx, hx2 => by
    simp only [List.length_cons, laws_markIntSS.tot] at hl hx2
    have hlen : (pre ++ laws_markIntSS.mks (l :: rest) x).length = pre.length + (rest.length + 1) := by rw [List.length_append, laws_markIntSS.mks_length, List.length_cons]
    have hr : rd_L1 (pre ++ laws_markIntSS.mks (l :: rest) x) i = laws_markIntSS.cnt x l.length := by rw [laws_markIntSS.mks]; exact rdL_at _ _ _ _ hi
    refine Ev.step (fun k => by rw [laws_heldIntSS.l0]) (Ev.pos (by rw [hlen]; omega) (Ev.pos (by omega) ?_))
    rw [hr]
    refine Ev.bind (heldc_ev l.length x hx (by omega)) (Ev.neg (by omega) ?_)
    rw [w64 (x := i + 1) (by omega) (by omega)]
    have ih := heldSS_l0 rest (pre ++ [laws_markIntSS.cnt x l.length]) (x + l.length) (i + 1) (by simp; omega) (by simp; omega) (by omega) (by omega)
    have e : pre ++ laws_markIntSS.mks (l :: rest) x = (pre ++ [laws_markIntSS.cnt x l.length]) ++ laws_markIntSS.mks rest (x + l.length) := by simp [laws_markIntSS.mks]
    have e2 : x + ((laws_markIntSS.tot (l :: rest) : Nat) : Int) = x + (l.length : Int) + (laws_markIntSS.tot rest : Nat) := by simp only [laws_markIntSS.tot]; omega
    rw [e, e2]; exact ih
theorem heldSS_ev (rows : List (List Int)) (h1 : rows.length ≤ 4611686018427387904) (h2 : 1 + ((laws_markIntSS.tot rows : Nat) : Int) ≤ 4611686018427387904) : Ev (fun k => laws_heldIntSS.f k (laws_markIntSS.mks rows 1) 1) (1 + ((laws_markIntSS.tot rows : Nat) : Int)) := by
  have := heldSS_l0 rows [] 1 0 (by simp) (by simp; omega) (by omega) h2
  unfold laws_heldIntSS.f
  simpa using this
theorem eqSS_l0 (X : List (List Int)) (hX : X.length ≤ 4611686018427387904) (hx : ∀ l ∈ X, l.length ≤ 4611686018427387904) : ∀ (rest pre : List (List Int)) (i : Int), X = pre ++ rest → i = (pre.length : Int) →
    Ev (fun k => laws_eqIntSS.l0 k X X i) true
  | [], pre, i, hp, hi => by
    refine Ev.step (fun k => by rw [laws_eqIntSS.l0]) (Ev.neg (by rw [hp]; simp; omega) (Ev.now _))
  | l :: rest, pre, i, hp, hi => by
    have hl : X.length = pre.length + (rest.length + 1) := by rw [hp]; simp
    have hr : rd_L1 X i = l := by rw [hp]; exact rdL_at _ _ _ _ hi
    refine Ev.step (fun k => by rw [laws_eqIntSS.l0]) (Ev.pos (by omega) (Ev.pos (by omega) (Ev.pos (by omega) ?_)))
    rw [hr]
    refine Ev.bind (eq_ev l (hx l (by rw [hp]; simp))) (Ev.pos rfl ?_)
    rw [w64 (x := i + 1) (by omega) (by omega)]
    exact eqSS_l0 X hX hx rest (pre ++ [l]) (i + 1) (by rw [hp]; simp) (by simp; omega)
theorem len_tot : ∀ (rows : List (List Int)) (l : List Int), l ∈ rows → l.length ≤ laws_markIntSS.tot rows
  | r :: rows, l, h => by
    simp only [laws_markIntSS.tot]
    rcases List.mem_cons.mp h with rfl | h
    · omega
    · have := len_tot rows l h; omega
theorem eqSS_ev (rows : List (List Int)) (h1 : rows.length ≤ 4611686018427387904) (h2 : laws_markIntSS.tot rows ≤ 4611686018427387904) : Ev (fun k => laws_eqIntSS.f k rows rows) true :=
  Ev.pos rfl (eqSS_l0 rows h1 (fun l hl => Nat.le_trans (len_tot rows l hl) h2) rows [] 0 rfl rfl)
theorem tot_le (B : Nat) : ∀ (rows : List (List Int)), (∀ l ∈ rows, l.length ≤ B) → laws_markIntSS.tot rows ≤ rows.length * B
  | [], _ => by simp [laws_markIntSS.tot]
  | r :: rows, h => by
    have := tot_le B rows (fun l hl => h l (List.mem_cons_of_mem _ hl))
    have h2 := h r List.mem_cons_self
    simp only [laws_markIntSS.tot, List.length_cons, Nat.succ_mul]
    omega

theorem law_rows0 {S I : Nat → Option (List (List Int) × Bool)} {rows : List (List Int)} {ok : Bool} (hs : Ev S (rows, ok)) (hi : Ev I (rows, ok)) (h1 : rows.length ≤ 1000000000000) (h2 : laws_markIntSS.tot rows ≤ 1000000000000000) :
    ∃ (k : Nat) (rows : List (List Int)) (ok_ : Bool), S k = some (rows, ok_) ∧ I k = some (rows, ok_) ∧ laws_eqIntSS.f k rows rows = some true ∧ laws_heldIntSS.f k (laws_markIntSS.mks rows 1) 1 = some (1 + ((laws_markIntSS.tot rows : Nat) : Int)) ∧ 1 + ((laws_markIntSS.tot rows : Nat) : Int) ≤ 4611686018427387904 ∧ rows.length ≤ 4611686018427387904 := by
  obtain ⟨k2, e2⟩ := hs
  obtain ⟨k3, e3⟩ := hi
  obtain ⟨k4, e4⟩ := eqSS_ev rows (by omega) (by omega)
  obtain ⟨k7, e7⟩ := heldSS_ev rows (by omega) (by omega)
  exact ⟨k2 + k3 + k4 + k7, rows, ok, e2 _ (by omega), e3 _ (by omega), e4 _ (by omega), e7 _ (by omega), by omega, by omega⟩

theorem law_ev (a b : Int) : ∃ (rows : List (List Int)) (ok : Bool), Ev (fun k => spec_AllGaps.f k a b) (rows, ok) ∧ impl_AllGaps.f a b = some (rows, ok) ∧ rows.length ≤ 4000 ∧ laws_markIntSS.tot rows ≤ 16000 := by
  unfold spec_AllGaps.f impl_AllGaps.f
  rw [gpAsked_eq]
  by_cases h : wb a b
  · refine ⟨AG.dn (a.toNat / 2) (b.toNat - 1), true, ?_, ?_, ?_⟩
    · exact Ev.pure rfl (Ev.pos (decide_eq_true h) (Ev.bind (gpAll_full a b h) (Ev.now _)))
    · have h' := h
      obtain ⟨h1, h2⟩ := h'
      unfold impl_isWidth.f
      rw [impl_isBase_eq, impl_in_eq, decide_eq_true h1, decide_eq_true h2, allGaps_eq a b h]
      rfl
    · obtain ⟨⟨h1, h2⟩, h3, h4⟩ := h
      have hd := (AG.dn_len (a.toNat / 2) (by omega) (b.toNat - 1) (by omega)).1
      refine ⟨hd, ?_⟩
      have := tot_le 4 (AG.dn (a.toNat / 2) (b.toNat - 1)) (fun l hl => by have := ((AG.dn_iff _ _ l).mp hl).1; omega)
      omega
  · refine ⟨[], false, ?_, ?_, by simp, by simp [laws_markIntSS.tot]⟩
    · exact Ev.pure rfl (Ev.neg (by simpa using h) (Ev.now _))
    · unfold impl_isWidth.f
      rw [impl_isBase_eq, impl_in_eq]
      by_cases h1 : 2 ≤ b ∧ b ≤ 16
      · have h2 : ¬ (1 ≤ a ∧ a ≤ 8) := fun h2 => h ⟨h1, h2⟩
        rw [decide_eq_true h1, decide_eq_false h2]
        rfl
      · rw [decide_eq_false h1]
        rfl
theorem FnExactAllGaps : laws_FnExactAllGaps.Pure := by
  intro a b ha hb
  obtain ⟨rows, ok, hs, hi, h1, h2⟩ := law_ev a b
  exact law_rows0 hs (I := fun _ => impl_AllGaps.f a b) ⟨0, fun _ _ => hi⟩ (by omega) (by omega)

end Go.Proofs.Yteojcnegdcopdaa.Pure
