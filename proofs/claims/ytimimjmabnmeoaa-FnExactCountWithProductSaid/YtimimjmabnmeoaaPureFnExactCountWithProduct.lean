/- For all ints product and base, the program's CountWithProduct gives what the reference's gives. No conditions. -/
import Derived.Test.YtimimjmabnmeoaaPFnExactCountWithProductx3
namespace Go.Proofs.Ytimimjmabnmeoaa.Pure
open Go.RowKit Go.Proofs.Ytimimjmabnmeoaa.PFnExactCountWithProduct Go.Proofs.YtimimjmabnmeoaaW.PrintWords Go.Proofs.YtimimjmabnmeoaaW.PrintLast

theorem wf_i64 {x : Int} (h : (Lit.int .i64 x).wf = true) : -9223372036854775808 ≤ x ∧ x ≤ 9223372036854775807 := by
  simp only [Lit.wf, Bool.and_eq_true, decide_eq_true_eq, show IntKind.i64.min = -9223372036854775808 from rfl, show IntKind.i64.max = 9223372036854775807 from rfl] at h
  exact h
theorem w64 {x : Int} (h0 : -9223372036854775808 ≤ x) (h1 : x ≤ 9223372036854775807) : wrap64 x = x := by unfold wrap64; omega
theorem Ev.pos {α : Type} {c : Prop} [Decidable c] {A B : Nat → Option α} {r : α} (h : c) (e : Ev A r) : Ev (fun k => if c then A k else B k) r := by simpa only [if_pos h] using e
theorem Ev.neg {α : Type} {c : Prop} [Decidable c] {A B : Nat → Option α} {r : α} (h : ¬ c) (e : Ev B r) : Ev (fun k => if c then A k else B k) r := by simpa only [if_neg h] using e
theorem Ev.val {α : Type} {a r : α} (h : a = r) : Ev (fun _ => some a) r := h ▸ Ev.now a
theorem Ev.pure {α β : Type} {o : Option α} {f : Nat → α → Option β} {a : α} {r : β} (h : o = some a) (k : Ev (fun n => f n a) r) : Ev (fun n => o.bind (f n)) r := by subst h; exact k
theorem Ev.call {α β : Type} {g : Nat → Option α} {f : Nat → α → Option β} {a : α} {r : β} (h : Ev g a) (k : Ev (fun n => f n a) r) : Ev (fun n => (g n).bind (f n)) r := Ev.bind h k
theorem Ev.same {α : Type} {g f : Nat → Option α} {r : α} (h : ∀ k, g k = f k) (k : Ev g r) : Ev f r := Ev.congr (fun k => (h k).symm) k

theorem spec_l1In_eq (a b c : Int) : spec_l1In.f a b c = some (decide (b ≤ a ∧ a ≤ c)) := by
  unfold spec_l1In.f
  by_cases h : b ≤ a
  · rw [if_pos (show a ≥ b from h)]; simp [h]
  · rw [if_neg (show ¬ a ≥ b from h)]; simp [h]
theorem impl_in_eq (a b c : Int) : impl_in.f a b c = some (decide (b ≤ a ∧ a ≤ c)) := by
  unfold impl_in.f
  by_cases h : b ≤ a
  · rw [if_pos h]; simp [h]
  · rw [if_neg h]; simp [h]
theorem spec_dgBase_eq (b : Int) : spec_dgBase.f b = some (decide (2 ≤ b ∧ b ≤ 16)) := by
  unfold spec_dgBase.f
  rw [spec_l1In_eq]; simp
theorem impl_isBase_eq (b : Int) : impl_isBase.f b = some (decide (2 ≤ b ∧ b ≤ 16)) := by
  unfold impl_isBase.f
  rw [impl_in_eq]; simp

def asked (n base : Int) : Prop := (0 ≤ n ∧ n ≤ 1000000000000) ∧ (2 ≤ base ∧ base ≤ 16)
instance (n base : Int) : Decidable (asked n base) := by unfold asked; infer_instance
theorem spec_dgAsked_eq (a b : Int) : spec_dgAsked.f a b = some (decide (asked a b)) := by
  unfold spec_dgAsked.f spec_dgNumber.f asked
  rw [spec_dgBase_eq, spec_l1In_eq]
  by_cases h : 0 ≤ a ∧ a ≤ 1000000000000
  · simp [h]
  · simp [h]
theorem div_lt_of {n d : Int} (hn : 1 ≤ n) (hd : 2 ≤ d) : n / d < n := by
  apply Int.ediv_lt_of_lt_mul (by omega)
  have : n * 2 ≤ n * d := Int.mul_le_mul_of_nonneg_left hd (by omega)
  omega
theorem div_ge {n d : Int} (hn : 0 ≤ n) (hd : 2 ≤ d) : 0 ≤ n / d := Int.ediv_nonneg hn (by omega)
theorem div_le {n d : Int} (hn : 0 ≤ n) (hd : 2 ≤ d) : n / d ≤ n := by
  by_cases h : n = 0
  · subst h; simp
  · have := div_lt_of (n := n) (d := d) (by omega) hd; omega
theorem div_pos_of {n d : Int} (hn : 1 ≤ n) (hd : 2 ≤ d) (h : n % d = 0) : 1 ≤ n / d := by
  have e := Int.mul_ediv_add_emod n d
  have h0 : 0 ≤ n / d := div_ge (by omega) hd
  by_cases hz : n / d = 0
  · rw [hz, h] at e; simp at e; omega
  · omega
theorem tmod_of {a b : Int} (h : 0 ≤ a) : Int.tmod a b = a % b := Int.tmod_eq_emod_of_nonneg h
theorem tdiv_of {a b : Int} (h : 0 ≤ a) : Int.tdiv a b = a / b := Int.tdiv_eq_ediv_of_nonneg h

/-! products of digits: lists of digits from 2 on, below the base -/
def prodI : List Int → Int
  | [] => 1
  | x :: l => x * prodI l
def OKd (b : Int) (l : List Int) : Prop := ∀ x ∈ l, 2 ≤ x ∧ x < b
def PL (b : Int) (k : Nat) (n : Int) : Prop := ∃ l : List Int, l.length = k ∧ OKd b l ∧ prodI l = n
theorem prodI_pos {b : Int} : ∀ l, OKd b l → 1 ≤ prodI l
  | [], _ => by simp [prodI]
  | x :: l, h => by
    have h1 := h x List.mem_cons_self
    have h2 := prodI_pos l (fun y hy => h y (List.mem_cons_of_mem _ hy))
    have : x * 1 ≤ x * prodI l := Int.mul_le_mul_of_nonneg_left h2 (by omega)
    simp only [prodI]; omega
theorem div_mul {n d : Int} (h : n % d = 0) : d * (n / d) = n := Int.mul_ediv_cancel' (Int.dvd_of_emod_eq_zero h)
theorem PL_succ {b n : Int} {k : Nat} : PL b (k + 1) n ↔ ∃ d, (2 ≤ d ∧ d < b) ∧ n % d = 0 ∧ PL b k (n / d) := by
  constructor
  · rintro ⟨l, hl, ho, hp⟩
    cases l with
    | nil => simp at hl
    | cons d t =>
      have hd := ho d List.mem_cons_self
      simp only [prodI] at hp
      refine ⟨d, hd, ?_, t, by simpa using hl, fun x hx => ho x (List.mem_cons_of_mem _ hx), ?_⟩
      · rw [← hp]; exact Int.mul_emod_right d _
      · rw [← hp]; exact (Int.mul_ediv_cancel_left _ (by omega)).symm
  · rintro ⟨d, hd, hm, t, ht, ho, hp⟩
    refine ⟨d :: t, by simp [ht], fun x hx => ?_, ?_⟩
    · rcases List.mem_cons.mp hx with rfl | hx
      · exact hd
      · exact ho x hx
    · simp only [prodI]; rw [hp]; exact div_mul hm
theorem PL_pow {b : Int} : ∀ (l : List Int), OKd b l → (2 : Int) ^ l.length ≤ prodI l
  | [], _ => by simp [prodI]
  | x :: l, h => by
    have h1 := h x List.mem_cons_self
    have h2 := PL_pow l (fun y hy => h y (List.mem_cons_of_mem _ hy))
    have h3 := prodI_pos l (fun y hy => h y (List.mem_cons_of_mem _ hy))
    have h4 : 2 * prodI l ≤ x * prodI l := Int.mul_le_mul_of_nonneg_right h1.1 (by omega)
    rw [List.length_cons, Int.pow_succ]
    simp only [prodI]; omega
theorem two_pow {a c : Nat} (h : a ≤ c) : (2 : Int) ^ a ≤ 2 ^ c := by
  have : 2 ^ a ≤ 2 ^ c := Nat.pow_le_pow_right (by omega) h
  exact_mod_cast this
theorem PL_len {b n : Int} {k : Nat} (h : PL b k n) (hn : n ≤ 1000000000000) : k < 40 := by
  obtain ⟨l, hl, ho, hp⟩ := h
  have := PL_pow l ho
  rw [hl, hp] at this
  rcases Nat.lt_or_ge k 40 with h | h
  · exact h
  · have := two_pow h
    have e : (2 : Int) ^ 40 = 1099511627776 := by decide
    omega
theorem PL_pos {b n : Int} {k : Nat} (h : PL b k n) : 1 ≤ n := by
  obtain ⟨l, _, ho, hp⟩ := h
  rw [← hp]; exact prodI_pos l ho
theorem PL_zero {b n : Int} : PL b 0 n ↔ n = 1 := by
  constructor
  · rintro ⟨l, hl, _, hp⟩
    have := List.length_eq_zero_iff.mp hl
    subst this
    simpa [prodI] using hp.symm
  · rintro rfl
    exact ⟨[], rfl, (fun x hx => (List.not_mem_nil hx).elim), rfl⟩
theorem quo_rng {n d : Int} (h1 : 1 ≤ n) (hd : 2 ≤ d) (hm : n % d = 0) : 1 ≤ n / d ∧ n / d < n := ⟨div_pos_of h1 hd hm, div_lt_of h1 hd⟩

/-! smooth: a product of digits -/
/-- what is left of a number, from a divisor on -/
def Res (b d n m : Int) : Prop := 1 ≤ m ∧ m ∣ n ∧ (∀ e, d ≤ e → e < b → ¬ e ∣ m) ∧ ∃ l, OKd b l ∧ n = m * prodI l
theorem res_l1 (base d : Int) (hd : 2 ≤ d) (hd2 : d < base) (hb : base ≤ 16)
    (hl0 : ∀ n, 1 ≤ n → n ≤ 1000000000000 → ∃ m, Res base (d + 1) n m ∧ Ev (fun k => impl_isSmooth.l0 k n base (d + 1)) (m == 1)) :
    ∀ f : Nat, ∀ n : Int, 1 ≤ n → n ≤ 1000000000000 → n.toNat < f → ∃ m, Res base d n m ∧ Ev (fun k => impl_isSmooth.l1 k n base d) (m == 1)
  | 0, n, _, _, h => by omega
  | f + 1, n, h1, h2, h => by
    have hw : wrap64 (d + 1) = d + 1 := w64 (by omega) (by omega)
    by_cases hm : n % d = 0
    · have hlt := div_lt_of h1 hd
      have hp := div_pos_of h1 hd hm
      obtain ⟨m, ⟨r1, r2, r3, l, r4, r5⟩, hi⟩ := res_l1 base d hd hd2 hb hl0 f (n / d) hp (by omega) (by omega)
      have hv : wrap64 (Int.tdiv n d) = n / d := by rw [tdiv_of (by omega)]; exact w64 (by omega) (by omega)
      have hdm := div_mul hm
      refine ⟨m, ⟨r1, ?_, r3, d :: l, fun x hx => ?_, ?_⟩, ?_⟩
      · rw [← hdm]; exact Int.dvd_mul_of_dvd_right r2
      · rcases List.mem_cons.mp hx with rfl | hx
        · exact ⟨hd, hd2⟩
        · exact r4 x hx
      · simp only [prodI]
        rw [← Int.mul_assoc, Int.mul_comm m d, Int.mul_assoc, ← r5, hdm]
      · refine Ev.step (fun k => by rw [impl_isSmooth.l1]) ?_
        refine Ev.neg (by omega) (Ev.pos (by rw [tmod_of (by omega)]; exact hm) ?_)
        rw [hv]; exact hi
    · obtain ⟨m, ⟨r1, r2, r3, r4⟩, hi⟩ := hl0 n h1 h2
      refine ⟨m, ⟨r1, r2, fun e a c hdv => ?_, r4⟩, ?_⟩
      · by_cases he : e = d
        · subst he
          exact hm (Int.emod_eq_zero_of_dvd (Int.dvd_trans hdv r2))
        · exact r3 e (by omega) c hdv
      · refine Ev.step (fun k => by rw [impl_isSmooth.l1]) ?_
        refine Ev.neg (by omega) (Ev.neg (by rw [tmod_of (by omega)]; exact hm) ?_)
        rw [hw]; exact hi
theorem res_l0 (base : Int) (hb : base ≤ 16) : ∀ f : Nat, ∀ n d : Int, 1 ≤ n → n ≤ 1000000000000 → 2 ≤ d → d ≤ 17 → (17 - d).toNat < f → ∃ m, Res base d n m ∧ Ev (fun k => impl_isSmooth.l0 k n base d) (m == 1)
  | 0, _, _, _, _, _, _, h => by omega
  | f + 1, n, d, h1, h2, hd, hd2, h => by
    by_cases hlt : d < base
    · obtain ⟨m, hr, hi⟩ := res_l1 base d hd hlt hb (fun n' a c => res_l0 base hb f n' (d + 1) a c (by omega) (by omega) (by omega)) _ n h1 h2 (Nat.lt_succ_self _)
      exact ⟨m, hr, Ev.step (fun k => by rw [impl_isSmooth.l0]) (Ev.pos hlt hi)⟩
    · exact ⟨n, ⟨h1, Int.dvd_refl n, fun e a c => by omega, [], (fun x hx => (List.not_mem_nil hx).elim), by simp [prodI]⟩, Ev.step (fun k => by rw [impl_isSmooth.l0]) (Ev.neg hlt (Ev.now _))⟩
/-- what no digit divides and what divides a product of digits is one -/
theorem res_one (M : Nat) (b : Int) (hM : 1 ≤ M) (hn : ∀ e : Int, 2 ≤ e → e < b → ¬ e ∣ (M : Int)) : ∀ l : List Int, OKd b l → (M : Int) ∣ prodI l → M = 1
  | [], _, h => by
    have h2 : (M : Int) ∣ ((1 : Nat) : Int) := h
    have := Int.natCast_dvd_natCast.mp h2
    exact Nat.dvd_one.mp this
  | x :: l, ho, h => by
    have hx := ho x List.mem_cons_self
    obtain ⟨X, rfl⟩ : ∃ X : Nat, x = (X : Int) := ⟨x.toNat, by omega⟩
    have hg : Nat.Coprime M X := by
      have h1 : Nat.gcd M X ∣ M := Nat.gcd_dvd_left M X
      have h2 : Nat.gcd M X ∣ X := Nat.gcd_dvd_right M X
      have h3 : Nat.gcd M X ≤ X := Nat.le_of_dvd (by omega) h2
      have h4 : 1 ≤ Nat.gcd M X := Nat.pos_of_dvd_of_pos h1 (by omega)
      rcases Nat.lt_or_ge (Nat.gcd M X) 2 with h5 | h5
      · show Nat.gcd M X = 1
        omega
      · exact absurd (Int.natCast_dvd_natCast.mpr h1) (hn _ (by omega) (by omega))
    have hpp := prodI_pos l (fun y hy => ho y (List.mem_cons_of_mem _ hy))
    obtain ⟨Q, hQ⟩ : ∃ Q : Nat, prodI l = (Q : Int) := ⟨(prodI l).toNat, by omega⟩
    have h' : (M : Int) ∣ ((X * Q : Nat) : Int) := by
      have e : prodI ((X : Int) :: l) = ((X * Q : Nat) : Int) := by simp only [prodI]; rw [hQ]; exact (Int.natCast_mul X Q).symm
      rwa [e] at h
    have h2 := hg.dvd_of_dvd_mul_left (Int.natCast_dvd_natCast.mp h')
    refine res_one M b hM hn l (fun y hy => ho y (List.mem_cons_of_mem _ hy)) ?_
    rw [hQ]
    exact Int.natCast_dvd_natCast.mpr h2
theorem smooth_iff {base n : Int} (hb : base ≤ 16) (h1 : 1 ≤ n) (h2 : n ≤ 1000000000000) : ∃ r, Ev (fun k => impl_isSmooth.f k n base) r ∧ (r = true ↔ ∃ k, PL base k n) := by
  obtain ⟨m, ⟨r1, r2, r3, l, r4, r5⟩, hi⟩ := res_l0 base hb _ n 2 h1 h2 (by omega) (by omega) (Nat.lt_succ_self _)
  refine ⟨m == 1, ?_, ?_⟩
  · unfold impl_isSmooth.f
    exact Ev.neg (by omega) hi
  · rw [beq_iff_eq]
    constructor
    · rintro rfl
      exact ⟨l.length, l, rfl, r4, by rw [r5, Int.one_mul]⟩
    · rintro ⟨k, l2, _, ho, hp⟩
      obtain ⟨M, rfl⟩ : ∃ M : Nat, m = (M : Int) := ⟨m.toNat, by omega⟩
      have := res_one M base (by omega) r3 l2 ho (by rw [hp]; exact r2)
      omega

theorem pigeon : ∀ (M : Nat) (l : List Int), l.Nodup → (∀ x ∈ l, 0 ≤ x ∧ x < (M : Int)) → l.length ≤ M
  | 0, l, _, h => by
    cases l with
    | nil => exact Nat.le_refl _
    | cons a t => have := h a List.mem_cons_self; omega
  | M + 1, l, hn, h => by
    by_cases hm : (M : Int) ∈ l
    · have h1 := pigeon M (l.erase (M : Int)) (hn.erase _) (fun x hx => by
        have hx2 := (hn.mem_erase_iff).mp hx
        have h3 := h x hx2.2
        have h4 : x ≠ (M : Int) := hx2.1
        omega)
      rw [List.length_erase_of_mem hm] at h1
      omega
    · have h1 := pigeon M l hn (fun x hx => by
        have h3 := h x hx
        have h4 : x ≠ (M : Int) := fun e => hm (e ▸ hx)
        omega)
      omega
/-- where a number stands, in a list without repeats -/

theorem rd_mid (pre rest : List Int) (a : Int) : rd (pre ++ a :: rest) (pre.length : Int) = a := by simp [rd]
/-! ### numbers up to a multiple of two to the 64 -/
def Md (x y : Int) : Prop := ∃ t : Int, x = y + 18446744073709551616 * t
theorem Md.rfl (x : Int) : Md x x := ⟨0, by omega⟩
theorem Md.tr {x y z : Int} : Md x y → Md y z → Md x z := by
  rintro ⟨s, rfl⟩ ⟨t, rfl⟩
  exact ⟨s + t, by omega⟩
theorem Md.sy {x y : Int} : Md x y → Md y x := by
  rintro ⟨s, rfl⟩
  exact ⟨-s, by omega⟩
theorem Md.add {x y z u : Int} : Md x y → Md z u → Md (x + z) (y + u) := by
  rintro ⟨s, rfl⟩ ⟨t, rfl⟩
  exact ⟨s + t, by omega⟩
theorem Md.mul {x y : Int} (c : Int) : Md x y → Md (x * c) (y * c) := by
  rintro ⟨s, rfl⟩
  exact ⟨s * c, by rw [Int.add_mul, Int.mul_assoc]⟩
theorem Md.w (x : Int) : Md (wrap64 x) x := ⟨-((x + 9223372036854775808) / 18446744073709551616), by unfold wrap64; omega⟩
theorem Md.eq {x y : Int} : Md x y → wrap64 x = wrap64 y := by
  rintro ⟨s, rfl⟩
  unfold wrap64; omega
theorem wadd (a c : Int) : wrap64 (wrap64 a + c) = wrap64 (a + c) := Md.eq ((Md.w a).add (Md.rfl c))
/-! ### the reference's recursion -/
theorem cw_zero {b : Int} : ∀ (f : Nat) (n : Int), n.toNat < f → 1 ≤ n → (¬ ∃ k, PL b k n) → impl_countWith.cws b n = 0
  | 0, n, h, _, _ => by omega
  | f + 1, n, h, h1, hn => by
    have hne : n ≠ 1 := fun e => hn ⟨0, PL_zero.mpr e⟩
    rw [impl_countWith.cws_eq b (show 1 < n by omega)]
    have key : ∀ m : Nat, (m : Int) + 2 ≤ b → impl_countWith.cwL (impl_countWith.cws b) n m = 0 := by
      intro m
      induction m with
      | zero => intro _; rfl
      | succ m ih =>
        intro hm
        unfold impl_countWith.cwL
        rw [ih (by omega)]
        by_cases hd : n % ((m : Int) + 2) = 0
        · rw [if_pos hd]
          obtain ⟨h2, h3⟩ := quo_rng h1 (show (2 : Int) ≤ (m : Int) + 2 by omega) hd
          rw [cw_zero f (n / ((m : Int) + 2)) (by omega) h2 (fun ⟨k, hk⟩ => hn ⟨k + 1, PL_succ.mpr ⟨_, ⟨by omega, by omega⟩, hd, hk⟩⟩)]
          rfl
        · rw [if_neg hd]; rfl
    by_cases hb : 2 ≤ b
    · exact key _ (by omega)
    · rw [show (b - 2).toNat = 0 by omega]; rfl
theorem pc_l0 {b n : Int} (hb : 2 ≤ b ∧ b ≤ 16) (h1 : 2 ≤ n) (h2 : n ≤ 1000000000000) (rec : ∀ q, 1 ≤ q → q < n → Ev (fun k => spec_prCount.f k q b) (wrap64 (impl_countWith.cws b q))) : ∀ (j m : Nat), (m : Int) + 2 + j = b → Ev (fun k => spec_prCount.l0 k n b (wrap64 (impl_countWith.cwL (impl_countWith.cws b) n m)) ((m : Int) + 2)) (wrap64 (impl_countWith.cws b n))
  | 0, m, h => by
    refine Ev.step (fun k => by rw [spec_prCount.l0]) (Ev.neg (by omega) (Ev.val ?_))
    rw [impl_countWith.cws_eq b (show 1 < n by omega), show (b - 2).toNat = m by omega]
  | j + 1, m, h => by
    have ih := pc_l0 hb h1 h2 rec j (m + 1) (by omega)
    have w1 : wrap64 ((m : Int) + 2 + 1) = ((m + 1 : Nat) : Int) + 2 := by rw [w64 (by omega) (by omega)]; omega
    refine Ev.step (fun k => by rw [spec_prCount.l0]) (Ev.pos (by omega) (Ev.neg (by omega) ?_))
    by_cases hd : n % ((m : Int) + 2) = 0
    · obtain ⟨q1, q2⟩ := quo_rng (show 1 ≤ n by omega) (show (2 : Int) ≤ (m : Int) + 2 by omega) hd
      refine Ev.pos (by rw [tmod_of (by omega)]; exact hd) ?_
      rw [tdiv_of (by omega), w64 (x := n / ((m : Int) + 2)) (by omega) (by omega), w1]
      refine Ev.bind (rec _ q1 q2) ?_
      have e : wrap64 (wrap64 (impl_countWith.cwL (impl_countWith.cws b) n m) + wrap64 (impl_countWith.cws b (n / ((m : Int) + 2)))) = wrap64 (impl_countWith.cwL (impl_countWith.cws b) n (m + 1)) := by
        show _ = wrap64 (impl_countWith.cwL (impl_countWith.cws b) n m + (if n % ((m : Int) + 2) = 0 then impl_countWith.cws b (n / ((m : Int) + 2)) else 0))
        rw [if_pos hd]
        exact Md.eq ((Md.w _).add (Md.w _))
      rw [e]
      exact ih
    · refine Ev.neg (by rw [tmod_of (by omega)]; exact hd) ?_
      rw [w1]
      have e : impl_countWith.cwL (impl_countWith.cws b) n (m + 1) = impl_countWith.cwL (impl_countWith.cws b) n m := by
        show impl_countWith.cwL (impl_countWith.cws b) n m + (if n % ((m : Int) + 2) = 0 then impl_countWith.cws b (n / ((m : Int) + 2)) else 0) = _
        rw [if_neg hd, Int.add_zero]
      rw [e] at ih
      exact ih
theorem pc_ev {b : Int} (hb : 2 ≤ b ∧ b ≤ 16) : ∀ (f : Nat) (n : Int), n.toNat < f → 1 ≤ n → n ≤ 1000000000000 → Ev (fun k => spec_prCount.f k n b) (wrap64 (impl_countWith.cws b n))
  | 0, n, h, _, _ => by omega
  | f + 1, n, h, h1, h2 => by
    refine Ev.step (fun k => by rw [spec_prCount.f]) ?_
    by_cases e : n = 1
    · subst e
      exact Ev.pos rfl (Ev.val (by rw [impl_countWith.cws_one]; unfold wrap64; rfl))
    · refine Ev.neg e ?_
      have := pc_l0 hb (by omega) h2 (fun q q1 q2 => pc_ev hb f q (by omega) q1 (by omega)) (b - 2).toNat 0 (by omega)
      simpa [impl_countWith.cwL, show wrap64 0 = 0 by unfold wrap64; rfl] using this
/-! ### the reference's list of divisors -/
theorem len_split (p : Int → Bool) : ∀ l : List Int, l.length = (l.filter p).length + (l.filter fun x => !p x).length
  | [] => rfl
  | x :: l => by
    have := len_split p l
    cases h : p x <;> simp [h] <;> omega
theorem div_count {P : Int} (hP : 1 ≤ P ∧ P ≤ 1000000000000) (l : List Int) (hn : l.Nodup) (hd : ∀ x ∈ l, 1 ≤ x ∧ x ∣ P) : l.length ≤ 3000000 := by
  have h1 := pigeon 1000001 (l.filter fun x => decide (x ≤ 1000000)) (hn.filter _) (fun x hx => by
    obtain ⟨a, c⟩ := List.mem_filter.mp hx
    have := hd x a
    have := of_decide_eq_true c
    omega)
  have key : ∀ x ∈ l, x * (P / x) = P ∧ 1 ≤ P / x := fun x hx => by
    have h := hd x hx
    have e := Int.mul_ediv_cancel' h.2
    refine ⟨e, ?_⟩
    rcases Int.lt_or_le 0 (P / x) with h3 | h3
    · exact h3
    · have : x * (P / x) ≤ x * 0 := Int.mul_le_mul_of_nonneg_left h3 (by omega)
      omega
  have h2 := pigeon 1000001 ((l.filter fun x => !decide (x ≤ 1000000)).map (P / ·)) (by
    show List.Pairwise _ _
    rw [List.pairwise_map]
    refine (List.Pairwise.imp_of_mem ?_ (hn.filter _))
    intro x y hx hy hne e
    obtain ⟨a, _⟩ := List.mem_filter.mp hx
    obtain ⟨c, _⟩ := List.mem_filter.mp hy
    have k1 := key x a
    have k2 := key y c
    rw [← e] at k2
    have : x * (P / x) = y * (P / x) := by omega
    exact hne (Int.eq_of_mul_eq_mul_right (by omega) this)) (fun z hz => by
    obtain ⟨x, hx, rfl⟩ := List.mem_map.mp hz
    obtain ⟨a, c⟩ := List.mem_filter.mp hx
    have k1 := key x a
    have hx2 : 1000001 ≤ x := by simp at c; omega
    have : 1000001 * (P / x) ≤ x * (P / x) := Int.mul_le_mul_of_nonneg_right hx2 (by omega)
    show 0 ≤ P / x ∧ P / x < _
    omega)
  rw [List.length_map] at h2
  have h3 := len_split (fun x => decide (x ≤ 1000000)) l
  omega
def phi (b P : Int) : List Int → List Int → Int
  | d :: D, c :: W => c * impl_countWith.cws b (P / d) + phi b P D W
  | _, _ => 0
theorem phi_app (b P : Int) : ∀ (A C B E : List Int), A.length = C.length → phi b P (A ++ B) (C ++ E) = phi b P A C + phi b P B E
  | [], [], B, E, _ => by simp [phi]
  | a :: A, c :: C, B, E, h => by
    have := phi_app b P A C B E (by simpa using h)
    simp only [List.cons_append, phi, this]
    omega
  | [], _ :: _, _, _, h => by simp at h
  | _ :: _, [], _, _, h => by simp at h
theorem at_ev (D : List Int) (nx : Int) : ∀ (R1 R2 pre : List Int) (i : Int), D = pre ++ R1 ++ R2 → i = (pre.length : Int) → (∀ x ∈ R1, x < nx) → (∀ x ∈ R2, nx ≤ x) → Ev (fun k => spec_prLists.at_ D nx k i) (((pre ++ R1).length : Nat) : Int)
  | [], [], pre, i, hD, hi, _, _ => by
    have hl : D.length = pre.length := by rw [hD]; simp
    refine Ev.step (fun k => by rw [spec_prLists.at_]) (Ev.neg (by omega) (Ev.val (by simp [hi])))
  | [], y :: R2, pre, i, hD, hi, _, h2 => by
    have hl : D.length = pre.length + (R2.length + 1) := by rw [hD]; simp
    have hr : rd D i = y := by rw [hD, hi, List.append_nil]; exact rd_mid _ _ _
    have := h2 y (by simp)
    refine Ev.step (fun k => by rw [spec_prLists.at_]) (Ev.pos (by omega) (Ev.pos (by omega) (Ev.neg (by omega) (Ev.val (by simp [hi])))))
  | x :: R1, R2, pre, i, hD, hi, h1, h2 => by
    have hl : D.length = pre.length + (R1.length + 1 + R2.length) := by rw [hD]; simp; omega
    have hr : rd D i = x := by rw [hD, hi, List.append_assoc]; exact rd_mid _ _ _
    have hx := h1 x (by simp)
    have ih := at_ev D nx R1 R2 (pre ++ [x]) (i + 1) (by rw [hD]; simp) (by simp; omega) (fun y hy => h1 y (List.mem_cons_of_mem _ hy)) h2
    have e : (((pre ++ [x]) ++ R1).length : Nat) = (pre ++ x :: R1).length := by simp
    rw [e] at ih
    refine Ev.step (fun k => by rw [spec_prLists.at_]) (Ev.pos (by omega) (Ev.pos (by omega) (Ev.pos (by omega) ih)))
theorem ins_pw {A B : List Int} {x : Int} (h : (A ++ B).Pairwise (· < ·)) (ha : ∀ a ∈ A, a < x) (hb : ∀ c ∈ B, x < c) : (A ++ [x] ++ B).Pairwise (· < ·) := by
  obtain ⟨h1, h2, h3⟩ := List.pairwise_append.mp h
  rw [List.append_assoc]
  refine List.pairwise_append.mpr ⟨h1, List.pairwise_cons.mpr ⟨hb, h2⟩, fun a hA c hc => ?_⟩
  rcases List.mem_cons.mp hc with rfl | hc
  · exact ha a hA
  · exact h3 a hA c hc
theorem split_at (nx : Int) : ∀ R : List Int, R.Pairwise (· < ·) → ∃ R1 R2, R = R1 ++ R2 ∧ (∀ x ∈ R1, x < nx) ∧ ∀ x ∈ R2, nx ≤ x
  | [], _ => ⟨[], [], rfl, by simp, by simp⟩
  | x :: R, h => by
    obtain ⟨h1, h2⟩ := List.pairwise_cons.mp h
    by_cases hx : x < nx
    · obtain ⟨R1, R2, e, h3, h4⟩ := split_at nx R h2
      exact ⟨x :: R1, R2, by rw [e]; rfl, fun y hy => (List.mem_cons.mp hy).elim (fun e => e ▸ hx) (h3 y), h4⟩
    · refine ⟨[], x :: R, rfl, by simp, fun y hy => ?_⟩
      rcases List.mem_cons.mp hy with rfl | hy
      · omega
      · have := h1 y hy; omega
theorem split_len {W : List Int} {n : Nat} (h : n ≤ W.length) : ∃ V1 V2, W = V1 ++ V2 ∧ V1.length = n := ⟨W.take n, W.drop n, (List.take_append_drop n W).symm, by rw [List.length_take]; omega⟩
structure Inv (P : Int) (D W : List Int) : Prop where
  pw : D.Pairwise (· < ·)
  dv : ∀ x ∈ D, 1 ≤ x ∧ x ∣ P
  len : W.length = D.length
  wr : ∀ x ∈ W, wrap64 x = x
theorem inv_small {P : Int} (hP : 1 ≤ P ∧ P ≤ 1000000000000) {D W : List Int} (h : Inv P D W) : D.length ≤ 3000000 := div_count hP D (h.pw.imp (fun {a b} hab e => by omega)) h.dv
theorem pl_l1 {b P : Int} (hb : 2 ≤ b ∧ b ≤ 16) (hP : 1 ≤ P ∧ P ≤ 1000000000000) (Dp Wp : List Int) (m c : Int) (hp : Wp.length = Dp.length) : ∀ (j t : Nat) (R V : List Int), (t : Int) + 2 + j = b → Inv P (Dp ++ m :: R) (Wp ++ c :: V) →
    ∃ R' V', Ev (fun k => spec_prLists.l1 P b k (Dp ++ m :: R) (Wp ++ c :: V) (Dp.length : Int) ((t : Int) + 2)) (Dp ++ m :: R', Wp ++ c :: V') ∧ Inv P (Dp ++ m :: R') (Wp ++ c :: V') ∧ (∀ x ∈ R, x ∈ R') ∧ Md (phi b P R' V' + c * impl_countWith.cwL (impl_countWith.cws b) (P / m) t) (phi b P R V + c * impl_countWith.cwL (impl_countWith.cws b) (P / m) (b - 2).toNat)
  | 0, t, R, V, ht, hI => by
    refine ⟨R, V, Ev.step (fun k => by rw [spec_prLists.l1]) (Ev.neg (by omega) (Ev.now _)), hI, fun x hx => hx, ?_⟩
    rw [show (b - 2).toNat = t by omega]
    exact Md.rfl _
  | j + 1, t, R, V, ht, hI => by
    have hsm := inv_small hP hI
    have hlen := hI.len
    have hDl : (Dp ++ m :: R).length = Dp.length + (R.length + 1) := by simp
    have hWl : (Wp ++ c :: V).length = Wp.length + (V.length + 1) := by simp
    obtain ⟨hm1, hmd⟩ := hI.dv m (by simp)
    have hmP : m ≤ P := Int.le_of_dvd (by omega) hmd
    have hrD : rd (Dp ++ m :: R) (Dp.length : Int) = m := rd_mid _ _ _
    have hrW : rd (Wp ++ c :: V) (Dp.length : Int) = c := by rw [← hp]; exact rd_mid _ _ _
    have hPm : m * (P / m) = P := Int.mul_ediv_cancel' hmd
    have hok : spec_prLists.ok P b (Dp ++ m :: R) (Wp ++ c :: V) (Dp.length : Int) ((t : Int) + 2) := by
      unfold spec_prLists.ok
      rw [hrD]
      refine ⟨by omega, by omega, hlen, by omega, by omega, by omega, by omega, by omega⟩
    obtain ⟨nx, hnx⟩ : ∃ nx, nx = m * ((t : Int) + 2) := ⟨_, rfl⟩
    have hnx1 : m * 2 ≤ nx := by rw [hnx]; exact Int.mul_le_mul_of_nonneg_left (by omega) (by omega)
    have hdd : nx ∣ P ↔ (P / m) % ((t : Int) + 2) = 0 := by
      constructor
      · rintro ⟨r, hr⟩
        have : m * (P / m) = m * (((t : Int) + 2) * r) := by rw [hPm, hr, hnx, Int.mul_assoc]
        rw [Int.eq_of_mul_eq_mul_left (by omega) this]
        exact Int.mul_emod_right _ _
      · intro h
        obtain ⟨r, hr⟩ := Int.dvd_of_emod_eq_zero h
        exact ⟨r, by rw [hnx, Int.mul_assoc, ← hr, hPm]⟩
    have hq : P / nx = P / m / ((t : Int) + 2) := by rw [hnx, Int.ediv_ediv_of_nonneg (by omega)]
    have w1 : (t : Int) + 2 + 1 = ((t + 1 : Nat) : Int) + 2 := by omega
    have hstep : ∀ r, Ev (fun k => if Int.tmod P nx = 0 then ((spec_prLists.at_ (Dp ++ m :: R) nx k ((Dp.length : Int) + 1)).bind fun a => (if 0 ≤ a ∧ a ≤ ((Dp ++ m :: R).length : Int) then (if a < ((Dp ++ m :: R).length : Int) ∧ rd (Dp ++ m :: R) a = nx then spec_prLists.l1 P b k (Dp ++ m :: R) ((Wp ++ c :: V).set a.toNat (wrap64 (rd (Wp ++ c :: V) a + c))) (Dp.length : Int) (((t + 1 : Nat) : Int) + 2) else spec_prLists.l1 P b k ((Dp ++ m :: R).take a.toNat ++ [nx] ++ (Dp ++ m :: R).drop a.toNat) ((Wp ++ c :: V).take a.toNat ++ [c] ++ (Wp ++ c :: V).drop a.toNat) (Dp.length : Int) (((t + 1 : Nat) : Int) + 2)) else none)) else spec_prLists.l1 P b k (Dp ++ m :: R) (Wp ++ c :: V) (Dp.length : Int) (((t + 1 : Nat) : Int) + 2)) r → Ev (fun k => spec_prLists.l1 P b k (Dp ++ m :: R) (Wp ++ c :: V) (Dp.length : Int) ((t : Int) + 2)) r := by
      intro r h
      refine Ev.step (fun k => by rw [spec_prLists.l1]) (Ev.pos (by omega) (Ev.pos hok ?_))
      rw [hrD, hrW, ← hnx, w1]
      exact h
    have hcw : impl_countWith.cwL (impl_countWith.cws b) (P / m) (t + 1) = impl_countWith.cwL (impl_countWith.cws b) (P / m) t + (if (P / m) % ((t : Int) + 2) = 0 then impl_countWith.cws b (P / m / ((t : Int) + 2)) else 0) := rfl
    by_cases hdv : nx ∣ P
    · have hmod := hdd.mp hdv
      rw [if_pos hmod, ← hq] at hcw
      have htm : Int.tmod P nx = 0 := by rw [tmod_of (by omega)]; exact Int.emod_eq_zero_of_dvd hdv
      obtain ⟨p1, p2, p3⟩ := List.pairwise_append.mp hI.pw
      obtain ⟨p4, p5⟩ := List.pairwise_cons.mp p2
      obtain ⟨R1, R2, hR, hR1, hR2⟩ := split_at nx R p5
      have hRl : R.length = R1.length + R2.length := by rw [hR]; simp
      obtain ⟨V1, V2, hV, hV1⟩ := split_len (W := V) (n := R1.length) (by omega)
      have hVl : V.length = V1.length + V2.length := by rw [hV]; simp
      have hat := at_ev (Dp ++ m :: R) nx R1 R2 (Dp ++ [m]) ((Dp.length : Int) + 1) (by rw [hR]; simp) (by simp) hR1 hR2
      have hal : ((Dp ++ [m]) ++ R1).length = Dp.length + 1 + R1.length := by simp; omega
      rw [hal] at hat
      have hD2 : Dp ++ m :: R = (Dp ++ m :: R1) ++ R2 := by rw [hR]; simp
      have hW2 : Wp ++ c :: V = (Wp ++ c :: V1) ++ V2 := by rw [hV]; simp
      have hAl : (Dp ++ m :: R1).length = Dp.length + 1 + R1.length := by simp; omega
      have hBl : (Wp ++ c :: V1).length = Dp.length + 1 + R1.length := by simp; omega
      have hA : ∀ a ∈ Dp ++ m :: R1, a < nx := fun a ha => by
        rcases List.mem_append.mp ha with ha | ha
        · have := p3 a ha m (by simp); omega
        · rcases List.mem_cons.mp ha with rfl | ha
          · omega
          · exact hR1 a ha
      have fin : ∀ (R'' V'' : List Int), Md (phi b P R'' V'') (phi b P R V + c * impl_countWith.cws b (P / nx)) → ∀ R' V', Md (phi b P R' V' + c * impl_countWith.cwL (impl_countWith.cws b) (P / m) (t + 1)) (phi b P R'' V'' + c * impl_countWith.cwL (impl_countWith.cws b) (P / m) (b - 2).toNat) → Md (phi b P R' V' + c * impl_countWith.cwL (impl_countWith.cws b) (P / m) t) (phi b P R V + c * impl_countWith.cwL (impl_countWith.cws b) (P / m) (b - 2).toNat) := by
        intro R'' V'' h R' V' h2
        rw [hcw, Int.mul_add] at h2
        obtain ⟨s, h⟩ := h
        obtain ⟨s2, h2⟩ := h2
        exact ⟨s + s2, by omega⟩
      by_cases hin : ∃ R2', R2 = nx :: R2'
      · obtain ⟨R2', hR2'⟩ := hin
        have hR2l : R2.length = R2'.length + 1 := by rw [hR2']; simp
        obtain ⟨v, V2', hV2'⟩ : ∃ v V2', V2 = v :: V2' := by
          cases V2 with
          | nil => simp at hVl; omega
          | cons v V2' => exact ⟨v, V2', rfl⟩
        have hra : rd (Dp ++ m :: R) (((Dp.length + 1 + R1.length : Nat)) : Int) = nx := by rw [hD2, hR2', ← hAl]; exact rd_mid _ _ _
        have hrw : rd (Wp ++ c :: V) (((Dp.length + 1 + R1.length : Nat)) : Int) = v := by rw [hW2, hV2', ← hBl]; exact rd_mid _ _ _
        have hset : (Wp ++ c :: V).set (Dp.length + 1 + R1.length) (wrap64 (v + c)) = Wp ++ c :: (V1 ++ wrap64 (v + c) :: V2') := by rw [hW2, hV2', ← hBl]; simp
        have hphi : Md (phi b P R (V1 ++ wrap64 (v + c) :: V2')) (phi b P R V + c * impl_countWith.cws b (P / nx)) := by
          rw [hR, hV, hR2', hV2', phi_app b P R1 V1 _ _ (by omega), phi_app b P R1 V1 _ _ (by omega)]
          simp only [phi]
          obtain ⟨s, hs⟩ := (Md.w (v + c)).mul (impl_countWith.cws b (P / nx))
          rw [Int.add_mul] at hs
          exact ⟨s, by omega⟩
        have hI2 : Inv P (Dp ++ m :: R) (Wp ++ c :: (V1 ++ wrap64 (v + c) :: V2')) := ⟨hI.pw, hI.dv, by rw [← hset, List.length_set]; exact hlen, fun x hx => by
          simp only [List.mem_append, List.mem_cons] at hx
          rcases hx with h | h | h | h | h
          · exact hI.wr x (by simp [h])
          · exact hI.wr x (by simp [h])
          · exact hI.wr x (by rw [hV]; simp [h])
          · rw [h]; exact Md.eq (Md.w _)
          · exact hI.wr x (by rw [hV, hV2']; simp [h])⟩
        obtain ⟨R', V', e1, e2, e3, e4⟩ := pl_l1 hb hP Dp Wp m c hp j (t + 1) R (V1 ++ wrap64 (v + c) :: V2') (by omega) hI2
        refine ⟨R', V', hstep _ (Ev.pos htm (Ev.bind hat (Ev.pos (by omega) (Ev.pos ⟨by omega, hra⟩ ?_)))), e2, e3, fin _ _ hphi _ _ e4⟩
        rw [hrw, Int.toNat_natCast, hset]
        exact e1
      · have hgt : ∀ x ∈ R2, nx < x := by
          intro x hx
          have h1 := hR2 x hx
          rcases Int.lt_or_le nx x with h | h
          · exact h
          · exfalso
            have hxe : x = nx := by omega
            subst hxe
            cases R2 with
            | nil => simp at hx
            | cons y T =>
              have hy := hR2 y (by simp)
              rw [hR] at p5
              obtain ⟨_, p6, _⟩ := List.pairwise_append.mp p5
              obtain ⟨p7, _⟩ := List.pairwise_cons.mp p6
              rcases List.mem_cons.mp hx with rfl | hx
              · exact hin ⟨T, rfl⟩
              · have := p7 _ hx; omega
        have hno : ¬ ((((Dp.length + 1 + R1.length : Nat)) : Int) < ((Dp ++ m :: R).length : Int) ∧ rd (Dp ++ m :: R) (((Dp.length + 1 + R1.length : Nat)) : Int) = nx) := by
          rintro ⟨h1, h2⟩
          cases R2 with
          | nil => simp at hRl; omega
          | cons y T =>
            have : rd (Dp ++ m :: R) (((Dp.length + 1 + R1.length : Nat)) : Int) = y := by rw [hD2, ← hAl]; exact rd_mid _ _ _
            have := hgt y (by simp)
            omega
        have htD : (Dp ++ m :: R).take (Dp.length + 1 + R1.length) ++ [nx] ++ (Dp ++ m :: R).drop (Dp.length + 1 + R1.length) = Dp ++ m :: (R1 ++ nx :: R2) := by rw [hD2, ← hAl, List.take_left, List.drop_left]; simp
        have htW : (Wp ++ c :: V).take (Dp.length + 1 + R1.length) ++ [c] ++ (Wp ++ c :: V).drop (Dp.length + 1 + R1.length) = Wp ++ c :: (V1 ++ c :: V2) := by rw [hW2, ← hBl, List.take_left, List.drop_left]; simp
        have hphi : Md (phi b P (R1 ++ nx :: R2) (V1 ++ c :: V2)) (phi b P R V + c * impl_countWith.cws b (P / nx)) := by
          rw [hR, hV, phi_app b P R1 V1 _ _ (by omega), phi_app b P R1 V1 _ _ (by omega)]
          simp only [phi]
          exact ⟨0, by omega⟩
        have hI2 : Inv P (Dp ++ m :: (R1 ++ nx :: R2)) (Wp ++ c :: (V1 ++ c :: V2)) := by
          refine ⟨?_, fun x hx => ?_, by simp; omega, fun x hx => hI.wr x ?_⟩
          · have h := ins_pw (A := Dp ++ m :: R1) (B := R2) (x := nx) (by rw [← hD2]; exact hI.pw) hA hgt
            simpa using h
          · by_cases hxe : x = nx
            · subst hxe; exact ⟨by omega, hdv⟩
            · refine hI.dv x ?_
              rw [hR]
              simp only [List.mem_append, List.mem_cons] at hx ⊢
              rcases hx with h | h | h | h | h
              · exact .inl h
              · exact .inr (.inl h)
              · exact .inr (.inr (.inl h))
              · exact absurd h hxe
              · exact .inr (.inr (.inr h))
          · rw [hV]
            simp only [List.mem_append, List.mem_cons] at hx ⊢
            rcases hx with h | h | h | h | h
            · exact .inl h
            · exact .inr (.inl h)
            · exact .inr (.inr (.inl h))
            · exact .inr (.inl h)
            · exact .inr (.inr (.inr h))
        obtain ⟨R', V', e1, e2, e3, e4⟩ := pl_l1 hb hP Dp Wp m c hp j (t + 1) (R1 ++ nx :: R2) (V1 ++ c :: V2) (by omega) hI2
        refine ⟨R', V', hstep _ (Ev.pos htm (Ev.bind hat (Ev.pos (by omega) (Ev.neg hno ?_)))), e2, fun x hx => e3 x ?_, fin _ _ hphi _ _ e4⟩
        · rw [Int.toNat_natCast, htD, htW]
          exact e1
        · rw [hR] at hx
          simp only [List.mem_append, List.mem_cons] at hx ⊢
          rcases hx with h | h
          · exact .inl h
          · exact .inr (.inr h)
    · rw [if_neg (fun h => hdv (hdd.mpr h)), Int.add_zero] at hcw
      obtain ⟨R', V', e1, e2, e3, e4⟩ := pl_l1 hb hP Dp Wp m c hp j (t + 1) R V (by omega) hI
      rw [hcw] at e4
      refine ⟨R', V', hstep _ (Ev.neg ?_ e1), e2, e3, e4⟩
      rw [tmod_of (by omega)]
      exact fun h => hdv (Int.dvd_of_emod_eq_zero h)
theorem pl_l0 {b P : Int} (hb : 2 ≤ b ∧ b ≤ 16) (hP : 1 ≤ P ∧ P ≤ 1000000000000) : ∀ (f : Nat) (Dp Wp : List Int) (m c : Int) (R V : List Int), (P - m).toNat < f → Wp.length = Dp.length → Inv P (Dp ++ m :: R) (Wp ++ c :: V) →
    ∃ (D W : List Int) (x v : Int), Ev (fun k => spec_prLists.l0 P b k (Dp ++ m :: R) (Wp ++ c :: V) (Dp.length : Int)) (D ++ [x], W ++ [v]) ∧ D.length < 3000000 ∧ W.length = D.length ∧ wrap64 v = v ∧ Md (if x = P then v else 0) (phi b P (m :: R) (c :: V))
  | 0, _, _, _, _, _, _, h, _, _ => by omega
  | f + 1, Dp, Wp, m, c, R, V, h, hp, hI => by
    have hsm := inv_small hP hI
    have hDl : (Dp ++ m :: R).length = Dp.length + (R.length + 1) := by simp
    obtain ⟨R', V', e1, e2, e3, e4⟩ := pl_l1 hb hP Dp Wp m c hp (b - 2).toNat 0 R V (by omega) hI
    have hsm2 := inv_small hP e2
    have hDl2 : (Dp ++ m :: R').length = Dp.length + (R'.length + 1) := by simp
    have hWl2 : (Wp ++ c :: V').length = Wp.length + (V'.length + 1) := by simp
    have hlen2 := e2.len
    obtain ⟨hm1, hmd⟩ := hI.dv m (by simp)
    have hmP : m ≤ P := Int.le_of_dvd (by omega) hmd
    have e4' : Md (phi b P R' V') (phi b P R V + c * impl_countWith.cwL (impl_countWith.cws b) (P / m) (b - 2).toNat) := by
      have : impl_countWith.cwL (impl_countWith.cws b) (P / m) 0 = 0 := rfl
      rw [this, Int.mul_zero, Int.add_zero] at e4
      exact e4
    have hphi : phi b P (m :: R) (c :: V) = c * impl_countWith.cws b (P / m) + phi b P R V := rfl
    have hbig : m ≠ P → Md (phi b P R' V') (phi b P (m :: R) (c :: V)) := fun hne => by
      have hPm : m * (P / m) = P := Int.mul_ediv_cancel' hmd
      have hq : 1 < P / m := by
        rcases Int.lt_or_le 1 (P / m) with h | h
        · exact h
        · have : m * (P / m) ≤ m * 1 := Int.mul_le_mul_of_nonneg_left h (by omega)
          omega
      rw [← impl_countWith.cws_eq b hq] at e4'
      rw [hphi, Int.add_comm]
      exact e4'
    have hs : ∀ r, Ev (fun k => spec_prLists.l0 P b k (Dp ++ m :: R') (Wp ++ c :: V') ((Dp.length : Int) + 1)) r → Ev (fun k => spec_prLists.l0 P b k (Dp ++ m :: R) (Wp ++ c :: V) (Dp.length : Int)) r := fun r hr => by
      refine Ev.step (fun k => by rw [spec_prLists.l0]) (Ev.pos (by omega) (Ev.pos (by omega) ?_))
      exact Ev.bind e1 hr
    cases R' with
    | nil =>
      have hR : R = [] := by
        cases R with
        | nil => rfl
        | cons y T => exact absurd (e3 y (by simp)) (by simp)
      subst hR
      obtain rfl : V' = [] := by
        cases V' with
        | nil => rfl
        | cons v V' => simp only [List.length_cons, List.length_nil] at hWl2 hDl2; omega
      have hV0 : phi b P [] V = 0 := by simp [phi]
      refine ⟨Dp, Wp, m, c, hs _ ?_, by simp at hDl2; omega, hp, e2.wr c (by simp), ?_⟩
      · refine Ev.step (fun k => by rw [spec_prLists.l0]) (Ev.neg (by simp) (Ev.now _))
      · by_cases hmP2 : m = P
        · rw [if_pos hmP2, hphi, hV0, hmP2, Int.ediv_self (by omega), impl_countWith.cws_one]
          exact ⟨0, by omega⟩
        · rw [if_neg hmP2]
          have := hbig hmP2
          simpa [phi] using this
    | cons m' R'' =>
      obtain ⟨c', V'', rfl⟩ : ∃ c' V'', V' = c' :: V'' := by
        cases V' with
        | nil => simp only [List.length_cons, List.length_nil] at hWl2 hDl2; omega
        | cons c' V'' => exact ⟨c', V'', rfl⟩
      obtain ⟨p1, p2, p3⟩ := List.pairwise_append.mp e2.pw
      have hlt : m < m' := (List.pairwise_cons.mp p2).1 m' (by simp)
      have hm'P : m' ≤ P := Int.le_of_dvd (by omega) (e2.dv m' (by simp)).2
      have e2' : Inv P ((Dp ++ [m]) ++ m' :: R'') ((Wp ++ [c]) ++ c' :: V'') := by simpa using e2
      obtain ⟨D, W, x, v, g1, g2, g3, g5, g4⟩ := pl_l0 hb hP f (Dp ++ [m]) (Wp ++ [c]) m' c' R'' V'' (by omega) (by simp; omega) e2'
      refine ⟨D, W, x, v, hs _ ?_, g2, g3, g5, g4.tr (hbig (by omega))⟩
      simpa using g1
theorem pls_ev {b P : Int} (hb : 2 ≤ b ∧ b ≤ 16) (hP : 1 ≤ P ∧ P ≤ 1000000000000) : Ev (fun k => spec_prLists.f k P b) (wrap64 (impl_countWith.cws b P)) := by
  obtain ⟨D, W, x, v, g1, g2, g3, g5, g4⟩ := pl_l0 hb hP (P.toNat + 1) [] [] 1 1 [] [] (by omega) rfl ⟨by simp, fun x hx => by simp at hx; subst hx; exact ⟨by omega, Int.one_dvd _⟩, rfl, fun x hx => by simp at hx; subst hx; unfold wrap64; rfl⟩
  have hphi : phi b P [1] [1] = impl_countWith.cws b P := by simp [phi]
  rw [hphi] at g4
  have hl : (((D ++ [x]).length : Nat) : Int) - 1 = (D.length : Int) := by simp
  have r1 : rd (D ++ [x]) (D.length : Int) = x := rd_mid _ _ _
  have r2 : rd (W ++ [v]) (D.length : Int) = v := by rw [← g3]; exact rd_mid _ _ _
  have hr : wrap64 (impl_countWith.cws b P) = if x = P then v else 0 := by
    rw [← Md.eq g4]
    by_cases hx : x = P
    · rw [if_pos hx]; exact g5
    · rw [if_neg hx]; unfold wrap64; rfl
  rw [hr]
  unfold spec_prLists.f
  refine Ev.bind g1 (Ev.pos ⟨by simp, by simp; omega, by simp; omega⟩ ?_)
  show Ev (fun k => if rd (D ++ [x]) (((D ++ [x]).length : Int) - 1) = P then some (rd (W ++ [v]) (((D ++ [x]).length : Int) - 1)) else some 0) _
  rw [hl, r1, r2]
  by_cases hx : x = P
  · exact Ev.pos hx (by rw [if_pos hx]; exact Ev.now _)
  · exact Ev.neg hx (by rw [if_neg hx]; exact Ev.now _)
theorem cp_ev (a b : Int) : ∃ r : Int × Bool, Ev (fun k => spec_CountWithProduct.f k a b) r ∧ Ev (fun k => impl_CountWithProduct.f k a b) r := by
  unfold spec_CountWithProduct.f impl_CountWithProduct.f
  rw [spec_dgAsked_eq, impl_in_eq, impl_isBase_eq]
  by_cases h : asked a b
  · obtain ⟨⟨h0, h1⟩, hb⟩ := h
    by_cases h2 : 2 ≤ a
    · refine ⟨(wrap64 (impl_countWith.cws b a), true), ?_, ?_⟩
      · refine Ev.pure rfl (Ev.pos (decide_eq_true ⟨⟨h0, h1⟩, hb⟩) ?_)
        rw [decide_eq_false (show ¬ a < 2 by omega)]
        refine Ev.step (fun k => by rw [spec_CountWithProduct.j0]) (Ev.neg (by decide) ?_)
        by_cases hlt : a < 1000
        · exact Ev.pos hlt (Ev.bind (pc_ev hb _ a (Nat.lt_succ_self _) (by omega) h1) (Ev.now _))
        · exact Ev.neg hlt (Ev.bind (pls_ev hb (P := a) (by omega)) (Ev.now _))
      · refine Ev.pure rfl (Ev.pos (decide_eq_true ⟨h2, h1⟩) (Ev.pure rfl (Ev.pos (decide_eq_true hb) ?_)))
        obtain ⟨s, hs, hiff⟩ := smooth_iff hb.2 (show 1 ≤ a by omega) h1
        refine Ev.bind hs ?_
        by_cases hst : s = true
        · exact Ev.pos hst (Ev.now _)
        · refine Ev.neg hst (Ev.val ?_)
          rw [cw_zero _ a (Nat.lt_succ_self _) (by omega) (fun hk => hst (hiff.mpr hk)), w64 (by omega) (by omega)]
    · refine ⟨(0, false), ?_, Ev.pure rfl (Ev.neg (by simp; omega) (Ev.now _))⟩
      refine Ev.pure rfl (Ev.pos (decide_eq_true ⟨⟨h0, h1⟩, hb⟩) ?_)
      rw [decide_eq_true (show a < 2 by omega)]
      refine Ev.step (fun k => by rw [spec_CountWithProduct.j0]) ?_
      exact Ev.pos rfl (Ev.now _)
  · refine ⟨(0, false), ?_, ?_⟩
    · refine Ev.pure rfl (Ev.neg (by simpa using h) ?_)
      refine Ev.step (fun k => by rw [spec_CountWithProduct.j0]) ?_
      exact Ev.pos rfl (Ev.now _)
    · by_cases h2 : 2 ≤ a ∧ a ≤ 1000000000000
      · refine Ev.pure rfl (Ev.pos (decide_eq_true h2) (Ev.pure rfl (Ev.neg ?_ (Ev.now _))))
        simp only [decide_eq_true_eq]
        exact fun hb => h ⟨by omega, hb⟩
      · exact Ev.pure rfl (Ev.neg (by simpa using h2) (Ev.now _))
theorem FnExactCountWithProduct : laws_FnExactCountWithProduct.Pure := by
  intro a0 a1 hw hw1
  apply Ev.rounds
  obtain ⟨r, hs, hi⟩ := cp_ev a0 a1
  refine Ev.bind hs (Ev.bind hi ?_)
  simp; exact Ev.now _

end Go.Proofs.Ytimimjmabnmeoaa.Pure
