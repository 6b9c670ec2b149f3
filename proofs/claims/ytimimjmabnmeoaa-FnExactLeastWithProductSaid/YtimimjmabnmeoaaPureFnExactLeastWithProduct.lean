/- For all ints product and base, the program's LeastWithProduct gives what the reference's gives. No conditions. -/
import Derived.Test.YtimimjmabnmeoaaPFnExactLeastWithProductx3
namespace Go.Proofs.Ytimimjmabnmeoaa.Pure
open Go.RowKit Go.Proofs.Ytimimjmabnmeoaa.PFnExactLeastWithProduct Go.Proofs.YtimimjmabnmeoaaW.PrintWords Go.Proofs.YtimimjmabnmeoaaW.PrintLast

theorem wf_i64 {x : Int} (h : (Lit.int .i64 x).wf = true) : -9223372036854775808 ≤ x ∧ x ≤ 9223372036854775807 := by
  simp only [Lit.wf, Bool.and_eq_true, decide_eq_true_eq, show IntKind.i64.min = -9223372036854775808 from rfl, show IntKind.i64.max = 9223372036854775807 from rfl] at h
  exact h
theorem w64 {x : Int} (h0 : -9223372036854775808 ≤ x) (h1 : x ≤ 9223372036854775807) : wrap64 x = x := by unfold wrap64; omega
theorem Ev.pos {α : Type} {c : Prop} [Decidable c] {A B : Nat → Option α} {r : α} (h : c) (e : Ev A r) : Ev (fun k => if c then A k else B k) r := by simpa only [if_pos h] using e
theorem Ev.neg {α : Type} {c : Prop} [Decidable c] {A B : Nat → Option α} {r : α} (h : ¬ c) (e : Ev B r) : Ev (fun k => if c then A k else B k) r := by simpa only [if_neg h] using e
theorem Ev.val {α : Type} {a r : α} (h : a = r) : Ev (fun _ => some a) r := h ▸ Ev.now a
theorem Ev.pure {α β : Type} {o : Option α} {f : Nat → α → Option β} {a : α} {r : β} (h : o = some a) (k : Ev (fun n => f n a) r) : Ev (fun n => o.bind (f n)) r := by subst h; exact k
theorem Ev.call {α β : Type} {g : Nat → Option α} {f : Nat → α → Option β} {a : α} {r : β} (h : Ev g a) (k : Ev (fun n => f n a) r) : Ev (fun n => (g n).bind (f n)) r := Ev.bind h k
theorem Ev.same {α : Type} {g f : Nat → Option α} {r : α} (h : ∀ k, g k = f k) (k : Ev g r) : Ev f r := Ev.congr (fun k => (h k).symm) k

theorem rd_mid (pre rest : List Int) (a : Int) : rd (pre ++ a :: rest) (pre.length : Int) = a := by simp [rd]

def asked (n base : Int) : Prop := (0 ≤ n ∧ n ≤ 1000000000000) ∧ (2 ≤ base ∧ base ≤ 16)
instance (n base : Int) : Decidable (asked n base) := by unfold asked; infer_instance
theorem spec_l1In_eq (a b c : Int) : spec_l1In.f a b c = some (decide (b ≤ a ∧ a ≤ c)) := by
  unfold spec_l1In.f
  by_cases h : b ≤ a
  · rw [if_pos (show a ≥ b from h)]; simp [h]
  · rw [if_neg (show ¬ a ≥ b from h)]; simp [h]
theorem impl_in_eq (a b c : Int) : impl_in.f a b c = some (decide (b ≤ a ∧ a ≤ c)) := by
  unfold impl_in.f
  by_cases h : b ≤ a
  · rw [if_pos h]; simp [h]
  · rw [if_neg h]; simp [h]
theorem spec_dgBase_eq (b : Int) : spec_dgBase.f b = some (decide (2 ≤ b ∧ b ≤ 16)) := by
  unfold spec_dgBase.f
  rw [spec_l1In_eq]; simp
theorem impl_isBase_eq (b : Int) : impl_isBase.f b = some (decide (2 ≤ b ∧ b ≤ 16)) := by
  unfold impl_isBase.f
  rw [impl_in_eq]; simp

theorem spec_dgAsked_eq (a b : Int) : spec_dgAsked.f a b = some (decide (asked a b)) := by
  unfold spec_dgAsked.f spec_dgNumber.f asked
  rw [spec_dgBase_eq, spec_l1In_eq]
  by_cases h : 0 ≤ a ∧ a ≤ 1000000000000
  · simp [h]
  · simp [h]

theorem div_lt_of {n d : Int} (hn : 1 ≤ n) (hd : 2 ≤ d) : n / d < n := by
  apply Int.ediv_lt_of_lt_mul (by omega)
  have : n * 2 ≤ n * d := Int.mul_le_mul_of_nonneg_left hd (by omega)
  omega
theorem div_ge {n d : Int} (hn : 0 ≤ n) (hd : 2 ≤ d) : 0 ≤ n / d := Int.ediv_nonneg hn (by omega)
theorem div_le {n d : Int} (hn : 0 ≤ n) (hd : 2 ≤ d) : n / d ≤ n := by
  by_cases h : n = 0
  · subst h; simp
  · have := div_lt_of (n := n) (d := d) (by omega) hd; omega
theorem div_pos_of {n d : Int} (hn : 1 ≤ n) (hd : 2 ≤ d) (h : n % d = 0) : 1 ≤ n / d := by
  have e := Int.mul_ediv_add_emod n d
  have h0 : 0 ≤ n / d := div_ge (by omega) hd
  by_cases hz : n / d = 0
  · rw [hz, h] at e; simp at e; omega
  · omega
theorem tmod_of {a b : Int} (h : 0 ≤ a) : Int.tmod a b = a % b := Int.tmod_eq_emod_of_nonneg h
theorem tdiv_of {a b : Int} (h : 0 ≤ a) : Int.tdiv a b = a / b := Int.tdiv_eq_ediv_of_nonneg h

/-! products of digits: lists of digits from 2 on, below the base -/
def prodI : List Int → Int
  | [] => 1
  | x :: l => x * prodI l
def OKd (b : Int) (l : List Int) : Prop := ∀ x ∈ l, 2 ≤ x ∧ x < b
def PL (b : Int) (k : Nat) (n : Int) : Prop := ∃ l : List Int, l.length = k ∧ OKd b l ∧ prodI l = n
theorem prodI_pos {b : Int} : ∀ l, OKd b l → 1 ≤ prodI l
  | [], _ => by simp [prodI]
  | x :: l, h => by
    have h1 := h x List.mem_cons_self
    have h2 := prodI_pos l (fun y hy => h y (List.mem_cons_of_mem _ hy))
    have : x * 1 ≤ x * prodI l := Int.mul_le_mul_of_nonneg_left h2 (by omega)
    simp only [prodI]; omega
theorem div_mul {n d : Int} (h : n % d = 0) : d * (n / d) = n := Int.mul_ediv_cancel' (Int.dvd_of_emod_eq_zero h)
theorem PL_succ {b n : Int} {k : Nat} : PL b (k + 1) n ↔ ∃ d, (2 ≤ d ∧ d < b) ∧ n % d = 0 ∧ PL b k (n / d) := by
  constructor
  · rintro ⟨l, hl, ho, hp⟩
    cases l with
    | nil => simp at hl
    | cons d t =>
      have hd := ho d List.mem_cons_self
      simp only [prodI] at hp
      refine ⟨d, hd, ?_, t, by simpa using hl, fun x hx => ho x (List.mem_cons_of_mem _ hx), ?_⟩
      · rw [← hp]; exact Int.mul_emod_right d _
      · rw [← hp]; exact (Int.mul_ediv_cancel_left _ (by omega)).symm
  · rintro ⟨d, hd, hm, t, ht, ho, hp⟩
    refine ⟨d :: t, by simp [ht], fun x hx => ?_, ?_⟩
    · rcases List.mem_cons.mp hx with rfl | hx
      · exact hd
      · exact ho x hx
    · simp only [prodI]; rw [hp]; exact div_mul hm
theorem PL_pow {b : Int} : ∀ (l : List Int), OKd b l → (2 : Int) ^ l.length ≤ prodI l
  | [], _ => by simp [prodI]
  | x :: l, h => by
    have h1 := h x List.mem_cons_self
    have h2 := PL_pow l (fun y hy => h y (List.mem_cons_of_mem _ hy))
    have h3 := prodI_pos l (fun y hy => h y (List.mem_cons_of_mem _ hy))
    have h4 : 2 * prodI l ≤ x * prodI l := Int.mul_le_mul_of_nonneg_right h1.1 (by omega)
    rw [List.length_cons, Int.pow_succ]
    simp only [prodI]; omega
theorem two_pow {a c : Nat} (h : a ≤ c) : (2 : Int) ^ a ≤ 2 ^ c := by
  have : 2 ^ a ≤ 2 ^ c := Nat.pow_le_pow_right (by omega) h
  exact_mod_cast this
theorem PL_len {b n : Int} {k : Nat} (h : PL b k n) (hn : n ≤ 1000000000000) : k < 40 := by
  obtain ⟨l, hl, ho, hp⟩ := h
  have := PL_pow l ho
  rw [hl, hp] at this
  rcases Nat.lt_or_ge k 40 with h | h
  · exact h
  · have := two_pow h
    have e : (2 : Int) ^ 40 = 1099511627776 := by decide
    omega
theorem PL_pos {b n : Int} {k : Nat} (h : PL b k n) : 1 ≤ n := by
  obtain ⟨l, _, ho, hp⟩ := h
  rw [← hp]; exact prodI_pos l ho
theorem PL_zero {b n : Int} : PL b 0 n ↔ n = 1 := by
  constructor
  · rintro ⟨l, hl, _, hp⟩
    have := List.length_eq_zero_iff.mp hl
    subst this
    simpa [prodI] using hp.symm
  · rintro rfl
    exact ⟨[], rfl, (fun x hx => (List.not_mem_nil hx).elim), rfl⟩
theorem quo_rng {n d : Int} (h1 : 1 ≤ n) (hd : 2 ≤ d) (hm : n % d = 0) : 1 ≤ n / d ∧ n / d < n := ⟨div_pos_of h1 hd hm, div_lt_of h1 hd⟩

def FS (b n : Int) : Prop := (impl_fewest.V b n = -1 ∧ ∀ k, ¬ PL b k n) ∨ ∃ L : Nat, impl_fewest.V b n = (L : Int) ∧ PL b L n ∧ ∀ k, PL b k n → L ≤ k
/-- what the least of some lengths, and one more, is -/
def LI (P : Int → Nat → Prop) (o c : Int) : Prop := (o = -1 ∧ ∀ d : Int, 2 ≤ d → d < c → ∀ k, ¬ P d k) ∨ ∃ L : Nat, o = (L : Int) + 1 ∧ (∃ d : Int, 2 ≤ d ∧ d < c ∧ P d L) ∧ ∀ d : Int, 2 ≤ d → d < c → ∀ k, P d k → L ≤ k
theorem LI_skip {P : Int → Nat → Prop} {o c : Int} (h : LI P o c) (hn : ∀ k, ¬ P c k) : LI P o (c + 1) := by
  have last : ∀ d : Int, d < c + 1 → d < c ∨ d = c := fun d a => by omega
  rcases h with ⟨h1, h2⟩ | ⟨L, h1, ⟨d, d1, d2, d3⟩, h3⟩
  · refine .inl ⟨h1, fun d a e k => ?_⟩
    rcases last d e with h | rfl
    · exact h2 d a h k
    · exact hn k
  · refine .inr ⟨L, h1, ⟨d, d1, by omega, d3⟩, fun d a e k hk => ?_⟩
    rcases last d e with h | rfl
    · exact h3 d a h k hk
    · exact absurd hk (hn k)
theorem LI_new {P : Int → Nat → Prop} {o c : Int} {L0 : Nat} (hc : 2 ≤ c) (h : LI P o c) (h0 : P c L0) (hm : ∀ k, P c k → L0 ≤ k) (hlt : L0 < 64) : LI P (impl_fewest.pk (L0 : Int) o) (c + 1) := by
  have last : ∀ d : Int, d < c + 1 → d < c ∨ d = c := fun d a => by omega
  have hw : wrap64 ((L0 : Int) + 1) = (L0 : Int) + 1 := w64 (by omega) (by omega)
  rcases h with ⟨rfl, h2⟩ | ⟨L, rfl, ⟨d, d1, d2, d3⟩, h3⟩
  · have hp : impl_fewest.pk (L0 : Int) (-1) = (L0 : Int) + 1 := by unfold impl_fewest.pk; rw [if_pos ⟨by omega, by omega⟩, hw]
    rw [hp]
    refine .inr ⟨L0, rfl, ⟨c, hc, by omega, h0⟩, fun d a e k hk => ?_⟩
    rcases last d e with h | rfl
    · exact absurd hk (h2 d a h k)
    · exact hm k hk
  · by_cases hl : L0 < L
    · have hp : impl_fewest.pk (L0 : Int) ((L : Int) + 1) = (L0 : Int) + 1 := by unfold impl_fewest.pk; rw [if_pos ⟨by omega, by rw [hw]; omega⟩, hw]
      rw [hp]
      refine .inr ⟨L0, rfl, ⟨c, hc, by omega, h0⟩, fun d a e k hk => ?_⟩
      rcases last d e with h | rfl
      · have := h3 d a h k hk; omega
      · exact hm k hk
    · have hp : impl_fewest.pk (L0 : Int) ((L : Int) + 1) = (L : Int) + 1 := by unfold impl_fewest.pk; rw [if_neg (by rw [hw]; omega)]
      rw [hp]
      refine .inr ⟨L, rfl, ⟨d, d1, by omega, d3⟩, fun d a e k hk => ?_⟩
      rcases last d e with h | rfl
      · exact h3 d a h k hk
      · have := hm k hk; omega
theorem pk_neg (o : Int) : impl_fewest.pk (-1) o = o := by unfold impl_fewest.pk; rw [if_neg (by omega)]
theorem few_inv {b n : Int} (h1 : 1 ≤ n) (hn : n ≤ 1000000000000) (hq : ∀ q, 1 ≤ q → q < n → FS b q) : ∀ m : Nat, LI (fun d k => n % d = 0 ∧ PL b k (n / d)) (impl_fewest.cwL (impl_fewest.V b) n m) ((m : Int) + 2)
  | 0 => .inl ⟨rfl, fun d h2 h3 => by omega⟩
  | m + 1 => by
    have ih := few_inv h1 hn hq m
    have e : ((m + 1 : Nat) : Int) + 2 = (m : Int) + 2 + 1 := by omega
    rw [e]
    show LI _ (if n % ((m : Int) + 2) = 0 then impl_fewest.pk (impl_fewest.V b (n / ((m : Int) + 2))) (impl_fewest.cwL (impl_fewest.V b) n m) else impl_fewest.cwL (impl_fewest.V b) n m) _
    by_cases hd : n % ((m : Int) + 2) = 0
    · rw [if_pos hd]
      obtain ⟨q1, q2⟩ := quo_rng h1 (show (2 : Int) ≤ (m : Int) + 2 by omega) hd
      rcases hq _ q1 q2 with ⟨hz, hno⟩ | ⟨L0, hz, hL0, hmin⟩
      · rw [hz, pk_neg]
        exact LI_skip ih (fun k hk => hno k hk.2)
      · rw [hz]
        have hlen := PL_len hL0 (Int.le_trans (Int.le_of_lt q2) hn)
        exact LI_new (by omega) ih ⟨hd, hL0⟩ (fun k hk => hmin k hk.2) (by omega)
    · rw [if_neg hd]
      exact LI_skip ih (fun k hk => hd hk.1)
theorem few_spec {b : Int} (hb : 2 ≤ b) : ∀ (f : Nat) (n : Int), 1 ≤ n → n.toNat ≤ f → n ≤ 1000000000000 → FS b n
  | 0, n, h1, h2, _ => by omega
  | f + 1, n, h1, h2, hn => by
    by_cases e : n = 1
    · subst e
      exact .inr ⟨0, rfl, PL_zero.mpr rfl, fun k _ => Nat.zero_le k⟩
    · have hi := few_inv (b := b) h1 hn (fun q a c => few_spec hb f q a (by omega) (by omega)) (b - 2).toNat
      have hb2 : (((b - 2).toNat : Nat) : Int) + 2 = b := by omega
      rw [hb2] at hi
      unfold FS
      rw [impl_fewest.V_eq b (show 1 < n by omega)]
      rcases hi with ⟨i1, i2⟩ | ⟨L, i1, ⟨d, d1, d2, d3, d4⟩, i3⟩
      · refine .inl ⟨i1, fun k hk => ?_⟩
        cases k with
        | zero => exact e (PL_zero.mp hk)
        | succ k =>
          obtain ⟨d, hd, hm, hp⟩ := PL_succ.mp hk
          exact i2 d hd.1 hd.2 k ⟨hm, hp⟩
      · refine .inr ⟨L + 1, by rw [i1]; omega, PL_succ.mpr ⟨d, ⟨d1, d2⟩, d3, d4⟩, fun k hk => ?_⟩
        cases k with
        | zero => exact absurd (PL_zero.mp hk) e
        | succ k =>
          obtain ⟨d', hd, hm, hp⟩ := PL_succ.mp hk
          have := i3 d' hd.1 hd.2 k ⟨hm, hp⟩
          omega
theorem few_ok {b : Int} (hb : 2 ≤ b) {n : Int} (h1 : 1 ≤ n) (hn : n ≤ 1000000000000) : FS b n := few_spec hb n.toNat n h1 (Nat.le_refl _) hn
theorem few_of {b : Int} (hb : 2 ≤ b) {n : Int} (h1 : 1 ≤ n) (hn : n ≤ 1000000000000) {k : Nat} (h : PL b k n) : ∃ L : Nat, impl_fewest.V b n = (L : Int) ∧ PL b L n ∧ (∀ k, PL b k n → L ≤ k) ∧ L < 40 := by
  rcases few_ok hb h1 hn with ⟨_, h2⟩ | ⟨L, h2, h3, h4⟩
  · exact absurd h (h2 k)
  · exact ⟨L, h2, h3, h4, PL_len h3 hn⟩

/-! smooth: a product of digits -/
/-- what is left of a number, from a divisor on -/
def Res (b d n m : Int) : Prop := 1 ≤ m ∧ m ∣ n ∧ (∀ e, d ≤ e → e < b → ¬ e ∣ m) ∧ ∃ l, OKd b l ∧ n = m * prodI l
theorem res_l1 (base d : Int) (hd : 2 ≤ d) (hd2 : d < base) (hb : base ≤ 16)
    (hl0 : ∀ n, 1 ≤ n → n ≤ 1000000000000 → ∃ m, Res base (d + 1) n m ∧ Ev (fun k => spec_prSmooth.l0 k n base (d + 1)) (m == 1) ∧ Ev (fun k => impl_isSmooth.l0 k n base (d + 1)) (m == 1)) :
    ∀ f : Nat, ∀ n : Int, 1 ≤ n → n ≤ 1000000000000 → n.toNat < f → ∃ m, Res base d n m ∧ Ev (fun k => spec_prSmooth.l1 k n base d) (m == 1) ∧ Ev (fun k => impl_isSmooth.l1 k n base d) (m == 1)
  | 0, n, _, _, h => by omega
  | f + 1, n, h1, h2, h => by
    have hw : wrap64 (d + 1) = d + 1 := w64 (by omega) (by omega)
    by_cases hm : n % d = 0
    · have hlt := div_lt_of h1 hd
      have hp := div_pos_of h1 hd hm
      obtain ⟨m, ⟨r1, r2, r3, l, r4, r5⟩, hs, hi⟩ := res_l1 base d hd hd2 hb hl0 f (n / d) hp (by omega) (by omega)
      have hv : wrap64 (Int.tdiv n d) = n / d := by rw [tdiv_of (by omega)]; exact w64 (by omega) (by omega)
      have hdm := div_mul hm
      refine ⟨m, ⟨r1, ?_, r3, d :: l, fun x hx => ?_, ?_⟩, ?_, ?_⟩
      · rw [← hdm]; exact Int.dvd_mul_of_dvd_right r2
      · rcases List.mem_cons.mp hx with rfl | hx
        · exact ⟨hd, hd2⟩
        · exact r4 x hx
      · simp only [prodI]
        rw [← Int.mul_assoc, Int.mul_comm m d, Int.mul_assoc, ← r5, hdm]
      · refine Ev.step (fun k => by rw [spec_prSmooth.l1]) ?_
        refine Ev.pos (by omega) (Ev.neg (by omega) (Ev.pos (by rw [tmod_of (by omega)]; exact hm) ?_))
        rw [hv]; exact hs
      · refine Ev.step (fun k => by rw [impl_isSmooth.l1]) ?_
        refine Ev.neg (by omega) (Ev.pos (by rw [tmod_of (by omega)]; exact hm) ?_)
        rw [hv]; exact hi
    · obtain ⟨m, ⟨r1, r2, r3, r4⟩, hs, hi⟩ := hl0 n h1 h2
      refine ⟨m, ⟨r1, r2, fun e a c hdv => ?_, r4⟩, ?_, ?_⟩
      · by_cases he : e = d
        · subst he
          exact hm (Int.emod_eq_zero_of_dvd (Int.dvd_trans hdv r2))
        · exact r3 e (by omega) c hdv
      · refine Ev.step (fun k => by rw [spec_prSmooth.l1]) ?_
        refine Ev.pos (by omega) (Ev.neg (by omega) (Ev.neg (by rw [tmod_of (by omega)]; exact hm) ?_))
        rw [hw]; exact hs
      · refine Ev.step (fun k => by rw [impl_isSmooth.l1]) ?_
        refine Ev.neg (by omega) (Ev.neg (by rw [tmod_of (by omega)]; exact hm) ?_)
        rw [hw]; exact hi
theorem res_l0 (base : Int) (hb : base ≤ 16) : ∀ f : Nat, ∀ n d : Int, 1 ≤ n → n ≤ 1000000000000 → 2 ≤ d → d ≤ 17 → (17 - d).toNat < f → ∃ m, Res base d n m ∧ Ev (fun k => spec_prSmooth.l0 k n base d) (m == 1) ∧ Ev (fun k => impl_isSmooth.l0 k n base d) (m == 1)
  | 0, _, _, _, _, _, _, h => by omega
  | f + 1, n, d, h1, h2, hd, hd2, h => by
    by_cases hlt : d < base
    · obtain ⟨m, hr, hs, hi⟩ := res_l1 base d hd hlt hb (fun n' a c => res_l0 base hb f n' (d + 1) a c (by omega) (by omega) (by omega)) _ n h1 h2 (Nat.lt_succ_self _)
      exact ⟨m, hr, Ev.step (fun k => by rw [spec_prSmooth.l0]) (Ev.pos hlt hs), Ev.step (fun k => by rw [impl_isSmooth.l0]) (Ev.pos hlt hi)⟩
    · exact ⟨n, ⟨h1, Int.dvd_refl n, fun e a c => by omega, [], (fun x hx => (List.not_mem_nil hx).elim), by simp [prodI]⟩, Ev.step (fun k => by rw [spec_prSmooth.l0]) (Ev.neg hlt (Ev.now _)), Ev.step (fun k => by rw [impl_isSmooth.l0]) (Ev.neg hlt (Ev.now _))⟩
/-- what no digit divides and what divides a product of digits is one -/
theorem res_one (M : Nat) (b : Int) (hM : 1 ≤ M) (hn : ∀ e : Int, 2 ≤ e → e < b → ¬ e ∣ (M : Int)) : ∀ l : List Int, OKd b l → (M : Int) ∣ prodI l → M = 1
  | [], _, h => by
    have h2 : (M : Int) ∣ ((1 : Nat) : Int) := h
    have := Int.natCast_dvd_natCast.mp h2
    exact Nat.dvd_one.mp this
  | x :: l, ho, h => by
    have hx := ho x List.mem_cons_self
    obtain ⟨X, rfl⟩ : ∃ X : Nat, x = (X : Int) := ⟨x.toNat, by omega⟩
    have hg : Nat.Coprime M X := by
      have h1 : Nat.gcd M X ∣ M := Nat.gcd_dvd_left M X
      have h2 : Nat.gcd M X ∣ X := Nat.gcd_dvd_right M X
      have h3 : Nat.gcd M X ≤ X := Nat.le_of_dvd (by omega) h2
      have h4 : 1 ≤ Nat.gcd M X := Nat.pos_of_dvd_of_pos h1 (by omega)
      rcases Nat.lt_or_ge (Nat.gcd M X) 2 with h5 | h5
      · show Nat.gcd M X = 1
        omega
      · exact absurd (Int.natCast_dvd_natCast.mpr h1) (hn _ (by omega) (by omega))
    have hpp := prodI_pos l (fun y hy => ho y (List.mem_cons_of_mem _ hy))
    obtain ⟨Q, hQ⟩ : ∃ Q : Nat, prodI l = (Q : Int) := ⟨(prodI l).toNat, by omega⟩
    have h' : (M : Int) ∣ ((X * Q : Nat) : Int) := by
      have e : prodI ((X : Int) :: l) = ((X * Q : Nat) : Int) := by simp only [prodI]; rw [hQ]; exact (Int.natCast_mul X Q).symm
      rwa [e] at h
    have h2 := hg.dvd_of_dvd_mul_left (Int.natCast_dvd_natCast.mp h')
    refine res_one M b hM hn l (fun y hy => ho y (List.mem_cons_of_mem _ hy)) ?_
    rw [hQ]
    exact Int.natCast_dvd_natCast.mpr h2
theorem smooth_iff {base n : Int} (hb : base ≤ 16) (h1 : 1 ≤ n) (h2 : n ≤ 1000000000000) : ∃ r, Ev (fun k => spec_prSmooth.f k n base) r ∧ Ev (fun k => impl_isSmooth.f k n base) r ∧ (r = true ↔ ∃ k, PL base k n) := by
  obtain ⟨m, ⟨r1, r2, r3, l, r4, r5⟩, hs, hi⟩ := res_l0 base hb _ n 2 h1 h2 (by omega) (by omega) (Nat.lt_succ_self _)
  refine ⟨m == 1, hs, ?_, ?_⟩
  · unfold impl_isSmooth.f
    exact Ev.neg (by omega) hi
  · rw [beq_iff_eq]
    constructor
    · rintro rfl
      exact ⟨l.length, l, rfl, r4, by rw [r5, Int.one_mul]⟩
    · rintro ⟨k, l2, _, ho, hp⟩
      obtain ⟨M, rfl⟩ : ∃ M : Nat, m = (M : Int) := ⟨m.toNat, by omega⟩
      have := res_one M base (by omega) r3 l2 ho (by rw [hp]; exact r2)
      omega

theorem pow_pos1 {x : Int} (h : 1 ≤ x) : ∀ p : Nat, 1 ≤ x ^ p
  | 0 => by simp
  | p + 1 => by
    have := Int.mul_le_mul (pow_pos1 h p) h (by omega) (show (0 : Int) ≤ x ^ p by have := pow_pos1 h p; omega)
    rw [Int.pow_succ]; omega
theorem pow_mono1 {x y : Int} (h0 : 0 ≤ x) (h : x ≤ y) : ∀ p : Nat, x ^ p ≤ y ^ p
  | 0 => by simp
  | p + 1 => by
    rw [Int.pow_succ, Int.pow_succ]
    exact Int.mul_le_mul (pow_mono1 h0 h p) h h0 (Int.pow_nonneg (by omega))
theorem pwl_l0 {x : Int} (h1 : 1 ≤ x) (h16 : x ≤ 16) : ∀ (p : Nat) (out : Int), p ≤ 1000 → 1 ≤ out → out ≤ 1000000000000000000 → ∃ v, Ev (fun k => spec_pwLimited.l0 k x (p : Int) out) v ∧ v ≤ out * x ^ p ∧ (v = out * x ^ p ∨ v = 1000000000000000000)
  | 0, out, _, h0, hm => ⟨out, Ev.step (fun k => by rw [spec_pwLimited.l0]) (Ev.neg (by omega) (Ev.now _)), by simp, .inl (by simp)⟩
  | p + 1, out, hp, h0, hm => by
    have hdiv : wrap64 ((1000000000000000000 : Int) / x) = 1000000000000000000 / x := by
      have a := Int.ediv_nonneg (show (0 : Int) ≤ 1000000000000000000 by omega) (show 0 ≤ x by omega)
      have c := Int.ediv_le_self x (show (0 : Int) ≤ 1000000000000000000 by omega)
      exact w64 (by omega) (by omega)
    have hpow : 1 ≤ x ^ p := pow_pos1 h1 p
    have hstep : out * x ^ (p + 1) = out * x * x ^ p := by rw [Int.pow_succ, Int.mul_comm (x ^ p) x, Int.mul_assoc]
    have hox : 1 ≤ out * x := by
      have : 1 * 1 ≤ out * x := Int.mul_le_mul h0 h1 (by omega) (by omega)
      omega
    by_cases hc : out > 1000000000000000000 / x
    · have hbig : 1000000000000000000 ≤ out * x := by
        have := Int.lt_mul_of_ediv_lt (show 0 < x by omega) hc
        omega
      have h2 : out * x * 1 ≤ out * x * x ^ p := Int.mul_le_mul_of_nonneg_left hpow (by omega)
      refine ⟨1000000000000000000, ?_, by rw [hstep]; omega, .inr rfl⟩
      refine Ev.step (fun k => by rw [spec_pwLimited.l0]) (Ev.pos (by omega) (Ev.neg (by omega) ?_))
      rw [hdiv]
      exact Ev.pos hc (Ev.now _)
    · have hle : out * x ≤ 1000000000000000000 := by
        have h3 : out ≤ 1000000000000000000 / x := by omega
        exact (Int.le_ediv_iff_mul_le (by omega)).mp h3
      obtain ⟨v, g1, g2, g3⟩ := pwl_l0 h1 h16 p (out * x) (by omega) hox hle
      have e1 : wrap64 (((p + 1 : Nat) : Int) - 1) = (p : Int) := by rw [w64 (by omega) (by omega)]; omega
      have e2 : wrap64 (out * x) = out * x := w64 (by omega) (by omega)
      refine ⟨v, ?_, by rw [hstep]; exact g2, by rw [hstep]; exact g3⟩
      refine Ev.step (fun k => by rw [spec_pwLimited.l0]) (Ev.pos (by omega) (Ev.neg (by omega) ?_))
      rw [hdiv]
      refine Ev.neg hc ?_
      rw [e1, e2]
      exact g1
theorem pwl_ev {x : Int} (h1 : 1 ≤ x) (h16 : x ≤ 16) (p : Nat) (hp : p ≤ 1000) : ∃ v, Ev (fun k => spec_pwLimited.f k x (p : Int)) v ∧ v ≤ x ^ p ∧ (v = x ^ p ∨ v = 1000000000000000000) := by
  obtain ⟨v, g1, g2, g3⟩ := pwl_l0 h1 h16 p 1 hp (by omega) (by omega)
  rw [Int.one_mul] at g2 g3
  exact ⟨v, g1, g2, g3⟩

theorem prod_lo {lo : Int} (h1 : 1 ≤ lo) : ∀ l : List Int, (∀ x ∈ l, lo ≤ x) → lo ^ l.length ≤ prodI l
  | [], _ => by simp [prodI]
  | x :: l, h => by
    have := prod_lo h1 l (fun y hy => h y (List.mem_cons_of_mem _ hy))
    have hp := pow_pos1 h1 l.length
    rw [List.length_cons, Int.pow_succ, Int.mul_comm]
    exact Int.mul_le_mul (h x List.mem_cons_self) this (by omega) (by have := h x List.mem_cons_self; omega)
theorem prod_hi {hi : Int} : ∀ l : List Int, (∀ x ∈ l, 1 ≤ x ∧ x ≤ hi) → prodI l ≤ hi ^ l.length ∧ 1 ≤ prodI l
  | [], _ => by simp [prodI]
  | x :: l, h => by
    obtain ⟨h1, h2⟩ := prod_hi l (fun y hy => h y (List.mem_cons_of_mem _ hy))
    have hx := h x List.mem_cons_self
    rw [List.length_cons, Int.pow_succ, Int.mul_comm]
    refine ⟨Int.mul_le_mul hx.2 h1 (by omega) (by omega), ?_⟩
    have : 1 * 1 ≤ x * prodI l := Int.mul_le_mul hx.1 h2 (by omega) (by omega)
    simp only [prodI]; omega
theorem prodI_append : ∀ a c : List Int, prodI (a ++ c) = prodI a * prodI c
  | [], c => by simp [prodI]
  | x :: a, c => by simp only [List.cons_append, prodI, prodI_append a c, Int.mul_assoc]
theorem prodI_mid (a c : List Int) (x : Int) : prodI (a ++ x :: c) = x * prodI (a ++ c) := by
  rw [prodI_append, prodI_append]
  simp only [prodI]
  rw [← Int.mul_assoc, Int.mul_comm (prodI a) x, Int.mul_assoc]
theorem sp_in (a b c : Int) : spec_l1In.f a b c = some (decide (b ≤ a ∧ a ≤ c)) := spec_l1In_eq a b c
/-- the reference's loop goes past a digit -/
theorem spell_skip {b n : Int} {k : Nat} {d : Int} {r : List Int} (hb : 3 ≤ b ∧ b ≤ 16) (hk : k ≤ 40) (h1 : 1 ≤ n) (hn : n ≤ 1000000000000) (hd : 2 ≤ d ∧ d < b) (hc : n % d = 0 → (d ^ (k + 1) ≤ n / d ∨ r = []) ∧ Ev (fun f => spec_prSpell.f f (n / d) d ((k : Int) + 1) b) [])
    (hr : Ev (fun f => spec_prSpell.l0 f n ((k : Int) + 2) b (d + 1)) r) : Ev (fun f => spec_prSpell.l0 f n ((k : Int) + 2) b d) r := by
  have e1 : wrap64 (b - 1) = b - 1 := w64 (by omega) (by omega)
  have e2 : wrap64 ((k : Int) + 2 - 1) = ((k + 1 : Nat) : Int) := by rw [w64 (by omega) (by omega)]; omega
  have e3 : wrap64 (d + 1) = d + 1 := w64 (by omega) (by omega)
  refine Ev.step (fun f => by rw [spec_prSpell.l0]) (Ev.pos hd.2 (Ev.neg (by omega) ?_))
  rw [tmod_of (by omega), tdiv_of (by omega)]
  by_cases hm : n % d = 0
  · obtain ⟨q1, q2⟩ := quo_rng h1 hd.1 hm
    have e4 : wrap64 (n / d) = n / d := w64 (by omega) (by omega)
    rw [e1, e2, e4]
    obtain ⟨v, v1, v2, v3⟩ := pwl_ev (x := b - 1) (by omega) (by omega) (k + 1) (by omega)
    refine Ev.pos hm (Ev.bind v1 ?_)
    refine Ev.step (fun f => by rw [spec_prSpell.j1]) ?_
    by_cases hv : n / d > v
    · refine Ev.pos (decide_eq_true hv) ?_
      rw [e3]; exact hr
    · refine Ev.neg (by simp only [decide_eq_true_eq]; exact hv) ?_
      rw [e2, e3]
      obtain ⟨u, u1, u2, u3⟩ := pwl_ev (x := d) (by omega) (by omega) (k + 1) (by omega)
      refine Ev.bind u1 ?_
      obtain ⟨c1, c2⟩ := hc hm
      by_cases hu : n / d < u
      · rcases c1 with c1 | rfl
        · omega
        · exact Ev.pos hu (Ev.now _)
      · refine Ev.neg hu ?_
        have e5 : ((k + 1 : Nat) : Int) = (k : Int) + 1 := by omega
        rw [e5]
        exact Ev.bind c2 (Ev.neg (by simp) hr)
  · refine Ev.neg hm ?_
    refine Ev.step (fun f => by rw [spec_prSpell.j1]) ?_
    refine Ev.pos rfl ?_
    rw [e3]; exact hr
theorem spell_none {b : Int} (hb : 3 ≤ b ∧ b ≤ 16) : ∀ (k : Nat) (n from_ : Int), k ≤ 40 → 1 ≤ n → n ≤ 1000000000000 → 2 ≤ from_ → ¬ PL b (k + 1) n → Ev (fun f => spec_prSpell.f f n from_ ((k : Int) + 1) b) []
  | 0, n, from_, _, h1, hn, hf, hno => by
    refine Ev.step (fun f => by rw [spec_prSpell.f]) ?_
    refine Ev.pos (by omega) ?_
    rw [w64 (x := b - 1) (by omega) (by omega), sp_in]
    refine Ev.pure rfl (Ev.neg ?_ (Ev.now _))
    simp only [decide_eq_true_eq]
    intro h
    refine hno ⟨[n], rfl, fun x hx => ?_, by simp [prodI]⟩
    rw [List.mem_singleton] at hx
    omega
  | k + 1, n, from_, hk, h1, hn, hf, hno => by
    refine Ev.step (fun f => by rw [spec_prSpell.f]) ?_
    refine Ev.neg (by omega) ?_
    have loop : ∀ (m : Nat) (d : Int), 2 ≤ d → (b - d).toNat < m → Ev (fun f => spec_prSpell.l0 f n ((k : Int) + 2) b d) [] := by
      intro m
      induction m with
      | zero => intro d _ h; omega
      | succ m ih =>
        intro d hd h
        by_cases hlt : d < b
        · refine spell_skip hb (by omega) h1 hn ⟨hd, hlt⟩ (fun hm => ⟨.inr rfl, ?_⟩) (ih (d + 1) (by omega) (by omega))
          obtain ⟨q1, q2⟩ := quo_rng h1 hd hm
          exact spell_none hb k (n / d) d (by omega) q1 (by omega) hd (fun hp => hno (PL_succ.mpr ⟨d, ⟨hd, hlt⟩, hm, hp⟩))
        · exact Ev.step (fun f => by rw [spec_prSpell.l0]) (Ev.neg hlt (Ev.now _))
    have e : ((k + 1 : Nat) : Int) + 1 = (k : Int) + 2 := by omega
    rw [e]
    exact loop _ from_ hf (Nat.lt_succ_self _)
theorem least_of (Q : Int → Prop) : ∀ (f : Nat) (d : Int), 2 ≤ d → d.toNat ≤ f → Q d → ∃ d1, 2 ≤ d1 ∧ d1 ≤ d ∧ Q d1 ∧ ∀ e, 2 ≤ e → e < d1 → ¬ Q e
  | 0, d, h, hf, _ => by omega
  | f + 1, d, h, hf, hq => by
    by_cases hc : ∃ e, 2 ≤ e ∧ e < d ∧ Q e
    · obtain ⟨e, e1, e2, e3⟩ := hc
      obtain ⟨d1, a1, a2, a3⟩ := least_of Q f e e1 (by omega) e3
      exact ⟨d1, a1, by omega, a3⟩
    · exact ⟨d, h, Int.le_refl _, hq, fun e e1 e2 e3 => hc ⟨e, e1, e2, e3⟩⟩
/-- a digit leaves as few as can be -/
theorem few_quo {b p d : Int} {L : Nat} (hb : 2 ≤ b) (h1 : 1 ≤ p) (hp : p ≤ 1000000000000) (hmin : ∀ k, PL b k p → L + 1 ≤ k) (hd : 2 ≤ d ∧ d < b) (hm : p % d = 0) (hl : PL b L (p / d)) : impl_fewest.V b (p / d) = (L : Int) := by
  obtain ⟨q1, q2⟩ := quo_rng h1 hd.1 hm
  obtain ⟨M, hM, hM2, hM3, _⟩ := few_of hb q1 (by omega) hl
  have a := hM3 L hl
  have c := hmin (M + 1) (PL_succ.mpr ⟨d, hd, hm, hM2⟩)
  rw [hM]; omega
theorem impl_l1 {b p d1 : Int} {L : Nat} (hd1 : 2 ≤ d1 ∧ d1 ≤ 16) (hL : L ≤ 40) (h1 : p % d1 = 0) (h2 : impl_fewest.V b (p / d1) = (L : Int)) (hno : ∀ e, 2 ≤ e → e < d1 → ¬ (p % e = 0 ∧ impl_fewest.V b (p / e) = (L : Int))) {ds r : List Int} (hds : ds.length ≤ 1000)
    (hr : Ev (fun k => impl_LeastWithProduct.l0 k b (p / d1) (L : Int) (ds ++ [d1])) r) : ∀ (m : Nat) (d : Int), 2 ≤ d → d ≤ d1 → (d1 - d).toNat < m → Ev (fun k => impl_LeastWithProduct.l1 k b p ((L : Int) + 1) ds d) r
  | 0, d, _, _, h => by omega
  | m + 1, d, hd, hd2, h => by
    have e : wrap64 ((L : Int) + 1 - 1) = (L : Int) := by rw [w64 (by omega) (by omega)]; omega
    refine Ev.step (fun k => by rw [impl_LeastWithProduct.l1]) ?_
    refine Ev.pos ⟨hd, by omega⟩ ?_
    rw [e]
    by_cases hq : d = d1
    · subst hq
      exact Ev.pos ⟨h1, h2⟩ (Ev.pos (by omega) hr)
    · exact Ev.neg (hno d hd (by omega)) (impl_l1 hd1 hL h1 h2 hno hds hr m (d + 1) (by omega) (by omega) (by omega))
/-- the program's digits, and what the reference spells -/
theorem greedy {b : Int} (hb : 3 ≤ b ∧ b ≤ 16) : ∀ (L : Nat) (p : Int), 1 ≤ p → p ≤ 1000000000000 → PL b L p → (∀ k, PL b k p → L ≤ k) → L < 40 → ∀ ds : List Int, ds.length + L ≤ 1000 →
    ∃ g : List Int, g.length = L ∧ OKd b g ∧ prodI g = p ∧ Ev (fun k => impl_LeastWithProduct.l0 k b p (L : Int) ds) (ds ++ g) ∧ (1 ≤ L → ∀ from_ : Int, 2 ≤ from_ → (∀ l, l.length = L → OKd b l → prodI l = p → ∀ x ∈ l, from_ ≤ x) → Ev (fun k => spec_prSpell.f k p from_ (L : Int) b) g)
  | 0, p, h1, hp, hl, hmin, _, ds, hds => by
    refine ⟨[], rfl, (fun x hx => (List.not_mem_nil hx).elim), (PL_zero.mp hl).symm, ?_, fun h => by omega⟩
    refine Ev.step (fun k => by rw [impl_LeastWithProduct.l0]) (Ev.neg (by omega) (Ev.val (by simp)))
  | L + 1, p, h1, hp, hl, hmin, hL, ds, hds => by
    -- the least digit
    obtain ⟨d0, hd0, hm0, hp0⟩ := PL_succ.mp hl
    obtain ⟨d1, a1, a2, ⟨a3, a4⟩, a5⟩ := least_of (fun d => p % d = 0 ∧ impl_fewest.V b (p / d) = (L : Int)) d0.toNat d0 hd0.1 (Nat.le_refl _) ⟨hm0, few_quo (by omega) h1 hp hmin hd0 hm0 hp0⟩
    have hd1 : 2 ≤ d1 ∧ d1 < b := ⟨a1, by omega⟩
    obtain ⟨q1, q2⟩ := quo_rng h1 a1 a3
    have hdm := div_mul a3
    have hq : PL b L (p / d1) ∧ ∀ k, PL b k (p / d1) → L ≤ k := by
      rcases few_ok (b := b) (by omega) q1 (by omega) with ⟨h, _⟩ | ⟨M, h, h3, h4⟩
      · rw [a4] at h; omega
      · rw [a4] at h
        have : M = L := by omega
        subst this
        exact ⟨h3, h4⟩
    obtain ⟨g, g1, g2, g3, g4, g5⟩ := greedy hb L (p / d1) q1 (by omega) hq.1 hq.2 (by omega) (ds ++ [d1]) (by simp; omega)
    -- no list of the rest has a lesser digit
    have hrest : ∀ l, l.length = L → OKd b l → prodI l = p / d1 → ∀ x ∈ l, d1 ≤ x := by
      intro l l1 l2 l3 x hx
      rcases Int.lt_or_le x d1 with hlt | hle
      · exfalso
        have hxo := l2 x hx
        obtain ⟨A, C, rfl⟩ := List.append_of_mem hx
        have hpx : x * prodI (d1 :: (A ++ C)) = p := by
          rw [prodI_mid] at l3
          simp only [prodI]
          rw [← Int.mul_assoc, Int.mul_comm x d1, Int.mul_assoc, l3, hdm]
        have hmx : p % x = 0 := by rw [← hpx]; exact Int.mul_emod_right x _
        have hpl : PL b L (p / x) := by
          refine ⟨d1 :: (A ++ C), ?_, fun y hy => ?_, ?_⟩
          · simp only [List.length_append, List.length_cons] at l1 ⊢; omega
          · rcases List.mem_cons.mp hy with rfl | hy
            · exact hd1
            · refine l2 y ?_
              rcases List.mem_append.mp hy with h | h
              · exact List.mem_append.mpr (.inl h)
              · exact List.mem_append.mpr (.inr (List.mem_cons_of_mem _ h))
          · rw [← hpx]; exact (Int.mul_ediv_cancel_left _ (by omega)).symm
        exact a5 x hxo.1 hlt ⟨hmx, few_quo (by omega) h1 hp hmin hxo hmx hpl⟩
      · exact hle
    refine ⟨d1 :: g, by simp [g1], fun x hx => ?_, ?_, ?_, fun _ from_ hf hall => ?_⟩
    · rcases List.mem_cons.mp hx with rfl | hx
      · exact hd1
      · exact g2 x hx
    · simp only [prodI]; rw [g3, hdm]
    · have e : ((L + 1 : Nat) : Int) = (L : Int) + 1 := by omega
      rw [e]
      refine Ev.step (fun k => by rw [impl_LeastWithProduct.l0]) ?_
      refine Ev.pos (by omega) (Ev.pos ⟨h1, hp⟩ ?_)
      rw [List.append_assoc] at g4
      exact impl_l1 ⟨a1, by omega⟩ (by omega) a3 a4 a5 (by omega) g4 _ 2 (by omega) a1 (Nat.lt_succ_self _)
    · have hfd : from_ ≤ d1 := hall (d1 :: g) (by simp [g1]) (fun x hx => by
          rcases List.mem_cons.mp hx with rfl | hx
          · exact hd1
          · exact g2 x hx) (by simp only [prodI]; rw [g3, hdm]) d1 List.mem_cons_self
      cases L with
      | zero =>
        have hp1 : p / d1 = 1 := PL_zero.mp hq.1
        have hg : g = [] := List.length_eq_zero_iff.mp g1
        have hpd : d1 = p := by rw [hp1, Int.mul_one] at hdm; exact hdm
        subst hg
        refine Ev.step (fun f => by rw [spec_prSpell.f]) ?_
        refine Ev.pos (by omega) ?_
        rw [w64 (x := b - 1) (by omega) (by omega), sp_in]
        refine Ev.pure rfl (Ev.pos ?_ (Ev.val (by rw [hpd])))
        simp only [decide_eq_true_eq]
        omega
      | succ L =>
        have e1 : ((L + 1 + 1 : Nat) : Int) = (L : Int) + 2 := by omega
        have hlo := prod_lo (lo := d1) (by omega) g (hrest g g1 g2 g3)
        have hhi := (prod_hi (hi := b - 1) g (fun x hx => by have := g2 x hx; omega)).1
        rw [g1, g3] at hlo hhi
        have hsp := g5 (by omega) d1 a1 hrest
        have e5 : ((L + 1 : Nat) : Int) = (L : Int) + 1 := by omega
        rw [e5] at hsp
        have hlen : ((g.length : Nat) : Int) > 0 := by rw [g1]; omega
        rw [e1]
        refine Ev.step (fun f => by rw [spec_prSpell.f]) ?_
        refine Ev.neg (by omega) ?_
        -- at the digit itself
        have hat : Ev (fun f => spec_prSpell.l0 f p ((L : Int) + 2) b d1) (d1 :: g) := by
          have w1 : wrap64 (b - 1) = b - 1 := w64 (by omega) (by omega)
          have w2 : wrap64 ((L : Int) + 2 - 1) = ((L + 1 : Nat) : Int) := by rw [w64 (by omega) (by omega)]; omega
          have w4 : wrap64 (p / d1) = p / d1 := w64 (by omega) (by omega)
          refine Ev.step (fun f => by rw [spec_prSpell.l0]) ?_
          refine Ev.pos hd1.2 (Ev.neg (by omega) ?_)
          rw [tmod_of (by omega), tdiv_of (by omega), w1, w2, w4]
          obtain ⟨v, v1, v2, v3⟩ := pwl_ev (x := b - 1) (by omega) (by omega) (L + 1) (by omega)
          refine Ev.pos a3 (Ev.bind v1 ?_)
          refine Ev.step (fun f => by rw [spec_prSpell.j1]) ?_
          refine Ev.neg (by simp only [decide_eq_true_eq]; rcases v3 with v3 | v3 <;> omega) ?_
          rw [w2]
          obtain ⟨u, u1, u2, u3⟩ := pwl_ev (x := d1) (by omega) (by omega) (L + 1) (by omega)
          refine Ev.bind u1 (Ev.neg (by omega) ?_)
          rw [e5]
          refine Ev.bind hsp (Ev.pos hlen (Ev.pure rfl (Ev.pos ?_ (Ev.val rfl))))
          simp only [List.length_singleton]; omega
        have loop : ∀ (m : Nat) (d : Int), 2 ≤ d → d ≤ d1 → (d1 - d).toNat < m → Ev (fun f => spec_prSpell.l0 f p ((L : Int) + 2) b d) (d1 :: g) := by
          intro m
          induction m with
          | zero => intro d _ _ h; omega
          | succ m ih =>
            intro d hd hdle h
            by_cases hqd : d = d1
            · subst hqd; exact hat
            · refine spell_skip hb (by omega) h1 hp ⟨hd, by omega⟩ (fun hm => ⟨.inl ?_, ?_⟩) (ih (d + 1) (by omega) (by omega) (by omega))
              · have hm1 := pow_mono1 (x := d) (y := d1) (by omega) hdle (L + 1)
                have hdq := div_mul hm
                have c1 : d1 * d1 ^ (L + 1) ≤ d1 * (p / d1) := Int.mul_le_mul_of_nonneg_left hlo (by omega)
                have c2 : d * d ^ (L + 1) ≤ d1 * d1 ^ (L + 1) := Int.mul_le_mul hdle hm1 (Int.pow_nonneg (by omega)) (by omega)
                have c3 : d * d ^ (L + 1) ≤ d * (p / d) := by omega
                exact Int.le_of_mul_le_mul_left c3 (by omega)
              · obtain ⟨q1', q2'⟩ := quo_rng h1 hd hm
                refine spell_none hb L (p / d) d (by omega) q1' (by omega) hd (fun hpl => ?_)
                exact a5 d hd (by omega) ⟨hm, few_quo (by omega) h1 hp hmin ⟨hd, by omega⟩ hm hpl⟩
        exact loop _ from_ hf hfd (Nat.lt_succ_self _)

theorem val_l0 {b : Int} (hb : 2 ≤ b ∧ b ≤ 16) (G : List Int) (hG : G.length ≤ 1000) (hd : ∀ x ∈ G, 0 ≤ x ∧ x ≤ 16) : ∀ (rest pre : List Int) (a i : Int), G = pre ++ rest → i = (pre.length : Int) → 0 ≤ a → a ≤ 1000000000000 →
    ∃ v r, Ev (fun k => impl_value.l0 k b a G (G.length : Int) i) v ∧ impl_told.f v = some r ∧ Ev (fun k => spec_dgFrom.l0 k b a G (G.length : Int) i) r
  | [], pre, a, i, hp, hi, h0, h1 => by
    have hl : G.length = pre.length := by rw [hp]; simp
    refine ⟨a, (a, true), Ev.step (fun k => by rw [impl_value.l0]) (Ev.neg (by omega) (Ev.now _)), ?_, Ev.step (fun k => by rw [spec_dgFrom.l0]) (Ev.neg (by omega) (Ev.now _))⟩
    unfold impl_told.f; rw [if_neg (by omega)]
  | x :: rest, pre, a, i, hp, hi, h0, h1 => by
    have hl : G.length = pre.length + (rest.length + 1) := by rw [hp]; simp
    have hr : rd G i = x := by rw [hp, hi]; exact rd_mid _ _ _
    have hx := hd x (by rw [hp]; simp)
    have hab : 0 ≤ a * b := Int.mul_nonneg h0 (by omega)
    have hab2 : a * b ≤ a * 16 := Int.mul_le_mul_of_nonneg_left hb.2 h0
    have e1 : wrap64 (a * b) = a * b := w64 (by omega) (by omega)
    have e2 : wrap64 (a * b + x) = a * b + x := w64 (by omega) (by omega)
    by_cases hc : a * b + x > 1000000000000
    · refine ⟨1000000000001, (0, false), ?_, rfl, ?_⟩
      · refine Ev.step (fun k => by rw [impl_value.l0]) (Ev.pos (by omega) (Ev.pos (by omega) (Ev.pos (by omega) ?_)))
        rw [hr, e1, e2]
        exact Ev.pos hc (Ev.now _)
      · refine Ev.step (fun k => by rw [spec_dgFrom.l0]) (Ev.pos (by omega) (Ev.pos (by omega) (Ev.pos (by omega) ?_)))
        rw [hr, e1, e2]
        exact Ev.pos hc (Ev.now _)
    · obtain ⟨v, r, g1, g2, g3⟩ := val_l0 hb G hG hd rest (pre ++ [x]) (a * b + x) (i + 1) (by rw [hp]; simp) (by simp; omega) (by omega) (by omega)
      refine ⟨v, r, ?_, g2, ?_⟩
      · refine Ev.step (fun k => by rw [impl_value.l0]) (Ev.pos (by omega) (Ev.pos (by omega) (Ev.pos (by omega) ?_)))
        rw [hr, e1, e2, w64 (x := i + 1) (by omega) (by omega)]
        exact Ev.neg hc g1
      · refine Ev.step (fun k => by rw [spec_dgFrom.l0]) (Ev.pos (by omega) (Ev.pos (by omega) (Ev.pos (by omega) ?_)))
        rw [hr, e1, e2, w64 (x := i + 1) (by omega) (by omega)]
        exact Ev.neg hc g3
theorem spec_loop {b p : Int} {L : Nat} {g : List Int} {r : Int × Bool} (hb : 3 ≤ b ∧ b ≤ 16) (h1 : 1 ≤ p) (hp : p ≤ 1000000000000) (hL : L < 40) (hL1 : 1 ≤ L) (hmin : ∀ k, PL b k p → L ≤ k) (hg : g.length = L) (hs : Ev (fun k => spec_prSpell.f k p 2 (L : Int) b) g) (hr : Ev (fun k => spec_dgFrom.f k g b) r) :
    ∀ (m : Nat) (left : Nat), 1 ≤ left → left ≤ L → L - left < m → Ev (fun k => spec_LeastWithProduct.l0 k p b (left : Int)) r
  | 0, _, _, _, h => by omega
  | m + 1, left, h2, h3, h => by
    refine Ev.step (fun k => by rw [spec_LeastWithProduct.l0]) ?_
    refine Ev.pos (by omega) ?_
    by_cases e : left = L
    · subst e
      exact Ev.bind hs (Ev.pos (by rw [hg]; omega) (Ev.bind hr (Ev.now _)))
    · obtain ⟨k, rfl⟩ : ∃ k, left = k + 1 := ⟨left - 1, by omega⟩
      have hn := spell_none hb k p 2 (by omega) h1 hp (by omega) (fun h => by have := hmin _ h; omega)
      have e2 : ((k + 1 : Nat) : Int) = (k : Int) + 1 := by omega
      rw [e2]
      refine Ev.bind hn (Ev.neg (by simp) ?_)
      rw [w64 (by omega) (by omega), show (k : Int) + 1 + 1 = ((k + 2 : Nat) : Int) by omega]
      exact spec_loop hb h1 hp hL hL1 hmin hg hs hr m (k + 2) (by omega) (by omega) (by omega)
theorem law_ev (p b : Int) : ∃ r, Ev (fun k => spec_LeastWithProduct.f k p b) r ∧ Ev (fun k => impl_LeastWithProduct.f k p b) r := by
  unfold spec_LeastWithProduct.f impl_LeastWithProduct.f
  rw [spec_dgAsked_eq, impl_in_eq, impl_isBase_eq]
  by_cases ha : asked p b
  · have hb := ha.2
    by_cases h0 : p = 0
    · have hin0 : ¬ decide (1 ≤ p ∧ p ≤ 1000000000000) = true := by simp only [decide_eq_true_eq]; omega
      refine ⟨(0, false), Ev.pure rfl (Ev.pos (decide_eq_true ha) ?_), Ev.pure rfl (Ev.neg hin0 (Ev.now _))⟩
      refine Ev.step (fun k => by rw [spec_LeastWithProduct.j0]) (Ev.pos (by simpa using h0) (Ev.now _))
    · have h1 : 1 ≤ p := by have := ha.1; omega
      have hp := ha.1.2
      have hin : decide (1 ≤ p ∧ p ≤ 1000000000000) = true := decide_eq_true ⟨h1, hp⟩
      have hba : decide (2 ≤ b ∧ b ≤ 16) = true := decide_eq_true hb
      have hp0 : ¬ (p == 0) = true := by simpa using h0
      by_cases h2 : p = 1
      · refine ⟨(1, true), Ev.pure rfl (Ev.pos (decide_eq_true ha) ?_), Ev.pure rfl (Ev.pos hin (Ev.pure rfl (Ev.pos hba (Ev.pos h2 (Ev.now _)))))⟩
        exact Ev.step (fun k => by rw [spec_LeastWithProduct.j0]) (Ev.neg hp0 (Ev.pos h2 (Ev.now _)))
      · obtain ⟨s, s1, s2, s3⟩ := smooth_iff (base := b) (by omega) h1 hp
        cases s with
        | false =>
          refine ⟨(0, false), Ev.pure rfl (Ev.pos (decide_eq_true ha) ?_), Ev.pure rfl (Ev.pos hin (Ev.pure rfl (Ev.pos hba (Ev.neg h2 (Ev.bind s2 (Ev.neg (show ¬ (false = true) by decide) (Ev.now _)))))))⟩
          exact Ev.step (fun k => by rw [spec_LeastWithProduct.j0]) (Ev.neg hp0 (Ev.neg h2 (Ev.bind s1 (Ev.neg (show ¬ (false = true) by decide) (Ev.now _)))))
        | true =>
          obtain ⟨k0, hk0⟩ := s3.mp rfl
          obtain ⟨L, l1, l2, l3, l4⟩ := few_of (by omega) h1 hp hk0
          have hL1 : 1 ≤ L := by
            rcases Nat.eq_zero_or_pos L with h | h
            · subst h; exact absurd (PL_zero.mp l2) h2
            · exact h
          have hb3 : 3 ≤ b ∧ b ≤ 16 := by
            obtain ⟨l, e1, e2, _⟩ := l2
            cases l with
            | nil => simp at e1; omega
            | cons x t => have := e2 x List.mem_cons_self; omega
          obtain ⟨g, g1, g2, g3, g4, g5⟩ := greedy hb3 L p h1 hp l2 l3 l4 [] (by simp; omega)
          rw [List.nil_append] at g4
          have hsp := g5 hL1 2 (by omega) (fun l _ ho _ x hx => (ho x hx).1)
          obtain ⟨v, r, v1, v2, v3⟩ := val_l0 hb g (by omega) (fun x hx => by have := g2 x hx; omega) g [] 0 0 rfl rfl (by omega) (by omega)
          refine ⟨r, Ev.pure rfl (Ev.pos (decide_eq_true ha) ?_), Ev.pure rfl (Ev.pos hin (Ev.pure rfl (Ev.pos hba (Ev.neg h2 (Ev.bind s2 (Ev.pos rfl ?_))))))⟩
          · refine Ev.step (fun k => by rw [spec_LeastWithProduct.j0]) (Ev.neg hp0 (Ev.neg h2 (Ev.bind s1 (Ev.pos rfl ?_))))
            exact spec_loop hb3 h1 hp l4 hL1 l3 g1 hsp v3 _ 1 (Nat.le_refl _) hL1 (Nat.lt_succ_self _)
          · rw [l1]
            exact Ev.bind g4 (Ev.bind v1 ⟨0, fun _ _ => v2⟩)
  · refine ⟨(0, false), Ev.pure rfl (Ev.neg (by simpa using ha) ?_), Ev.pure rfl ?_⟩
    · exact Ev.step (fun k => by rw [spec_LeastWithProduct.j0]) (Ev.pos rfl (Ev.now _))
    · by_cases hin : 1 ≤ p ∧ p ≤ 1000000000000
      · refine Ev.pos (decide_eq_true hin) (Ev.pure rfl (Ev.neg ?_ (Ev.now _)))
        simp only [decide_eq_true_eq]
        intro hba
        exact ha ⟨by omega, hba⟩
      · exact Ev.neg (by simp only [decide_eq_true_eq]; exact hin) (Ev.now _)
theorem FnExactLeastWithProduct : laws_FnExactLeastWithProduct.Pure := by
  intro a0 a1 hw hw1
  apply Ev.rounds
  unfold laws_FnExactLeastWithProduct.f
  obtain ⟨⟨x, y⟩, hs, hi⟩ := law_ev a0 a1
  exact Ev.bind hs (Ev.bind hi (Ev.pos rfl (Ev.neg (by simp) (Ev.now _))))

end Go.Proofs.Ytimimjmabnmeoaa.Pure
