/- For every string, the program's CycleOfWord gives what the reference's gives. No conditions. -/
import Derived.Test.YtmdpjggjhkminaaPFnExactCycleOfWordx2
namespace Go.Proofs.Ytmdpjggjhkminaa.Pure
open Go.RowKit Go.Proofs.Ytmdpjggjhkminaa.PFnExactCycleOfWord Go.Proofs.YtmdpjggjhkminaaW.PrintWords Go.Proofs.YtmdpjggjhkminaaW.PrintLast

theorem wf_i64 {x : Int} (h : (Lit.int .i64 x).wf = true) : -9223372036854775808 ≤ x ∧ x ≤ 9223372036854775807 := by
  simp only [Lit.wf, Bool.and_eq_true, decide_eq_true_eq, show IntKind.i64.min = -9223372036854775808 from rfl, show IntKind.i64.max = 9223372036854775807 from rfl] at h
  exact h
theorem w64 {x : Int} (h0 : -9223372036854775808 ≤ x) (h1 : x ≤ 9223372036854775807) : wrap64 x = x := by unfold wrap64; omega
theorem Ev.pos {α : Type} {c : Prop} [Decidable c] {A B : Nat → Option α} {r : α} (h : c) (e : Ev A r) : Ev (fun k => if c then A k else B k) r := by simpa only [if_pos h] using e
theorem Ev.neg {α : Type} {c : Prop} [Decidable c] {A B : Nat → Option α} {r : α} (h : ¬ c) (e : Ev B r) : Ev (fun k => if c then A k else B k) r := by simpa only [if_neg h] using e
theorem Ev.val {α : Type} {a r : α} (h : a = r) : Ev (fun _ => some a) r := h ▸ Ev.now a
theorem Ev.pure {α β : Type} {o : Option α} {f : Nat → α → Option β} {a : α} {r : β} (h : o = some a) (k : Ev (fun n => f n a) r) : Ev (fun n => o.bind (f n)) r := by subst h; exact k
theorem Ev.call {α β : Type} {g : Nat → Option α} {f : Nat → α → Option β} {a : α} {r : β} (h : Ev g a) (k : Ev (fun n => f n a) r) : Ev (fun n => (g n).bind (f n)) r := Ev.bind h k
theorem Ev.same {α : Type} {g f : Nat → Option α} {r : α} (h : ∀ k, g k = f k) (k : Ev g r) : Ev f r := Ev.congr (fun k => (h k).symm) k

theorem div_lt_of {n d : Int} (hn : 1 ≤ n) (hd : 2 ≤ d) : n / d < n := by
  apply Int.ediv_lt_of_lt_mul (by omega)
  have : n * 2 ≤ n * d := Int.mul_le_mul_of_nonneg_left hd (by omega)
  omega
theorem div_ge {n d : Int} (hn : 0 ≤ n) (hd : 2 ≤ d) : 0 ≤ n / d := Int.ediv_nonneg hn (by omega)
theorem div_le {n d : Int} (hn : 0 ≤ n) (hd : 2 ≤ d) : n / d ≤ n := by
  by_cases h : n = 0
  · subst h; simp
  · have := div_lt_of (n := n) (d := d) (by omega) hd; omega
theorem div_pos_of {n d : Int} (hn : 1 ≤ n) (hd : 2 ≤ d) (h : n % d = 0) : 1 ≤ n / d := by
  have e := Int.mul_ediv_add_emod n d
  have h0 : 0 ≤ n / d := div_ge (by omega) hd
  by_cases hz : n / d = 0
  · rw [hz, h] at e; simp at e; omega
  · omega
theorem tmod_of {a b : Int} (h : 0 ≤ a) : Int.tmod a b = a % b := Int.tmod_eq_emod_of_nonneg h
theorem tdiv_of {a b : Int} (h : 0 ≤ a) : Int.tdiv a b = a / b := Int.tdiv_eq_ediv_of_nonneg h

theorem letters_l0 (s : ByteArray) (hs : s.size ≤ 1048576) : ∀ (m : Nat) (i : Int), 0 ≤ i → i ≤ s.size → (s.size : Int) - i = m → Ev (fun k => spec_stLetters.l0 k s i) (((bytesOf s).drop i.toNat).all impl_isParity.ok)
  | 0, i, h0, h1, h => by
    refine Ev.step (fun k => by rw [spec_stLetters.l0]) ?_
    refine Ev.neg (by omega) (Ev.val ?_)
    rw [List.drop_of_length_le (by rw [bytesOf_length]; omega)]
    rfl
  | m + 1, i, h0, h1, h => by
    have hlt : i.toNat < (bytesOf s).length := by rw [bytesOf_length]; omega
    have e : (bytesOf s)[i.toNat] = bt s i := by rw [← rd_bytesOf]; simp [rd, hlt]
    have ed := List.drop_eq_getElem_cons hlt
    have ei : i.toNat + 1 = (i + 1).toNat := by omega
    rw [ed, e, ei]
    have ih := letters_l0 s hs m (i + 1) (by omega) (by omega) (by omega)
    refine Ev.step (fun k => by rw [spec_stLetters.l0]) ?_
    rw [w64 (x := i + 1) (by omega) (by omega)]
    refine Ev.pos (by omega) (Ev.pos h0 ?_)
    by_cases h8 : bt s i = 48
    · have e2 : ((bt s i :: (bytesOf s).drop (i + 1).toNat).all impl_isParity.ok) = ((bytesOf s).drop (i + 1).toNat).all impl_isParity.ok := by simp [impl_isParity.ok, h8]
      rw [e2]; exact Ev.pos h8 ih
    · by_cases h9 : bt s i = 49
      · have e2 : ((bt s i :: (bytesOf s).drop (i + 1).toNat).all impl_isParity.ok) = ((bytesOf s).drop (i + 1).toNat).all impl_isParity.ok := by simp [impl_isParity.ok, h9]
        rw [e2]; exact Ev.neg h8 (Ev.pos h9 ih)
      · exact Ev.neg h8 (Ev.neg h9 (Ev.val (by simp [impl_isParity.ok, h8, h9])))
/-- the letters of the reference and of the program -/
def isPar (s : ByteArray) : Bool := impl_isParity.all s && decide ((s.size : Int) ≤ 20)
theorem letters_ev (s : ByteArray) (hs : s.size ≤ 1048576) : Ev (fun k => spec_stLetters.f k s) (isPar s) := by
  unfold spec_stLetters.f isPar
  by_cases h : (s.size : Int) > 20
  · refine Ev.pos h (Ev.val ?_)
    rw [decide_eq_false (show ¬ (s.size : Int) ≤ 20 by omega), Bool.and_false]
  · refine Ev.neg h ?_
    rw [decide_eq_true (show (s.size : Int) ≤ 20 by omega), Bool.and_true]
    have := letters_l0 s hs s.size 0 (by omega) (by omega) (by omega)
    simpa [impl_isParity.all] using this
theorem isParity_eq (s : ByteArray) (hs : s.size ≤ 1048576) : impl_isParity.f s = some (isPar s) := by
  unfold impl_isParity.f isPar
  rw [if_pos (by omega)]
theorem isPar_mem {s : ByteArray} (h : isPar s = true) : s.size ≤ 20 ∧ ∀ x ∈ bytesOf s, x = 48 ∨ x = 49 := by
  unfold isPar impl_isParity.all at h
  simp only [Bool.and_eq_true, decide_eq_true_eq, List.all_eq_true, impl_isParity.ok, Bool.or_eq_true, beq_iff_eq] at h
  exact ⟨by omega, h.1⟩

/-- how many letters are 1; the sum over them, of the places from i on -/
def ones : List Int → Nat
  | [] => 0
  | a :: l => (if a = 49 then 1 else 0) + ones l
def numS (i : Nat) : List Int → Int
  | [] => 0
  | a :: l => (if a = 49 then 2 ^ i * 3 ^ ones l else 0) + numS (i + 1) l
theorem ones_le : ∀ l : List Int, ones l ≤ l.length
  | [] => by simp [ones]
  | a :: l => by have := ones_le l; simp only [ones, List.length_cons]; split <;> omega
theorem pow_le' (b : Int) (hb : 1 ≤ b) {m n : Nat} (h : m ≤ n) : b ^ m ≤ b ^ n := by
  obtain ⟨d, rfl⟩ : ∃ d, n = m + d := ⟨n - m, by omega⟩
  rw [Int.pow_add]
  have h1 : (0 : Int) ≤ b ^ m := Int.pow_nonneg (by omega)
  have h2 : (0 : Int) < b ^ d := Int.pow_pos (by omega)
  have := Int.mul_le_mul_of_nonneg_left (show (1 : Int) ≤ b ^ d by omega) h1
  omega
theorem p2 {n : Nat} (h : n ≤ 20) : (0 : Int) < 2 ^ n ∧ (2 : Int) ^ n ≤ 1048576 := ⟨Int.pow_pos (by omega), pow_le' 2 (by omega) h⟩
theorem p3 {n : Nat} (h : n ≤ 20) : (0 : Int) < 3 ^ n ∧ (3 : Int) ^ n ≤ 3486784401 := ⟨Int.pow_pos (by omega), pow_le' 3 (by omega) h⟩
theorem term_bd {i j : Nat} (hi : i ≤ 20) (hj : j ≤ 20) : (0 : Int) ≤ 2 ^ i * 3 ^ j ∧ (2 : Int) ^ i * 3 ^ j ≤ 3656158440062976 := by
  have a := p2 hi
  have b := p3 hj
  exact ⟨Int.mul_nonneg (by omega) (by omega), Int.mul_le_mul a.2 b.2 (by omega) (by omega)⟩
theorem numS_bd : ∀ (l : List Int) (i : Nat), i + l.length ≤ 20 → 0 ≤ numS i l ∧ numS i l ≤ l.length * 3656158440062976
  | [], _, _ => by simp [numS]
  | a :: l, i, h => by
    simp only [List.length_cons] at h
    have h1 := numS_bd l (i + 1) (by omega)
    have h2 := term_bd (i := i) (j := ones l) (by omega) (by have := ones_le l; omega)
    simp only [numS, List.length_cons]
    split <;> omega
theorem pwOf_l0 (b : Int) (hb : 1 ≤ b ∧ b ≤ 3) : ∀ (n : Nat) (s : Int), 0 ≤ s → s * b ^ n ≤ 4000000000 → n ≤ 20 → Ev (fun k => spec_pwOf.l0 k b (n : Int) s) (s * b ^ n)
  | 0, s, h0, h1, hn => by
    refine Ev.step (fun k => by rw [spec_pwOf.l0]) ?_
    exact Ev.neg (by simp) (Ev.val (by simp))
  | n + 1, s, h0, h1, hn => by
    have e : s * b ^ (n + 1) = (s * b) * b ^ n := by rw [Int.pow_succ, Int.mul_comm (b ^ n) b, ← Int.mul_assoc]
    have hp : (0 : Int) < b ^ n := Int.pow_pos (by omega)
    have hsb : 0 ≤ s * b := Int.mul_nonneg h0 (by omega)
    have h3 : (s * b) * 1 ≤ (s * b) * b ^ n := Int.mul_le_mul_of_nonneg_left hp hsb
    have e1 : wrap64 (((n + 1 : Nat) : Int) - 1) = (n : Int) := by rw [w64 (by omega) (by omega)]; omega
    refine Ev.step (fun k => by rw [spec_pwOf.l0]) ?_
    refine Ev.pos (by omega) ?_
    rw [e1, w64 (x := s * b) (by omega) (by omega), e]
    exact pwOf_l0 b hb n (s * b) hsb (by omega) (by omega)
theorem pwOf_ev {b : Int} (hb : 1 ≤ b ∧ b ≤ 3) {n : Nat} (hn : n ≤ 20) : Ev (fun k => spec_pwOf.f k b (n : Int)) (b ^ n) := by
  have h1 : b ^ n ≤ b ^ 20 := pow_le' b hb.1 hn
  have h2 : b ^ 20 ≤ 4000000000 := by
    have : b = 1 ∨ b = 2 ∨ b = 3 := by omega
    rcases this with rfl | rfl | rfl <;> decide
  have := pwOf_l0 b hb n 1 (by omega) (by omega) hn
  unfold spec_pwOf.f
  rw [Int.one_mul] at this
  exact this
theorem toPower_l0 (K : Nat) (hK : K ≤ 20) : ∀ (m n : Nat), n + m = K → Ev (fun k => impl_toPower.l0 k 3 (3 ^ n) (K : Int) (n : Int)) (3 ^ K)
  | 0, n, h => by
    refine Ev.step (fun k => by rw [impl_toPower.l0]) ?_
    exact Ev.neg (by omega) (Ev.val (by rw [show n = K by omega]))
  | m + 1, n, h => by
    have hp := p3 (n := n + 1) (by omega)
    have e : wrap64 ((3 : Int) ^ n * 3) = 3 ^ (n + 1) := by rw [← Int.pow_succ]; exact w64 (by omega) (by omega)
    have e1 : wrap64 ((n : Int) + 1) = ((n + 1 : Nat) : Int) := by rw [w64 (by omega) (by omega)]; omega
    refine Ev.step (fun k => by rw [impl_toPower.l0]) ?_
    refine Ev.pos (by omega) ?_
    rw [e, e1]
    exact toPower_l0 K hK m (n + 1) (by omega)
theorem toPower_ev {n : Nat} (hn : n ≤ 20) : Ev (fun k => impl_toPower.f k 3 (n : Int)) (3 ^ n) := by
  have := toPower_l0 n hn n 0 (by omega)
  unfold impl_toPower.f
  simpa using this
theorem shl_pow (k : Nat) (h : k ≤ 20) : shl .i64 1 (k : Int) = 2 ^ k := by
  unfold shl
  have h1 : min ((k : Int).toNat) IntKind.i64.bits = k := by
    rw [Int.toNat_natCast, show IntKind.i64.bits = 64 from rfl]; omega
  have hp := p2 h
  rw [h1, i64_w, Int.one_mul, w64 (by omega) (by omega)]
theorem at_drop (s : ByteArray) (i : Nat) (h : i < s.size) : (bytesOf s).drop i = bt s (i : Int) :: (bytesOf s).drop (i + 1) := by
  have hlt : i < (bytesOf s).length := by rw [bytesOf_length]; exact h
  have e : (bytesOf s)[i] = bt s (i : Int) := by rw [← rd_bytesOf]; simp [rd, hlt]
  rw [← e]; exact List.drop_eq_getElem_cons hlt
theorem ones_l0 (s : ByteArray) (hs : s.size ≤ 20) : ∀ (m i : Nat) (acc : Int), i + m = s.size → 0 ≤ acc → acc ≤ i → Ev (fun k => spec_stOnes.l0 k s acc (i : Int)) (acc + ones ((bytesOf s).drop i))
  | 0, i, acc, h, _, _ => by
    refine Ev.step (fun k => by rw [spec_stOnes.l0]) ?_
    refine Ev.neg (by omega) (Ev.val ?_)
    rw [List.drop_of_length_le (by rw [bytesOf_length]; omega)]
    simp [ones]
  | m + 1, i, acc, h, h2, h3 => by
    have e1 : wrap64 ((i : Int) + 1) = ((i + 1 : Nat) : Int) := by rw [w64 (by omega) (by omega)]; omega
    rw [at_drop s i (by omega)]
    refine Ev.step (fun k => by rw [spec_stOnes.l0]) ?_
    refine Ev.pos (by omega) (Ev.pos (by omega) ?_)
    rw [e1]
    by_cases hc : bt s (i : Int) = 49
    · refine Ev.pos hc ?_
      rw [w64 (x := acc + 1) (by omega) (by omega)]
      have ih := ones_l0 s hs m (i + 1) (acc + 1) (by omega) (by omega) (by omega)
      have e2 : acc + ((ones (bt s (i : Int) :: (bytesOf s).drop (i + 1)) : Nat) : Int) = acc + 1 + ((ones ((bytesOf s).drop (i + 1)) : Nat) : Int) := by
        simp only [ones, hc, if_true]; omega
      rw [e2]; exact ih
    · refine Ev.neg hc ?_
      have ih := ones_l0 s hs m (i + 1) acc (by omega) (by omega) (by omega)
      have e2 : ones (bt s (i : Int) :: (bytesOf s).drop (i + 1)) = ones ((bytesOf s).drop (i + 1)) := by
        simp only [ones, hc, if_false]; omega
      rw [e2]; exact ih
theorem ones_ev (s : ByteArray) (hs : s.size ≤ 20) : Ev (fun k => spec_stOnes.f k s) ((ones (bytesOf s) : Nat) : Int) := by
  have := ones_l0 s hs s.size 0 0 (by omega) (by omega) (by omega)
  unfold spec_stOnes.f
  simpa using this
theorem gcd_same : ∀ k a b, spec_mpGcd.f k a b = impl_gcd.l0 k a b
  | 0, _, _ => by simp [spec_mpGcd.f, impl_gcd.l0]
  | k + 1, a, b => by
    rw [spec_mpGcd.f, impl_gcd.l0, gcd_same k]
    split
    · rfl
    · cases impl_gcd.l0 k b (Int.tmod a b) <;> rfl
theorem gcd_l0 : ∀ (m : Nat) (a b : Int), 0 ≤ a → 0 ≤ b → (0 < a ∨ 0 < b) → b.toNat < m → ∃ g, g ≠ 0 ∧ Ev (fun k => impl_gcd.l0 k a b) g
  | 0, _, _, _, _, _, h => by omega
  | m + 1, a, b, ha, hb, hp, h => by
    by_cases hz : b = 0
    · refine ⟨a, by omega, ?_⟩
      refine Ev.step (fun k => by rw [impl_gcd.l0]) ?_
      exact Ev.pos hz (Ev.now _)
    · have e := tmod_of (a := a) (b := b) ha
      have h1 := Int.emod_nonneg a hz
      have h2 := Int.emod_lt_of_pos a (show 0 < b by omega)
      obtain ⟨g, g1, g2⟩ := gcd_l0 m b (a % b) hb h1 (.inl (by omega)) (by omega)
      refine ⟨g, g1, ?_⟩
      refine Ev.step (fun k => by rw [impl_gcd.l0]) ?_
      refine Ev.neg hz ?_
      rw [e]; exact g2
theorem gcd_ev {a b : Int} (ha : 0 ≤ a) (hb : 0 < b) : ∃ g, g ≠ 0 ∧ Ev (fun k => impl_gcd.f k a b) g ∧ Ev (fun k => spec_mpGcd.f k a b) g := by
  obtain ⟨g, g1, g2⟩ := gcd_l0 _ a b ha (by omega) (.inr hb) (Nat.lt_succ_self _)
  exact ⟨g, g1, g2, Ev.congr (fun k => gcd_same k a b) g2⟩
theorem abs_eq (a : Int) : spec_l1Abs.f a = some (mx a (wrap64 (-a))) := by
  unfold spec_l1Abs.f spec_l1Most.f mx
  by_cases h : a > wrap64 (-a)
  · rw [if_pos h, if_neg (by omega)]; rfl
  · rw [if_neg h]
    split
    · rfl
    · simp; omega
theorem pow_odd (n : Nat) : (3 : Int) ^ n % 2 = 1 := by
  induction n with
  | zero => rfl
  | succ n ih => rw [Int.pow_succ]; omega
theorem pow_even (n : Nat) (h : 1 ≤ n) : (2 : Int) ^ n % 2 = 0 := by
  obtain ⟨m, rfl⟩ : ∃ m, n = m + 1 := ⟨n - 1, by omega⟩
  rw [Int.pow_succ]; omega
/-- the end: both divide by the same number -/
theorem fin_ev (s : ByteArray) (h1 : 1 ≤ s.size) (h2 : s.size ≤ 20) :
    ∃ r : Int × Int × Bool, (∀ beh : Int, Ev (fun k => spec_CycleOfWord.l0 k s (numS 0 (bytesOf s)) beh (s.size : Int)) r) ∧ Ev (fun k => impl_CycleOfWord.l0 k s (numS 0 (bytesOf s)) ((ones (bytesOf s) : Nat) : Int) (-1)) r := by
  have hb := numS_bd (bytesOf s) 0 (by rw [bytesOf_length]; omega)
  rw [bytesOf_length] at hb
  have ho := ones_le (bytesOf s)
  rw [bytesOf_length] at ho
  have q2 := p2 h2
  have q3 := p3 (n := ones (bytesOf s)) (by omega)
  have e2 := pow_even s.size h1
  have e3 := pow_odd (ones (bytesOf s))
  have pw2 := pwOf_ev (b := 2) (by omega) h2
  have pw3 := pwOf_ev (b := 3) (n := ones (bytesOf s)) (by omega) (by omega)
  have tp := toPower_ev (n := ones (bytesOf s)) (by omega)
  have on := ones_ev s h2
  have sh := shl_pow s.size h2
  generalize hN : numS 0 (bytesOf s) = N at *
  generalize hP : (2 : Int) ^ s.size = P at *
  generalize hT : (3 : Int) ^ ones (bytesOf s) = T at *
  have ed : wrap64 (P - T) = P - T := w64 (by omega) (by omega)
  by_cases hd : P - T < 0
  · have en : wrap64 (-N) = -N := w64 (by omega) (by omega)
    have enn : wrap64 (- -N) = N := by rw [w64 (by omega) (by omega)]; omega
    have edd : wrap64 (-(P - T)) = -(P - T) := w64 (by omega) (by omega)
    have ha : 0 ≤ mx (-N) N := by unfold mx; split <;> omega
    obtain ⟨g, g0, gi, gs⟩ := gcd_ev (a := mx (-N) N) (b := -(P - T)) ha (by omega)
    refine ⟨(wrap64 (Int.tdiv (-N) g), wrap64 (Int.tdiv (-(P - T)) g), true), fun beh => ?_, ?_⟩
    · refine Ev.step (fun k => by rw [spec_CycleOfWord.l0]) ?_
      refine Ev.neg (by omega) (Ev.bind pw2 (Ev.bind on (Ev.bind pw3 ?_)))
      rw [ed]
      refine Ev.pos hd ?_
      rw [en, edd]
      refine Ev.pure (abs_eq (-N)) ?_
      rw [enn]
      exact Ev.bind gs (Ev.neg g0 (Ev.now _))
    · refine Ev.step (fun k => by rw [impl_CycleOfWord.l0]) ?_
      refine Ev.neg (by omega) (Ev.bind tp ?_)
      rw [sh, ed]
      refine Ev.pos hd ?_
      rw [en, edd, enn]
      exact Ev.bind gi (Ev.neg g0 (Ev.now _))
  · have en : wrap64 (-N) = -N := w64 (by omega) (by omega)
    have ha : 0 ≤ mx N (-N) := by unfold mx; split <;> omega
    obtain ⟨g, g0, gi, gs⟩ := gcd_ev (a := mx N (-N)) (b := P - T) ha (by omega)
    refine ⟨(wrap64 (Int.tdiv N g), wrap64 (Int.tdiv (P - T) g), true), fun beh => ?_, ?_⟩
    · refine Ev.step (fun k => by rw [spec_CycleOfWord.l0]) ?_
      refine Ev.neg (by omega) (Ev.bind pw2 (Ev.bind on (Ev.bind pw3 ?_)))
      rw [ed]
      refine Ev.neg hd ?_
      refine Ev.pure (abs_eq N) ?_
      rw [en]
      exact Ev.bind gs (Ev.neg g0 (Ev.now _))
    · refine Ev.step (fun k => by rw [impl_CycleOfWord.l0]) ?_
      refine Ev.neg (by omega) (Ev.bind tp ?_)
      rw [sh, ed]
      refine Ev.neg hd ?_
      rw [en]
      exact Ev.bind gi (Ev.neg g0 (Ev.now _))
theorem spec_sum (s : ByteArray) (h2 : s.size ≤ 20) (r : Int × Int × Bool) (hr : ∀ beh : Int, Ev (fun k => spec_CycleOfWord.l0 k s (numS 0 (bytesOf s)) beh (s.size : Int)) r) (B : Int) (hB : numS 0 (bytesOf s) = B) (hB2 : B ≤ 80000000000000000) : ∀ (m i : Nat) (acc : Int), i + m = s.size → 0 ≤ acc → acc + numS i ((bytesOf s).drop i) = B →
    Ev (fun k => spec_CycleOfWord.l0 k s acc ((ones ((bytesOf s).drop i) : Nat) : Int) (i : Int)) r
  | 0, i, acc, h, h0, he => by
    rw [List.drop_of_length_le (by rw [bytesOf_length]; omega)] at he ⊢
    simp only [numS] at he
    rw [Int.add_zero, ← hB] at he
    rw [he, show i = s.size by omega]
    exact hr _
  | m + 1, i, acc, h, h0, he => by
    have hbi := numS_bd ((bytesOf s).drop (i + 1)) (i + 1) (by rw [List.length_drop, bytesOf_length]; omega)
    have ho := ones_le ((bytesOf s).drop (i + 1))
    rw [List.length_drop, bytesOf_length] at ho
    have ih := fun acc' => spec_sum s h2 r hr B hB hB2 m (i + 1) acc'
    have e1 : wrap64 ((i : Int) + 1) = ((i + 1 : Nat) : Int) := by rw [w64 (by omega) (by omega)]; omega
    rw [at_drop s i (by omega)] at he ⊢
    simp only [numS, ones] at he ⊢
    obtain ⟨hb0, _⟩ := hbi
    generalize numS (i + 1) ((bytesOf s).drop (i + 1)) = S at *
    generalize ones ((bytesOf s).drop (i + 1)) = o at *
    have ht := term_bd (i := i) (j := o) (by omega) (by omega)
    have pa := pwOf_ev (b := 2) (n := i) (by omega) (by omega)
    have pb := pwOf_ev (b := 3) (n := o) (by omega) (by omega)
    generalize hT : (2 : Int) ^ i * 3 ^ o = T at *
    refine Ev.step (fun k => by rw [spec_CycleOfWord.l0]) ?_
    refine Ev.pos (by omega) (Ev.pos (by omega) ?_)
    rw [e1]
    by_cases hc : bt s (i : Int) = 49
    · rw [if_pos hc] at he
      refine Ev.pos hc ?_
      have eb : wrap64 ((((1 + o : Nat)) : Int) - 1) = ((o : Nat) : Int) := by
        rw [w64 (by omega) (by omega)]; omega
      rw [if_pos hc, eb]
      refine Ev.bind pa (Ev.bind pb ?_)
      rw [hT, w64 (x := T) (by omega) (by omega), w64 (x := acc + T) (by omega) (by omega)]
      exact ih _ (by omega) (by omega) (by omega)
    · rw [if_neg hc] at he
      refine Ev.neg hc ?_
      rw [if_neg hc, Nat.zero_add]
      exact ih acc (by omega) h0 (by omega)
theorem impl_sum (s : ByteArray) (h2 : s.size ≤ 20) (r : Int × Int × Bool) (hr : Ev (fun k => impl_CycleOfWord.l0 k s (numS 0 (bytesOf s)) ((ones (bytesOf s) : Nat) : Int) (-1)) r) : ∀ (i : Nat), i ≤ s.size →
    Ev (fun k => impl_CycleOfWord.l0 k s (numS i ((bytesOf s).drop i)) ((ones ((bytesOf s).drop i) : Nat) : Int) ((i : Int) - 1)) r
  | 0, _ => by simpa using hr
  | i + 1, h => by
    have hbi := numS_bd ((bytesOf s).drop (i + 1)) (i + 1) (by rw [List.length_drop, bytesOf_length]; omega)
    rw [List.length_drop, bytesOf_length] at hbi
    have ho := ones_le ((bytesOf s).drop (i + 1))
    rw [List.length_drop, bytesOf_length] at ho
    have ih := impl_sum s h2 r hr i (by omega)
    rw [at_drop s i (by omega)] at ih
    simp only [numS, ones] at ih
    generalize numS (i + 1) ((bytesOf s).drop (i + 1)) = S at *
    generalize ones ((bytesOf s).drop (i + 1)) = o at *
    have ht := term_bd (i := i) (j := o) (by omega) (by omega)
    have pb := toPower_ev (n := o) (by omega)
    have es := shl_pow i (by omega)
    have ei : ((i + 1 : Nat) : Int) - 1 = (i : Int) := by omega
    have e1 : wrap64 ((i : Int) - 1) = (i : Int) - 1 := w64 (by omega) (by omega)
    generalize hT : (2 : Int) ^ i * 3 ^ o = T at *
    rw [ei]
    refine Ev.step (fun k => by rw [impl_CycleOfWord.l0]) ?_
    refine Ev.pos (by omega) (Ev.pos (by omega) (Ev.pos (by omega) ?_))
    rw [e1]
    by_cases hc : bt s (i : Int) = 49
    · rw [if_pos hc, if_pos hc] at ih
      refine Ev.pos hc (Ev.bind pb ?_)
      rw [es, hT, w64 (x := T) (by omega) (by omega), w64 (x := S + T) (by omega) (by omega), w64 (x := (o : Int) + 1) (by omega) (by omega)]
      have ea : S + T = T + S := Int.add_comm _ _
      have eo : (o : Int) + 1 = ((1 + o : Nat) : Int) := by omega
      rw [ea, eo]; exact ih
    · rw [if_neg hc, if_neg hc, Int.zero_add, Nat.zero_add] at ih
      exact Ev.neg hc ih

theorem FnExactCycleOfWord : laws_FnExactCycleOfWord.Pure := by
  intro w hw
  apply Ev.rounds
  unfold laws_FnExactCycleOfWord.f
  by_cases h : (w.size : Int) > 1048576
  · exact Ev.pos h (Ev.now _)
  · refine Ev.neg h ?_
    have hs : w.size ≤ 1048576 := by omega
    have hl := letters_ev w hs
    have hi := isParity_eq w hs
    have hr : ∃ r, Ev (fun k => spec_CycleOfWord.f k w) r ∧ Ev (fun k => impl_CycleOfWord.f k w) r := by
      unfold spec_CycleOfWord.f impl_CycleOfWord.f
      rw [hi]
      cases hp : isPar w with
      | false =>
        rw [hp] at hl
        refine ⟨(0, 0, false), Ev.bind hl (Ev.neg (by simp) ?_), Ev.pure rfl (Ev.neg (by simp) ?_)⟩
        · refine Ev.step (fun k => by rw [spec_CycleOfWord.j0]) ?_
          exact Ev.pos rfl (Ev.now _)
        · refine Ev.step (fun k => by rw [impl_CycleOfWord.j0]) ?_
          exact Ev.pos rfl (Ev.now _)
      | true =>
        rw [hp] at hl
        have hm := isPar_mem hp
        cases he : (w.toList == ([] : List UInt8)) with
        | true =>
          refine ⟨(0, 0, false), Ev.bind hl (Ev.pos rfl ?_), Ev.pure rfl (Ev.pos rfl ?_)⟩
          · refine Ev.step (fun k => by rw [spec_CycleOfWord.j0]) ?_
            exact Ev.pos rfl (Ev.now _)
          · refine Ev.step (fun k => by rw [impl_CycleOfWord.j0]) ?_
            exact Ev.pos rfl (Ev.now _)
        | false =>
          have h1 : 1 ≤ w.size := by
            rw [beq_eq_false_iff_ne, ByteArray.toList_eq] at he
            have : w.data.toList.length ≠ 0 := fun e => he (List.eq_nil_of_length_eq_zero e)
            rw [data_length] at this
            omega
          obtain ⟨r, rs, ri⟩ := fin_ev w h1 hm.1
          have hbd := numS_bd (bytesOf w) 0 (by rw [bytesOf_length]; omega)
          rw [bytesOf_length] at hbd
          have gs := spec_sum w hm.1 r rs _ rfl (by omega) w.size 0 0 (by omega) (by omega) (by simp)
          have gi := impl_sum w hm.1 r ri w.size (Nat.le_refl _)
          rw [List.drop_of_length_le (by rw [bytesOf_length]; omega)] at gi
          refine ⟨r, Ev.bind hl (Ev.pos rfl ?_), Ev.pure rfl (Ev.pos rfl ?_)⟩
          · refine Ev.step (fun k => by rw [spec_CycleOfWord.j0]) ?_
            exact Ev.neg (by simp) (Ev.bind (ones_ev w hm.1) (by simpa using gs))
          · refine Ev.step (fun k => by rw [impl_CycleOfWord.j0]) ?_
            refine Ev.neg (by simp) ?_
            rw [w64 (by omega) (by omega)]
            simpa [numS, ones] using gi
    obtain ⟨r, gs, gi⟩ := hr
    refine Ev.bind gs (Ev.bind gi ?_)
    simp; exact Ev.now _

end Go.Proofs.Ytmdpjggjhkminaa.Pure
