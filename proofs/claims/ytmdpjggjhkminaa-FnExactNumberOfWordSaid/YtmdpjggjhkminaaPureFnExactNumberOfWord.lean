/- For every string, the program's NumberOfWord gives what the reference's gives. No conditions. -/
import Derived.Test.YtmdpjggjhkminaaPFnExactNumberOfWordx2
namespace Go.Proofs.Ytmdpjggjhkminaa.Pure
open Go.RowKit Go.Proofs.Ytmdpjggjhkminaa.PFnExactNumberOfWord Go.Proofs.YtmdpjggjhkminaaW.PrintWords Go.Proofs.YtmdpjggjhkminaaW.PrintLast

theorem wf_i64 {x : Int} (h : (Lit.int .i64 x).wf = true) : -9223372036854775808 ≤ x ∧ x ≤ 9223372036854775807 := by
  simp only [Lit.wf, Bool.and_eq_true, decide_eq_true_eq, show IntKind.i64.min = -9223372036854775808 from rfl, show IntKind.i64.max = 9223372036854775807 from rfl] at h
  exact h
theorem w64 {x : Int} (h0 : -9223372036854775808 ≤ x) (h1 : x ≤ 9223372036854775807) : wrap64 x = x := by unfold wrap64; omega
theorem Ev.pos {α : Type} {c : Prop} [Decidable c] {A B : Nat → Option α} {r : α} (h : c) (e : Ev A r) : Ev (fun k => if c then A k else B k) r := by simpa only [if_pos h] using e
theorem Ev.neg {α : Type} {c : Prop} [Decidable c] {A B : Nat → Option α} {r : α} (h : ¬ c) (e : Ev B r) : Ev (fun k => if c then A k else B k) r := by simpa only [if_neg h] using e
theorem Ev.val {α : Type} {a r : α} (h : a = r) : Ev (fun _ => some a) r := h ▸ Ev.now a
theorem Ev.pure {α β : Type} {o : Option α} {f : Nat → α → Option β} {a : α} {r : β} (h : o = some a) (k : Ev (fun n => f n a) r) : Ev (fun n => o.bind (f n)) r := by subst h; exact k
theorem Ev.call {α β : Type} {g : Nat → Option α} {f : Nat → α → Option β} {a : α} {r : β} (h : Ev g a) (k : Ev (fun n => f n a) r) : Ev (fun n => (g n).bind (f n)) r := Ev.bind h k
theorem Ev.same {α : Type} {g f : Nat → Option α} {r : α} (h : ∀ k, g k = f k) (k : Ev g r) : Ev f r := Ev.congr (fun k => (h k).symm) k

theorem div_lt_of {n d : Int} (hn : 1 ≤ n) (hd : 2 ≤ d) : n / d < n := by
  apply Int.ediv_lt_of_lt_mul (by omega)
  have : n * 2 ≤ n * d := Int.mul_le_mul_of_nonneg_left hd (by omega)
  omega
theorem div_ge {n d : Int} (hn : 0 ≤ n) (hd : 2 ≤ d) : 0 ≤ n / d := Int.ediv_nonneg hn (by omega)
theorem div_le {n d : Int} (hn : 0 ≤ n) (hd : 2 ≤ d) : n / d ≤ n := by
  by_cases h : n = 0
  · subst h; simp
  · have := div_lt_of (n := n) (d := d) (by omega) hd; omega
theorem div_pos_of {n d : Int} (hn : 1 ≤ n) (hd : 2 ≤ d) (h : n % d = 0) : 1 ≤ n / d := by
  have e := Int.mul_ediv_add_emod n d
  have h0 : 0 ≤ n / d := div_ge (by omega) hd
  by_cases hz : n / d = 0
  · rw [hz, h] at e; simp at e; omega
  · omega
theorem tmod_of {a b : Int} (h : 0 ≤ a) : Int.tmod a b = a % b := Int.tmod_eq_emod_of_nonneg h
theorem tdiv_of {a b : Int} (h : 0 ≤ a) : Int.tdiv a b = a / b := Int.tdiv_eq_ediv_of_nonneg h

theorem spec_stNumber_eq (a : Int) : spec_stNumber.f a = some (decide (1 ≤ a ∧ a ≤ 1000000000000)) := by
  unfold spec_stNumber.f spec_l1In.f
  by_cases h : a ≥ 1
  · rw [if_pos h]; simp [show 1 ≤ a from h]
  · rw [if_neg h]; simp; omega

theorem strOfNums_app (a b : List Int) : strOfNums (a ++ b) = strOfNums a ++ strOfNums b := by
  apply ByteArray.ext
  simp [strOfNums, ByteArray.data_append]
theorem strOfNums_nil : strOfNums [] = (⟨#[]⟩ : ByteArray) := rfl

/-- a short step, the letters, the numbers -/
def sh (n : Int) : Int := if n % 2 = 0 then n / 2 else (3 * n + 1) / 2
def bitOf (n : Int) : Int := (wrap64 (48 + n % 2)) % 256
def bits : Nat → Int → List Int
  | 0, _ => []
  | r + 1, n => bitOf n :: bits r (sh n)
def itr : Nat → Int → Int
  | 0, n => n
  | r + 1, n => itr r (sh n)
def good : Nat → Int → Bool
  | 0, _ => true
  | r + 1, n => decide (sh n ≤ 1000000000000) && good r (sh n)
theorem bits_length : ∀ (r : Nat) (n : Int), (bits r n).length = r
  | 0, _ => rfl
  | r + 1, n => by simp [bits, bits_length r]
theorem sh_bd {n : Int} (h : 1 ≤ n) : 1 ≤ sh n ∧ sh n ≤ 2 * n := by
  unfold sh
  split <;> omega
theorem short_ev {n : Int} (h : 1 ≤ n) (h2 : n ≤ 1152921504606846976) : spec_stShort.f n = some (sh n) ∧ impl_short.f n = some (sh n) := by
  have e1 : wrap64 (Int.tdiv n 2) = n / 2 := by rw [tdiv_of (by omega)]; exact w64 (by omega) (by omega)
  have e2 : wrap64 (Int.tdiv (wrap64 ((wrap64 (3 * n)) + 1)) 2) = (3 * n + 1) / 2 := by
    rw [w64 (x := 3 * n) (by omega) (by omega), w64 (x := 3 * n + 1) (by omega) (by omega), tdiv_of (by omega)]; exact w64 (by omega) (by omega)
  unfold spec_stShort.f impl_short.f sh
  rw [tmod_of (show 0 ≤ n by omega), e1, e2]
  split <;> simp
theorem num_ev (n : Int) : Ev (fun k => spec_l1Num.f k (n % 2)) (strOfNums [bitOf n]) := by
  refine Ev.step (fun k => by rw [spec_l1Num.f]) ?_
  exact Ev.pos (by omega) (Ev.now _)
theorem pow2_le {a b : Nat} (h : a ≤ b) : (2 : Int) ^ a ≤ 2 ^ b := by
  have := Nat.pow_le_pow_right (show 2 > 0 by omega) h
  exact_mod_cast this
theorem pow_split {n : Int} {r : Nat} (h : n * 2 ^ (r + 1) ≤ 1152921504606846976) (h1 : 1 ≤ n) : n ≤ 1152921504606846976 ∧ sh n * 2 ^ r ≤ 1152921504606846976 := by
  have hp : (0 : Int) < 2 ^ r := Int.pow_pos (by omega)
  have e : n * 2 ^ (r + 1) = (2 * n) * 2 ^ r := by rw [Int.pow_succ]; rw [Int.mul_comm (2 ^ r) 2, ← Int.mul_assoc, Int.mul_comm n 2]
  have h2 : sh n * 2 ^ r ≤ (2 * n) * 2 ^ r := Int.mul_le_mul_of_nonneg_right (sh_bd h1).2 (by omega)
  have h3 : (2 * n) * 1 ≤ (2 * n) * 2 ^ r := Int.mul_le_mul_of_nonneg_left hp (by omega)
  omega
theorem parities_l0 (K : Int) (hK : K ≤ 1000000) : ∀ (r : Nat) (n i : Int) (acc : List Int), 1 ≤ n → n * 2 ^ r ≤ 1152921504606846976 → 0 ≤ i → i + r = K → acc.length + r < 140737488355328 → Ev (fun k => impl_parities.l0 k n acc K i) (strOfNums (acc ++ bits r n), itr r n)
  | 0, n, i, acc, _, _, _, h, _ => by
    refine Ev.step (fun k => by rw [impl_parities.l0]) ?_
    exact Ev.neg (by omega) (Ev.val (by simp [bits, itr]))
  | r + 1, n, i, acc, h1, h2, h0, h, hl => by
    obtain ⟨p1, p2⟩ := pow_split h2 h1
    have ih := parities_l0 K hK r (sh n) (i + 1) (acc ++ [bitOf n]) (sh_bd h1).1 p2 (by omega) (by omega) (by simp; omega)
    refine Ev.step (fun k => by rw [impl_parities.l0]) ?_
    refine Ev.pos (by omega) (Ev.pos (by omega) (Ev.pure (short_ev h1 p1).2 ?_))
    rw [tmod_of (show 0 ≤ n by omega), w64 (x := i + 1) (by omega) (by omega)]
    have e : acc ++ bits (r + 1) n = (acc ++ [bitOf n]) ++ bits r (sh n) := by simp [bits]
    rw [e]; exact ih
theorem stWord_l0 (K : Int) (hK : K ≤ 1000000) : ∀ (r : Nat) (n i : Int) (acc : List Int), 1 ≤ n → (n ≤ 1000000000000 ∨ r = 0) → 0 ≤ i → i + r = K → acc.length + r < 1000000000 →
    Ev (fun k => spec_stWord.l0 k n K (strOfNums acc) i) (if good (r - 1) n = true then (strOfNums (acc ++ bits r n), itr r n, true) else ((⟨#[]⟩ : ByteArray), 0, false))
  | 0, n, i, acc, _, _, _, h, _ => by
    refine Ev.step (fun k => by rw [spec_stWord.l0]) ?_
    exact Ev.neg (by omega) (Ev.val (by simp [bits, itr, good]))
  | r + 1, n, i, acc, h1, h2, h0, h, hl => by
    have hn : n ≤ 1000000000000 := by omega
    have hb := sh_bd h1
    have e1 : strOfNums acc ++ strOfNums [bitOf n] = strOfNums (acc ++ [bitOf n]) := (strOfNums_app _ _).symm
    have e2 : acc ++ bits (r + 1) n = (acc ++ [bitOf n]) ++ bits r (sh n) := by simp [bits]
    refine Ev.step (fun k => by rw [spec_stWord.l0]) ?_
    rw [tmod_of (show 0 ≤ n by omega)]
    refine Ev.pos (by omega) (Ev.bind (num_ev n) (Ev.pos (by simp only [strOfNums_size, List.length_cons, List.length_nil]; omega) (Ev.pure (short_ev h1 (by omega)).1 (Ev.pure (spec_stNumber_eq _) ?_))))
    rw [w64 (x := i + 1) (by omega) (by omega), e1, w64 (x := K - 1) (by omega) (by omega)]
    have ih := fun hc => stWord_l0 K hK r (sh n) (i + 1) (acc ++ [bitOf n]) hb.1 hc (by omega) (by omega) (by simp; omega)
    by_cases hg : sh n ≤ 1000000000000
    · refine Ev.pos (by simp; omega) ?_
      have e : good (r + 1 - 1) n = good (r - 1) (sh n) := by
        cases r with
        | zero => simp [good]
        | succ r => simp [good, hg]
      rw [e, e2]
      exact ih (Or.inl hg)
    · refine Ev.neg (by simp; omega) ?_
      by_cases hr : r = 0
      · subst hr
        refine Ev.neg (by omega) ?_
        have := ih (Or.inr rfl)
        simpa [good, e2, itr] using this
      · refine Ev.pos (by omega) ?_
        have e : good (r + 1 - 1) n = false := by
          cases r with
          | zero => omega
          | succ r => simp [good]; omega
        rw [e]; exact Ev.val (by simp)
theorem stWord_ev {n K : Int} (h1 : 1 ≤ n) (h2 : n ≤ 1000000000000) (hk : 0 ≤ K) (hK : K ≤ 20) : Ev (fun k => spec_stWord.f k n K) (if good (K.toNat - 1) n = true then (strOfNums (bits K.toNat n), itr K.toNat n, true) else ((⟨#[]⟩ : ByteArray), 0, false)) := by
  have := stWord_l0 K (by omega) K.toNat n 0 [] h1 (Or.inl h2) (by omega) (by omega) (by simp; omega)
  unfold spec_stWord.f
  simpa [strOfNums_nil] using this
theorem parities_ev {n K : Int} (h1 : 1 ≤ n) (h2 : n ≤ 1000000000000) (hk : 0 ≤ K) (hK : K ≤ 20) : Ev (fun k => impl_parities.f k n K) (strOfNums (bits K.toNat n), itr K.toNat n) := by
  have hp : (2 : Int) ^ K.toNat ≤ 2 ^ 20 := pow2_le (by omega)
  have hq : n * 2 ^ K.toNat ≤ 1000000000000 * 2 ^ 20 := Int.mul_le_mul h2 hp (Int.pow_nonneg (by omega)) (by omega)
  have := parities_l0 K (by omega) K.toNat n 0 [] h1 (by omega) (by omega) (by omega) (by simp; omega)
  unfold impl_parities.f
  simpa using this

theorem bytesOf_str (l : List Int) (h : ∀ x ∈ l, 0 ≤ x ∧ x < 256) : bytesOf (strOfNums l) = l := by
  unfold bytesOf
  rw [strOfNums_data, List.map_map]
  have : ∀ x ∈ l, ((fun b : UInt8 => (b.toNat : Int)) ∘ fun n : Int => UInt8.ofNat n.toNat) x = x := by
    intro x hx
    have := h x hx
    simp only [Function.comp, UInt8.toNat_ofNat']
    omega
  rw [List.map_congr_left this]
  simp

theorem letters_l0 (s : ByteArray) (hs : s.size ≤ 1048576) : ∀ (m : Nat) (i : Int), 0 ≤ i → i ≤ s.size → (s.size : Int) - i = m → Ev (fun k => spec_stLetters.l0 k s i) (((bytesOf s).drop i.toNat).all impl_isParity.ok)
  | 0, i, h0, h1, h => by
    refine Ev.step (fun k => by rw [spec_stLetters.l0]) ?_
    refine Ev.neg (by omega) (Ev.val ?_)
    rw [List.drop_of_length_le (by rw [bytesOf_length]; omega)]
    rfl
  | m + 1, i, h0, h1, h => by
    have hlt : i.toNat < (bytesOf s).length := by rw [bytesOf_length]; omega
    have e : (bytesOf s)[i.toNat] = bt s i := by rw [← rd_bytesOf]; simp [rd, hlt]
    have ed := List.drop_eq_getElem_cons hlt
    have ei : i.toNat + 1 = (i + 1).toNat := by omega
    rw [ed, e, ei]
    have ih := letters_l0 s hs m (i + 1) (by omega) (by omega) (by omega)
    refine Ev.step (fun k => by rw [spec_stLetters.l0]) ?_
    rw [w64 (x := i + 1) (by omega) (by omega)]
    refine Ev.pos (by omega) (Ev.pos h0 ?_)
    by_cases h8 : bt s i = 48
    · have e2 : ((bt s i :: (bytesOf s).drop (i + 1).toNat).all impl_isParity.ok) = ((bytesOf s).drop (i + 1).toNat).all impl_isParity.ok := by simp [impl_isParity.ok, h8]
      rw [e2]; exact Ev.pos h8 ih
    · by_cases h9 : bt s i = 49
      · have e2 : ((bt s i :: (bytesOf s).drop (i + 1).toNat).all impl_isParity.ok) = ((bytesOf s).drop (i + 1).toNat).all impl_isParity.ok := by simp [impl_isParity.ok, h9]
        rw [e2]; exact Ev.neg h8 (Ev.pos h9 ih)
      · exact Ev.neg h8 (Ev.neg h9 (Ev.val (by simp [impl_isParity.ok, h8, h9])))
/-- the letters of the reference and of the program -/
def isPar (s : ByteArray) : Bool := impl_isParity.all s && decide ((s.size : Int) ≤ 20)
theorem letters_ev (s : ByteArray) (hs : s.size ≤ 1048576) : Ev (fun k => spec_stLetters.f k s) (isPar s) := by
  unfold spec_stLetters.f isPar
  by_cases h : (s.size : Int) > 20
  · refine Ev.pos h (Ev.val ?_)
    rw [decide_eq_false (show ¬ (s.size : Int) ≤ 20 by omega), Bool.and_false]
  · refine Ev.neg h ?_
    rw [decide_eq_true (show (s.size : Int) ≤ 20 by omega), Bool.and_true]
    have := letters_l0 s hs s.size 0 (by omega) (by omega) (by omega)
    simpa [impl_isParity.all] using this
theorem isParity_eq (s : ByteArray) (hs : s.size ≤ 1048576) : impl_isParity.f s = some (isPar s) := by
  unfold impl_isParity.f isPar
  rw [if_pos (by omega)]
theorem isPar_mem {s : ByteArray} (h : isPar s = true) : s.size ≤ 20 ∧ ∀ x ∈ bytesOf s, x = 48 ∨ x = 49 := by
  unfold isPar impl_isParity.all at h
  simp only [Bool.and_eq_true, decide_eq_true_eq, List.all_eq_true, impl_isParity.ok, Bool.or_eq_true, beq_iff_eq] at h
  exact ⟨by omega, h.1⟩

theorem bitOf_eq (n : Int) : bitOf n = 48 + n % 2 := by
  unfold bitOf
  rw [w64 (by omega) (by omega)]
  omega
theorem bits_mem : ∀ (r : Nat) (n : Int), ∀ x ∈ bits r n, x = 48 ∨ x = 49
  | 0, _ => by simp [bits]
  | r + 1, n => by
    intro x hx
    rcases List.mem_cons.mp hx with rfl | hx
    · rw [bitOf_eq]; omega
    · exact bits_mem r (sh n) x hx
theorem bits_snoc : ∀ (r : Nat) (n : Int), bits (r + 1) n = bits r n ++ [bitOf (itr r n)]
  | 0, _ => rfl
  | r + 1, n => by
    show bitOf n :: bits (r + 1) (sh n) = _
    rw [bits_snoc r (sh n)]
    rfl
/-- a remainder of two decides the next letter: with 2^j more the first j letters stay, and the number behind them changes by an odd number -/
theorem shift : ∀ (j : Nat) (n a : Int), ∃ t : Int, t % 2 = 1 ∧ itr j (n + 2 ^ j * a) = itr j n + t * a ∧ bits j (n + 2 ^ j * a) = bits j n
  | 0, n, a => ⟨1, by omega, by simp [itr], by simp [bits]⟩
  | j + 1, n, a => by
    have e : (2 : Int) ^ (j + 1) * a = 2 * (2 ^ j * a) := by rw [Int.pow_succ, Int.mul_comm (2 ^ j) 2, Int.mul_assoc]
    have hb : bitOf (n + 2 * (2 ^ j * a)) = bitOf n := by rw [bitOf_eq, bitOf_eq]; omega
    by_cases h : n % 2 = 0
    · have hs : sh (n + 2 * (2 ^ j * a)) = sh n + 2 ^ j * a := by
        unfold sh
        rw [if_pos (by omega), if_pos h]; omega
      obtain ⟨t, t1, t2, t3⟩ := shift j (sh n) a
      refine ⟨t, t1, ?_, ?_⟩
      · rw [e]; simp only [itr]; rw [hs, t2]
      · rw [e]; simp only [bits]; rw [hs, hb, t3]
    · have hs : sh (n + 2 * (2 ^ j * a)) = sh n + 2 ^ j * (3 * a) := by
        unfold sh
        rw [if_neg (by omega), if_neg h]
        have e3 : (2 : Int) ^ j * (3 * a) = 3 * (2 ^ j * a) := by rw [← Int.mul_assoc, Int.mul_comm (2 ^ j) 3, Int.mul_assoc]
        rw [e3]; omega
      obtain ⟨t, t1, t2, t3⟩ := shift j (sh n) (3 * a)
      refine ⟨t * 3, by omega, ?_, ?_⟩
      · rw [e]; simp only [itr]; rw [hs, t2, Int.mul_assoc]
      · rw [e]; simp only [bits]; rw [hs, hb, t3]
theorem good_of : ∀ (r : Nat) (n : Int), 1 ≤ n → n * 2 ^ r ≤ 1000000000000 → good r n = true
  | 0, _, _, _ => rfl
  | r + 1, n, h1, h => by
    have hp : (0 : Int) < 2 ^ r := Int.pow_pos (by omega)
    have e : n * 2 ^ (r + 1) = (2 * n) * 2 ^ r := by rw [Int.pow_succ, Int.mul_comm (2 ^ r) 2, ← Int.mul_assoc, Int.mul_comm n 2]
    have hs := sh_bd h1
    have h2 : sh n * 2 ^ r ≤ (2 * n) * 2 ^ r := Int.mul_le_mul_of_nonneg_right hs.2 (by omega)
    have h3 : sh n * 1 ≤ sh n * 2 ^ r := Int.mul_le_mul_of_nonneg_left hp (by omega)
    simp only [good, Bool.and_eq_true, decide_eq_true_eq]
    exact ⟨by omega, good_of r (sh n) hs.1 (by omega)⟩
theorem cmp (l : List Int) (h : ∀ x ∈ l, 0 ≤ x ∧ x < 256) (w : ByteArray) (k : Nat) : (strOfNums l).toList = (w.extract 0 k).toList ↔ l = (bytesOf w).take k := by
  have e1 : bytesOf (w.extract 0 k) = (bytesOf w).take k := by
    unfold bytesOf
    rw [← List.map_take, ByteArray.data_extract, Array.toList_extract]
    simp
  have inj : ∀ x y : UInt8, (x.toNat : Int) = (y.toNat : Int) → x = y := by
    intro x y hxy
    exact UInt8.toNat_inj.mp (by omega)
  rw [ByteArray.toList_eq, ByteArray.toList_eq, ← List.map_inj_right inj]
  show bytesOf (strOfNums l) = bytesOf (w.extract 0 k) ↔ _
  rw [bytesOf_str l h, e1]
theorem take_snoc' (l : List Int) (k : Nat) (h : k < l.length) : l.take (k + 1) = l.take k ++ [l[k]] := by
  rw [List.take_succ_eq_append_getElem h]
/-- one letter more: the number stays, or 2^k is added -/
theorem next_letter (W : List Int) (k : Nat) (hk : k < W.length) (hW : ∀ x ∈ W, x = 48 ∨ x = 49) (n : Int) (h : bits k n = W.take k) :
    bits (k + 1) n = W.take (k + 1) ∨ bits (k + 1) n ≠ W.take (k + 1) ∧ bits (k + 1) (n + 2 ^ k) = W.take (k + 1) := by
  by_cases hc : bits (k + 1) n = W.take (k + 1)
  · exact .inl hc
  · refine .inr ⟨hc, ?_⟩
    obtain ⟨t, t1, t2, t3⟩ := shift k n 1
    rw [Int.mul_one] at t2 t3
    rw [Int.mul_one] at t2
    rw [bits_snoc, take_snoc' W k hk, h] at hc
    rw [bits_snoc, take_snoc' W k hk, t3, h, t2]
    have hw := hW W[k] (List.getElem_mem hk)
    have hne : bitOf (itr k n) ≠ W[k] := fun e => hc (by rw [e])
    rw [bitOf_eq] at hne ⊢
    congr 2
    omega
theorem shl_pow (k : Nat) (h : k ≤ 40) : shl .i64 1 (k : Int) = 2 ^ k := by
  unfold shl
  have h1 : min ((k : Int).toNat) IntKind.i64.bits = k := by
    rw [Int.toNat_natCast, show IntKind.i64.bits = 64 from rfl]; omega
  have hp := pow2_le h
  have h0 : (0 : Int) < 2 ^ k := Int.pow_pos (by omega)
  rw [h1, i64_w, Int.one_mul, w64 (by omega) (by omega)]
theorem now_l0 (w : ByteArray) (hs : w.size ≤ 20) (hW : ∀ x ∈ bytesOf w, x = 48 ∨ x = 49) : ∀ (m k : Nat) (n : Int), k + m = w.size → 1 ≤ n → n ≤ 2 ^ k → bits k n = (bytesOf w).take k →
    ∃ r : Int, Ev (fun q => spec_stOf.l0 q w n (2 ^ k) ((k : Int) + 1)) r ∧ Ev (fun q => impl_NumberOfWord.l0 q w n ((k : Int) + 1)) (r, true)
  | 0, k, n, h, h1, h2, hb => by
    refine ⟨n, ?_, ?_⟩
    · refine Ev.step (fun k => by rw [spec_stOf.l0]) ?_
      exact Ev.neg (by omega) (Ev.now _)
    · refine Ev.step (fun k => by rw [impl_NumberOfWord.l0]) ?_
      exact Ev.neg (by omega) (Ev.now _)
  | m + 1, k, n, h, h1, h2, hb => by
    have hk : k < (bytesOf w).length := by rw [bytesOf_length]; omega
    have hp19 := pow2_le (show k ≤ 19 by omega)
    have hp0 : (0 : Int) < 2 ^ k := Int.pow_pos (by omega)
    have ep : wrap64 ((2 : Int) ^ k * 2) = 2 ^ (k + 1) := by rw [Int.pow_succ, w64 (by omega) (by omega)]
    have en : wrap64 ((k : Int) + 1 + 1) = ((k + 1 : Nat) : Int) + 1 := by rw [w64 (by omega) (by omega)]; omega
    have ek : ((k : Int) + 1).toNat = k + 1 := by omega
    -- what the words of both numbers are
    have gd : ∀ v : Int, 1 ≤ v → v ≤ 2 ^ (k + 1) → Ev (fun q => spec_stWord.f q v ((k : Int) + 1)) (strOfNums (bits (k + 1) v), itr (k + 1) v, true) := by
      intro v v1 v2
      have hp20 := pow2_le (show k + 1 ≤ 20 by omega)
      have hpk := pow2_le (show k ≤ 19 by omega)
      have hm : v * 2 ^ k ≤ 2 ^ 20 * 2 ^ 19 := Int.mul_le_mul (by omega) hpk (by omega) (by omega)
      have hg := good_of k v v1 (by omega)
      have hsw := stWord_ev (n := v) (K := (k : Int) + 1) v1 (by omega) (by omega) (by omega)
      rw [ek, Nat.add_sub_cancel, hg] at hsw
      simpa using hsw
    have pr : Ev (fun q => impl_parities.f q n ((k : Int) + 1)) (strOfNums (bits (k + 1) n), itr (k + 1) n) := by
      have := parities_ev (n := n) (K := (k : Int) + 1) h1 (by omega) (by omega) (by omega)
      rw [ek] at this; exact this
    have mem : ∀ v : Int, ∀ x ∈ bits (k + 1) v, 0 ≤ x ∧ x < 256 := fun v x hx => by have := bits_mem (k + 1) v x hx; omega
    have e2 : (2 : Int) ^ (k + 1) = 2 ^ k * 2 := Int.pow_succ 2 k
    have sp : wrap64 (n + 2 ^ k) = n + 2 ^ k := w64 (by omega) (by omega)
    rcases next_letter (bytesOf w) k hk hW n hb with hc | ⟨hc, hc2⟩
    · obtain ⟨r, gs, gi⟩ := now_l0 w hs hW m (k + 1) n (by omega) h1 (by omega) hc
      refine ⟨r, ?_, ?_⟩
      · refine Ev.step (fun k => by rw [spec_stOf.l0]) ?_
        refine Ev.pos (by omega) (Ev.pure rfl ?_)
        refine Ev.step (fun k => by rw [spec_stOf.l1]) ?_
        refine Ev.pos (by simp) (Ev.pos (by omega) (Ev.pos (by simp) ?_))
        have hr : rd [n, wrap64 (n + 2 ^ k)] 0 = n := by simp [rd]
        rw [hr, ek, ep, en]
        exact Ev.bind (gd n h1 (by omega)) (Ev.pos rfl (Ev.pos (by omega) (Ev.pos (by omega) (Ev.pos ((cmp _ (mem n) w (k + 1)).mpr hc) gs))))
      · refine Ev.step (fun k => by rw [impl_NumberOfWord.l0]) ?_
        rw [ek, en]
        exact Ev.pos (by omega) (Ev.bind pr (Ev.pos (by omega) (Ev.pos ((cmp _ (mem n) w (k + 1)).mpr hc) gi)))
    · obtain ⟨r, gs, gi⟩ := now_l0 w hs hW m (k + 1) (n + 2 ^ k) (by omega) (by omega) (by omega) hc2
      refine ⟨r, ?_, ?_⟩
      · refine Ev.step (fun k => by rw [spec_stOf.l0]) ?_
        refine Ev.pos (by omega) (Ev.pure rfl ?_)
        refine Ev.step (fun k => by rw [spec_stOf.l1]) ?_
        refine Ev.pos (by simp) (Ev.pos (by omega) (Ev.pos (by simp) ?_))
        have hr : rd [n, wrap64 (n + 2 ^ k)] 0 = n := by simp [rd]
        rw [hr, ek]
        refine Ev.bind (gd n h1 (by omega)) (Ev.pos rfl (Ev.pos (by omega) (Ev.pos (by omega) (Ev.neg (fun hh => hc ((cmp _ (mem n) w (k + 1)).mp hh)) ?_))))
        have e01 : wrap64 (0 + 1) = 1 := w64 (by omega) (by omega)
        rw [e01]
        refine Ev.step (fun k => by rw [spec_stOf.l1]) ?_
        refine Ev.pos (by simp) (Ev.pos (by omega) (Ev.pos (by simp) ?_))
        have hr1 : rd [n, wrap64 (n + 2 ^ k)] 1 = n + 2 ^ k := by rw [sp]; simp [rd]
        rw [hr1, ek, ep, en]
        exact Ev.bind (gd (n + 2 ^ k) (by omega) (by omega)) (Ev.pos rfl (Ev.pos (by omega) (Ev.pos (by omega) (Ev.pos ((cmp _ (mem (n + 2 ^ k)) w (k + 1)).mpr hc2) gs))))
      · refine Ev.step (fun k => by rw [impl_NumberOfWord.l0]) ?_
        have ek1 : wrap64 ((k : Int) + 1 - 1) = (k : Int) := by rw [w64 (by omega) (by omega)]; omega
        rw [ek, en, ek1, shl_pow k (by omega), sp]
        exact Ev.pos (by omega) (Ev.bind pr (Ev.pos (by omega) (Ev.neg (fun hh => hc ((cmp _ (mem n) w (k + 1)).mp hh)) (Ev.pos (by omega) gi))))

theorem FnExactNumberOfWord : laws_FnExactNumberOfWord.Pure := by
  intro w hw
  apply Ev.rounds
  unfold laws_FnExactNumberOfWord.f
  by_cases h : (w.size : Int) > 1048576
  · exact Ev.pos h (Ev.now _)
  · refine Ev.neg h ?_
    have hs : w.size ≤ 1048576 := by omega
    have hl := letters_ev w hs
    have hi := isParity_eq w hs
    have hr : ∃ r, Ev (fun k => spec_NumberOfWord.f k w) r ∧ Ev (fun k => impl_NumberOfWord.f k w) r := by
      unfold spec_NumberOfWord.f impl_NumberOfWord.f
      rw [hi]
      cases hp : isPar w with
      | false =>
        rw [hp] at hl
        exact ⟨(0, false), Ev.bind hl (Ev.neg (by simp) (Ev.now _)), Ev.pure rfl (Ev.neg (by simp) (Ev.now _))⟩
      | true =>
        rw [hp] at hl
        have hm := isPar_mem hp
        obtain ⟨r, gs, gi⟩ := now_l0 w hm.1 hm.2 w.size 0 1 (by omega) (by omega) (by simp) (by simp [bits])
        exact ⟨(r, true), Ev.bind hl (Ev.pos rfl (Ev.bind gs (Ev.now _))), Ev.pure rfl (Ev.pos rfl gi)⟩
    obtain ⟨r, gs, gi⟩ := hr
    refine Ev.bind gs (Ev.bind gi ?_)
    simp; exact Ev.now _

end Go.Proofs.Ytmdpjggjhkminaa.Pure
