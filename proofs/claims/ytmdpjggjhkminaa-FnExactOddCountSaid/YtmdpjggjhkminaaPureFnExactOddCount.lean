/- For all ints n and k, the program's OddCount gives what the reference's gives. No conditions. -/
import Derived.Test.YtmdpjggjhkminaaPFnExactOddCountx2
namespace Go.Proofs.Ytmdpjggjhkminaa.Pure
open Go.RowKit Go.Proofs.Ytmdpjggjhkminaa.PFnExactOddCount Go.Proofs.YtmdpjggjhkminaaW.PrintWords Go.Proofs.YtmdpjggjhkminaaW.PrintLast

theorem wf_i64 {x : Int} (h : (Lit.int .i64 x).wf = true) : -9223372036854775808 ≤ x ∧ x ≤ 9223372036854775807 := by
  simp only [Lit.wf, Bool.and_eq_true, decide_eq_true_eq, show IntKind.i64.min = -9223372036854775808 from rfl, show IntKind.i64.max = 9223372036854775807 from rfl] at h
  exact h
theorem w64 {x : Int} (h0 : -9223372036854775808 ≤ x) (h1 : x ≤ 9223372036854775807) : wrap64 x = x := by unfold wrap64; omega
theorem Ev.pos {α : Type} {c : Prop} [Decidable c] {A B : Nat → Option α} {r : α} (h : c) (e : Ev A r) : Ev (fun k => if c then A k else B k) r := by simpa only [if_pos h] using e
theorem Ev.neg {α : Type} {c : Prop} [Decidable c] {A B : Nat → Option α} {r : α} (h : ¬ c) (e : Ev B r) : Ev (fun k => if c then A k else B k) r := by simpa only [if_neg h] using e
theorem Ev.val {α : Type} {a r : α} (h : a = r) : Ev (fun _ => some a) r := h ▸ Ev.now a
theorem Ev.pure {α β : Type} {o : Option α} {f : Nat → α → Option β} {a : α} {r : β} (h : o = some a) (k : Ev (fun n => f n a) r) : Ev (fun n => o.bind (f n)) r := by subst h; exact k
theorem Ev.call {α β : Type} {g : Nat → Option α} {f : Nat → α → Option β} {a : α} {r : β} (h : Ev g a) (k : Ev (fun n => f n a) r) : Ev (fun n => (g n).bind (f n)) r := Ev.bind h k
theorem Ev.same {α : Type} {g f : Nat → Option α} {r : α} (h : ∀ k, g k = f k) (k : Ev g r) : Ev f r := Ev.congr (fun k => (h k).symm) k

theorem div_lt_of {n d : Int} (hn : 1 ≤ n) (hd : 2 ≤ d) : n / d < n := by
  apply Int.ediv_lt_of_lt_mul (by omega)
  have : n * 2 ≤ n * d := Int.mul_le_mul_of_nonneg_left hd (by omega)
  omega
theorem div_ge {n d : Int} (hn : 0 ≤ n) (hd : 2 ≤ d) : 0 ≤ n / d := Int.ediv_nonneg hn (by omega)
theorem div_le {n d : Int} (hn : 0 ≤ n) (hd : 2 ≤ d) : n / d ≤ n := by
  by_cases h : n = 0
  · subst h; simp
  · have := div_lt_of (n := n) (d := d) (by omega) hd; omega
theorem div_pos_of {n d : Int} (hn : 1 ≤ n) (hd : 2 ≤ d) (h : n % d = 0) : 1 ≤ n / d := by
  have e := Int.mul_ediv_add_emod n d
  have h0 : 0 ≤ n / d := div_ge (by omega) hd
  by_cases hz : n / d = 0
  · rw [hz, h] at e; simp at e; omega
  · omega
theorem tmod_of {a b : Int} (h : 0 ≤ a) : Int.tmod a b = a % b := Int.tmod_eq_emod_of_nonneg h
theorem tdiv_of {a b : Int} (h : 0 ≤ a) : Int.tdiv a b = a / b := Int.tdiv_eq_ediv_of_nonneg h

theorem spec_stNumber_eq (a : Int) : spec_stNumber.f a = some (decide (1 ≤ a ∧ a ≤ 1000000000000)) := by
  unfold spec_stNumber.f spec_l1In.f
  by_cases h : a ≥ 1
  · rw [if_pos h]; simp [show 1 ≤ a from h]
  · rw [if_neg h]; simp; omega
theorem impl_isPlace_eq (a : Int) : impl_isPlace.f a = some (decide (1 ≤ a ∧ a ≤ 1000000000000)) := by
  unfold impl_isPlace.f impl_in.f
  by_cases h : 1 ≤ a
  · rw [if_pos h]; simp [h]
  · rw [if_neg h]; simp; omega

theorem strOfNums_app (a b : List Int) : strOfNums (a ++ b) = strOfNums a ++ strOfNums b := by
  apply ByteArray.ext
  simp [strOfNums, ByteArray.data_append]
theorem strOfNums_nil : strOfNums [] = (⟨#[]⟩ : ByteArray) := rfl

/-- a short step, the letters, the numbers -/
def sh (n : Int) : Int := if n % 2 = 0 then n / 2 else (3 * n + 1) / 2
def bitOf (n : Int) : Int := (wrap64 (48 + n % 2)) % 256
def bits : Nat → Int → List Int
  | 0, _ => []
  | r + 1, n => bitOf n :: bits r (sh n)
def itr : Nat → Int → Int
  | 0, n => n
  | r + 1, n => itr r (sh n)
def good : Nat → Int → Bool
  | 0, _ => true
  | r + 1, n => decide (sh n ≤ 1000000000000) && good r (sh n)
theorem bits_length : ∀ (r : Nat) (n : Int), (bits r n).length = r
  | 0, _ => rfl
  | r + 1, n => by simp [bits, bits_length r]
theorem sh_bd {n : Int} (h : 1 ≤ n) : 1 ≤ sh n ∧ sh n ≤ 2 * n := by
  unfold sh
  split <;> omega
theorem short_ev {n : Int} (h : 1 ≤ n) (h2 : n ≤ 1152921504606846976) : spec_stShort.f n = some (sh n) ∧ impl_short.f n = some (sh n) := by
  have e1 : wrap64 (Int.tdiv n 2) = n / 2 := by rw [tdiv_of (by omega)]; exact w64 (by omega) (by omega)
  have e2 : wrap64 (Int.tdiv (wrap64 ((wrap64 (3 * n)) + 1)) 2) = (3 * n + 1) / 2 := by
    rw [w64 (x := 3 * n) (by omega) (by omega), w64 (x := 3 * n + 1) (by omega) (by omega), tdiv_of (by omega)]; exact w64 (by omega) (by omega)
  unfold spec_stShort.f impl_short.f sh
  rw [tmod_of (show 0 ≤ n by omega), e1, e2]
  split <;> simp
theorem num_ev (n : Int) : Ev (fun k => spec_l1Num.f k (n % 2)) (strOfNums [bitOf n]) := by
  refine Ev.step (fun k => by rw [spec_l1Num.f]) ?_
  exact Ev.pos (by omega) (Ev.now _)
theorem pow2_le {a b : Nat} (h : a ≤ b) : (2 : Int) ^ a ≤ 2 ^ b := by
  have := Nat.pow_le_pow_right (show 2 > 0 by omega) h
  exact_mod_cast this
theorem pow_split {n : Int} {r : Nat} (h : n * 2 ^ (r + 1) ≤ 1152921504606846976) (h1 : 1 ≤ n) : n ≤ 1152921504606846976 ∧ sh n * 2 ^ r ≤ 1152921504606846976 := by
  have hp : (0 : Int) < 2 ^ r := Int.pow_pos (by omega)
  have e : n * 2 ^ (r + 1) = (2 * n) * 2 ^ r := by rw [Int.pow_succ]; rw [Int.mul_comm (2 ^ r) 2, ← Int.mul_assoc, Int.mul_comm n 2]
  have h2 : sh n * 2 ^ r ≤ (2 * n) * 2 ^ r := Int.mul_le_mul_of_nonneg_right (sh_bd h1).2 (by omega)
  have h3 : (2 * n) * 1 ≤ (2 * n) * 2 ^ r := Int.mul_le_mul_of_nonneg_left hp (by omega)
  omega
theorem parities_l0 (K : Int) (hK : K ≤ 1000000) : ∀ (r : Nat) (n i : Int) (acc : List Int), 1 ≤ n → n * 2 ^ r ≤ 1152921504606846976 → 0 ≤ i → i + r = K → acc.length + r < 140737488355328 → Ev (fun k => impl_parities.l0 k n acc K i) (strOfNums (acc ++ bits r n), itr r n)
  | 0, n, i, acc, _, _, _, h, _ => by
    refine Ev.step (fun k => by rw [impl_parities.l0]) ?_
    exact Ev.neg (by omega) (Ev.val (by simp [bits, itr]))
  | r + 1, n, i, acc, h1, h2, h0, h, hl => by
    obtain ⟨p1, p2⟩ := pow_split h2 h1
    have ih := parities_l0 K hK r (sh n) (i + 1) (acc ++ [bitOf n]) (sh_bd h1).1 p2 (by omega) (by omega) (by simp; omega)
    refine Ev.step (fun k => by rw [impl_parities.l0]) ?_
    refine Ev.pos (by omega) (Ev.pos (by omega) (Ev.pure (short_ev h1 p1).2 ?_))
    rw [tmod_of (show 0 ≤ n by omega), w64 (x := i + 1) (by omega) (by omega)]
    have e : acc ++ bits (r + 1) n = (acc ++ [bitOf n]) ++ bits r (sh n) := by simp [bits]
    rw [e]; exact ih
theorem reaches_l0 (K : Int) (hK : K ≤ 1000000) : ∀ (r : Nat) (n i : Int), 1 ≤ n → n ≤ 1000000000000 → 0 ≤ i → i + r = K → Ev (fun k => impl_reaches.l0 k n K i) (good r n)
  | 0, n, i, _, _, _, h => by
    refine Ev.step (fun k => by rw [impl_reaches.l0]) ?_
    exact Ev.neg (by omega) (Ev.now _)
  | r + 1, n, i, h1, h2, h0, h => by
    refine Ev.step (fun k => by rw [impl_reaches.l0]) ?_
    refine Ev.pos (by omega) (Ev.pure (short_ev h1 (by omega)).2 ?_)
    by_cases hg : sh n > 1000000000000
    · exact Ev.pos hg (Ev.val (by simp [good]; omega))
    · refine Ev.neg hg ?_
      rw [w64 (x := i + 1) (by omega) (by omega)]
      have e : good (r + 1) n = good r (sh n) := by simp [good]; omega
      rw [e]; exact reaches_l0 K hK r (sh n) (i + 1) (sh_bd h1).1 (by omega) (by omega) (by omega)
theorem stWord_l0 (K : Int) (hK : K ≤ 1000000) : ∀ (r : Nat) (n i : Int) (acc : List Int), 1 ≤ n → (n ≤ 1000000000000 ∨ r = 0) → 0 ≤ i → i + r = K → acc.length + r < 1000000000 →
    Ev (fun k => spec_stWord.l0 k n K (strOfNums acc) i) (if good (r - 1) n = true then (strOfNums (acc ++ bits r n), itr r n, true) else ((⟨#[]⟩ : ByteArray), 0, false))
  | 0, n, i, acc, _, _, _, h, _ => by
    refine Ev.step (fun k => by rw [spec_stWord.l0]) ?_
    exact Ev.neg (by omega) (Ev.val (by simp [bits, itr, good]))
  | r + 1, n, i, acc, h1, h2, h0, h, hl => by
    have hn : n ≤ 1000000000000 := by omega
    have hb := sh_bd h1
    have e1 : strOfNums acc ++ strOfNums [bitOf n] = strOfNums (acc ++ [bitOf n]) := (strOfNums_app _ _).symm
    have e2 : acc ++ bits (r + 1) n = (acc ++ [bitOf n]) ++ bits r (sh n) := by simp [bits]
    refine Ev.step (fun k => by rw [spec_stWord.l0]) ?_
    rw [tmod_of (show 0 ≤ n by omega)]
    refine Ev.pos (by omega) (Ev.bind (num_ev n) (Ev.pos (by simp only [strOfNums_size, List.length_cons, List.length_nil]; omega) (Ev.pure (short_ev h1 (by omega)).1 (Ev.pure (spec_stNumber_eq _) ?_))))
    rw [w64 (x := i + 1) (by omega) (by omega), e1, w64 (x := K - 1) (by omega) (by omega)]
    have ih := fun hc => stWord_l0 K hK r (sh n) (i + 1) (acc ++ [bitOf n]) hb.1 hc (by omega) (by omega) (by simp; omega)
    by_cases hg : sh n ≤ 1000000000000
    · refine Ev.pos (by simp; omega) ?_
      have e : good (r + 1 - 1) n = good (r - 1) (sh n) := by
        cases r with
        | zero => simp [good]
        | succ r => simp [good, hg]
      rw [e, e2]
      exact ih (Or.inl hg)
    · refine Ev.neg (by simp; omega) ?_
      by_cases hr : r = 0
      · subst hr
        refine Ev.neg (by omega) ?_
        have := ih (Or.inr rfl)
        simpa [good, e2, itr] using this
      · refine Ev.pos (by omega) ?_
        have e : good (r + 1 - 1) n = false := by
          cases r with
          | zero => omega
          | succ r => simp [good]; omega
        rw [e]; exact Ev.val (by simp)
theorem stWord_ev {n K : Int} (h1 : 1 ≤ n) (h2 : n ≤ 1000000000000) (hk : 0 ≤ K) (hK : K ≤ 20) : Ev (fun k => spec_stWord.f k n K) (if good (K.toNat - 1) n = true then (strOfNums (bits K.toNat n), itr K.toNat n, true) else ((⟨#[]⟩ : ByteArray), 0, false)) := by
  have := stWord_l0 K (by omega) K.toNat n 0 [] h1 (Or.inl h2) (by omega) (by omega) (by simp; omega)
  unfold spec_stWord.f
  simpa [strOfNums_nil] using this
theorem parities_ev {n K : Int} (h1 : 1 ≤ n) (h2 : n ≤ 1000000000000) (hk : 0 ≤ K) (hK : K ≤ 20) : Ev (fun k => impl_parities.f k n K) (strOfNums (bits K.toNat n), itr K.toNat n) := by
  have hp : (2 : Int) ^ K.toNat ≤ 2 ^ 20 := pow2_le (by omega)
  have hq : n * 2 ^ K.toNat ≤ 1000000000000 * 2 ^ 20 := Int.mul_le_mul h2 hp (Int.pow_nonneg (by omega)) (by omega)
  have := parities_l0 K (by omega) K.toNat n 0 [] h1 (by omega) (by omega) (by omega) (by simp; omega)
  unfold impl_parities.f
  simpa using this
theorem stAsked_eq (n K : Int) : spec_stAsked.f n K = some (decide ((1 ≤ n ∧ n ≤ 1000000000000) ∧ (0 ≤ K ∧ K ≤ 20))) := by
  unfold spec_stAsked.f spec_l1In.f
  rw [spec_stNumber_eq]
  by_cases h : 1 ≤ n ∧ n ≤ 1000000000000
  · simp [h]; split <;> simp <;> omega
  · simp [h]
theorem reaches_ev (n K : Int) : Ev (fun k => impl_reaches.f k n K) (decide ((1 ≤ n ∧ n ≤ 1000000000000) ∧ (0 ≤ K ∧ K ≤ 20)) && good K.toNat n) := by
  unfold impl_reaches.f impl_in.f
  rw [impl_isPlace_eq]
  refine Ev.pure rfl ?_
  by_cases h : 1 ≤ n ∧ n ≤ 1000000000000
  · refine Ev.pos (decide_eq_true h) ?_
    by_cases hk : 0 ≤ K
    · rw [if_pos hk]
      refine Ev.pure rfl ?_
      by_cases hk2 : K ≤ 20
      · refine Ev.step (fun k => by rw [impl_reaches.j0]) ?_
        refine Ev.neg (by simp [hk2]) ?_
        have := reaches_l0 K (by omega) K.toNat n 0 h.1 h.2 (by omega) (by omega)
        simpa [h, hk, hk2] using this
      · refine Ev.step (fun k => by rw [impl_reaches.j0]) ?_
        refine Ev.pos (by simp [hk2]) (Ev.val (by simp; omega))
    · rw [if_neg hk]
      refine Ev.pure rfl ?_
      refine Ev.step (fun k => by rw [impl_reaches.j0]) ?_
      exact Ev.pos rfl (Ev.val (by simp; omega))
  · refine Ev.neg (by simp [h]) ?_
    refine Ev.step (fun k => by rw [impl_reaches.j0]) ?_
    refine Ev.pos rfl (Ev.val (by simp; omega))

theorem bitOf_eq (n : Int) : bitOf n = 48 + n % 2 := by
  unfold bitOf
  rw [w64 (by omega) (by omega)]
  omega
/-- what the program's ParityWord gives -/
def pwVal (n K : Int) : ByteArray × Bool := if ((1 ≤ n ∧ n ≤ 1000000000000) ∧ (0 ≤ K ∧ K ≤ 20)) ∧ good (K.toNat - 1) n = true then (strOfNums (bits K.toNat n), true) else ((⟨#[]⟩ : ByteArray), false)
theorem pwi_ev (n K : Int) (hb0 : -9223372036854775808 ≤ K) (hb1 : K ≤ 9223372036854775807) : Ev (fun k => impl_ParityWord.f k n K) (pwVal n K) := by
  unfold impl_ParityWord.f pwVal
  have hr := reaches_ev n (mx (wrap64 (K - 1)) (mn K 0))
  by_cases h : (1 ≤ n ∧ n ≤ 1000000000000) ∧ (0 ≤ K ∧ K ≤ 20)
  · have hin : impl_in.f K 0 20 = some true := by unfold impl_in.f; rw [if_pos h.2.1, decide_eq_true h.2.2]
    have e : mx (wrap64 (K - 1)) (mn K 0) = if K = 0 then 0 else K - 1 := by
      unfold mx mn
      rw [w64 (by omega) (by omega)]
      repeat' split
      all_goals omega
    have e2 : ((mx (wrap64 (K - 1)) (mn K 0))).toNat = K.toNat - 1 := by rw [e]; split <;> omega
    have hr2 : Ev (fun k => impl_reaches.f k n (mx (wrap64 (K - 1)) (mn K 0))) (good (K.toNat - 1) n) := by
      have hd : decide ((1 ≤ n ∧ n ≤ 1000000000000) ∧ (0 ≤ mx (wrap64 (K - 1)) (mn K 0) ∧ mx (wrap64 (K - 1)) (mn K 0) ≤ 20)) = true := by
        rw [decide_eq_true_eq, e]; exact ⟨h.1, by split <;> omega⟩
      rw [hd, e2, Bool.true_and] at hr; exact hr
    cases hg : good (K.toNat - 1) n with
    | true =>
      rw [hg] at hr2
      rw [if_pos ⟨h, rfl⟩]
      exact Ev.bind hr2 (Ev.pos rfl (Ev.pure hin (Ev.pos rfl (Ev.bind (parities_ev h.1.1 h.1.2 h.2.1 h.2.2) (Ev.now _)))))
    | false =>
      rw [hg] at hr2
      rw [if_neg (by simp)]
      exact Ev.bind hr2 (Ev.neg (by simp) (Ev.now _))
  · rw [if_neg (fun hh => h hh.1)]
    refine Ev.bind hr ?_
    by_cases hc : (decide ((1 ≤ n ∧ n ≤ 1000000000000) ∧ (0 ≤ mx (wrap64 (K - 1)) (mn K 0) ∧ mx (wrap64 (K - 1)) (mn K 0) ≤ 20)) && good (mx (wrap64 (K - 1)) (mn K 0)).toNat n) = true
    · refine Ev.pos hc ?_
      rw [Bool.and_eq_true, decide_eq_true_eq] at hc
      have hin : impl_in.f K 0 20 = some false := by
        have hm := hc.1.2.1
        unfold impl_in.f
        by_cases hk : 0 ≤ K
        · rw [if_pos hk]; simp; omega
        · exfalso
          unfold mx mn at hm
          by_cases hlow : K = -9223372036854775808
          · subst hlow
            have : wrap64 (-9223372036854775808 - 1) = 9223372036854775807 := by decide +kernel
            have hm2 := hc.1.2.2
            unfold mx mn at hm2
            rw [this] at hm2
            simp at hm2
          · rw [w64 (by omega) (by omega)] at hm
            have : ¬ (0 : Int) < K := by omega
            rw [if_neg this] at hm
            split at hm <;> omega
      exact Ev.pure hin (Ev.neg (by simp) (Ev.now _))
    · exact Ev.neg hc (Ev.now _)

theorem bytesOf_str (l : List Int) (h : ∀ x ∈ l, 0 ≤ x ∧ x < 256) : bytesOf (strOfNums l) = l := by
  unfold bytesOf
  rw [strOfNums_data, List.map_map]
  have : ∀ x ∈ l, ((fun b : UInt8 => (b.toNat : Int)) ∘ fun n : Int => UInt8.ofNat n.toNat) x = x := by
    intro x hx
    have := h x hx
    simp only [Function.comp, UInt8.toNat_ofNat']
    omega
  rw [List.map_congr_left this]
  simp

theorem bits_mem : ∀ (r : Nat) (n : Int), ∀ x ∈ bits r n, x = 48 ∨ x = 49
  | 0, _ => by simp [bits]
  | r + 1, n => by
    intro x hx
    rcases List.mem_cons.mp hx with rfl | hx
    · rw [bitOf_eq]; omega
    · exact bits_mem r (sh n) x hx
theorem ones_l0 (s : ByteArray) (hs : s.size ≤ 1000000) : ∀ (m : Nat) (i : Int) (acc : Int), 0 ≤ i → i ≤ s.size → (s.size : Int) - i = m → 0 ≤ acc → acc ≤ i →
    Ev (fun k => spec_stOnes.l0 k s acc i) (acc + impl_OddCount.cnt ((bytesOf s).drop i.toNat))
  | 0, i, acc, h0, h1, h, _, _ => by
    refine Ev.step (fun k => by rw [spec_stOnes.l0]) ?_
    refine Ev.neg (by omega) (Ev.val ?_)
    rw [List.drop_of_length_le (by rw [bytesOf_length]; omega)]
    simp [impl_OddCount.cnt]
  | m + 1, i, acc, h0, h1, h, h2, h3 => by
    have hlt : i.toNat < (bytesOf s).length := by rw [bytesOf_length]; omega
    have e : (bytesOf s)[i.toNat] = bt s i := by rw [← rd_bytesOf]; simp [rd, hlt]
    have ed := List.drop_eq_getElem_cons hlt
    have ei : i.toNat + 1 = (i + 1).toNat := by omega
    rw [ed, e, ei]
    refine Ev.step (fun k => by rw [spec_stOnes.l0]) ?_
    refine Ev.pos (by omega) (Ev.pos h0 ?_)
    rw [w64 (x := i + 1) (by omega) (by omega)]
    by_cases hc : bt s i = 49
    · refine Ev.pos hc ?_
      rw [w64 (x := acc + 1) (by omega) (by omega)]
      have ih := ones_l0 s hs m (i + 1) (acc + 1) (by omega) (by omega) (by omega) (by omega) (by omega)
      have e2 : acc + impl_OddCount.cnt (bt s i :: (bytesOf s).drop (i + 1).toNat) = acc + 1 + impl_OddCount.cnt ((bytesOf s).drop (i + 1).toNat) := by
        rw [hc]; simp [impl_OddCount.cnt]; omega
      rw [e2]; exact ih
    · refine Ev.neg hc ?_
      have ih := ones_l0 s hs m (i + 1) acc (by omega) (by omega) (by omega) h2 (by omega)
      have e2 : impl_OddCount.cnt (bt s i :: (bytesOf s).drop (i + 1).toNat) = impl_OddCount.cnt ((bytesOf s).drop (i + 1).toNat) := by
        simp [impl_OddCount.cnt, hc]
      rw [e2]; exact ih
theorem ones_ev (s : ByteArray) (hs : s.size ≤ 1000000) : Ev (fun k => spec_stOnes.f k s) (impl_OddCount.cnt (bytesOf s)) := by
  have := ones_l0 s hs s.size 0 0 (by omega) (by omega) (by omega) (by omega) (by omega)
  unfold spec_stOnes.f
  simpa using this
theorem oc_ev (n K : Int) (hb0 : -9223372036854775808 ≤ K) (hb1 : K ≤ 9223372036854775807) : ∃ r, Ev (fun k => spec_OddCount.f k n K) r ∧ Ev (fun k => impl_OddCount.f k n K) r := by
  have hi := pwi_ev n K hb0 hb1
  unfold spec_OddCount.f impl_OddCount.f
  rw [stAsked_eq]
  by_cases h : (1 ≤ n ∧ n ≤ 1000000000000) ∧ (0 ≤ K ∧ K ≤ 20)
  · have hsw := stWord_ev h.1.1 h.1.2 h.2.1 h.2.2
    cases hg : good (K.toNat - 1) n with
    | true =>
      rw [hg] at hsw
      unfold pwVal at hi
      rw [if_pos ⟨h, hg⟩] at hi
      have hm := bits_mem K.toNat n
      have hb := bytesOf_str (bits K.toNat n) (fun x hx => by have := hm x hx; omega)
      have hsz : (strOfNums (bits K.toNat n)).size ≤ 1000000 := by rw [strOfNums_size, bits_length]; omega
      refine ⟨(impl_OddCount.cnt (bytesOf (strOfNums (bits K.toNat n))), true), ?_, ?_⟩
      · refine Ev.pure rfl (Ev.pos (decide_eq_true h) (Ev.bind hsw ?_))
        simp only [if_true]
        exact Ev.bind (ones_ev _ hsz) (Ev.now _)
      · refine Ev.bind hi (Ev.pos ⟨hsz, ?_⟩ (Ev.now _))
        simp only
        rw [hb, List.all_eq_true]
        intro x hx
        have := hm x hx
        exact decide_eq_true (by omega)
    | false =>
      rw [hg] at hsw
      unfold pwVal at hi
      rw [if_neg (by rw [hg]; simp)] at hi
      refine ⟨(0, false), ?_, Ev.bind hi (Ev.pos (by decide) (Ev.val (by decide)))⟩
      refine Ev.pure rfl (Ev.pos (decide_eq_true h) (Ev.bind hsw ?_))
      have ho := ones_ev (⟨#[]⟩ : ByteArray) (by decide)
      simp only [Bool.false_eq_true, if_false]
      exact Ev.bind ho (Ev.val (by decide))
  · unfold pwVal at hi
    rw [if_neg (fun hh => h hh.1)] at hi
    exact ⟨(0, false), Ev.pure rfl (Ev.neg (by simp [h]) (Ev.now _)), Ev.bind hi (Ev.pos (by decide) (Ev.val (by decide)))⟩

theorem FnExactOddCount : laws_FnExactOddCount.Pure := by
  intro a0 a1 hw hw1
  apply Ev.rounds
  have hb := wf_i64 hw1
  obtain ⟨r, hs, hi⟩ := oc_ev a0 a1 hb.1 hb.2
  refine Ev.bind hs (Ev.bind hi ?_)
  simp; exact Ev.now _

end Go.Proofs.Ytmdpjggjhkminaa.Pure
