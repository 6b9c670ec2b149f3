-- Written by a program of this session (hook.py): functions, contracts and walks in the printer's form; contracts of this session's own where the printer takes none
import Derived.Test.YtimimjmabnmeoaaPFnExactLeastWithProductx0
import Derived.Test.YtimimjmabnmeoaaPFnExactLeastWithProductx2
namespace Go.Proofs.Ytimimjmabnmeoaa.PFnExactLeastWithProduct
open Go.RowKit Go.Proofs.YtimimjmabnmeoaaW.PrintWords Go.Proofs.YtimimjmabnmeoaaW.PrintLast Go.Proofs.YtimimjmabnmeoaaW.PrintMore
attribute [local go_sem] max2_int min2_int max_two min_two max_three min_three max_four min_four   -- for this text's walks alone
set_option linter.unusedVariables false
set_option linter.unusedSimpArgs false

/-! ### impl_LeastWithProduct: function 13 -/
/-! ### a map of numbers that holds what a function says of its keys -/
def Mem.Ok (V : Int → Int) (D : DataW Unit) : Prop := Go.Maps.IsMap D ∧ ∀ m : Int, Go.Maps.has D (.int .i64 m) = true → D.atKey (.int .i64 m) (.lit (.int .i64 0)) = .lit (.int .i64 (V m))
def Mem.un (D : DataW Unit) (N : Nat) : Nat := ((List.range N).filter fun m : Nat => !(Go.Maps.has D (.int .i64 ((m : Int) + 1)))).length
def Mem.St (V : Int → Int) (N g : Nat) (w : World) (S : DataW Unit → Prop) : Prop := ∃ c D, w.ownsMap Try.prog 3 (plainElem (H := Unit) Try.prog 3) g c D ∧ Mem.Ok V D ∧ c + Mem.un D N ≤ N ∧ S D
theorem Mem.filter_one (p q : Nat → Bool) (a : Nat) (hp : p a = true) (hq : q a = false) (he : ∀ m, m ≠ a → q m = p m) : ∀ N, ((List.range N).filter q).length + (if a < N then 1 else 0) = ((List.range N).filter p).length
  | 0 => by simp
  | N + 1 => by
    have ih := Mem.filter_one p q a hp hq he N
    rw [List.range_succ, List.filter_append, List.filter_append, List.length_append, List.length_append]
    by_cases h : N = a
    · subst h
      rw [if_neg (Nat.lt_irrefl _)] at ih
      simp [hp, hq]; omega
    · have e := he N h
      by_cases h2 : a < N
      · rw [if_pos h2] at ih
        rw [if_pos (by omega)]
        cases hpn : p N <;> simp [e, hpn] <;> omega
      · rw [if_neg h2] at ih
        rw [if_neg (by omega)]
        cases hpn : p N <;> simp [e, hpn] <;> omega
theorem Mem.lit_ne {a b : Int} (h : a ≠ b) : (Lit.int .i64 a) ≠ .int .i64 b := fun e => h (by cases e; rfl)
theorem Mem.un_put {D : DataW Unit} {N : Nat} {n : Int} (v : DataW Unit) (hm : Go.Maps.IsMap D) (h : Go.Maps.has D (.int .i64 n) = false) (h1 : 1 ≤ n) (h2 : n ≤ N) : Mem.un (D.put (.int .i64 n) v) N + 1 = Mem.un D N := by
  have := Mem.filter_one (fun m : Nat => !(Go.Maps.has D (.int .i64 ((m : Int) + 1)))) (fun m : Nat => !(Go.Maps.has (D.put (.int .i64 n) v) (.int .i64 ((m : Int) + 1)))) (n.toNat - 1) (by
      have e : ((n.toNat - 1 : Nat) : Int) + 1 = n := by omega
      simp only [e, h, Bool.not_false]) (by
      have e : ((n.toNat - 1 : Nat) : Int) + 1 = n := by omega
      simp only [e]
      rw [Go.Maps.has_put_same hm (k := .int .i64 n) (by trivial)]
      rfl) (fun m hne => by
      rw [Go.Maps.has_put_other (Mem.lit_ne (by omega))]) N
  rw [if_pos (by omega)] at this
  unfold Mem.un
  exact this
theorem Mem.ok_put {V : Int → Int} {D : DataW Unit} (h : Mem.Ok V D) (n : Int) : Mem.Ok V (D.put (.int .i64 n) (.lit (.int .i64 (V n)))) := by
  refine ⟨?_, fun m hm => ?_⟩
  · obtain ⟨es, rfl⟩ := h.1
    exact ⟨_, rfl⟩
  · by_cases e : m = n
    · subst e
      rw [Go.Maps.atKey_put_same h.1 (by trivial)]
    · rw [Go.Maps.atKey_put_other (Mem.lit_ne e)]
      rw [Go.Maps.has_put_other (Mem.lit_ne e)] at hm
      exact h.2 m hm
theorem Mem.un_empty (N : Nat) : Mem.un (.map []) N = N := by
  unfold Mem.un
  have : (List.range N).filter (fun m : Nat => !(Go.Maps.has (.map [] : DataW Unit) (.int .i64 ((m : Int) + 1)))) = List.range N := List.filter_eq_self.2 (fun a _ => rfl)
  rw [this, List.length_range]
theorem Mem.made (V : Int → Int) (N : Nat) (w : World) : Mem.St V N w.heap.size (w.alloc (.map #[] 0)) (fun D => D = .map []) :=
  ⟨0, .map [], World.ownsMap_made w _ _ _, ⟨⟨[], rfl⟩, fun m hm => by simp [Go.Maps.has] at hm⟩, by rw [Mem.un_empty]; omega, rfl⟩
theorem Mem.zero3 (w : World) : (zeroValue 3).run Try.prog w = .ok (.int .i64 0) w := by kernel_rfl
theorem Mem.w64 {x : Int} (h0 : -9223372036854775808 ≤ x) (h1 : x ≤ 9223372036854775807) : wrap64 x = x := by unfold wrap64; omega
theorem Mem.wf {x : Int} (h0 : -9223372036854775808 ≤ x) (h1 : x ≤ 9223372036854775807) : (Lit.int .i64 x).wf = true := by
  simp only [Lit.wf, Bool.and_eq_true, decide_eq_true_eq, show IntKind.i64.min = -9223372036854775808 from rfl, show IntKind.i64.max = 9223372036854775807 from rfl]
  omega
theorem Mem.st_mono {V : Int → Int} {N g : Nat} {w : World} {S S' : DataW Unit → Prop} (h : Mem.St V N g w S) (hs : ∀ D, S D → S' D) : Mem.St V N g w S' := by
  obtain ⟨c, D, h1, h2, h3, h4⟩ := h
  exact ⟨c, D, h1, h2, h3, hs D h4⟩
theorem Mem.st_put {V : Int → Int} {N g : Nat} {w1 : World} {c : Nat} {D : DataW Unit} {n : Int} {S : DataW Unit → Prop} (hm : w1.ownsMap Try.prog 3 (plainElem (H := Unit) Try.prog 3) g (c + 1) (D.put (.int .i64 n) (.lit (.int .i64 (V n))))) (ho : Mem.Ok V D) (hu : c + Mem.un D N ≤ N) (hh : Go.Maps.has D (.int .i64 n) = false) (h1 : 1 ≤ n) (h2 : n ≤ N) (hS : ∀ D', (∀ j, j ≠ n → Go.Maps.has D' (.int .i64 j) = Go.Maps.has D (.int .i64 j)) → S D') : Mem.St V N g w1 S := by
  refine ⟨c + 1, _, hm, Mem.ok_put ho n, ?_, hS _ (fun j hj => Go.Maps.has_put_other (Mem.lit_ne hj) _)⟩
  have := Mem.un_put (.lit (.int .i64 (V n))) ho.1 hh h1 h2
  omega

def impl_fewest.pk (k o : Int) : Int := if k ≥ 0 ∧ (o < 0 ∨ wrap64 (k + 1) < o) then wrap64 (k + 1) else o
def impl_fewest.cwL (g : Int → Int) (n : Int) : Nat → Int
  | 0 => -1
  | m + 1 => if n % ((m : Int) + 2) = 0 then impl_fewest.pk (g (n / ((m : Int) + 2))) (impl_fewest.cwL g n m) else impl_fewest.cwL g n m
def impl_fewest.cw (b : Int) : Nat → Int → Int
  | 0, _ => 0
  | f + 1, n => if n = 1 then 0 else impl_fewest.cwL (impl_fewest.cw b f) n (b - 2).toNat
def impl_fewest.V (b n : Int) : Int := impl_fewest.cw b n.toNat n
theorem impl_fewest.div_lt {n : Int} (m : Nat) (h1 : 1 ≤ n) (h : n % ((m : Int) + 2) = 0) : 1 ≤ n / ((m : Int) + 2) ∧ n / ((m : Int) + 2) < n := by
  have e := Int.mul_ediv_add_emod n ((m : Int) + 2)
  rw [h, Int.add_zero] at e
  generalize n / ((m : Int) + 2) = q at e ⊢
  have hq : 1 ≤ q := by
    rcases Int.lt_or_le q 1 with h2 | h2
    · have : ((m : Int) + 2) * q ≤ ((m : Int) + 2) * 0 := Int.mul_le_mul_of_nonneg_left (by omega) (by omega)
      omega
    · exact h2
  refine ⟨hq, ?_⟩
  have h3 : 2 * q ≤ ((m : Int) + 2) * q := Int.mul_le_mul_of_nonneg_right (by omega) (by omega)
  omega
theorem impl_fewest.cwL_congr {g g' : Int → Int} {n : Int} (h1 : 1 ≤ n) (h : ∀ q, 1 ≤ q → q < n → g q = g' q) : ∀ m, impl_fewest.cwL g n m = impl_fewest.cwL g' n m
  | 0 => rfl
  | m + 1 => by
    unfold impl_fewest.cwL
    rw [impl_fewest.cwL_congr h1 h m]
    by_cases hd : n % ((m : Int) + 2) = 0
    · obtain ⟨h2, h3⟩ := impl_fewest.div_lt m h1 hd
      rw [if_pos hd, if_pos hd, h _ h2 h3]
    · rw [if_neg hd, if_neg hd]
theorem impl_fewest.cw_fuel (b : Int) : ∀ (f f' : Nat) (n : Int), 1 ≤ n → n.toNat ≤ f → n.toNat ≤ f' → impl_fewest.cw b f n = impl_fewest.cw b f' n
  | 0, _, n, h1, h2, _ => by omega
  | f + 1, 0, n, h1, _, h3 => by omega
  | f + 1, f' + 1, n, h1, h2, h3 => by
    unfold impl_fewest.cw
    by_cases e : n = 1
    · rw [if_pos e, if_pos e]
    · rw [if_neg e, if_neg e]
      exact impl_fewest.cwL_congr h1 (fun q hq hlt => impl_fewest.cw_fuel b f f' q hq (by omega) (by omega)) _
theorem impl_fewest.V_one (b : Int) : impl_fewest.V b 1 = 0 := rfl
theorem impl_fewest.V_eq (b : Int) {n : Int} (h : 1 < n) : impl_fewest.V b n = impl_fewest.cwL (impl_fewest.V b) n (b - 2).toNat := by
  unfold impl_fewest.V
  obtain ⟨f, hf⟩ : ∃ f, n.toNat = f + 1 := ⟨n.toNat - 1, by omega⟩
  rw [hf]
  show (if n = 1 then 0 else impl_fewest.cwL (impl_fewest.cw b f) n (b - 2).toNat) = _
  rw [if_neg (by omega)]
  exact impl_fewest.cwL_congr (by omega) (fun q hq hlt => impl_fewest.cw_fuel b f q.toNat q hq (by omega) (Nat.le_refl _)) _
theorem impl_fewest.rng (g : Int → Int) (n : Int) : ∀ m, -9223372036854775808 ≤ impl_fewest.cwL g n m ∧ impl_fewest.cwL g n m ≤ 9223372036854775807
  | 0 => by unfold impl_fewest.cwL; omega
  | m + 1 => by
    have ih := impl_fewest.rng g n m
    unfold impl_fewest.cwL
    split
    · unfold impl_fewest.pk
      split
      · unfold wrap64; omega
      · exact ih
    · exact ih
theorem impl_fewest.wwf (g : Int → Int) (n : Int) (m : Nat) : (Lit.int .i64 (impl_fewest.cwL g n m)).wf = true := Mem.wf (impl_fewest.rng g n m).1 (impl_fewest.rng g n m).2
set_option maxHeartbeats 8000000 in
set_option maxRecDepth 100000 in
theorem impl_fewest.rec (b : Int) (hb : 2 ≤ b ∧ b ≤ 16) (N : Nat) (hN : N ≤ 1000000000000) (g : Nat) (w0 : World) (hg : w0.heap.size ≤ g) : ∀ (f : Nat) (n : Int) (h : Int → Bool) (w : World), 1 ≤ n → n.toNat ≤ f → n ≤ N → Mem.St (impl_fewest.V b) N g w (fun D => ∀ j, n < j → Go.Maps.has D (.int .i64 j) = h j) → Below w0.heap.size w0 w →
    Calls Try.prog 41 #[.int .i64 n, .int .i64 b, .map (some g)] w fun e w' => e = .returned (.int .i64 (impl_fewest.V b n)) ∧ Mem.St (impl_fewest.V b) N g w' (fun D => ∀ j, n < j → Go.Maps.has D (.int .i64 j) = h j) ∧ Below w0.heap.size w0 w' ∧ Kept w w' (fun k_ => k_ = g)
  | 0, n, h, w, h1, h2, _, _, _ => by omega
  | f + 1, n, h, w, h1, h2, h3, hst, hB => by
    have HB := Aside0.mk hB
    have HG := Aside0.mk hg
    have HN := Aside0.mk hN
    have H3 := Aside0.mk h3
    have IH := Aside0.mk (fun (m : Int) (h : Int → Bool) (W : World) (a1 : 1 ≤ m) (a2 : m < n) (a3 : Mem.St (impl_fewest.V b) N g W (fun D => ∀ j, m < j → Go.Maps.has D (.int .i64 j) = h j)) (a4 : Below w0.heap.size w0 W) => impl_fewest.rec b hb N hN g w0 hg f m h W a1 (by omega) (by omega) a3 a4)
    have hle : n ≤ 1000000000000 := by omega
    clear hB hg hN h3 h2
    by_cases e1 : n = 1
    · subst e1
      have HS := Aside0.mk hst
      clear hst IH
      go_enter Try.func41, Try.ntmps41
      go_wp2
      go_ret
      exact ⟨rfl, HS.out, HB.out, Kept.refl _ _⟩
    · have e1b : (n == 1) = false := beq_eq_false_iff_ne.mpr e1
      have hn1 : 1 < n := by omega
      obtain ⟨c, D, hm, hok, hun, hs⟩ := hst
      have HM := Aside0.mk hm
      have HOK := Aside0.mk hok
      have HU := Aside0.mk hun
      have HSD := Aside0.mk hs
      have hwf : (Lit.int .i64 n).wf = true := Mem.wf (by omega) (by omega)
      have HKEY := Aside0.mk (show keyOf Try.prog 3 (.int .i64 n) = some (.int .i64 n) from Go.Maps.keyOf_int_mk Try.underlying3 hwf)
      have HEQ := Aside0.mk (impl_fewest.V_eq b hn1)
      clear hm hok hun hwf e1 hs
      cases hh : Go.Maps.has D (.int .i64 n) with
      | true =>
        have HF := Aside0.mk hh
        have HI := Aside0.mk (HOK.out.2 n hh)
        clear hh hb IH
        go_enter Try.func41, Try.ntmps41
        go_wp2_with (first | (at_lookup; refine wpList_lookup_own_ok_int _ rfl _ _ 44 rfl 3 3 .i64 (Go.Maps.int_keyed Try.underlying3) Try.underlying44 Try.underlying3 (Mem.zero3 _) g c _ rfl HM.out _ _ rfl HKEY.out ?_; intro c2 hat hwc; rw [HF.out]; have HC := Aside0.mk hat; clear hat hwc))
        go_ret
        have hci : c2 = impl_fewest.V b n := by
          have h := HC.out.symm.trans HI.out
          injection h with h
          injection h
        rw [hci]
        exact ⟨rfl, ⟨c, D, HM.out, HOK.out, HU.out, HSD.out⟩, HB.out, Kept.refl _ _⟩
      | false =>
        have HF := Aside0.mk hh
        clear hh
        go_enter Try.func41, Try.ntmps41
        go_wp2_with (first | (at_lookup; refine wpList_lookup_own_ok_int _ rfl _ _ 44 rfl 3 3 .i64 (Go.Maps.int_keyed Try.underlying3) Try.underlying44 Try.underlying3 (Mem.zero3 _) g c _ rfl HM.out _ _ rfl HKEY.out ?_; intro c2 hat hwc; rw [HF.out]; clear hat hwc))
        go_loopw [9, 10] (fun v9 v10 wr => ∃ k : Nat, (k : Int) + 2 ≤ b ∧ v10 = .int .i64 ((k : Int) + 2) ∧ v9 = .int .i64 (impl_fewest.cwL (impl_fewest.V b) n k) ∧ Aside0 (Mem.St (impl_fewest.V b) N g wr (fun D' => ∀ j, n ≤ j → Go.Maps.has D' (.int .i64 j) = Go.Maps.has D (.int .i64 j))) ∧ Aside0 (Below w0.heap.size w0 wr) ∧ Aside0 (Kept w wr (fun k_ => k_ = g))) (fun _ v10 _ => b.toNat - (intOf v10).toNat)
        case atStart => exact ⟨0, by omega, rfl, rfl, ⟨c, D, HM.out, HOK.out, HU.out, fun _ _ => rfl⟩, HB, ⟨Kept.refl _ _⟩⟩
        case round =>
          obtain ⟨k, hk, rfl, rfl, HS, HBr, HKr⟩ := hrel
          by_cases hlt : (k : Int) + 2 < b
          · have hltb : decide ((k : Int) + 2 < b) = true := decide_eq_true hlt
            by_cases hd : n % ((k : Int) + 2) = 0
            · have hdb : (n % ((k : Int) + 2) == 0) = true := beq_iff_eq.mpr hd
              have hdn : (n % ((k : Int) + 2) != 0) = false := bne_eq_false_iff_eq.mpr hd
              obtain ⟨q1, q2⟩ := impl_fewest.div_lt k h1 hd
              obtain ⟨q, hq⟩ : ∃ q, q = n / ((k : Int) + 2) := ⟨_, rfl⟩
              obtain ⟨o, ho⟩ : ∃ o, o = impl_fewest.cwL (impl_fewest.V b) n k := ⟨_, rfl⟩
              obtain ⟨z, hz⟩ : ∃ z, z = impl_fewest.V b q := ⟨_, rfl⟩
              have HL : Aside0 (impl_fewest.cwL (impl_fewest.V b) n (k + 1) = impl_fewest.pk z o) := ⟨by show (if _ then _ else _) = _; rw [if_pos hd, ← hq, ← hz, ← ho]⟩
              rw [← hq] at q1 q2
              obtain ⟨c3, D3, hm3, hok3, hun3, hs3⟩ := HS.out
              have HS3 := Aside0.mk hs3
              have HP : Aside0 (Mem.St (impl_fewest.V b) N g wr (fun D' => ∀ j, q < j → Go.Maps.has D' (.int .i64 j) = Go.Maps.has D3 (.int .i64 j))) := ⟨⟨c3, D3, hm3, hok3, hun3, fun _ _ => rfl⟩⟩
              have hc := IH.out q _ _ q1 q2 HP.out HBr.out
              rw [← hz] at hc
              have HC := Aside0.mk hc
              have hqe : n / ((k : Int) + 2) = q := hq.symm
              have HQ1 := Aside0.mk q2
              rw [← ho]
              clear hq hd hm3 hok3 hun3 hs3 hc hz ho q1 q2
              by_cases z0 : 0 ≤ z
              · have z0b : decide (0 ≤ z) = true := decide_eq_true z0
                by_cases o0 : o < 0
                · have o0b : decide (o < 0) = true := decide_eq_true o0
                  have HV : Aside0 (impl_fewest.pk z o = wrap64 (z + 1)) := ⟨by unfold impl_fewest.pk; rw [if_pos ⟨z0, .inl o0⟩]⟩
                  clear z0 o0
                  go_wp2_with (first | (go_at_call 41; (with_reducible refine HC.out.mono ?_); rintro e w2 ⟨rfl, hs2, hb2, hk2⟩; have HS2 := Aside0.mk (Mem.st_mono hs2 (S' := fun D' => ∀ j, n ≤ j → Go.Maps.has D' (.int .i64 j) = Go.Maps.has D (.int .i64 j)) (fun D' hD j hj => (hD j (by have := HQ1.out; omega)).trans (HS3.out j hj))); have HB3 := Aside0.mk hb2; have HK3 := Aside0.mk (HKr.out.then_ hk2 (fun k hk => .inl hk)); clear hs2 hb2 hk2))
                  go_roundw
                  case rel => exact ⟨k + 1, by omega, by go_num, by rw [HL.out, HV.out], HS2, HB3, HK3⟩
                  case measure => simp [intOf]; omega
                · have o0b : decide (o < 0) = false := decide_eq_false o0
                  by_cases l0 : wrap64 (z + 1) < o
                  · have l0b : decide (wrap64 (z + 1) < o) = true := decide_eq_true l0
                    have HV : Aside0 (impl_fewest.pk z o = wrap64 (z + 1)) := ⟨by unfold impl_fewest.pk; rw [if_pos ⟨z0, .inr l0⟩]⟩
                    clear z0 o0 l0
                    go_wp2_with (first | (go_at_call 41; (with_reducible refine HC.out.mono ?_); rintro e w2 ⟨rfl, hs2, hb2, hk2⟩; have HS2 := Aside0.mk (Mem.st_mono hs2 (S' := fun D' => ∀ j, n ≤ j → Go.Maps.has D' (.int .i64 j) = Go.Maps.has D (.int .i64 j)) (fun D' hD j hj => (hD j (by have := HQ1.out; omega)).trans (HS3.out j hj))); have HB3 := Aside0.mk hb2; have HK3 := Aside0.mk (HKr.out.then_ hk2 (fun k hk => .inl hk)); clear hs2 hb2 hk2))
                    go_roundw
                    case rel => exact ⟨k + 1, by omega, by go_num, by rw [HL.out, HV.out], HS2, HB3, HK3⟩
                    case measure => simp [intOf]; omega
                  · have l0b : decide (wrap64 (z + 1) < o) = false := decide_eq_false l0
                    have HV : Aside0 (impl_fewest.pk z o = o) := ⟨by unfold impl_fewest.pk; rw [if_neg (fun h => h.2.elim o0 l0)]⟩
                    clear z0 o0 l0
                    go_wp2_with (first | (go_at_call 41; (with_reducible refine HC.out.mono ?_); rintro e w2 ⟨rfl, hs2, hb2, hk2⟩; have HS2 := Aside0.mk (Mem.st_mono hs2 (S' := fun D' => ∀ j, n ≤ j → Go.Maps.has D' (.int .i64 j) = Go.Maps.has D (.int .i64 j)) (fun D' hD j hj => (hD j (by have := HQ1.out; omega)).trans (HS3.out j hj))); have HB3 := Aside0.mk hb2; have HK3 := Aside0.mk (HKr.out.then_ hk2 (fun k hk => .inl hk)); clear hs2 hb2 hk2))
                    go_roundw
                    case rel => exact ⟨k + 1, by omega, by go_num, by rw [HL.out, HV.out], HS2, HB3, HK3⟩
                    case measure => simp [intOf]; omega
              · have z0b : decide (0 ≤ z) = false := decide_eq_false z0
                have HV : Aside0 (impl_fewest.pk z o = o) := ⟨by unfold impl_fewest.pk; rw [if_neg (fun h => z0 h.1)]⟩
                clear z0
                go_wp2_with (first | (go_at_call 41; (with_reducible refine HC.out.mono ?_); rintro e w2 ⟨rfl, hs2, hb2, hk2⟩; have HS2 := Aside0.mk (Mem.st_mono hs2 (S' := fun D' => ∀ j, n ≤ j → Go.Maps.has D' (.int .i64 j) = Go.Maps.has D (.int .i64 j)) (fun D' hD j hj => (hD j (by have := HQ1.out; omega)).trans (HS3.out j hj))); have HB3 := Aside0.mk hb2; have HK3 := Aside0.mk (HKr.out.then_ hk2 (fun k hk => .inl hk)); clear hs2 hb2 hk2))
                go_roundw
                case rel => exact ⟨k + 1, by omega, by go_num, by rw [HL.out, HV.out], HS2, HB3, HK3⟩
                case measure => simp [intOf]; omega
            · have hdb : (n % ((k : Int) + 2) == 0) = false := beq_eq_false_iff_ne.mpr hd
              have hdn : (n % ((k : Int) + 2) != 0) = true := bne_iff_ne.mpr hd
              have HL : Aside0 (impl_fewest.cwL (impl_fewest.V b) n (k + 1) = impl_fewest.cwL (impl_fewest.V b) n k) := ⟨by show (if _ then _ else _) = _; rw [if_neg hd]⟩
              clear hd
              go_wp2
              go_roundw
              case rel => exact ⟨k + 1, by omega, by go_num, by rw [HL.out], HS, HBr, HKr⟩
              case measure => simp [intOf]; omega
          · have hltb : decide ((k : Int) + 2 < b) = false := decide_eq_false hlt
            have hkb : (b - 2).toNat = k := by omega
            have HV : Aside0 (impl_fewest.V b n = impl_fewest.cwL (impl_fewest.V b) n k) := ⟨by rw [HEQ.out, hkb]⟩
            have HWF := Aside0.mk (impl_fewest.wwf (impl_fewest.V b) n k)
            obtain ⟨c3, D3, hm3, hok3, hun3, hs3⟩ := HS.out
            have HM3 := Aside0.mk hm3
            have HOK3 := Aside0.mk hok3
            have HU3 := Aside0.mk hun3
            have HS3 := Aside0.mk hs3
            clear hm3 hok3 hun3 hs3 hkb
            go_wp2_with (first | (at_mapUpdate; refine wpList_mapUpdate_own _ rfl _ _ _ 44 rfl 3 3 (Go.Maps.int_keyed Try.underlying3) Try.underlying44 _ g c3 _ rfl HM3.out (by have := HU3.out; have := HN.out; unfold maxLen; omega) _ _ _ rfl rfl HKEY.out _ [] (plainElem_int Try.underlying3 HWF.out) ?_; intro w1 hown1 hgrow1; have HM4 := Aside0.mk hown1; have HB4 := Aside0.mk (HBr.out.grown hgrow1 HBr.out.size (fun j hj => by cases hj; exact HG.out)); have HK4 := Aside0.mk (Kept.of_grown (S := fun k_ => k_ = g) hgrow1 HKr.out (fun k e_ => .inl (by cases e_; rfl))); clear hown1 hgrow1))
            go_ret
            have h4 := HM4.out
            rw [← HV.out] at h4 ⊢
            exact ⟨rfl, Mem.st_put h4 HOK3.out HU3.out ((HS3.out n (Int.le_refl _)).trans HF.out) h1 H3.out (fun D' hD j hj => (hD j (by omega)).trans ((HS3.out j (by omega)).trans (HSD.out j hj))), HB4.out, HK4.out⟩

mutual
def impl_LeastWithProduct.l0 : Nat → Int → Int → Int → List Int → Option (List Int)
  | 0, _, _, _, _ => none
  | k + 1, b, p, left, ds => if left > 0 then (if 1 ≤ p ∧ p ≤ 1000000000000 then impl_LeastWithProduct.l1 k b p left ds 2 else none) else some ds
def impl_LeastWithProduct.l1 : Nat → Int → Int → Int → List Int → Int → Option (List Int)
  | 0, _, _, _, _, _ => none
  | k + 1, b, p, left, ds, d => if 2 ≤ d ∧ d ≤ 1000000000000 then (if p % d = 0 ∧ impl_fewest.V b (p / d) = wrap64 (left - 1) then (if ds.length < 17592186044416 then impl_LeastWithProduct.l0 k b (p / d) (wrap64 (left - 1)) (ds ++ [d]) else none) else impl_LeastWithProduct.l1 k b p left ds (d + 1)) else none
end
theorem impl_LeastWithProduct.mono_l : ∀ k, (∀ a b c d, LeO (impl_LeastWithProduct.l0 k a b c d) (impl_LeastWithProduct.l0 (k + 1) a b c d)) ∧ (∀ a b c d e, LeO (impl_LeastWithProduct.l1 k a b c d e) (impl_LeastWithProduct.l1 (k + 1) a b c d e))
  | 0 => ⟨fun _ _ _ _ r h => by simp [impl_LeastWithProduct.l0] at h, fun _ _ _ _ _ r h => by simp [impl_LeastWithProduct.l1] at h⟩
  | k + 1 => by
    obtain ⟨i0, i1⟩ := impl_LeastWithProduct.mono_l k
    refine ⟨fun a b c d => ?_, fun a b c d e => ?_⟩
    · unfold impl_LeastWithProduct.l0
      exact LeO.ite (LeO.ite (i1 _ _ _ _ _) (LeO.refl _)) (LeO.refl _)
    · unfold impl_LeastWithProduct.l1
      exact LeO.ite (LeO.ite (LeO.ite (i0 _ _ _ _) (LeO.refl _)) (i1 _ _ _ _ _)) (LeO.refl _)
def impl_LeastWithProduct.f (k : Nat) (a0 a1 : Int) : Option (Int × Bool) := (impl_in.f a0 1 1000000000000).bind fun b1 => (if b1 = true then (impl_isBase.f a1).bind fun b2 => (if b2 = true then (if a0 = 1 then some (1, true) else (impl_isSmooth.f k a0 a1).bind fun s => (if s = true then (impl_LeastWithProduct.l0 k a1 a0 (impl_fewest.V a1 a0) []).bind fun ds => ((impl_value.f k ds a1).bind fun v => impl_told.f v) else some (0, false))) else some (0, false)) else some (0, false))
theorem impl_LeastWithProduct.mono : ∀ a0 a1 k, LeO (impl_LeastWithProduct.f k a0 a1) (impl_LeastWithProduct.f (k + 1) a0 a1) := fun _ _ k => LeO.bind (LeO.refl _) (fun _ => LeO.ite (LeO.bind (LeO.refl _) (fun _ => LeO.ite (LeO.ite (LeO.refl _) (LeO.bind (impl_isSmooth.mono _ _ k) (fun _ => LeO.ite (LeO.bind ((impl_LeastWithProduct.mono_l k).1 _ _ _ _) (fun _ => LeO.bind (impl_value.mono _ _ k) (fun _ => LeO.refl _))) (LeO.refl _)))) (LeO.refl _))) (LeO.refl _))
theorem impl_LeastWithProduct.in_ (a b c : Int) (h : impl_in.f a b c = some true) : b ≤ a ∧ a ≤ c := by
  unfold impl_in.f at h
  by_cases h1 : b ≤ a
  · rw [if_pos h1] at h
    exact ⟨h1, of_decide_eq_true (Option.some.inj h)⟩
  · rw [if_neg h1] at h
    cases h
theorem impl_LeastWithProduct.base_ (a : Int) (h : impl_isBase.f a = some true) : 2 ≤ a ∧ a ≤ 16 := by
  unfold impl_isBase.f at h
  obtain ⟨t, ht, h⟩ := Option.bind_eq_some_iff.mp h
  obtain rfl := Option.some.inj h
  exact impl_LeastWithProduct.in_ _ _ _ ht
/-- fewest, in a world where the map says what it says -/
theorem impl_LeastWithProduct.few (b : Int) (hb : 2 ≤ b ∧ b ≤ 16) (g : Nat) (w0 w : World) (hg : w0.heap.size ≤ g) (n : Int) (h1 : 1 ≤ n) (h2 : n ≤ 1000000000000) (hs : Mem.St (impl_fewest.V b) 1000000000000 g w (fun _ => True)) (hB : Below w0.heap.size w0 w) :
    Calls Try.prog 41 #[.int .i64 n, .int .i64 b, .map (some g)] w fun e w' => e = .returned (.int .i64 (impl_fewest.V b n)) ∧ Mem.St (impl_fewest.V b) 1000000000000 g w' (fun _ => True) ∧ Below w0.heap.size w0 w' ∧ Kept w w' (fun k_ => k_ = g) := by
  obtain ⟨c, D, h3, h4, h5, _⟩ := hs
  refine (impl_fewest.rec b hb 1000000000000 (Nat.le_refl _) g w0 hg n.toNat n (fun j => Go.Maps.has D (.int .i64 j)) w h1 (Nat.le_refl _) h2 ⟨c, D, h3, h4, h5, fun _ _ => rfl⟩ hB).mono ?_
  rintro e w' ⟨rfl, g1, g2, g3⟩
  exact ⟨rfl, Mem.st_mono g1 (fun _ _ => trivial), g2, g3⟩
theorem impl_LeastWithProduct.st_below {V : Int → Int} {N g : Nat} {w w' : World} {S : DataW Unit → Prop} (h : Mem.St V N g w S) (hb : w.heap[g]? = w'.heap[g]?) : Mem.St V N g w' S := by
  obtain ⟨c, D, ⟨es, cl, h1, h2⟩, h3⟩ := h
  exact ⟨c, D, ⟨es, cl, hb ▸ h1, h2⟩, h3⟩
theorem Mem.st_lt {V : Int → Int} {N g : Nat} {w : World} {S : DataW Unit → Prop} (h : Mem.St V N g w S) : g < w.heap.size := by
  obtain ⟨c, D, ⟨es, cl, h1, h2⟩, h3⟩ := h
  exact (Array.getElem?_eq_some_iff.1 h1).1
theorem Mem.st_drew {V : Int → Int} {N g : Nat} {w : World} {S : DataW Unit → Prop} (h : Mem.St V N g w S) : Mem.St V N g w.drew S := h
set_option maxHeartbeats 8000000 in
set_option maxRecDepth 100000 in
theorem impl_LeastWithProduct.calls (k : Nat) (a0 : Int) (a1 : Int) (r1 : Int) (r2 : Bool) (w : World) (h : impl_LeastWithProduct.f k a0 a1 = some (r1, r2)) :
    Calls Try.prog 13 #[.int .i64 a0, .int .i64 a1] w fun e w' => e = .returned (.tuple #[.int .i64 r1, .bool r2]) ∧ Below w.heap.size w w' := by
  have HB := Aside0.mk (Below.refl w.heap.size w)
  have hmm := @run_makeMap Try.prog
  unfold impl_LeastWithProduct.f at h
  obtain ⟨b1, hb1, h⟩ := Option.bind_eq_some_iff.mp h
  have HI := Aside0.mk hb1
  clear hb1
  cases b1 with
  | false =>
    rw [if_neg (by decide)] at h
    simp only [Option.some.injEq, Prod.mk.injEq] at h
    obtain ⟨rfl, rfl⟩ := h
    go_enter Try.func13, Try.ntmps13
    go_wp2_with (first | (go_at_call 34; (with_reducible refine (impl_in.calls a0 1 1000000000000 false _ HI.out).mono ?_); rintro e w2 ⟨rfl, hd⟩; have HB2 := Aside0.mk (below_step HB.out hd.below); clear hd))
    go_ret2
    exact ⟨rfl, HB2.out⟩
  | true =>
    rw [if_pos rfl] at h
    obtain ⟨b2, hb2, h⟩ := Option.bind_eq_some_iff.mp h
    have HS := Aside0.mk hb2
    clear hb2
    cases b2 with
    | false =>
      rw [if_neg (by decide)] at h
      simp only [Option.some.injEq, Prod.mk.injEq] at h
      obtain ⟨rfl, rfl⟩ := h
      go_enter Try.func13, Try.ntmps13
      go_wp2_with (first | (go_at_call 34; (with_reducible refine (impl_in.calls a0 1 1000000000000 true _ HI.out).mono ?_); rintro e w2 ⟨rfl, hd⟩; have HB2 := Aside0.mk (below_step HB.out hd.below); clear hd) | (go_at_call 35; (with_reducible refine (impl_isBase.calls a1 false _ HS.out).mono ?_); rintro e w3 ⟨rfl, hd⟩; have HB3 := Aside0.mk (below_step HB2.out (by first | exact hd.below | exact hd)); clear hd))
      go_ret2
      exact ⟨rfl, HB3.out⟩
    | true =>
      rw [if_pos rfl] at h
      by_cases e1 : a0 = 1
      · rw [if_pos e1] at h
        have e1b : (a0 == 1) = true := beq_iff_eq.mpr e1
        clear e1
        simp only [Option.some.injEq, Prod.mk.injEq] at h
        obtain ⟨rfl, rfl⟩ := h
        go_enter Try.func13, Try.ntmps13
        go_wp2_with (first | (go_at_call 34; (with_reducible refine (impl_in.calls a0 1 1000000000000 true _ HI.out).mono ?_); rintro e w2 ⟨rfl, hd⟩; have HB2 := Aside0.mk (below_step HB.out hd.below); clear hd) | (go_at_call 35; (with_reducible refine (impl_isBase.calls a1 true _ HS.out).mono ?_); rintro e w3 ⟨rfl, hd⟩; have HB3 := Aside0.mk (below_step HB2.out (by first | exact hd.below | exact hd)); clear hd))
        go_ret2
        exact ⟨rfl, HB3.out⟩
      · rw [if_neg e1] at h
        have e1b : (a0 == 1) = false := beq_eq_false_iff_ne.mpr e1
        clear e1
        obtain ⟨s, hs, h⟩ := Option.bind_eq_some_iff.mp h
        have HM := Aside0.mk hs
        clear hs
        cases s with
        | false =>
          rw [if_neg (by decide)] at h
          simp only [Option.some.injEq, Prod.mk.injEq] at h
          obtain ⟨rfl, rfl⟩ := h
          go_enter Try.func13, Try.ntmps13
          go_wp2_with (first | (go_at_call 34; (with_reducible refine (impl_in.calls a0 1 1000000000000 true _ HI.out).mono ?_); rintro e w2 ⟨rfl, hd⟩; have HB2 := Aside0.mk (below_step HB.out hd.below); clear hd) | (go_at_call 35; (with_reducible refine (impl_isBase.calls a1 true _ HS.out).mono ?_); rintro e w3 ⟨rfl, hd⟩; have HB3 := Aside0.mk (below_step HB2.out (by first | exact hd.below | exact hd)); clear hd) | (go_at_call 36; (with_reducible refine (impl_isSmooth.calls k a0 a1 false _ HM.out).mono ?_); rintro e w4 ⟨rfl, hd⟩; have HB4 := Aside0.mk (below_step HB3.out (by first | exact hd.below | exact hd)); clear hd))
          go_ret2
          exact ⟨rfl, HB4.out⟩
        | true =>
          rw [if_pos rfl] at h
          obtain ⟨ds, hds, h⟩ := Option.bind_eq_some_iff.mp h
          obtain ⟨v, hv, h⟩ := Option.bind_eq_some_iff.mp h
          have HDS := Aside0.mk hds
          have HV := Aside0.mk hv
          have HT := Aside0.mk h
          have HR1 := Aside0.mk (impl_LeastWithProduct.in_ _ _ _ HI.out)
          have HR2 := Aside0.mk (impl_LeastWithProduct.base_ _ HS.out)
          clear hds hv h
          go_enter Try.func13, Try.ntmps13
          go_wp2_with (first | (go_at_call 34; (with_reducible refine (impl_in.calls a0 1 1000000000000 true _ HI.out).mono ?_); rintro e w2 ⟨rfl, hd⟩; have HB2 := Aside0.mk (below_step HB.out hd.below); clear hd) | (go_at_call 35; (with_reducible refine (impl_isBase.calls a1 true _ HS.out).mono ?_); rintro e w3 ⟨rfl, hd⟩; have HB3 := Aside0.mk (below_step HB2.out (by first | exact hd.below | exact hd)); clear hd) | (go_at_call 36; (with_reducible refine (impl_isSmooth.calls k a0 a1 true _ HM.out).mono ?_); rintro e w4 ⟨rfl, hd⟩; have HB4 := Aside0.mk (below_step HB3.out (by first | exact hd.below | exact hd)); clear hd) | ((with_reducible refine gate_dst (N := 25) rfl ?_); refine Kd.R_lit (Kd.int .i64) (w0 := w) w.heap.size 3 ?hg (N := 25) ?hd (xs := ([] : List Int)) (inner := []) (ok := fun k_ => k_ ≠ w4.heap.size) (okp := fun _ => False) ?hr ?hp (fun _ hk => hk.elim) (by simp) (below_alloc HB4.out _) (below_size (below_alloc HB4.out _)) (by simp) ?_; (case hd => rfl); (case hg => rfl); (case hr => first | (go_simp; done) | (go_simp; rfl)); (case hp => exact (Reps.none _ _)); intro v5 w5 ho hb hg_ hnew_; have HO5 := Aside0.mk ho; have HS5 := Aside0.mk (impl_LeastWithProduct.st_below (Mem.st_mono (Mem.made (impl_fewest.V a1) 1000000000000 w4) (fun _ _ => trivial)) (hg_.block w4.heap.size (by simp) (by simp)).symm : Mem.St (impl_fewest.V a1) 1000000000000 w4.heap.size w5 (fun _ => True)); have HB5 := Aside0.mk hb; clear ho hb hg_ hnew_) | (go_at_call 41; (with_reducible refine (impl_LeastWithProduct.few a1 HR2.out w4.heap.size w w5 (below_size HB4.out) a0 HR1.out.1 HR1.out.2 HS5.out HB5.out).mono ?_); rintro e w6 ⟨rfl, hs, hb, hk⟩; have HO6 := Aside0.mk (Kd.R_kept HO5.out hk (fun k_ h1_ h2_ => h1_ h2_)); have HS6 := Aside0.mk hs; have HB6 := Aside0.mk hb; clear hs hb hk))
          obtain ⟨g, hg⟩ : ∃ g, g = w4.heap.size := ⟨_, rfl⟩
          have HG : Aside0 (w.heap.size ≤ g) := ⟨by rw [hg]; exact below_size HB4.out⟩
          rw [← hg] at HO6 HS6 ⊢
          clear HO5 HS5 hg
          go_loopg [0, 7, 8] k (fun kq v0 v7 v8 w' => ∃ (p left : Int) (xs : List Int), v0 = .int .i64 p ∧ v8 = .int .i64 left ∧ Aside0 (impl_LeastWithProduct.l0 kq a1 p left xs = some ds) ∧ Aside0 (kq ≤ k) ∧ Aside0 (Kd.R (Kd.int .i64) 3 w' w.heap.size (fun k_ => k_ ≠ g) v7 xs) ∧ Aside0 (Mem.St (impl_fewest.V a1) 1000000000000 g w' (fun _ => True)) ∧ Aside0 (Below w.heap.size w w'))
          case atStart => exact ⟨a0, _, [], rfl, rfl, HDS, ⟨Nat.le_refl _⟩, HO6, HS6, HB6⟩
          case round =>
            clear HDS HO6 HS6 HB6 HB5 HB4 HB3 HB2
            obtain ⟨p, left, xs, rfl, rfl, HA, HK1, HO, HSr, HBr⟩ := hrel
            cases gk with
            | zero => exact absurd HA.out (by simp [impl_LeastWithProduct.l0])
            | succ k1 =>
              have H := HA.out
              clear HA
              rw [impl_LeastWithProduct.l0] at H
              obtain ⟨Ao, co, eo⟩ := Kd.R_slice HO.out
              subst eo
              by_cases c1 : left > 0
              · rw [if_pos c1] at H
                have c1b : decide (0 < left) = true := decide_eq_true c1
                clear c1
                by_cases c2 : 1 ≤ p ∧ p ≤ 1000000000000
                · rw [if_pos c2] at H
                  obtain ⟨c2a, c2c⟩ := c2
                  have H' := Aside0.mk H
                  clear H
                  go_wp2
                  go_loopg [9] k1 (fun kq v9 w' => ∃ (d : Int), v9 = .int .i64 d ∧ Aside0 (impl_LeastWithProduct.l1 kq a1 p left xs d = some ds) ∧ Aside0 (kq ≤ k1) ∧ Aside0 (Kd.R (Kd.int .i64) 3 w' w.heap.size (fun k_ => k_ ≠ g) (.slice Ao xs.length co) xs) ∧ Aside0 (Mem.St (impl_fewest.V a1) 1000000000000 g w' (fun _ => True)) ∧ Aside0 (Below w.heap.size w w'))
                  case atStart => exact ⟨2, rfl, H', ⟨Nat.le_refl _⟩, HO, HSr, HBr⟩
                  case round =>
                    clear H' HO HSr HBr
                    obtain ⟨d, rfl, HA, HK2, HO, HSr, HBr⟩ := hrel
                    cases gk with
                    | zero => exact absurd HA.out (by simp [impl_LeastWithProduct.l1])
                    | succ k2 =>
                      have H := HA.out
                      clear HA
                      rw [impl_LeastWithProduct.l1] at H
                      by_cases c3 : 2 ≤ d ∧ d ≤ 1000000000000
                      · rw [if_pos c3] at H
                        obtain ⟨c3a, c3c⟩ := c3
                        by_cases c4 : p % d = 0
                        · have c4b : (p % d != 0) = false := bne_eq_false_iff_eq.mpr c4
                          have hq : 1 ≤ p / d ∧ p / d ≤ 1000000000000 := by
                            have e := Int.mul_ediv_add_emod p d
                            rw [c4, Int.add_zero] at e
                            have h2 : 0 ≤ p / d := Int.ediv_nonneg (by omega) (by omega)
                            have h3 : p / d ≤ p := Int.ediv_le_self d (by omega)
                            generalize p / d = q at e h2 h3 ⊢
                            rcases Int.lt_or_le q 1 with h4 | h4
                            · have : q = 0 := by omega
                              subst this
                              rw [Int.mul_zero] at e; omega
                            · omega
                          have HQ := Aside0.mk hq
                          by_cases c5 : impl_fewest.V a1 (p / d) = wrap64 (left - 1)
                          · rw [if_pos ⟨c4, c5⟩] at H
                            have c5b : (impl_fewest.V a1 (p / d) != wrap64 (left - 1)) = false := bne_eq_false_iff_eq.mpr c5
                            clear c4 c5 hq
                            by_cases c6 : xs.length < 17592186044416
                            · rw [if_pos c6] at H
                              have LM := Aside0.mk c6
                              have H' := Aside0.mk H
                              clear c6 H
                              go_upto_region 14 with (first | (go_at_call 41; (with_reducible refine (impl_LeastWithProduct.few a1 HR2.out g w wr HG.out (p / d) HQ.out.1 HQ.out.2 HSr.out HBr.out).mono ?_); rintro e wf ⟨rfl, hs, hb, hk⟩; have HO2 := Aside0.mk (Kd.R_kept HO.out hk (fun k_ h1_ h2_ => h1_ h2_)); have HS2 := Aside0.mk hs; have HB2 := Aside0.mk hb; clear hs hb hk))
                              (try simp only [Act.put, List.setIfInBounds_toArray, List.set_cons_zero, List.set_cons_succ])
                              have hd0 : (d = 0) = False := eq_false (by omega)
                              have hd1 : Int.tdiv p d = p / d := Int.tdiv_eq_ediv_of_nonneg (by omega)
                              have hd2 : IntKind.i64.wrap (p / d) = p / d := by rw [i64_w]; exact Mem.w64 (by have := HQ.out; omega) (by have := HQ.out; omega)
                              have n0_ := Aside0.mk (Kd.R_drew HO2.out)
                              have n1_ := Aside0.mk (Mem.st_drew HS2.out)
                              have n2_ := Aside0.mk (below_drew1 HB2.out)
                              clear HO2
                              clear HS2
                              clear HB2
                              have HO2 := n0_
                              have HS2 := n1_
                              have HB2 := n2_
                              clear n0_ n1_ n2_
                              refine start_ (n := 9) (S := fun w' => True) (ds := []) #[false, false, false, false, false, false, false, false, false] (by kernel_rfl) rfl rfl trivial (fun hHeld => ?_)
                              generalize wf.drew = wg at HO2 HS2 HB2 hHeld ⊢
                              refine pure_ (i := 0) (N := some 51) (v := ?_) (a' := ?_) #[true, false, false, false, false, false, false, false, false] rfl rfl (by kernel_rfl) (fun _ _ _ h => h) (Or.inl ⟨by rfl, ?_⟩) ?_ ?_
                              rotate_left
                              · intro w'
                                go_simp
                                with_reducible rfl
                              rotate_left
                              · simp only [Act.put, List.setIfInBounds_toArray, List.set_cons_zero, List.set_cons_succ, i64_w, i32_w]
                                rfl
                              refine pure_ (i := 1) (N := some 52) (v := ?_) (a' := ?_) #[true, true, false, false, false, false, false, false, false] rfl rfl (by kernel_rfl) (fun _ _ _ h => h) (Or.inl ⟨by rfl, ?_⟩) ?_ ?_
                              rotate_left
                              · intro w'
                                go_simp
                                with_reducible rfl
                              rotate_left
                              · simp only [Act.put, List.setIfInBounds_toArray, List.set_cons_zero, List.set_cons_succ, i64_w, i32_w]
                                rfl
                              refine pure_ (i := 4) (N := some 55) (v := ?_) (a' := ?_) #[true, true, false, false, true, false, false, false, false] rfl rfl (by kernel_rfl) (fun _ _ _ h => h) (Or.inl ⟨by rfl, ?_⟩) ?_ ?_
                              rotate_left
                              · intro w'
                                go_simp
                                with_reducible rfl
                              rotate_left
                              · simp only [Act.put, List.setIfInBounds_toArray, List.set_cons_zero, List.set_cons_succ, i64_w, i32_w]
                                rfl
                              refine pure_ (i := 5) (N := some 56) (v := ?_) (a' := ?_) #[true, true, false, false, true, true, false, false, false] rfl rfl (by kernel_rfl) (fun _ _ _ h => h) (Or.inl ⟨by rfl, ?_⟩) ?_ ?_
                              rotate_left
                              · intro w'
                                go_simp
                                with_reducible rfl
                              rotate_left
                              · simp only [Act.put, List.setIfInBounds_toArray, List.set_cons_zero, List.set_cons_succ, i64_w, i32_w]
                                rfl
                              refine pure_ (i := 6) (N := some 57) (v := ?_) (a' := ?_) #[true, true, false, false, true, true, true, false, false] rfl rfl (by kernel_rfl) (fun _ _ _ h => h) (Or.inl ⟨by rfl, ?_⟩) ?_ ?_
                              rotate_left
                              · intro w'
                                go_simp
                                with_reducible rfl
                              rotate_left
                              · simp only [Act.put, List.setIfInBounds_toArray, List.set_cons_zero, List.set_cons_succ, i64_w, i32_w]
                                rfl
                              refine one_ (i := 2) (N := some 53) #[true, true, true, false, true, true, true, false, false] rfl rfl (by kernel_rfl) (by decide) (fun K hK => ?_)
                              refine value_ (w1 := ?_) (v := ?_) (by rfl) rfl ?_ ?_
                              rotate_left 2
                              · go_simp
                                constructor
                                · rfl
                                · rfl
                              refine hK.out _ _ trivial (fun hHeld => ?_)
                              clear hK K
                              refine norm_ (a' := ?_) ?_ ?_
                              rotate_left
                              · show Act.put _ (some 53) _ = _
                                simp only [Act.put, List.setIfInBounds_toArray, List.set_cons_zero, List.set_cons_succ, i64_w, i32_w]
                                rfl
                              refine one_ (i := 3) (N := some 54) #[true, true, true, true, true, true, true, false, false] rfl rfl (by kernel_rfl) (by decide) (fun K hK => ?_)
                              refine Kd.R_append_step (Kd.int .i64) (w0 := w) w.heap.size (by rfl) (.tmp 51) (.tmp 53) 25 3 (.int .i64 0) 8 rfl Try.underlying25 info3 rfl (by decide) (by omega) (.slice Ao xs.length co) xs d [.int .i64 d] (fun k_ => k_ ≠ g) (fun _ => False) rfl rfl ?aP (fun _ hk => hk.elim) ?aF ?aO ?aB ?aS ?aL ?_
                              (case aP => exact rfl)
                              (case aB => exact HB2.out)
                              (case aF => intro k_ hk_; have := Mem.st_lt HS2.out; omega)
                              (case aO => exact HO2.out)
                              (case aS => exact below_size HB2.out)
                              (case aL => have := LM.out; omega)
                              intro v7 w7 ho hb hg hat
                              have HS3 := Aside0.mk (impl_LeastWithProduct.st_below HS2.out (hg.block g (Mem.st_lt HS2.out) (fun e_ => HO2.out.1 g e_.symm rfl)).symm)
                              have HO3 := Aside0.mk ho
                              have HB3 := Aside0.mk hb
                              clear ho hb hg hat
                              refine hK.out _ _ trivial (fun hHeld => ?_)
                              clear hK K
                              refine norm_ (a' := ?_) ?_ ?_
                              rotate_left
                              · show Act.put _ (some 54) _ = _
                                simp only [Act.put, List.setIfInBounds_toArray, List.set_cons_zero, List.set_cons_succ, i64_w, i32_w]
                                rfl
                              refine pure_ (i := 7) (N := some 7) (v := ?_) (a' := ?_) #[true, true, true, true, true, true, true, true, false] rfl rfl (by kernel_rfl) (fun _ _ _ h => h) (Or.inl ⟨by rfl, ?_⟩) ?_ ?_
                              rotate_left
                              · intro w'
                                go_simp
                                with_reducible rfl
                              rotate_left
                              · simp only [Act.put, List.setIfInBounds_toArray, List.set_cons_zero, List.set_cons_succ, i64_w, i32_w]
                                rfl
                              refine pure_ (i := 8) (N := some 0) (v := ?_) (a' := ?_) #[true, true, true, true, true, true, true, true, true] rfl rfl (by kernel_rfl) (fun _ _ _ h => h) (Or.inl ⟨by rfl, ?_⟩) ?_ ?_
                              rotate_left
                              · intro w'
                                go_simp
                                with_reducible rfl
                              rotate_left
                              · simp only [Act.put, List.setIfInBounds_toArray, List.set_cons_zero, List.set_cons_succ, i64_w, i32_w]
                                rfl
                              refine done_ (by kernel_rfl) ?_
                              clear hd0 hd1 hd2
                              try go_wp2
                              go_roundg k2
                              case measure => have := HK1.out; have := HK2.out; omega
                              case rel => exact ⟨p / d, wrap64 (left - 1), xs ++ [d], rfl, rfl, H', ⟨by have := HK1.out; have := HK2.out; omega⟩, HO3, HS3, HB3⟩
                            · rw [if_neg c6] at H
                              cases H
                          · rw [if_neg (fun h => c5 h.2)] at H
                            have c5b : (impl_fewest.V a1 (p / d) != wrap64 (left - 1)) = true := bne_iff_ne.mpr c5
                            have H' := Aside0.mk H
                            clear c4 c5 hq H
                            go_wp2_with (first | (go_at_call 41; (with_reducible refine (impl_LeastWithProduct.few a1 HR2.out g w wr HG.out (p / d) HQ.out.1 HQ.out.2 HSr.out HBr.out).mono ?_); rintro e wf ⟨rfl, hs, hb, hk⟩; have HO2 := Aside0.mk (Kd.R_kept HO.out hk (fun k_ h1_ h2_ => h1_ h2_)); have HS2 := Aside0.mk hs; have HB2 := Aside0.mk hb; clear hs hb hk))
                            go_roundg k2
                            case measure => have := HK1.out; have := HK2.out; omega
                            case rel => exact ⟨d + 1, rfl, H', ⟨by have := HK1.out; have := HK2.out; omega⟩, HO2, HS2, HB2⟩
                        · have c4b : (p % d != 0) = true := bne_iff_ne.mpr c4
                          rw [if_neg (fun h => c4 h.1)] at H
                          have H' := Aside0.mk H
                          clear c4 H
                          go_wp2
                          go_roundg k2
                          case measure => have := HK1.out; have := HK2.out; omega
                          case rel => exact ⟨d + 1, rfl, H', ⟨by have := HK1.out; have := HK2.out; omega⟩, HO, HSr, HBr⟩
                      · rw [if_neg c3] at H
                        cases H
                · rw [if_neg c2] at H
                  cases H
              · rw [if_neg c1] at H
                have c1b : decide (0 < left) = false := decide_eq_false c1
                clear c1
                obtain rfl := Option.some.inj H
                go_wp2_with (first | (go_at_call 43; (with_reducible refine (impl_value.calls k _ _ xs a1 v _ (Kd.R_reads' HO.out).2.2 (Kd.R_reads' HO.out).2.1 HV.out).mono ?_); rintro e w7 ⟨rfl, hd⟩; have HB7 := Aside0.mk (below_step HBr.out (by first | exact hd.below | exact hd)); clear hd) | (go_at_call 42; (with_reducible refine (impl_told.calls v r1 r2 _ HT.out).mono ?_); rintro e w8 ⟨rfl, hd⟩; have HB8 := Aside0.mk (below_step HB7.out (by first | exact hd.below | exact hd)); clear hd))
                go_ret2
                exact ⟨rfl, HB8.out⟩

/-! ### laws_FnExactLeastWithProduct: function 4 -/
def laws_FnExactLeastWithProduct.f (k : Nat) (a0 : Int) (a1 : Int) : Option (Bool) := (spec_LeastWithProduct.f k a0 a1).bind fun bt130 => ((impl_LeastWithProduct.f k a0 a1).bind fun bt132 => (if bt132.1 = bt130.1 then (if (bt132.2 != bt130.2) = true then (some false) else (some true)) else (some false)))
theorem laws_FnExactLeastWithProduct.mono : ∀ a0 a1 k, LeO (laws_FnExactLeastWithProduct.f k a0 a1) (laws_FnExactLeastWithProduct.f (k + 1) a0 a1) := by
  intro a0 a1 k
  unfold laws_FnExactLeastWithProduct.f
  repeat' first
      | (with_reducible exact impl_LeastWithProduct.mono _ _ _)
      | (with_reducible exact spec_LeastWithProduct.mono _ _ _)
      | (with_reducible exact LeO.refl _)
      | (with_reducible exact LeO.none _)
      | (with_reducible refine LeO.ite ?_ ?_)
      | (with_reducible refine LeO.bind ?_ (fun _ => ?_))
      | exact impl_LeastWithProduct.mono _ _ _
      | exact spec_LeastWithProduct.mono _ _ _
      | exact LeO.none _
      | refine LeO.ite ?_ ?_
      | refine LeO.bind ?_ (fun _ => ?_)
set_option maxHeartbeats 8000000 in
set_option maxRecDepth 100000 in
theorem laws_FnExactLeastWithProduct.calls (k : Nat) (a0 : Int) (a1 : Int) (r : Bool) (w : World) (h : laws_FnExactLeastWithProduct.f k a0 a1 = some r) :
    Calls Try.prog 4 #[.int .i64 a0, .int .i64 a1] w fun e w' => e = .returned (.bool r) ∧ Below w.heap.size w w' := by
  have HB := Aside0.mk (Below.refl w.heap.size w)
  have H : ((spec_LeastWithProduct.f k a0 a1).bind fun bt130 => ((impl_LeastWithProduct.f k a0 a1).bind fun bt132 => (if bt132.1 = bt130.1 then (if (bt132.2 != bt130.2) = true then (some false) else (some true)) else (some false)))) = some r := h
  clear h
  replace H := Option.bind_eq_some_iff.mp H
  obtain ⟨⟨t130, t131⟩, A30, H⟩ := H
  replace H : ((impl_LeastWithProduct.f k a0 a1).bind fun bt132 => (if bt132.1 = t130 then (if (bt132.2 != t131) = true then (some false) else (some true)) else (some false))) = some r := H
  have A3 := Aside0.mk A30
  clear A30
  replace H := Option.bind_eq_some_iff.mp H
  obtain ⟨⟨t132, t133⟩, A40, H⟩ := H
  replace H : (if t132 = t130 then (if (t133 != t131) = true then (some false) else (some true)) else (some false)) = some r := H
  have A4 := Aside0.mk A40
  clear A40
  by_cases c5 : t132 = t130
  · rw [if_pos c5] at H
    have c5b0 : (t132 == t130) = true := beq_iff_eq.mpr c5
    have c5b1 : (t132 != t130) = false := bne_eq_false_iff_eq.mpr c5
    clear c5
    by_cases c6 : (t133 != t131) = true
    · rw [if_pos c6] at H
      have c6b0 : (t133 != t131) = true := c6
      (try (have c6b1 : decide (t133 = t131) = false := by simpa using c6))
      (try (have c6b2 : (t133 == t131) = false := by simpa using c6))
      (try (have c6b3 : ¬ (t133 = t131) := by simpa using c6))
      clear c6
      obtain rfl := Option.some.inj H
      go_enter Try.func4, Try.ntmps4
      go_wp2_with (first | ((with_reducible refine gate_callee (f := 12) rfl ?_); refine goesL_ (some 12) rfl rfl Try.func12 (by kernel_rfl) rfl #[.int .i64 a0, .int .i64 a1] rfl (by (try simp only [List.map_toArray, List.map_cons, List.map_nil]); first | done | rfl | (simp only [List.length_drop, List.length_take]; rfl)) ?_; (with_reducible refine (spec_LeastWithProduct.calls k a0 a1 t130 t131 _ A3.out).mono ?_); rintro e w7 ⟨rfl, hb⟩; refine ⟨_, rfl, ?_⟩; have n0_ := Aside0.mk (below_step (by repeat (first | (with_reducible first | exact HB.out | apply below_alloc | apply pw_below_drewN | apply below_drew1) | exact HB.out)) hb); clear HB; have HB := n0_; clear n0_; (try clear hb); (try clear hb2); (try clear hk); (try clear hi)) | ((with_reducible refine gate_callee (f := 13) rfl ?_); refine goesL_ (some 18) rfl rfl Try.func13 (by kernel_rfl) rfl #[.int .i64 a0, .int .i64 a1] rfl (by (try simp only [List.map_toArray, List.map_cons, List.map_nil]); first | done | rfl | (simp only [List.length_drop, List.length_take]; rfl)) ?_; (with_reducible refine (impl_LeastWithProduct.calls k a0 a1 t132 t133 _ A4.out).mono ?_); rintro e w8 ⟨rfl, hb⟩; refine ⟨_, rfl, ?_⟩; have n0_ := Aside0.mk (below_step (by repeat (first | (with_reducible first | exact HB.out | apply below_alloc | apply pw_below_drewN | apply below_drew1) | exact HB.out)) hb); clear HB; have HB := n0_; clear n0_; (try clear hb); (try clear hb2); (try clear hk); (try clear hi)))
      go_ret
      exact ⟨by first | rfl | (simp [errW_none, errW_some] <;> rfl) | (simp [*, errW_none, errW_some] <;> rfl), by repeat (first | (with_reducible first | exact HB.out | apply below_alloc | apply pw_below_drewN | apply below_drew1) | exact HB.out)⟩
    · rw [if_neg c6] at H
      have c6b0 : (t133 != t131) = false := by simpa using c6
      (try (have c6b1 : decide (t133 = t131) = true := by simpa using c6))
      (try (have c6b2 : (t133 == t131) = true := by simpa using c6))
      clear c6
      obtain rfl := Option.some.inj H
      go_enter Try.func4, Try.ntmps4
      go_wp2_with (first | ((with_reducible refine gate_callee (f := 12) rfl ?_); refine goesL_ (some 12) rfl rfl Try.func12 (by kernel_rfl) rfl #[.int .i64 a0, .int .i64 a1] rfl (by (try simp only [List.map_toArray, List.map_cons, List.map_nil]); first | done | rfl | (simp only [List.length_drop, List.length_take]; rfl)) ?_; (with_reducible refine (spec_LeastWithProduct.calls k a0 a1 t130 t131 _ A3.out).mono ?_); rintro e w9 ⟨rfl, hb⟩; refine ⟨_, rfl, ?_⟩; have n0_ := Aside0.mk (below_step (by repeat (first | (with_reducible first | exact HB.out | apply below_alloc | apply pw_below_drewN | apply below_drew1) | exact HB.out)) hb); clear HB; have HB := n0_; clear n0_; (try clear hb); (try clear hb2); (try clear hk); (try clear hi)) | ((with_reducible refine gate_callee (f := 13) rfl ?_); refine goesL_ (some 18) rfl rfl Try.func13 (by kernel_rfl) rfl #[.int .i64 a0, .int .i64 a1] rfl (by (try simp only [List.map_toArray, List.map_cons, List.map_nil]); first | done | rfl | (simp only [List.length_drop, List.length_take]; rfl)) ?_; (with_reducible refine (impl_LeastWithProduct.calls k a0 a1 t132 t133 _ A4.out).mono ?_); rintro e w10 ⟨rfl, hb⟩; refine ⟨_, rfl, ?_⟩; have n0_ := Aside0.mk (below_step (by repeat (first | (with_reducible first | exact HB.out | apply below_alloc | apply pw_below_drewN | apply below_drew1) | exact HB.out)) hb); clear HB; have HB := n0_; clear n0_; (try clear hb); (try clear hb2); (try clear hk); (try clear hi)))
      go_ret
      exact ⟨by first | rfl | (simp [errW_none, errW_some] <;> rfl) | (simp [*, errW_none, errW_some] <;> rfl), by repeat (first | (with_reducible first | exact HB.out | apply below_alloc | apply pw_below_drewN | apply below_drew1) | exact HB.out)⟩
  · rw [if_neg c5] at H
    have c5b0 : (t132 == t130) = false := beq_eq_false_iff_ne.mpr c5
    have c5b1 : (t132 != t130) = true := bne_iff_ne.mpr c5
    obtain rfl := Option.some.inj H
    go_enter Try.func4, Try.ntmps4
    go_wp2_with (first | ((with_reducible refine gate_callee (f := 12) rfl ?_); refine goesL_ (some 12) rfl rfl Try.func12 (by kernel_rfl) rfl #[.int .i64 a0, .int .i64 a1] rfl (by (try simp only [List.map_toArray, List.map_cons, List.map_nil]); first | done | rfl | (simp only [List.length_drop, List.length_take]; rfl)) ?_; (with_reducible refine (spec_LeastWithProduct.calls k a0 a1 t130 t131 _ A3.out).mono ?_); rintro e w11 ⟨rfl, hb⟩; refine ⟨_, rfl, ?_⟩; have n0_ := Aside0.mk (below_step (by repeat (first | (with_reducible first | exact HB.out | apply below_alloc | apply pw_below_drewN | apply below_drew1) | exact HB.out)) hb); clear HB; have HB := n0_; clear n0_; (try clear hb); (try clear hb2); (try clear hk); (try clear hi)) | ((with_reducible refine gate_callee (f := 13) rfl ?_); refine goesL_ (some 18) rfl rfl Try.func13 (by kernel_rfl) rfl #[.int .i64 a0, .int .i64 a1] rfl (by (try simp only [List.map_toArray, List.map_cons, List.map_nil]); first | done | rfl | (simp only [List.length_drop, List.length_take]; rfl)) ?_; (with_reducible refine (impl_LeastWithProduct.calls k a0 a1 t132 t133 _ A4.out).mono ?_); rintro e w12 ⟨rfl, hb⟩; refine ⟨_, rfl, ?_⟩; have n0_ := Aside0.mk (below_step (by repeat (first | (with_reducible first | exact HB.out | apply below_alloc | apply pw_below_drewN | apply below_drew1) | exact HB.out)) hb); clear HB; have HB := n0_; clear n0_; (try clear hb); (try clear hb2); (try clear hk); (try clear hi)))
    go_ret
    exact ⟨by first | rfl | (simp [errW_none, errW_some] <;> rfl) | (simp [*, errW_none, errW_some] <;> rfl), by repeat (first | (with_reducible first | exact HB.out | apply below_alloc | apply pw_below_drewN | apply below_drew1) | exact HB.out)⟩

/-- THE ONE PURE STATEMENT of laws_FnExactLeastWithProduct: yours. -/
def laws_FnExactLeastWithProduct.Pure : Prop := ∀ (a0 : Int) (a1 : Int), (Lit.int .i64 a0).wf = true → (Lit.int .i64 a1).wf = true → ∃ k, laws_FnExactLeastWithProduct.f k a0 a1 = some true
theorem laws_FnExactLeastWithProduct.walk (P : laws_FnExactLeastWithProduct.Pure) (a0 : Int) (a1 : Int) (w : World) (w0 : (Lit.int .i64 a0).wf = true) (w1 : (Lit.int .i64 a1).wf = true) :
    Calls Try.prog 4 #[.int .i64 a0, .int .i64 a1] w fun e w' => e = .returned (.bool true) ∧ Below w.heap.size w w' := by
  obtain ⟨k, h⟩ := P a0 a1 w0 w1
  refine (laws_FnExactLeastWithProduct.calls k a0 a1 true w h).mono ?_
  rintro e w' ⟨rfl, hd⟩
  exact ⟨rfl, hd⟩

end Go.Proofs.Ytimimjmabnmeoaa.PFnExactLeastWithProduct
