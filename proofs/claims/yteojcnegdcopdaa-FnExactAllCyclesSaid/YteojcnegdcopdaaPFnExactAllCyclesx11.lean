-- Written by a program of this session (hook.py): functions, contracts and walks in the printer's form; contracts of this session's own where the printer takes none
import Derived.Test.YteojcnegdcopdaaPFnExactAllCyclesx0
import Derived.Test.YteojcnegdcopdaaPFnExactAllCyclesx5
import Derived.Test.YteojcnegdcopdaaPFnExactAllCyclesx10
namespace Go.Proofs.Yteojcnegdcopdaa.PFnExactAllCycles
open Go.RowKit Go.Proofs.YteojcnegdcopdaaW.PrintWords Go.Proofs.YteojcnegdcopdaaW.PrintLast Go.Proofs.YteojcnegdcopdaaW.PrintMore
attribute [local go_sem] max2_int min2_int max_two min_two max_three min_three max_four min_four   -- for this text's walks alone
set_option linter.unusedVariables false
set_option linter.unusedSimpArgs false

/-! ### laws_markIntSSS: function 34 -/
def laws_markIntSSS.tot : List (List (List Int)) → Nat
  | [] => 0
  | l :: t => laws_markIntSS.tot l + laws_markIntSSS.tot t
def laws_markIntSSS.mks : List (List (List Int)) → Int → List (List (List Int))
  | [], _ => []
  | l :: t, x => laws_markIntSS.mks l x :: laws_markIntSSS.mks t (x + (laws_markIntSS.tot l : Nat))
theorem laws_markIntSSS.mks_length : ∀ (l : List (List (List Int))) (x : Int), (laws_markIntSSS.mks l x).length = l.length
  | [], _ => rfl
  | l :: t, x => by simp [laws_markIntSSS.mks, laws_markIntSSS.mks_length t]
theorem laws_markIntSSS.tot_append (a b : List (List (List Int))) : laws_markIntSSS.tot (a ++ b) = laws_markIntSSS.tot a + laws_markIntSSS.tot b := by
  induction a with
  | nil => simp [laws_markIntSSS.tot]
  | cons l t ih => simp [laws_markIntSSS.tot, ih]; omega
theorem laws_markIntSSS.mks_append (a b : List (List (List Int))) : ∀ x : Int, laws_markIntSSS.mks (a ++ b) x = laws_markIntSSS.mks a x ++ laws_markIntSSS.mks b (x + (laws_markIntSSS.tot a : Nat)) := by
  induction a with
  | nil => intro x; simp [laws_markIntSSS.mks, laws_markIntSSS.tot]
  | cons l t ih =>
    intro x
    simp only [List.cons_append, laws_markIntSSS.mks, laws_markIntSSS.tot, ih, List.cons.injEq, true_and]
    rw [show x + (laws_markIntSS.tot l : Nat) + (laws_markIntSSS.tot t : Nat) = x + ((laws_markIntSS.tot l + laws_markIntSSS.tot t : Nat) : Int) by omega]
theorem laws_markIntSSS.set_mid (pre rest : List (List (List Int))) (l m : List (List Int)) (i : Int) (hi : i = (pre.length : Int)) : (pre ++ l :: rest).set i.toNat m = (pre ++ [m]) ++ rest := by subst hi; simp
theorem laws_markIntSSS.get_mid (pre rest : List (List (List Int))) (l : List (List Int)) (i : Int) (hi : i = (pre.length : Int)) : (pre ++ l :: rest).getD i.toNat [] = l := by subst hi; simp
/-- One element is handed to markIntSS: what the row holds then. -/
theorem laws_markIntSSS.one {w0 w : World} (hB : Below w0.heap.size w0 w) {P0_ : Nat → Prop} {g n cap : Nat} {xs : List (List (List Int))} (hS : Kd.S (SK.kd 22 (Kd.slice 3 (Kd.int .i64))) 31 w w0.heap.size P0_ (.slice (some ⟨g, 0, none⟩) n cap) xs) (i : Int) (h0 : 0 ≤ i) (h1 : i < n) (x : Int) (hx : 0 ≤ x) (ht : x + (laws_markIntSS.tot (xs.getD i.toNat []) : Nat) ≤ 4611686018427387904) (hn : (xs.getD i.toNat []).length ≤ 4611686018427387904) :
    ∃ (A : Option Addr) (c : Nat), w.cell? ⟨g, i.toNat, none⟩ = some (.slice A (xs.getD i.toNat []).length c) ∧ Calls Try.prog 23 #[.slice A (xs.getD i.toNat []).length c, .int .i64 x] w fun e w' => e = .returned (.int .i64 (x + (laws_markIntSS.tot (xs.getD i.toNat []) : Nat))) ∧ Kd.S (SK.kd 22 (Kd.slice 3 (Kd.int .i64))) 31 w' w0.heap.size P0_ (.slice (some ⟨g, 0, none⟩) n cap) (xs.set i.toNat (laws_markIntSS.mks (xs.getD i.toNat []) x)) ∧ Below w0.heap.size w0 w' ∧ Kept w w' P0_ := by
  obtain ⟨oki, c, hcl, hM, hcc, hoki, hH⟩ := Kd.S_lend hS ([] : List (List Int)) i h0 h1
  obtain ⟨u, rfl, hR⟩ := hM
  obtain ⟨A, cu, rfl⟩ := Kd.S_slice hR
  refine ⟨A, cu, ?_, ?_⟩
  · have := hcc 0 _ rfl
    rw [show (SK.kd 22 (Kd.slice 3 (Kd.int .i64))).sz = 1 from rfl, Nat.mul_one, Nat.add_zero] at this
    exact this
  · refine (laws_markIntSS.calls oki _ _ x w0 w hB hR hx ht hn).mono ?_
    rintro e w' ⟨rfl, hR2, hB2, hK⟩
    refine ⟨rfl, Kd.H_back (Kd.H_step hH (fun k _ hno hlt => hK.2 k hlt hno)) ⟨_, rfl, hR2⟩ (fun _ hk => hk), hB2, hK.mono (fun j hj => (hoki j hj).1)⟩
set_option maxHeartbeats 8000000 in
set_option maxRecDepth 100000 in
theorem laws_markIntSSS.calls (P0_ : Nat → Prop) (v : Value) (l0 : List (List (List Int))) (a1 : Int) (w0 w : World) (hB : Below w0.heap.size w0 w) (ho0 : Kd.S (SK.kd 22 (Kd.slice 3 (Kd.int .i64))) 31 w w0.heap.size P0_ v l0) (hx : 0 ≤ a1) (ht : a1 + (laws_markIntSSS.tot l0 : Nat) ≤ 4611686018427387904) (hn : l0.length ≤ 4611686018427387904 ∧ ∀ l ∈ l0, l.length ≤ 4611686018427387904) :
    Calls Try.prog 34 #[v, .int .i64 a1] w fun e w' => e = .returned (.int .i64 (a1 + (laws_markIntSSS.tot l0 : Nat))) ∧ Kd.S (SK.kd 22 (Kd.slice 3 (Kd.int .i64))) 31 w' w0.heap.size P0_ v (laws_markIntSSS.mks l0 a1) ∧ Below w0.heap.size w0 w' ∧ Kept w w' P0_ := by
  obtain ⟨A, c, rfl⟩ := Kd.S_slice ho0
  have HL : Aside0 (0 ≤ a1 ∧ a1 + (laws_markIntSSS.tot l0 : Nat) ≤ 4611686018427387904 ∧ l0.length ≤ 4611686018427387904 ∧ ∀ l ∈ l0, l.length ≤ 4611686018427387904) := ⟨hx, ht, hn⟩
  have HO0 := Aside0.mk ho0
  have HB0 := Aside0.mk hB
  clear ho0 hB hx ht hn
  go_enter Try.func34, Try.ntmps34
  go_wp2
  go_loopw [1, 5] (fun v1 v5 wr => ∃ (pre rest : List (List (List Int))), v5 = .int .i64 (pre.length : Int) ∧ v1 = .int .i64 (a1 + (laws_markIntSSS.tot pre : Nat)) ∧ Aside0 (l0 = pre ++ rest) ∧ Aside0 (Kd.S (SK.kd 22 (Kd.slice 3 (Kd.int .i64))) 31 wr w0.heap.size P0_ (.slice A l0.length c) (laws_markIntSSS.mks pre a1 ++ rest)) ∧ Aside0 (Below w0.heap.size w0 wr) ∧ Aside0 (Kept w wr P0_)) (fun _ v5 _ => l0.length - (intOf v5).toNat)
  case atStart => exact ⟨[], l0, rfl, by simp [laws_markIntSSS.tot], ⟨rfl⟩, HO0, HB0, ⟨Kept.refl _ _⟩⟩
  case round =>
    obtain ⟨pre, rest, rfl, rfl, HE, HO, HB, HK⟩ := hrel
    cases rest with
    | nil =>
      have hE := HE.out
      rw [List.append_nil] at hE
      have hq1 : decide ((pre.length : Int) < (l0.length : Int)) = false := decide_eq_false (by rw [hE]; omega)
      have hq2 : decide (pre.length < l0.length) = false := decide_eq_false (by rw [hE]; omega)
      have HE2 := Aside0.mk hE
      clear hE
      go_wp2
      go_ret
      have hO := HO.out
      rw [List.append_nil] at hO
      refine ⟨by (try rw [HE2.out]); first | done | rfl, by rw [HE2.out] at hO ⊢; exact hO, HB.out, HK.out⟩
    | cons l rest =>
      have hE := HE.out
      have hlt : pre.length < l0.length := by rw [hE]; simp
      obtain ⟨g, cap, eg, hgb, hgl, hgc⟩ := Kd.S_form HO.out (by rw [List.length_append, List.length_cons]; omega)
      injection eg with ea en ec
      subst ea
      subst ec
      clear en
      have hget := laws_markIntSSS.get_mid (laws_markIntSSS.mks pre a1) rest l (pre.length : Int) (by rw [laws_markIntSSS.mks_length])
      have hset := fun m => laws_markIntSSS.set_mid (laws_markIntSSS.mks pre a1) rest l m (pre.length : Int) (by rw [laws_markIntSSS.mks_length])
      have hL := HL.out
      have htot : laws_markIntSSS.tot l0 = laws_markIntSSS.tot pre + (laws_markIntSS.tot l + laws_markIntSSS.tot rest) := by rw [hE, laws_markIntSSS.tot_append]; rfl
      obtain ⟨Ai, ci, hcell, hcall⟩ := laws_markIntSSS.one HB.out HO.out (pre.length : Int) (by omega) (by omega) (a1 + (laws_markIntSSS.tot pre : Nat)) (by omega) (by rw [hget]; omega) (by rw [hget]; exact hL.2.2.2 l (by rw [hE]; simp))
      rw [hget] at hcell hcall
      rw [Int.toNat_natCast] at hcell
      rw [hset] at hcall
      have HC := Aside0.mk hcall
      have e1 : a1 + (laws_markIntSSS.tot pre : Nat) + (laws_markIntSS.tot l : Nat) = a1 + (laws_markIntSSS.tot (pre ++ [l]) : Nat) := by rw [laws_markIntSSS.tot_append]; simp [laws_markIntSSS.tot]; omega
      have e2 : laws_markIntSSS.mks pre a1 ++ [laws_markIntSS.mks l (a1 + (laws_markIntSSS.tot pre : Nat))] ++ rest = laws_markIntSSS.mks (pre ++ [l]) a1 ++ rest := by rw [laws_markIntSSS.mks_append]; rfl
      have HE1 := Aside0.mk e1
      have HE2 := Aside0.mk e2
      have HE3 : Aside0 (l0 = (pre ++ [l]) ++ rest) := ⟨by rw [hE]; simp⟩
      have HLT := Aside0.mk hlt
      have hlt2 : decide (pre.length < l0.length) = true := decide_eq_true hlt
      have hlt3 : decide ((pre.length : Int) < (l0.length : Int)) = true := decide_eq_true (by omega)
      clear hget hset hcall e1 e2 hE htot hgb hgl hgc
      go_wp2_with (first | (go_at_call 23; (with_reducible refine HC.out.mono ?_); rintro e w2 ⟨rfl, hS, hb, hk⟩; have HO2 := Aside0.mk hS; have HB2 := Aside0.mk hb; have HK2 := Aside0.mk hk; clear hS hb hk))
      go_roundw
      case rel => exact ⟨pre ++ [l], rest, by first | rfl | (simp; done) | (have := HLT.out; go_num), by rw [HE1.out], HE3, ⟨by have := HO2.out; rw [HE2.out] at this; exact this⟩, HB2, ⟨HK.out.then_ HK2.out (fun k hk => .inl hk)⟩⟩
      case measure => have := HLT.out; simp [intOf]; omega

/-! ### laws_heldIntS: function 17 -/
def laws_heldIntS.l0 : Nat → List Int → Int → Int → Option (Int)
  | 0, _, _, _ => none
  | k + 1, x0, x1, x5 => if x5 < (x0.length : Int) then (if 0 ≤ x5 then (if (rd x0 x5) = x1 then (laws_heldIntS.l0 k x0 (wrap64 (x1 + 1)) (wrap64 (x5 + 1))) else (some (-1))) else (none)) else (some x1)
def laws_heldIntS.f (k : Nat) (l0 : List Int) (a1 : Int) : Option (Int) := laws_heldIntS.l0 k l0 a1 0
theorem laws_heldIntS.mono_l : ∀ k, (∀ y0 y1 y2, LeO (laws_heldIntS.l0 k y0 y1 y2) (laws_heldIntS.l0 (k + 1) y0 y1 y2))
  | 0 => fun _ _ _ r h => by simp [laws_heldIntS.l0] at h
  | k + 1 => by
    have ih0 := laws_heldIntS.mono_l k
    · intro y0 y1 y2
      unfold laws_heldIntS.l0
      repeat' first
      | (with_reducible exact ih0 _ _ _)
      | (with_reducible exact LeO.refl _)
      | (with_reducible exact LeO.none _)
      | (with_reducible refine LeO.ite ?_ ?_)
      | (with_reducible refine LeO.bind ?_ (fun _ => ?_))
      | exact ih0 _ _ _
      | exact LeO.none _
      | refine LeO.ite ?_ ?_
      | refine LeO.bind ?_ (fun _ => ?_)
theorem laws_heldIntS.mono : ∀ a0 a1 k, LeO (laws_heldIntS.f k a0 a1) (laws_heldIntS.f (k + 1) a0 a1) := by
  intro a0 a1 k
  have ih0 := laws_heldIntS.mono_l k
  unfold laws_heldIntS.f
  repeat' first
      | (with_reducible exact ih0 _ _ _)
      | (with_reducible exact LeO.refl _)
      | (with_reducible exact LeO.none _)
      | (with_reducible refine LeO.ite ?_ ?_)
      | (with_reducible refine LeO.bind ?_ (fun _ => ?_))
      | exact ih0 _ _ _
      | exact LeO.none _
      | refine LeO.ite ?_ ?_
      | refine LeO.bind ?_ (fun _ => ?_)
set_option maxHeartbeats 8000000 in
set_option maxRecDepth 100000 in
theorem laws_heldIntS.calls (k : Nat) (A0 : Option Addr) (c0 : Nat) (l0 : List Int) (a1 : Int) (r : Int) (w : World) (hr0 : Kd.C (Kd.int .i64) w A0 l0.length l0) (hc0 : l0.length ≤ c0) (h : laws_heldIntS.f k l0 a1 = some r) :
    Calls Try.prog 17 #[.slice A0 l0.length c0, .int .i64 a1] w fun e w' => e = .returned (.int .i64 r) ∧ Drawn0 w w' := by
  have HR0 := Aside0.mk hr0
  have HC0 := Aside0.mk hc0
  clear hr0 hc0
  have H : (laws_heldIntS.l0 k l0 a1 0) = some r := h
  clear h
  have H' := Aside0.mk H
  clear H
  go_enter Try.func17, Try.ntmps17
  go_wp2
  go_loopg [1, 5] k (fun kq v1 v5 w' => ∃ (x1_1 : Int) (x5_1 : Int), v1 = .int .i64 x1_1 ∧ v5 = .int .i64 x5_1 ∧ Aside0 (laws_heldIntS.l0 kq l0 x1_1 x5_1 = some r) ∧ Aside0 (kq ≤ k) ∧ Drawn0 w w')
  case atStart => exact ⟨(a1), (0), (by first | rfl | (simp; done) | (simp [*]; done)), (by first | rfl | (simp; done) | (simp [*]; done)), H', ⟨Nat.le_refl _⟩, by repeat (first | exact Drawn0.refl _ | apply Drawn0.step)⟩
  case round =>
    clear H'
    try clear c1
    try clear p2
    obtain ⟨x1_1, x5_1, rfl, rfl, HA, HK1, ⟨m1, rfl⟩⟩ := hrel
    cases gk with
    | zero => exact absurd HA.out (by simp [laws_heldIntS.l0])
    | succ k1 =>
      have H := HA.out
      clear HA
      simp only [laws_heldIntS.l0] at H
      by_cases c3 : x5_1 < (l0.length : Int)
      · rw [if_pos c3] at H
        have c3b0 : decide (x5_1 < (l0.length : Int)) = true := decide_eq_true c3
        clear c3
        by_cases c4 : 0 ≤ x5_1
        · rw [if_pos c4] at H
          have c4b0 : decide (0 ≤ x5_1) = true := decide_eq_true c4
          clear c4
          by_cases c5 : (rd l0 x5_1) = x1_1
          · rw [if_pos c5] at H
            have c5b0 : ((rd l0 x5_1) == x1_1) = true := beq_iff_eq.mpr c5
            have c5b1 : ((rd l0 x5_1) != x1_1) = false := bne_eq_false_iff_eq.mpr c5
            clear c5
            have H' := Aside0.mk H
            clear H
            have p360 : 0 ≤ (x5_1 : Int) := of_decide_eq_true (by first | (with_reducible assumption) | assumption)
            have q360 : x5_1 < (l0.length : Int) := of_decide_eq_true (by first | (with_reducible assumption) | assumption)
            obtain ⟨ad360, e360, hx360_0⟩ := Kd.at_int HR0.out x5_1 p360 q360
            cases e360
            replace p360 := eq_true p360
            replace q360 := eq_true q360
            go_wp2
            go_roundg k1
            case measure => have := HK1.out; omega
            case rel => exact ⟨(wrap64 (x1_1 + 1)), (wrap64 (x5_1 + 1)), (by first | rfl | (simp; done) | (simp [*]; done)), (by first | rfl | (simp; done) | (simp [*]; done)), H', ⟨by have := HK1.out; omega⟩, by repeat (first | exact Drawn0.refl _ | apply Drawn0.step)⟩
          · rw [if_neg c5] at H
            have c5b0 : ((rd l0 x5_1) == x1_1) = false := beq_eq_false_iff_ne.mpr c5
            have c5b1 : ((rd l0 x5_1) != x1_1) = true := bne_iff_ne.mpr c5
            obtain rfl := Option.some.inj H
            have p360 : 0 ≤ (x5_1 : Int) := of_decide_eq_true (by first | (with_reducible assumption) | assumption)
            have q360 : x5_1 < (l0.length : Int) := of_decide_eq_true (by first | (with_reducible assumption) | assumption)
            obtain ⟨ad360, e360, hx360_0⟩ := Kd.at_int HR0.out x5_1 p360 q360
            cases e360
            replace p360 := eq_true p360
            replace q360 := eq_true q360
            go_wp2
            go_ret
            exact ⟨by first | rfl | (simp; done) | (simp [*]; done), by repeat (first | exact Drawn0.refl _ | apply Drawn0.step)⟩
        · rw [if_neg c4] at H
          exact absurd H (by simp)
      · rw [if_neg c3] at H
        have c3b0 : decide (x5_1 < (l0.length : Int)) = false := decide_eq_false c3
        clear c3
        obtain rfl := Option.some.inj H
        go_wp2
        go_ret
        exact ⟨by first | rfl | (simp; done) | (simp [*]; done), by repeat (first | exact Drawn0.refl _ | apply Drawn0.step)⟩

/-! ### laws_heldIntSS: function 24 -/
def laws_heldIntSS.l0 : Nat → List (List Int) → Int → Int → Option (Int)
  | 0, _, _, _ => none
  | k + 1, x0, x1, x5 => if x5 < (x0.length : Int) then (if 0 ≤ x5 then ((laws_heldIntS.f k (rd_L1 x0 x5) x1).bind fun t362 => (if t362 < 0 then (some (-1)) else (laws_heldIntSS.l0 k x0 t362 (wrap64 (x5 + 1))))) else (none)) else (some x1)
def laws_heldIntSS.f (k : Nat) (l0 : List (List Int)) (a1 : Int) : Option (Int) := laws_heldIntSS.l0 k l0 a1 0
theorem laws_heldIntSS.mono_l : ∀ k, (∀ y0 y1 y2, LeO (laws_heldIntSS.l0 k y0 y1 y2) (laws_heldIntSS.l0 (k + 1) y0 y1 y2))
  | 0 => fun _ _ _ r h => by simp [laws_heldIntSS.l0] at h
  | k + 1 => by
    have ih0 := laws_heldIntSS.mono_l k
    · intro y0 y1 y2
      unfold laws_heldIntSS.l0
      repeat' first
      | (with_reducible exact ih0 _ _ _)
      | (with_reducible exact laws_heldIntS.mono _ _ _)
      | (with_reducible exact LeO.refl _)
      | (with_reducible exact LeO.none _)
      | (with_reducible refine LeO.ite ?_ ?_)
      | (with_reducible refine LeO.bind ?_ (fun _ => ?_))
      | exact ih0 _ _ _
      | exact laws_heldIntS.mono _ _ _
      | exact LeO.none _
      | refine LeO.ite ?_ ?_
      | refine LeO.bind ?_ (fun _ => ?_)
theorem laws_heldIntSS.mono : ∀ a0 a1 k, LeO (laws_heldIntSS.f k a0 a1) (laws_heldIntSS.f (k + 1) a0 a1) := by
  intro a0 a1 k
  have ih0 := laws_heldIntSS.mono_l k
  unfold laws_heldIntSS.f
  repeat' first
      | (with_reducible exact ih0 _ _ _)
      | (with_reducible exact laws_heldIntS.mono _ _ _)
      | (with_reducible exact LeO.refl _)
      | (with_reducible exact LeO.none _)
      | (with_reducible refine LeO.ite ?_ ?_)
      | (with_reducible refine LeO.bind ?_ (fun _ => ?_))
      | exact ih0 _ _ _
      | exact laws_heldIntS.mono _ _ _
      | exact LeO.none _
      | refine LeO.ite ?_ ?_
      | refine LeO.bind ?_ (fun _ => ?_)
set_option maxHeartbeats 8000000 in
set_option maxRecDepth 100000 in
theorem laws_heldIntSS.calls (k : Nat) (A0 : Option Addr) (c0 : Nat) (l0 : List (List Int)) (a1 : Int) (r : Int) (w : World) (hr0 : Kd.C (Kd.slice 3 (Kd.int .i64)) w A0 l0.length l0) (hc0 : l0.length ≤ c0) (h : laws_heldIntSS.f k l0 a1 = some r) :
    Calls Try.prog 24 #[.slice A0 l0.length c0, .int .i64 a1] w fun e w' => e = .returned (.int .i64 r) ∧ Drawn0 w w' := by
  have HR0 := Aside0.mk hr0
  have HC0 := Aside0.mk hc0
  clear hr0 hc0
  have H : (laws_heldIntSS.l0 k l0 a1 0) = some r := h
  clear h
  have H' := Aside0.mk H
  clear H
  go_enter Try.func24, Try.ntmps24
  go_wp2
  go_loopg [1, 5] k (fun kq v1 v5 w' => ∃ (x1_1 : Int) (x5_1 : Int), v1 = .int .i64 x1_1 ∧ v5 = .int .i64 x5_1 ∧ Aside0 (laws_heldIntSS.l0 kq l0 x1_1 x5_1 = some r) ∧ Aside0 (kq ≤ k) ∧ Drawn0 w w')
  case atStart => exact ⟨(a1), (0), (by first | rfl | (simp; done) | (simp [*]; done)), (by first | rfl | (simp; done) | (simp [*]; done)), H', ⟨Nat.le_refl _⟩, by repeat (first | exact Drawn0.refl _ | apply Drawn0.step)⟩
  case round =>
    clear H'
    try clear c2
    try clear p2
    obtain ⟨x1_1, x5_1, rfl, rfl, HA, HK1, ⟨m1, rfl⟩⟩ := hrel
    cases gk with
    | zero => exact absurd HA.out (by simp [laws_heldIntSS.l0])
    | succ k1 =>
      have H := HA.out
      clear HA
      simp only [laws_heldIntSS.l0] at H
      by_cases c3 : x5_1 < (l0.length : Int)
      · rw [if_pos c3] at H
        have c3b0 : decide (x5_1 < (l0.length : Int)) = true := decide_eq_true c3
        clear c3
        by_cases c4 : 0 ≤ x5_1
        · rw [if_pos c4] at H
          have c4b0 : decide (0 ≤ x5_1) = true := decide_eq_true c4
          clear c4
          replace H := Option.bind_eq_some_iff.mp H
          obtain ⟨t362, A50, H⟩ := H
          replace H : (if t362 < 0 then (some (-1)) else (laws_heldIntSS.l0 k1 l0 t362 (wrap64 (x5_1 + 1)))) = some r := H
          have A5 := Aside0.mk A50
          clear A50
          by_cases c6 : t362 < 0
          · rw [if_pos c6] at H
            have c6b0 : decide (t362 < 0) = true := decide_eq_true c6
            clear c6
            obtain rfl := Option.some.inj H
            have p361 : 0 ≤ (x5_1 : Int) := of_decide_eq_true (by first | (with_reducible assumption) | assumption)
            have q361 : x5_1 < (l0.length : Int) := of_decide_eq_true (by first | (with_reducible assumption) | assumption)
            obtain ⟨ad361, A361_0, c361_0, e361, hx361_0, hl361_0, hi361_0⟩ := at_L1 HR0.out x5_1 p361 q361
            cases e361
            have HR361_0 := Aside0.mk hi361_0
            have HC361_0 := Aside0.mk hl361_0
            clear hi361_0 hl361_0
            replace p361 := eq_true p361
            replace q361 := eq_true q361
            go_wp2_with (first | ((with_reducible refine gate_callee (f := 17) rfl ?_); refine goesL_ (some 17) rfl rfl Try.func17 (by kernel_rfl) rfl #[.slice A361_0 (rd_L1 l0 x5_1).length c361_0, .int .i64 x1_1] rfl (by (try simp only [List.map_toArray, List.map_cons, List.map_nil]); first | done | rfl | (simp only [List.length_drop, List.length_take]; rfl)) ?_; (with_reducible refine (laws_heldIntS.calls k1 _ _ (rd_L1 l0 x5_1) x1_1 t362 _ ?side1 ?side2 A5.out).mono ?_); (case side1 => repeat (first | exact HR361_0.out | (with_reducible refine Kd.C_alloc ?_ _) | (with_reducible refine Kd.C_drewN ?_ _) | (with_reducible refine Kd.C_drew ?_))); (case side2 => exact HC361_0.out); rintro e w' ⟨rfl, ⟨nd, rfl⟩⟩; refine ⟨_, rfl, ?_⟩))
            go_ret
            exact ⟨by first | rfl | (simp; done) | (simp [*]; done), by repeat (first | exact Drawn0.refl _ | apply Drawn0.step)⟩
          · rw [if_neg c6] at H
            have c6b0 : decide (t362 < 0) = false := decide_eq_false c6
            clear c6
            have H' := Aside0.mk H
            clear H
            have p361 : 0 ≤ (x5_1 : Int) := of_decide_eq_true (by first | (with_reducible assumption) | assumption)
            have q361 : x5_1 < (l0.length : Int) := of_decide_eq_true (by first | (with_reducible assumption) | assumption)
            obtain ⟨ad361, A361_0, c361_0, e361, hx361_0, hl361_0, hi361_0⟩ := at_L1 HR0.out x5_1 p361 q361
            cases e361
            have HR361_0 := Aside0.mk hi361_0
            have HC361_0 := Aside0.mk hl361_0
            clear hi361_0 hl361_0
            replace p361 := eq_true p361
            replace q361 := eq_true q361
            go_wp2_with (first | ((with_reducible refine gate_callee (f := 17) rfl ?_); refine goesL_ (some 17) rfl rfl Try.func17 (by kernel_rfl) rfl #[.slice A361_0 (rd_L1 l0 x5_1).length c361_0, .int .i64 x1_1] rfl (by (try simp only [List.map_toArray, List.map_cons, List.map_nil]); first | done | rfl | (simp only [List.length_drop, List.length_take]; rfl)) ?_; (with_reducible refine (laws_heldIntS.calls k1 _ _ (rd_L1 l0 x5_1) x1_1 t362 _ ?side1 ?side2 A5.out).mono ?_); (case side1 => repeat (first | exact HR361_0.out | (with_reducible refine Kd.C_alloc ?_ _) | (with_reducible refine Kd.C_drewN ?_ _) | (with_reducible refine Kd.C_drew ?_))); (case side2 => exact HC361_0.out); rintro e w' ⟨rfl, ⟨nd, rfl⟩⟩; refine ⟨_, rfl, ?_⟩))
            go_roundg k1
            case measure => have := HK1.out; omega
            case rel => exact ⟨(t362), (wrap64 (x5_1 + 1)), (by first | rfl | (simp; done) | (simp [*]; done)), (by first | rfl | (simp; done) | (simp [*]; done)), H', ⟨by have := HK1.out; omega⟩, by repeat (first | exact Drawn0.refl _ | apply Drawn0.step)⟩
        · rw [if_neg c4] at H
          exact absurd H (by simp)
      · rw [if_neg c3] at H
        have c3b0 : decide (x5_1 < (l0.length : Int)) = false := decide_eq_false c3
        clear c3
        obtain rfl := Option.some.inj H
        go_wp2
        go_ret
        exact ⟨by first | rfl | (simp; done) | (simp [*]; done), by repeat (first | exact Drawn0.refl _ | apply Drawn0.step)⟩

/-! ### laws_heldIntSSS: function 35 -/
def laws_heldIntSSS.l0 : Nat → List (List (List Int)) → Int → Int → Option (Int)
  | 0, _, _, _ => none
  | k + 1, x0, x1, x5 => if x5 < (x0.length : Int) then (if 0 ≤ x5 then ((laws_heldIntSS.f k (rd_L2 x0 x5) x1).bind fun t364 => (if t364 < 0 then (some (-1)) else (laws_heldIntSSS.l0 k x0 t364 (wrap64 (x5 + 1))))) else (none)) else (some x1)
def laws_heldIntSSS.f (k : Nat) (l0 : List (List (List Int))) (a1 : Int) : Option (Int) := laws_heldIntSSS.l0 k l0 a1 0
theorem laws_heldIntSSS.mono_l : ∀ k, (∀ y0 y1 y2, LeO (laws_heldIntSSS.l0 k y0 y1 y2) (laws_heldIntSSS.l0 (k + 1) y0 y1 y2))
  | 0 => fun _ _ _ r h => by simp [laws_heldIntSSS.l0] at h
  | k + 1 => by
    have ih0 := laws_heldIntSSS.mono_l k
    · intro y0 y1 y2
      unfold laws_heldIntSSS.l0
      repeat' first
      | (with_reducible exact ih0 _ _ _)
      | (with_reducible exact laws_heldIntSS.mono _ _ _)
      | (with_reducible exact LeO.refl _)
      | (with_reducible exact LeO.none _)
      | (with_reducible refine LeO.ite ?_ ?_)
      | (with_reducible refine LeO.bind ?_ (fun _ => ?_))
      | exact ih0 _ _ _
      | exact laws_heldIntSS.mono _ _ _
      | exact LeO.none _
      | refine LeO.ite ?_ ?_
      | refine LeO.bind ?_ (fun _ => ?_)
theorem laws_heldIntSSS.mono : ∀ a0 a1 k, LeO (laws_heldIntSSS.f k a0 a1) (laws_heldIntSSS.f (k + 1) a0 a1) := by
  intro a0 a1 k
  have ih0 := laws_heldIntSSS.mono_l k
  unfold laws_heldIntSSS.f
  repeat' first
      | (with_reducible exact ih0 _ _ _)
      | (with_reducible exact laws_heldIntSS.mono _ _ _)
      | (with_reducible exact LeO.refl _)
      | (with_reducible exact LeO.none _)
      | (with_reducible refine LeO.ite ?_ ?_)
      | (with_reducible refine LeO.bind ?_ (fun _ => ?_))
      | exact ih0 _ _ _
      | exact laws_heldIntSS.mono _ _ _
      | exact LeO.none _
      | refine LeO.ite ?_ ?_
      | refine LeO.bind ?_ (fun _ => ?_)
set_option maxHeartbeats 8000000 in
set_option maxRecDepth 100000 in
theorem laws_heldIntSSS.calls (k : Nat) (A0 : Option Addr) (c0 : Nat) (l0 : List (List (List Int))) (a1 : Int) (r : Int) (w : World) (hr0 : Kd.C (Kd.slice 22 (Kd.slice 3 (Kd.int .i64))) w A0 l0.length l0) (hc0 : l0.length ≤ c0) (h : laws_heldIntSSS.f k l0 a1 = some r) :
    Calls Try.prog 35 #[.slice A0 l0.length c0, .int .i64 a1] w fun e w' => e = .returned (.int .i64 r) ∧ Drawn0 w w' := by
  have HR0 := Aside0.mk hr0
  have HC0 := Aside0.mk hc0
  clear hr0 hc0
  have H : (laws_heldIntSSS.l0 k l0 a1 0) = some r := h
  clear h
  have H' := Aside0.mk H
  clear H
  go_enter Try.func35, Try.ntmps35
  go_wp2
  go_loopg [1, 5] k (fun kq v1 v5 w' => ∃ (x1_1 : Int) (x5_1 : Int), v1 = .int .i64 x1_1 ∧ v5 = .int .i64 x5_1 ∧ Aside0 (laws_heldIntSSS.l0 kq l0 x1_1 x5_1 = some r) ∧ Aside0 (kq ≤ k) ∧ Drawn0 w w')
  case atStart => exact ⟨(a1), (0), (by first | rfl | (simp; done) | (simp [*]; done)), (by first | rfl | (simp; done) | (simp [*]; done)), H', ⟨Nat.le_refl _⟩, by repeat (first | exact Drawn0.refl _ | apply Drawn0.step)⟩
  case round =>
    clear H'
    try clear p2
    obtain ⟨x1_1, x5_1, rfl, rfl, HA, HK1, ⟨m1, rfl⟩⟩ := hrel
    cases gk with
    | zero => exact absurd HA.out (by simp [laws_heldIntSSS.l0])
    | succ k1 =>
      have H := HA.out
      clear HA
      simp only [laws_heldIntSSS.l0] at H
      by_cases c3 : x5_1 < (l0.length : Int)
      · rw [if_pos c3] at H
        have c3b0 : decide (x5_1 < (l0.length : Int)) = true := decide_eq_true c3
        clear c3
        by_cases c4 : 0 ≤ x5_1
        · rw [if_pos c4] at H
          have c4b0 : decide (0 ≤ x5_1) = true := decide_eq_true c4
          clear c4
          replace H := Option.bind_eq_some_iff.mp H
          obtain ⟨t364, A50, H⟩ := H
          replace H : (if t364 < 0 then (some (-1)) else (laws_heldIntSSS.l0 k1 l0 t364 (wrap64 (x5_1 + 1)))) = some r := H
          have A5 := Aside0.mk A50
          clear A50
          by_cases c6 : t364 < 0
          · rw [if_pos c6] at H
            have c6b0 : decide (t364 < 0) = true := decide_eq_true c6
            clear c6
            obtain rfl := Option.some.inj H
            have p363 : 0 ≤ (x5_1 : Int) := of_decide_eq_true (by first | (with_reducible assumption) | assumption)
            have q363 : x5_1 < (l0.length : Int) := of_decide_eq_true (by first | (with_reducible assumption) | assumption)
            obtain ⟨ad363, A363_0, c363_0, e363, hx363_0, hl363_0, hi363_0⟩ := at_L2 HR0.out x5_1 p363 q363
            cases e363
            have HR363_0 := Aside0.mk hi363_0
            have HC363_0 := Aside0.mk hl363_0
            clear hi363_0 hl363_0
            replace p363 := eq_true p363
            replace q363 := eq_true q363
            go_wp2_with (first | ((with_reducible refine gate_callee (f := 24) rfl ?_); refine goesL_ (some 17) rfl rfl Try.func24 (by kernel_rfl) rfl #[.slice A363_0 (rd_L2 l0 x5_1).length c363_0, .int .i64 x1_1] rfl (by (try simp only [List.map_toArray, List.map_cons, List.map_nil]); first | done | rfl | (simp only [List.length_drop, List.length_take]; rfl)) ?_; (with_reducible refine (laws_heldIntSS.calls k1 _ _ (rd_L2 l0 x5_1) x1_1 t364 _ ?side1 ?side2 A5.out).mono ?_); (case side1 => repeat (first | exact HR363_0.out | (with_reducible refine Kd.C_alloc ?_ _) | (with_reducible refine Kd.C_drewN ?_ _) | (with_reducible refine Kd.C_drew ?_))); (case side2 => exact HC363_0.out); rintro e w' ⟨rfl, ⟨nd, rfl⟩⟩; refine ⟨_, rfl, ?_⟩))
            go_ret
            exact ⟨by first | rfl | (simp; done) | (simp [*]; done), by repeat (first | exact Drawn0.refl _ | apply Drawn0.step)⟩
          · rw [if_neg c6] at H
            have c6b0 : decide (t364 < 0) = false := decide_eq_false c6
            clear c6
            have H' := Aside0.mk H
            clear H
            have p363 : 0 ≤ (x5_1 : Int) := of_decide_eq_true (by first | (with_reducible assumption) | assumption)
            have q363 : x5_1 < (l0.length : Int) := of_decide_eq_true (by first | (with_reducible assumption) | assumption)
            obtain ⟨ad363, A363_0, c363_0, e363, hx363_0, hl363_0, hi363_0⟩ := at_L2 HR0.out x5_1 p363 q363
            cases e363
            have HR363_0 := Aside0.mk hi363_0
            have HC363_0 := Aside0.mk hl363_0
            clear hi363_0 hl363_0
            replace p363 := eq_true p363
            replace q363 := eq_true q363
            go_wp2_with (first | ((with_reducible refine gate_callee (f := 24) rfl ?_); refine goesL_ (some 17) rfl rfl Try.func24 (by kernel_rfl) rfl #[.slice A363_0 (rd_L2 l0 x5_1).length c363_0, .int .i64 x1_1] rfl (by (try simp only [List.map_toArray, List.map_cons, List.map_nil]); first | done | rfl | (simp only [List.length_drop, List.length_take]; rfl)) ?_; (with_reducible refine (laws_heldIntSS.calls k1 _ _ (rd_L2 l0 x5_1) x1_1 t364 _ ?side1 ?side2 A5.out).mono ?_); (case side1 => repeat (first | exact HR363_0.out | (with_reducible refine Kd.C_alloc ?_ _) | (with_reducible refine Kd.C_drewN ?_ _) | (with_reducible refine Kd.C_drew ?_))); (case side2 => exact HC363_0.out); rintro e w' ⟨rfl, ⟨nd, rfl⟩⟩; refine ⟨_, rfl, ?_⟩))
            go_roundg k1
            case measure => have := HK1.out; omega
            case rel => exact ⟨(t364), (wrap64 (x5_1 + 1)), (by first | rfl | (simp; done) | (simp [*]; done)), (by first | rfl | (simp; done) | (simp [*]; done)), H', ⟨by have := HK1.out; omega⟩, by repeat (first | exact Drawn0.refl _ | apply Drawn0.step)⟩
        · rw [if_neg c4] at H
          exact absurd H (by simp)
      · rw [if_neg c3] at H
        have c3b0 : decide (x5_1 < (l0.length : Int)) = false := decide_eq_false c3
        clear c3
        obtain rfl := Option.some.inj H
        go_wp2
        go_ret
        exact ⟨by first | rfl | (simp; done) | (simp [*]; done), by repeat (first | exact Drawn0.refl _ | apply Drawn0.step)⟩

/-! ### laws_FnExactAllCycles: function 9 -/
/-- THE ONE PURE STATEMENT of laws_FnExactAllCycles. -/
def laws_FnExactAllCycles.Pure : Prop := ∀ (a0 : Int) (a1 : Int), (Lit.int .i64 a0).wf = true → (Lit.int .i64 a1).wf = true → ∃ (k : Nat) (rows : List (List (List Int))) (ok_ : Bool), spec_AllCycles.f k a0 a1 = some (rows, ok_) ∧ impl_AllCycles.f k a0 a1 = some (rows, ok_) ∧ laws_eqIntSSS.f k rows rows = some true ∧ laws_heldIntSSS.f k (laws_markIntSSS.mks rows 1) 1 = some (1 + ((laws_markIntSSS.tot rows : Nat) : Int)) ∧ 1 + ((laws_markIntSSS.tot rows : Nat) : Int) ≤ 4611686018427387904 ∧ (rows.length ≤ 4611686018427387904 ∧ ∀ l ∈ rows, l.length ≤ 4611686018427387904)
set_option maxHeartbeats 8000000 in
set_option maxRecDepth 100000 in
theorem laws_FnExactAllCycles.walk (P : laws_FnExactAllCycles.Pure) (a0 : Int) (a1 : Int) (w : World) (w0 : (Lit.int .i64 a0).wf = true) (w1 : (Lit.int .i64 a1).wf = true) :
    Calls Try.prog 9 #[.int .i64 a0, .int .i64 a1] w fun e w' => e = .returned (.bool true) ∧ Below w.heap.size w w' := by
  have HB := Aside0.mk (Below.refl w.heap.size w)
  obtain ⟨k, rows, ok_, hHS, hHI, hHE, hHHE, hHTO, hHTL⟩ := P a0 a1 w0 w1
  clear P w0 w1
  have HS := Aside0.mk hHS
  have HI := Aside0.mk hHI
  have HE := Aside0.mk hHE
  have HHE := Aside0.mk hHHE
  have HTO := Aside0.mk hHTO
  have HTL := Aside0.mk hHTL
  clear hHS hHI hHE hHHE hHTO hHTL
  have HON : Aside0 ((0 : Int) ≤ 1) := ⟨by decide⟩
  have HTG : Aside0 (0 ≤ 1 + ((laws_markIntSSS.tot rows : Nat) : Int)) := ⟨by omega⟩
  obtain ⟨tt, htt⟩ : ∃ t_ : Int, t_ = 1 + ((laws_markIntSSS.tot rows : Nat) : Int) := ⟨_, rfl⟩
  have q1 : decide (tt < 0) = false := decide_eq_false (by have := HTG.out; omega)
  have q2 : (tt != tt) = false := bne_self_eq_false tt
  have q3 : (ok_ != ok_) = false := bne_self_eq_false ok_
  have HTT := Aside0.mk htt
  clear htt
  have HHE2 : Aside0 (laws_heldIntSSS.f k (laws_markIntSSS.mks rows 1) 1 = some tt) := ⟨by rw [HTT.out]; exact HHE.out⟩
  have HLM : Aside0 ((laws_markIntSSS.mks rows 1).length = rows.length) := ⟨laws_markIntSSS.mks_length rows 1⟩
  have HHC : Aside0 (∀ (A_ : Option Addr) (c_ : Nat) (W_ : World), Kd.C (Kd.slice 22 (Kd.slice 3 (Kd.int .i64))) W_ A_ rows.length (laws_markIntSSS.mks rows 1) → rows.length ≤ c_ → Calls Try.prog 35 #[.slice A_ rows.length c_, .int .i64 1] W_ fun e w' => e = .returned (.int .i64 tt) ∧ Drawn0 W_ w') := ⟨by intro A_ c_ W_ h1_ h2_; have h_ := laws_heldIntSSS.calls k A_ c_ (laws_markIntSSS.mks rows 1) 1 tt W_ (by rw [HLM.out]; exact h1_) (by rw [HLM.out]; exact h2_) HHE2.out; rw [HLM.out] at h_; exact h_⟩
  go_enter Try.func9, Try.ntmps9
  go_wp2_with (first | ((with_reducible refine gate_callee (f := 31) rfl ?_); refine goesL_ (some 16) rfl rfl Try.func31 (by kernel_rfl) rfl #[.int .i64 a0, .int .i64 a1] rfl (by (try simp only [List.map_toArray, List.map_cons, List.map_nil]); first | done | rfl) ?_; (with_reducible refine (spec_AllCycles.calls k a0 a1 rows ok_ _ HS.out).mono ?_); rintro e wq1 ⟨v_, rfl, ho, hb⟩; refine ⟨_, rfl, ?_⟩; replace ho := Kd.N_V (base' := 0) ho; obtain ⟨AW, cW, eW⟩ := Kd.V_slice ho; subst eW; obtain ⟨n2, hn2⟩ : ∃ n_, n_ = wq1.heap.size := ⟨_, rfl⟩; have HN2 := Aside0.mk hn2; have HF := Aside0.mk (Kd.F_mono (Kd.F_bound (Kd.V_F ho)) (ok' := (fun k_ => k_ < n2)) (fun k_ hk_ => by rw [HN2.out]; exact hk_.2)); have HCW := Aside0.mk (Kd.V_reads' ho).2.1; have n0_ := Aside0.mk (below_step (by repeat (first | (with_reducible first | exact HB.out | apply below_alloc | apply pw_below_drewN | apply below_drew1) | exact HB.out)) hb); clear HB; have HB := n0_; clear n0_; clear ho hb hn2) | ((with_reducible refine gate_callee (f := 32) rfl ?_); refine goesL_ (some 22) rfl rfl Try.func32 (by kernel_rfl) rfl #[.int .i64 a0, .int .i64 a1] rfl (by (try simp only [List.map_toArray, List.map_cons, List.map_nil]); first | done | rfl) ?_; (with_reducible refine (impl_AllCycles.calls k a0 a1 rows ok_ _ HI.out).mono ?_); rintro e wq2 ⟨v_, rfl, ho, hb⟩; refine ⟨_, rfl, ?_⟩; obtain ⟨n4, hn4⟩ : ∃ n_, n_ = wq2.heap.size := ⟨_, rfl⟩; have HG := Aside0.mk (Kd.S_lower (Kd.S_mono (Kd.S_bound ho) (ok' := (fun k_ => n2 ≤ k_ ∧ k_ < n4)) (fun k_ hk_ => ⟨Nat.le_trans (by rw [HN2.out]; first | exact Nat.le_refl _ | simp) hk_.2.1, by rw [hn4]; exact hk_.2.2.1⟩)) (below_size (by repeat (first | (with_reducible first | exact HB.out | apply below_alloc | apply pw_below_drewN | apply below_drew1) | exact HB.out)))); have n0_ := Aside0.mk (Kd.F_below (by (with_reducible repeat (first | apply Kd.F_alloc | apply Kd.F_drewN | apply Kd.F_drew)); exact HF.out) hb); have n1_ := Aside0.mk (below_step (by repeat (first | (with_reducible first | exact HB.out | apply below_alloc | apply pw_below_drewN | apply below_drew1) | exact HB.out)) hb); clear HF; clear HB; have HF := n0_; have HB := n1_; clear n0_ n1_; clear ho hb hn4; obtain ⟨AG, cG, eG⟩ := Kd.S_slice HG.out; subst eG) | ((with_reducible refine gate_callee (f := 33) rfl ?_); refine goesL_ (some 27) rfl rfl Try.func33 (by kernel_rfl) rfl #[.slice AG rows.length cG, .slice AW rows.length cW] rfl (by (try simp only [List.map_toArray, List.map_cons, List.map_nil]); first | done | rfl) ?_; (with_reducible refine (laws_eqIntSSS.calls k _ _ rows _ _ rows true _ ?side1 ?side2 ?side3 ?side4 HE.out).mono ?_); (case side1 => repeat (first | exact (SK.c (Kd.S_reads' HG.out).2.2) | (with_reducible refine Kd.C_alloc ?_ _) | (with_reducible refine Kd.C_drewN ?_ _) | (with_reducible refine Kd.C_drew ?_))); (case side2 => exact (Kd.S_reads' HG.out).2.1); (case side3 => repeat (first | exact (Kd.F_now HF.out) | (with_reducible refine Kd.C_alloc ?_ _) | (with_reducible refine Kd.C_drewN ?_ _) | (with_reducible refine Kd.C_drew ?_))); (case side4 => exact HCW.out); rintro e wq3 ⟨rfl, hd⟩; refine ⟨_, rfl, ?_⟩; have hb := hd.below; clear hd; have n0_ := Aside0.mk (Kd.F_below (by (with_reducible repeat (first | apply Kd.F_alloc | apply Kd.F_drewN | apply Kd.F_drew)); exact HF.out) hb); have n1_ := Aside0.mk (Kd.S_below (by (with_reducible repeat (first | apply Kd.S_alloc | apply Kd.S_drewN | apply Kd.S_drew)); exact HG.out) hb); have n2_ := Aside0.mk (below_step (by repeat (first | (with_reducible first | exact HB.out | apply below_alloc | apply pw_below_drewN | apply below_drew1) | exact HB.out)) hb); clear HF; clear HG; clear HB; have HF := n0_; have HG := n1_; have HB := n2_; clear n0_ n1_ n2_; clear hb) | ((with_reducible refine gate_callee (f := 34) rfl ?_); refine goesL_ (some 36) rfl rfl Try.func34 (by kernel_rfl) rfl #[.slice AG rows.length cG, .int .i64 1] rfl (by (try simp only [List.map_toArray, List.map_cons, List.map_nil]); first | done | rfl) ?_; (with_reducible refine (laws_markIntSSS.calls (fun k_ => n2 ≤ k_ ∧ k_ < n4) _ rows 1 w _ ?side1 ?side2 HON.out HTO.out HTL.out).mono ?_); (case side1 => exact (by repeat (first | (with_reducible first | exact HB.out | apply below_alloc | apply pw_below_drewN | apply below_drew1) | exact HB.out))); (case side2 => exact (by (with_reducible repeat (first | apply Kd.S_alloc | apply Kd.S_drewN | apply Kd.S_drew)); exact HG.out)); rintro e wq4 ⟨he_, hr, hb2, hk⟩; rw [← HTT.out] at he_; subst he_; refine ⟨_, rfl, ?_⟩; have n0_ := Aside0.mk (Kd.F_kept (by (with_reducible repeat (first | apply Kd.F_alloc | apply Kd.F_drewN | apply Kd.F_drew)); exact HF.out) hk (fun k_ hk_ hs_ => by omega)); have n1_ := Aside0.mk (hb2); clear HF; clear HB; have HF := n0_; have HB := n1_; clear n0_ n1_; clear HG; have HG := Aside0.mk hr; clear hb2 hk hr) | ((with_reducible refine gate_callee (f := 35) rfl ?_); refine goesL_ (some 39) rfl rfl Try.func35 (by kernel_rfl) rfl #[.slice AG rows.length cG, .int .i64 1] rfl (by (try simp only [List.map_toArray, List.map_cons, List.map_nil]); first | done | rfl) ?_; (with_reducible refine (HHC.out _ _ _ ?side1 ?side2).mono ?_); (case side1 => repeat (first | exact (by have h_ := (SK.c (Kd.S_reads' HG.out).2.2); rw [HLM.out] at h_; exact h_) | (with_reducible refine Kd.C_alloc ?_ _) | (with_reducible refine Kd.C_drewN ?_ _) | (with_reducible refine Kd.C_drew ?_))); (case side2 => exact (Kd.S_reads' HG.out).2.1); rintro e wq5 ⟨rfl, hd⟩; refine ⟨_, rfl, ?_⟩; have hb := hd.below; clear hd; have n0_ := Aside0.mk (Kd.F_below (by (with_reducible repeat (first | apply Kd.F_alloc | apply Kd.F_drewN | apply Kd.F_drew)); exact HF.out) hb); have n1_ := Aside0.mk (Kd.S_below (by (with_reducible repeat (first | apply Kd.S_alloc | apply Kd.S_drewN | apply Kd.S_drew)); exact HG.out) hb); have n2_ := Aside0.mk (below_step (by repeat (first | (with_reducible first | exact HB.out | apply below_alloc | apply pw_below_drewN | apply below_drew1) | exact HB.out)) hb); clear HF; clear HG; clear HB; have HF := n0_; have HG := n1_; have HB := n2_; clear n0_ n1_ n2_; clear hb) | ((with_reducible refine gate_callee (f := 32) rfl ?_); refine goesL_ (some 48) rfl rfl Try.func32 (by kernel_rfl) rfl #[.int .i64 a0, .int .i64 a1] rfl (by (try simp only [List.map_toArray, List.map_cons, List.map_nil]); first | done | rfl) ?_; (with_reducible refine (impl_AllCycles.calls k a0 a1 rows ok_ _ HI.out).mono ?_); rintro e wq6 ⟨v_, rfl, ho, hb⟩; refine ⟨_, rfl, ?_⟩; have HH := Aside0.mk (Kd.S_lower ho (below_size (by repeat (first | (with_reducible first | exact HB.out | apply below_alloc | apply pw_below_drewN | apply below_drew1) | exact HB.out)))); have n0_ := Aside0.mk (Kd.F_below (by (with_reducible repeat (first | apply Kd.F_alloc | apply Kd.F_drewN | apply Kd.F_drew)); exact HF.out) hb); have n1_ := Aside0.mk (Kd.S_below (by (with_reducible repeat (first | apply Kd.S_alloc | apply Kd.S_drewN | apply Kd.S_drew)); exact HG.out) hb); have n2_ := Aside0.mk (below_step (by repeat (first | (with_reducible first | exact HB.out | apply below_alloc | apply pw_below_drewN | apply below_drew1) | exact HB.out)) hb); clear HF; clear HG; clear HB; have HF := n0_; have HG := n1_; have HB := n2_; clear n0_ n1_ n2_; clear ho hb; obtain ⟨AH, cH, eH⟩ := Kd.S_slice HH.out; subst eH) | ((with_reducible refine gate_callee (f := 33) rfl ?_); refine goesL_ (some 53) rfl rfl Try.func33 (by kernel_rfl) rfl #[.slice AH rows.length cH, .slice AW rows.length cW] rfl (by (try simp only [List.map_toArray, List.map_cons, List.map_nil]); first | done | rfl) ?_; (with_reducible refine (laws_eqIntSSS.calls k _ _ rows _ _ rows true _ ?side1 ?side2 ?side3 ?side4 HE.out).mono ?_); (case side1 => repeat (first | exact (SK.c (Kd.S_reads' HH.out).2.2) | (with_reducible refine Kd.C_alloc ?_ _) | (with_reducible refine Kd.C_drewN ?_ _) | (with_reducible refine Kd.C_drew ?_))); (case side2 => exact (Kd.S_reads' HH.out).2.1); (case side3 => repeat (first | exact (Kd.F_now HF.out) | (with_reducible refine Kd.C_alloc ?_ _) | (with_reducible refine Kd.C_drewN ?_ _) | (with_reducible refine Kd.C_drew ?_))); (case side4 => exact HCW.out); rintro e wq7 ⟨rfl, hd⟩; refine ⟨_, rfl, ?_⟩; have hb := hd.below; clear hd; have n0_ := Aside0.mk (Kd.F_below (by (with_reducible repeat (first | apply Kd.F_alloc | apply Kd.F_drewN | apply Kd.F_drew)); exact HF.out) hb); have n1_ := Aside0.mk (Kd.S_below (by (with_reducible repeat (first | apply Kd.S_alloc | apply Kd.S_drewN | apply Kd.S_drew)); exact HG.out) hb); have n2_ := Aside0.mk (below_step (by repeat (first | (with_reducible first | exact HB.out | apply below_alloc | apply pw_below_drewN | apply below_drew1) | exact HB.out)) hb); clear HH; clear HF; clear HG; clear HB; have HF := n0_; have HG := n1_; have HB := n2_; clear n0_ n1_ n2_; clear hb) | ((with_reducible refine gate_callee (f := 35) rfl ?_); refine goesL_ (some 62) rfl rfl Try.func35 (by kernel_rfl) rfl #[.slice AG rows.length cG, .int .i64 1] rfl (by (try simp only [List.map_toArray, List.map_cons, List.map_nil]); first | done | rfl) ?_; (with_reducible refine (HHC.out _ _ _ ?side1 ?side2).mono ?_); (case side1 => repeat (first | exact (by have h_ := (SK.c (Kd.S_reads' HG.out).2.2); rw [HLM.out] at h_; exact h_) | (with_reducible refine Kd.C_alloc ?_ _) | (with_reducible refine Kd.C_drewN ?_ _) | (with_reducible refine Kd.C_drew ?_))); (case side2 => exact (Kd.S_reads' HG.out).2.1); rintro e wq8 ⟨rfl, hd⟩; refine ⟨_, rfl, ?_⟩; have hb := hd.below; clear hd; have n0_ := Aside0.mk (Kd.F_below (by (with_reducible repeat (first | apply Kd.F_alloc | apply Kd.F_drewN | apply Kd.F_drew)); exact HF.out) hb); have n1_ := Aside0.mk (Kd.S_below (by (with_reducible repeat (first | apply Kd.S_alloc | apply Kd.S_drewN | apply Kd.S_drew)); exact HG.out) hb); have n2_ := Aside0.mk (below_step (by repeat (first | (with_reducible first | exact HB.out | apply below_alloc | apply pw_below_drewN | apply below_drew1) | exact HB.out)) hb); clear HF; clear HG; clear HB; have HF := n0_; have HG := n1_; have HB := n2_; clear n0_ n1_ n2_; clear hb))
  go_ret
  exact ⟨rfl, (by repeat (first | (with_reducible first | exact HB.out | apply below_alloc | apply pw_below_drewN | apply below_drew1) | exact HB.out))⟩

end Go.Proofs.Yteojcnegdcopdaa.PFnExactAllCycles
