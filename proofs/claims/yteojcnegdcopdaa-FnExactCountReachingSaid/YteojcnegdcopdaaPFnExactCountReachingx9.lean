-- Written by a program of this session (hook.py): functions, contracts and walks in the printer's form; contracts of this session's own where the printer takes none
import Derived.Test.YteojcnegdcopdaaPFnExactCountReachingx0
import Derived.Test.YteojcnegdcopdaaPFnExactCountReachingx7
import Derived.Test.YteojcnegdcopdaaPFnExactCountReachingx8
namespace Go.Proofs.Yteojcnegdcopdaa.PFnExactCountReaching
open Go.RowKit Go.Proofs.YteojcnegdcopdaaW.PrintWords Go.Proofs.YteojcnegdcopdaaW.PrintLast Go.Proofs.YteojcnegdcopdaaW.PrintMore
attribute [local go_sem] max2_int min2_int max_two min_two max_three min_three max_four min_four   -- for this text's walks alone
set_option linter.unusedVariables false
set_option linter.unusedSimpArgs false

/-! ### impl_allGaps: function 56 -/
/-! ### notFalling: every list that does not fall, handed to 'each' -/
def NF.go (g : List Int → Int → List (List Int)) (l : List Int) : Nat → Int → List (List Int)
  | 0, _ => []
  | m + 1, d => g (l ++ [d]) d ++ NF.go g l m (d + 1)
def NF.en (most : Int) : Nat → List Int → Int → List (List Int)
  | 0, l, _ => [l]
  | r + 1, l, d => NF.go (NF.en most r) l (most + 1 - d).toNat d
structure NF.Each (I : List (List Int) → (Nat → Prop) → World → Prop) (w0 : World) (q1 : Addr) (Q : List (List Int) → Prop) : Prop where
  pre : ∀ {a b : List (List Int)}, Q (a ++ b) → Q a
  move : ∀ {L ok w w'}, I L ok w → (∀ k, ok k → k < w.heap.size → w'.heap[k]? = w.heap[k]?) → w.heap.size ≤ w'.heap.size → I L ok w'
  lt : ∀ {L ok w}, I L ok w → ∀ k, ok k → w0.heap.size ≤ k ∧ k < w.heap.size
  call : ∀ {L ok w} (A : Option Addr) (c : Nat) (l : List Int), I L ok w → Below w0.heap.size w0 w → Q (L ++ [l]) → Kd.C (Kd.int .i64) w A l.length l → l.length ≤ c →
    Calls Try.prog 86 #[.slice A l.length c, .pointer (some q1)] w fun e w' => e = .returned (.tuple #[]) ∧ Below w0.heap.size w0 w' ∧ Kept w w' ok ∧ ∃ ok', (∀ k, ok' k → ok k ∨ w.heap.size ≤ k) ∧ I (L ++ [l]) ok' w'
structure NF.Box (w : World) (ok : Nat → Prop) (pm pe pt po : Addr) (q1 : Addr) (many most : Int) : Prop where
  m : w.cell? pm = some (.int .i64 many)
  e : w.cell? pe = some (.func (.func 86) #[] #[.pointer (some q1)])
  t : w.cell? pt = some (.int .i64 most)
  o : w.cell? po = some (.func (.func 99) #[] #[.pointer (some pm), .pointer (some pe), .pointer (some pt), .pointer (some po)])
  nm : ¬ ok pm.block
  ne : ¬ ok pe.block
  nt : ¬ ok pt.block
  no : ¬ ok po.block
theorem NF.assoc {Q : List (List Int) → Prop} {a b c : List (List Int)} (h : Q (a ++ (b ++ c))) : Q (a ++ b ++ c) := by rw [List.append_assoc]; exact h
theorem NF.lt_cell {w : World} {p : Addr} {v : Value} (h : w.cell? p = some v) : p.block < w.heap.size := World.block_lt_of_cell? w p h
theorem NF.cellk {w w' : World} {p : Addr} {v : Value} {ok : Nat → Prop} (hc : w.cell? p = some v) (hk : Kept w w' ok) (hn : ¬ ok p.block) : w'.cell? p = some v := by
  have := hk.2 p.block (NF.lt_cell hc) hn
  simpa [World.cell?, this] using hc
theorem NF.Box.kept {w w' : World} {ok ok' : Nat → Prop} {pm pe pt po : Addr} {q1 : Addr} {many most : Int} (h : NF.Box w ok pm pe pt po q1 many most) (hk : Kept w w' ok) (hs : ∀ k, ok' k → ok k ∨ w.heap.size ≤ k) : NF.Box w' ok' pm pe pt po q1 many most := by
  have a := NF.lt_cell h.m
  have b := NF.lt_cell h.e
  have c := NF.lt_cell h.t
  have d := NF.lt_cell h.o
  exact ⟨NF.cellk h.m hk h.nm, NF.cellk h.e hk h.ne, NF.cellk h.t hk h.nt, NF.cellk h.o hk h.no, fun e_ => (hs _ e_).elim h.nm (fun e2_ => by omega), fun e_ => (hs _ e_).elim h.ne (fun e2_ => by omega), fun e_ => (hs _ e_).elim h.nt (fun e2_ => by omega), fun e_ => (hs _ e_).elim h.no (fun e2_ => by omega)⟩
theorem NF.Each.drew {I : List (List Int) → (Nat → Prop) → World → Prop} {w0 : World} {q1 : Addr} {Q : List (List Int) → Prop} (E : NF.Each I w0 q1 Q) {L : List (List Int)} {ok : Nat → Prop} {w : World} (h : I L ok w) : I L ok w.drew := E.move h (fun _ _ _ => rfl) (Nat.le_refl _)
theorem NF.Box.drew {w : World} {ok : Nat → Prop} {pm pe pt po : Addr} {q1 : Addr} {many most : Int} (h : NF.Box w ok pm pe pt po q1 many most) : NF.Box w.drew ok pm pe pt po q1 many most := h.kept (Kept.drew (Kept.refl _ _)) (fun _ hk => .inl hk)
theorem NF.lit (w : World) (d : Int) : Kd.C (Kd.int .i64) (w.alloc (.cells #[.int .i64 d] 3)) (some ⟨w.heap.size, 0, none⟩) 1 [d] := by
  refine ⟨rfl, by omega, fun _ => ⟨_, rfl, fun j p hj => ?_⟩⟩
  cases j with
  | zero =>
    simp only [List.getElem?_cons_zero, Option.some.injEq] at hj
    subst hj
    refine ⟨[.int .i64 d], rfl, rfl, fun i u hu => ?_⟩
    cases i with
    | zero =>
      simp only [List.getElem?_cons_zero, Option.some.injEq] at hu
      subst hu
      have h2 : (w.alloc (.cells #[.int .i64 d] 3)).heap[w.heap.size]? = some (.cells #[.int .i64 d] 3 (0, 0)) := World.alloc_heap_new w _
      show (w.alloc (.cells #[.int .i64 d] 3)).cell? ⟨w.heap.size, 0, none⟩ = _
      unfold World.cell?
      rw [h2]
      rfl
    | succ i => simp at hu
  | succ j => simp at hj
theorem NF.clone (l : List Int) (h : l.length ≤ 1000) : slices_Clone_int_int.f l = some l := by unfold slices_Clone_int_int.f; rw [if_pos (by omega)]
def NF.Post (I : List (List Int) → (Nat → Prop) → World → Prop) (w0 w : World) (ok : Nat → Prop) (L : List (List Int)) (e : Ending) (w' : World) : Prop :=
  e = .returned (.tuple #[]) ∧ Below w0.heap.size w0 w' ∧ Kept w w' ok ∧ ∃ ok', (∀ k, ok' k → ok k ∨ w.heap.size ≤ k) ∧ I L ok' w'
set_option maxHeartbeats 8000000 in
set_option maxRecDepth 100000 in
theorem NF.on {I : List (List Int) → (Nat → Prop) → World → Prop} {w0 : World} {q1 : Addr} {Q : List (List Int) → Prop} (E : NF.Each I w0 q1 Q) (many : Nat) (hmany : many ≤ 1000) (most : Int) (hm : most ≤ 1000) (pm pe pt po : Addr) : ∀ (r : Nat) (L : List (List Int)) (ok okl : Nat → Prop) (w : World) (A : Option Addr) (c : Nat) (l : List Int) (d : Int), r + l.length = many → 0 ≤ d → d ≤ 1000 → Q (L ++ NF.en most r l d) → I L ok w → Below w0.heap.size w0 w → NF.Box w ok pm pe pt po q1 many most → Kd.F (Kd.int .i64) w okl A l.length l → (∀ k, okl k → ¬ ok k ∧ k < w.heap.size) → l.length ≤ c →
    Calls Try.prog 99 #[.slice A l.length c, .int .i64 d, .pointer (some pm), .pointer (some pe), .pointer (some pt), .pointer (some po)] w (NF.Post I w0 w ok (L ++ NF.en most r l d))
  | 0, L, ok, okl, w, A, c, l, d, hr, h0, h1, hQ, hI, hB, hX, hF, hFd, hc => by
    have HE := Aside0.mk (E.call A c l hI hB hQ (Kd.F_now hF) hc)
    have hl : l.length = many := by omega
    subst hl
    have c1 := hX.m
    have c2 := hX.e
    clear hQ hI hB hX hF hFd hc hr h0 h1 E hmany hm
    go_enter Try.func99, Try.ntmps99
    go_wp2_with (first | (go_at_call 86; (with_reducible refine HE.out.mono ?_); rintro e w2 ⟨rfl, h1, h2, h3⟩; have HR := Aside0.mk h1; have HK := Aside0.mk h2; have HI := Aside0.mk h3; clear h1 h2 h3))
    go_end0
    exact ⟨rfl, HR.out, HK.out, HI.out⟩
  | r + 1, L, ok, okl, w, A, c, l, d, hr, h0, h1, hQ, hI, hB, hX, hF, hFd, hc => by
    have IH := Aside0.mk (NF.on E many hmany most hm pm pe pt po r)
    have EE := Aside0.mk E
    have HQ := Aside0.mk hQ
    have HI := Aside0.mk hI
    have HB := Aside0.mk hB
    have HX := Aside0.mk hX
    have HF := Aside0.mk hF
    have HFD := Aside0.mk hFd
    have HC := Aside0.mk hc
    have HR := Aside0.mk hr
    have HM := Aside0.mk hmany
    have H0 : Aside0 (0 ≤ d ∧ d ≤ 1000 ∧ most ≤ 1000) := ⟨h0, h1, hm⟩
    have hll : l.length ≤ 1000 := by omega
    have e1 : ((l.length : Int) == (many : Int)) = false := beq_eq_false_iff_ne.mpr (by omega)
    have e2 : (l.length == many) = false := beq_eq_false_iff_ne.mpr (by omega)
    have c1 := hX.m
    clear hQ hI hB hX hF hFd hc hr h0 h1 E hmany hm
    go_enter Try.func99, Try.ntmps99
    go_wp2
    clear c1
    go_loopw [8] (fun v8 wr => ∃ (d' : Int) (m : Nat) (L' : List (List Int)) (ok' : Nat → Prop), v8 = .int .i64 d' ∧ 0 ≤ d' ∧ d' ≤ 1001 ∧ m = (most + 1 - d').toNat ∧ Aside0 (L' ++ NF.go (NF.en most r) l m d' = L ++ NF.en most (r + 1) l d) ∧ Aside0 (I L' ok' wr) ∧ Aside0 (∀ k, ok' k → ok k ∨ w.heap.size ≤ k) ∧ Aside0 (Kept w wr ok) ∧ Aside0 (Below w0.heap.size w0 wr)) (fun v8 _ => (most + 1 - intOf v8).toNat)
    case atStart => exact ⟨d, _, L, ok, rfl, H0.out.1, by have := H0.out; omega, rfl, ⟨rfl⟩, HI, ⟨fun k hk => .inl hk⟩, ⟨Kept.refl _ _⟩, HB⟩
    case round =>
      obtain ⟨d', m, L', ok', rfl, d0, d1, hm, HE, HIr, HS, HK, HBr⟩ := hrel
      have HXr := Aside0.mk (HX.out.kept HK.out HS.out)
      by_cases hlt : d' ≤ most
      · obtain ⟨m', rfl⟩ : ∃ m', m = m' + 1 := ⟨m - 1, by omega⟩
        have hm' : m' = (most + 1 - (d' + 1)).toNat := by omega
        have HQL : Aside0 (Q (L' ++ NF.en most r (l ++ [d']) d')) := ⟨EE.out.pre (b := NF.go (NF.en most r) l m' (d' + 1)) (NF.assoc (HE.out.symm ▸ HQ.out))⟩
        have HLT := Aside0.mk hlt
        have c3 := HXr.out.t
        have c4 := HXr.out.o
        have hltb : decide (d' ≤ most) = true := decide_eq_true hlt
        have HFr := Aside0.mk (Kd.F_kept HF.out HK.out (fun k h_ => (HFD.out k h_).1))
        clear hlt hm
        go_upto_region 5 with (fail)
        (try simp only [Act.put, List.setIfInBounds_toArray, List.set_cons_zero, List.set_cons_succ])
        have HCL := Aside0.mk (NF.clone l hll)
        clear c3 hll
        have n0_ := Aside0.mk (EE.out.drew HIr.out)
        have n1_ := Aside0.mk (NF.Box.drew HXr.out)
        have n2_ := Aside0.mk (Kd.F_drew HFr.out)
        have n3_ := Aside0.mk (below_drew1 HBr.out)
        have n4_ := Aside0.mk (Kept.drew HK.out)
        clear HIr
        clear HXr
        clear HFr
        clear HBr
        clear HK
        have HIr := n0_
        have HXr := n1_
        have HFr := n2_
        have HBr := n3_
        have HK := n4_
        clear n0_ n1_ n2_ n3_ n4_
        refine start_ (n := 8) (S := fun w' => w'.cell? po = some (.func (.func 99) #[] #[.pointer (some pm), .pointer (some pe), .pointer (some pt), .pointer (some po)])) (ds := []) #[false, false, false, false, false, false, false, false] (by kernel_rfl) rfl rfl c4 (fun hHeld => ?_)
        generalize wr.drew = wg at HIr HXr HFr HBr HK hHeld ⊢
        refine take_ (i := 0) (N := some 22) (v := ?_) (a' := ?_) #[true, false, false, false, false, false, false, false] rfl rfl (by kernel_rfl) (fun _ _ _ h => h) (Or.inl ⟨by rfl, ?_⟩) hHeld ?_ ?_
        rotate_left
        · intro w' hw'
          have hr_ := hw'
          go_simp
          with_reducible rfl
        rotate_left
        · simp only [Act.put, List.setIfInBounds_toArray, List.set_cons_zero, List.set_cons_succ, i64_w, i32_w]
          rfl
        refine pure_ (i := 1) (N := some 23) (v := ?_) (a' := ?_) #[true, true, false, false, false, false, false, false] rfl rfl (by kernel_rfl) (fun _ _ _ h => h) (Or.inl ⟨by rfl, ?_⟩) ?_ ?_
        rotate_left
        · intro w'
          go_simp
          with_reducible rfl
        rotate_left
        · simp only [Act.put, List.setIfInBounds_toArray, List.set_cons_zero, List.set_cons_succ, i64_w, i32_w]
          rfl
        refine pure_ (i := 3) (N := some 25) (v := ?_) (a' := ?_) #[true, true, false, true, false, false, false, false] rfl rfl (by kernel_rfl) (fun _ _ _ h => h) (Or.inl ⟨by rfl, ?_⟩) ?_ ?_
        rotate_left
        · intro w'
          go_simp
          with_reducible rfl
        rotate_left
        · simp only [Act.put, List.setIfInBounds_toArray, List.set_cons_zero, List.set_cons_succ, i64_w, i32_w]
          rfl
        refine pure_ (i := 6) (N := some 28) (v := ?_) (a' := ?_) #[true, true, false, true, false, false, true, false] rfl rfl (by kernel_rfl) (fun _ _ _ h => h) (Or.inl ⟨by rfl, ?_⟩) ?_ ?_
        rotate_left
        · intro w'
          go_simp
          with_reducible rfl
        rotate_left
        · simp only [Act.put, List.setIfInBounds_toArray, List.set_cons_zero, List.set_cons_succ, i64_w, i32_w]
          rfl
        refine join_ (σ := Option Addr × Nat × Nat) 2 #[true, true, true, true, true, false, true, false] (fun s => [(24, .slice s.1 l.length s.2.1), (26, .slice (some ⟨s.2.2, 0, none⟩) 1 1)]) (fun s w' => Kd.R (Kd.int .i64) 3 w' wg.heap.size (fun _ => True) (.slice s.1 l.length s.2.1) l ∧ Kd.C (Kd.int .i64) w' (some ⟨s.2.2, 0, none⟩) 1 [d'] ∧ Below wg.heap.size wg w') (fun s w' hF => ?_) (fun hJ => ?_)
        rotate_left
        · refine two_ (i := 2) (j := 4) (Ni := some 24) (Nj := some 26) #[true, true, true, true, false, false, true, false] #[true, true, false, true, true, false, true, false] rfl rfl rfl rfl (by kernel_rfl) (by decide) (by decide) (fun K hK => ?_) (fun K hK => ?_)
          · skip
            refine goes_ Try.func91 (by kernel_rfl) rfl #[.slice A l.length c] (by rfl) rfl rfl (by simp only [List.map_toArray, List.map_cons, List.map_nil]; rfl) ?_
            refine (slices_Clone_int_int.calls _ _ l l _ (Kd.F_now HFr.out) HC.out HCL.out).mono ?_
            rintro e w1 ⟨vc, rfl, ho, hb⟩
            refine ⟨_, rfl, ?_⟩
            obtain ⟨Ac, cc, ec⟩ := Kd.R_slice ho
            subst ec
            have HH_ := Aside0.mk (pw_cell_below hb hHeld)
            have HO1 := Aside0.mk ho
            have HB1 := Aside0.mk hb
            clear ho hb
            refine hK.out _ _ HH_.out (fun hHeld => ?_)
            clear hK K
            refine norm_ (a' := ?_) ?_ ?_
            rotate_left
            · show Act.put _ (some 24) _ = _
              simp only [Act.put, List.setIfInBounds_toArray, List.set_cons_zero, List.set_cons_succ, i64_w, i32_w]
              rfl
            refine one_ (i := 4) (N := some 26) #[true, true, true, true, true, false, true, false] rfl rfl (by kernel_rfl) (by decide) (fun K hK => ?_)
            refine value_ (w1 := ?_) (v := ?_) (by rfl) rfl ?_ ?_
            rotate_left 2
            · (go_simp; constructor <;> rfl)
            have HH_ := Aside0.mk (pw_cell_below (below_alloc (Below.refl _ w1) (.cells #[.int .i64 d'] 3)) HH_.out)
            refine hK.out _ _ HH_.out (fun hHeld => ?_)
            clear hK K
            refine norm_ ?_ (hJ (Ac, cc, w1.heap.size) _ ⟨Kd.R_alloc HO1.out _, NF.lit w1 d', below_alloc HB1.out _⟩)
            simp only [putAll, Act.put, List.setIfInBounds_toArray, List.set_cons_zero, List.set_cons_succ, i64_w, i32_w]
          · skip
            refine value_ (w1 := ?_) (v := ?_) (by rfl) rfl ?_ ?_
            rotate_left 2
            · (go_simp; constructor <;> rfl)
            have HH_ := Aside0.mk (pw_cell_below (below_alloc (Below.refl _ wg) (.cells #[.int .i64 d'] 3)) hHeld)
            refine hK.out _ _ HH_.out (fun hHeld => ?_)
            clear hK K
            refine norm_ (a' := ?_) ?_ ?_
            rotate_left
            · show Act.put _ (some 26) _ = _
              simp only [Act.put, List.setIfInBounds_toArray, List.set_cons_zero, List.set_cons_succ, i64_w, i32_w]
              rfl
            refine one_ (i := 2) (N := some 24) #[true, true, true, true, true, false, true, false] rfl rfl (by kernel_rfl) (by decide) (fun K hK => ?_)
            refine goes_ Try.func91 (by kernel_rfl) rfl #[.slice A l.length c] (by rfl) rfl rfl (by simp only [List.map_toArray, List.map_cons, List.map_nil]; rfl) ?_
            refine (slices_Clone_int_int.calls _ _ l l _ (Kd.F_now (Kd.F_alloc HFr.out _)) HC.out HCL.out).mono ?_
            rintro e w1 ⟨vc, rfl, ho, hb⟩
            refine ⟨_, rfl, ?_⟩
            obtain ⟨Ac, cc, ec⟩ := Kd.R_slice ho
            subst ec
            have HH_ := Aside0.mk (pw_cell_below hb HH_.out)
            have HO1 := Aside0.mk ho
            have HB1 := Aside0.mk hb
            clear ho hb
            refine hK.out _ _ HH_.out (fun hHeld => ?_)
            clear hK K
            refine norm_ ?_ (hJ (Ac, cc, wg.heap.size) _ ⟨Kd.R_lower HO1.out (by simp), Kd.C_below (NF.lit wg d') HB1.out, below_step (below_alloc (Below.refl _ _) _) HB1.out⟩)
            simp only [putAll, Act.put, List.setIfInBounds_toArray, List.set_cons_zero, List.set_cons_succ, i64_w, i32_w]
        obtain ⟨Ac, cc, g⟩ := s
        obtain ⟨ho, hlit, hb⟩ := hF
        have HHg := Aside0.mk hHeld
        have HO1 := Aside0.mk ho
        have HLI := Aside0.mk hlit
        have HB1 := Aside0.mk hb
        clear ho hlit hb hHeld
        refine norm_ (a' := ?_) ?_ ?_
        rotate_left
        · simp only [putAll, Act.put, List.setIfInBounds_toArray, List.set_cons_zero, List.set_cons_succ, i64_w, i32_w]
          rfl
        refine one_ (i := 5) (N := some 27) #[true, true, true, true, true, true, true, false] rfl rfl (by kernel_rfl) (by decide) (fun K hK => ?_)
        refine Kd.R_append_rows_step (Kd.int .i64) (w0 := wg) wg.heap.size (by rfl) (.tmp 24) (.tmp 26) 22 3 (.int .i64 0) 8 rfl Try.underlying22 info3 rfl (by decide) (by omega) (.slice Ac l.length cc) l [d'] (some ⟨g, 0, none⟩) 1 1 (fun _ => True) (fun _ => False) rfl rfl ?aO ?aR (fun _ _ h => h) (fun _ h => h.elim) ?aF ?aB ?aS ?aL ?_
        (case aR => exact HLI.out)
        (case aB => exact HB1.out)
        (case aF => exact (fun _ _ => trivial))
        (case aO => exact HO1.out)
        (case aS => exact below_size HB1.out)
        (case aL => have := HM.out; have := HR.out; omega)
        intro v2 w2 ho hb hg hat
        obtain ⟨A2, c2, e2⟩ := Kd.R_slice ho
        subst e2
        have HH_ := Aside0.mk (pw_cell_below hb HHg.out)
        have HO2 := Aside0.mk ho
        have HB2 := Aside0.mk hb
        clear ho hb hg hat
        refine hK.out _ _ HH_.out (fun hHeld => ?_)
        clear hK K
        refine norm_ (a' := ?_) ?_ ?_
        rotate_left
        · show Act.put _ (some 27) _ = _
          simp only [Act.put, List.setIfInBounds_toArray, List.set_cons_zero, List.set_cons_succ, i64_w, i32_w]
          rfl
        refine one_ (i := 7) (N := some 29) #[true, true, true, true, true, true, true, true] rfl rfl (by kernel_rfl) (by decide) (fun K hK => ?_)
        refine call_ 99 #[.slice A2 (l ++ [d']).length c2, .int .i64 d', .pointer (some pm), .pointer (some pe), .pointer (some pt), .pointer (some po)] (by rfl) rfl ?_ ?_
        · go_simp
        refine (IH.out L' ok' (fun k => wg.heap.size ≤ k ∧ k < w2.heap.size) w2 A2 c2 (l ++ [d']) d' (by have := HR.out; simp; omega) d0 (by have := HLT.out; have := H0.out; omega) HQL.out (EE.out.move HIr.out (fun k _ hlt => HB2.out.block k hlt) HB2.out.size) (below_step HBr.out HB2.out) (HXr.out.kept (Kept.of_below HB2.out ok') (fun k hk => .inl hk)) (Kd.F_mono (Kd.R_F (Kd.R_bound HO2.out)) (fun k hk => ⟨hk.2.1, hk.2.2.1⟩)) (fun k hk => ⟨fun h_ => by have := (EE.out.lt HIr.out k h_).2; omega, hk.2⟩) (Kd.R_reads' HO2.out).2.1).mono ?_
        rintro e w3 ⟨rfl, h1, h2, ok3, h3, h4⟩
        refine ⟨_, rfl, ?_⟩
        have HH_ := Aside0.mk (NF.cellk HH_.out h2 HXr.out.no)
        have HB3 := Aside0.mk h1
        have HK3 := Aside0.mk (HK.out.then_ (Kept.then_ (Kept.of_below HB2.out ok') h2 (fun k hk => .inl hk)) (fun k hk => HS.out k hk))
        have HS3 : Aside0 (∀ k, ok3 k → ok k ∨ w.heap.size ≤ k) := ⟨fun k hk => (h3 k hk).elim (HS.out k) (fun h_ => .inr (Nat.le_trans HK.out.1 (Nat.le_trans HB2.out.size h_)))⟩
        have HI3 := Aside0.mk h4
        clear h1 h2 h3 h4
        refine hK.out _ _ HH_.out (fun hHeld => ?_)
        clear hK K
        refine norm_ (a' := ?_) ?_ ?_
        rotate_left
        · show Act.put _ (some 29) _ = _
          simp only [Act.put, List.setIfInBounds_toArray, List.set_cons_zero, List.set_cons_succ, i64_w, i32_w]
          rfl
        refine done_ (by kernel_rfl) ?_
        try go_wp2
        go_roundw
        case rel => exact ⟨d' + 1, m', L' ++ NF.en most r (l ++ [d']) d', ok3, rfl, by omega, by have := HLT.out; have := H0.out; omega, hm', ⟨by rw [List.append_assoc]; exact HE.out⟩, HI3, HS3, HK3, HB3⟩
        case measure => have := HLT.out; simp [intOf]; omega
      · have c3 := HXr.out.t
        have hltb : decide (d' ≤ most) = false := decide_eq_false hlt
        have HM0 : Aside0 (m = 0) := ⟨by omega⟩
        clear hlt hm
        go_wp2
        go_end0
        refine ⟨rfl, HBr.out, HK.out, ok', HS.out, ?_⟩
        have h := HE.out
        rw [HM0.out] at h
        rw [← h]
        simpa [NF.go] using HIr.out
set_option maxHeartbeats 8000000 in
set_option maxRecDepth 100000 in
theorem NF.calls {I : List (List Int) → (Nat → Prop) → World → Prop} {w0 : World} {q1 : Addr} {Q : List (List Int) → Prop} (E : NF.Each I w0 q1 Q) (many : Nat) (hmany : many ≤ 1000) (least most : Int) (h0 : 0 ≤ least) (h1 : least ≤ 1000) (hm : most ≤ 1000) (L : List (List Int)) (ok : Nat → Prop) (w : World) (hQ : Q (L ++ NF.en most many [] least)) (hI : I L ok w) (hB : Below w0.heap.size w0 w) :
    Calls Try.prog 85 #[.int .i64 many, .int .i64 least, .int .i64 most, .func (.func 86) #[] #[.pointer (some q1)]] w (NF.Post I w0 w ok (L ++ NF.en most many [] least)) := by
  have HN := Aside0.mk (fun (W : World) (hw : Below w.heap.size w W) (hb : NF.Box W ok ⟨w.heap.size, 0, none⟩ ⟨w.heap.size + 1 + 1, 0, none⟩ ⟨w.heap.size + 1, 0, none⟩ ⟨w.heap.size + 1 + 1 + 1, 0, none⟩ q1 many most) => NF.on E many hmany most hm ⟨w.heap.size, 0, none⟩ ⟨w.heap.size + 1 + 1, 0, none⟩ ⟨w.heap.size + 1, 0, none⟩ ⟨w.heap.size + 1 + 1 + 1, 0, none⟩ many L ok (fun _ => False) W none 0 [] least (by simp) h0 h1 hQ (E.move hI (fun k _ hlt => hw.block k hlt) hw.size) (hB.trans (hw.mono hB.size)) hb (Kd.F_nil _ _ _) (fun _ h => h.elim) (Nat.le_refl _))
  have HNOT : Aside0 (∀ k, w.heap.size ≤ k → ¬ ok k) := ⟨fun k hk h => by have := (E.lt hI k h).2; omega⟩
  have hst : ∀ (a : Addr) (cs : Array Value) (W : World), (store a (.func (.func 99) #[] cs)).run Try.prog W = stored Try.prog W a (.func (.func 99) #[] cs) .plain := fun a cs W => run_store _ _ _ _ _ rfl
  clear hQ hI hB h0 h1 hm hmany E
  go_enter Try.func85, Try.ntmps85
  go_wp2_with (fail)
  (go_at_call 99; refine (HN.out _ ?hw ?hb).mono ?_; (case hw => exact below_alloc (below_alloc (below_alloc (below_alloc (Below.refl _ _) _) _) _) _); (case hb => exact ⟨by go_simp, by go_simp, by go_simp, by go_simp, HNOT.out _ (Nat.le_refl _), HNOT.out _ (show w.heap.size ≤ w.heap.size + 1 + 1 by omega), HNOT.out _ (show w.heap.size ≤ w.heap.size + 1 by omega), HNOT.out _ (show w.heap.size ≤ w.heap.size + 1 + 1 + 1 by omega)⟩); rintro e w3 ⟨rfl, h1, h2, ok3, h3, h4⟩; have H1 := Aside0.mk h1; have H2 := Aside0.mk (Kept.then_ (Kept.of_below (below_alloc (below_alloc (below_alloc (below_alloc (Below.refl _ _) _) _) _) _) ok) h2 (fun k hk => .inl hk)); have H3 : Aside0 (∀ k, ok3 k → ok k ∨ w.heap.size ≤ k) := ⟨fun k hk => (h3 k hk).elim .inl (fun h_ => .inr (by simp at h_; omega))⟩; have H4 := Aside0.mk h4; clear h1 h2 h3 h4)
  try go_wp2
  go_end0
  exact ⟨rfl, H1.out, H2.out, ok3, H3.out, H4.out⟩

/-! ### impl.allGaps$1: the reversed list is appended to what the box holds -/
theorem AG.pos {α : Type} {c : Prop} [Decidable c] {A B : Nat → Option α} {r : α} (h : c) (e : Ev A r) : Ev (fun k => if c then A k else B k) r := by simpa only [if_pos h] using e
theorem AG.neg {α : Type} {c : Prop} [Decidable c] {A B : Nat → Option α} {r : α} (h : ¬ c) (e : Ev B r) : Ev (fun k => if c then A k else B k) r := by simpa only [if_neg h] using e
theorem AG.w64 {x : Int} (h0 : -9223372036854775808 ≤ x) (h1 : x ≤ 9223372036854775807) : wrap64 x = x := by unfold wrap64; omega
theorem AG.rev_l0 : ∀ (m : Nat) (A M B : List Int) (i j : Int), M.length < m → i = (A.length : Int) → j = (A.length : Int) + M.length - 1 → A.length + M.length + B.length ≤ 4611686018427387904 →
    Ev (fun k => slices_Reverse_int_int.l0 k (A ++ M ++ B) i j) (A ++ M.reverse ++ B)
  | 0, _, _, _, _, _, h, _, _, _ => by omega
  | m + 1, A, M, B, i, j, h, hi, hj, hl => by
    match M, h, hj, hl with
    | [], h, hj, hl =>
      refine Ev.step (fun k => by rw [slices_Reverse_int_int.l0]) (AG.neg (by simp at hj; omega) (by simpa using Ev.now _))
    | [a], h, hj, hl =>
      refine Ev.step (fun k => by rw [slices_Reverse_int_int.l0]) (AG.neg (by simp at hj; omega) (by simpa using Ev.now _))
    | a :: c :: M', h, hj, hl =>
      obtain ⟨M2, b, hM⟩ : ∃ M2 b, c :: M' = M2 ++ [b] := ⟨_, _, (List.dropLast_concat_getLast (by simp : c :: M' ≠ [])).symm⟩
      rw [hM] at h hj hl ⊢
      simp only [List.length_cons, List.length_append, List.length_nil] at h hj hl
      have r1 : rd (A ++ (a :: (M2 ++ [b])) ++ B) i = a := by subst hi; simp [rd]
      have r2 : rd (A ++ (a :: (M2 ++ [b])) ++ B) j = b := by
        have : j.toNat = A.length + (M2.length + 1) := by omega
        simp [rd, this]
      have e : ((A ++ (a :: (M2 ++ [b])) ++ B).set i.toNat b).set j.toNat a = (A ++ [b]) ++ M2 ++ (a :: B) := by
        have e1 : j.toNat = (A ++ (b :: M2)).length := by simp; omega
        have e0 : i.toNat = A.length := by omega
        have s1 : (A ++ (a :: (M2 ++ [b])) ++ B).set i.toNat b = (A ++ (b :: M2)) ++ b :: B := by rw [e0]; simp
        rw [s1, e1]; simp
      refine Ev.step (fun k => by rw [slices_Reverse_int_int.l0]) (AG.pos (by omega) (AG.pos (by omega) (AG.pos (by simp; omega) (AG.pos (by omega) (AG.pos (by simp; omega) ?_)))))
      rw [r1, r2, e, AG.w64 (x := i + 1) (by omega) (by omega), AG.w64 (x := j - 1) (by omega) (by omega)]
      have ih := AG.rev_l0 m (A ++ [b]) M2 (a :: B) (i + 1) (j - 1) (by omega) (by simp; omega) (by simp; omega) (by simp; omega)
      have e2 : A ++ (a :: (M2 ++ [b])).reverse ++ B = (A ++ [b]) ++ M2.reverse ++ (a :: B) := by simp
      rw [e2]; exact ih
theorem AG.rev_ev (l : List Int) (hl : l.length ≤ 4000000000000000000) : Ev (fun k => slices_Reverse_int_int.f k l) l.reverse := by
  have := AG.rev_l0 _ [] l [] 0 ((l.length : Int) - 1) (Nat.lt_succ_self _) (by simp) (by simp) (by simp; omega)
  unfold slices_Reverse_int_int.f
  rw [AG.w64 (by omega) (by omega)]
  simpa using this
theorem AG.reversed (l : List Int) (hl : l.length ≤ 1048576) : ∃ k, impl_reversed.f k l = some l.reverse := by
  obtain ⟨K, hK⟩ := AG.rev_ev l (by omega)
  refine ⟨K, ?_⟩
  unfold impl_reversed.f
  rw [show slices_Clone_int_int.f l = some l by unfold slices_Clone_int_int.f; rw [if_pos (by omega)]]
  simp [hK K (Nat.le_refl _)]
def AG.I (q1 : Addr) (B : Nat) (L : List (List Int)) (ok : Nat → Prop) (w : World) : Prop :=
  ok q1.block ∧ (∀ k, ok k → B ≤ k ∧ k < w.heap.size) ∧ ∃ v, w.cell? q1 = some v ∧ w.frozen? q1 = false ∧ Kd.S (Kd.slice 3 (Kd.int .i64)) 22 w B (fun k => ok k ∧ k ≠ q1.block) v (L.map List.reverse)
def AG.Q (L : List (List Int)) : Prop := L.length ≤ 1000000 ∧ ∀ l ∈ L, l.length ≤ 1000
theorem AG.held {w w' : World} {p : Addr} {v : Value} (hb : Below w.heap.size w w') (h : w.cell? p = some v ∧ w.frozen? p = false) : w'.cell? p = some v ∧ w'.frozen? p = false := by
  refine ⟨pw_cell_below hb h.1, ?_⟩
  have := hb.block p.block (NF.lt_cell h.1)
  simpa [World.frozen?, this] using h.2
theorem AG.held_grown {w w' : World} {p : Addr} {v : Value} {row : Option Nat} (hg : w.grownBy w' row) (hne : some p.block ≠ row) (h : w.cell? p = some v ∧ w.frozen? p = false) : w'.cell? p = some v ∧ w'.frozen? p = false := by
  have := hg.block p.block (NF.lt_cell h.1) hne
  exact ⟨by simpa [World.cell?, this] using h.1, by simpa [World.frozen?, this] using h.2⟩
set_option maxHeartbeats 8000000 in
set_option maxRecDepth 100000 in
theorem AG.call {w0 : World} {q1 : Addr} {L : List (List Int)} {ok : Nat → Prop} {w : World} (A : Option Addr) (c : Nat) (l : List Int) (hI : AG.I q1 w0.heap.size L ok w) (hB : Below w0.heap.size w0 w) (hQ : AG.Q (L ++ [l])) (hC : Kd.C (Kd.int .i64) w A l.length l) (hc : l.length ≤ c) :
    Calls Try.prog 86 #[.slice A l.length c, .pointer (some q1)] w fun e w' => e = .returned (.tuple #[]) ∧ Below w0.heap.size w0 w' ∧ Kept w w' ok ∧ ∃ ok', (∀ k, ok' k → ok k ∨ w.heap.size ≤ k) ∧ AG.I q1 w0.heap.size (L ++ [l]) ok' w' := by
  obtain ⟨hq, hlt, v, c1, f1, hS⟩ := hI
  have hl : l.length ≤ 1000 := hQ.2 l (by simp)
  have HL : Aside0 (L.length ≤ 1000000) := ⟨by have := hQ.1; simp at this; omega⟩
  obtain ⟨kk, hk⟩ := AG.reversed l (by omega)
  have HREV := Aside0.mk hk
  have HS := Aside0.mk hS
  have HC := Aside0.mk hC
  have HB := Aside0.mk hB
  have HK := Aside0.mk (Kept.refl w ok)
  have HCC := Aside0.mk hc
  have HQ := Aside0.mk hq
  have HLT := Aside0.mk hlt
  have HQB := Aside0.mk (NF.lt_cell c1)
  have HQG := Aside0.mk (hlt _ hq).1
  clear hS hC hB hc hq hlt hQ hk hl
  go_enter Try.func86, Try.ntmps86
  go_upto_region 0 with (fail)
  (try simp only [Act.put, List.setIfInBounds_toArray, List.set_cons_zero, List.set_cons_succ])
  have n0_ := Aside0.mk (Kd.S_drew HS.out)
  have n1_ := Aside0.mk (Kd.C_drew HC.out)
  have n2_ := Aside0.mk (below_drew1 HB.out)
  have n3_ := Aside0.mk (Kept.drew HK.out)
  clear HS
  clear HC
  clear HB
  clear HK
  have HS := n0_
  have HC := n1_
  have HB := n2_
  have HK := n3_
  clear n0_ n1_ n2_ n3_
  refine start_ (n := 6) (S := fun w' => w'.cell? q1 = some v ∧ w'.frozen? q1 = false) (ds := [5]) #[false, false, false, false, false, false] (by kernel_rfl) rfl rfl ⟨c1, f1⟩ (fun hHeld => ?_)
  generalize w.drew = wg at HS HC HB HK hHeld ⊢
  refine take_ (i := 0) (N := some 3) (v := ?_) (a' := ?_) #[true, false, false, false, false, false] rfl rfl (by kernel_rfl) (fun _ _ _ h => h) (Or.inl ⟨by rfl, ?_⟩) hHeld ?_ ?_
  rotate_left
  · intro w' hw'
    have hr_ := hw'
    go_simp
    with_reducible rfl
  rotate_left
  · simp only [Act.put, List.setIfInBounds_toArray, List.set_cons_zero, List.set_cons_succ, i64_w, i32_w]
    rfl
  refine pure_ (i := 1) (N := some 4) (v := ?_) (a' := ?_) #[true, true, false, false, false, false] rfl rfl (by kernel_rfl) (fun _ _ _ h => h) (Or.inl ⟨by rfl, ?_⟩) ?_ ?_
  rotate_left
  · intro w'
    go_simp
    with_reducible rfl
  rotate_left
  · simp only [Act.put, List.setIfInBounds_toArray, List.set_cons_zero, List.set_cons_succ, i64_w, i32_w]
    rfl
  refine one_ (i := 2) (N := some 5) #[true, true, true, false, false, false] rfl rfl (by kernel_rfl) (by decide) (fun K hK => ?_)
  refine goes_ Try.func68 (by kernel_rfl) rfl #[.slice A l.length c] (by rfl) rfl rfl (by simp only [List.map_toArray, List.map_cons, List.map_nil]; rfl) ?_
  refine (impl_reversed.calls kk _ _ l _ _ HC.out HCC.out HREV.out).mono ?_
  rintro e w1 ⟨vc, rfl, ho, hb⟩
  refine ⟨_, rfl, ?_⟩
  obtain ⟨Ac, cc, ec⟩ := Kd.R_slice ho
  rw [List.length_reverse] at ec
  subst ec
  have HH_ := Aside0.mk (AG.held hb hHeld)
  have HHc := HH_
  have HO1 := Aside0.mk ho
  have HB1 := Aside0.mk hb
  clear ho hb
  refine hK.out _ _ HH_.out (fun hHeld => ?_)
  clear hK K
  refine norm_ (a' := ?_) ?_ ?_
  rotate_left
  · show Act.put _ (some 5) _ = _
    simp only [Act.put, List.setIfInBounds_toArray, List.set_cons_zero, List.set_cons_succ, i64_w, i32_w]
    rfl
  refine one_ (i := 3) (N := some 6) #[true, true, true, true, false, false] rfl rfl (by kernel_rfl) (by decide) (fun K hK => ?_)
  refine value_ (w1 := ?_) (v := ?_) (by rfl) rfl ?_ ?_
  rotate_left 2
  · (go_simp; constructor <;> rfl)
  have HH_ := Aside0.mk (AG.held (below_alloc (Below.refl _ w1) (.cells #[.slice Ac l.length cc] 22)) HH_.out)
  refine hK.out _ _ HH_.out (fun hHeld => ?_)
  clear hK K
  refine norm_ (a' := ?_) ?_ ?_
  rotate_left
  · show Act.put _ (some 6) _ = _
    simp only [Act.put, List.setIfInBounds_toArray, List.set_cons_zero, List.set_cons_succ, i64_w, i32_w]
    rfl
  refine one_ (i := 4) (N := some 7) #[true, true, true, true, true, false] rfl rfl (by kernel_rfl) (by decide) (fun K hK => ?_)
  refine Kd.S_append_step (Kd.slice 3 (Kd.int .i64)) (w0 := w0) w0.heap.size (by rfl) (.tmp 3) (.tmp 6) 31 22 (.slice none 0 0) 24 rfl Try.underlying31 info22 rfl (by decide) (by omega) v (L.map List.reverse) l.reverse [.slice Ac l.length cc] (fun k => (ok k ∨ wg.heap.size ≤ k) ∧ k ≠ q1.block) (fun k => wg.heap.size ≤ k) rfl rfl ?hp ?hokp ?hfresh ?HO ?HB ?hbase ?hl ?_
  (case hp => exact ⟨_, rfl, Kd.R_lower (Kd.R_mono (Kd.R_bound HO1.out) (fun k hk => hk.2.1)) (Nat.le_trans HB.out.size (Nat.le_refl _))⟩)
  (case hokp => exact (fun k hk => ⟨⟨.inr hk, by have := HQB.out; have := HK.out.1; omega⟩, fun e => by have := Kd.S_lt HS.out k e.symm; omega⟩))
  (case hfresh => exact (fun k hk => ⟨.inr (Nat.le_trans HB1.out.size hk), by have := HQB.out; have := HK.out.1; have := HB1.out.size; omega⟩))
  (case HO => exact Kd.S_below (Kd.S_mono (Kd.S_bound HS.out) (fun k hk => ⟨⟨.inl hk.1.1, hk.1.2⟩, by have := hk.2.2.1; omega⟩)) HB1.out)
  (case HB => exact below_step HB.out HB1.out)
  (case hbase => exact Nat.le_trans HB.out.size HB1.out.size)
  (case hl => have := HL.out; simp; omega)
  intro v2 w2 ho hb hg hat
  have HH_ := Aside0.mk (AG.held_grown hg (fun e => ((Kd.S_R HS.out).1 q1.block e.symm).2 rfl) HHc.out)
  obtain ⟨A2, c2, e2⟩ := Kd.S_slice ho
  subst e2
  have HO2 := Aside0.mk ho
  have HB2 := Aside0.mk hb
  have HG2 := Aside0.mk hg
  clear ho hb hg hat
  refine hK.out _ _ HH_.out (fun hHeld => ?_)
  clear hK K
  refine norm_ (a' := ?_) ?_ ?_
  rotate_left
  · show Act.put _ (some 7) _ = _
    simp only [Act.put, List.setIfInBounds_toArray, List.set_cons_zero, List.set_cons_succ, i64_w, i32_w]
    rfl
  refine last_ (i := 5) (N := none) #[true, true, true, true, true, true] rfl rfl (by kernel_rfl) (by decide) (fun K hK => ?_)
  obtain ⟨cq, fq⟩ := hHeld
  refine skip_ (w1 := ?_) (by rfl) rfl ?_ ?_
  rotate_left
  · go_simp
    rfl
  refine hK.out _ _ ?_
  clear hK K
  refine done_ (by kernel_rfl) ?_
  try go_wp2
  go_end0
  have hqb := HQB.out
  have hk1 := HK.out.1
  have hb1 := HB1.out.size
  have hb2 := HB2.out.size
  have hb0 := HB.out.size
  have hg2 := HG2.out.size
  have hko : ∀ k, some k = v.ownBlock → ok k := fun k e => ((Kd.S_R HS.out).1 k e.symm).1
  have HK2 : Kept w w2 ok := Kept.of_grown HG2.out (Kept.below HK.out HB1.out) (fun k e => .inl (hko k e.symm))
  refine ⟨rfl, HB2.out.setCell HQG.out _, Kept.setCell HK2 (.inl HQ.out) _, fun k => (ok k ∨ w.heap.size ≤ k) ∧ k < w2.heap.size ∧ w0.heap.size ≤ k, fun k hk => hk.1, ⟨.inl HQ.out, by omega, HQG.out⟩, fun k hk => ⟨hk.2.2, by simpa using hk.2.1⟩, _, World.cell?_setCell_same _ _ _ cq, by simpa using fq, ?_⟩
  rw [List.map_append]
  have hS2 : Kd.S (Kd.slice 3 (Kd.int .i64)) 22 w2 w0.heap.size (fun k => (ok k ∨ wg.heap.size ≤ k) ∧ k ≠ q1.block) (.slice A2 (L.length + 1) c2) (L.map List.reverse ++ List.map List.reverse [l]) := by simpa using HO2.out
  have hS3 : Kd.S (Kd.slice 3 (Kd.int .i64)) 22 w2 w0.heap.size (fun k => ((ok k ∨ w.heap.size ≤ k) ∧ k < w2.heap.size ∧ w0.heap.size ≤ k) ∧ k ≠ q1.block) (.slice A2 (L.length + 1) c2) (L.map List.reverse ++ List.map List.reverse [l]) :=
    Kd.S_mono (Kd.S_bound hS2) (fun k hk => ⟨⟨hk.1.1.imp id (fun h => by omega), hk.2.2.1, hk.2.1⟩, hk.1.2⟩)
  exact Kd.S_far hS3 (fun k hk => hk.2) _
theorem AG.each (w0 : World) (q1 : Addr) : NF.Each (AG.I q1 w0.heap.size) w0 q1 AG.Q where
  pre := fun h => ⟨by have := h.1; simp at this; omega, fun l hl => h.2 l (List.mem_append.mpr (.inl hl))⟩
  move := by
    rintro L ok w w' ⟨hq, hlt, v, c1, f1, hS⟩ hm hs
    have hb := hm _ hq (hlt _ hq).2
    refine ⟨hq, fun k hk => ⟨(hlt k hk).1, Nat.lt_of_lt_of_le (hlt k hk).2 hs⟩, v, by simpa [World.cell?, hb] using c1, by simpa [World.frozen?, hb] using f1, Kd.S_step hS (fun k hk hl => hm k hk.1 hl)⟩
  lt := fun h k hk => h.2.1 k hk
  call := fun A c l hI hB hQ hC hc => AG.call A c l hI hB hQ hC hc

/-! ### slices.SortFunc(rows, slices.Compare) -/
def SF.cmp : List Int → List Int → Int
  | [], [] => 0
  | [], _ :: _ => -1
  | _ :: _, [] => 1
  | x :: s, y :: t => if x < y then -1 else if y < x then 1 else SF.cmp s t
theorem SF.refl : ∀ a, SF.cmp a a = 0
  | [] => rfl
  | x :: s => by unfold SF.cmp; simp [SF.refl s]
theorem SF.eq : ∀ a b, SF.cmp a b = 0 → a = b
  | [], [], _ => rfl
  | [], _ :: _, h => by simp [SF.cmp] at h
  | _ :: _, [], h => by simp [SF.cmp] at h
  | x :: s, y :: t, h => by
    unfold SF.cmp at h
    split at h
    · simp at h
    · split at h
      · simp at h
      · rw [SF.eq s t h, show x = y by omega]
theorem SF.neg : ∀ a b, SF.cmp b a = - SF.cmp a b
  | [], [] => rfl
  | [], _ :: _ => rfl
  | _ :: _, [] => rfl
  | x :: s, y :: t => by
    have ih := SF.neg s t
    unfold SF.cmp
    split <;> split <;> (try split) <;> (first | omega | rfl | exact ih)
theorem SF.trans : ∀ a b c, SF.cmp a b < 0 → SF.cmp b c < 0 → SF.cmp a c < 0
  | [], [], _, h, _ => by simp [SF.cmp] at h
  | _ :: _, [], _, h, _ => by simp [SF.cmp] at h
  | [], _ :: _, [], _, h => by simp [SF.cmp] at h
  | [], _ :: _, _ :: _, _, _ => by simp [SF.cmp]
  | _ :: _, _ :: _, [], _, h => by simp [SF.cmp] at h
  | x :: s, y :: t, z :: u, h1, h2 => by
    have ih := SF.trans s t u
    unfold SF.cmp at h1 h2 ⊢
    by_cases a1 : x < y
    · by_cases a2 : y < z
      · rw [if_pos (by omega)]; omega
      · rw [if_neg a2] at h2
        by_cases a3 : z < y
        · rw [if_pos a3] at h2; omega
        · rw [if_pos (by omega)]; omega
    · rw [if_neg a1] at h1
      by_cases a3 : y < x
      · rw [if_pos a3] at h1; omega
      · rw [if_neg a3] at h1
        by_cases a2 : y < z
        · rw [if_pos (by omega)]; omega
        · rw [if_neg a2] at h2
          by_cases a4 : z < y
          · rw [if_pos a4] at h2; omega
          · rw [if_neg a4] at h2
            rw [if_neg (by omega), if_neg (by omega)]
            exact ih h1 h2
theorem SF.ntrans (a b c : List Int) (h1 : ¬ SF.cmp a b < 0) (h2 : ¬ SF.cmp b c < 0) : ¬ SF.cmp a c < 0 := by
  intro h
  have n1 := SF.neg a b
  have n2 := SF.neg b c
  have n3 := SF.neg a c
  by_cases e1 : SF.cmp a b = 0
  · rw [SF.eq a b e1] at h; exact h2 h
  · by_cases e2 : SF.cmp b c = 0
    · rw [SF.eq b c e2] at h1; exact h1 h
    · have := SF.trans c b a (by omega) (by omega)
      omega
theorem SF.cmp1 (x y : Int) : cmp_Compare_int.f x y = some (if x < y then -1 else if y < x then 1 else 0) := by
  unfold cmp_Compare_int.f cmp_isNaN_int.f
  simp
  split <;> (try split) <;> simp_all
theorem SF.l0 (a b : List Int) (ha : a.length ≤ 4611686018427387904) : ∀ (m i : Nat), a.length - i = m → i ≤ a.length → Ev (fun k => slices_Compare_int_int.l0 k a b a (a.length : Int) (i : Int)) (SF.cmp (a.drop i) (b.drop i))
  | 0, i, hm, hi => by
    refine Ev.step (fun k => by rw [slices_Compare_int_int.l0]) (AG.neg (by omega) ?_)
    have e : a.drop i = [] := List.drop_of_length_le (by omega)
    rw [e]
    by_cases h : (a.length : Int) < (b.length : Int)
    · rw [List.drop_eq_getElem_cons (l := b) (i := i) (by omega)]
      exact AG.pos h (Ev.now _)
    · rw [List.drop_of_length_le (l := b) (i := i) (by omega)]
      exact AG.neg h (Ev.now _)
  | m + 1, i, hm, hi => by
    have ih := SF.l0 a b ha m (i + 1) (by omega) (by omega)
    have hia : i < a.length := by omega
    refine Ev.step (fun k => by rw [slices_Compare_int_int.l0]) (AG.pos (by omega) (AG.pos (by omega) (AG.pos (by omega) ?_)))
    rw [List.drop_eq_getElem_cons hia]
    by_cases hb : (i : Int) ≥ (b.length : Int)
    · rw [List.drop_of_length_le (l := b) (i := i) (by omega)]
      exact AG.pos hb (Ev.now _)
    · have hib : i < b.length := by omega
      rw [List.drop_eq_getElem_cons hib]
      refine AG.neg hb (AG.pos (by omega) ?_)
      have ra : rd a (i : Int) = a[i] := by simp [rd, hia]
      have rb : rd b (i : Int) = b[i] := by simp [rd, hib]
      rw [ra, rb]
      simp only [SF.cmp1, Option.bind_some]
      rw [AG.w64 (by omega) (by omega)]
      show Ev _ (if a[i] < b[i] then -1 else if b[i] < a[i] then 1 else SF.cmp (a.drop (i + 1)) (b.drop (i + 1)))
      by_cases c1 : a[i] < b[i]
      · simp only [if_pos c1]
        exact AG.neg (by decide) (Ev.now _)
      · simp only [if_neg c1]
        by_cases c2 : b[i] < a[i]
        · simp only [if_pos c2]
          exact AG.neg (by decide) (Ev.now _)
        · simp only [if_neg c2]
          exact AG.pos trivial ih
theorem SF.compare (a b : List Int) (ha : a.length ≤ 4611686018427387904) : ∃ k, slices_Compare_int_int.f k a b = some (SF.cmp a b) := by
  obtain ⟨K, hK⟩ := SF.l0 a b ha _ 0 rfl (by omega)
  exact ⟨K, by unfold slices_Compare_int_int.f; simpa using hK K (Nat.le_refl _)⟩
abbrev SF.El := (List Int × Nat) × Value
def SF.P (w : World) (g : Nat) (p : SF.El) : Prop := p.1.1.length ≤ 4294967296 ∧ ∃ A c, p.2 = .slice A p.1.1.length c ∧ p.1.1.length ≤ c ∧ Kd.F (Kd.int .i64) w (fun k => k ≠ g) A p.1.1.length p.1.1
theorem SF.heap {α : Type} [Inhabited α] (enc : α → Value) (w : World) (g n : Nat) (d : Array α) (os : Array Obj) (i : Nat) (hi : i < w.heap.size) (hne : i ≠ g) : (sortWorld enc w g 0 n d os).heap[i]? = w.heap[i]? := by
  unfold sortWorld
  rw [Go.Sort.heap_grow_old _ _ (by simpa using hi)]
  show (w.heap.modify g _)[i]? = _
  rw [Array.getElem?_modify, if_neg (Ne.symm hne)]
theorem SF.find (D : List SF.El) (hn : (D.map (fun p => p.1.2)).Nodup) (i : Nat) (hi : i < D.length) : D.findIdx (fun p => p.1.2 == D[i].1.2) = i := by
  rw [List.findIdx_eq hi]
  refine ⟨by simp, fun j hj => ?_⟩
  have h1 := List.pairwise_iff_getElem.mp hn j i (by simp; omega) (by simpa using hi) hj
  simpa using h1
open Go.Sort in
theorem SF.calls (v : Value) (L : List (List Int)) (w : World) (base : Nat) (ok : Nat → Prop) (hS : Kd.S (Kd.slice 3 (Kd.int .i64)) 22 w base ok v L) (h0 : 0 < L.length) (h1 : L.length ≤ 1000000) (hl : ∀ l ∈ L, l.length ≤ 4294967296) :
    Calls Try.prog 87 #[v, .func (.func 88) #[] #[]] w fun e w' => e = .returned (.tuple #[]) ∧ ∃ L', L'.Perm L ∧ L'.Pairwise (fun a b => ¬ SF.cmp b a < 0) ∧ Kd.S (Kd.slice 3 (Kd.int .i64)) 22 w' base ok v L' ∧ Kept w w' (fun k => some k = v.ownBlock) ∧ w'.os = w.os ∧ w'.tape = w.tape ∧ w'.output = w.output := by
  obtain ⟨g, cap, rfl, hg, hgl, cells, hcells⟩ := Kd.S_form hS h0
  obtain ⟨f, hown0, inner, ho, hr⟩ := hS
  rw [List.length_zipIdx] at ho
  have hsz : (Kd.tag f (Kd.slice 3 (Kd.int .i64))).sz = 1 := rfl
  rw [hsz] at ho hr
  have hil : inner.length = L.length := by have := hr.1; simpa using this
  have hM : ∀ p ∈ L.zipIdx.zip inner, (Kd.tag f (Kd.slice 3 (Kd.int .i64))).M w base (fun k => ok k ∧ some k ≠ (Value.slice (some ⟨g, 0, none⟩) L.length cap).ownBlock) p.1 [p.2] := by
    intro p hp
    obtain ⟨j, hj, rfl⟩ := List.mem_iff_getElem.mp hp
    have hj1 : j < L.zipIdx.length := by simp at hj ⊢; omega
    have hj2 : j < inner.length := by simp at hj ⊢; omega
    have := hr.2 j _ (List.getElem?_eq_getElem hj1)
    have e1 : (inner.drop j).take 1 = [inner[j]] := by rw [List.drop_eq_getElem_cons hj2]; rfl
    rw [Nat.mul_one, e1] at this
    simpa using this
  generalize hD : L.zipIdx.zip inner = D at hM
  have hDl : D.length = L.length := by rw [← hD]; simp [hil]
  have hD1 : D.map (fun p => p.1.1) = L := by
    rw [← hD]
    apply List.ext_getElem
    · simp [hil]
    · intro i a b; simp
  have hD2 : D.map (fun p => p.2) = inner := by
    rw [← hD]
    apply List.ext_getElem
    · simp [hil]
    · intro i a b; simp
  have hD3 : (D.map (fun p => p.1.2)).Nodup := by
    have : D.map (fun p => p.1.2) = List.range L.length := by
      rw [← hD]
      apply List.ext_getElem
      · simp [hil]
      · intro i a b; simp
    rw [this]; exact List.nodup_range
  have hP : ∀ p ∈ D, SF.P w g p := by
    intro p hp
    refine ⟨hl _ (hD1 ▸ List.mem_map.mpr ⟨p, hp, rfl⟩), ?_⟩
    obtain ⟨u, hu, hR⟩ := hM p hp
    have hu : p.2 = u := by simpa using hu
    obtain ⟨A, c, e⟩ := Kd.R_slice hR
    subst e
    refine ⟨A, c, hu, (Kd.R_reads' hR).2.1, Kd.F_mono (Kd.R_F hR) (fun k hk e => hk.1.2 (by rw [e]; rfl))⟩
  have : Inhabited {p : SF.El // SF.P w g p} := ⟨⟨D[0]'(by omega), hP _ (List.getElem_mem _)⟩⟩
  let enc : {p : SF.El // SF.P w g p} → Value := fun p => p.1.2
  have hone : OneCell enc := by
    rintro ⟨p, hp⟩
    obtain ⟨_, A, c, e, _⟩ := hp
    show p.2.oneCell' = true
    rw [e]; rfl
  let cf : {p : SF.El // SF.P w g p} → {p : SF.El // SF.P w g p} → Int := fun x y => SF.cmp x.1.1.1 y.1.1.1
  have hswo : SWO (ltOf cf) := by
    refine ⟨fun x => ?_, fun x y z a b => ?_, fun x y z a b => ?_⟩
    · show decide (SF.cmp x.1.1.1 x.1.1.1 < 0) = false
      rw [SF.refl]; rfl
    · have a := of_decide_eq_true a
      have b := of_decide_eq_true b
      exact decide_eq_true (SF.trans _ _ _ a b)
    · have a := of_decide_eq_false a
      have b := of_decide_eq_false b
      exact decide_eq_false (SF.ntrans _ _ _ a b)
  let dl : List {p : SF.El // SF.P w g p} := D.pmap Subtype.mk hP
  have hdl : dl.map Subtype.val = D := by simp [dl, List.map_pmap]
  have hdlen : dl.toArray.size = L.length := by simp [dl, hDl]
  have hH : Holds enc w g 0 dl.toArray := by
    intro j hj
    have hj' : j < L.length := by omega
    have hji : j < inner.length := by omega
    rw [Nat.zero_add, getElem!_pos _ j hj]
    have hv : enc dl.toArray[j] = inner[j] := by
      have e : dl.toArray[j].1 = D[j]'(by omega) := by simp [dl]
      show dl.toArray[j].1.2 = _
      rw [e]; simp [← hD2]
    refine ⟨?_, by simp [World.frozen?, hcells]⟩
    rw [hv]
    have := ho.cells (g := g) rfl j (inner[j]) (List.getElem?_eq_getElem hji)
    rwa [add_plain] at this
  have hcmp : CmpLays1 Try.prog 88 #[] enc cf g 0 dl.toArray.size w := by
    refine CmpReads.lays ?_
    intro m os dk hs x y
    obtain ⟨hx1, Ax, cx, ex, hcx, hFx⟩ := x.2
    obtain ⟨hy1, Ay, cy, ey, hcy, hFy⟩ := y.2
    obtain ⟨kk, hk⟩ := SF.compare x.1.1.1 y.1.1.1 (by omega)
    have hh := SF.heap enc w g m dk os
    have hca := slices_Compare_int_int.calls kk Ax cx x.1.1.1 Ay cy y.1.1.1 _ (sortWorld enc w g 0 m dk os) (Kd.F_now (Kd.F_step hFx (fun k hk hlt => hh k hlt hk))) hcx (Kd.F_now (Kd.F_step hFy (fun k hk hlt => hh k hlt hk))) hcy hk
    rw [← ex, ← ey] at hca
    refine Calls.mono hca ?_
    rintro e w' ⟨rfl, h⟩
    exact ⟨rfl, h.out⟩
  have hcall := Try.slices_SortFunc enc hone cf hswo 88 #[] g 0 cap dl.toArray w (fun args w => enters_ Try.func88 (by kernel_rfl) rfl args w) hcmp hH hgl (by omega)
  rw [hdlen] at hcall
  refine hcall.mono ?_
  rintro e w' ⟨rfl, d', n, os, ⟨hp1, hp2, hp3⟩, hsrt, rfl⟩
  refine ⟨rfl, ?_⟩
  have hd'l : d'.size = L.length := by omega
  have hperm : d'.toList.Perm dl := by
    have e1 : (d'.extract 0 L.length).toList = d'.toList := by rw [← hd'l]; simp
    have e2 : (dl.toArray.extract 0 L.length).toList = dl := by rw [← hdlen]; simp
    rw [e1, e2] at hp3; exact hp3
  have hpD : (d'.toList.map Subtype.val).Perm D := hdl ▸ hperm.map Subtype.val
  generalize hD' : d'.toList.map Subtype.val = D' at hpD
  have hD'l : D'.length = L.length := by rw [hpD.length_eq, hDl]
  have hsz' : (sortWorld enc w g 0 n d' os).heap.size = w.heap.size + os.size := by simp [sortWorld]
  have hold := SF.heap enc w g n d' os
  rcases ho.2 with ⟨hbad, _⟩ | ⟨g2, cap2, cur, heq, hgb, hh, hn, hc, hcs, hcur⟩
  · cases hbad
  obtain ⟨rfl, rfl⟩ : g2 = g ∧ cap2 = cap := by
    injection heq with e1 e2 e3
    injection e1 with e1
    injection e1 with e1
    exact ⟨e1.symm, e3.symm⟩
  have hnew : (sortWorld enc w g2 0 n d' os).heap[g2]? = some (.cells (putCells enc 0 d' cur) 22 (0, 0)) := by
    unfold sortWorld
    rw [heap_grow_old _ _ (by simpa using hgl)]
    show (w.heap.modify g2 _)[g2]? = _
    rw [Array.getElem?_modify, if_pos rfl, hh]
    rfl
  have hcell : ∀ j (hj : j < D'.length), (putCells enc 0 d' cur)[j]? = some (D'[j].2) := by
    intro j hj
    have hj2 : j < d'.size := by omega
    have hjc : j < cur.size := by omega
    have e : D'[j] = d'[j].1 := by simp [← hD']
    rw [e]
    simp [putCells, hj2, hjc, enc]
  have hps : (putCells enc 0 d' cur).size = cur.size := by simp [putCells]
  generalize hW : sortWorld enc w g2 0 n d' os = W at hsz' hold hnew ⊢
  have hos : W.os = w.os := by rw [← hW]; rfl
  have htape : W.tape = w.tape := by rw [← hW]; rfl
  have hout : W.output = w.output := by rw [← hW]; rfl
  clear hW
  refine ⟨D'.map (fun p => p.1.1), hD1 ▸ hpD.map _, ?_, ?_, ⟨by omega, fun i hi hne => hold i hi (fun e => hne (by rw [e]; rfl))⟩, hos, htape, hout⟩
  · rw [List.pairwise_map, List.pairwise_iff_getElem]
    intro i j hi hj hij
    have hs := hsrt i j (Nat.zero_le _) hij (by omega)
    rw [getElem!_pos _ j (by omega), getElem!_pos _ i (by omega)] at hs
    have hs := of_decide_eq_false hs
    have ei : D'[i] = d'[i].1 := by simp [← hD']
    have ej : D'[j] = d'[j].1 := by simp [← hD']
    rw [ei, ej]
    exact hs
  · have hnd : (D'.map (fun p => p.1.2)).Nodup := (hpD.map _).nodup_iff.mpr hD3
    have hown : W.ownsRow base 22 1 (.slice (some ⟨g2, 0, none⟩) L.length cap2) L.length (D'.map (fun p => p.2)) := by
      refine ⟨by simp [hD'l], .inr ⟨g2, cap2, putCells enc 0 d' cur, rfl, hgb, hnew, hn, hc, by rw [hps]; exact hcs, ?_⟩⟩
      apply List.ext_getElem?
      intro j
      rw [Nat.mul_one]
      by_cases hj : j < D'.length
      · rw [List.getElem?_take_of_lt (by omega), Array.getElem?_toList, hcell j hj]
        simp [hj]
      · rw [List.getElem?_eq_none (by simp; omega), List.getElem?_eq_none (by simp; omega)]
    refine ⟨fun k => D'.findIdx (fun p => p.1.2 == f k), hown0, D'.map (fun p => p.2), by rw [List.length_zipIdx, List.length_map, hD'l]; exact hown, (show _ = _ * 1 by simp), ?_⟩
    · intro j p hp
      obtain ⟨hjl, rfl⟩ := List.getElem?_eq_some_iff.1 hp
      have hj : j < D'.length := by simpa using hjl
      have hm := hM _ (hpD.mem_iff.mp (List.getElem_mem hj))
      have hf := SF.find D' hnd j hj
      have e1 : ((D'.map (fun p => p.2)).drop (j * 1)).take 1 = [D'[j].2] := by
        rw [Nat.mul_one, List.drop_eq_getElem_cons (by simpa using hj)]
        simp
      show (Kd.tag _ (Kd.slice 3 (Kd.int .i64))).M W base _ _ (((D'.map (fun p => p.2)).drop (j * 1)).take 1)
      rw [e1]
      have hm2 : (Kd.slice 3 (Kd.int .i64)).M w base (fun k => (ok k ∧ some k ≠ (Value.slice (some ⟨g2, 0, none⟩) L.length cap2).ownBlock) ∧ f k = D'[j].1.2) D'[j].1.1 [D'[j].2] := hm
      have hm3 := Kd.M_step (w1 := W) hm2 (fun k hk hlt => hold k hlt (fun e => hk.1.2 (by rw [e]; rfl)))
      have e2 : (List.zipIdx (D'.map (fun p => p.1.1)))[j]'hjl = (D'[j].1.1, j) := by simp
      rw [e2]
      exact (Kd.slice 3 (Kd.int .i64)).M_mono (fun k hk => ⟨hk.1, by show D'.findIdx (fun p => p.1.2 == f k) = j; rw [hk.2]; exact hf⟩) hm3

/-! ### what is sorted: the lists that do not rise -/
def AG.dn : Nat → Nat → List (List Int)
  | 0, _ => [[]]
  | r + 1, c => (List.range (c + 1)).flatMap fun x => (AG.dn r x).map fun t => (x : Int) :: t
def AG.up (most : Int) : Int → List Int → Prop
  | _, [] => True
  | d, x :: t => d ≤ x ∧ x ≤ most ∧ AG.up most x t
theorem AG.up_iff (most : Int) : ∀ (t : List Int) (d : Int), AG.up most d t ↔ (∀ x ∈ t, d ≤ x ∧ x ≤ most) ∧ t.Pairwise (· ≤ ·)
  | [], d => by simp [AG.up]
  | x :: t, d => by
    unfold AG.up
    rw [AG.up_iff most t x, List.pairwise_cons]
    constructor
    · rintro ⟨h1, h2, h3, h4⟩
      refine ⟨fun y hy => ?_, fun y hy => (h3 y hy).1, h4⟩
      rcases List.mem_cons.mp hy with rfl | hy
      · exact ⟨h1, h2⟩
      · have := h3 y hy; omega
    · rintro ⟨h1, h2, h3⟩
      have hx := h1 x (by simp)
      exact ⟨hx.1, hx.2, fun y hy => ⟨h2 y hy, (h1 y (by simp [hy])).2⟩, h3⟩
theorem AG.dn_iff : ∀ (r c : Nat) (l : List Int), l ∈ AG.dn r c ↔ l.length = r ∧ (∀ x ∈ l, 0 ≤ x ∧ x ≤ c) ∧ l.Pairwise (fun a b => b ≤ a)
  | 0, c, l => by
    unfold AG.dn
    constructor
    · intro h
      rw [List.mem_singleton] at h
      subst h
      simp
    · rintro ⟨h, _⟩
      rw [List.length_eq_zero_iff] at h
      simp [h]
  | r + 1, c, l => by
    unfold AG.dn
    rw [List.mem_flatMap]
    constructor
    · rintro ⟨x, hx, h⟩
      obtain ⟨t, ht, rfl⟩ := List.mem_map.mp h
      have hx := List.mem_range.mp hx
      obtain ⟨h1, h2, h3⟩ := (AG.dn_iff r x t).mp ht
      refine ⟨by simp [h1], fun y hy => ?_, List.pairwise_cons.mpr ⟨fun y hy => (h2 y hy).2, h3⟩⟩
      rcases List.mem_cons.mp hy with rfl | hy
      · omega
      · have := h2 y hy; omega
    · rintro ⟨h1, h2, h3⟩
      cases l with
      | nil => simp at h1
      | cons x t =>
        obtain ⟨h4, h5⟩ := List.pairwise_cons.mp h3
        have hx := h2 x (by simp)
        refine ⟨x.toNat, List.mem_range.mpr (by omega), List.mem_map.mpr ⟨t, (AG.dn_iff r x.toNat t).mpr ⟨by simpa using h1, fun y hy => ⟨(h2 y (by simp [hy])).1, by have := h4 y hy; omega⟩, h5⟩, ?_⟩⟩
        rw [Int.toNat_of_nonneg hx.1]
theorem SF.app : ∀ (l x y : List Int), SF.cmp (l ++ x) (l ++ y) = SF.cmp x y
  | [], _, _ => rfl
  | a :: l, x, y => by
    show (if a < a then (-1 : Int) else if a < a then 1 else SF.cmp (l ++ x) (l ++ y)) = _
    rw [if_neg (by omega), if_neg (by omega)]
    exact SF.app l x y
theorem AG.dn_lt : ∀ (r c : Nat), (AG.dn r c).Pairwise (fun a b => SF.cmp a b < 0)
  | 0, c => by simp [AG.dn]
  | r + 1, c => by
    unfold AG.dn
    rw [List.pairwise_flatMap]
    refine ⟨fun x _ => ?_, ?_⟩
    · rw [List.pairwise_map]
      refine (AG.dn_lt r x).imp ?_
      intro a b h
      rw [← SF.app [(x : Int)] a b] at h
      exact h
    · refine List.pairwise_lt_range.imp ?_
      intro x y hxy a ha b hb
      obtain ⟨t, _, rfl⟩ := List.mem_map.mp ha
      obtain ⟨u, _, rfl⟩ := List.mem_map.mp hb
      unfold SF.cmp
      rw [if_pos (by omega)]
      omega
theorem AG.mem_go (g : List Int → Int → List (List Int)) (l : List Int) (L : List Int) : ∀ (m : Nat) (d : Int), L ∈ NF.go g l m d ↔ ∃ x : Int, d ≤ x ∧ x < d + m ∧ L ∈ g (l ++ [x]) x
  | 0, d => by
    simp only [NF.go, List.not_mem_nil, false_iff]
    rintro ⟨x, h1, h2, _⟩
    omega
  | m + 1, d => by
    simp only [NF.go, List.mem_append]
    rw [AG.mem_go g l L m (d + 1)]
    constructor
    · rintro (h | ⟨x, h1, h2, h3⟩)
      · exact ⟨d, by omega, by omega, h⟩
      · exact ⟨x, by omega, by omega, h3⟩
    · rintro ⟨x, h1, h2, h3⟩
      by_cases h : x = d
      · subst h; exact .inl h3
      · exact .inr ⟨x, by omega, by omega, h3⟩
theorem AG.mem_en (most : Int) : ∀ (r : Nat) (l : List Int) (d : Int) (L : List Int), L ∈ NF.en most r l d ↔ ∃ t, L = l ++ t ∧ t.length = r ∧ AG.up most d t
  | 0, l, d, L => by
    simp only [NF.en, List.mem_singleton]
    constructor
    · rintro rfl; exact ⟨[], by simp, rfl, trivial⟩
    · rintro ⟨t, rfl, ht, _⟩; rw [List.length_eq_zero_iff.mp ht]; simp
  | r + 1, l, d, L => by
    simp only [NF.en]
    rw [AG.mem_go]
    constructor
    · rintro ⟨x, h1, h2, h3⟩
      obtain ⟨t, rfl, ht, hu⟩ := (AG.mem_en most r _ x L).mp h3
      exact ⟨x :: t, by simp, by simp [ht], h1, by omega, hu⟩
    · rintro ⟨t, rfl, ht, hu⟩
      cases t with
      | nil => simp at ht
      | cons x t =>
        obtain ⟨h1, h2, h3⟩ := hu
        exact ⟨x, h1, by omega, (AG.mem_en most r _ x _).mpr ⟨t, by simp, by simpa using ht, h3⟩⟩
theorem AG.en_lt (most : Int) : ∀ (r : Nat) (l : List Int) (d : Int), (NF.en most r l d).Pairwise (fun a b => SF.cmp a b < 0)
  | 0, l, d => by simp [NF.en]
  | r + 1, l, d => by
    simp only [NF.en]
    have key : ∀ (m : Nat) (d : Int), (NF.go (NF.en most r) l m d).Pairwise (fun a b => SF.cmp a b < 0) := by
      intro m
      induction m with
      | zero => intro d; simp [NF.go]
      | succ m ih =>
        intro d
        simp only [NF.go]
        rw [List.pairwise_append]
        refine ⟨AG.en_lt most r _ d, ih (d + 1), fun a ha b hb => ?_⟩
        obtain ⟨t, rfl, _⟩ := (AG.mem_en most r _ d a).mp ha
        obtain ⟨x, hx, _, hb⟩ := (AG.mem_go _ l b m (d + 1)).mp hb
        obtain ⟨u, rfl, _⟩ := (AG.mem_en most r _ x b).mp hb
        rw [List.append_assoc, List.append_assoc, SF.app]
        show SF.cmp (d :: t) (x :: u) < 0
        unfold SF.cmp
        rw [if_pos (by omega)]
        omega
    exact key _ d
theorem SF.nodup {L : List (List Int)} (h : L.Pairwise (fun a b => SF.cmp a b < 0)) : L.Nodup :=
  h.imp (fun {a b} h e => by subst e; rw [SF.refl] at h; omega)
theorem AG.perm (r c : Nat) : ((NF.en c r [] 0).map List.reverse).Perm (AG.dn r c) := by
  refine (List.perm_ext_iff_of_nodup ?_ (SF.nodup (AG.dn_lt r c))).mpr fun l => ?_
  · show List.Pairwise _ _
    rw [List.pairwise_map]
    exact (SF.nodup (AG.en_lt c r [] 0)).imp (fun {a b} h e => h (List.reverse_inj.mp e))
  · rw [List.mem_map, AG.dn_iff]
    constructor
    · rintro ⟨t, ht, rfl⟩
      obtain ⟨u, rfl, h1, h2⟩ := (AG.mem_en _ _ _ _ _).mp ht
      obtain ⟨h3, h4⟩ := (AG.up_iff _ _ _).mp h2
      refine ⟨by simpa using h1, fun x hx => h3 x (by simpa using hx), ?_⟩
      rw [List.pairwise_reverse]
      simpa using h4
    · rintro ⟨h1, h2, h3⟩
      refine ⟨l.reverse, (AG.mem_en _ _ _ _ _).mpr ⟨l.reverse, by simp, by simpa using h1, (AG.up_iff _ _ _).mpr ⟨fun x hx => h2 x (by simpa using hx), by rw [List.pairwise_reverse]; exact h3⟩⟩, by simp⟩
theorem SF.unique {L L' : List (List Int)} (hp : L'.Perm L) (hs : L'.Pairwise (fun a b => ¬ SF.cmp b a < 0)) (hd : L.Pairwise (fun a b => SF.cmp a b < 0)) : L' = L := by
  refine List.Perm.eq_of_pairwise (le := fun a b => ¬ SF.cmp b a < 0) (fun a b _ _ h1 h2 => ?_) hs (hd.imp ?_) hp
  · have := SF.neg a b
    exact SF.eq a b (by omega)
  · intro a b h h2
    have := SF.neg a b
    omega
theorem AG.dn_len : ∀ r ≤ 4, ∀ c ≤ 15, (AG.dn r c).length ≤ 4000 ∧ 0 < (AG.dn r c).length := by decide +kernel
theorem AG.en_len (r c : Nat) (hr : r ≤ 4) (hc : c ≤ 15) : (NF.en c r [] 0).length ≤ 4000 ∧ 0 < (NF.en c r [] 0).length := by
  have h := (AG.perm r c).length_eq
  rw [List.length_map] at h
  rw [h]
  exact AG.dn_len r hr c hc
theorem AG.en_Q (r c : Nat) (hr : r ≤ 4) (hc : c ≤ 15) : AG.Q (NF.en c r [] 0) := by
  refine ⟨by have := AG.en_len r c hr hc; omega, fun l hl => ?_⟩
  obtain ⟨t, e, ht, _⟩ := (AG.mem_en _ _ _ _ _).mp hl
  rw [List.nil_append] at e
  subst e
  omega

def impl_allGaps.f (a0 a1 : Int) : Option (List (List Int)) := if 1 ≤ a0 ∧ a0 ≤ 8 ∧ 2 ≤ a1 ∧ a1 ≤ 16 then some (AG.dn (a0.toNat / 2) (a1.toNat - 1)) else none
theorem impl_allGaps.start {w w1 : World} {A6 : Option Addr} {c6 : Nat} (h : Kd.S (Kd.slice 3 (Kd.int .i64)) 22 w1 w.heap.size (fun _ => True) (.slice A6 0 c6) []) (hb : Below w.heap.size w w1) :
    AG.I ⟨w1.heap.size, 0, none⟩ w.heap.size [] (fun k => w.heap.size ≤ k ∧ k < w1.heap.size + 1) (w1.alloc (.cells #[.slice A6 0 c6] 31)) := by
  have hs := hb.size
  refine ⟨⟨hs, Nat.lt_succ_self _⟩, fun k hk => ⟨hk.1, by simpa using hk.2⟩, .slice A6 0 c6, by go_simp, by go_simp, ?_⟩
  exact Kd.S_alloc (Kd.S_mono (Kd.S_bound h) (fun k hk => ⟨⟨hk.2.1, by have := hk.2.2.1; omega⟩, by have := hk.2.2.1; show k ≠ w1.heap.size; omega⟩)) _
theorem impl_allGaps.pos (q c : Nat) (hq : q ≤ 4) (hc : c ≤ 15) : 0 < (([] ++ NF.en c q [] 0).map List.reverse).length := by
  have := (AG.en_len q c hq hc).2
  simpa using this
theorem impl_allGaps.small (q c : Nat) (hq : q ≤ 4) (hc : c ≤ 15) : (([] ++ NF.en c q [] 0).map List.reverse).length ≤ 1000000 := by
  have := (AG.en_len q c hq hc).1
  simp; omega
theorem impl_allGaps.short (q c : Nat) (hq : q ≤ 4) (hc : c ≤ 15) : ∀ l ∈ ([] ++ NF.en c q [] 0).map List.reverse, l.length ≤ 4294967296 := by
  intro l hl
  obtain ⟨t, ht, rfl⟩ := List.mem_map.mp hl
  have := (AG.en_Q q c hq hc).2 t ht
  rw [List.length_reverse]
  omega
theorem impl_allGaps.sorted (q c : Nat) (hq : q ≤ 4) (hc : c ≤ 15) {L : List (List Int)} (hp : L.Perm (([] ++ NF.en c q [] 0).map List.reverse)) (hs : L.Pairwise (fun a b => ¬ SF.cmp b a < 0)) : AG.dn q c = L :=
  (SF.unique (hp.trans (AG.perm q c)) hs (AG.dn_lt q c)).symm
set_option maxHeartbeats 8000000 in
set_option maxRecDepth 100000 in
theorem impl_allGaps.calls (a0 : Int) (a1 : Int) (r : List (List Int)) (w : World) (h : impl_allGaps.f a0 a1 = some r) :
    Calls Try.prog 56 #[.int .i64 a0, .int .i64 a1] w fun e w' => ∃ v0_ : Value, e = .returned (v0_) ∧ Kd.S (Kd.slice 3 (Kd.int .i64)) 22 w' w.heap.size (fun _ => True) v0_ r ∧ Below w.heap.size w w' := by
  unfold impl_allGaps.f at h
  by_cases hg : 1 ≤ a0 ∧ a0 ≤ 8 ∧ 2 ≤ a1 ∧ a1 ≤ 16
  · rw [if_pos hg] at h
    obtain rfl := Option.some.inj h
    clear h
    obtain ⟨g1, g2, g3, g4⟩ := hg
    obtain ⟨q, hq⟩ : ∃ q : Nat, q = a0.toNat / 2 := ⟨_, rfl⟩
    obtain ⟨c, hc⟩ : ∃ c : Nat, c = a1.toNat - 1 := ⟨_, rfl⟩
    have e8 : wrap64 (Int.tdiv a0 2) = (q : Int) := by rw [Int.tdiv_eq_ediv_of_nonneg (by omega), AG.w64 (by omega) (by omega)]; omega
    have e10 : wrap64 (a1 - 1) = (c : Int) := by rw [AG.w64 (by omega) (by omega)]; omega
    have hq4 : q ≤ 4 := by omega
    have hc15 : c ≤ 15 := by omega
    rw [← hq, ← hc]
    have HQ4 := Aside0.mk hq4
    have HC15 := Aside0.mk hc15
    have HB := Aside0.mk (Below.refl w.heap.size w)
    clear hq hc g1 g2 g3 g4 hq4 hc15
    go_enter Try.func56, Try.ntmps56
    go_wp2_with (first | ((with_reducible refine gate_dst (N := 6) rfl ?_); refine Kd.S_lit (Kd.slice 3 (Kd.int .i64)) _ 22 ?hg (N := 6) ?hd (xs := ([] : List (List Int))) (inner := []) (ok := fun _ => True) (okp := fun _ => True) ?hr ?hp (fun _ hk => hk) trivial (Below.refl _ _) (Nat.le_refl _) (by simp) ?_; (case hd => rfl); (case hg => rfl); (case hr => first | (go_simp; done) | (go_simp; rfl)); (case hp => exact (Reps.none _ _)); intro v6 w1 ho hb hg_ hnew_; clear hg_ hnew_; obtain ⟨A6, c6, e6⟩ := Kd.S_slice ho; subst e6; have HO1 := Aside0.mk ho; have HB1 := Aside0.mk hb; clear ho hb HB) | (go_at_call 85; refine (NF.calls (AG.each w ⟨w1.heap.size, 0, none⟩) q (by have := HQ4.out; omega) 0 (c : Int) (by omega) (by omega) (by have := HC15.out; omega) [] (fun k => w.heap.size ≤ k ∧ k < w1.heap.size + 1) _ ?hQ ?hI ?hB).mono ?_; (case hQ => exact AG.en_Q q c HQ4.out HC15.out); (case hI => exact impl_allGaps.start HO1.out HB1.out); (case hB => exact below_alloc HB1.out _); rintro e w2 ⟨rfl, h1, h2, ok2, h3, hq2, hlt2, v2, c2, f2, hS2⟩; have HB2 := Aside0.mk h1; have HLT2 := Aside0.mk hlt2; have HS2 := Aside0.mk hS2; clear h1 h2 h3 hq2 hlt2 f2 hS2) | (go_at_call 87; refine (SF.calls v2 _ w2 w.heap.size _ HS2.out ?h0 ?h1 ?hl).mono ?_; (case h0 => exact impl_allGaps.pos q c HQ4.out HC15.out); (case h1 => exact impl_allGaps.small q c HQ4.out HC15.out); (case hl => exact impl_allGaps.short q c HQ4.out HC15.out); rintro e w3 ⟨rfl, L3, p3, s3, hS3, k3, os3, tp3, out3⟩; have c3 := NF.cellk c2 k3 (fun e => ((Kd.S_R HS2.out).1 _ e.symm).2 rfl); have HE3 := Aside0.mk (impl_allGaps.sorted q c HQ4.out HC15.out p3 s3); have HS3 := Aside0.mk hS3; have HB3 : Aside0 (Below w.heap.size w w3) := ⟨HB2.out.trans ⟨os3, tp3, out3, k3.1, fun k hk => k3.2 k (by have := HB2.out.size; omega) (fun e => by have := Kd.S_base HS2.out k e.symm; omega)⟩⟩; clear p3 s3 hS3 k3 os3 tp3 out3 c2))
    go_ret
    refine ⟨_, rfl, ?_, HB3.out⟩
    have e := HE3.out
    subst e
    exact Kd.S_mono HS3.out (fun _ _ => trivial)
  · rw [if_neg hg] at h
    cases h

end Go.Proofs.Yteojcnegdcopdaa.PFnExactCountReaching
