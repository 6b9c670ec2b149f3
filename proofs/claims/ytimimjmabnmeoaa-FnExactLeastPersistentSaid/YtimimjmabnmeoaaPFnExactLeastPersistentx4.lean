-- Written by a program of this session (hook.py): functions, contracts and walks in the printer's form; contracts of this session's own where the printer takes none
import Derived.Test.YtimimjmabnmeoaaPFnExactLeastPersistentx0
import Derived.Test.YtimimjmabnmeoaaPFnExactLeastPersistentx2
import Derived.Test.YtimimjmabnmeoaaPFnExactLeastPersistentx3
namespace Go.Proofs.Ytimimjmabnmeoaa.PFnExactLeastPersistent
open Go.RowKit Go.Proofs.YtimimjmabnmeoaaW.PrintWords Go.Proofs.YtimimjmabnmeoaaW.PrintLast Go.Proofs.YtimimjmabnmeoaaW.PrintMore
attribute [local go_sem] max2_int min2_int max_two min_two max_three min_three max_four min_four   -- for this text's walks alone
set_option linter.unusedVariables false
set_option linter.unusedSimpArgs false

/-! ### impl_LeastPersistent: function 15 -/
/-! ### notFalling: every list that does not fall, handed to 'each' -/
def NF.go (g : List Int → Int → List (List Int)) (l : List Int) : Nat → Int → List (List Int)
  | 0, _ => []
  | m + 1, d => g (l ++ [d]) d ++ NF.go g l m (d + 1)
def NF.en (most : Int) : Nat → List Int → Int → List (List Int)
  | 0, l, _ => [l]
  | r + 1, l, d => NF.go (NF.en most r) l (most + 1 - d).toNat d
structure NF.Each (I : List (List Int) → (Nat → Prop) → World → Prop) (w0 : World) (q1 q2 q3 : Addr) (Q : List (List Int) → Prop) : Prop where
  pre : ∀ {a b : List (List Int)}, Q (a ++ b) → Q a
  move : ∀ {L ok w w'}, I L ok w → (∀ k, ok k → k < w.heap.size → w'.heap[k]? = w.heap[k]?) → w.heap.size ≤ w'.heap.size → I L ok w'
  lt : ∀ {L ok w}, I L ok w → ∀ k, ok k → w0.heap.size ≤ k ∧ k < w.heap.size
  call : ∀ {L ok w} (A : Option Addr) (c : Nat) (l : List Int), I L ok w → Below w0.heap.size w0 w → Q (L ++ [l]) → Kd.C (Kd.int .i64) w A l.length l → l.length ≤ c →
    Calls Try.prog 49 #[.slice A l.length c, .pointer (some q1), .pointer (some q2), .pointer (some q3)] w fun e w' => e = .returned (.tuple #[]) ∧ Below w0.heap.size w0 w' ∧ Kept w w' ok ∧ ∃ ok', (∀ k, ok' k → ok k ∨ w.heap.size ≤ k) ∧ I (L ++ [l]) ok' w'
structure NF.Box (w : World) (ok : Nat → Prop) (pm pe pt po : Addr) (q1 q2 q3 : Addr) (many most : Int) : Prop where
  m : w.cell? pm = some (.int .i64 many)
  e : w.cell? pe = some (.func (.func 49) #[] #[.pointer (some q1), .pointer (some q2), .pointer (some q3)])
  t : w.cell? pt = some (.int .i64 most)
  o : w.cell? po = some (.func (.func 80) #[] #[.pointer (some pm), .pointer (some pe), .pointer (some pt), .pointer (some po)])
  nm : ¬ ok pm.block
  ne : ¬ ok pe.block
  nt : ¬ ok pt.block
  no : ¬ ok po.block
theorem NF.assoc {Q : List (List Int) → Prop} {a b c : List (List Int)} (h : Q (a ++ (b ++ c))) : Q (a ++ b ++ c) := by rw [List.append_assoc]; exact h
theorem NF.lt_cell {w : World} {p : Addr} {v : Value} (h : w.cell? p = some v) : p.block < w.heap.size := World.block_lt_of_cell? w p h
theorem NF.cellk {w w' : World} {p : Addr} {v : Value} {ok : Nat → Prop} (hc : w.cell? p = some v) (hk : Kept w w' ok) (hn : ¬ ok p.block) : w'.cell? p = some v := by
  have := hk.2 p.block (NF.lt_cell hc) hn
  simpa [World.cell?, this] using hc
theorem NF.Box.kept {w w' : World} {ok ok' : Nat → Prop} {pm pe pt po : Addr} {q1 q2 q3 : Addr} {many most : Int} (h : NF.Box w ok pm pe pt po q1 q2 q3 many most) (hk : Kept w w' ok) (hs : ∀ k, ok' k → ok k ∨ w.heap.size ≤ k) : NF.Box w' ok' pm pe pt po q1 q2 q3 many most := by
  have a := NF.lt_cell h.m
  have b := NF.lt_cell h.e
  have c := NF.lt_cell h.t
  have d := NF.lt_cell h.o
  exact ⟨NF.cellk h.m hk h.nm, NF.cellk h.e hk h.ne, NF.cellk h.t hk h.nt, NF.cellk h.o hk h.no, fun e_ => (hs _ e_).elim h.nm (fun e2_ => by omega), fun e_ => (hs _ e_).elim h.ne (fun e2_ => by omega), fun e_ => (hs _ e_).elim h.nt (fun e2_ => by omega), fun e_ => (hs _ e_).elim h.no (fun e2_ => by omega)⟩
theorem NF.Each.drew {I : List (List Int) → (Nat → Prop) → World → Prop} {w0 : World} {q1 q2 q3 : Addr} {Q : List (List Int) → Prop} (E : NF.Each I w0 q1 q2 q3 Q) {L : List (List Int)} {ok : Nat → Prop} {w : World} (h : I L ok w) : I L ok w.drew := E.move h (fun _ _ _ => rfl) (Nat.le_refl _)
theorem NF.Box.drew {w : World} {ok : Nat → Prop} {pm pe pt po : Addr} {q1 q2 q3 : Addr} {many most : Int} (h : NF.Box w ok pm pe pt po q1 q2 q3 many most) : NF.Box w.drew ok pm pe pt po q1 q2 q3 many most := h.kept (Kept.drew (Kept.refl _ _)) (fun _ hk => .inl hk)
theorem NF.lit (w : World) (d : Int) : Kd.C (Kd.int .i64) (w.alloc (.cells #[.int .i64 d] 3)) (some ⟨w.heap.size, 0, none⟩) 1 [d] := by
  refine ⟨rfl, by omega, fun _ => ⟨_, rfl, fun j p hj => ?_⟩⟩
  cases j with
  | zero =>
    simp only [List.getElem?_cons_zero, Option.some.injEq] at hj
    subst hj
    refine ⟨[.int .i64 d], rfl, rfl, fun i u hu => ?_⟩
    cases i with
    | zero =>
      simp only [List.getElem?_cons_zero, Option.some.injEq] at hu
      subst hu
      have h2 : (w.alloc (.cells #[.int .i64 d] 3)).heap[w.heap.size]? = some (.cells #[.int .i64 d] 3 (0, 0)) := World.alloc_heap_new w _
      show (w.alloc (.cells #[.int .i64 d] 3)).cell? ⟨w.heap.size, 0, none⟩ = _
      unfold World.cell?
      rw [h2]
      rfl
    | succ i => simp at hu
  | succ j => simp at hj
theorem NF.clone (l : List Int) (h : l.length ≤ 1000) : slices_Clone_int_int.f l = some l := by unfold slices_Clone_int_int.f; rw [if_pos (by omega)]
def NF.Post (I : List (List Int) → (Nat → Prop) → World → Prop) (w0 w : World) (ok : Nat → Prop) (L : List (List Int)) (e : Ending) (w' : World) : Prop :=
  e = .returned (.tuple #[]) ∧ Below w0.heap.size w0 w' ∧ Kept w w' ok ∧ ∃ ok', (∀ k, ok' k → ok k ∨ w.heap.size ≤ k) ∧ I L ok' w'
set_option maxHeartbeats 8000000 in
set_option maxRecDepth 100000 in
theorem NF.on {I : List (List Int) → (Nat → Prop) → World → Prop} {w0 : World} {q1 q2 q3 : Addr} {Q : List (List Int) → Prop} (E : NF.Each I w0 q1 q2 q3 Q) (many : Nat) (hmany : many ≤ 1000) (most : Int) (hm : most ≤ 1000) (pm pe pt po : Addr) : ∀ (r : Nat) (L : List (List Int)) (ok okl : Nat → Prop) (w : World) (A : Option Addr) (c : Nat) (l : List Int) (d : Int), r + l.length = many → 0 ≤ d → d ≤ 1000 → Q (L ++ NF.en most r l d) → I L ok w → Below w0.heap.size w0 w → NF.Box w ok pm pe pt po q1 q2 q3 many most → Kd.F (Kd.int .i64) w okl A l.length l → (∀ k, okl k → ¬ ok k ∧ k < w.heap.size) → l.length ≤ c →
    Calls Try.prog 80 #[.slice A l.length c, .int .i64 d, .pointer (some pm), .pointer (some pe), .pointer (some pt), .pointer (some po)] w (NF.Post I w0 w ok (L ++ NF.en most r l d))
  | 0, L, ok, okl, w, A, c, l, d, hr, h0, h1, hQ, hI, hB, hX, hF, hFd, hc => by
    have HE := Aside0.mk (E.call A c l hI hB hQ (Kd.F_now hF) hc)
    have hl : l.length = many := by omega
    subst hl
    have c1 := hX.m
    have c2 := hX.e
    clear hQ hI hB hX hF hFd hc hr h0 h1 E hmany hm
    go_enter Try.func80, Try.ntmps80
    go_wp2_with (first | (go_at_call 49; (with_reducible refine HE.out.mono ?_); rintro e w2 ⟨rfl, h1, h2, h3⟩; have HR := Aside0.mk h1; have HK := Aside0.mk h2; have HI := Aside0.mk h3; clear h1 h2 h3))
    go_end0
    exact ⟨rfl, HR.out, HK.out, HI.out⟩
  | r + 1, L, ok, okl, w, A, c, l, d, hr, h0, h1, hQ, hI, hB, hX, hF, hFd, hc => by
    have IH := Aside0.mk (NF.on E many hmany most hm pm pe pt po r)
    have EE := Aside0.mk E
    have HQ := Aside0.mk hQ
    have HI := Aside0.mk hI
    have HB := Aside0.mk hB
    have HX := Aside0.mk hX
    have HF := Aside0.mk hF
    have HFD := Aside0.mk hFd
    have HC := Aside0.mk hc
    have HR := Aside0.mk hr
    have HM := Aside0.mk hmany
    have H0 : Aside0 (0 ≤ d ∧ d ≤ 1000 ∧ most ≤ 1000) := ⟨h0, h1, hm⟩
    have hll : l.length ≤ 1000 := by omega
    have e1 : ((l.length : Int) == (many : Int)) = false := beq_eq_false_iff_ne.mpr (by omega)
    have e2 : (l.length == many) = false := beq_eq_false_iff_ne.mpr (by omega)
    have c1 := hX.m
    clear hQ hI hB hX hF hFd hc hr h0 h1 E hmany hm
    go_enter Try.func80, Try.ntmps80
    go_wp2
    clear c1
    go_loopw [8] (fun v8 wr => ∃ (d' : Int) (m : Nat) (L' : List (List Int)) (ok' : Nat → Prop), v8 = .int .i64 d' ∧ 0 ≤ d' ∧ d' ≤ 1001 ∧ m = (most + 1 - d').toNat ∧ Aside0 (L' ++ NF.go (NF.en most r) l m d' = L ++ NF.en most (r + 1) l d) ∧ Aside0 (I L' ok' wr) ∧ Aside0 (∀ k, ok' k → ok k ∨ w.heap.size ≤ k) ∧ Aside0 (Kept w wr ok) ∧ Aside0 (Below w0.heap.size w0 wr)) (fun v8 _ => (most + 1 - intOf v8).toNat)
    case atStart => exact ⟨d, _, L, ok, rfl, H0.out.1, by have := H0.out; omega, rfl, ⟨rfl⟩, HI, ⟨fun k hk => .inl hk⟩, ⟨Kept.refl _ _⟩, HB⟩
    case round =>
      obtain ⟨d', m, L', ok', rfl, d0, d1, hm, HE, HIr, HS, HK, HBr⟩ := hrel
      have HXr := Aside0.mk (HX.out.kept HK.out HS.out)
      by_cases hlt : d' ≤ most
      · obtain ⟨m', rfl⟩ : ∃ m', m = m' + 1 := ⟨m - 1, by omega⟩
        have hm' : m' = (most + 1 - (d' + 1)).toNat := by omega
        have HQL : Aside0 (Q (L' ++ NF.en most r (l ++ [d']) d')) := ⟨EE.out.pre (b := NF.go (NF.en most r) l m' (d' + 1)) (NF.assoc (HE.out.symm ▸ HQ.out))⟩
        have HLT := Aside0.mk hlt
        have c3 := HXr.out.t
        have c4 := HXr.out.o
        have hltb : decide (d' ≤ most) = true := decide_eq_true hlt
        have HFr := Aside0.mk (Kd.F_kept HF.out HK.out (fun k h_ => (HFD.out k h_).1))
        clear hlt hm
        go_upto_region 5 with (fail)
        (try simp only [Act.put, List.setIfInBounds_toArray, List.set_cons_zero, List.set_cons_succ])
        have HCL := Aside0.mk (NF.clone l hll)
        clear c3 hll
        have n0_ := Aside0.mk (EE.out.drew HIr.out)
        have n1_ := Aside0.mk (NF.Box.drew HXr.out)
        have n2_ := Aside0.mk (Kd.F_drew HFr.out)
        have n3_ := Aside0.mk (below_drew1 HBr.out)
        have n4_ := Aside0.mk (Kept.drew HK.out)
        clear HIr
        clear HXr
        clear HFr
        clear HBr
        clear HK
        have HIr := n0_
        have HXr := n1_
        have HFr := n2_
        have HBr := n3_
        have HK := n4_
        clear n0_ n1_ n2_ n3_ n4_
        refine start_ (n := 8) (S := fun w' => w'.cell? po = some (.func (.func 80) #[] #[.pointer (some pm), .pointer (some pe), .pointer (some pt), .pointer (some po)])) (ds := []) #[false, false, false, false, false, false, false, false] (by kernel_rfl) rfl rfl c4 (fun hHeld => ?_)
        generalize wr.drew = wg at HIr HXr HFr HBr HK hHeld ⊢
        refine take_ (i := 0) (N := some 22) (v := ?_) (a' := ?_) #[true, false, false, false, false, false, false, false] rfl rfl (by kernel_rfl) (fun _ _ _ h => h) (Or.inl ⟨by rfl, ?_⟩) hHeld ?_ ?_
        rotate_left
        · intro w' hw'
          have hr_ := hw'
          go_simp
          with_reducible rfl
        rotate_left
        · simp only [Act.put, List.setIfInBounds_toArray, List.set_cons_zero, List.set_cons_succ, i64_w, i32_w]
          rfl
        refine pure_ (i := 1) (N := some 23) (v := ?_) (a' := ?_) #[true, true, false, false, false, false, false, false] rfl rfl (by kernel_rfl) (fun _ _ _ h => h) (Or.inl ⟨by rfl, ?_⟩) ?_ ?_
        rotate_left
        · intro w'
          go_simp
          with_reducible rfl
        rotate_left
        · simp only [Act.put, List.setIfInBounds_toArray, List.set_cons_zero, List.set_cons_succ, i64_w, i32_w]
          rfl
        refine pure_ (i := 3) (N := some 25) (v := ?_) (a' := ?_) #[true, true, false, true, false, false, false, false] rfl rfl (by kernel_rfl) (fun _ _ _ h => h) (Or.inl ⟨by rfl, ?_⟩) ?_ ?_
        rotate_left
        · intro w'
          go_simp
          with_reducible rfl
        rotate_left
        · simp only [Act.put, List.setIfInBounds_toArray, List.set_cons_zero, List.set_cons_succ, i64_w, i32_w]
          rfl
        refine pure_ (i := 6) (N := some 28) (v := ?_) (a' := ?_) #[true, true, false, true, false, false, true, false] rfl rfl (by kernel_rfl) (fun _ _ _ h => h) (Or.inl ⟨by rfl, ?_⟩) ?_ ?_
        rotate_left
        · intro w'
          go_simp
          with_reducible rfl
        rotate_left
        · simp only [Act.put, List.setIfInBounds_toArray, List.set_cons_zero, List.set_cons_succ, i64_w, i32_w]
          rfl
        refine join_ (σ := Option Addr × Nat × Nat) 2 #[true, true, true, true, true, false, true, false] (fun s => [(24, .slice s.1 l.length s.2.1), (26, .slice (some ⟨s.2.2, 0, none⟩) 1 1)]) (fun s w' => Kd.R (Kd.int .i64) 3 w' wg.heap.size (fun _ => True) (.slice s.1 l.length s.2.1) l ∧ Kd.C (Kd.int .i64) w' (some ⟨s.2.2, 0, none⟩) 1 [d'] ∧ Below wg.heap.size wg w') (fun s w' hF => ?_) (fun hJ => ?_)
        rotate_left
        · refine two_ (i := 2) (j := 4) (Ni := some 24) (Nj := some 26) #[true, true, true, true, false, false, true, false] #[true, true, false, true, true, false, true, false] rfl rfl rfl rfl (by kernel_rfl) (by decide) (by decide) (fun K hK => ?_) (fun K hK => ?_)
          · skip
            refine goes_ Try.func56 (by kernel_rfl) rfl #[.slice A l.length c] (by rfl) rfl rfl (by simp only [List.map_toArray, List.map_cons, List.map_nil]; rfl) ?_
            refine (slices_Clone_int_int.calls _ _ l l _ (Kd.F_now HFr.out) HC.out HCL.out).mono ?_
            rintro e w1 ⟨vc, rfl, ho, hb⟩
            refine ⟨_, rfl, ?_⟩
            obtain ⟨Ac, cc, ec⟩ := Kd.R_slice ho
            subst ec
            have HH_ := Aside0.mk (pw_cell_below hb hHeld)
            have HO1 := Aside0.mk ho
            have HB1 := Aside0.mk hb
            clear ho hb
            refine hK.out _ _ HH_.out (fun hHeld => ?_)
            clear hK K
            refine norm_ (a' := ?_) ?_ ?_
            rotate_left
            · show Act.put _ (some 24) _ = _
              simp only [Act.put, List.setIfInBounds_toArray, List.set_cons_zero, List.set_cons_succ, i64_w, i32_w]
              rfl
            refine one_ (i := 4) (N := some 26) #[true, true, true, true, true, false, true, false] rfl rfl (by kernel_rfl) (by decide) (fun K hK => ?_)
            refine value_ (w1 := ?_) (v := ?_) (by rfl) rfl ?_ ?_
            rotate_left 2
            · (go_simp; constructor <;> rfl)
            have HH_ := Aside0.mk (pw_cell_below (below_alloc (Below.refl _ w1) (.cells #[.int .i64 d'] 3)) HH_.out)
            refine hK.out _ _ HH_.out (fun hHeld => ?_)
            clear hK K
            refine norm_ ?_ (hJ (Ac, cc, w1.heap.size) _ ⟨Kd.R_alloc HO1.out _, NF.lit w1 d', below_alloc HB1.out _⟩)
            simp only [putAll, Act.put, List.setIfInBounds_toArray, List.set_cons_zero, List.set_cons_succ, i64_w, i32_w]
          · skip
            refine value_ (w1 := ?_) (v := ?_) (by rfl) rfl ?_ ?_
            rotate_left 2
            · (go_simp; constructor <;> rfl)
            have HH_ := Aside0.mk (pw_cell_below (below_alloc (Below.refl _ wg) (.cells #[.int .i64 d'] 3)) hHeld)
            refine hK.out _ _ HH_.out (fun hHeld => ?_)
            clear hK K
            refine norm_ (a' := ?_) ?_ ?_
            rotate_left
            · show Act.put _ (some 26) _ = _
              simp only [Act.put, List.setIfInBounds_toArray, List.set_cons_zero, List.set_cons_succ, i64_w, i32_w]
              rfl
            refine one_ (i := 2) (N := some 24) #[true, true, true, true, true, false, true, false] rfl rfl (by kernel_rfl) (by decide) (fun K hK => ?_)
            refine goes_ Try.func56 (by kernel_rfl) rfl #[.slice A l.length c] (by rfl) rfl rfl (by simp only [List.map_toArray, List.map_cons, List.map_nil]; rfl) ?_
            refine (slices_Clone_int_int.calls _ _ l l _ (Kd.F_now (Kd.F_alloc HFr.out _)) HC.out HCL.out).mono ?_
            rintro e w1 ⟨vc, rfl, ho, hb⟩
            refine ⟨_, rfl, ?_⟩
            obtain ⟨Ac, cc, ec⟩ := Kd.R_slice ho
            subst ec
            have HH_ := Aside0.mk (pw_cell_below hb HH_.out)
            have HO1 := Aside0.mk ho
            have HB1 := Aside0.mk hb
            clear ho hb
            refine hK.out _ _ HH_.out (fun hHeld => ?_)
            clear hK K
            refine norm_ ?_ (hJ (Ac, cc, wg.heap.size) _ ⟨Kd.R_lower HO1.out (by simp), Kd.C_below (NF.lit wg d') HB1.out, below_step (below_alloc (Below.refl _ _) _) HB1.out⟩)
            simp only [putAll, Act.put, List.setIfInBounds_toArray, List.set_cons_zero, List.set_cons_succ, i64_w, i32_w]
        obtain ⟨Ac, cc, g⟩ := s
        obtain ⟨ho, hlit, hb⟩ := hF
        have HHg := Aside0.mk hHeld
        have HO1 := Aside0.mk ho
        have HLI := Aside0.mk hlit
        have HB1 := Aside0.mk hb
        clear ho hlit hb hHeld
        refine norm_ (a' := ?_) ?_ ?_
        rotate_left
        · simp only [putAll, Act.put, List.setIfInBounds_toArray, List.set_cons_zero, List.set_cons_succ, i64_w, i32_w]
          rfl
        refine one_ (i := 5) (N := some 27) #[true, true, true, true, true, true, true, false] rfl rfl (by kernel_rfl) (by decide) (fun K hK => ?_)
        refine Kd.R_append_rows_step (Kd.int .i64) (w0 := wg) wg.heap.size (by rfl) (.tmp 24) (.tmp 26) 25 3 (.int .i64 0) 8 rfl Try.underlying25 info3 rfl (by decide) (by omega) (.slice Ac l.length cc) l [d'] (some ⟨g, 0, none⟩) 1 1 (fun _ => True) (fun _ => False) rfl rfl ?aO ?aR (fun _ _ h => h) (fun _ h => h.elim) ?aF ?aB ?aS ?aL ?_
        (case aR => exact HLI.out)
        (case aB => exact HB1.out)
        (case aF => exact (fun _ _ => trivial))
        (case aO => exact HO1.out)
        (case aS => exact below_size HB1.out)
        (case aL => have := HM.out; have := HR.out; omega)
        intro v2 w2 ho hb hg hat
        obtain ⟨A2, c2, e2⟩ := Kd.R_slice ho
        subst e2
        have HH_ := Aside0.mk (pw_cell_below hb HHg.out)
        have HO2 := Aside0.mk ho
        have HB2 := Aside0.mk hb
        clear ho hb hg hat
        refine hK.out _ _ HH_.out (fun hHeld => ?_)
        clear hK K
        refine norm_ (a' := ?_) ?_ ?_
        rotate_left
        · show Act.put _ (some 27) _ = _
          simp only [Act.put, List.setIfInBounds_toArray, List.set_cons_zero, List.set_cons_succ, i64_w, i32_w]
          rfl
        refine one_ (i := 7) (N := some 29) #[true, true, true, true, true, true, true, true] rfl rfl (by kernel_rfl) (by decide) (fun K hK => ?_)
        refine call_ 80 #[.slice A2 (l ++ [d']).length c2, .int .i64 d', .pointer (some pm), .pointer (some pe), .pointer (some pt), .pointer (some po)] (by rfl) rfl ?_ ?_
        · go_simp
        refine (IH.out L' ok' (fun k => wg.heap.size ≤ k ∧ k < w2.heap.size) w2 A2 c2 (l ++ [d']) d' (by have := HR.out; simp; omega) d0 (by have := HLT.out; have := H0.out; omega) HQL.out (EE.out.move HIr.out (fun k _ hlt => HB2.out.block k hlt) HB2.out.size) (below_step HBr.out HB2.out) (HXr.out.kept (Kept.of_below HB2.out ok') (fun k hk => .inl hk)) (Kd.F_mono (Kd.R_F (Kd.R_bound HO2.out)) (fun k hk => ⟨hk.2.1, hk.2.2.1⟩)) (fun k hk => ⟨fun h_ => by have := (EE.out.lt HIr.out k h_).2; omega, hk.2⟩) (Kd.R_reads' HO2.out).2.1).mono ?_
        rintro e w3 ⟨rfl, h1, h2, ok3, h3, h4⟩
        refine ⟨_, rfl, ?_⟩
        have HH_ := Aside0.mk (NF.cellk HH_.out h2 HXr.out.no)
        have HB3 := Aside0.mk h1
        have HK3 := Aside0.mk (HK.out.then_ (Kept.then_ (Kept.of_below HB2.out ok') h2 (fun k hk => .inl hk)) (fun k hk => HS.out k hk))
        have HS3 : Aside0 (∀ k, ok3 k → ok k ∨ w.heap.size ≤ k) := ⟨fun k hk => (h3 k hk).elim (HS.out k) (fun h_ => .inr (Nat.le_trans HK.out.1 (Nat.le_trans HB2.out.size h_)))⟩
        have HI3 := Aside0.mk h4
        clear h1 h2 h3 h4
        refine hK.out _ _ HH_.out (fun hHeld => ?_)
        clear hK K
        refine norm_ (a' := ?_) ?_ ?_
        rotate_left
        · show Act.put _ (some 29) _ = _
          simp only [Act.put, List.setIfInBounds_toArray, List.set_cons_zero, List.set_cons_succ, i64_w, i32_w]
          rfl
        refine done_ (by kernel_rfl) ?_
        try go_wp2
        go_roundw
        case rel => exact ⟨d' + 1, m', L' ++ NF.en most r (l ++ [d']) d', ok3, rfl, by omega, by have := HLT.out; have := H0.out; omega, hm', ⟨by rw [List.append_assoc]; exact HE.out⟩, HI3, HS3, HK3, HB3⟩
        case measure => have := HLT.out; simp [intOf]; omega
      · have c3 := HXr.out.t
        have hltb : decide (d' ≤ most) = false := decide_eq_false hlt
        have HM0 : Aside0 (m = 0) := ⟨by omega⟩
        clear hlt hm
        go_wp2
        go_end0
        refine ⟨rfl, HBr.out, HK.out, ok', HS.out, ?_⟩
        have h := HE.out
        rw [HM0.out] at h
        rw [← h]
        simpa [NF.go] using HIr.out
set_option maxHeartbeats 8000000 in
set_option maxRecDepth 100000 in
theorem NF.calls {I : List (List Int) → (Nat → Prop) → World → Prop} {w0 : World} {q1 q2 q3 : Addr} {Q : List (List Int) → Prop} (E : NF.Each I w0 q1 q2 q3 Q) (many : Nat) (hmany : many ≤ 1000) (least most : Int) (h0 : 0 ≤ least) (h1 : least ≤ 1000) (hm : most ≤ 1000) (L : List (List Int)) (ok : Nat → Prop) (w : World) (hQ : Q (L ++ NF.en most many [] least)) (hI : I L ok w) (hB : Below w0.heap.size w0 w) :
    Calls Try.prog 48 #[.int .i64 many, .int .i64 least, .int .i64 most, .func (.func 49) #[] #[.pointer (some q1), .pointer (some q2), .pointer (some q3)]] w (NF.Post I w0 w ok (L ++ NF.en most many [] least)) := by
  have HN := Aside0.mk (fun (W : World) (hw : Below w.heap.size w W) (hb : NF.Box W ok ⟨w.heap.size, 0, none⟩ ⟨w.heap.size + 1 + 1, 0, none⟩ ⟨w.heap.size + 1, 0, none⟩ ⟨w.heap.size + 1 + 1 + 1, 0, none⟩ q1 q2 q3 many most) => NF.on E many hmany most hm ⟨w.heap.size, 0, none⟩ ⟨w.heap.size + 1 + 1, 0, none⟩ ⟨w.heap.size + 1, 0, none⟩ ⟨w.heap.size + 1 + 1 + 1, 0, none⟩ many L ok (fun _ => False) W none 0 [] least (by simp) h0 h1 hQ (E.move hI (fun k _ hlt => hw.block k hlt) hw.size) (hB.trans (hw.mono hB.size)) hb (Kd.F_nil _ _ _) (fun _ h => h.elim) (Nat.le_refl _))
  have HNOT : Aside0 (∀ k, w.heap.size ≤ k → ¬ ok k) := ⟨fun k hk h => by have := (E.lt hI k h).2; omega⟩
  have hst : ∀ (a : Addr) (cs : Array Value) (W : World), (store a (.func (.func 80) #[] cs)).run Try.prog W = stored Try.prog W a (.func (.func 80) #[] cs) .plain := fun a cs W => run_store _ _ _ _ _ rfl
  clear hQ hI hB h0 h1 hm hmany E
  go_enter Try.func48, Try.ntmps48
  go_wp2_with (fail)
  (go_at_call 80; refine (HN.out _ ?hw ?hb).mono ?_; (case hw => exact below_alloc (below_alloc (below_alloc (below_alloc (Below.refl _ _) _) _) _) _); (case hb => exact ⟨by go_simp, by go_simp, by go_simp, by go_simp, HNOT.out _ (Nat.le_refl _), HNOT.out _ (show w.heap.size ≤ w.heap.size + 1 + 1 by omega), HNOT.out _ (show w.heap.size ≤ w.heap.size + 1 by omega), HNOT.out _ (show w.heap.size ≤ w.heap.size + 1 + 1 + 1 by omega)⟩); rintro e w3 ⟨rfl, h1, h2, ok3, h3, h4⟩; have H1 := Aside0.mk h1; have H2 := Aside0.mk (Kept.then_ (Kept.of_below (below_alloc (below_alloc (below_alloc (below_alloc (Below.refl _ _) _) _) _) _) ok) h2 (fun k hk => .inl hk)); have H3 : Aside0 (∀ k, ok3 k → ok k ∨ w.heap.size ≤ k) := ⟨fun k hk => (h3 k hk).elim .inl (fun h_ => .inr (by simp at h_; omega))⟩; have H4 := Aside0.mk h4; clear h1 h2 h3 h4)
  try go_wp2
  go_end0
  exact ⟨rfl, H1.out, H2.out, ok3, H3.out, H4.out⟩

/-! ### impl.LeastPersistent$1: the first list whose number has the persistence stays in the box -/
def LP.st (k : Nat) (base kk o : Int) (l : List Int) : Option Int := (impl_value.f k l base).bind fun n => (if o = 0 then (if n ≤ 10000000 then ((impl_down.f k n base).bind fun t => (if wrap64 ((t.length : Int) - 1) = kk then some n else some o)) else some o) else some o)
def LP.fo (k : Nat) (base kk : Int) : List (List Int) → Int → Option Int
  | [], o => some o
  | l :: t, o => (LP.st k base kk o l).bind fun o2 => LP.fo k base kk t o2
theorem LP.fo_app (k : Nat) (base kk : Int) : ∀ (a b : List (List Int)) (o : Int), LP.fo k base kk (a ++ b) o = (LP.fo k base kk a o).bind fun o2 => LP.fo k base kk b o2
  | [], b, o => rfl
  | l :: a, b, o => by
    show (LP.st k base kk o l).bind (fun o2 => LP.fo k base kk (a ++ b) o2) = ((LP.st k base kk o l).bind fun o2 => LP.fo k base kk a o2).bind _
    rw [Option.bind_assoc]
    congr 1
    funext o2
    exact LP.fo_app k base kk a b o2
structure LP.I (q1 q2 q3 : Addr) (k : Nat) (base kk : Int) (B : Nat) (L : List (List Int)) (ok : Nat → Prop) (w : World) : Prop where
  k1 : ok q1.block
  k2 : ok q2.block
  k3 : ok q3.block
  lt : ∀ j, ok j → B ≤ j ∧ j < w.heap.size
  c1 : w.cell? q1 = some (.int .i64 base)
  c3 : w.cell? q3 = some (.int .i64 kk)
  c2 : ∃ o, LP.fo k base kk L 0 = some o ∧ w.cell? q2 = some (.int .i64 o) ∧ w.frozen? q2 = false
def LP.Q (k : Nat) (base kk : Int) (L : List (List Int)) : Prop := ∃ o, LP.fo k base kk L 0 = some o
def LP.S (q1 q2 q3 : Addr) (base kk o : Int) (w : World) : Prop := w.cell? q1 = some (.int .i64 base) ∧ w.cell? q2 = some (.int .i64 o) ∧ w.cell? q3 = some (.int .i64 kk)
theorem LP.S.below {q1 q2 q3 : Addr} {base kk o : Int} {w w' : World} (h : LP.S q1 q2 q3 base kk o w) (hb : Below w.heap.size w w') : LP.S q1 q2 q3 base kk o w' := ⟨pw_cell_below hb h.1, pw_cell_below hb h.2.1, pw_cell_below hb h.2.2⟩
theorem LP.frozen {w w' : World} {p : Addr} {v : Value} (hb : Below w.heap.size w w') (h : w.cell? p = some v) (hf : w.frozen? p = false) : w'.frozen? p = false := by
  have := hb.block p.block (NF.lt_cell h)
  simpa [World.frozen?, this] using hf
theorem LP.keep {w0 w w' : World} {q1 q2 q3 : Addr} {k : Nat} {base kk o o2 : Int} {L : List (List Int)} {l : List Int} {ok : Nat → Prop} (hI : LP.I q1 q2 q3 k base kk w0.heap.size L ok w) (ho : LP.fo k base kk L 0 = some o) (hs : LP.st k base kk o l = some o2) (h1 : w'.cell? q1 = some (.int .i64 base)) (h3 : w'.cell? q3 = some (.int .i64 kk)) (h2 : w'.cell? q2 = some (.int .i64 o2)) (hf : w'.frozen? q2 = false) (hz : w.heap.size ≤ w'.heap.size) : LP.I q1 q2 q3 k base kk w0.heap.size (L ++ [l]) ok w' := by
  refine ⟨hI.k1, hI.k2, hI.k3, fun j hj => ⟨(hI.lt j hj).1, Nat.lt_of_lt_of_le (hI.lt j hj).2 hz⟩, h1, h3, o2, ?_, h2, hf⟩
  rw [LP.fo_app, ho]
  show (LP.st k base kk o l).bind _ = _
  rw [hs]
  rfl
theorem LP.cell2 {q1 q2 q3 : Addr} {k B : Nat} {base kk o : Int} {L : List (List Int)} {ok : Nat → Prop} {w : World} (h : LP.I q1 q2 q3 k base kk B L ok w) (ho : LP.fo k base kk L 0 = some o) : w.cell? q2 = some (.int .i64 o) := by
  obtain ⟨o2, h2, h3, _⟩ := h.c2
  rw [ho] at h2
  obtain rfl := Option.some.inj h2
  exact h3
set_option maxHeartbeats 8000000 in
set_option maxRecDepth 100000 in
theorem LP.call {w0 : World} {q1 q2 q3 : Addr} (h12 : q1.block ≠ q2.block) (h32 : q3.block ≠ q2.block) {k : Nat} {base kk : Int} {L : List (List Int)} {ok : Nat → Prop} {w : World} (A : Option Addr) (c : Nat) (l : List Int) (hI : LP.I q1 q2 q3 k base kk w0.heap.size L ok w) (hB : Below w0.heap.size w0 w) (hQ : LP.Q k base kk (L ++ [l])) (hC : Kd.C (Kd.int .i64) w A l.length l) (hc : l.length ≤ c) :
    Calls Try.prog 49 #[.slice A l.length c, .pointer (some q1), .pointer (some q2), .pointer (some q3)] w fun e w' => e = .returned (.tuple #[]) ∧ Below w0.heap.size w0 w' ∧ Kept w w' ok ∧ ∃ ok', (∀ j, ok' j → ok j ∨ w.heap.size ≤ j) ∧ LP.I q1 q2 q3 k base kk w0.heap.size (L ++ [l]) ok' w' := by
  obtain ⟨o, ho, c2, f2⟩ := hI.c2
  have c1 := hI.c1
  have c3 := hI.c3
  have hst : ∃ o2, LP.st k base kk o l = some o2 := by
    obtain ⟨o2, h2⟩ := hQ
    rw [LP.fo_app, ho] at h2
    obtain ⟨o3, h3, _⟩ := Option.bind_eq_some_iff.mp (show (LP.st k base kk o l).bind _ = some o2 from h2)
    exact ⟨o3, h3⟩
  obtain ⟨o2, hst⟩ := hst
  have HST := Aside0.mk hst
  obtain ⟨n, hn, hst⟩ := Option.bind_eq_some_iff.mp (show (impl_value.f k l base).bind _ = some o2 from hst)
  have HN := Aside0.mk hn
  have HI := Aside0.mk hI
  have HO := Aside0.mk ho
  have HB := Aside0.mk hB
  have HC := Aside0.mk hC
  have HCC := Aside0.mk hc
  have HK := Aside0.mk (Kept.refl w ok)
  have HG := Aside0.mk (Below.refl w.heap.size w)
  have H12 := Aside0.mk h12
  have H32 := Aside0.mk h32
  have HF2 := Aside0.mk f2
  have HX := Aside0.mk (show LP.S q1 q2 q3 base kk o w from ⟨c1, c2, c3⟩)
  clear hI ho hB hC hc hn hQ h12 h32 f2
  by_cases e1 : o = 0
  · rw [if_pos e1] at hst
    have eb1 : (o == 0) = true := beq_iff_eq.mpr e1
    by_cases e2 : n ≤ 10000000
    · rw [if_pos e2] at hst
      have eb2 : decide (n ≤ 10000000) = true := decide_eq_true e2
      obtain ⟨t, ht, hst⟩ := Option.bind_eq_some_iff.mp hst
      have HT := Aside0.mk ht
      have HS2 := Aside0.mk hst
      clear ht hst e2 e1
      go_enter Try.func49, Try.ntmps49
      go_upto_region 1 with (first | (go_at_call 43; (with_reducible refine (impl_value.calls k A c l base n _ HC.out HCC.out HN.out).mono ?_); rintro e w1 ⟨rfl, ⟨nd, rfl⟩⟩; have hb_ := pw_below_drewN (Below.refl w.heap.size w) nd; have n0_ := Aside0.mk (below_step HB.out hb_); have n1_ := Aside0.mk hb_; have n2_ := Aside0.mk (LP.S.below HX.out hb_); clear HB HG HX c1 c2 c3 hb_; have HB := n0_; have HG := n1_; have HX := n2_; clear n0_ n1_ n2_))
      (try simp only [Act.put, List.setIfInBounds_toArray, List.set_cons_zero, List.set_cons_succ])
      have n0_ := Aside0.mk (below_drew1 HB.out)
      have n1_ := Aside0.mk (below_drew1 HG.out)
      clear HB
      clear HG
      have HB := n0_
      have HG := n1_
      clear n0_ n1_
      refine start_ (n := 15) (S := fun w' => w'.cell? q1 = some (.int .i64 base) ∧ w'.cell? q2 = some (.int .i64 o) ∧ w'.cell? q3 = some (.int .i64 kk)) (ds := []) #[false, false, false, false, false, false, false, false, false, false, false, false, false, false, false] (by kernel_rfl) rfl rfl HX.out (fun hHeld => ?_)
      generalize (w.drewN nd).drew = wg at HB HG hHeld ⊢
      refine take_ (i := 0) (N := some 9) (v := ?_) (a' := ?_) #[true, false, false, false, false, false, false, false, false, false, false, false, false, false, false] rfl rfl (by kernel_rfl) (fun _ _ _ h => h) (Or.inl ⟨by rfl, ?_⟩) hHeld ?_ ?_
      rotate_left
      · intro w' hw'
        have hr_ := hw'
        go_simp
        with_reducible rfl
      rotate_left
      · simp only [Act.put, List.setIfInBounds_toArray, List.set_cons_zero, List.set_cons_succ, i64_w, i32_w]
        rfl
      refine pure_ (i := 1) (N := some 10) (v := ?_) (a' := ?_) #[true, true, false, false, false, false, false, false, false, false, false, false, false, false, false] rfl rfl (by kernel_rfl) (fun _ _ _ h => h) (Or.inl ⟨by rfl, ?_⟩) ?_ ?_
      rotate_left
      · intro w'
        go_simp
        with_reducible rfl
      rotate_left
      · simp only [Act.put, List.setIfInBounds_toArray, List.set_cons_zero, List.set_cons_succ, i64_w, i32_w]
        rfl
      refine pure_ (i := 2) (N := some 11) (v := ?_) (a' := ?_) #[true, true, true, false, false, false, false, false, false, false, false, false, false, false, false] rfl rfl (by kernel_rfl) (fun _ _ _ h => h) (Or.inl ⟨by rfl, ?_⟩) ?_ ?_
      rotate_left
      · intro w'
        go_simp
        with_reducible rfl
      rotate_left
      · simp only [Act.put, List.setIfInBounds_toArray, List.set_cons_zero, List.set_cons_succ, i64_w, i32_w]
        rfl
      refine pure_ (i := 3) (N := some 12) (v := ?_) (a' := ?_) #[true, true, true, true, false, false, false, false, false, false, false, false, false, false, false] rfl rfl (by kernel_rfl) (fun _ _ _ h => h) (Or.inl ⟨by rfl, ?_⟩) ?_ ?_
      rotate_left
      · intro w'
        go_simp
        with_reducible rfl
      rotate_left
      · simp only [Act.put, List.setIfInBounds_toArray, List.set_cons_zero, List.set_cons_succ, i64_w, i32_w]
        rfl
      refine pure_ (i := 4) (N := some 13) (v := ?_) (a' := ?_) #[true, true, true, true, true, false, false, false, false, false, false, false, false, false, false] rfl rfl (by kernel_rfl) (fun _ _ _ h => h) (Or.inl ⟨by rfl, ?_⟩) ?_ ?_
      rotate_left
      · intro w'
        go_simp
        with_reducible rfl
      rotate_left
      · simp only [Act.put, List.setIfInBounds_toArray, List.set_cons_zero, List.set_cons_succ, i64_w, i32_w]
        rfl
      refine pure_ (i := 5) (N := some 14) (v := ?_) (a' := ?_) #[true, true, true, true, true, true, false, false, false, false, false, false, false, false, false] rfl rfl (by kernel_rfl) (fun _ _ _ h => h) (Or.inl ⟨by rfl, ?_⟩) ?_ ?_
      rotate_left
      · intro w'
        go_simp
        with_reducible rfl
      rotate_left
      · simp only [Act.put, List.setIfInBounds_toArray, List.set_cons_zero, List.set_cons_succ, i64_w, i32_w]
        rfl
      refine pure_ (i := 6) (N := some 15) (v := ?_) (a' := ?_) #[true, true, true, true, true, true, true, false, false, false, false, false, false, false, false] rfl rfl (by kernel_rfl) (fun _ _ _ h => h) (Or.inl ⟨by rfl, ?_⟩) ?_ ?_
      rotate_left
      · intro w'
        go_simp
        with_reducible rfl
      rotate_left
      · simp only [Act.put, List.setIfInBounds_toArray, List.set_cons_zero, List.set_cons_succ, i64_w, i32_w]
        rfl
      refine pure_ (i := 7) (N := some 16) (v := ?_) (a' := ?_) #[true, true, true, true, true, true, true, true, false, false, false, false, false, false, false] rfl rfl (by kernel_rfl) (fun _ _ _ h => h) (Or.inl ⟨by rfl, ?_⟩) ?_ ?_
      rotate_left
      · intro w'
        go_simp
        with_reducible rfl
      rotate_left
      · simp only [Act.put, List.setIfInBounds_toArray, List.set_cons_zero, List.set_cons_succ, i64_w, i32_w]
        rfl
      refine take_ (i := 8) (N := some 17) (v := ?_) (a' := ?_) #[true, true, true, true, true, true, true, true, true, false, false, false, false, false, false] rfl rfl (by kernel_rfl) (fun _ _ _ h => h) (Or.inl ⟨by rfl, ?_⟩) hHeld ?_ ?_
      rotate_left
      · intro w' hw'
        have hr_ := hw'
        go_simp
        with_reducible rfl
      rotate_left
      · simp only [Act.put, List.setIfInBounds_toArray, List.set_cons_zero, List.set_cons_succ, i64_w, i32_w]
        rfl
      refine take_ (i := 12) (N := some 21) (v := ?_) (a' := ?_) #[true, true, true, true, true, true, true, true, true, false, false, false, true, false, false] rfl rfl (by kernel_rfl) (fun _ _ _ h => h) (Or.inl ⟨by rfl, ?_⟩) hHeld ?_ ?_
      rotate_left
      · intro w' hw'
        have hr_ := hw'
        go_simp
        with_reducible rfl
      rotate_left
      · simp only [Act.put, List.setIfInBounds_toArray, List.set_cons_zero, List.set_cons_succ, i64_w, i32_w]
        rfl
      refine one_ (i := 9) (N := some 18) #[true, true, true, true, true, true, true, true, true, true, false, false, true, false, false] rfl rfl (by kernel_rfl) (by decide) (fun K hK => ?_)
      refine goes_ Try.func50 (by kernel_rfl) rfl #[.int .i64 n, .int .i64 base, .func (.func 51) #[] #[]] (by rfl) rfl rfl (by simp only [List.map_toArray, List.map_cons, List.map_nil]; rfl) ?_
      refine (impl_down.calls k n base t _ HT.out).mono ?_
      rintro e w1 ⟨vt, rfl, ht, hb⟩
      refine ⟨_, rfl, ?_⟩
      obtain ⟨At, ct, et⟩ := Kd.R_slice ht
      subst et
      have HH_ := Aside0.mk (LP.S.below hHeld hb)
      have HB1 := Aside0.mk (below_step HB.out hb)
      have HG1 := Aside0.mk (below_step HG.out hb)
      clear ht hb
      refine hK.out _ _ HH_.out (fun hHeld => ?_)
      clear hK K
      refine norm_ (a' := ?_) ?_ ?_
      rotate_left
      · show Act.put _ (some 18) _ = _
        simp only [Act.put, List.setIfInBounds_toArray, List.set_cons_zero, List.set_cons_succ, i64_w, i32_w]
        rfl
      refine pure_ (i := 10) (N := some 19) (v := ?_) (a' := ?_) #[true, true, true, true, true, true, true, true, true, true, true, false, true, false, false] rfl rfl (by kernel_rfl) (fun _ _ _ h => h) (Or.inl ⟨by rfl, ?_⟩) ?_ ?_
      rotate_left
      · intro w'
        go_simp
        with_reducible rfl
      rotate_left
      · simp only [Act.put, List.setIfInBounds_toArray, List.set_cons_zero, List.set_cons_succ, i64_w, i32_w]
        rfl
      refine pure_ (i := 11) (N := some 20) (v := ?_) (a' := ?_) #[true, true, true, true, true, true, true, true, true, true, true, true, true, false, false] rfl rfl (by kernel_rfl) (fun _ _ _ h => h) (Or.inl ⟨by rfl, ?_⟩) ?_ ?_
      rotate_left
      · intro w'
        go_simp
        with_reducible rfl
      rotate_left
      · simp only [Act.put, List.setIfInBounds_toArray, List.set_cons_zero, List.set_cons_succ, i64_w, i32_w]
        rfl
      refine pure_ (i := 13) (N := some 22) (v := ?_) (a' := ?_) #[true, true, true, true, true, true, true, true, true, true, true, true, true, true, false] rfl rfl (by kernel_rfl) (fun _ _ _ h => h) (Or.inl ⟨by rfl, ?_⟩) ?_ ?_
      rotate_left
      · intro w'
        go_simp
        with_reducible rfl
      rotate_left
      · simp only [Act.put, List.setIfInBounds_toArray, List.set_cons_zero, List.set_cons_succ, i64_w, i32_w]
        rfl
      refine pure_ (i := 14) (N := some 23) (v := ?_) (a' := ?_) #[true, true, true, true, true, true, true, true, true, true, true, true, true, true, true] rfl rfl (by kernel_rfl) (fun _ _ _ h => h) (Or.inl ⟨by rfl, ?_⟩) ?_ ?_
      rotate_left
      · intro w'
        go_simp
        with_reducible rfl
      rotate_left
      · simp only [Act.put, List.setIfInBounds_toArray, List.set_cons_zero, List.set_cons_succ, i64_w, i32_w]
        rfl
      refine done_ (by kernel_rfl) ?_
      clear hst
      have HH := Aside0.mk hHeld
      have hs2 := HS2.out
      have c2 := hHeld.2.1
      have f2 : w1.frozen? q2 = false := LP.frozen HG1.out (LP.cell2 HI.out HO.out) HF2.out
      clear hHeld
      by_cases e3 : wrap64 ((t.length : Int) - 1) = kk
      · rw [if_pos e3] at hs2
        have HN2 := Aside0.mk (Option.some.inj hs2)
        have eb3 : (wrap64 ((t.length : Int) - 1) == kk) = true := beq_iff_eq.mpr e3
        clear hs2 e3
        go_wp2
        go_end0
        have hko := HI.out.k2
        refine ⟨rfl, HB1.out.setCell (HI.out.lt _ hko).1 _, Kept.setCell (Kept.of_below HG1.out ok) (.inl hko) _, ok, fun j hj => .inl hj, ?_⟩
        have hn2 := HN2.out
        subst hn2
        exact LP.keep HI.out HO.out HST.out ((World.cell?_setCell_far _ _ _ _ (Ne.symm H12.out)).trans HH.out.1) ((World.cell?_setCell_far _ _ _ _ (Ne.symm H32.out)).trans HH.out.2.2) (World.cell?_setCell_same _ _ _ c2) (by simpa using f2) (by simpa using HG1.out.size)
      · rw [if_neg e3] at hs2
        have HN2 := Aside0.mk (Option.some.inj hs2)
        have eb3 : (wrap64 ((t.length : Int) - 1) == kk) = false := beq_eq_false_iff_ne.mpr e3
        clear hs2 e3
        go_wp2
        go_end0
        have hn2 := HN2.out
        subst hn2
        exact ⟨rfl, HB1.out, Kept.of_below HG1.out ok, ok, fun j hj => .inl hj, LP.keep HI.out HO.out HST.out HH.out.1 HH.out.2.2 HH.out.2.1 f2 HG1.out.size⟩
    · rw [if_neg e2] at hst
      have HN2 := Aside0.mk (Option.some.inj hst)
      have eb2 : decide (n ≤ 10000000) = false := decide_eq_false e2
      clear hst e2 e1
      go_enter Try.func49, Try.ntmps49
      go_upto_region 1 with (first | (go_at_call 43; (with_reducible refine (impl_value.calls k A c l base n _ HC.out HCC.out HN.out).mono ?_); rintro e w1 ⟨rfl, ⟨nd, rfl⟩⟩; have hb_ := pw_below_drewN (Below.refl w.heap.size w) nd; have n0_ := Aside0.mk (below_step HB.out hb_); have n1_ := Aside0.mk hb_; have n2_ := Aside0.mk (LP.S.below HX.out hb_); clear HB HG HX c1 c2 c3 hb_; have HB := n0_; have HG := n1_; have HX := n2_; clear n0_ n1_ n2_))
      (try simp only [Act.put, List.setIfInBounds_toArray, List.set_cons_zero, List.set_cons_succ])
      have n0_ := Aside0.mk (below_drew1 HB.out)
      have n1_ := Aside0.mk (below_drew1 HG.out)
      clear HB
      clear HG
      have HB := n0_
      have HG := n1_
      clear n0_ n1_
      refine start_ (n := 15) (S := fun w' => w'.cell? q1 = some (.int .i64 base) ∧ w'.cell? q2 = some (.int .i64 o) ∧ w'.cell? q3 = some (.int .i64 kk)) (ds := []) #[false, false, false, false, false, false, false, false, false, false, false, false, false, false, false] (by kernel_rfl) rfl rfl HX.out (fun hHeld => ?_)
      generalize (w.drewN nd).drew = wg at HB HG hHeld ⊢
      refine take_ (i := 0) (N := some 9) (v := ?_) (a' := ?_) #[true, false, false, false, false, false, false, false, false, false, false, false, false, false, false] rfl rfl (by kernel_rfl) (fun _ _ _ h => h) (Or.inl ⟨by rfl, ?_⟩) hHeld ?_ ?_
      rotate_left
      · intro w' hw'
        have hr_ := hw'
        go_simp
        with_reducible rfl
      rotate_left
      · simp only [Act.put, List.setIfInBounds_toArray, List.set_cons_zero, List.set_cons_succ, i64_w, i32_w]
        rfl
      refine pure_ (i := 1) (N := some 10) (v := ?_) (a' := ?_) #[true, true, false, false, false, false, false, false, false, false, false, false, false, false, false] rfl rfl (by kernel_rfl) (fun _ _ _ h => h) (Or.inl ⟨by rfl, ?_⟩) ?_ ?_
      rotate_left
      · intro w'
        go_simp
        with_reducible rfl
      rotate_left
      · simp only [Act.put, List.setIfInBounds_toArray, List.set_cons_zero, List.set_cons_succ, i64_w, i32_w]
        rfl
      refine pure_ (i := 2) (N := some 11) (v := ?_) (a' := ?_) #[true, true, true, false, false, false, false, false, false, false, false, false, false, false, false] rfl rfl (by kernel_rfl) (fun _ _ _ h => h) (Or.inl ⟨by rfl, ?_⟩) ?_ ?_
      rotate_left
      · intro w'
        go_simp
        with_reducible rfl
      rotate_left
      · simp only [Act.put, List.setIfInBounds_toArray, List.set_cons_zero, List.set_cons_succ, i64_w, i32_w]
        rfl
      refine pure_ (i := 3) (N := some 12) (v := ?_) (a' := ?_) #[true, true, true, true, false, false, false, false, false, false, false, false, false, false, false] rfl rfl (by kernel_rfl) (fun _ _ _ h => h) (Or.inl ⟨by rfl, ?_⟩) ?_ ?_
      rotate_left
      · intro w'
        go_simp
        with_reducible rfl
      rotate_left
      · simp only [Act.put, List.setIfInBounds_toArray, List.set_cons_zero, List.set_cons_succ, i64_w, i32_w]
        rfl
      refine pure_ (i := 4) (N := some 13) (v := ?_) (a' := ?_) #[true, true, true, true, true, false, false, false, false, false, false, false, false, false, false] rfl rfl (by kernel_rfl) (fun _ _ _ h => h) (Or.inl ⟨by rfl, ?_⟩) ?_ ?_
      rotate_left
      · intro w'
        go_simp
        with_reducible rfl
      rotate_left
      · simp only [Act.put, List.setIfInBounds_toArray, List.set_cons_zero, List.set_cons_succ, i64_w, i32_w]
        rfl
      refine pure_ (i := 5) (N := some 14) (v := ?_) (a' := ?_) #[true, true, true, true, true, true, false, false, false, false, false, false, false, false, false] rfl rfl (by kernel_rfl) (fun _ _ _ h => h) (Or.inl ⟨by rfl, ?_⟩) ?_ ?_
      rotate_left
      · intro w'
        go_simp
        with_reducible rfl
      rotate_left
      · simp only [Act.put, List.setIfInBounds_toArray, List.set_cons_zero, List.set_cons_succ, i64_w, i32_w]
        rfl
      refine pure_ (i := 6) (N := some 15) (v := ?_) (a' := ?_) #[true, true, true, true, true, true, true, false, false, false, false, false, false, false, false] rfl rfl (by kernel_rfl) (fun _ _ _ h => h) (Or.inl ⟨by rfl, ?_⟩) ?_ ?_
      rotate_left
      · intro w'
        go_simp
        with_reducible rfl
      rotate_left
      · simp only [Act.put, List.setIfInBounds_toArray, List.set_cons_zero, List.set_cons_succ, i64_w, i32_w]
        rfl
      refine pure_ (i := 7) (N := some 16) (v := undef) (a' := ?_) #[true, true, true, true, true, true, true, true, false, false, false, false, false, false, false] rfl rfl (by kernel_rfl) (fun _ _ _ h => h) (Or.inr ⟨by rfl, rfl⟩) ?_ ?_
      rotate_left
      · simp only [Act.put, List.setIfInBounds_toArray, List.set_cons_zero, List.set_cons_succ, i64_w, i32_w]
        rfl
      refine pure_ (i := 8) (N := some 17) (v := undef) (a' := ?_) #[true, true, true, true, true, true, true, true, true, false, false, false, false, false, false] rfl rfl (by kernel_rfl) (fun _ _ _ h => h) (Or.inr ⟨by rfl, rfl⟩) ?_ ?_
      rotate_left
      · simp only [Act.put, List.setIfInBounds_toArray, List.set_cons_zero, List.set_cons_succ, i64_w, i32_w]
        rfl
      refine pure_ (i := 9) (N := some 18) (v := undef) (a' := ?_) #[true, true, true, true, true, true, true, true, true, true, false, false, false, false, false] rfl rfl (by kernel_rfl) (fun _ _ _ h => h) (Or.inr ⟨by rfl, rfl⟩) ?_ ?_
      rotate_left
      · simp only [Act.put, List.setIfInBounds_toArray, List.set_cons_zero, List.set_cons_succ, i64_w, i32_w]
        rfl
      refine pure_ (i := 10) (N := some 19) (v := undef) (a' := ?_) #[true, true, true, true, true, true, true, true, true, true, true, false, false, false, false] rfl rfl (by kernel_rfl) (fun _ _ _ h => h) (Or.inr ⟨by rfl, rfl⟩) ?_ ?_
      rotate_left
      · simp only [Act.put, List.setIfInBounds_toArray, List.set_cons_zero, List.set_cons_succ, i64_w, i32_w]
        rfl
      refine pure_ (i := 11) (N := some 20) (v := undef) (a' := ?_) #[true, true, true, true, true, true, true, true, true, true, true, true, false, false, false] rfl rfl (by kernel_rfl) (fun _ _ _ h => h) (Or.inr ⟨by rfl, rfl⟩) ?_ ?_
      rotate_left
      · simp only [Act.put, List.setIfInBounds_toArray, List.set_cons_zero, List.set_cons_succ, i64_w, i32_w]
        rfl
      refine pure_ (i := 12) (N := some 21) (v := undef) (a' := ?_) #[true, true, true, true, true, true, true, true, true, true, true, true, true, false, false] rfl rfl (by kernel_rfl) (fun _ _ _ h => h) (Or.inr ⟨by rfl, rfl⟩) ?_ ?_
      rotate_left
      · simp only [Act.put, List.setIfInBounds_toArray, List.set_cons_zero, List.set_cons_succ, i64_w, i32_w]
        rfl
      refine pure_ (i := 13) (N := some 22) (v := undef) (a' := ?_) #[true, true, true, true, true, true, true, true, true, true, true, true, true, true, false] rfl rfl (by kernel_rfl) (fun _ _ _ h => h) (Or.inr ⟨by rfl, rfl⟩) ?_ ?_
      rotate_left
      · simp only [Act.put, List.setIfInBounds_toArray, List.set_cons_zero, List.set_cons_succ, i64_w, i32_w]
        rfl
      refine pure_ (i := 14) (N := some 23) (v := ?_) (a' := ?_) #[true, true, true, true, true, true, true, true, true, true, true, true, true, true, true] rfl rfl (by kernel_rfl) (fun _ _ _ h => h) (Or.inl ⟨by rfl, ?_⟩) ?_ ?_
      rotate_left
      · intro w'
        go_simp
        with_reducible rfl
      rotate_left
      · simp only [Act.put, List.setIfInBounds_toArray, List.set_cons_zero, List.set_cons_succ, i64_w, i32_w]
        rfl
      refine done_ (by kernel_rfl) ?_
      have HH := Aside0.mk hHeld
      have f2 : wg.frozen? q2 = false := LP.frozen HG.out (LP.cell2 HI.out HO.out) HF2.out
      clear hHeld
      try go_wp2
      go_end0
      have hn2 := HN2.out
      subst hn2
      exact ⟨rfl, HB.out, Kept.of_below HG.out ok, ok, fun j hj => .inl hj, LP.keep HI.out HO.out HST.out HH.out.1 HH.out.2.2 HH.out.2.1 f2 HG.out.size⟩
  · rw [if_neg e1] at hst
    have HN2 := Aside0.mk (Option.some.inj hst)
    have eb1 : (o == 0) = false := beq_eq_false_iff_ne.mpr e1
    clear hst e1
    go_enter Try.func49, Try.ntmps49
    go_upto_region 1 with (first | (go_at_call 43; (with_reducible refine (impl_value.calls k A c l base n _ HC.out HCC.out HN.out).mono ?_); rintro e w1 ⟨rfl, ⟨nd, rfl⟩⟩; have hb_ := pw_below_drewN (Below.refl w.heap.size w) nd; have n0_ := Aside0.mk (below_step HB.out hb_); have n1_ := Aside0.mk hb_; have n2_ := Aside0.mk (LP.S.below HX.out hb_); clear HB HG HX c1 c2 c3 hb_; have HB := n0_; have HG := n1_; have HX := n2_; clear n0_ n1_ n2_))
    (try simp only [Act.put, List.setIfInBounds_toArray, List.set_cons_zero, List.set_cons_succ])
    have n0_ := Aside0.mk (below_drew1 HB.out)
    have n1_ := Aside0.mk (below_drew1 HG.out)
    clear HB
    clear HG
    have HB := n0_
    have HG := n1_
    clear n0_ n1_
    refine start_ (n := 15) (S := fun w' => w'.cell? q1 = some (.int .i64 base) ∧ w'.cell? q2 = some (.int .i64 o) ∧ w'.cell? q3 = some (.int .i64 kk)) (ds := []) #[false, false, false, false, false, false, false, false, false, false, false, false, false, false, false] (by kernel_rfl) rfl rfl HX.out (fun hHeld => ?_)
    generalize (w.drewN nd).drew = wg at HB HG hHeld ⊢
    refine take_ (i := 0) (N := some 9) (v := ?_) (a' := ?_) #[true, false, false, false, false, false, false, false, false, false, false, false, false, false, false] rfl rfl (by kernel_rfl) (fun _ _ _ h => h) (Or.inl ⟨by rfl, ?_⟩) hHeld ?_ ?_
    rotate_left
    · intro w' hw'
      have hr_ := hw'
      go_simp
      with_reducible rfl
    rotate_left
    · simp only [Act.put, List.setIfInBounds_toArray, List.set_cons_zero, List.set_cons_succ, i64_w, i32_w]
      rfl
    refine pure_ (i := 1) (N := some 10) (v := ?_) (a' := ?_) #[true, true, false, false, false, false, false, false, false, false, false, false, false, false, false] rfl rfl (by kernel_rfl) (fun _ _ _ h => h) (Or.inl ⟨by rfl, ?_⟩) ?_ ?_
    rotate_left
    · intro w'
      go_simp
      with_reducible rfl
    rotate_left
    · simp only [Act.put, List.setIfInBounds_toArray, List.set_cons_zero, List.set_cons_succ, i64_w, i32_w]
      rfl
    refine pure_ (i := 2) (N := some 11) (v := ?_) (a' := ?_) #[true, true, true, false, false, false, false, false, false, false, false, false, false, false, false] rfl rfl (by kernel_rfl) (fun _ _ _ h => h) (Or.inl ⟨by rfl, ?_⟩) ?_ ?_
    rotate_left
    · intro w'
      go_simp
      with_reducible rfl
    rotate_left
    · simp only [Act.put, List.setIfInBounds_toArray, List.set_cons_zero, List.set_cons_succ, i64_w, i32_w]
      rfl
    refine pure_ (i := 3) (N := some 12) (v := undef) (a' := ?_) #[true, true, true, true, false, false, false, false, false, false, false, false, false, false, false] rfl rfl (by kernel_rfl) (fun _ _ _ h => h) (Or.inr ⟨by rfl, rfl⟩) ?_ ?_
    rotate_left
    · simp only [Act.put, List.setIfInBounds_toArray, List.set_cons_zero, List.set_cons_succ, i64_w, i32_w]
      rfl
    refine pure_ (i := 4) (N := some 13) (v := undef) (a' := ?_) #[true, true, true, true, true, false, false, false, false, false, false, false, false, false, false] rfl rfl (by kernel_rfl) (fun _ _ _ h => h) (Or.inr ⟨by rfl, rfl⟩) ?_ ?_
    rotate_left
    · simp only [Act.put, List.setIfInBounds_toArray, List.set_cons_zero, List.set_cons_succ, i64_w, i32_w]
      rfl
    refine pure_ (i := 5) (N := some 14) (v := ?_) (a' := ?_) #[true, true, true, true, true, true, false, false, false, false, false, false, false, false, false] rfl rfl (by kernel_rfl) (fun _ _ _ h => h) (Or.inl ⟨by rfl, ?_⟩) ?_ ?_
    rotate_left
    · intro w'
      go_simp
      with_reducible rfl
    rotate_left
    · simp only [Act.put, List.setIfInBounds_toArray, List.set_cons_zero, List.set_cons_succ, i64_w, i32_w]
      rfl
    refine pure_ (i := 6) (N := some 15) (v := ?_) (a' := ?_) #[true, true, true, true, true, true, true, false, false, false, false, false, false, false, false] rfl rfl (by kernel_rfl) (fun _ _ _ h => h) (Or.inl ⟨by rfl, ?_⟩) ?_ ?_
    rotate_left
    · intro w'
      go_simp
      with_reducible rfl
    rotate_left
    · simp only [Act.put, List.setIfInBounds_toArray, List.set_cons_zero, List.set_cons_succ, i64_w, i32_w]
      rfl
    refine pure_ (i := 7) (N := some 16) (v := undef) (a' := ?_) #[true, true, true, true, true, true, true, true, false, false, false, false, false, false, false] rfl rfl (by kernel_rfl) (fun _ _ _ h => h) (Or.inr ⟨by rfl, rfl⟩) ?_ ?_
    rotate_left
    · simp only [Act.put, List.setIfInBounds_toArray, List.set_cons_zero, List.set_cons_succ, i64_w, i32_w]
      rfl
    refine pure_ (i := 8) (N := some 17) (v := undef) (a' := ?_) #[true, true, true, true, true, true, true, true, true, false, false, false, false, false, false] rfl rfl (by kernel_rfl) (fun _ _ _ h => h) (Or.inr ⟨by rfl, rfl⟩) ?_ ?_
    rotate_left
    · simp only [Act.put, List.setIfInBounds_toArray, List.set_cons_zero, List.set_cons_succ, i64_w, i32_w]
      rfl
    refine pure_ (i := 9) (N := some 18) (v := undef) (a' := ?_) #[true, true, true, true, true, true, true, true, true, true, false, false, false, false, false] rfl rfl (by kernel_rfl) (fun _ _ _ h => h) (Or.inr ⟨by rfl, rfl⟩) ?_ ?_
    rotate_left
    · simp only [Act.put, List.setIfInBounds_toArray, List.set_cons_zero, List.set_cons_succ, i64_w, i32_w]
      rfl
    refine pure_ (i := 10) (N := some 19) (v := undef) (a' := ?_) #[true, true, true, true, true, true, true, true, true, true, true, false, false, false, false] rfl rfl (by kernel_rfl) (fun _ _ _ h => h) (Or.inr ⟨by rfl, rfl⟩) ?_ ?_
    rotate_left
    · simp only [Act.put, List.setIfInBounds_toArray, List.set_cons_zero, List.set_cons_succ, i64_w, i32_w]
      rfl
    refine pure_ (i := 11) (N := some 20) (v := undef) (a' := ?_) #[true, true, true, true, true, true, true, true, true, true, true, true, false, false, false] rfl rfl (by kernel_rfl) (fun _ _ _ h => h) (Or.inr ⟨by rfl, rfl⟩) ?_ ?_
    rotate_left
    · simp only [Act.put, List.setIfInBounds_toArray, List.set_cons_zero, List.set_cons_succ, i64_w, i32_w]
      rfl
    refine pure_ (i := 12) (N := some 21) (v := undef) (a' := ?_) #[true, true, true, true, true, true, true, true, true, true, true, true, true, false, false] rfl rfl (by kernel_rfl) (fun _ _ _ h => h) (Or.inr ⟨by rfl, rfl⟩) ?_ ?_
    rotate_left
    · simp only [Act.put, List.setIfInBounds_toArray, List.set_cons_zero, List.set_cons_succ, i64_w, i32_w]
      rfl
    refine pure_ (i := 13) (N := some 22) (v := undef) (a' := ?_) #[true, true, true, true, true, true, true, true, true, true, true, true, true, true, false] rfl rfl (by kernel_rfl) (fun _ _ _ h => h) (Or.inr ⟨by rfl, rfl⟩) ?_ ?_
    rotate_left
    · simp only [Act.put, List.setIfInBounds_toArray, List.set_cons_zero, List.set_cons_succ, i64_w, i32_w]
      rfl
    refine pure_ (i := 14) (N := some 23) (v := ?_) (a' := ?_) #[true, true, true, true, true, true, true, true, true, true, true, true, true, true, true] rfl rfl (by kernel_rfl) (fun _ _ _ h => h) (Or.inl ⟨by rfl, ?_⟩) ?_ ?_
    rotate_left
    · intro w'
      go_simp
      with_reducible rfl
    rotate_left
    · simp only [Act.put, List.setIfInBounds_toArray, List.set_cons_zero, List.set_cons_succ, i64_w, i32_w]
      rfl
    refine done_ (by kernel_rfl) ?_
    have HH := Aside0.mk hHeld
    have f2 : wg.frozen? q2 = false := LP.frozen HG.out (LP.cell2 HI.out HO.out) HF2.out
    clear hHeld
    try go_wp2
    go_end0
    have hn2 := HN2.out
    subst hn2
    exact ⟨rfl, HB.out, Kept.of_below HG.out ok, ok, fun j hj => .inl hj, LP.keep HI.out HO.out HST.out HH.out.1 HH.out.2.2 HH.out.2.1 f2 HG.out.size⟩
theorem LP.each (w0 : World) {q1 q2 q3 : Addr} (h12 : q1.block ≠ q2.block) (h32 : q3.block ≠ q2.block) (k : Nat) (base kk : Int) : NF.Each (LP.I q1 q2 q3 k base kk w0.heap.size) w0 q1 q2 q3 (LP.Q k base kk) where
  pre := by
    rintro a b ⟨o, h⟩
    rw [LP.fo_app] at h
    obtain ⟨o2, h2, _⟩ := Option.bind_eq_some_iff.mp h
    exact ⟨o2, h2⟩
  move := by
    rintro L ok w w' hI hm hs
    obtain ⟨o, ho, c2, f2⟩ := hI.c2
    have b1 := hm _ hI.k1 (hI.lt _ hI.k1).2
    have b2 := hm _ hI.k2 (hI.lt _ hI.k2).2
    have b3 := hm _ hI.k3 (hI.lt _ hI.k3).2
    exact ⟨hI.k1, hI.k2, hI.k3, fun j hj => ⟨(hI.lt j hj).1, Nat.lt_of_lt_of_le (hI.lt j hj).2 hs⟩, by have := hI.c1; simpa [World.cell?, b1] using this, by have := hI.c3; simpa [World.cell?, b3] using this, o, ho, by simpa [World.cell?, b2] using c2, by simpa [World.frozen?, b2] using f2⟩
  lt := fun h j hj => h.lt j hj
  call := fun A c l hI hB hQ hC hc => LP.call h12 h32 A c l hI hB hQ hC hc

def impl_LeastPersistent.l0 (k : Nat) (base kk : Int) : Nat → Nat → Int → Option Int
  | 0, _, _ => none
  | m + 1, many, o => if o = 0 then (if 1 ≤ many ∧ many ≤ 1000 then ((impl_toPower.f k base ((many : Int) - 1)).bind fun p => (if p ≤ 10000000 then ((LP.fo k base kk (NF.en (base - 1) many [] 1) 0).bind fun o2 => impl_LeastPersistent.l0 k base kk m (many + 1) o2) else some o)) else none) else some o
def impl_LeastPersistent.f (k : Nat) (a0 a1 : Int) : Option (Int × Bool) := if 0 ≤ a0 ∧ a0 ≤ 12 ∧ 2 ≤ a1 ∧ a1 ≤ 16 then (if a0 < 2 then some (a0 * a1, true) else (impl_LeastPersistent.l0 k a1 a0 k 2 0).bind fun o => some (o, decide (0 < o))) else some (0, false)
theorem LP.st_mono (k : Nat) (base kk o : Int) (l : List Int) : LeO (LP.st k base kk o l) (LP.st (k + 1) base kk o l) := by
  unfold LP.st
  repeat' first
    | exact impl_value.mono _ _ _
    | exact impl_down.mono _ _ _
    | exact LeO.refl _
    | exact LeO.none _
    | refine LeO.ite ?_ ?_
    | refine LeO.bind ?_ (fun _ => ?_)
theorem LP.fo_mono (k : Nat) (base kk : Int) : ∀ (L : List (List Int)) (o : Int), LeO (LP.fo k base kk L o) (LP.fo (k + 1) base kk L o)
  | [], o => LeO.refl _
  | l :: t, o => LeO.bind (LP.st_mono k base kk o l) (fun _ => LP.fo_mono k base kk t _)
theorem impl_LeastPersistent.mono_0 (k : Nat) (base kk : Int) : ∀ m many o, LeO (impl_LeastPersistent.l0 k base kk m many o) (impl_LeastPersistent.l0 (k + 1) base kk (m + 1) many o)
  | 0, many, o => fun r h => by simp [impl_LeastPersistent.l0] at h
  | m + 1, many, o => by
    have ih := impl_LeastPersistent.mono_0 k base kk m
    unfold impl_LeastPersistent.l0
    repeat' first
      | exact ih _ _
      | exact impl_toPower.mono _ _ _
      | exact LP.fo_mono _ _ _ _ _
      | exact LeO.refl _
      | exact LeO.none _
      | refine LeO.ite ?_ ?_
      | refine LeO.bind ?_ (fun _ => ?_)
theorem impl_LeastPersistent.mono : ∀ a0 a1 k, LeO (impl_LeastPersistent.f k a0 a1) (impl_LeastPersistent.f (k + 1) a0 a1) := by
  intro a0 a1 k
  unfold impl_LeastPersistent.f
  repeat' first
    | exact impl_LeastPersistent.mono_0 _ _ _ _ _ _
    | exact LeO.refl _
    | exact LeO.none _
    | refine LeO.ite ?_ ?_
    | refine LeO.bind ?_ (fun _ => ?_)
def LP.B (q1 q2 q3 : Addr) (base kk o : Int) (w : World) : Prop := w.cell? q1 = some (.int .i64 base) ∧ w.cell? q3 = some (.int .i64 kk) ∧ w.cell? q2 = some (.int .i64 o) ∧ w.frozen? q2 = false
theorem LP.B.below {q1 q2 q3 : Addr} {base kk o : Int} {w w' : World} (h : LP.B q1 q2 q3 base kk o w) (hb : Below w.heap.size w w') : LP.B q1 q2 q3 base kk o w' := ⟨pw_cell_below hb h.1, pw_cell_below hb h.2.1, pw_cell_below hb h.2.2.1, LP.frozen hb h.2.2.1 h.2.2.2⟩
theorem LP.B.start {q1 q2 q3 : Addr} {base kk : Int} {k b : Nat} {w : World} (h : LP.B q1 q2 q3 base kk 0 w) (h1 : b ≤ q1.block) (h2 : b ≤ q2.block) (h3 : b ≤ q3.block) : LP.I q1 q2 q3 k base kk b [] (fun j => j = q1.block ∨ j = q2.block ∨ j = q3.block) w :=
  ⟨.inl rfl, .inr (.inl rfl), .inr (.inr rfl), fun j hj => by
    have e1 := NF.lt_cell h.1
    have e2 := NF.lt_cell h.2.2.1
    have e3 := NF.lt_cell h.2.1
    rcases hj with rfl | rfl | rfl
    · exact ⟨h1, e1⟩
    · exact ⟨h2, e2⟩
    · exact ⟨h3, e3⟩, h.1, h.2.1, 0, rfl, h.2.2.1, h.2.2.2⟩
theorem LP.B.back {q1 q2 q3 : Addr} {base kk o : Int} {k b : Nat} {L : List (List Int)} {ok : Nat → Prop} {w : World} (h : LP.I q1 q2 q3 k base kk b L ok w) (ho : LP.fo k base kk L 0 = some o) : LP.B q1 q2 q3 base kk o w := by
  obtain ⟨o2, h2, c2, f2⟩ := h.c2
  rw [ho] at h2
  obtain rfl := Option.some.inj h2
  exact ⟨h.c1, h.c3, c2, f2⟩
theorem impl_LeastPersistent.isB (a1 : Int) : impl_isBase.f a1 = some (decide (2 ≤ a1 ∧ a1 ≤ 16)) := by
  unfold impl_isBase.f impl_in.f
  by_cases h : 2 ≤ a1
  · rw [if_pos h]; simp [h]
  · rw [if_neg h]; simp [h]
theorem impl_LeastPersistent.inB (a0 : Int) : impl_in.f a0 0 12 = some (decide (0 ≤ a0 ∧ a0 ≤ 12)) := by
  unfold impl_in.f
  by_cases h : 0 ≤ a0
  · rw [if_pos h]; simp [h]
  · rw [if_neg h]; simp [h]
set_option maxHeartbeats 8000000 in
set_option maxRecDepth 100000 in
theorem impl_LeastPersistent.calls (k : Nat) (a0 : Int) (a1 : Int) (r1 : Int) (r2 : Bool) (w : World) (h : impl_LeastPersistent.f k a0 a1 = some (r1, r2)) :
    Calls Try.prog 15 #[.int .i64 a0, .int .i64 a1] w fun e w' => e = .returned (.tuple #[.int .i64 r1, .bool r2]) ∧ Below w.heap.size w w' := by
  have HB := Aside0.mk (Below.refl w.heap.size w)
  have hin := impl_LeastPersistent.inB a0
  have hbs := impl_LeastPersistent.isB a1
  unfold impl_LeastPersistent.f at h
  by_cases hg : 0 ≤ a0 ∧ a0 ≤ 12 ∧ 2 ≤ a1 ∧ a1 ≤ 16
  · rw [if_pos hg] at h
    rw [decide_eq_true (show 0 ≤ a0 ∧ a0 ≤ 12 from ⟨hg.1, hg.2.1⟩)] at hin
    rw [decide_eq_true (show 2 ≤ a1 ∧ a1 ≤ 16 from ⟨hg.2.2.1, hg.2.2.2⟩)] at hbs
    have HIN := Aside0.mk hin
    have HBS := Aside0.mk hbs
    have HG := Aside0.mk hg
    clear hin hbs
    by_cases c1 : a0 < 2
    · rw [if_pos c1] at h
      simp only [Option.some.injEq, Prod.mk.injEq] at h
      obtain ⟨rfl, rfl⟩ := h
      have c1b : decide (a0 < 2) = true := decide_eq_true c1
      have e20 : wrap64 (a0 * a1) = a0 * a1 := by
        rcases (show a0 = 0 ∨ a0 = 1 by omega) with rfl | rfl
        · rw [Int.zero_mul]; unfold wrap64; omega
        · rw [Int.one_mul]; unfold wrap64; omega
      clear c1 hg
      go_enter Try.func15, Try.ntmps15
      go_wp2_with (first | (go_at_call 34; (with_reducible refine (impl_in.calls a0 0 12 true _ HIN.out).mono ?_); rintro e w' ⟨rfl, ⟨nd, rfl⟩⟩) | (go_at_call 35; (with_reducible refine (impl_isBase.calls a1 true _ HBS.out).mono ?_); rintro e w' ⟨rfl, ⟨nd, rfl⟩⟩))
      go_ret2
      exact ⟨by simp only [e20]; first | done | rfl, by repeat (first | (with_reducible first | exact HB.out | apply below_alloc | apply pw_below_drewN | apply below_drew1) | exact HB.out)⟩
    · rw [if_neg c1] at h
      obtain ⟨o9, ho9, h⟩ := Option.bind_eq_some_iff.mp h
      simp only [Option.some.injEq, Prod.mk.injEq] at h
      obtain ⟨rfl, rfl⟩ := h
      have H' := Aside0.mk ho9
      have c1b : decide (a0 < 2) = false := decide_eq_false c1
      clear c1 hg ho9
      go_enter Try.func15, Try.ntmps15
      go_wp2_with (first | (go_at_call 34; (with_reducible refine (impl_in.calls a0 0 12 true _ HIN.out).mono ?_); rintro e w' ⟨rfl, ⟨nd, rfl⟩⟩) | (go_at_call 35; (with_reducible refine (impl_isBase.calls a1 true _ HBS.out).mono ?_); rintro e w' ⟨rfl, ⟨nd2, rfl⟩⟩))
      go_loopg [7] k (fun kq v7 wr => ∃ (m : Nat) (o : Int), v7 = .int .i64 (m : Int) ∧ Aside0 (impl_LeastPersistent.l0 k a1 a0 kq m o = some o9) ∧ Aside0 (kq ≤ k) ∧ Aside0 (LP.B ⟨w.heap.size + 1, 0, none⟩ ⟨w.heap.size + 1 + 1, 0, none⟩ ⟨w.heap.size, 0, none⟩ a1 a0 o wr) ∧ Aside0 (Below w.heap.size w wr))
      case atStart => exact ⟨2, 0, rfl, H', ⟨Nat.le_refl _⟩, ⟨⟨by go_simp, by go_simp, by go_simp, by go_simp⟩⟩, ⟨by repeat (first | (with_reducible first | exact HB.out | apply below_alloc | apply pw_below_drewN | apply below_drew1) | exact HB.out)⟩⟩
      case round =>
        clear H' HB
        obtain ⟨m, o, rfl, HA, HK1, HX, HB⟩ := hrel
        have HG2 := HG.out
        cases gk with
        | zero => exact absurd HA.out (by simp [impl_LeastPersistent.l0])
        | succ k1 =>
          have H := HA.out
          clear HA
          simp only [impl_LeastPersistent.l0] at H
          by_cases c2 : o = 0
          · rw [if_pos c2] at H
            by_cases c3 : 1 ≤ m ∧ m ≤ 1000
            · rw [if_pos c3] at H
              obtain ⟨p, hp, H⟩ := Option.bind_eq_some_iff.mp H
              have HP := Aside0.mk hp
              have HM := Aside0.mk c3
              obtain ⟨x1, x3, x2, _⟩ := HX.out
              have c2b : (o == 0) = true := beq_iff_eq.mpr c2
              have e26 : wrap64 ((m : Int) - 1) = (m : Int) - 1 := by unfold wrap64; omega
              have e10 : wrap64 (a1 - 1) = a1 - 1 := by unfold wrap64; omega
              have e31 : wrap64 ((m : Int) + 1) = (m : Int) + 1 := by unfold wrap64; omega
              by_cases c4 : p ≤ 10000000
              · rw [if_pos c4] at H
                have c4b : decide (p ≤ 10000000) = true := decide_eq_true c4
                obtain ⟨o2, ho2, H⟩ := Option.bind_eq_some_iff.mp H
                have HO2 := Aside0.mk ho2
                have HE := Aside0.mk H
                subst c2
                clear c4 hp ho2 H c3 HG2
                go_wp2_with (first | (go_at_call 47; (with_reducible refine (impl_toPower.calls k a1 ((m : Int) - 1) p _ HP.out).mono ?_); rintro e w2 ⟨rfl, ⟨nd3, rfl⟩⟩; have HX2 := Aside0.mk (HX.out.below (pw_below_drewN (Below.refl _ _) nd3)); have HB2 := Aside0.mk (pw_below_drewN HB.out nd3)) | (go_at_call 48; refine (NF.calls (LP.each w (q1 := ⟨w.heap.size + 1, 0, none⟩) (q2 := ⟨w.heap.size + 1 + 1, 0, none⟩) (q3 := ⟨w.heap.size, 0, none⟩) (by simp) (by simp; omega) k a1 a0) m HM.out.2 1 (a1 - 1) (by decide) (by decide) (by have := HG.out; omega) [] _ _ ?hQ (LP.B.start HX2.out ?h1 ?h2 ?h3) ?hB).mono ?_; (case hQ => exact ⟨o2, HO2.out⟩); (case h1 => simp); (case h2 => simp; omega); (case h3 => simp); (case hB => exact HB2.out); rintro e w3 ⟨rfl, h1, h2, ok2, h3, h4⟩; have HX3 := Aside0.mk (LP.B.back h4 HO2.out); have HB3 := Aside0.mk h1; clear h1 h2 h3 h4))
                go_roundg k1
                case measure => have := HK1.out; omega
                case rel => exact ⟨m + 1, o2, by first | rfl | (simp; done) | (simp; exact e31), HE, ⟨by have := HK1.out; omega⟩, HX3, HB3⟩
              · rw [if_neg c4] at H
                have c4b : decide (p ≤ 10000000) = false := decide_eq_false c4
                obtain rfl := Option.some.inj H
                subst c2
                clear c4 hp H c3 HG2
                go_wp2_with (first | (go_at_call 47; (with_reducible refine (impl_toPower.calls k a1 ((m : Int) - 1) p _ HP.out).mono ?_); rintro e w2 ⟨rfl, ⟨nd3, rfl⟩⟩; have HB2 := Aside0.mk (pw_below_drewN HB.out nd3)))
                go_quiet (fail)
                try go_wp2
                go_ret2
                exact ⟨by first | rfl | (simp; done), by repeat (first | (with_reducible first | exact HB.out | apply below_alloc | apply pw_below_drewN | apply below_drew1) | exact HB.out)⟩
            · rw [if_neg c3] at H
              cases H
          · rw [if_neg c2] at H
            obtain rfl := Option.some.inj H
            obtain ⟨x1, x3, x2, _⟩ := HX.out
            have c2b : (o == 0) = false := beq_eq_false_iff_ne.mpr c2
            clear c2 H HG2
            go_wp2
            go_quiet (fail)
            try go_wp2
            go_ret2
            exact ⟨by first | rfl | (simp; done), by repeat (first | (with_reducible first | exact HB.out | apply below_alloc | apply pw_below_drewN | apply below_drew1) | exact HB.out)⟩
  · rw [if_neg hg] at h
    simp only [Option.some.injEq, Prod.mk.injEq] at h
    obtain ⟨rfl, rfl⟩ := h
    by_cases h1 : 0 ≤ a0 ∧ a0 ≤ 12
    · rw [decide_eq_true h1] at hin
      rw [decide_eq_false (show ¬ (2 ≤ a1 ∧ a1 ≤ 16) from fun h2 => hg ⟨h1.1, h1.2, h2⟩)] at hbs
      have HIN := Aside0.mk hin
      have HBS := Aside0.mk hbs
      clear hin hbs h1 hg
      go_enter Try.func15, Try.ntmps15
      go_wp2_with (first | (go_at_call 34; (with_reducible refine (impl_in.calls a0 0 12 true _ HIN.out).mono ?_); rintro e w' ⟨rfl, ⟨nd, rfl⟩⟩) | (go_at_call 35; (with_reducible refine (impl_isBase.calls a1 false _ HBS.out).mono ?_); rintro e w' ⟨rfl, ⟨nd, rfl⟩⟩))
      go_ret2
      exact ⟨rfl, by repeat (first | (with_reducible first | exact HB.out | apply below_alloc | apply pw_below_drewN | apply below_drew1) | exact HB.out)⟩
    · rw [decide_eq_false h1] at hin
      have HIN := Aside0.mk hin
      clear hin hbs h1 hg
      go_enter Try.func15, Try.ntmps15
      go_wp2_with (first | (go_at_call 34; (with_reducible refine (impl_in.calls a0 0 12 false _ HIN.out).mono ?_); rintro e w' ⟨rfl, ⟨nd, rfl⟩⟩))
      go_ret2
      exact ⟨rfl, by repeat (first | (with_reducible first | exact HB.out | apply below_alloc | apply pw_below_drewN | apply below_drew1) | exact HB.out)⟩

end Go.Proofs.Ytimimjmabnmeoaa.PFnExactLeastPersistent
