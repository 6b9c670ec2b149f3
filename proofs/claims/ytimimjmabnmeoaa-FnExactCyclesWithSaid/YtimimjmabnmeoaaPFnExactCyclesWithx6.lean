-- Written by a program of this session (hook.py): functions, contracts and walks in the printer's form; contracts of this session's own where the printer takes none
import Derived.Test.YtimimjmabnmeoaaPFnExactCyclesWithx0
import Derived.Test.YtimimjmabnmeoaaPFnExactCyclesWithx1
import Derived.Test.YtimimjmabnmeoaaPFnExactCyclesWithx3
import Derived.Test.YtimimjmabnmeoaaPFnExactCyclesWithx4
import Derived.Test.YtimimjmabnmeoaaPFnExactCyclesWithx5
namespace Go.Proofs.Ytimimjmabnmeoaa.PFnExactCyclesWith
open Go.RowKit Go.Proofs.YtimimjmabnmeoaaW.PrintWords Go.Proofs.YtimimjmabnmeoaaW.PrintLast Go.Proofs.YtimimjmabnmeoaaW.PrintMore
attribute [local go_sem] max2_int min2_int max_two min_two max_three min_three max_four min_four   -- for this text's walks alone
set_option linter.unusedVariables false
set_option linter.unusedSimpArgs false

/-! ### impl_CyclesWith: function 30 -/
theorem AG.pos {α : Type} {c : Prop} [Decidable c] {A B : Nat → Option α} {r : α} (h : c) (e : Ev A r) : Ev (fun k => if c then A k else B k) r := by simpa only [if_pos h] using e
theorem AG.neg {α : Type} {c : Prop} [Decidable c] {A B : Nat → Option α} {r : α} (h : ¬ c) (e : Ev B r) : Ev (fun k => if c then A k else B k) r := by simpa only [if_neg h] using e
theorem AG.w64 {x : Int} (h0 : -9223372036854775808 ≤ x) (h1 : x ≤ 9223372036854775807) : wrap64 x = x := by unfold wrap64; omega

/-! ### slices.SortFunc(rows, slices.Compare) -/
def SF.cmp : List Int → List Int → Int
  | [], [] => 0
  | [], _ :: _ => -1
  | _ :: _, [] => 1
  | x :: s, y :: t => if x < y then -1 else if y < x then 1 else SF.cmp s t
theorem SF.refl : ∀ a, SF.cmp a a = 0
  | [] => rfl
  | x :: s => by unfold SF.cmp; simp [SF.refl s]
theorem SF.eq : ∀ a b, SF.cmp a b = 0 → a = b
  | [], [], _ => rfl
  | [], _ :: _, h => by simp [SF.cmp] at h
  | _ :: _, [], h => by simp [SF.cmp] at h
  | x :: s, y :: t, h => by
    unfold SF.cmp at h
    split at h
    · simp at h
    · split at h
      · simp at h
      · rw [SF.eq s t h, show x = y by omega]
theorem SF.neg : ∀ a b, SF.cmp b a = - SF.cmp a b
  | [], [] => rfl
  | [], _ :: _ => rfl
  | _ :: _, [] => rfl
  | x :: s, y :: t => by
    have ih := SF.neg s t
    unfold SF.cmp
    split <;> split <;> (try split) <;> (first | omega | rfl | exact ih)
theorem SF.trans : ∀ a b c, SF.cmp a b < 0 → SF.cmp b c < 0 → SF.cmp a c < 0
  | [], [], _, h, _ => by simp [SF.cmp] at h
  | _ :: _, [], _, h, _ => by simp [SF.cmp] at h
  | [], _ :: _, [], _, h => by simp [SF.cmp] at h
  | [], _ :: _, _ :: _, _, _ => by simp [SF.cmp]
  | _ :: _, _ :: _, [], _, h => by simp [SF.cmp] at h
  | x :: s, y :: t, z :: u, h1, h2 => by
    have ih := SF.trans s t u
    unfold SF.cmp at h1 h2 ⊢
    by_cases a1 : x < y
    · by_cases a2 : y < z
      · rw [if_pos (by omega)]; omega
      · rw [if_neg a2] at h2
        by_cases a3 : z < y
        · rw [if_pos a3] at h2; omega
        · rw [if_pos (by omega)]; omega
    · rw [if_neg a1] at h1
      by_cases a3 : y < x
      · rw [if_pos a3] at h1; omega
      · rw [if_neg a3] at h1
        by_cases a2 : y < z
        · rw [if_pos (by omega)]; omega
        · rw [if_neg a2] at h2
          by_cases a4 : z < y
          · rw [if_pos a4] at h2; omega
          · rw [if_neg a4] at h2
            rw [if_neg (by omega), if_neg (by omega)]
            exact ih h1 h2
theorem SF.ntrans (a b c : List Int) (h1 : ¬ SF.cmp a b < 0) (h2 : ¬ SF.cmp b c < 0) : ¬ SF.cmp a c < 0 := by
  intro h
  have n1 := SF.neg a b
  have n2 := SF.neg b c
  have n3 := SF.neg a c
  by_cases e1 : SF.cmp a b = 0
  · rw [SF.eq a b e1] at h; exact h2 h
  · by_cases e2 : SF.cmp b c = 0
    · rw [SF.eq b c e2] at h1; exact h1 h
    · have := SF.trans c b a (by omega) (by omega)
      omega
theorem SF.cmp1 (x y : Int) : cmp_Compare_int.f x y = some (if x < y then -1 else if y < x then 1 else 0) := by
  unfold cmp_Compare_int.f cmp_isNaN_int.f
  simp
  split <;> (try split) <;> simp_all
theorem SF.l0 (a b : List Int) (ha : a.length ≤ 4611686018427387904) : ∀ (m i : Nat), a.length - i = m → i ≤ a.length → Ev (fun k => slices_Compare_int_int.l0 k a b a (a.length : Int) (i : Int)) (SF.cmp (a.drop i) (b.drop i))
  | 0, i, hm, hi => by
    refine Ev.step (fun k => by rw [slices_Compare_int_int.l0]) (AG.neg (by omega) ?_)
    have e : a.drop i = [] := List.drop_of_length_le (by omega)
    rw [e]
    by_cases h : (a.length : Int) < (b.length : Int)
    · rw [List.drop_eq_getElem_cons (l := b) (i := i) (by omega)]
      exact AG.pos h (Ev.now _)
    · rw [List.drop_of_length_le (l := b) (i := i) (by omega)]
      exact AG.neg h (Ev.now _)
  | m + 1, i, hm, hi => by
    have ih := SF.l0 a b ha m (i + 1) (by omega) (by omega)
    have hia : i < a.length := by omega
    refine Ev.step (fun k => by rw [slices_Compare_int_int.l0]) (AG.pos (by omega) (AG.pos (by omega) (AG.pos (by omega) ?_)))
    rw [List.drop_eq_getElem_cons hia]
    by_cases hb : (i : Int) ≥ (b.length : Int)
    · rw [List.drop_of_length_le (l := b) (i := i) (by omega)]
      exact AG.pos hb (Ev.now _)
    · have hib : i < b.length := by omega
      rw [List.drop_eq_getElem_cons hib]
      refine AG.neg hb (AG.pos (by omega) ?_)
      have ra : rd a (i : Int) = a[i] := by simp [rd, hia]
      have rb : rd b (i : Int) = b[i] := by simp [rd, hib]
      rw [ra, rb]
      simp only [SF.cmp1, Option.bind_some]
      rw [AG.w64 (by omega) (by omega)]
      show Ev _ (if a[i] < b[i] then -1 else if b[i] < a[i] then 1 else SF.cmp (a.drop (i + 1)) (b.drop (i + 1)))
      by_cases c1 : a[i] < b[i]
      · simp only [if_pos c1]
        exact AG.neg (by decide) (Ev.now _)
      · simp only [if_neg c1]
        by_cases c2 : b[i] < a[i]
        · simp only [if_pos c2]
          exact AG.neg (by decide) (Ev.now _)
        · simp only [if_neg c2]
          exact AG.pos trivial ih
theorem SF.compare (a b : List Int) (ha : a.length ≤ 4611686018427387904) : ∃ k, slices_Compare_int_int.f k a b = some (SF.cmp a b) := by
  obtain ⟨K, hK⟩ := SF.l0 a b ha _ 0 rfl (by omega)
  exact ⟨K, by unfold slices_Compare_int_int.f; simpa using hK K (Nat.le_refl _)⟩
abbrev SF.El := (List Int × Nat) × Value
def SF.P (w : World) (g : Nat) (p : SF.El) : Prop := p.1.1.length ≤ 4294967296 ∧ ∃ A c, p.2 = .slice A p.1.1.length c ∧ p.1.1.length ≤ c ∧ Kd.F (Kd.int .i64) w (fun k => k ≠ g) A p.1.1.length p.1.1
theorem SF.heap {α : Type} [Inhabited α] (enc : α → Value) (w : World) (g n : Nat) (d : Array α) (os : Array Obj) (i : Nat) (hi : i < w.heap.size) (hne : i ≠ g) : (sortWorld enc w g 0 n d os).heap[i]? = w.heap[i]? := by
  unfold sortWorld
  rw [Go.Sort.heap_grow_old _ _ (by simpa using hi)]
  show (w.heap.modify g _)[i]? = _
  rw [Array.getElem?_modify, if_neg (Ne.symm hne)]
theorem SF.find (D : List SF.El) (hn : (D.map (fun p => p.1.2)).Nodup) (i : Nat) (hi : i < D.length) : D.findIdx (fun p => p.1.2 == D[i].1.2) = i := by
  rw [List.findIdx_eq hi]
  refine ⟨by simp, fun j hj => ?_⟩
  have h1 := List.pairwise_iff_getElem.mp hn j i (by simp; omega) (by simpa using hi) hj
  simpa using h1
open Go.Sort in
theorem SF.calls (v : Value) (L : List (List Int)) (w : World) (base : Nat) (ok : Nat → Prop) (hS : Kd.S (Kd.slice 3 (Kd.int .i64)) 25 w base ok v L) (h0 : 0 < L.length) (h1 : L.length ≤ 1000000) (hl : ∀ l ∈ L, l.length ≤ 4294967296) :
    Calls Try.prog 74 #[v, .func (.func 75) #[] #[]] w fun e w' => e = .returned (.tuple #[]) ∧ ∃ L', L'.Perm L ∧ L'.Pairwise (fun a b => ¬ SF.cmp b a < 0) ∧ Kd.S (Kd.slice 3 (Kd.int .i64)) 25 w' base ok v L' ∧ Kept w w' (fun k => some k = v.ownBlock) ∧ w'.os = w.os ∧ w'.tape = w.tape ∧ w'.output = w.output := by
  obtain ⟨g, cap, rfl, hg, hgl, cells, hcells⟩ := Kd.S_form hS h0
  obtain ⟨f, hown0, inner, ho, hr⟩ := hS
  rw [List.length_zipIdx] at ho
  have hsz : (Kd.tag f (Kd.slice 3 (Kd.int .i64))).sz = 1 := rfl
  rw [hsz] at ho hr
  have hil : inner.length = L.length := by have := hr.1; simpa using this
  have hM : ∀ p ∈ L.zipIdx.zip inner, (Kd.tag f (Kd.slice 3 (Kd.int .i64))).M w base (fun k => ok k ∧ some k ≠ (Value.slice (some ⟨g, 0, none⟩) L.length cap).ownBlock) p.1 [p.2] := by
    intro p hp
    obtain ⟨j, hj, rfl⟩ := List.mem_iff_getElem.mp hp
    have hj1 : j < L.zipIdx.length := by simp at hj ⊢; omega
    have hj2 : j < inner.length := by simp at hj ⊢; omega
    have := hr.2 j _ (List.getElem?_eq_getElem hj1)
    have e1 : (inner.drop j).take 1 = [inner[j]] := by rw [List.drop_eq_getElem_cons hj2]; rfl
    rw [Nat.mul_one, e1] at this
    simpa using this
  generalize hD : L.zipIdx.zip inner = D at hM
  have hDl : D.length = L.length := by rw [← hD]; simp [hil]
  have hD1 : D.map (fun p => p.1.1) = L := by
    rw [← hD]
    apply List.ext_getElem
    · simp [hil]
    · intro i a b; simp
  have hD2 : D.map (fun p => p.2) = inner := by
    rw [← hD]
    apply List.ext_getElem
    · simp [hil]
    · intro i a b; simp
  have hD3 : (D.map (fun p => p.1.2)).Nodup := by
    have : D.map (fun p => p.1.2) = List.range L.length := by
      rw [← hD]
      apply List.ext_getElem
      · simp [hil]
      · intro i a b; simp
    rw [this]; exact List.nodup_range
  have hP : ∀ p ∈ D, SF.P w g p := by
    intro p hp
    refine ⟨hl _ (hD1 ▸ List.mem_map.mpr ⟨p, hp, rfl⟩), ?_⟩
    obtain ⟨u, hu, hR⟩ := hM p hp
    have hu : p.2 = u := by simpa using hu
    obtain ⟨A, c, e⟩ := Kd.R_slice hR
    subst e
    refine ⟨A, c, hu, (Kd.R_reads' hR).2.1, Kd.F_mono (Kd.R_F hR) (fun k hk e => hk.1.2 (by rw [e]; rfl))⟩
  have : Inhabited {p : SF.El // SF.P w g p} := ⟨⟨D[0]'(by omega), hP _ (List.getElem_mem _)⟩⟩
  let enc : {p : SF.El // SF.P w g p} → Value := fun p => p.1.2
  have hone : OneCell enc := by
    rintro ⟨p, hp⟩
    obtain ⟨_, A, c, e, _⟩ := hp
    show p.2.oneCell' = true
    rw [e]; rfl
  let cf : {p : SF.El // SF.P w g p} → {p : SF.El // SF.P w g p} → Int := fun x y => SF.cmp x.1.1.1 y.1.1.1
  have hswo : SWO (ltOf cf) := by
    refine ⟨fun x => ?_, fun x y z a b => ?_, fun x y z a b => ?_⟩
    · show decide (SF.cmp x.1.1.1 x.1.1.1 < 0) = false
      rw [SF.refl]; rfl
    · have a := of_decide_eq_true a
      have b := of_decide_eq_true b
      exact decide_eq_true (SF.trans _ _ _ a b)
    · have a := of_decide_eq_false a
      have b := of_decide_eq_false b
      exact decide_eq_false (SF.ntrans _ _ _ a b)
  let dl : List {p : SF.El // SF.P w g p} := D.pmap Subtype.mk hP
  have hdl : dl.map Subtype.val = D := by simp [dl, List.map_pmap]
  have hdlen : dl.toArray.size = L.length := by simp [dl, hDl]
  have hH : Holds enc w g 0 dl.toArray := by
    intro j hj
    have hj' : j < L.length := by omega
    have hji : j < inner.length := by omega
    rw [Nat.zero_add, getElem!_pos _ j hj]
    have hv : enc dl.toArray[j] = inner[j] := by
      have e : dl.toArray[j].1 = D[j]'(by omega) := by simp [dl]
      show dl.toArray[j].1.2 = _
      rw [e]; simp [← hD2]
    refine ⟨?_, by simp [World.frozen?, hcells]⟩
    rw [hv]
    have := ho.cells (g := g) rfl j (inner[j]) (List.getElem?_eq_getElem hji)
    rwa [add_plain] at this
  have hcmp : CmpLays1 Try.prog 75 #[] enc cf g 0 dl.toArray.size w := by
    refine CmpReads.lays ?_
    intro m os dk hs x y
    obtain ⟨hx1, Ax, cx, ex, hcx, hFx⟩ := x.2
    obtain ⟨hy1, Ay, cy, ey, hcy, hFy⟩ := y.2
    obtain ⟨kk, hk⟩ := SF.compare x.1.1.1 y.1.1.1 (by omega)
    have hh := SF.heap enc w g m dk os
    have hca := slices_Compare_int_int.calls kk Ax cx x.1.1.1 Ay cy y.1.1.1 _ (sortWorld enc w g 0 m dk os) (Kd.F_now (Kd.F_step hFx (fun k hk hlt => hh k hlt hk))) hcx (Kd.F_now (Kd.F_step hFy (fun k hk hlt => hh k hlt hk))) hcy hk
    rw [← ex, ← ey] at hca
    refine Calls.mono hca ?_
    rintro e w' ⟨rfl, h⟩
    exact ⟨rfl, h.out⟩
  have hcall := Try.slices_SortFunc enc hone cf hswo 75 #[] g 0 cap dl.toArray w (fun args w => enters_ Try.func75 (by kernel_rfl) rfl args w) hcmp hH hgl (by omega)
  rw [hdlen] at hcall
  refine hcall.mono ?_
  rintro e w' ⟨rfl, d', n, os, ⟨hp1, hp2, hp3⟩, hsrt, rfl⟩
  refine ⟨rfl, ?_⟩
  have hd'l : d'.size = L.length := by omega
  have hperm : d'.toList.Perm dl := by
    have e1 : (d'.extract 0 L.length).toList = d'.toList := by rw [← hd'l]; simp
    have e2 : (dl.toArray.extract 0 L.length).toList = dl := by rw [← hdlen]; simp
    rw [e1, e2] at hp3; exact hp3
  have hpD : (d'.toList.map Subtype.val).Perm D := hdl ▸ hperm.map Subtype.val
  generalize hD' : d'.toList.map Subtype.val = D' at hpD
  have hD'l : D'.length = L.length := by rw [hpD.length_eq, hDl]
  have hsz' : (sortWorld enc w g 0 n d' os).heap.size = w.heap.size + os.size := by simp [sortWorld]
  have hold := SF.heap enc w g n d' os
  rcases ho.2 with ⟨hbad, _⟩ | ⟨g2, cap2, cur, heq, hgb, hh, hn, hc, hcs, hcur⟩
  · cases hbad
  obtain ⟨rfl, rfl⟩ : g2 = g ∧ cap2 = cap := by
    injection heq with e1 e2 e3
    injection e1 with e1
    injection e1 with e1
    exact ⟨e1.symm, e3.symm⟩
  have hnew : (sortWorld enc w g2 0 n d' os).heap[g2]? = some (.cells (putCells enc 0 d' cur) 25 (0, 0)) := by
    unfold sortWorld
    rw [heap_grow_old _ _ (by simpa using hgl)]
    show (w.heap.modify g2 _)[g2]? = _
    rw [Array.getElem?_modify, if_pos rfl, hh]
    rfl
  have hcell : ∀ j (hj : j < D'.length), (putCells enc 0 d' cur)[j]? = some (D'[j].2) := by
    intro j hj
    have hj2 : j < d'.size := by omega
    have hjc : j < cur.size := by omega
    have e : D'[j] = d'[j].1 := by simp [← hD']
    rw [e]
    simp [putCells, hj2, hjc, enc]
  have hps : (putCells enc 0 d' cur).size = cur.size := by simp [putCells]
  generalize hW : sortWorld enc w g2 0 n d' os = W at hsz' hold hnew ⊢
  have hos : W.os = w.os := by rw [← hW]; rfl
  have htape : W.tape = w.tape := by rw [← hW]; rfl
  have hout : W.output = w.output := by rw [← hW]; rfl
  clear hW
  refine ⟨D'.map (fun p => p.1.1), hD1 ▸ hpD.map _, ?_, ?_, ⟨by omega, fun i hi hne => hold i hi (fun e => hne (by rw [e]; rfl))⟩, hos, htape, hout⟩
  · rw [List.pairwise_map, List.pairwise_iff_getElem]
    intro i j hi hj hij
    have hs := hsrt i j (Nat.zero_le _) hij (by omega)
    rw [getElem!_pos _ j (by omega), getElem!_pos _ i (by omega)] at hs
    have hs := of_decide_eq_false hs
    have ei : D'[i] = d'[i].1 := by simp [← hD']
    have ej : D'[j] = d'[j].1 := by simp [← hD']
    rw [ei, ej]
    exact hs
  · have hnd : (D'.map (fun p => p.1.2)).Nodup := (hpD.map _).nodup_iff.mpr hD3
    have hown : W.ownsRow base 25 1 (.slice (some ⟨g2, 0, none⟩) L.length cap2) L.length (D'.map (fun p => p.2)) := by
      refine ⟨by simp [hD'l], .inr ⟨g2, cap2, putCells enc 0 d' cur, rfl, hgb, hnew, hn, hc, by rw [hps]; exact hcs, ?_⟩⟩
      apply List.ext_getElem?
      intro j
      rw [Nat.mul_one]
      by_cases hj : j < D'.length
      · rw [List.getElem?_take_of_lt (by omega), Array.getElem?_toList, hcell j hj]
        simp [hj]
      · rw [List.getElem?_eq_none (by simp; omega), List.getElem?_eq_none (by simp; omega)]
    refine ⟨fun k => D'.findIdx (fun p => p.1.2 == f k), hown0, D'.map (fun p => p.2), by rw [List.length_zipIdx, List.length_map, hD'l]; exact hown, (show _ = _ * 1 by simp), ?_⟩
    · intro j p hp
      obtain ⟨hjl, rfl⟩ := List.getElem?_eq_some_iff.1 hp
      have hj : j < D'.length := by simpa using hjl
      have hm := hM _ (hpD.mem_iff.mp (List.getElem_mem hj))
      have hf := SF.find D' hnd j hj
      have e1 : ((D'.map (fun p => p.2)).drop (j * 1)).take 1 = [D'[j].2] := by
        rw [Nat.mul_one, List.drop_eq_getElem_cons (by simpa using hj)]
        simp
      show (Kd.tag _ (Kd.slice 3 (Kd.int .i64))).M W base _ _ (((D'.map (fun p => p.2)).drop (j * 1)).take 1)
      rw [e1]
      have hm2 : (Kd.slice 3 (Kd.int .i64)).M w base (fun k => (ok k ∧ some k ≠ (Value.slice (some ⟨g2, 0, none⟩) L.length cap2).ownBlock) ∧ f k = D'[j].1.2) D'[j].1.1 [D'[j].2] := hm
      have hm3 := Kd.M_step (w1 := W) hm2 (fun k hk hlt => hold k hlt (fun e => hk.1.2 (by rw [e]; rfl)))
      have e2 : (List.zipIdx (D'.map (fun p => p.1.1)))[j]'hjl = (D'[j].1.1, j) := by simp
      rw [e2]
      exact (Kd.slice 3 (Kd.int .i64)).M_mono (fun k hk => ⟨hk.1, by show D'.findIdx (fun p => p.1.2 == f k) = j; rw [hk.2]; exact hf⟩) hm3

/-! ### a map of numbers as a total function -/
def GM.put (F : Int → Int) (n v : Int) : Int → Int := fun m => if m = n then v else F m
def GM.St (F : Int → Int) (C g : Nat) (w : World) : Prop := ∃ c D, c ≤ C ∧ w.ownsMap Try.prog 3 (plainElem (H := Unit) Try.prog 3) g c D ∧ Go.Maps.IsMap D ∧ ∀ m : Int, D.atKey (.int .i64 m) (.lit (.int .i64 0)) = .lit (.int .i64 (F m))
theorem GM.lit_ne {a b : Int} (h : a ≠ b) : (Lit.int .i64 a) ≠ .int .i64 b := fun e => h (by cases e; rfl)
theorem GM.zero3 (w : World) : (zeroValue 3).run Try.prog w = .ok (.int .i64 0) w := by kernel_rfl
theorem GM.wwf (a : Int) : (Lit.int .i64 (wrap64 a)).wf = true := by
  simp only [Lit.wf, Bool.and_eq_true, decide_eq_true_eq, show IntKind.i64.min = -9223372036854775808 from rfl, show IntKind.i64.max = 9223372036854775807 from rfl]
  unfold wrap64
  omega
theorem GM.made (w : World) : GM.St (fun _ => 0) 0 w.heap.size (w.alloc (.map #[] 0)) :=
  ⟨0, .map [], Nat.le_refl _, World.ownsMap_made w _ _ _, ⟨[], rfl⟩, fun _ => rfl⟩
theorem GM.St.lt {F : Int → Int} {C g : Nat} {w : World} (h : GM.St F C g w) : g < w.heap.size := by
  obtain ⟨c, D, _, h, _⟩ := h
  exact h.lt
theorem GM.St.kept {F : Int → Int} {C g : Nat} {w w' : World} {row : Option Nat} (h : GM.St F C g w) (hg : w.grownBy w' row) (hne : some g ≠ row) : GM.St F C g w' := by
  obtain ⟨c, D, h1, h2, h3, h4⟩ := h
  exact ⟨c, D, h1, h2.kept hg hne, h3, h4⟩
theorem GM.St.below {F : Int → Int} {C g : Nat} {w w' : World} (h : GM.St F C g w) (hb : Below w.heap.size w w') : GM.St F C g w' := h.kept (grown_of_below hb none) (by simp)
theorem GM.St.alloc {F : Int → Int} {C g : Nat} {w : World} (h : GM.St F C g w) (o : Obj) : GM.St F C g (w.alloc o) := h.below (below_alloc (Below.refl _ _) o)
theorem GM.put_st {F : Int → Int} {C g c : Nat} {w : World} {D : DataW Unit} {n v : Int} (hc : c ≤ C) (hm : w.ownsMap Try.prog 3 (plainElem (H := Unit) Try.prog 3) g (c + 1) (D.put (.int .i64 n) (.lit (.int .i64 v)))) (hi : Go.Maps.IsMap D) (hF : ∀ m : Int, D.atKey (.int .i64 m) (.lit (.int .i64 0)) = .lit (.int .i64 (F m))) : GM.St (GM.put F n v) (C + 1) g w := by
  refine ⟨c + 1, _, by omega, hm, hi.put _ _, fun m => ?_⟩
  unfold GM.put
  by_cases e : m = n
  · subst e
    rw [if_pos rfl, Go.Maps.atKey_put_same hi (by trivial)]
  · rw [if_neg e, Go.Maps.atKey_put_other (GM.lit_ne e)]
    exact hF m
theorem GM.int {a b : Int} (h : (DataW.lit (.int .i64 a) : DataW Unit) = .lit (.int .i64 b)) : a = b := by
  injection h with h
  injection h
/-- An empty row, just made. -/
theorem GM.nil (w : World) (g : Nat) (hg : g < w.heap.size) : Kd.R (Kd.int .i64) 3 (w.alloc (.cells #[] 3)) w.heap.size (fun k_ => k_ ≠ g) (.slice (some ⟨w.heap.size, 0, none⟩) 0 0) [] := by
  refine Kd.R_of_own ⟨rfl, .inr ⟨w.heap.size, 0, #[], rfl, by omega, World.alloc_heap_new w _, Nat.le_refl _, by simp [maxLen], rfl, rfl⟩⟩ (fun k hk => ?_)
  simp [Value.ownBlock] at hk
  omega
/-! ### a sorting of rows as a function -/
def SF.ins (x : List Int) : List (List Int) → List (List Int)
  | [] => [x]
  | y :: t => if SF.cmp y x < 0 then y :: SF.ins x t else x :: y :: t
def SF.so : List (List Int) → List (List Int)
  | [] => []
  | x :: t => SF.ins x (SF.so t)
theorem SF.ins_perm (x : List Int) : ∀ l, (SF.ins x l).Perm (x :: l)
  | [] => List.Perm.refl _
  | y :: t => by
    unfold SF.ins
    split
    · exact ((SF.ins_perm x t).cons y).trans (List.Perm.swap x y t)
    · exact List.Perm.refl _
theorem SF.so_perm : ∀ l, (SF.so l).Perm l
  | [] => List.Perm.refl _
  | x :: t => (SF.ins_perm x _).trans ((SF.so_perm t).cons x)
theorem SF.ins_sorted (x : List Int) : ∀ l, l.Pairwise (fun a b => ¬ SF.cmp b a < 0) → (SF.ins x l).Pairwise (fun a b => ¬ SF.cmp b a < 0)
  | [], _ => by simp [SF.ins]
  | y :: t, h => by
    unfold SF.ins
    obtain ⟨h1, h2⟩ := List.pairwise_cons.mp h
    split
    · rename_i hx
      refine List.pairwise_cons.mpr ⟨fun z hz => ?_, SF.ins_sorted x t h2⟩
      rcases List.mem_cons.mp ((SF.ins_perm x t).mem_iff.mp hz) with rfl | hz
      · have := SF.neg y z; omega
      · exact h1 z hz
    · rename_i hx
      refine List.pairwise_cons.mpr ⟨fun z hz => ?_, h⟩
      rcases List.mem_cons.mp hz with rfl | hz
      · exact hx
      · exact fun hlt => SF.ntrans z y x (h1 z hz) hx hlt
theorem SF.so_sorted : ∀ l, (SF.so l).Pairwise (fun a b => ¬ SF.cmp b a < 0)
  | [] => List.Pairwise.nil
  | x :: t => SF.ins_sorted x _ (SF.so_sorted t)
theorem SF.so_eq {L L' : List (List Int)} (hp : L'.Perm L) (hs : L'.Pairwise (fun a b => ¬ SF.cmp b a < 0)) : L' = SF.so L := by
  refine List.Perm.eq_of_pairwise (le := fun a b => ¬ SF.cmp b a < 0) (fun a b _ _ h1 h2 => ?_) hs (SF.so_sorted L) (hp.trans (SF.so_perm L).symm)
  have := SF.neg a b
  exact SF.eq a b (by omega)

/-! ### slices.ContainsFunc(rows, a row that begins as the boxed one does) -/
def CY.hd (O : List (List Int)) (c : List Int) : Bool := O.any fun o => rd o 0 == rd c 0
set_option maxHeartbeats 8000000 in
set_option maxRecDepth 100000 in
theorem CY.clo (p : Addr) (Ac : Option Addr) (cc : Nat) (c : List Int) (Ao : Option Addr) (co : Nat) (o : List Int) (w : World) (hp : w.cell? p = some (.slice Ac c.length cc)) (hc : Kd.C (Kd.int .i64) w Ac c.length c) (ho : Kd.C (Kd.int .i64) w Ao o.length o) (h1 : 0 < c.length) (h2 : 0 < o.length) :
    Calls Try.prog 73 #[.slice Ao o.length co, .pointer (some p)] w fun e w' => e = .returned (.bool (rd o 0 == rd c 0)) ∧ Drawn0 w w' := by
  obtain ⟨ad1, e1, hx1⟩ := Kd.at_int ho (0 : Int) (by omega) (by omega)
  obtain ⟨ad2, e2, hx2⟩ := Kd.at_int hc (0 : Int) (by omega) (by omega)
  subst e1 e2
  rw [show ((0 : Int)).toNat = 0 from rfl, Addr.add_zero'] at hx1 hx2
  have n1 : (0 < o.length) = True := eq_true h2
  have n2 : (0 < c.length) = True := eq_true h1
  have z0 : ((0 : Int) ≤ 0) = True := eq_true (by omega)
  have b1 : (0 : Int) < (o.length : Int) := by omega
  have b2 : (0 : Int) < (c.length : Int) := by omega
  have b1d : ((0 : Int) < (o.length : Int)) = True := eq_true b1
  have b2d : ((0 : Int) < (c.length : Int)) = True := eq_true b2
  clear ho hc h1 h2
  go_enter Try.func73, Try.ntmps73
  go_wp2
  repeat (go_quiet (fail); try go_wp2)
  go_ret
  exact ⟨rfl, by repeat (first | exact Drawn0.refl _ | apply Drawn0.step)⟩
def CY.Found (O : List (List Int)) (c : List Int) (w : World) (e : Ending) (w' : World) : Prop := ∃ i : Int, e = .returned (.int .i64 i) ∧ decide (0 ≤ i) = CY.hd O c ∧ Drawn0 w w'
theorem CY.take (O : List (List Int)) (c : List Int) (k : Nat) (hk : k < O.length) (h : CY.hd (O.take k) c = false) : CY.hd (O.take (k + 1)) c = (rd (rd_L1 O (k : Int)) 0 == rd c 0) := by
  unfold CY.hd at h ⊢
  rw [List.take_succ_eq_append_getElem hk, List.any_append, h]
  simp [rd_L1, hk]
theorem CY.isHd (O : List (List Int)) (c : List Int) (k : Nat) (h : CY.hd (O.take k) c = true) : CY.hd O c = true := by
  unfold CY.hd at h ⊢
  rw [← List.take_append_drop k O, List.any_append, h]
  rfl
set_option maxHeartbeats 8000000 in
set_option maxRecDepth 100000 in
theorem CY.index (p : Addr) (Ac : Option Addr) (cc : Nat) (c : List Int) (A0 : Option Addr) (c0 : Nat) (O : List (List Int)) (w : World) (hr0 : Kd.C (Kd.slice 3 (Kd.int .i64)) w A0 O.length O) (hp : w.cell? p = some (.slice Ac c.length cc)) (hc : Kd.C (Kd.int .i64) w Ac c.length c) (h1 : 0 < c.length) (h2 : ∀ o ∈ O, 0 < o.length) (h3 : O.length ≤ 1000000) :
    Calls Try.prog 94 #[.slice A0 O.length c0, .func (.func 73) #[] #[.pointer (some p)]] w (CY.Found O c w) := by
  have HR0 := Aside0.mk hr0
  have HP := Aside0.mk hp
  have HC := Aside0.mk hc
  have H1 := Aside0.mk h1
  have H2 := Aside0.mk h2
  have HL := Aside0.mk h3
  clear hr0 hp hc h1 h2 h3
  go_enter Try.func94, Try.ntmps94
  go_wp2
  go_loopw [8] (fun i wr => ∃ k : Nat, k ≤ O.length ∧ i = .int .i64 (k : Int) ∧ Aside0 (CY.hd (O.take k) c = false) ∧ Drawn0 w wr) (fun i _ => O.length - (intOf i).toNat)
  case atStart => exact ⟨0, Nat.zero_le _, rfl, ⟨rfl⟩, Drawn0.refl _⟩
  case round =>
    obtain ⟨k, hk, rfl, HA, ⟨m1, rfl⟩⟩ := hrel
    have hl := HL.out
    by_cases hlt : k < O.length
    · obtain ⟨ad, A1, c1, ea, hx0, hl0, hi0⟩ := at_L1 HR0.out (k : Int) (by omega) (by omega)
      subst ea
      rw [Int.toNat_natCast] at hx0
      have hpos : 0 < (rd_L1 O (k : Int)).length := H2.out _ (by simp [rd_L1, hlt])
      have hclo := CY.clo p Ac cc c A1 c1 (rd_L1 O (k : Int)) (w.drewN m1) (by have := HP.out; simpa using this) (Kd.C_drewN HC.out _) (Kd.C_drewN hi0 _) H1.out hpos
      have HCL := Aside0.mk hclo
      have hltb : decide ((k : Int) < (O.length : Int)) = true := decide_eq_true (by omega)
      have p1 : ((0 : Int) ≤ (k : Int)) = True := eq_true (by omega)
      have q1 : ((k : Int) < (O.length : Int)) = True := eq_true (by omega)
      clear hclo hi0 hl0 hpos
      cases hok : (rd (rd_L1 O (k : Int)) 0 == rd c 0) with
      | true =>
        have HO := Aside0.mk hok
        rw [hok] at HCL
        clear hok
        go_wp2_with (first | (go_at_call 73; (with_reducible refine HCL.out.mono ?_); rintro e w' ⟨rfl, ⟨nd, rfl⟩⟩))
        go_ret
        refine ⟨(k : Int), rfl, ?_, by repeat (first | exact Drawn0.refl _ | apply Drawn0.step)⟩
        rw [CY.isHd O c (k + 1) (by rw [CY.take O c k hlt HA.out]; exact HO.out)]
        simp
      | false =>
        have HO := Aside0.mk hok
        rw [hok] at HCL
        clear hok
        go_wp2_with (first | (go_at_call 73; (with_reducible refine HCL.out.mono ?_); rintro e w' ⟨rfl, ⟨nd, rfl⟩⟩))
        go_roundw
        case rel => exact ⟨k + 1, by omega, by go_num, ⟨by rw [CY.take O c k hlt HA.out]; exact HO.out⟩, by repeat (first | exact Drawn0.refl _ | apply Drawn0.step)⟩
        case measure => simp [intOf]; omega
    · obtain rfl : k = O.length := by omega
      go_wp2
      go_ret
      refine ⟨-1, rfl, ?_, by repeat (first | exact Drawn0.refl _ | apply Drawn0.step)⟩
      have h := HA.out
      rw [List.take_length] at h
      rw [h]
      rfl
set_option maxHeartbeats 8000000 in
set_option maxRecDepth 100000 in
theorem CY.contains (p : Addr) (Ac : Option Addr) (cc : Nat) (c : List Int) (A0 : Option Addr) (c0 : Nat) (O : List (List Int)) (w : World) (hr0 : Kd.C (Kd.slice 3 (Kd.int .i64)) w A0 O.length O) (hp : w.cell? p = some (.slice Ac c.length cc)) (hc : Kd.C (Kd.int .i64) w Ac c.length c) (h1 : 0 < c.length) (h2 : ∀ o ∈ O, 0 < o.length) (h3 : O.length ≤ 1000000) :
    Calls Try.prog 72 #[.slice A0 O.length c0, .func (.func 73) #[] #[.pointer (some p)]] w fun e w' => e = .returned (.bool (CY.hd O c)) ∧ Drawn0 w w' := by
  have HI := Aside0.mk (CY.index p Ac cc c A0 c0 O w hr0 hp hc h1 h2 h3)
  clear hr0 hp hc h1 h2 h3
  go_enter Try.func72, Try.ntmps72
  go_wp2_with (first | (go_at_call 94; (with_reducible refine HI.out.mono ?_); rintro e w' ⟨i, rfl, hi', ⟨nd, rfl⟩⟩; have HF := Aside0.mk hi'; clear hi'))
  go_ret
  exact ⟨by rw [← HF.out]; rfl, by repeat (first | exact Drawn0.refl _ | apply Drawn0.step)⟩

def impl_CyclesWith.l0 (d most : Int) : Nat → List (List Int) → Int → Option (List (List Int) × Bool)
  | 0, _, _ => none
  | k + 1, O, n => if n ≤ most then ((impl_cycleWith.f k n d).bind fun t => (if t.2 = true then (if 0 < t.1.length ∧ t.1.length ≤ 4294967296 ∧ O.length < 1000000 then (if CY.hd O t.1 = true then impl_CyclesWith.l0 d most k O (wrap64 (n + 1)) else impl_CyclesWith.l0 d most k (O ++ [t.1]) (wrap64 (n + 1))) else none) else some ([], false))) else (if 0 < O.length then some (SF.so O, true) else none)
def impl_CyclesWith.f (k : Nat) (a0 a1 : Int) : Option (List (List Int) × Bool) := (impl_isAdded.f a0).bind fun t => (if t = true then ((impl_in.f a1 1 200).bind fun u => (if u = true then impl_CyclesWith.l0 a0 a1 k [] 1 else some ([], false))) else some ([], false))
theorem impl_CyclesWith.mono_0 (d most : Int) : ∀ k O n, LeO (impl_CyclesWith.l0 d most k O n) (impl_CyclesWith.l0 d most (k + 1) O n)
  | 0, O, n => fun r h => by simp [impl_CyclesWith.l0] at h
  | k + 1, O, n => by
    have ih := impl_CyclesWith.mono_0 d most k
    unfold impl_CyclesWith.l0
    refine LeO.ite ?_ (LeO.refl _)
    refine LeO.bind (impl_cycleWith.mono _ _ _) (fun t => ?_)
    refine LeO.ite ?_ (LeO.refl _)
    exact LeO.ite (LeO.ite (ih _ _) (ih _ _)) (LeO.none _)
theorem impl_CyclesWith.mono : ∀ a0 a1 k, LeO (impl_CyclesWith.f k a0 a1) (impl_CyclesWith.f (k + 1) a0 a1) := by
  intro a0 a1 k
  unfold impl_CyclesWith.f
  refine LeO.bind (LeO.refl _) (fun _ => ?_)
  refine LeO.ite ?_ (LeO.refl _)
  refine LeO.bind (LeO.refl _) (fun _ => ?_)
  exact LeO.ite (impl_CyclesWith.mono_0 _ _ _ _ _) (LeO.refl _)
set_option maxHeartbeats 8000000 in
set_option maxRecDepth 100000 in
theorem impl_CyclesWith.calls (k : Nat) (a0 : Int) (a1 : Int) (r1 : List (List Int)) (r2 : Bool) (w : World) (h : impl_CyclesWith.f k a0 a1 = some (r1, r2)) :
    Calls Try.prog 30 #[.int .i64 a0, .int .i64 a1] w fun e w' => ∃ v0_ : Value, e = .returned (.tuple #[v0_, .bool r2]) ∧ Kd.S (Kd.slice 3 (Kd.int .i64)) 25 w' w.heap.size (fun _ => True) v0_ r1 ∧ Below w.heap.size w w' := by
  have HB := Aside0.mk (Below.refl w.heap.size w)
  obtain ⟨t1, ht1, h⟩ := Option.bind_eq_some_iff.mp h
  have A3 := Aside0.mk ht1
  clear ht1
  by_cases c4 : t1 = true
  · subst c4
    rw [if_pos rfl] at h
    obtain ⟨t2, ht2, h⟩ := Option.bind_eq_some_iff.mp h
    have A5 := Aside0.mk ht2
    clear ht2
    by_cases c6 : t2 = true
    · subst c6
      rw [if_pos rfl] at h
      have H' := Aside0.mk h
      clear h
      go_enter Try.func30, Try.ntmps30
      go_wp2_with (first | ((with_reducible refine gate_callee (f := 70) rfl ?_); refine goesL_ (some 11) rfl rfl Try.func70 (by kernel_rfl) rfl #[.int .i64 a0] rfl (by (try simp only [List.map_toArray, List.map_cons, List.map_nil]); first | done | rfl) ?_; (with_reducible refine (impl_isAdded.calls a0 true _ A3.out).mono ?_); rintro e w_ ⟨rfl, ⟨nd, rfl⟩⟩; refine ⟨_, rfl, ?_⟩) | (go_at_call 34; (with_reducible refine (impl_in.calls a1 1 200 true _ A5.out).mono ?_); rintro e w_ ⟨rfl, ⟨nd2, rfl⟩⟩) | ((with_reducible refine gate_dst (N := 18) rfl ?_); refine Kd.S_lit (Kd.slice 3 (Kd.int .i64)) _ 25 ?hg (N := 18) ?hd (xs := ([] : List (List Int))) (inner := []) (ok := fun _ => True) (okp := fun _ => True) ?hr ?hp (fun _ hk => hk) trivial (Below.refl _ _) (Nat.le_refl _) (by simp) ?_; (case hd => rfl); (case hg => rfl); (case hr => first | (go_simp; done) | (go_simp; rfl)); (case hp => exact (Reps.none _ _)); intro v18 w1 ho hb hg_ hnew_; clear hg_ hnew_; have HO1 := Aside0.mk (Kd.S_lower ho (below_size (by repeat (first | (with_reducible first | exact HB.out | apply below_alloc | apply pw_below_drewN | apply below_drew1) | exact HB.out)))); have HB1 := Aside0.mk (below_step (by repeat (first | (with_reducible first | exact HB.out | apply below_alloc | apply pw_below_drewN | apply below_drew1) | exact HB.out)) hb); clear ho hb HB))
      go_loopg [6, 7] k (fun kq v6 v7 wr => ∃ (O : List (List Int)) (n : Int), v7 = .int .i64 n ∧ Aside0 (impl_CyclesWith.l0 a0 a1 kq O n = some (r1, r2)) ∧ Aside0 (kq ≤ k) ∧ Aside0 (O.length ≤ 1000000 ∧ ∀ o ∈ O, 0 < o.length ∧ o.length ≤ 4294967296) ∧ Aside0 (Kd.S (Kd.slice 3 (Kd.int .i64)) 25 wr w.heap.size (fun _ => True) v6 O) ∧ Aside0 (Below w.heap.size w wr))
      case atStart => exact ⟨[], 1, rfl, H', ⟨Nat.le_refl _⟩, ⟨by simp, by simp⟩, HO1, HB1⟩
      case round =>
        clear H' HO1 HB1
        obtain ⟨O, n, rfl, HA, HK1, HQ, HO, HB⟩ := hrel
        obtain ⟨wo, rfl⟩ : ∃ x, x = wr := ⟨wr, rfl⟩
        cases gk with
        | zero => exact absurd HA.out (by simp [impl_CyclesWith.l0])
        | succ k1 =>
          have H := HA.out
          clear HA
          simp only [impl_CyclesWith.l0] at H
          obtain ⟨Ao, co, eo⟩ := Kd.S_slice HO.out
          subst eo
          by_cases c1 : n ≤ a1
          · rw [if_pos c1] at H
            have c1b : decide (n ≤ a1) = true := decide_eq_true c1
            obtain ⟨⟨c, b⟩, hc, H⟩ := Option.bind_eq_some_iff.mp H
            have HCY := Aside0.mk hc
            clear hc c1
            by_cases c2 : b = true
            · subst c2
              rw [if_pos rfl] at H
              by_cases c3 : 0 < c.length ∧ c.length ≤ 4294967296 ∧ O.length < 1000000
              · rw [if_pos c3] at H
                have HCL := Aside0.mk c3
                clear c3
                have HOL := Aside0.mk (Kd.S_lt HO.out)
                by_cases c5 : CY.hd O c = true
                · rw [if_pos c5] at H
                  have HE := Aside0.mk H
                  clear H
                  go_wp2_with (first | (go_at_call 71; (with_reducible refine (impl_cycleWith.calls k1 n a0 c _ _ HCY.out).mono ?_); rintro e w2 ⟨vc, rfl, ho, hb⟩; obtain ⟨Ac, cc, ec⟩ := Kd.R_slice ho; subst ec; have HC2 := Aside0.mk (Kd.R_bound ho); have HO2 := Aside0.mk (Kd.S_below (Kd.S_bound HO.out) hb); have HB2 := Aside0.mk (below_step HB.out hb); have HZ2 := Aside0.mk hb.size; clear ho hb) | (go_at_call 72; (with_reducible refine (CY.contains ⟨w2.heap.size, 0, none⟩ Ac cc c Ao co O (w2.alloc (.cells #[.slice Ac c.length cc] 25)) (Kd.F_now (Kd.F_alloc (Kd.S_F HO2.out) _)) (by go_simp) (Kd.C_alloc (Kd.R_reads' HC2.out).2.2 _) HCL.out.1 (fun o ho_ => (HQ.out.2 o ho_).1) HQ.out.1).mono ?_); rintro e w3 ⟨rfl, ⟨nd3, hw3⟩⟩; have hb_ : Below (w2.alloc (.cells #[.slice Ac c.length cc] 25)).heap.size (w2.alloc (.cells #[.slice Ac c.length cc] 25)) w3 := (by rw [hw3]; exact pw_below_drewN (Below.refl _ _) nd3); have hbox : w3.cell? ⟨w2.heap.size, 0, none⟩ = some (.slice Ac c.length cc) := (by rw [hw3]; go_simp); have HO3 := Aside0.mk (Kd.S_below (Kd.S_alloc HO2.out _) hb_); have HC3 := Aside0.mk (Kd.R_below (Kd.R_alloc HC2.out _) hb_); have HB3 := Aside0.mk (below_step (below_alloc HB2.out _) hb_); clear hw3 hb_))
                  go_roundg k1
                  case measure => have := HK1.out; omega
                  case rel => exact ⟨O, _, rfl, HE, ⟨by have := HK1.out; omega⟩, HQ, ⟨Kd.S_mono HO3.out (fun _ _ => trivial)⟩, HB3⟩
                · replace c5 := Bool.eq_false_iff.mpr c5
                  rw [c5, if_neg (show ¬ (false = true) by decide)] at H
                  have HE := Aside0.mk H
                  clear H
                  go_wp2_with (first | (go_at_call 71; (with_reducible refine (impl_cycleWith.calls k1 n a0 c _ _ HCY.out).mono ?_); rintro e w2 ⟨vc, rfl, ho, hb⟩; obtain ⟨Ac, cc, ec⟩ := Kd.R_slice ho; subst ec; have HC2 := Aside0.mk (Kd.R_bound ho); have HO2 := Aside0.mk (Kd.S_below (Kd.S_bound HO.out) hb); have HB2 := Aside0.mk (below_step HB.out hb); have HZ2 := Aside0.mk hb.size; clear ho hb) | (go_at_call 72; (with_reducible refine (CY.contains ⟨w2.heap.size, 0, none⟩ Ac cc c Ao co O (w2.alloc (.cells #[.slice Ac c.length cc] 25)) (Kd.F_now (Kd.F_alloc (Kd.S_F HO2.out) _)) (by go_simp) (Kd.C_alloc (Kd.R_reads' HC2.out).2.2 _) HCL.out.1 (fun o ho_ => (HQ.out.2 o ho_).1) HQ.out.1).mono ?_); rintro e w3 ⟨rfl, ⟨nd3, hw3⟩⟩; have hb_ : Below (w2.alloc (.cells #[.slice Ac c.length cc] 25)).heap.size (w2.alloc (.cells #[.slice Ac c.length cc] 25)) w3 := (by rw [hw3]; exact pw_below_drewN (Below.refl _ _) nd3); have hbox : w3.cell? ⟨w2.heap.size, 0, none⟩ = some (.slice Ac c.length cc) := (by rw [hw3]; go_simp); have HO3 := Aside0.mk (Kd.S_below (Kd.S_alloc HO2.out _) hb_); have HC3 := Aside0.mk (Kd.R_below (Kd.R_alloc HC2.out _) hb_); have HB3 := Aside0.mk (below_step (below_alloc HB2.out _) hb_); clear hw3 hb_) | (at_builtin; refine Kd.S_append (Kd.slice 3 (Kd.int .i64)) (w0 := w) w.heap.size rfl (.tmp 36) (.tmp 38) 26 25 (.slice none 0 0) 24 rfl Try.underlying26 info25 rfl (by decide) (by omega) (.slice Ao O.length co) O c [.slice Ac c.length cc] (fun _ => True) (fun j => wo.heap.size ≤ j) rfl rfl ?hp ?hokp ?hfresh ?HO ?HB ?hbase ?hl ?_; (case hp => exact ⟨_, rfl, Kd.R_lower (Kd.R_mono HC3.out (fun j hj => hj.2.1)) HB.out.size⟩); (case hokp => exact (fun j hj => ⟨trivial, fun e => by have := HOL.out j e.symm; omega⟩)); (case hfresh => exact (fun j hj => trivial)); (case HO => exact Kd.S_mono HO3.out (fun j hj => ⟨trivial, by have := hj.2.2.1; omega⟩)); (case HB => exact HB3.out); (case hbase => exact HB3.out.size); (case hl => have := HCL.out.2.2; omega); intro v6 w6 ho hb hg hat; have HO6 := Aside0.mk ho; have HB6 := Aside0.mk hb; clear ho hb hg hat))
                  go_roundg k1
                  case measure => have := HK1.out; omega
                  case rel => exact ⟨O ++ [c], _, rfl, HE, ⟨by have := HK1.out; omega⟩, ⟨by have := HCL.out.2.2; simp; omega, fun o ho_ => (List.mem_append.mp ho_).elim (HQ.out.2 o) (fun e_ => by rw [List.mem_singleton] at e_; subst e_; exact ⟨HCL.out.1, HCL.out.2.1⟩)⟩, HO6, HB6⟩
              · rw [if_neg c3] at H
                cases H
            · replace c2 := Bool.eq_false_iff.mpr c2
              subst c2
              rw [if_neg (show ¬ (false = true) by decide)] at H
              simp only [Option.some.injEq, Prod.mk.injEq] at H
              obtain ⟨rfl, rfl⟩ := H
              go_wp2_with (first | (go_at_call 71; (with_reducible refine (impl_cycleWith.calls k1 n a0 c _ _ HCY.out).mono ?_); rintro e w2 ⟨vc, rfl, ho, hb⟩; obtain ⟨Ac, cc, ec⟩ := Kd.R_slice ho; subst ec; have HC2 := Aside0.mk (Kd.R_bound ho); have HO2 := Aside0.mk (Kd.S_below (Kd.S_bound HO.out) hb); have HB2 := Aside0.mk (below_step HB.out hb); have HZ2 := Aside0.mk hb.size; clear ho hb))
              go_ret2
              exact ⟨_, rfl, Kd.S_nil _ _ _ _ _, below_alloc HB2.out _⟩
          · rw [if_neg c1] at H
            have c1b : decide (n ≤ a1) = false := decide_eq_false c1
            by_cases c7 : 0 < O.length
            · rw [if_pos c7] at H
              have HPOS := Aside0.mk c7
              simp only [Option.some.injEq, Prod.mk.injEq] at H
              obtain ⟨hr, rfl⟩ := H
              have HR := Aside0.mk hr
              clear hr c7 c1
              go_wp2_with (first | (go_at_call 74; (with_reducible refine (SF.calls (.slice Ao O.length co) O wo w.heap.size _ HO.out HPOS.out HQ.out.1 (fun l hl => (HQ.out.2 l hl).2)).mono ?_); rintro e w3 ⟨rfl, L3, p3, s3, hS3, k3, os3, tp3, out3⟩; have HE3 := Aside0.mk (SF.so_eq p3 s3); have HS3 := Aside0.mk hS3; have HB3 : Aside0 (Below w.heap.size w w3) := ⟨HB.out.trans ⟨os3, tp3, out3, k3.1, fun k hk => k3.2 k (by have := HB.out.size; omega) (fun e => by have := Kd.S_base HO.out k e.symm; omega)⟩⟩; clear p3 s3 hS3 k3 os3 tp3 out3))
              go_ret2
              have e := HE3.out.trans HR.out
              subst e
              exact ⟨_, rfl, Kd.S_mono HS3.out (fun _ _ => trivial), HB3.out⟩
            · rw [if_neg c7] at H
              cases H
    · replace c6 := Bool.eq_false_iff.mpr c6
      subst c6
      rw [if_neg (show ¬ (false = true) by decide)] at h
      simp only [Option.some.injEq, Prod.mk.injEq] at h
      obtain ⟨rfl, rfl⟩ := h
      go_enter Try.func30, Try.ntmps30
      go_wp2_with (first | ((with_reducible refine gate_callee (f := 70) rfl ?_); refine goesL_ (some 11) rfl rfl Try.func70 (by kernel_rfl) rfl #[.int .i64 a0] rfl (by (try simp only [List.map_toArray, List.map_cons, List.map_nil]); first | done | rfl) ?_; (with_reducible refine (impl_isAdded.calls a0 true _ A3.out).mono ?_); rintro e w_ ⟨rfl, ⟨nd, rfl⟩⟩; refine ⟨_, rfl, ?_⟩) | (go_at_call 34; (with_reducible refine (impl_in.calls a1 1 200 false _ A5.out).mono ?_); rintro e w_ ⟨rfl, ⟨nd2, rfl⟩⟩))
      go_ret2
      exact ⟨_, rfl, Kd.S_nil _ _ _ _ _, by repeat (first | (with_reducible first | exact HB.out | apply below_alloc | apply pw_below_drewN | apply below_drew1) | exact HB.out)⟩
  · replace c4 := Bool.eq_false_iff.mpr c4
    subst c4
    rw [if_neg (show ¬ (false = true) by decide)] at h
    simp only [Option.some.injEq, Prod.mk.injEq] at h
    obtain ⟨rfl, rfl⟩ := h
    go_enter Try.func30, Try.ntmps30
    go_wp2_with (first | ((with_reducible refine gate_callee (f := 70) rfl ?_); refine goesL_ (some 11) rfl rfl Try.func70 (by kernel_rfl) rfl #[.int .i64 a0] rfl (by (try simp only [List.map_toArray, List.map_cons, List.map_nil]); first | done | rfl) ?_; (with_reducible refine (impl_isAdded.calls a0 false _ A3.out).mono ?_); rintro e w_ ⟨rfl, ⟨nd, rfl⟩⟩; refine ⟨_, rfl, ?_⟩))
    go_ret2
    exact ⟨_, rfl, Kd.S_nil _ _ _ _ _, by repeat (first | (with_reducible first | exact HB.out | apply below_alloc | apply pw_below_drewN | apply below_drew1) | exact HB.out)⟩

/-! ### laws_FnExactCyclesWith: function 9 -/
/-- THE ONE PURE STATEMENT of laws_FnExactCyclesWith. -/
def laws_FnExactCyclesWith.Pure : Prop := ∀ (a0 : Int) (a1 : Int), (Lit.int .i64 a0).wf = true → (Lit.int .i64 a1).wf = true → ∃ (k : Nat) (rows : List (List Int)) (ok_ : Bool), spec_CyclesWith.f k a0 a1 = some (rows, ok_) ∧ impl_CyclesWith.f k a0 a1 = some (rows, ok_) ∧ laws_eqIntSS.f k rows rows = some true ∧ laws_heldIntSS.f k (laws_markIntSS.mks rows 1) 1 = some (1 + ((laws_markIntSS.tot rows : Nat) : Int)) ∧ 1 + ((laws_markIntSS.tot rows : Nat) : Int) ≤ 4611686018427387904 ∧ rows.length ≤ 4611686018427387904
set_option maxHeartbeats 8000000 in
set_option maxRecDepth 100000 in
theorem laws_FnExactCyclesWith.walk (P : laws_FnExactCyclesWith.Pure) (a0 : Int) (a1 : Int) (w : World) (w0 : (Lit.int .i64 a0).wf = true) (w1 : (Lit.int .i64 a1).wf = true) :
    Calls Try.prog 9 #[.int .i64 a0, .int .i64 a1] w fun e w' => e = .returned (.bool true) ∧ Below w.heap.size w w' := by
  have HB := Aside0.mk (Below.refl w.heap.size w)
  obtain ⟨k, rows, ok_, hHS, hHI, hHE, hHHE, hHTO, hHTL⟩ := P a0 a1 w0 w1
  clear P w0 w1
  have HS := Aside0.mk hHS
  have HI := Aside0.mk hHI
  have HE := Aside0.mk hHE
  have HHE := Aside0.mk hHHE
  have HTO := Aside0.mk hHTO
  have HTL := Aside0.mk hHTL
  clear hHS hHI hHE hHHE hHTO hHTL
  have HON : Aside0 ((0 : Int) ≤ 1) := ⟨by decide⟩
  have HTG : Aside0 (0 ≤ 1 + ((laws_markIntSS.tot rows : Nat) : Int)) := ⟨by omega⟩
  obtain ⟨tt, htt⟩ : ∃ t_ : Int, t_ = 1 + ((laws_markIntSS.tot rows : Nat) : Int) := ⟨_, rfl⟩
  have q1 : decide (tt < 0) = false := decide_eq_false (by have := HTG.out; omega)
  have q2 : (tt != tt) = false := bne_self_eq_false tt
  have q3 : (ok_ != ok_) = false := bne_self_eq_false ok_
  have HTT := Aside0.mk htt
  clear htt
  have HHE2 : Aside0 (laws_heldIntSS.f k (laws_markIntSS.mks rows 1) 1 = some tt) := ⟨by rw [HTT.out]; exact HHE.out⟩
  have HLM : Aside0 ((laws_markIntSS.mks rows 1).length = rows.length) := ⟨laws_markIntSS.mks_length rows 1⟩
  have HHC : Aside0 (∀ (A_ : Option Addr) (c_ : Nat) (W_ : World), Kd.C (Kd.slice 3 (Kd.int .i64)) W_ A_ rows.length (laws_markIntSS.mks rows 1) → rows.length ≤ c_ → Calls Try.prog 23 #[.slice A_ rows.length c_, .int .i64 1] W_ fun e w' => e = .returned (.int .i64 tt) ∧ Drawn0 W_ w') := ⟨by intro A_ c_ W_ h1_ h2_; have h_ := laws_heldIntSS.calls k A_ c_ (laws_markIntSS.mks rows 1) 1 tt W_ (by rw [HLM.out]; exact h1_) (by rw [HLM.out]; exact h2_) HHE2.out; rw [HLM.out] at h_; exact h_⟩
  go_enter Try.func9, Try.ntmps9
  go_wp2_with (first | ((with_reducible refine gate_callee (f := 29) rfl ?_); refine goesL_ (some 16) rfl rfl Try.func29 (by kernel_rfl) rfl #[.int .i64 a0, .int .i64 a1] rfl (by (try simp only [List.map_toArray, List.map_cons, List.map_nil]); first | done | rfl) ?_; (with_reducible refine (spec_CyclesWith.calls k a0 a1 rows ok_ _ HS.out).mono ?_); rintro e wq1 ⟨v_, rfl, ho, hb⟩; refine ⟨_, rfl, ?_⟩; replace ho := Kd.N_V (base' := 0) ho; obtain ⟨AW, cW, eW⟩ := Kd.V_slice ho; subst eW; obtain ⟨n2, hn2⟩ : ∃ n_, n_ = wq1.heap.size := ⟨_, rfl⟩; have HN2 := Aside0.mk hn2; have HF := Aside0.mk (Kd.F_mono (Kd.F_bound (Kd.V_F ho)) (ok' := (fun k_ => k_ < n2)) (fun k_ hk_ => by rw [HN2.out]; exact hk_.2)); have HCW := Aside0.mk (Kd.V_reads' ho).2.1; have n0_ := Aside0.mk (below_step (by repeat (first | (with_reducible first | exact HB.out | apply below_alloc | apply pw_below_drewN | apply below_drew1) | exact HB.out)) hb); clear HB; have HB := n0_; clear n0_; clear ho hb hn2) | ((with_reducible refine gate_callee (f := 30) rfl ?_); refine goesL_ (some 22) rfl rfl Try.func30 (by kernel_rfl) rfl #[.int .i64 a0, .int .i64 a1] rfl (by (try simp only [List.map_toArray, List.map_cons, List.map_nil]); first | done | rfl) ?_; (with_reducible refine (impl_CyclesWith.calls k a0 a1 rows ok_ _ HI.out).mono ?_); rintro e wq2 ⟨v_, rfl, ho, hb⟩; refine ⟨_, rfl, ?_⟩; obtain ⟨n4, hn4⟩ : ∃ n_, n_ = wq2.heap.size := ⟨_, rfl⟩; have HG := Aside0.mk (Kd.S_lower (Kd.S_mono (Kd.S_bound ho) (ok' := (fun k_ => n2 ≤ k_ ∧ k_ < n4)) (fun k_ hk_ => ⟨Nat.le_trans (by rw [HN2.out]; first | exact Nat.le_refl _ | simp) hk_.2.1, by rw [hn4]; exact hk_.2.2.1⟩)) (below_size (by repeat (first | (with_reducible first | exact HB.out | apply below_alloc | apply pw_below_drewN | apply below_drew1) | exact HB.out)))); have n0_ := Aside0.mk (Kd.F_below (by (with_reducible repeat (first | apply Kd.F_alloc | apply Kd.F_drewN | apply Kd.F_drew)); exact HF.out) hb); have n1_ := Aside0.mk (below_step (by repeat (first | (with_reducible first | exact HB.out | apply below_alloc | apply pw_below_drewN | apply below_drew1) | exact HB.out)) hb); clear HF; clear HB; have HF := n0_; have HB := n1_; clear n0_ n1_; clear ho hb hn4; obtain ⟨AG, cG, eG⟩ := Kd.S_slice HG.out; subst eG) | ((with_reducible refine gate_callee (f := 19) rfl ?_); refine goesL_ (some 27) rfl rfl Try.func19 (by kernel_rfl) rfl #[.slice AG rows.length cG, .slice AW rows.length cW] rfl (by (try simp only [List.map_toArray, List.map_cons, List.map_nil]); first | done | rfl) ?_; (with_reducible refine (laws_eqIntSS.calls k _ _ rows _ _ rows true _ ?side1 ?side2 ?side3 ?side4 HE.out).mono ?_); (case side1 => repeat (first | exact (Kd.S_reads' HG.out).2.2 | (with_reducible refine Kd.C_alloc ?_ _) | (with_reducible refine Kd.C_drewN ?_ _) | (with_reducible refine Kd.C_drew ?_))); (case side2 => exact (Kd.S_reads' HG.out).2.1); (case side3 => repeat (first | exact (Kd.F_now HF.out) | (with_reducible refine Kd.C_alloc ?_ _) | (with_reducible refine Kd.C_drewN ?_ _) | (with_reducible refine Kd.C_drew ?_))); (case side4 => exact HCW.out); rintro e wq3 ⟨rfl, hd⟩; refine ⟨_, rfl, ?_⟩; have hb := hd.below; clear hd; have n0_ := Aside0.mk (Kd.F_below (by (with_reducible repeat (first | apply Kd.F_alloc | apply Kd.F_drewN | apply Kd.F_drew)); exact HF.out) hb); have n1_ := Aside0.mk (Kd.S_below (by (with_reducible repeat (first | apply Kd.S_alloc | apply Kd.S_drewN | apply Kd.S_drew)); exact HG.out) hb); have n2_ := Aside0.mk (below_step (by repeat (first | (with_reducible first | exact HB.out | apply below_alloc | apply pw_below_drewN | apply below_drew1) | exact HB.out)) hb); clear HF; clear HG; clear HB; have HF := n0_; have HG := n1_; have HB := n2_; clear n0_ n1_ n2_; clear hb) | ((with_reducible refine gate_callee (f := 22) rfl ?_); refine goesL_ (some 36) rfl rfl Try.func22 (by kernel_rfl) rfl #[.slice AG rows.length cG, .int .i64 1] rfl (by (try simp only [List.map_toArray, List.map_cons, List.map_nil]); first | done | rfl) ?_; (with_reducible refine (laws_markIntSS.calls (fun k_ => n2 ≤ k_ ∧ k_ < n4) _ rows 1 w _ ?side1 ?side2 HON.out HTO.out HTL.out).mono ?_); (case side1 => exact (by repeat (first | (with_reducible first | exact HB.out | apply below_alloc | apply pw_below_drewN | apply below_drew1) | exact HB.out))); (case side2 => exact (by (with_reducible repeat (first | apply Kd.S_alloc | apply Kd.S_drewN | apply Kd.S_drew)); exact HG.out)); rintro e wq4 ⟨he_, hr, hb2, hk⟩; rw [← HTT.out] at he_; subst he_; refine ⟨_, rfl, ?_⟩; have n0_ := Aside0.mk (Kd.F_kept (by (with_reducible repeat (first | apply Kd.F_alloc | apply Kd.F_drewN | apply Kd.F_drew)); exact HF.out) hk (fun k_ hk_ hs_ => by omega)); have n1_ := Aside0.mk (hb2); clear HF; clear HB; have HF := n0_; have HB := n1_; clear n0_ n1_; clear HG; have HG := Aside0.mk hr; clear hb2 hk hr) | ((with_reducible refine gate_callee (f := 23) rfl ?_); refine goesL_ (some 39) rfl rfl Try.func23 (by kernel_rfl) rfl #[.slice AG rows.length cG, .int .i64 1] rfl (by (try simp only [List.map_toArray, List.map_cons, List.map_nil]); first | done | rfl) ?_; (with_reducible refine (HHC.out _ _ _ ?side1 ?side2).mono ?_); (case side1 => repeat (first | exact (by have h_ := (Kd.S_reads' HG.out).2.2; rw [HLM.out] at h_; exact h_) | (with_reducible refine Kd.C_alloc ?_ _) | (with_reducible refine Kd.C_drewN ?_ _) | (with_reducible refine Kd.C_drew ?_))); (case side2 => exact (Kd.S_reads' HG.out).2.1); rintro e wq5 ⟨rfl, hd⟩; refine ⟨_, rfl, ?_⟩; have hb := hd.below; clear hd; have n0_ := Aside0.mk (Kd.F_below (by (with_reducible repeat (first | apply Kd.F_alloc | apply Kd.F_drewN | apply Kd.F_drew)); exact HF.out) hb); have n1_ := Aside0.mk (Kd.S_below (by (with_reducible repeat (first | apply Kd.S_alloc | apply Kd.S_drewN | apply Kd.S_drew)); exact HG.out) hb); have n2_ := Aside0.mk (below_step (by repeat (first | (with_reducible first | exact HB.out | apply below_alloc | apply pw_below_drewN | apply below_drew1) | exact HB.out)) hb); clear HF; clear HG; clear HB; have HF := n0_; have HG := n1_; have HB := n2_; clear n0_ n1_ n2_; clear hb) | ((with_reducible refine gate_callee (f := 30) rfl ?_); refine goesL_ (some 48) rfl rfl Try.func30 (by kernel_rfl) rfl #[.int .i64 a0, .int .i64 a1] rfl (by (try simp only [List.map_toArray, List.map_cons, List.map_nil]); first | done | rfl) ?_; (with_reducible refine (impl_CyclesWith.calls k a0 a1 rows ok_ _ HI.out).mono ?_); rintro e wq6 ⟨v_, rfl, ho, hb⟩; refine ⟨_, rfl, ?_⟩; have HH := Aside0.mk (Kd.S_lower ho (below_size (by repeat (first | (with_reducible first | exact HB.out | apply below_alloc | apply pw_below_drewN | apply below_drew1) | exact HB.out)))); have n0_ := Aside0.mk (Kd.F_below (by (with_reducible repeat (first | apply Kd.F_alloc | apply Kd.F_drewN | apply Kd.F_drew)); exact HF.out) hb); have n1_ := Aside0.mk (Kd.S_below (by (with_reducible repeat (first | apply Kd.S_alloc | apply Kd.S_drewN | apply Kd.S_drew)); exact HG.out) hb); have n2_ := Aside0.mk (below_step (by repeat (first | (with_reducible first | exact HB.out | apply below_alloc | apply pw_below_drewN | apply below_drew1) | exact HB.out)) hb); clear HF; clear HG; clear HB; have HF := n0_; have HG := n1_; have HB := n2_; clear n0_ n1_ n2_; clear ho hb; obtain ⟨AH, cH, eH⟩ := Kd.S_slice HH.out; subst eH) | ((with_reducible refine gate_callee (f := 19) rfl ?_); refine goesL_ (some 53) rfl rfl Try.func19 (by kernel_rfl) rfl #[.slice AH rows.length cH, .slice AW rows.length cW] rfl (by (try simp only [List.map_toArray, List.map_cons, List.map_nil]); first | done | rfl) ?_; (with_reducible refine (laws_eqIntSS.calls k _ _ rows _ _ rows true _ ?side1 ?side2 ?side3 ?side4 HE.out).mono ?_); (case side1 => repeat (first | exact (Kd.S_reads' HH.out).2.2 | (with_reducible refine Kd.C_alloc ?_ _) | (with_reducible refine Kd.C_drewN ?_ _) | (with_reducible refine Kd.C_drew ?_))); (case side2 => exact (Kd.S_reads' HH.out).2.1); (case side3 => repeat (first | exact (Kd.F_now HF.out) | (with_reducible refine Kd.C_alloc ?_ _) | (with_reducible refine Kd.C_drewN ?_ _) | (with_reducible refine Kd.C_drew ?_))); (case side4 => exact HCW.out); rintro e wq7 ⟨rfl, hd⟩; refine ⟨_, rfl, ?_⟩; have hb := hd.below; clear hd; have n0_ := Aside0.mk (Kd.F_below (by (with_reducible repeat (first | apply Kd.F_alloc | apply Kd.F_drewN | apply Kd.F_drew)); exact HF.out) hb); have n1_ := Aside0.mk (Kd.S_below (by (with_reducible repeat (first | apply Kd.S_alloc | apply Kd.S_drewN | apply Kd.S_drew)); exact HG.out) hb); have n2_ := Aside0.mk (below_step (by repeat (first | (with_reducible first | exact HB.out | apply below_alloc | apply pw_below_drewN | apply below_drew1) | exact HB.out)) hb); clear HH; clear HF; clear HG; clear HB; have HF := n0_; have HG := n1_; have HB := n2_; clear n0_ n1_ n2_; clear hb) | ((with_reducible refine gate_callee (f := 23) rfl ?_); refine goesL_ (some 62) rfl rfl Try.func23 (by kernel_rfl) rfl #[.slice AG rows.length cG, .int .i64 1] rfl (by (try simp only [List.map_toArray, List.map_cons, List.map_nil]); first | done | rfl) ?_; (with_reducible refine (HHC.out _ _ _ ?side1 ?side2).mono ?_); (case side1 => repeat (first | exact (by have h_ := (Kd.S_reads' HG.out).2.2; rw [HLM.out] at h_; exact h_) | (with_reducible refine Kd.C_alloc ?_ _) | (with_reducible refine Kd.C_drewN ?_ _) | (with_reducible refine Kd.C_drew ?_))); (case side2 => exact (Kd.S_reads' HG.out).2.1); rintro e wq8 ⟨rfl, hd⟩; refine ⟨_, rfl, ?_⟩; have hb := hd.below; clear hd; have n0_ := Aside0.mk (Kd.F_below (by (with_reducible repeat (first | apply Kd.F_alloc | apply Kd.F_drewN | apply Kd.F_drew)); exact HF.out) hb); have n1_ := Aside0.mk (Kd.S_below (by (with_reducible repeat (first | apply Kd.S_alloc | apply Kd.S_drewN | apply Kd.S_drew)); exact HG.out) hb); have n2_ := Aside0.mk (below_step (by repeat (first | (with_reducible first | exact HB.out | apply below_alloc | apply pw_below_drewN | apply below_drew1) | exact HB.out)) hb); clear HF; clear HG; clear HB; have HF := n0_; have HG := n1_; have HB := n2_; clear n0_ n1_ n2_; clear hb))
  go_ret
  exact ⟨rfl, (by repeat (first | (with_reducible first | exact HB.out | apply below_alloc | apply pw_below_drewN | apply below_drew1) | exact HB.out))⟩

end Go.Proofs.Ytimimjmabnmeoaa.PFnExactCyclesWith
