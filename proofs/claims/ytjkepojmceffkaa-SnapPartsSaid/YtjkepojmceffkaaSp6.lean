/- Part of the proof of the law Sp. Its words and prints are cut from what the kit printed for this claim. -/
import Derived.Test.YtjkepojmceffkaaSp5
import Derived.Below
import Derived.ChangeArms
import Derived.ChangeOld
import Derived.DataReads
import Derived.Deep.RegionHeld3
import Derived.Deep.Slices
import Derived.OpenShut
import Derived.ProofKit
import Derived.ShutString
import Derived.SizedLaws
import Derived.Test.YtjkepojmceffkaaRows
import Derived.WalkKit
set_option linter.unusedVariables false
set_option linter.unusedSimpArgs false
namespace Go.Proofs.Ytjkepojmceffkaa
open Go Go.RowKit Go.Proofs.YtjkepojmceffkaaW.PrintWords Go.Proofs.Ytjkepojmceffkaa.R
def valueL : List S118 → Int → Int
  | [], _ => 0
  | j :: f, t => (if j.f0 ≤ t then j.f1 else 0) + valueL f t
def sumL : List S118 → Int
  | [] => 0
  | j :: f => j.f1 + sumL f
theorem valueL_append : ∀ (a b : List S118) (t : Int), valueL (a ++ b) t = valueL a t + valueL b t
  | [], b, t => by simp [valueL]
  | j :: a, b, t => by rw [List.cons_append, valueL, valueL, valueL_append a b t]; omega
theorem valueL_all : ∀ (a : List S118) (t : Int), (∀ x ∈ a, x.f0 ≤ t) → valueL a t = sumL a
  | [], _, _ => rfl
  | j :: a, t, h => by rw [valueL, sumL, if_pos (h j (by simp)), valueL_all a t (fun x hx => h x (by simp [hx]))]
theorem valueL_none : ∀ (a : List S118) (t : Int), (∀ x ∈ a, t < x.f0) → valueL a t = 0
  | [], _, _ => rfl
  | j :: a, t, h => by rw [valueL, if_neg (by have := h j (by simp); omega), valueL_none a t (fun x hx => h x (by simp [hx]))]; omega
theorem stepMayL_up : ∀ (f : List S118) (last : Int), stepMayL last f = true → f.Pairwise (fun a b => a.f0 < b.f0) ∧ ∀ x ∈ f, last < x.f0
  | [], _, _ => ⟨List.Pairwise.nil, by simp⟩
  | j :: f, last, h => by
    simp only [stepMayL, Bool.and_eq_true, decide_eq_true_eq] at h
    obtain ⟨h1, h2⟩ := stepMayL_up f j.f0 h.2.2.2.2
    refine ⟨List.pairwise_cons.2 ⟨h2, h1⟩, fun x hx => ?_⟩
    rcases List.mem_cons.1 hx with rfl | hx
    · exact h.1
    · have := h2 x hx; have := h.1; omega
theorem stepAtL_value : ∀ (f : List S118), f.Pairwise (fun a b => a.f0 < b.f0) → ∀ t v, stepAtL t v f = v + valueL f t
  | [], _, t, v => by simp [stepAtL, valueL]
  | j :: f, h, t, v => by
    obtain ⟨h1, h2⟩ := List.pairwise_cons.1 h
    rw [stepAtL, valueL]
    by_cases hj : j.f0 > t
    · rw [if_pos hj, if_neg (by omega), valueL_none f t (fun x hx => by have := h1 x hx; omega)]; omega
    · rw [if_neg hj, if_pos (by omega), stepAtL_value f h2 t]; omega
theorem stepMay_up {f : List S118} (h : stepMay f = true) : f.Pairwise (fun a b => a.f0 < b.f0) ∧ ∀ x ∈ f, -2 < x.f0 := by
  simp only [stepMay, Bool.and_eq_true] at h
  exact stepMayL_up f _ h.2
theorem stepAt_value {f : List S118} (h : stepMay f = true) (t : Int) : stepAt f t = valueL f t := by
  unfold stepAt
  rw [if_pos h, stepAtL_value f (stepMay_up h).1]
  omega
theorem value_l0 (f : List S118) (t : Int) (hf : f.length ≤ 1024) (hb : ∀ x ∈ f, -1048576 ≤ x.f1 ∧ x.f1 ≤ 1048576) : ∀ m j v, j + m = f.length → -(1048576 * (j : Int)) ≤ v → v ≤ 1048576 * (j : Int) →
    rescindref09_Value.l0 (m + 1) f t v (j : Int) = some (v + valueL (f.drop j) t) := by
  intro m
  induction m with
  | zero =>
    intro j v hj _ _
    rw [rescindref09_Value.l0, if_neg (by omega), List.drop_of_length_le (by omega)]
    simp [valueL]
  | succ m ih =>
    intro j v hj h1 h2
    have hlt : j < f.length := by omega
    have hb' := hb _ (List.getElem_mem hlt)
    rw [rescindref09_Value.l0, if_pos (by omega), if_pos (by omega), rd118 hlt, drop_cons hlt, wrap_succ (by omega), valueL]
    by_cases hx : f[j].f0 ≤ t
    · rw [if_pos hx, if_pos hx, wrap_id (by omega) (by omega), ih (j + 1) _ (by omega) (by omega) (by omega)]
      congr 1; omega
    · rw [if_neg hx, if_neg hx, ih (j + 1) _ (by omega) (by omega) (by omega)]
      congr 1; omega
theorem value_f {f : List S118} (h : stepMay f = true) (t : Int) : ∀ k, f.length + 1 ≤ k → rescindref09_Value.f k f t = some (valueL f t) := by
  refine up_mono (rescindref09_Value.mono f t) ?_
  have hf := stepMay_fair h
  have := value_l0 f t hf.1 hf.2 f.length 0 0 (by omega) (by omega) (by omega)
  simpa [rescindref09_Value.f] using this
theorem ref09May_l0 (f : List S118) (hl : f.length ≤ 1024) : ∀ m j last, j + m = f.length → stepMayL last (f.drop j) = true → -2 ≤ last → (0 < j → ∀ h : j - 1 < f.length, f[j - 1].f0 = last) → rescindref09_May.l0 (2 * m + 1) f (j : Int) = some true := by
  intro m
  induction m with
  | zero =>
    intro j last hj _ _ _
    rw [rescindref09_May.l0, if_neg (by omega)]
  | succ m ih =>
    intro j last hj hs hl2 hp
    have hlt : j < f.length := by omega
    rw [drop_cons hlt] at hs
    simp only [stepMayL, Bool.and_eq_true, decide_eq_true_eq, fairP] at hs
    obtain ⟨h1, h2, h3, ⟨h4, h5⟩, h6⟩ := hs
    have hih := ih (j + 1) f[j].f0 (by omega) h6 (by omega) (fun _ _ => by simp)
    rw [show 2 * (m + 1) + 1 = (2 * m + 1) + 1 + 1 by omega, rescindref09_May.l0, if_pos (by omega), if_pos (by omega), rd118 hlt, if_neg (by omega), if_neg (by omega), if_neg h3, if_neg (by omega), rescindref09_May.j1, if_neg (by simp; omega)]
    by_cases hj0 : j = 0
    · subst hj0
      rw [if_neg (by simp), wrap_succ (by omega), hih]
    · rw [if_pos (by omega), if_pos (by omega), if_pos (by omega), wrap_pred (by omega) (by omega), if_pos (by omega), if_pos (by omega), rd118 (show j - 1 < f.length by omega), rd118 hlt, hp (by omega) (by omega), if_neg (by omega), wrap_succ (by omega), hih]
theorem ref09May_f {f : List S118} (h : stepMay f = true) : Ev (fun k => rescindref09_May.f k f) true := by
  have hf := stepMay_fair h
  refine ⟨2 * f.length + 1, up_mono (rescindref09_May.mono f) ?_⟩
  unfold rescindref09_May.f
  rw [if_neg (by omega)]
  simp only [stepMay, Bool.and_eq_true] at h
  exact ref09May_l0 f hf.1 f.length 0 (-2) (by omega) (by simpa using h.2) (by omega) (fun h => absurd h (by omega))
theorem value_at {f : List S118} (hp : f.Pairwise (fun a b => a.f0 < b.f0)) {j : Nat} (hj : j < f.length) : valueL f f[j].f0 = sumL (f.take j) + f[j].f1 := by
  have hg := List.pairwise_iff_getElem.1 hp
  have hsp : ∀ t, valueL f t = valueL (f.take (j + 1)) t + valueL (f.drop (j + 1)) t := fun t => by rw [← valueL_append, List.take_append_drop]
  rw [hsp, valueL_none (f.drop (j + 1)), ← List.take_append_getElem hj, valueL_all]
  · have : ∀ (a : List S118) (x : S118), sumL (a ++ [x]) = sumL a + x.f1 := fun a x => by induction a with
      | nil => simp [sumL]
      | cons y a ih => rw [List.cons_append, sumL, sumL, ih]; omega
    rw [this]; omega
  · intro x hx
    rcases List.mem_append.1 hx with hx | hx
    · obtain ⟨i, hi, rfl⟩ := List.mem_iff_getElem.1 hx
      have hi2 : i < j := by simp at hi; omega
      have := hg i j (by omega) hj hi2
      rw [List.getElem_take]; omega
    · obtain rfl : x = f[j] := by simpa using hx
      omega
  · intro x hx
    obtain ⟨i, hi, rfl⟩ := List.mem_iff_getElem.1 hx
    rw [List.getElem_drop]
    exact hg j (j + 1 + i) hj (by simp at hi; omega) (by omega)
theorem sumL_take {f : List S118} {j : Nat} (hj : j < f.length) : sumL (f.take (j + 1)) = sumL (f.take j) + f[j].f1 := by
  rw [← List.take_append_getElem hj]
  generalize f.take j = a
  induction a with
  | nil => simp [sumL]
  | cons y a ih => rw [List.cons_append, sumL, sumL, ih]; omega
theorem least_l0 {f : List S118} (h : stepMay f = true) : ∀ m j mi, j + m = f.length → Ev (fun k => rescindref09_Least.l0 k f mi (j : Int)) (stepLeastL (sumL (f.take j)) mi (f.drop j)) := by
  have hf := stepMay_fair h
  intro m
  induction m with
  | zero =>
    intro j mi hj
    rw [List.drop_of_length_le (by omega)]
    exact Ev.now 0 (fun k _ => by rw [rescindref09_Least.l0, if_neg (by omega)]; rfl)
  | succ m ih =>
    intro j mi hj
    have hlt : j < f.length := by omega
    rw [drop_cons hlt, stepLeastL, ← sumL_take hlt]
    refine Ev.step (f.length + 1) (fun k hk => ?_) (ih (j + 1) _ (by omega))
    rw [rescindref09_Least.l0, if_pos (by omega), if_pos (by omega), rd118 hlt, value_f h _ _ hk]
    simp only [Option.bind_some]
    rw [value_at (stepMay_up h).1 hlt, ← sumL_take hlt, wrap_succ (by omega)]
    unfold mn
    split <;> rfl
theorem least_f {f : List S118} (h : stepMay f = true) : Ev (fun k => rescindref09_Least.f k f) (stepLeast f) := by
  have hu := stepMay_up h
  have hl := least_l0 h f.length 0 (least0 f) (by omega)
  have h0 : valueL f (-1) = least0 f := by
    cases f with
    | nil => rfl
    | cons x f =>
      obtain ⟨h1, h2⟩ := List.pairwise_cons.1 hu.1
      have hx := hu.2 x (by simp)
      rw [valueL, valueL_none f (-1) (fun y hy => by have := h1 y hy; omega), least0]
      by_cases e : x.f0 = -1
      · rw [if_pos (by omega), if_pos e]; omega
      · rw [if_neg (by omega), if_neg e]; omega
  have hgoal : stepLeast f = stepLeastL 0 (least0 f) f := by unfold stepLeast; rw [if_pos h]
  rw [hgoal]
  have hb := Ev.bind (ref09May_f h) (g := fun k t347 => if t347 = true then (rescindref09_Value.f k f (-1)).bind fun t348 => rescindref09_Least.l0 k f t348 0 else some 0) (r := stepLeastL 0 (least0 f) f) (by
    have hv : Ev (fun k => rescindref09_Value.f k f (-1)) (least0 f) := ⟨f.length + 1, fun k hk => by rw [← h0]; exact value_f h _ k hk⟩
    have := Ev.bind hv (g := fun k t348 => rescindref09_Least.l0 k f t348 0) hl
    simpa [sumL] using this)
  exact hb
def tableAll (l : List S44) : Bool := (rowsR l).all fun r => decide (0 ≤ stepLeast (jumpsL l r))
theorem table_l0 (l : List S44) (hl : l.length ≤ 1000000) (rows : List (List S70)) (hr : ∀ r ∈ rows, r.length ≤ 8 ∧ stepMay (jumpsL l r) = true) (hrl : rows.length ≤ 1000000) : ∀ m j, j + m = rows.length → Ev (fun k => rescindref10_Table.l0 k l rows (j : Int)) ((rows.drop j).all fun r => decide (0 ≤ stepLeast (jumpsL l r))) := by
  intro m
  induction m with
  | zero =>
    intro j hj
    rw [List.drop_of_length_le (by omega)]
    exact Ev.now 0 (fun k _ => by rw [rescindref10_Table.l0, if_neg (by omega)]; rfl)
  | succ m ih =>
    intro j hj
    have hlt : j < rows.length := by omega
    have hrj := hr _ (List.getElem_mem hlt)
    obtain ⟨K, hK0⟩ := jumps_f l rows[j] hl hrj.1
    have hK : ∀ k, K ≤ k → rescindref10_Jumps.f k l rows[j] = some (jumpsL l rows[j]) := hK0
    obtain ⟨K2, hK20⟩ := least_f hrj.2
    have hK2 : ∀ k, K2 ≤ k → rescindref09_Least.f k (jumpsL l rows[j]) = some (stepLeast (jumpsL l rows[j])) := hK20
    have hst : ∀ k, max K K2 ≤ k → rescindref10_Table.l0 (k + 1) l rows (j : Int) = (if stepLeast (jumpsL l rows[j]) < 0 then some false else rescindref10_Table.l0 k l rows ((j + 1 : Nat) : Int)) := fun k hk => by
      rw [rescindref10_Table.l0, if_pos (by omega), if_pos (by omega), rdL3 hlt, hK k (by omega)]
      simp only [Option.bind_some]
      rw [hK2 k (by omega), wrap_succ (by omega)]
      rfl
    rw [drop_cons hlt, List.all_cons]
    by_cases h : 0 ≤ stepLeast (jumpsL l rows[j])
    · rw [decide_eq_true h, Bool.true_and]
      exact Ev.step (max K K2) (fun k hk => by rw [hst k hk, if_neg (by omega)]) (ih (j + 1) (by omega))
    · rw [decide_eq_false h, Bool.false_and]
      exact Ev.now (max K K2) (fun k hk => by rw [hst k hk, if_pos (by omega)])
theorem may_parts {l : List S44} (h : edgeMay l = true) : l.length ≤ 4096 ∧ scan none l = true ∧ mayAll l = true := by
  rw [edgeMay_eq] at h
  simpa using h
theorem eachL_all {p : List S118 → Bool} : ∀ (L : List (List S70 × List S118)) (last : Option (List S70)), eachL p last L = true → ∀ y ∈ L, p y.2 = true
  | [], _, _, y, hy => by cases hy
  | (r, f) :: L, last, h, y, hy => by
    simp only [eachL, Bool.and_eq_true] at h
    rcases List.mem_cons.1 hy with rfl | hy
    · exact h.1.2
    · exact eachL_all L _ h.2 y hy
theorem runs_may {l : List S44} (h : edgeMay l = true) : ∀ y ∈ runsL l, stepMay y.2 = true := by
  simp only [edgeMay, edgeEach, Bool.and_eq_true] at h
  exact eachL_all _ _ h.2
theorem eachL_and {p q : List S118 → Bool} : ∀ (L : List (List S70 × List S118)) (last : Option (List S70)), eachL (fun f => p f && q f) last L = (eachL p last L && L.all fun y => q y.2)
  | [], _ => rfl
  | (r, f) :: L, last => by
    rw [eachL, eachL, eachL_and L, List.all_cons]
    generalize rowMay r = a
    generalize risesRow last r = b
    generalize p f = c
    generalize q f = d
    generalize eachL p (some r) L = e
    generalize (L.all fun y => q y.2) = g
    revert a b c d e g
    decide
theorem edgeTable_eq {l : List S44} (h : edgeMay l = true) : edgeTable l = tableAll l := by
  have hm := may_parts h
  have e : edgeTable l = (edgeMay l && (runsL l).all fun y => decide (0 ≤ stepLeast y.2)) := by
    show (decide (l.length ≤ 4096) && eachL (fun f => stepMay f && decide (stepLeast f ≥ 0)) none (runsL l)) = _
    rw [eachL_and]
    simp only [edgeMay, edgeEach, Bool.and_assoc]
    try rfl
  rw [e, h, Bool.true_and]
  unfold tableAll rowsR
  rw [List.all_map]
  have : ∀ (L : List (List S70 × List S118)), (∀ y ∈ L, jumpsL l y.1 = y.2) → (L.all fun y => decide (0 ≤ stepLeast y.2)) = L.all ((fun r => decide (0 ≤ stepLeast (jumpsL l r))) ∘ fun x => x.1) := fun L => by
    induction L with
    | nil => intro _; rfl
    | cons y L ih =>
      intro h
      rw [List.all_cons, List.all_cons, ih (fun z hz => h z (by simp [hz]))]
      simp only [Function.comp]
      rw [h y (by simp)]
  exact this _ (scan_jumps hm.2.1)
theorem rowsR_may {l : List S44} (h : edgeMay l = true) : ∀ r ∈ rowsR l, r.length ≤ 8 ∧ stepMay (jumpsL l r) = true := by
  have hm := may_parts h
  intro r hr
  obtain ⟨y, hy, rfl⟩ := List.mem_map.1 hr
  refine ⟨?_, by rw [scan_jumps hm.2.1 y hy]; exact runs_may h y hy⟩
  obtain ⟨x, hx, e⟩ := rowsR_row _ (List.mem_map.2 ⟨y, hy, rfl⟩)
  rw [e]
  exact (rowMay_ok (scan_rows l none hm.2.1 x hx)).1
theorem ref10Table (l : List S44) : Ev (fun k => rescindref10_Table.f k l) (edgeMay l && edgeTable l) := by
  cases h : edgeMay l with
  | false =>
    have hb := ref10May l
    rw [h] at hb
    exact Ev.bind hb (g := fun k t353 => if t353 = true then (rescindref10_Rows.f k l).bind fun t354 => rescindref10_Table.l0 k l t354 0 else some false) ⟨0, fun k _ => rfl⟩
  | true =>
    have hm := may_parts h
    have hb := ref10May l
    rw [h] at hb
    rw [edgeTable_eq h, Bool.true_and]
    refine Ev.bind hb (g := fun k t353 => if t353 = true then (rescindref10_Rows.f k l).bind fun t354 => rescindref10_Table.l0 k l t354 0 else some false) ?_
    have h1 := table_l0 l (by omega) (rowsR l) (rowsR_may h) (by have := rowsR_length l; omega) (rowsR l).length 0 (by omega)
    have h2 := Ev.bind (ref10_rows l (by omega) hm.2.1) (g := fun k t354 => rescindref10_Table.l0 k l t354 0) h1
    simpa [tableAll] using h2
theorem cuts_plain (l : List S44) (t : Int) : ∃ km kt m tb, rescindref10_May.f km l = some m ∧ rescindref10_Table.f kt l = some tb ∧ refCuts m tb l t = snapCuts l t := by
  obtain ⟨km, hkm⟩ := (ref10May l).get
  obtain ⟨kt, hkt⟩ := (ref10Table l).get
  refine ⟨km, kt, _, _, hkm, hkt, ?_⟩
  unfold refCuts snapCuts
  rw [cutsL_eq]
  cases edgeMay l <;> cases edgeTable l <;> simp
end Go.Proofs.Ytjkepojmceffkaa
namespace Go.Proofs.Ytjkepojmceffkaa
open Go Go.RowKit Go.Proofs.YtjkepojmceffkaaW.PrintWords Go.Proofs.Ytjkepojmceffkaa.R
theorem filterMap_same {α β : Type} {f g : α → Option β} : ∀ (l : List α), (∀ x ∈ l, f x = g x) → l.filterMap f = l.filterMap g
  | [], _ => rfl
  | x :: l, h => by rw [List.filterMap_cons, List.filterMap_cons, h x (by simp), filterMap_same l (fun y hy => h y (by simp [hy]))]
def refV (l : List S44) (t : Int) (r : List S70) : Int := valueL (jumpsL l r) t
theorem alive_ref {l : List S44} (h : edgeMay l = true) (t : Int) : aliveL t (allOf l) = refAliveL (refV l t) (rowsR l) := by
  have hs := (may_parts h).2.1
  simp only [aliveL, allOf, groupsL, h, if_true, refAliveL, rowsR, List.filterMap_map]
  refine filterMap_same _ fun y hy => ?_
  have h1 := runs_may h y hy
  have h2 := scan_jumps hs y hy
  simp only [Function.comp, aliveOne, refOne, refV, h2, stepAt_value h1]
def partsL (all : List S104) : List Int → List S61
  | [] => []
  | t :: cuts => if (aliveL t all).length = 0 then partsL all cuts else ⟨⟨t, cuts.headD 1125899906842624⟩, aliveL t all⟩ :: partsL all cuts
theorem partsGo_eq (all : List S104) : ∀ (cuts : List Int) (out : List S61), out.length ≤ 1024 → partsGo all cuts out = if (out ++ partsL all cuts).length ≤ 1024 then some (out ++ partsL all cuts) else none
  | [], out, h => by simp [partsGo, partsL, h]
  | t :: cuts, out, h => by
    rw [partsGo, partsL]
    by_cases h0 : (aliveL t all).length = 0
    · rw [if_pos h0, if_pos h0, partsGo_eq all cuts out h]
    · rw [if_neg h0, if_neg h0]
      by_cases h1 : out.length = 1024
      · rw [if_pos h1, if_neg]
        simp
        omega
      · rw [if_neg h1, partsGo_eq all cuts _ (by simp; omega)]
        simp
theorem snapParts_err {l : List S44} {t : Int} (h : (snapParts l t).2 ≠ 0) : (snapParts l t).1 = [] := by
  unfold snapParts at h ⊢
  split at h
  · rename_i hc; rw [if_pos hc]
  · rename_i hc
    rw [if_neg hc]
    split at h
    · rfl
    · simp at h
theorem rd108 {f : List S108} {j : Nat} (h : j < f.length) : rd_T108 f (j : Int) = f[j] := by simp [rd_T108, List.getD, h]
theorem sameCopies_l0 (A : List S108) (hl : A.length ≤ 1000000) (hr : ∀ x ∈ A, x.f0.length ≤ 8) : ∀ m j, j + m = A.length → rescindref27_SameCopies.l0 (m + 21) A A (j : Int) = some true := by
  intro m
  induction m with
  | zero => intro j hj; rw [rescindref27_SameCopies.l0, if_neg (by omega)]
  | succ m ih =>
    intro j hj
    have hlt : j < A.length := by omega
    rw [rescindref27_SameCopies.l0]
    simp only [rd108 hlt, ref06Same' _ _ (hr _ (List.getElem_mem hlt)) (m + 21) (by omega), sameRow_refl, wrap_succ (show j < 9223372036854775807 by omega), ih (j + 1) (by omega)]
    simp
theorem sameCopies_self (A : List S108) (hl : A.length ≤ 1000000) (hr : ∀ x ∈ A, x.f0.length ≤ 8) : rescindref27_SameCopies.f (A.length + 21) A A = some true := by
  rw [rescindref27_SameCopies.f, if_pos rfl]
  exact sameCopies_l0 A hl hr A.length 0 (by omega)
theorem refAlive_rows {l : List S44} (h : edgeMay l = true) (t : Int) : ∀ x ∈ refAliveL (refV l t) (rowsR l), x.f0.length ≤ 8 := by
  intro x hx
  obtain ⟨r, hr, he⟩ := List.mem_filterMap.1 hx
  unfold refOne at he
  split at he
  · cases he
    exact (rowsR_may h r hr).1
  · cases he
theorem refAlive_len {l : List S44} (h : edgeMay l = true) (t : Int) : (refAliveL (refV l t) (rowsR l)).length ≤ 4096 := by
  have h1 : (refAliveL (refV l t) (rowsR l)).length ≤ (rowsR l).length := List.length_filterMap_le _ _
  have h2 := rowsR_length l
  have h3 := (may_parts h).1
  omega
theorem alive_plain {l : List S44} (h : edgeMay l = true) (t : Int) : (∃ kr, rescindref10_Rows.f kr l = some (rowsR l)) ∧ (rowsR l).length ≤ 4096 ∧ (∀ r ∈ rowsR l, ∃ k, rescindref10_Jumps.f k l r = some (jumpsL l r)) ∧
    ∀ r ∈ rowsR l, ∃ k, rescindref09_Value.f k (jumpsL l r) t = some (refV l t r) := by
  obtain ⟨h1, hs, _⟩ := may_parts h
  have h2 := rowsR_length l
  exact ⟨(ref10_rows l (by omega) hs).get, by omega, fun r hr => (jumps_f l r (by omega) (rowsR_may h r hr).1).get, fun r hr => ⟨_, value_f (rowsR_may h r hr).2 t _ (Nat.le_refl _)⟩⟩
end Go.Proofs.Ytjkepojmceffkaa
namespace Go.Proofs.Ytjkepojmceffkaa
open Go Go.RowKit Go.Proofs.YtjkepojmceffkaaW.PrintWords Go.Proofs.Ytjkepojmceffkaa.R
theorem heap70 : Kd.Heap k70 := Kd.heap_iso _ (Kd.heap_pair (Kd.heap_int .i64) (Kd.heap_pair (Kd.heap_int .i64) Kd.heap_string))
theorem heap44 : Kd.Heap k44 := Kd.heap_iso _ (Kd.heap_pair (Kd.heap_slice 70 heap70) (Kd.heap_pair (Kd.heap_int .i64) (Kd.heap_int .i64)))
def refPartsL (al : Int → List S108) : List Int → List S61
  | [] => []
  | t :: cuts => if (al t).length = 0 then refPartsL al cuts else ⟨⟨t, cuts.headD 1125899906842624⟩, al t⟩ :: refPartsL al cuts
def refParts (al : Int → List S108) (m tb : Bool) (l : List S44) (t : Int) : List S61 × Int :=
  if (refCuts m tb l t).2 ≠ 0 then ([], (refCuts m tb l t).2) else if (refPartsL al (refCuts m tb l t).1).length > 1024 then ([], 7) else (refPartsL al (refCuts m tb l t).1, 0)
theorem box_end1 {w wr w4 : World} {b : Nat} {A4 : Option Addr} {c4 : Nat} {xs : List S108} {tj te : Int} (hN : Kd.N k108 108 w4 b (fun k => k < w.heap.size ∨ wr.heap.size ≤ k) (.slice A4 xs.length c4) xs) (hb : Below wr.heap.size wr w4) :
    ∃ (gb : Nat) (A : Option Addr) (c : Nat), Value.pointer (some ⟨w4.heap.size, 0, none⟩) = .pointer (some ⟨gb, 0, none⟩) ∧ (w4.alloc (.cells #[.int .i64 tj, .int .i64 te, .slice A4 xs.length c4] 61)).heap[gb]? = some (.cells #[.int .i64 tj, .int .i64 te, .slice A xs.length c] 61 (0, 0)) ∧ wr.heap.size ≤ gb ∧ xs.length ≤ c ∧
      Kd.F k108 (w4.alloc (.cells #[.int .i64 tj, .int .i64 te, .slice A4 xs.length c4] 61)) (fun k => (k < w.heap.size ∨ wr.heap.size ≤ k) ∧ k ≠ gb) A xs.length xs ∧ Below wr.heap.size wr (w4.alloc (.cells #[.int .i64 tj, .int .i64 te, .slice A4 xs.length c4] 61)) :=
  ⟨w4.heap.size, A4, c4, rfl, blk_new _ _, hb.size, (Kd.N_reads' hN).2.1, Kd.F_alloc (Kd.F_mono (Kd.F_bound (Kd.N_F hN)) (fun k hk => ⟨hk.1, by have := hk.2; omega⟩)) _, hb.alloc hb.size _⟩
theorem box_end2 {w wr w4 : World} {b b' : Nat} {A4 : Option Addr} {c4 : Nat} {xs : List S108} {tj te : Int} (hN : Kd.N k108 108 w4 b (fun k => k < w.heap.size ∨ b' ≤ k) (.slice A4 xs.length c4) xs) (hb : Below wr.heap.size wr w4) (hw : w.heap.size ≤ wr.heap.size) (hb' : wr.heap.size < b')
    (hx : w4.heap[wr.heap.size]? = some (.cells #[.int .i64 0, .int .i64 0, .slice none 0 0] 61 (0, 0))) :
    ∃ (gb : Nat) (A : Option Addr) (c : Nat), Value.pointer (some ⟨wr.heap.size, 0, none⟩) = .pointer (some ⟨gb, 0, none⟩) ∧ (((w4.setCell ⟨wr.heap.size, 0, none⟩ (.int .i64 tj)).setCell ⟨wr.heap.size, 1, none⟩ (.int .i64 te)).setCell ⟨wr.heap.size, 2, none⟩ (.slice A4 xs.length c4)).heap[gb]? = some (.cells #[.int .i64 tj, .int .i64 te, .slice A xs.length c] 61 (0, 0)) ∧ wr.heap.size ≤ gb ∧ xs.length ≤ c ∧
      Kd.F k108 (((w4.setCell ⟨wr.heap.size, 0, none⟩ (.int .i64 tj)).setCell ⟨wr.heap.size, 1, none⟩ (.int .i64 te)).setCell ⟨wr.heap.size, 2, none⟩ (.slice A4 xs.length c4)) (fun k => (k < w.heap.size ∨ wr.heap.size ≤ k) ∧ k ≠ gb) A xs.length xs ∧ Below wr.heap.size wr (((w4.setCell ⟨wr.heap.size, 0, none⟩ (.int .i64 tj)).setCell ⟨wr.heap.size, 1, none⟩ (.int .i64 te)).setCell ⟨wr.heap.size, 2, none⟩ (.slice A4 xs.length c4)) := by
  have hF : Kd.F k108 w4 (fun k => (k < w.heap.size ∨ wr.heap.size ≤ k) ∧ k ≠ wr.heap.size) A4 xs.length xs := Kd.F_mono (Kd.N_F hN) (fun k hk => ⟨hk.imp_right (fun h => by omega), by rcases hk with h | h <;> omega⟩)
  refine ⟨wr.heap.size, A4, c4, rfl, ?_, Nat.le_refl _, (Kd.N_reads' hN).2.1, ?_, ?_⟩
  · refine blk_put (cs := #[.int .i64 tj, .int .i64 te, .slice none 0 0]) ?_ 2 _ rfl
    refine blk_put (cs := #[.int .i64 tj, .int .i64 0, .slice none 0 0]) ?_ 1 _ rfl
    exact blk_put (cs := #[.int .i64 0, .int .i64 0, .slice none 0 0]) hx 0 _ rfl
  · exact Kd.F_far (p := ⟨wr.heap.size, 2, none⟩) (Kd.F_far (p := ⟨wr.heap.size, 1, none⟩) (Kd.F_far (p := ⟨wr.heap.size, 0, none⟩) hF (fun _ hk => hk.2) _) (fun _ hk => hk.2) _) (fun _ hk => hk.2) _
  · exact ((hb.setCell (p := ⟨wr.heap.size, 0, none⟩) (Nat.le_refl _) _).setCell (p := ⟨wr.heap.size, 1, none⟩) (Nat.le_refl _) _).setCell (p := ⟨wr.heap.size, 2, none⟩) (Nat.le_refl _) _
set_option maxRecDepth 100000 in
set_option maxHeartbeats 4000000 in
theorem refParts_calls (l : List S44) (A : Option Addr) (c : Nat) (t : Int) (m tb : Bool) (km kt : Nat) (al : Int → List S108) (w : World) (hC : Kd.C k44 w A l.length l) (hc : l.length ≤ c) (hl : l.length ≤ 4096) (hm : rescindref10_May.f km l = some m) (ht : rescindref10_Table.f kt l = some tb)
    (hal : (refCuts m tb l t).2 = 0 → ∀ s : Int, ∀ W, Kd.F k44 W (fun k => k < w.heap.size) A l.length l → Calls Try.prog 33 #[.slice A l.length c, .int .i64 s] W fun e w' => ∃ v, e = .returned v ∧ Kd.N k108 108 w' W.heap.size (fun k => k < w.heap.size ∨ W.heap.size ≤ k) v (al s) ∧ Below W.heap.size W w') :
    Calls Try.prog 30 #[.slice A l.length c, .int .i64 t] w fun e w' => ∃ A' c', e = .returned (.tuple #[.slice A' (refParts al m tb l t).1.length c', .int .i64 (refParts al m tb l t).2]) ∧ (refParts al m tb l t).1.length ≤ c' ∧ Kd.C k61 w' A' (refParts al m tb l t).1.length (refParts al m tb l t).1 ∧ Below w.heap.size w w' := by
  have hmx : l.length ≤ 9223372036854775807 := hC.2.1
  have hu59 := Try.underlying59
  have hu61 := Try.underlying61
  have HC := Lib.hid hC
  have Hc := Lib.hid hc
  have HF0 := Lib.hid (Kd.C_F heap44 hC)
  have HAl := Lib.hid hal
  clear hC hc hal
  go_enter Try.func30, Try.ntmps30
  go_wp2_with fail
  refine (refCuts_calls l A c t m tb km kt _ HC.out Hc.out hl hm ht).mono ?_
  rintro e w1 ⟨A1, c1, rfl, hc1, hC1, hb1⟩
  have Hdef := Lib.hid (show refParts al m tb l t = if (refCuts m tb l t).2 ≠ 0 then ([], (refCuts m tb l t).2) else if (refPartsL al (refCuts m tb l t).1).length > 1024 then ([], 7) else (refPartsL al (refCuts m tb l t).1, 0) from rfl)
  have HC1 := Lib.hid hC1
  have Hc1 := Lib.hid hc1
  have Hb1 := Lib.hid hb1
  have Hlen := Lib.hid (show (refCuts m tb l t).1.length ≤ l.length + 1 from by
    unfold refCuts
    repeat' split
    all_goals first | (simp; done) | exact (by have := refCutsL_length t l l.length (Nat.le_refl _); rw [List.take_length] at this; exact this))
  clear hm ht hC1 hc1 hb1
  generalize (refCuts m tb l t).1 = cuts at *
  generalize (refCuts m tb l t).2 = er at *
  by_cases he : er = 0
  case neg =>
    have hr : refParts al m tb l t = ([], er) := by rw [Hdef.out, if_pos he]
    have Hr := Lib.hid hr
    clear hr
    go_wp2_with fail
    go_ret2
    exact ⟨none, 0, by rw [Hr.out]; rfl, by rw [Hr.out]; exact Nat.le_refl _, by rw [Hr.out]; exact Kd.C_nil _ _, Hb1.out⟩
  subst he
  have hal := HAl.out rfl
  have HAl2 := Lib.hid hal
  have hcm : cuts.length ≤ 9223372036854775807 := HC1.out.2.1
  clear HAl hal
  go_wp2_with fail
  go_loopw [8, 9] (fun v8 v9 wr => ∃ (j : Nat) (out : List S61), j ≤ cuts.length ∧ v9 = .int .i64 j ∧ Kd.N k61 61 wr w1.heap.size (fun _ => True) v8 out ∧ out.length ≤ j ∧ Below w1.heap.size w1 wr ∧ Hid (refPartsL al cuts = out ++ refPartsL al (cuts.drop j))) (fun _ v _ => cuts.length - (intOf v).toNat)
  case atStart => exact ⟨0, [], Nat.zero_le _, rfl, N_litG (Nat.le_refl _) trivial, Nat.le_refl _, (Below.refl _ _).alloc (Nat.le_refl _) _, Lib.hid rfl⟩
  case round =>
    obtain ⟨j, out, hj, rfl, hN, ho, hbr, Hgo⟩ := hrel
    obtain ⟨Ao, co, rfl⟩ := Kd.N_slice hN
    have HN := Lib.hid hN
    have Hbr := Lib.hid hbr
    clear hN
    by_cases hlt : j < cuts.length
    · obtain ⟨tj, htj⟩ : ∃ tj, cuts[j]? = some tj := ⟨cuts[j], by simp [hlt]⟩
      obtain ⟨ad, hA, x0⟩ := atInt HC1.out htj
      subst hA
      have Htj := Lib.hid htj
      have z0 := (hbr.cell (World.block_lt_of_cell? w1 _ x0)).trans x0
      have w0' : (0 : Int) ≤ (j : Int) := by omega
      have w1' : (j : Int) < (cuts.length : Int) := by omega
      have Hdrop := Lib.hid (show cuts.drop j = tj :: cuts.drop (j + 1) by rw [drop_cons hlt, (List.getElem?_eq_some_iff.1 htj).2])
      have hbw : w.heap.size ≤ wr.heap.size := Nat.le_trans Hb1.out.size Hbr.out.size
      have Hbw := Lib.hid hbw
      clear htj x0 hbr hbw
      go_upto_region 8 with fail
      go_cut [10] from 27 to 38 (fun v10 wx => ∃ (gb : Nat) (A4 : Option Addr) (c4 : Nat), v10 = .pointer (some ⟨gb, 0, none⟩) ∧ wx.heap[gb]? = some (.cells #[.int .i64 tj, .int .i64 1125899906842624, .slice A4 (al tj).length c4] 61 (0, 0)) ∧ wr.heap.size ≤ gb ∧ (al tj).length ≤ c4 ∧ Kd.F k108 wx (fun k => (k < w.heap.size ∨ wr.heap.size ≤ k) ∧ k ≠ gb) A4 (al tj).length (al tj) ∧ Below wr.heap.size wr wx)
      case first =>
        have Hz := Lib.hid (And.intro (World.block_lt_of_cell? wr _ z0) z0)
        have HB0 := Lib.hid (Hb1.out.trans (Hbr.out.mono Hb1.out.size))
        have HBr := Lib.hid (Below.refl wr.heap.size wr)
        go_region_held3 (fun w' => w'.cell? (ad.add j) = some (.int .i64 tj))
          (first | with_reducible exact (Hb4.out.cell Hz.out.1).trans Hz.out.2 | with_reducible exact ((Hb4.out.alloc Hb4.out.size _).cell Hz.out.1).trans Hz.out.2 | with_reducible exact ((((Hb4.out.setCell (p := ⟨wr.heap.size, 0, none⟩) (Nat.le_refl _) _).setCell (p := ⟨wr.heap.size, 1, none⟩) (Nat.le_refl _) _).setCell (p := ⟨wr.heap.size, 2, none⟩) (Nat.le_refl _) _).cell Hz.out.1).trans Hz.out.2 | go_keep)
          (first
            | (go_at_call 33; refine (HAl2.out tj _ (Kd.F_below HF0.out ?a1)).mono ?_; (case a1 => repeat (first | (with_reducible first | exact HB0.out | apply below_alloc | apply pw_below_drewN | apply below_drew1) | exact HB0.out)); rintro e w4 ⟨v4, rfl, hN4, hb4⟩; obtain ⟨A4, c4, rfl⟩ := Kd.N_slice hN4; have HN4 := Lib.hid hN4; have Hb4 := Lib.hid (show Below wr.heap.size wr w4 from below_step (by repeat (first | (with_reducible first | exact HBr.out | apply below_alloc | apply pw_below_drewN | apply below_drew1) | exact HBr.out)) hb4); (try (have hbx : w4.heap[wr.heap.size]? = some (.cells #[.int .i64 0, .int .i64 0, .slice none 0 0] 61 (0, 0)) := (hb4.block wr.heap.size (by simp)).trans (blk_new _ _); have bc0 : w4.cell? ⟨wr.heap.size, 0, none⟩ = some (.int .i64 0) := (blk_cell hbx 0).trans rfl; have bc1 : w4.cell? ⟨wr.heap.size, 1, none⟩ = some (.int .i64 0) := (blk_cell hbx 1).trans rfl; have bc2 : w4.cell? ⟨wr.heap.size, 2, none⟩ = some (.slice none 0 0) := (blk_cell hbx 2).trans rfl; have bf0 := blk_frozen hbx 0; have bf1 := blk_frozen hbx 1; have bf2 := blk_frozen hbx 2; have Hbx := Lib.hid hbx; clear hbx)); clear hN4 hb4))
        all_goals
          go_wp2_with fail
          go_meet
          case rel => first | exact box_end1 HN4.out Hb4.out | exact box_end2 HN4.out Hb4.out Hbw.out (by simp) Hbx.out
      case rest =>
        obtain ⟨gb, A4, c4, rfl, hbox, hgb, hc4, hF4, hbc⟩ := hcut
        have Hbox := Lib.hid hbox
        have Hc4 := Lib.hid hc4
        have HF4 := Lib.hid hF4
        have Hbc := Lib.hid hbc
        have q0 := blk_cell hbox 0
        have q1 := blk_cell hbox 1
        have q2 := blk_cell hbox 2
        have r0 := blk_frozen hbox 0
        have r1 := blk_frozen hbox 1
        have r2 := blk_frozen hbox 2
        simp only [List.getElem?_toArray, List.getElem?_cons_zero, List.getElem?_cons_succ] at q0 q1 q2
        clear hbox hc4 hF4 hbc
        by_cases h2 : j + 1 < cuts.length
        · obtain ⟨te, hte⟩ : ∃ te, cuts[j + 1]? = some te := ⟨cuts[j + 1], by simp [h2]⟩
          obtain ⟨ad2, hA2, x2⟩ := atInt HC1.out hte
          cases hA2
          have z2 := (Hbc.out.cell (World.block_lt_of_cell? wr _ ((Hbr.out.cell (World.block_lt_of_cell? w1 _ x2)).trans x2))).trans ((Hbr.out.cell (World.block_lt_of_cell? w1 _ x2)).trans x2)
          have z3 : wc.cell? ⟨ad.block, ad.off + (j + 1), none⟩ = some (.int .i64 te) := z2
          have w2' : wrap64 ((j : Int) + 1) = ((j + 1 : Nat) : Int) := wrap_succ (by omega)
          have w3' : ((j + 1 : Nat) : Int) < (cuts.length : Int) := by omega
          have w4' : (0 : Int) ≤ ((j + 1 : Nat) : Int) := by omega
          have Hhd := Lib.hid (show (cuts.drop (j + 1)).headD 1125899906842624 = te by rw [drop_cons h2, (List.getElem?_eq_some_iff.1 hte).2]; rfl)
          clear hte x2
          go_upto_region 11 with fail
          have hbox2 : (wc.setCell ⟨gb, 1, none⟩ (.int .i64 te)).heap[gb]? = some (.cells #[.int .i64 tj, .int .i64 te, .slice A4 (al tj).length c4] 61 (0, 0)) := blk_put (cs := #[.int .i64 tj, .int .i64 1125899906842624, .slice A4 (al tj).length c4]) Hbox.out 1 _ rfl
          have hF42 : Kd.F k108 (wc.setCell ⟨gb, 1, none⟩ (.int .i64 te)) (fun k => (k < w.heap.size ∨ wr.heap.size ≤ k) ∧ k ≠ gb) A4 (al tj).length (al tj) := Kd.F_far (p := ⟨gb, 1, none⟩) HF4.out (fun _ hk => hk.2) _
          have hbc2 : Below wr.heap.size wr (wc.setCell ⟨gb, 1, none⟩ (.int .i64 te)) := Hbc.out.setCell (p := ⟨gb, 1, none⟩) hgb _
          generalize (wc.setCell ⟨gb, 1, none⟩ (.int .i64 te)) = wd at hbox2 hF42 hbc2 ⊢
          clear Hbox HF4 Hbc q0 q1 q2 r0 r1 r2 z2 z3
          have Hbox := Lib.hid hbox2
          have HF4 := Lib.hid hF42
          have Hbc := Lib.hid hbc2
          have q0 := blk_cell hbox2 0
          have q1 := blk_cell hbox2 1
          have q2 := blk_cell hbox2 2
          have r0 := blk_frozen hbox2 0
          have r1 := blk_frozen hbox2 1
          have r2 := blk_frozen hbox2 2
          simp only [List.getElem?_toArray, List.getElem?_cons_zero, List.getElem?_cons_succ] at q0 q1 q2
          have hst : refPartsL al cuts = out ++ (if (al tj).length = 0 then refPartsL al (cuts.drop (j + 1)) else ⟨⟨tj, te⟩, al tj⟩ :: refPartsL al (cuts.drop (j + 1))) := by rw [Hgo.out, Hdrop.out, refPartsL, Hhd.out]
          have Hst := Lib.hid hst
          clear hbox2 hF42 hbc2 hst
          generalize hal : al tj = xs at *
          clear hal
          by_cases h0 : xs.length = 0
          · have hgo2 : refPartsL al cuts = out ++ refPartsL al (cuts.drop (j + 1)) := by rw [Hst.out, if_pos h0]
            have Hgo2 := Lib.hid hgo2
            clear hgo2
            go_wp2_with fail
            go_roundw
            case rel => exact ⟨j + 1, out, by omega, by go_num, Kd.N_below HN.out Hbc.out, by omega, Hbr.out.trans (Hbc.out.mono Hbr.out.size), Hgo2⟩
            case measure => simp [intOf]; omega
          · have hgo2 : refPartsL al cuts = (out ++ [⟨⟨tj, te⟩, xs⟩]) ++ refPartsL al (cuts.drop (j + 1)) := by rw [Hst.out, if_neg h0]; simp
            have Hgo2 := Lib.hid hgo2
            have hlo : (0 : Int) < (xs.length : Int) := by omega
            have hlo2 : out.length ≤ 5000 := by have := Hlen.out; omega
            have Hlo2 := Lib.hid hlo2
            have Hb1s := Lib.hid Hb1.out.size
            have Hgb := Lib.hid hgb
            clear hgo2 hlo2
            go_wp2_with (first | (at_builtin; (refine Kd.N_append k61 (w0 := w1) (W := wd) w1.heap.size rfl (.tmp 55) (.tmp 57) 53 61 _ 40 rfl Try.underlying53 info61 rfl (by decide) (by decide) (.slice Ao out.length co) out ⟨⟨tj, te⟩, xs⟩ [.int .i64 tj, .int .i64 te, .slice A4 xs.length c4] (fun _ => True) (fun k => (k < w.heap.size ∨ wr.heap.size ≤ k) ∧ k ≠ gb) rfl rfl ?a1 ?a2 (fun _ _ => trivial) ?a4 ?a5 ?a6 ?a7 ?_; (case a1 => exact k61_mkF _ _ ⟨⟨tj, te⟩, xs⟩ Hc4.out HF4.out); (case a2 => exact fun k hk => ⟨trivial, fun e => by have h1 := Kd.N_lt HN.out k e.symm; have h2 := Kd.N_base HN.out k e.symm; have h3 := Hb1s.out; rcases hk.1 with h | h <;> omega⟩); (case a4 => exact Kd.N_below HN.out Hbc.out); (case a5 => exact Hbr.out.trans (Hbc.out.mono Hbr.out.size)); (case a6 => exact Nat.le_trans Hbr.out.size Hbc.out.size); (case a7 => have := Hlo2.out; omega)); intro v6 w6 hN6 hb6 hg6 hat6; obtain ⟨A6', c6', rfl⟩ := Kd.N_slice hN6; have HN6 := Lib.hid hN6; have Hb6 := Lib.hid hb6; clear hN6 hb6 hg6 hat6; go_frame))
            go_roundw
            case rel => exact ⟨j + 1, out ++ [⟨⟨tj, te⟩, xs⟩], by omega, by go_num, HN6.out, by simp; omega, Hb6.out, Hgo2⟩
            case measure => simp [intOf]; omega
        · have w2' : wrap64 ((j : Int) + 1) = ((j + 1 : Nat) : Int) := wrap_succ (by omega)
          have w3' : ¬ ((j + 1 : Nat) : Int) < (cuts.length : Int) := by omega
          have Hhd := Lib.hid (show (cuts.drop (j + 1)).headD 1125899906842624 = 1125899906842624 by rw [List.drop_of_length_le (by omega)]; rfl)
          have hbox2 := Hbox.out
          have hF42 := HF4.out
          have hbc2 := Hbc.out
          clear Hbox HF4 Hbc q0 q1 q2 r0 r1 r2
          rename World => wd
          have Hbox := Lib.hid hbox2
          have HF4 := Lib.hid hF42
          have Hbc := Lib.hid hbc2
          have q0 := blk_cell hbox2 0
          have q1 := blk_cell hbox2 1
          have q2 := blk_cell hbox2 2
          have r0 := blk_frozen hbox2 0
          have r1 := blk_frozen hbox2 1
          have r2 := blk_frozen hbox2 2
          simp only [List.getElem?_toArray, List.getElem?_cons_zero, List.getElem?_cons_succ] at q0 q1 q2
          have hst : refPartsL al cuts = out ++ (if (al tj).length = 0 then refPartsL al (cuts.drop (j + 1)) else ⟨⟨tj, 1125899906842624⟩, al tj⟩ :: refPartsL al (cuts.drop (j + 1))) := by rw [Hgo.out, Hdrop.out, refPartsL, Hhd.out]
          have Hst := Lib.hid hst
          clear hbox2 hF42 hbc2 hst
          generalize hal : al tj = xs at *
          clear hal
          by_cases h0 : xs.length = 0
          · have hgo2 : refPartsL al cuts = out ++ refPartsL al (cuts.drop (j + 1)) := by rw [Hst.out, if_pos h0]
            have Hgo2 := Lib.hid hgo2
            clear hgo2
            go_wp2_with fail
            go_roundw
            case rel => exact ⟨j + 1, out, by omega, by go_num, Kd.N_below HN.out Hbc.out, by omega, Hbr.out.trans (Hbc.out.mono Hbr.out.size), Hgo2⟩
            case measure => simp [intOf]; omega
          · have hgo2 : refPartsL al cuts = (out ++ [⟨⟨tj, 1125899906842624⟩, xs⟩]) ++ refPartsL al (cuts.drop (j + 1)) := by rw [Hst.out, if_neg h0]; simp
            have Hgo2 := Lib.hid hgo2
            have hlo : (0 : Int) < (xs.length : Int) := by omega
            have hlo2 : out.length ≤ 5000 := by have := Hlen.out; omega
            have Hlo2 := Lib.hid hlo2
            have Hb1s := Lib.hid Hb1.out.size
            have Hgb := Lib.hid hgb
            clear hgo2 hlo2
            go_wp2_with (first | (at_builtin; (refine Kd.N_append k61 (w0 := w1) (W := wd) w1.heap.size rfl (.tmp 55) (.tmp 57) 53 61 _ 40 rfl Try.underlying53 info61 rfl (by decide) (by decide) (.slice Ao out.length co) out ⟨⟨tj, 1125899906842624⟩, xs⟩ [.int .i64 tj, .int .i64 1125899906842624, .slice A4 xs.length c4] (fun _ => True) (fun k => (k < w.heap.size ∨ wr.heap.size ≤ k) ∧ k ≠ gb) rfl rfl ?a1 ?a2 (fun _ _ => trivial) ?a4 ?a5 ?a6 ?a7 ?_; (case a1 => exact k61_mkF _ _ ⟨⟨tj, 1125899906842624⟩, xs⟩ Hc4.out HF4.out); (case a2 => exact fun k hk => ⟨trivial, fun e => by have h1 := Kd.N_lt HN.out k e.symm; have h2 := Kd.N_base HN.out k e.symm; have h3 := Hb1s.out; rcases hk.1 with h | h <;> omega⟩); (case a4 => exact Kd.N_below HN.out Hbc.out); (case a5 => exact Hbr.out.trans (Hbc.out.mono Hbr.out.size)); (case a6 => exact Nat.le_trans Hbr.out.size Hbc.out.size); (case a7 => have := Hlo2.out; omega)); intro v6 w6 hN6 hb6 hg6 hat6; obtain ⟨A6', c6', rfl⟩ := Kd.N_slice hN6; have HN6 := Lib.hid hN6; have Hb6 := Lib.hid hb6; clear hN6 hb6 hg6 hat6; go_frame))
            go_roundw
            case rel => exact ⟨j + 1, out ++ [⟨⟨tj, 1125899906842624⟩, xs⟩], by omega, by go_num, HN6.out, by simp; omega, Hb6.out, Hgo2⟩
            case measure => simp [intOf]; omega
    · obtain rfl : j = cuts.length := by omega
      have hr0 := Hgo.out
      rw [List.drop_length, show refPartsL al [] = [] from rfl, List.append_nil] at hr0
      have Hr0 := Lib.hid hr0
      clear hr0
      by_cases hbig : (out.length : Int) > 1024
      · have hr : refParts al m tb l t = ([], 7) := by rw [Hdef.out, if_neg (by simp), Hr0.out, if_pos (by omega)]
        have Hr := Lib.hid hr
        clear hr
        go_wp2_with fail
        go_ret2
        exact ⟨none, 0, by rw [Hr.out]; rfl, by rw [Hr.out]; exact Nat.le_refl _, by rw [Hr.out]; exact Kd.C_nil _ _, Hb1.out.trans (hbr.mono Hb1.out.size)⟩
      · have hr : refParts al m tb l t = (out, 0) := by rw [Hdef.out, if_neg (by simp), Hr0.out, if_neg (by omega)]
        have Hr := Lib.hid hr
        clear hr
        have HC2 := Lib.hid (Kd.N_reads' HN.out)
        go_wp2_with fail
        go_ret2
        exact ⟨Ao, co, by rw [Hr.out]; rfl, by rw [Hr.out]; exact HC2.out.2.1, by rw [Hr.out]; exact HC2.out.2.2, Hb1.out.trans (hbr.mono Hb1.out.size)⟩
end Go.Proofs.Ytjkepojmceffkaa
namespace Go.Proofs.Ytjkepojmceffkaa
open Go Go.RowKit Go.Proofs.YtjkepojmceffkaaW.PrintWords Go.Proofs.Ytjkepojmceffkaa.R
theorem refPartsL_eq {al : Int → List S108} {all : List S104} (h : ∀ s, al s = aliveL s all) : ∀ cuts : List Int, refPartsL al cuts = partsL all cuts
  | [] => rfl
  | t :: cuts => by rw [refPartsL, partsL, h t, refPartsL_eq h cuts]
def alOf (l : List S44) (s : Int) : List S108 := refAliveL (refV l s) (rowsR l)
theorem refParts_eq {l : List S44} {t : Int} {m tb : Bool} (h : refCuts m tb l t = snapCuts l t) : refParts (alOf l) m tb l t = snapParts l t := by
  unfold refParts snapParts
  rw [h]
  by_cases hc : (snapCuts l t).2 = 0
  · have hc' : ¬ (snapCuts l t).2 ≠ 0 := by simpa using hc
    rw [if_neg hc', if_neg hc', partsGo_eq _ _ _ (by simp), refPartsL_eq (al := alOf l) (all := allOf l) (fun s => (alive_ref (snapCuts_may hc) s).symm)]
    by_cases hl : (partsL (allOf l) (snapCuts l t).1).length ≤ 1024
    · rw [if_neg (by omega), if_pos (by simpa using hl)]
      rfl
    · rw [if_pos (by omega), if_neg (by simpa using hl)]
  · rw [if_pos hc, if_pos hc]
theorem rd61 {f : List S61} {j : Nat} (h : j < f.length) : rd_T61 f (j : Int) = f[j] := by simp [rd_T61, List.getD, h]
theorem sameParts_l0 (A : List S61) (hl : A.length ≤ 1000000) (hr : ∀ p ∈ A, p.f1.length ≤ 4096 ∧ ∀ x ∈ p.f1, x.f0.length ≤ 8) : ∀ m j, j + m = A.length → rescindref27_Same.l0 (m + 5000) A A (j : Int) = some true := by
  intro m
  induction m with
  | zero => intro j hj; rw [rescindref27_Same.l0, if_neg (by omega)]
  | succ m ih =>
    intro j hj
    have hlt : j < A.length := by omega
    have h1 := hr _ (List.getElem_mem hlt)
    rw [show m + 1 + 5000 = (m + 5000) + 1 by omega, rescindref27_Same.l0]
    simp only [rd61 hlt, up_mono (rescindref27_SameCopies.mono A[j].f1 A[j].f1) (sameCopies_self _ (by omega) h1.2) (m + 5000) (by omega), wrap_succ (show j < 9223372036854775807 by omega), ih (j + 1) (by omega)]
    simp
theorem sameParts_self (A : List S61) (hl : A.length ≤ 1000000) (hr : ∀ p ∈ A, p.f1.length ≤ 4096 ∧ ∀ x ∈ p.f1, x.f0.length ≤ 8) : rescindref27_Same.f (A.length + 5000) A A = some true := by
  rw [rescindref27_Same.f, if_pos rfl]
  exact sameParts_l0 A hl hr A.length 0 (by omega)
theorem partsL_al {all : List S104} : ∀ (cuts : List Int), ∀ p ∈ partsL all cuts, ∃ s, p.f1 = aliveL s all
  | [], p, h => by simp [partsL] at h
  | t :: cuts, p, h => by
    rw [partsL] at h
    split at h
    · exact partsL_al cuts p h
    · rcases List.mem_cons.1 h with rfl | h
      · exact ⟨t, rfl⟩
      · exact partsL_al cuts p h
theorem parts_same {l : List S44} {t : Int} : rescindref27_Same.f ((snapParts l t).1.length + 5000) (snapParts l t).1 (snapParts l t).1 = some true := by
  by_cases h : (snapParts l t).2 = 0
  · unfold snapParts at h ⊢
    by_cases hc : (snapCuts l t).2 = 0
    case neg => rw [if_pos hc]; rfl
    rw [if_neg (by simpa using hc)] at h ⊢
    have hm := snapCuts_may hc
    rw [partsGo_eq _ _ _ (by simp)] at h ⊢
    by_cases hl : ([] ++ partsL (allOf l) (snapCuts l t).1).length ≤ 1024
    · rw [if_pos hl]
      simp only [List.nil_append] at hl ⊢
      refine sameParts_self _ (by omega) (fun p hp => ?_)
      obtain ⟨s, hs⟩ := partsL_al _ p hp
      rw [hs, alive_ref hm s]
      exact ⟨refAlive_len hm s, refAlive_rows hm s⟩
    · rw [if_neg hl]; rfl
  · rw [snapParts_err h]; rfl
end Go.Proofs.Ytjkepojmceffkaa
namespace Go.Proofs.Ytjkepojmceffkaa
open Go Go.RowKit Go.Maps Go.Proofs.YtjkepojmceffkaaW.PrintWords Go.Proofs.Ytjkepojmceffkaa.R
def lv1 : S70 := ⟨1, 1, ⟨#[]⟩⟩
def lv2 : S70 := ⟨1, 2, ⟨#[]⟩⟩
def liveL : List S44 := [⟨[lv1], 2, 1⟩, ⟨[lv1], 9, -1⟩, ⟨[lv2], 5, 1⟩, ⟨[lv2], 7, -1⟩]
theorem live_runs : runsL liveL = [([lv1], [⟨2, 1⟩, ⟨9, -1⟩]), ([lv2], [⟨5, 1⟩, ⟨7, -1⟩])] := by
  have t1 : ∀ a b, ofRow [lv1] ⟨[lv1], a, b⟩ = true := fun a b => sameRow_refl _
  have t2 : ∀ a b, ofRow [lv2] ⟨[lv2], a, b⟩ = true := fun a b => sameRow_refl _
  have t3 : ∀ a b, ofRow [lv1] ⟨[lv2], a, b⟩ = false := fun a b => by simp [ofRow, sameRow, eqS, lv1, lv2]
  simp only [liveL]
  rw [runsL_cons]
  simp only [List.takeWhile_cons, List.dropWhile_cons, t1, t2, t3, if_true, Bool.false_eq_true, if_false]
  rw [runsL_cons]
  simp [List.takeWhile_cons, List.dropWhile_cons, t2, runsL_nil, jumpOf]
theorem live_may : edgeMay liveL = true := by
  unfold edgeMay edgeEach
  rw [live_runs]
  decide +kernel
theorem live_table : edgeTable liveL = true := by
  unfold edgeTable edgeEach
  rw [live_runs]
  decide +kernel
theorem live_cuts : snapCuts liveL 0 = ([0, 2, 5, 7, 9], 0) := by
  simp only [snapCuts, live_may, live_table, if_true]
  rw [if_neg (by omega), if_neg (by omega), cutsL_eq]
  rfl
theorem live_all : allOf liveL = [⟨[lv1], [⟨2, 1⟩, ⟨9, -1⟩]⟩, ⟨[lv2], [⟨5, 1⟩, ⟨7, -1⟩]⟩] := by
  simp only [allOf, groupsL, live_may, if_true, live_runs]
  rfl
theorem live_parts : snapParts liveL 0 = ([⟨⟨2, 5⟩, [⟨[lv1], 1⟩]⟩, ⟨⟨5, 7⟩, [⟨[lv1], 1⟩, ⟨[lv2], 1⟩]⟩, ⟨⟨7, 9⟩, [⟨[lv1], 1⟩]⟩], 0) := by
  unfold snapParts
  rw [live_cuts, live_all]
  rfl
theorem at61 {w : World} {A : Option Addr} {n : Nat} {xs : List S61} (h : Kd.C k61 w A n xs) {j : Nat} {x : S61} (hj : xs[j]? = some x) : ∃ ad A2 c2, A = some ad ∧ w.cell? (ad.add (j * 3)) = some (.int .i64 x.f0.f0) ∧
    w.cell? ⟨(ad.add (j * 3)).block, (ad.add (j * 3)).off + 1, none⟩ = some (.int .i64 x.f0.f1) ∧ w.cell? ⟨(ad.add (j * 3)).block, (ad.add (j * 3)).off + 2, none⟩ = some (.slice A2 x.f1.length c2) ∧ x.f1.length ≤ c2 ∧ Kd.C k108 w A2 x.f1.length x.f1 := by
  have hl : j < xs.length := (List.getElem?_eq_some_iff.1 hj).1
  obtain ⟨ad, A2, c2, e, q0, q1, q2, q3, q4⟩ := at_T61 h (j : Int) (by omega) (by have := h.1; omega)
  rw [show rd_T61 xs (j : Int) = x from getD_of hj] at *
  exact ⟨ad, A2, c2, e, q0, q1, q2, q3, q4⟩
def liveW (w : World) : World := ((w.alloc (.cells #[.int .i64 1, .int .i64 1, .string ⟨#[]⟩] 70)).alloc (.cells #[.int .i64 1, .int .i64 2, .string ⟨#[]⟩] 70)).alloc
  (.cells #[.slice (some ⟨w.heap.size, 0, none⟩) 1 1, .int .i64 2, .int .i64 1, .slice (some ⟨w.heap.size, 0, none⟩) 1 1, .int .i64 9, .int .i64 (-1), .slice (some ⟨w.heap.size + 1, 0, none⟩) 1 1, .int .i64 5, .int .i64 1, .slice (some ⟨w.heap.size + 1, 0, none⟩) 1 1, .int .i64 7, .int .i64 (-1)] 44)
theorem live_row {W : World} {g : Nat} {x : S70} (h : W.heap[g]? = some (.cells #[.int .i64 x.f0, .int .i64 x.f1, .string x.f2] 70 (0, 0))) : Kd.C k70 W (some ⟨g, 0, none⟩) 1 [x] := by
  refine ⟨rfl, by decide, fun _ => ⟨_, rfl, fun j p hj => ?_⟩⟩
  rcases j with _ | j
  · simp at hj
    subst hj
    refine ⟨_, rfl, k70_mk W x, fun i u hi => ?_⟩
    have := blk_cell h i
    rw [show (k70.sz) = 3 from rfl]
    simpa [Addr.add_lit] using this.trans (by simpa using hi)
  · simp at hj
theorem live_C (w : World) : Kd.C k44 (liveW w) (some ⟨w.heap.size + 1 + 1, 0, none⟩) 4 liveL := by
  have h0 : (liveW w).heap[w.heap.size]? = some (.cells #[.int .i64 1, .int .i64 1, .string ⟨#[]⟩] 70 (0, 0)) := (Below.heap_alloc _ _ _ (by simp; omega)).trans ((Below.heap_alloc _ _ _ (by simp)).trans (World.alloc_heap_new w _))
  have h1 : (liveW w).heap[w.heap.size + 1]? = some (.cells #[.int .i64 1, .int .i64 2, .string ⟨#[]⟩] 70 (0, 0)) := (Below.heap_alloc _ _ _ (by simp)).trans (by have := World.alloc_heap_new (w.alloc (.cells #[.int .i64 1, .int .i64 1, .string ⟨#[]⟩] 70)) (.cells #[.int .i64 1, .int .i64 2, .string ⟨#[]⟩] 70); rwa [World.size_alloc] at this)
  have h2 : (liveW w).heap[w.heap.size + 1 + 1]? = some (.cells #[.slice (some ⟨w.heap.size, 0, none⟩) 1 1, .int .i64 2, .int .i64 1, .slice (some ⟨w.heap.size, 0, none⟩) 1 1, .int .i64 9, .int .i64 (-1), .slice (some ⟨w.heap.size + 1, 0, none⟩) 1 1, .int .i64 5, .int .i64 1, .slice (some ⟨w.heap.size + 1, 0, none⟩) 1 1, .int .i64 7, .int .i64 (-1)] 44 (0, 0)) := by
    have := World.alloc_heap_new ((w.alloc (.cells #[.int .i64 1, .int .i64 1, .string ⟨#[]⟩] 70)).alloc (.cells #[.int .i64 1, .int .i64 2, .string ⟨#[]⟩] 70)) (.cells #[.slice (some ⟨w.heap.size, 0, none⟩) 1 1, .int .i64 2, .int .i64 1, .slice (some ⟨w.heap.size, 0, none⟩) 1 1, .int .i64 9, .int .i64 (-1), .slice (some ⟨w.heap.size + 1, 0, none⟩) 1 1, .int .i64 5, .int .i64 1, .slice (some ⟨w.heap.size + 1, 0, none⟩) 1 1, .int .i64 7, .int .i64 (-1)] 44)
    rw [World.size_alloc, World.size_alloc] at this
    exact this
  have r1 : Kd.C k70 (liveW w) (some ⟨w.heap.size, 0, none⟩) 1 [lv1] := live_row (x := lv1) h0
  have r2 : Kd.C k70 (liveW w) (some ⟨w.heap.size + 1, 0, none⟩) 1 [lv2] := live_row (x := lv2) h1
  generalize liveW w = W at *
  have hc := fun i => blk_cell h2 i
  have key : ∀ (j : Nat) (p : S44) (A : Option Addr), liveL[j]? = some p → Kd.C k70 W A p.f0.length p.f0 → p.f0.length ≤ 1 → (∀ i u, [Value.slice A p.f0.length 1, .int .i64 p.f1, .int .i64 p.f2][i]? = some u → W.cell? ⟨w.heap.size + 1 + 1, j * 3 + i, none⟩ = some u) →
      ∃ cs : List Value, cs.length = k44.sz ∧ k44.K W p cs ∧ ∀ i u, cs[i]? = some u → W.cell? ((⟨w.heap.size + 1 + 1, 0, none⟩ : Addr).add (j * k44.sz + i)) = some u := fun j p A _ hC hl h => ⟨_, rfl, k44_mk W p hl hC, fun i u hi => by
    have := h i u hi
    rw [show k44.sz = 3 from rfl, Addr.add_lit, Nat.zero_add]
    exact this⟩
  refine ⟨rfl, by decide, fun _ => ⟨_, rfl, fun j p hj => ?_⟩⟩
  rcases j with _ | _ | _ | _ | j
  · simp [liveL] at hj; subst hj
    exact key 0 _ _ rfl r1 (Nat.le_refl _) (fun i u hi => by rcases i with _ | _ | _ | i <;> simp at hi <;> subst hi <;> exact hc _)
  · simp [liveL] at hj; subst hj
    exact key 1 _ _ rfl r1 (Nat.le_refl _) (fun i u hi => by rcases i with _ | _ | _ | i <;> simp at hi <;> subst hi <;> exact hc _)
  · simp [liveL] at hj; subst hj
    exact key 2 _ _ rfl r2 (Nat.le_refl _) (fun i u hi => by rcases i with _ | _ | _ | i <;> simp at hi <;> subst hi <;> exact hc _)
  · simp [liveL] at hj; subst hj
    exact key 3 _ _ rfl r2 (Nat.le_refl _) (fun i u hi => by rcases i with _ | _ | _ | i <;> simp at hi <;> subst hi <;> exact hc _)
  · simp [liveL] at hj
theorem live_fit : Fits44 liveL := ⟨by decide, fun x hx => by simp [liveL] at hx; rcases hx with rfl | rfl | rfl | rfl <;> decide⟩
theorem live_wf : Wf44 liveL := fun x hx => by simp [liveL] at hx; rcases hx with rfl | rfl | rfl | rfl <;> decide
theorem live_below (w : World) : Below w.heap.size w (liveW w) := (((Below.refl _ _).alloc (Nat.le_refl _) _).alloc (by simp) _).alloc (by simp; omega) _
set_option maxRecDepth 100000 in
set_option maxHeartbeats 2000000 in
theorem live_calls (w : World) : Calls Try.prog 26 #[] w fun e w' => e = .returned (.bool true) ∧ Below w.heap.size w w' := by
  have hu59 := Try.underlying59
  go_enter Try.func26, Try.ntmps26
  go_wp2_with fail
  refine (cuts_calls liveL (some ⟨w.heap.size + 1 + 1, 0, none⟩) 4 0 (liveW w) (live_C w) live_fit live_wf (by decide)).mono ?_
  rintro e w1 ⟨A1, c1, rfl, hc1, hC1, hb1⟩
  rw [live_cuts] at *
  obtain ⟨ad1, hA1, y1⟩ := atInt hC1 (j := 2) (x := 5) rfl
  subst hA1
  have Y1 := Lib.hid y1
  clear y1 hC1 hc1
  dsimp only [List.length_cons, List.length_nil]
  go_wp2_with fail
  refine (parts_calls liveL (some ⟨w.heap.size + 1 + 1, 0, none⟩) 4 0 w1 (Kd.C_below (live_C w) hb1) live_fit live_wf (by decide)).mono ?_
  rintro e w2 ⟨A2, c2, rfl, hc2, hC2, hb2⟩
  rw [live_parts] at *
  obtain ⟨ad2, A3, c3, hA2, p0, p1, p2, _, _⟩ := at61 hC2 (j := 1) (x := ⟨⟨5, 7⟩, [⟨[lv1], 1⟩, ⟨[lv2], 1⟩]⟩) rfl
  subst hA2
  have y2 := (hb2.cell (World.block_lt_of_cell? w1 _ Y1.out)).trans Y1.out
  have y3 : w2.cell? ⟨ad1.block, ad1.off + 2, none⟩ = some (.int .i64 5) := y2
  have p3 : w2.cell? ⟨ad2.block, ad2.off + 3, none⟩ = some (.int .i64 5) := p0
  have p4 : w2.cell? ⟨ad2.block, ad2.off + 4, none⟩ = some (.int .i64 7) := p1
  have p5 : w2.cell? ⟨ad2.block, ad2.off + 5, none⟩ = some (.slice A3 2 c3) := p2
  have p6 : w2.cell? ⟨ad2.block, ad2.off + 3 + 1, none⟩ = some (.int .i64 7) := p1
  have p7 : w2.cell? ⟨ad2.block, ad2.off + 3 + 2, none⟩ = some (.slice A3 2 c3) := p2
  clear hC2 hc2 p0 p1 p2 y2
  dsimp only [List.length_cons, List.length_nil, Nat.one_mul, Nat.reduceAdd] at *
  go_wp2_with fail
  go_ret
  exact ⟨rfl, ((live_below w).trans (hb1.mono (live_below w).size)).trans (hb2.mono (Nat.le_trans (live_below w).size hb1.size))⟩
end Go.Proofs.Ytjkepojmceffkaa
namespace Go.Proofs.Ytjkepojmceffkaa
open Go Go.RowKit Go.Proofs.YtjkepojmceffkaaW.PrintWords Go.Proofs.Ytjkepojmceffkaa.R
set_option maxRecDepth 100000 in
set_option maxHeartbeats 2000000 in
theorem lawParts_calls (l : List S44) (A : Option Addr) (c : Nat) (t : Int) (w : World) (hC : Kd.C k44 w A l.length l) (hc : l.length ≤ c) (hfit : Fits44 l) (hwf : Wf44 l) (hwt : (Lit.int .i64 t).wf = true) :
    Calls Try.prog 6 #[.slice A l.length c, .int .i64 t] w fun e w' => e = .returned (.bool true) ∧ Below w.heap.size w w' := by
  have hmx : l.length ≤ 9223372036854775807 := hC.2.1
  have HC := Lib.hid hC
  have Hc := Lib.hid hc
  have HF := Lib.hid hfit
  have HW := Lib.hid hwf
  have HT := Lib.hid hwt
  clear hC hc hfit hwf hwt
  go_enter Try.func6, Try.ntmps6
  go_wp2_with fail
  refine (rescindlaw27_few.calls A c l (decide ((l.length : Int) ≤ 60)) _ HC.out Hc.out rfl).mono ?_
  rintro e w1 ⟨rfl, nd, rfl⟩
  have hb1 := pw_below_drewN (Below.refl w.heap.size w) nd
  generalize w.drewN nd = w1 at hb1 ⊢
  by_cases h60 : l.length ≤ 60
  case neg =>
    rw [decide_eq_false (show ¬ (l.length : Int) ≤ 60 by omega)]
    go_wp2_with fail
    refine (live_calls w1).mono ?_
    rintro e w2 ⟨rfl, hb2⟩
    go_wp2_with fail
    go_ret
    exact ⟨rfl, hb1.trans (hb2.mono hb1.size)⟩
  rw [decide_eq_true (show (l.length : Int) ≤ 60 by omega)]
  obtain ⟨km, kt, m, tb, hm, ht, he⟩ := cuts_plain l t
  have HM := Lib.hid hm
  have HTb := Lib.hid ht
  have HE := Lib.hid he
  have Hsame := Lib.hid (parts_same (l := l) (t := t))
  clear hm ht he
  go_wp2_with fail
  refine (parts_calls l A c t _ (Kd.C_below HC.out hb1) HF.out HW.out HT.out).mono ?_
  rintro e w2 ⟨A1, c1, rfl, hc1, hC1, hb2⟩
  replace hb2 := hb1.trans (hb2.mono hb1.size)
  have HC1 := Lib.hid hC1
  have Hc1 := Lib.hid hc1
  have Hb2 := Lib.hid hb2
  clear hc1 hC1 hb1 hb2
  go_wp2_with fail
  refine (refParts_calls l A c t m tb km kt (alOf l) _ (Kd.C_below HC.out Hb2.out) Hc.out (by omega) HM.out HTb.out (fun h0 s W hF => by
    have hmay : edgeMay l = true := snapCuts_may (t := t) (by rw [← HE.out]; exact h0)
    obtain ⟨⟨kr, hkr⟩, hl4, hJ, hV⟩ := alive_plain hmay s
    exact refAlive_calls l A c s (fun k => k < w2.heap.size) (rowsR l) kr (jumpsL l) (refV l s) W hF Hc.out hkr hl4 hJ hV)).mono ?_
  rintro e w3 ⟨A2, c2, rfl, hc2, hC2, hb3⟩
  rw [refParts_eq HE.out] at *
  have HC2 := Lib.hid hC2
  have Hc2 := Lib.hid hc2
  have HC1' := Lib.hid (Kd.C_below HC1.out hb3)
  have Hb3 := Lib.hid (Hb2.out.trans (hb3.mono Hb2.out.size))
  clear hc2 hC2 hb3 HC1 HE HM HTb
  generalize (snapParts l t).1 = ps at *
  generalize (snapParts l t).2 = er at *
  go_wp2_with fail
  refine (live_calls w3).mono ?_
  rintro e w4 ⟨rfl, hb4⟩
  have HC1 := Lib.hid (Kd.C_below HC1'.out hb4)
  have HC2' := Lib.hid (Kd.C_below HC2.out hb4)
  have Hb4 := Lib.hid (Hb3.out.trans (hb4.mono Hb3.out.size))
  clear hb4
  go_wp2_with fail
  refine (rescindref27_Same.calls _ A1 c1 ps A2 c2 ps true _ HC1.out Hc1.out HC2'.out Hc2.out Hsame.out).mono ?_
  rintro e w6 ⟨rfl, nd6, rfl⟩
  have hb6 := pw_below_drewN Hb4.out nd6
  generalize w4.drewN nd6 = w6 at hb6 ⊢
  go_wp2_with fail
  go_ret
  exact ⟨rfl, hb6⟩
end Go.Proofs.Ytjkepojmceffkaa
namespace Go.Proofs.Ytjkepojmceffkaa
open Go Go.RowKit Go.Proofs.YtjkepojmceffkaaW.PrintWords Go.Proofs.Ytjkepojmceffkaa.R
theorem list_of {α : Type} {p : Nat → α → Prop} : ∀ n, (∀ i, i < n → ∃ x, p i x) → ∃ l : List α, l.length = n ∧ ∀ (i : Nat) (x : α), l[i]? = some x → p i x := by
  intro n
  induction n with
  | zero => exact fun _ => ⟨[], rfl, fun i x h => by simp at h⟩
  | succ n ih =>
    intro h
    obtain ⟨l, hl, hp⟩ := ih (fun i hi => h i (by omega))
    obtain ⟨x, hx⟩ := h n (by omega)
    refine ⟨l ++ [x], by simp [hl], fun i y hy => ?_⟩
    by_cases hi : i < l.length
    · rw [List.getElem?_append_left hi] at hy
      exact hp i y hy
    · rw [List.getElem?_append_right (by omega)] at hy
      have h0 : i - l.length = 0 := by
        have := (List.getElem?_eq_some_iff.1 hy).1
        simp at this; exact this
      rw [h0] at hy
      simp at hy
      subst hy
      rw [show i = n by omega]
      exact hx
section
variable {H : Type} {enc : TypeId × Value → H} {W : World} {base : Nat} {spare : Nat → Bool} {held : Bool}
set_option maxRecDepth 100000 in
theorem open_val {fuel : Nat} {cs : List Value} {y : DataW H × List MemPlace} (h : DataW.trod enc Try.prog W base spare held fuel 70 cs = some y) : ∃ x : S70, cs = [.int .i64 x.f0, .int .i64 x.f1, .string x.f2] := by
  obtain ⟨xs, n, _, _, hl, hxl, hf⟩ := DataW.trod_struct Try.underlying70 h
  rw [show Try.prog.cellsOf 70 = 3 by kernel_rfl] at hl
  match cs, hl with
  | [u0, u1, u2], _ =>
    match xs, hxl with
    | [y0, y1, y2], _ =>
      have h0 := hf 0 _ rfl
      have h1 := hf 1 _ rfl
      have h2 := hf 2 _ rfl
      simp only [show Try.prog.cellsOf 68 = 1 by kernel_rfl, show Try.prog.cellsOf 3 = 1 by kernel_rfl, show Try.prog.cellsOf 9 = 1 by kernel_rfl, List.drop_zero, List.drop_succ_cons, List.take_succ_cons, List.take_zero, List.getElem?_cons_zero, List.getElem?_cons_succ] at h0 h1 h2
      obtain ⟨a0, e0, _, _⟩ := DataW.trod_int Try.underlying68 h0
      obtain ⟨a1, e1, _, _⟩ := DataW.trod_int Try.underlying3 h1
      obtain ⟨s, e2, _, _⟩ := DataW.trod_string Try.underlying9 h2
      cases e0
      cases e1
      cases e2
      exact ⟨⟨a0, a1, s⟩, rfl⟩
theorem open_row {fuel : Nat} {cs : List Value} {y : DataW H × List MemPlace} (h : DataW.trod enc Try.prog W base spare held fuel 42 cs = some y) (hw : ∀ n ∈ y.1.weights Try.prog 42, n ≤ 140737488351232) :
    ∃ (r : List S70) (A : Option Addr) (c : Nat), cs = [.slice A r.length c] ∧ r.length ≤ c ∧ Kd.C k70 W A r.length r ∧ r.length * 32 ≤ 140737488351232 := by
  rcases Deep.open_slice Try.underlying42 h with ⟨rfl, rfl⟩ | ⟨a, len, cap, m, n, D, Pl, rfl, hb, hl, hm, hmm, rfl, hx⟩
  · exact ⟨[], none, 0, rfl, Nat.le_refl _, Kd.C_nil _ _, by simp⟩
  have hlm : len ≤ m := by rw [hmm]; split <;> omega
  obtain ⟨r, hr, hp⟩ := list_of (α := S70) (p := fun i x => ∀ j u, [Value.int .i64 x.f0, .int .i64 x.f1, .string x.f2][j]? = some u → W.cell? (a.add (i * 3 + j)) = some u) len (fun i hi => by
    obtain ⟨cs', h1, h2⟩ := hx i (by omega)
    rw [show Try.prog.cellsOf 70 = 3 by kernel_rfl] at h1
    obtain ⟨x, rfl⟩ := open_val h2
    refine ⟨x, fun j u hu => ?_⟩
    obtain ⟨_, _, hc⟩ := World.cells?_some h1
    have hj : j < 3 := by have := (List.getElem?_eq_some_iff.1 hu).1; simpa using this
    have := (hc j hj).trans hu
    rwa [Addr.add_add] at this)
  have hwl := hw ((len + (m - len)) * 32) (by
    simp only [DataW.weights, Try.underlying42, List.length_map, List.length_range, show Try.prog.bytesOf 70 = 32 by kernel_rfl]
    exact List.mem_cons_self)
  subst hr
  refine ⟨r, some a, cap, rfl, hl, ⟨rfl, ?_, fun _ => ⟨a, rfl, fun i x hi => ⟨_, rfl, k70_mk W x, hp i x hi⟩⟩⟩, ?_⟩
  · unfold maxLen at hm; omega
  · have := Nat.mul_le_mul_right 32 (show r.length ≤ r.length + (m - r.length) by omega)
    omega
set_option maxRecDepth 100000 in
theorem open_edge {fuel : Nat} {cs : List Value} {y : DataW H × List MemPlace} (h : DataW.trod enc Try.prog W base spare held fuel 44 cs = some y) (hw : ∀ n ∈ y.1.weights Try.prog 44, n ≤ 140737488351232) :
    ∃ x : S44, k44.K W x cs ∧ x.f0.length * 32 ≤ 140737488351232 ∧ (Lit.int .i64 x.f1).wf = true ∧ (Lit.int .i64 x.f2).wf = true := by
  obtain ⟨xs, n, _, rfl, hl, hxl, hf⟩ := DataW.trod_struct Try.underlying44 h
  rw [show Try.prog.cellsOf 44 = 3 by kernel_rfl] at hl
  match cs, hl with
  | [u0, u1, u2], _ =>
    match xs, hxl with
    | [y0, y1, y2], _ =>
      have h0 := hf 0 _ rfl
      have h1 := hf 1 _ rfl
      have h2 := hf 2 _ rfl
      simp only [show Try.prog.cellsOf 42 = 1 by kernel_rfl, show Try.prog.cellsOf 3 = 1 by kernel_rfl, List.drop_zero, List.drop_succ_cons, List.take_succ_cons, List.take_zero, List.getElem?_cons_zero, List.getElem?_cons_succ] at h0 h1 h2
      obtain ⟨r, A, c, e0, hc, hC, hb⟩ := open_row h0 (fun n hn => hw n (by
        simp only [DataW.weights, Try.underlying44, List.map_cons, List.map_nil, DataW.weightsEach, List.mem_append]
        exact Or.inl hn))
      obtain ⟨a1, e1, _, w1⟩ := DataW.trod_int Try.underlying3 h1
      obtain ⟨a2, e2, _, w2⟩ := DataW.trod_int Try.underlying3 h2
      cases e0
      cases e1
      cases e2
      exact ⟨⟨r, a1, a2⟩, k44_mk W ⟨r, a1, a2⟩ hc hC, hb, w1, w2⟩
theorem weightsAll_mem {P : Program} {e : TypeId} {ds : List (DataW H)} {d : DataW H} (hd : d ∈ ds) {n : Nat} (hn : n ∈ d.weights P e) : n ∈ DataW.weightsAll P e ds := by
  induction ds with
  | nil => cases hd
  | cons x ds ih =>
    simp only [DataW.weightsAll, List.mem_append]
    rcases List.mem_cons.1 hd with rfl | hd
    · exact .inl hn
    · exact .inr (ih hd)
theorem open_edges {fuel : Nat} {A : Option Addr} {len cap : Nat} {y : DataW H × List MemPlace} (h : DataW.trod enc Try.prog W base spare held fuel 34 [.slice A len cap] = some y) (hw : ∀ n ∈ y.1.weights Try.prog 34, n ≤ 140737488351232) :
    ∃ l : List S44, l.length = len ∧ len ≤ cap ∧ Kd.C k44 W A l.length l ∧ Fits44 l ∧ Wf44 l := by
  rcases Deep.open_slice Try.underlying34 h with ⟨hcs, rfl⟩ | ⟨a, len', cap', m, n, D, Pl, hcs, hb, hl, hm, hmm, rfl, hx⟩
  · cases hcs
    exact ⟨[], rfl, Nat.le_refl _, Kd.C_nil _ _, ⟨by simp, fun x hx => by simp at hx⟩, fun x hx => by simp at hx⟩
  cases hcs
  have hlm : len ≤ m := by rw [hmm]; split <;> omega
  obtain ⟨l, hlen, hp⟩ := list_of (α := S44) (p := fun i x => (∃ c : List Value, c.length = 3 ∧ k44.K W x c ∧ ∀ j u, c[j]? = some u → W.cell? (a.add (i * 3 + j)) = some u) ∧ x.f0.length * 32 ≤ 140737488351232 ∧ (Lit.int .i64 x.f1).wf = true ∧ (Lit.int .i64 x.f2).wf = true) len (fun i hi => by
    obtain ⟨cs', h1, h2⟩ := hx i (by omega)
    rw [show Try.prog.cellsOf 44 = 3 by kernel_rfl] at h1
    obtain ⟨x, hK, hb2, w1, w2⟩ := open_edge h2 (fun n hn => hw n (by
      simp only [DataW.weights, Try.underlying34]
      refine List.mem_cons_of_mem _ (List.mem_append_left _ (weightsAll_mem (d := D i) (List.mem_map.2 ⟨i, List.mem_range.2 hi, rfl⟩) hn))))
    obtain ⟨_, hl3, hc⟩ := World.cells?_some h1
    refine ⟨x, ⟨cs', hl3, hK, fun j u hu => ?_⟩, hb2, w1, w2⟩
    have hj : j < 3 := by have := (List.getElem?_eq_some_iff.1 hu).1; omega
    have := (hc j hj).trans hu
    rwa [Addr.add_add] at this)
  have hwl := hw ((len + (m - len)) * 40) (by
    simp only [DataW.weights, Try.underlying34, List.length_map, List.length_range, show Try.prog.bytesOf 44 = 40 by kernel_rfl]
    exact List.mem_cons_self)
  subst hlen
  refine ⟨l, rfl, hl, ⟨rfl, by unfold maxLen at hm; omega, fun _ => ⟨a, rfl, fun i x hi => ?_⟩⟩, ⟨?_, fun x hx' => ?_⟩, fun x hx' => ?_⟩
  · obtain ⟨⟨c, hc3, hK, hcell⟩, _⟩ := hp i x hi
    exact ⟨c, hc3, hK, hcell⟩
  · have := Nat.mul_le_mul_right 40 (show l.length ≤ l.length + (m - l.length) by omega)
    omega
  · obtain ⟨i, hi⟩ := List.mem_iff_getElem?.1 hx'
    exact (hp i x hi).2.1
  · obtain ⟨i, hi⟩ := List.mem_iff_getElem?.1 hx'
    exact (hp i x hi).2.2
end
end Go.Proofs.Ytjkepojmceffkaa
namespace Go.Proofs.Ytjkepojmceffkaa.snapParts
open Go.ChangeShapes Go.WideShapes Go.ChangeAt Go.RowKit
theorem own : ownKnob Try.prog.godebug = none := by kernel_rfl
theorem laidOut : laidOutB Try.prog = true := by kernel_rfl
set_option maxRecDepth 100000 in
theorem lifted (os : Os) (started : os.Started) (H : Type) (enc : TypeId × Value → H) :
    ReturnsInHanded {} Try.checked os 6 .any (Rows.snapPartsSpec.pre6 enc Try.prog Try.f6 Rows.snapPartsRow.domain false) (Rows.snapPartsSpec.post enc Try.prog Try.f6 false true false false) := by
  refine returnsInHanded_of_change_sized (C := Try.checked) own started (by kernel_rfl) Try.func6
    (ChangeSpec.witness6 (enc := enc) (C := Try.checked) false ⟨#[], #[.slice none 0 0, .int .i64 0], []⟩ 8 (by kernel_rfl) (by kernel_rfl) (by kernel_rfl) (by kernel_rfl)) ?_
  intro W base args ds gs before hval0 hW hcnd hsz0 _
  have hsz : (DataW.weightsEach Try.prog (Try.f6.params.toList ++ Rows.snapPartsSpec.plain.varTypes Try.prog) (ds ++ gs)).all (· ≤ reachBytes) = true := hsz0
  have hval : ∀ (j : Nat) t v, Try.f6.params[j]? = some t → args[j]? = some v → Value.okWide Try.prog W .any base t v := hval0
  have hW' := hW
  obtain ⟨p, q, hA0, hV, rfl, hfz, hnd⟩ := hW
  have hA : DataW.TrodAll enc Try.prog W 0 (fun _ => true) true Try.f6.params.toList args.toList ds p := hA0
  rw [Try.params6] at hA hval hsz
  obtain ⟨v0, vs0, d0, ds0, p0, q0, hargs, rfl, rfl, h0, r0⟩ := trodAll_cons hA
  obtain ⟨v1, vs1, d1, ds1, p1, q1, rfl, rfl, rfl, h1, r1⟩ := trodAll_cons r0
  obtain ⟨rfl, rfl, rfl⟩ := trodAll_nil r1
  obtain rfl : args = #[v0, v1] := by cases args; simp_all
  obtain ⟨rfl, rfl⟩ := trodVars_none hV
  obtain ⟨a0, len0, cap0, rfl⟩ := okWide_slice Try.underlying34 (hval 0 34 v0 rfl rfl)
  have k0 := h0
  have lt0 : ∀ x ∈ p0, x.block < W.heap.size := by obtain ⟨m, hm⟩ := k0; exact DataW.trod_lt m _ _ _ hm
  obtain ⟨l, hlen, hcap, hC, hfit, hwf⟩ : ∃ l : List R.S44, l.length = len0 ∧ len0 ≤ cap0 ∧ YtjkepojmceffkaaW.PrintWords.Kd.C R.k44 W a0 l.length l ∧ Fits44 l ∧ Wf44 l := by
    obtain ⟨fuel, hf⟩ := h0
    exact open_edges hf (fun n hn => of_decide_eq_true (List.all_eq_true.1 hsz n (DataW.weights_mem_each (j := 0) rfl rfl n hn)))
  subst hlen
  obtain ⟨a1, rfl, rfl, rfl, w1⟩ := open_int Try.underlying3 (hval 1 3 v1 rfl rfl) h1
  clear hA0 hval0 hsz0 hsz
  refine (lawParts_calls l a0 cap0 a1 W hC hcap hfit hwf w1).mono fun e W' ⟨he, bel⟩ => ?_
  subst he
  exact ⟨_, rfl, _, _, _, [], _, [], hW', trodAll_mk1 (shut_bool Try.underlying4 _), (trodAll_cons_mk (Below.trod laidOut (by kernel_rfl) (of_decide_eq_true (by kernel_rfl)) k0 bel lt0) (trodAll_cons_mk (shut_int Try.underlying3 w1) trodAll_mk0)), rfl, bel.frame _, fun h => by cases h⟩
theorem over : Rows.snapPartsRow.holds Try.pinned (OpenSpec.ofChange Rows.snapPartsSpec) :=
  OpenClaim.holds_of_wide 6 Try.f6 rfl rfl rfl rfl rfl rfl rfl ⟨rfl, rfl, rfl, rfl, rfl⟩ rfl rfl rfl rfl rfl (by kernel_rfl) Try.func6 (by kernel_rfl)
    (of_decide_eq_true (by kernel_rfl)) (by unfold Func.isWrapper; first | (rw [if_pos (by decide +kernel)]; kernel_rfl) | (rw [if_neg (by decide +kernel)]; exact ⟨rfl, rfl⟩))
    (fun os started H enc _ => lifted os started H enc)
theorem proved : Rows.SnapPartsSaid := over
end Go.Proofs.Ytjkepojmceffkaa.snapParts
namespace Go.Proofs.Ytjkepojmceffkaa
theorem snapParts_holds : Rows.SnapPartsSaid := snapParts.proved
end Go.Proofs.Ytjkepojmceffkaa
