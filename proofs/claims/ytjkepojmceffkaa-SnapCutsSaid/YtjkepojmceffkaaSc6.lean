/- Part of the proof of the law Sc. Its words and prints are cut from what the kit printed for this claim. -/
import Derived.Test.YtjkepojmceffkaaSc5
import Derived.Below
import Derived.ChangeArms
import Derived.ChangeOld
import Derived.DataReads
import Derived.Deep.Slices
import Derived.OpenShut
import Derived.ProofKit
import Derived.ShutString
import Derived.SizedLaws
import Derived.Test.YtjkepojmceffkaaRows
import Derived.WalkKit
set_option linter.unusedVariables false
set_option linter.unusedSimpArgs false
namespace Go.Proofs.Ytjkepojmceffkaa
open Go Go.RowKit Go.Proofs.YtjkepojmceffkaaW.PrintWords Go.Proofs.Ytjkepojmceffkaa.R
def valueL : List S118 → Int → Int
  | [], _ => 0
  | j :: f, t => (if j.f0 ≤ t then j.f1 else 0) + valueL f t
def sumL : List S118 → Int
  | [] => 0
  | j :: f => j.f1 + sumL f
theorem valueL_append : ∀ (a b : List S118) (t : Int), valueL (a ++ b) t = valueL a t + valueL b t
  | [], b, t => by simp [valueL]
  | j :: a, b, t => by rw [List.cons_append, valueL, valueL, valueL_append a b t]; omega
theorem valueL_all : ∀ (a : List S118) (t : Int), (∀ x ∈ a, x.f0 ≤ t) → valueL a t = sumL a
  | [], _, _ => rfl
  | j :: a, t, h => by rw [valueL, sumL, if_pos (h j (by simp)), valueL_all a t (fun x hx => h x (by simp [hx]))]
theorem valueL_none : ∀ (a : List S118) (t : Int), (∀ x ∈ a, t < x.f0) → valueL a t = 0
  | [], _, _ => rfl
  | j :: a, t, h => by rw [valueL, if_neg (by have := h j (by simp); omega), valueL_none a t (fun x hx => h x (by simp [hx]))]; omega
theorem stepMayL_up : ∀ (f : List S118) (last : Int), stepMayL last f = true → f.Pairwise (fun a b => a.f0 < b.f0) ∧ ∀ x ∈ f, last < x.f0
  | [], _, _ => ⟨List.Pairwise.nil, by simp⟩
  | j :: f, last, h => by
    simp only [stepMayL, Bool.and_eq_true, decide_eq_true_eq] at h
    obtain ⟨h1, h2⟩ := stepMayL_up f j.f0 h.2.2.2.2
    refine ⟨List.pairwise_cons.2 ⟨h2, h1⟩, fun x hx => ?_⟩
    rcases List.mem_cons.1 hx with rfl | hx
    · exact h.1
    · have := h2 x hx; have := h.1; omega
theorem stepMay_up {f : List S118} (h : stepMay f = true) : f.Pairwise (fun a b => a.f0 < b.f0) ∧ ∀ x ∈ f, -2 < x.f0 := by
  simp only [stepMay, Bool.and_eq_true] at h
  exact stepMayL_up f _ h.2
theorem value_l0 (f : List S118) (t : Int) (hf : f.length ≤ 1024) (hb : ∀ x ∈ f, -1048576 ≤ x.f1 ∧ x.f1 ≤ 1048576) : ∀ m j v, j + m = f.length → -(1048576 * (j : Int)) ≤ v → v ≤ 1048576 * (j : Int) →
    rescindref09_Value.l0 (m + 1) f t v (j : Int) = some (v + valueL (f.drop j) t) := by
  intro m
  induction m with
  | zero =>
    intro j v hj _ _
    rw [rescindref09_Value.l0, if_neg (by omega), List.drop_of_length_le (by omega)]
    simp [valueL]
  | succ m ih =>
    intro j v hj h1 h2
    have hlt : j < f.length := by omega
    have hb' := hb _ (List.getElem_mem hlt)
    rw [rescindref09_Value.l0, if_pos (by omega), if_pos (by omega), rd118 hlt, drop_cons hlt, wrap_succ (by omega), valueL]
    by_cases hx : f[j].f0 ≤ t
    · rw [if_pos hx, if_pos hx, wrap_id (by omega) (by omega), ih (j + 1) _ (by omega) (by omega) (by omega)]
      congr 1; omega
    · rw [if_neg hx, if_neg hx, ih (j + 1) _ (by omega) (by omega) (by omega)]
      congr 1; omega
theorem value_f {f : List S118} (h : stepMay f = true) (t : Int) : ∀ k, f.length + 1 ≤ k → rescindref09_Value.f k f t = some (valueL f t) := by
  refine up_mono (rescindref09_Value.mono f t) ?_
  have hf := stepMay_fair h
  have := value_l0 f t hf.1 hf.2 f.length 0 0 (by omega) (by omega) (by omega)
  simpa [rescindref09_Value.f] using this
theorem ref09May_l0 (f : List S118) (hl : f.length ≤ 1024) : ∀ m j last, j + m = f.length → stepMayL last (f.drop j) = true → -2 ≤ last → (0 < j → ∀ h : j - 1 < f.length, f[j - 1].f0 = last) → rescindref09_May.l0 (2 * m + 1) f (j : Int) = some true := by
  intro m
  induction m with
  | zero =>
    intro j last hj _ _ _
    rw [rescindref09_May.l0, if_neg (by omega)]
  | succ m ih =>
    intro j last hj hs hl2 hp
    have hlt : j < f.length := by omega
    rw [drop_cons hlt] at hs
    simp only [stepMayL, Bool.and_eq_true, decide_eq_true_eq, fairP] at hs
    obtain ⟨h1, h2, h3, ⟨h4, h5⟩, h6⟩ := hs
    have hih := ih (j + 1) f[j].f0 (by omega) h6 (by omega) (fun _ _ => by simp)
    rw [show 2 * (m + 1) + 1 = (2 * m + 1) + 1 + 1 by omega, rescindref09_May.l0, if_pos (by omega), if_pos (by omega), rd118 hlt, if_neg (by omega), if_neg (by omega), if_neg h3, if_neg (by omega), rescindref09_May.j1, if_neg (by simp; omega)]
    by_cases hj0 : j = 0
    · subst hj0
      rw [if_neg (by simp), wrap_succ (by omega), hih]
    · rw [if_pos (by omega), if_pos (by omega), if_pos (by omega), wrap_pred (by omega) (by omega), if_pos (by omega), if_pos (by omega), rd118 (show j - 1 < f.length by omega), rd118 hlt, hp (by omega) (by omega), if_neg (by omega), wrap_succ (by omega), hih]
theorem ref09May_f {f : List S118} (h : stepMay f = true) : Ev (fun k => rescindref09_May.f k f) true := by
  have hf := stepMay_fair h
  refine ⟨2 * f.length + 1, up_mono (rescindref09_May.mono f) ?_⟩
  unfold rescindref09_May.f
  rw [if_neg (by omega)]
  simp only [stepMay, Bool.and_eq_true] at h
  exact ref09May_l0 f hf.1 f.length 0 (-2) (by omega) (by simpa using h.2) (by omega) (fun h => absurd h (by omega))
theorem value_at {f : List S118} (hp : f.Pairwise (fun a b => a.f0 < b.f0)) {j : Nat} (hj : j < f.length) : valueL f f[j].f0 = sumL (f.take j) + f[j].f1 := by
  have hg := List.pairwise_iff_getElem.1 hp
  have hsp : ∀ t, valueL f t = valueL (f.take (j + 1)) t + valueL (f.drop (j + 1)) t := fun t => by rw [← valueL_append, List.take_append_drop]
  rw [hsp, valueL_none (f.drop (j + 1)), ← List.take_append_getElem hj, valueL_all]
  · have : ∀ (a : List S118) (x : S118), sumL (a ++ [x]) = sumL a + x.f1 := fun a x => by induction a with
      | nil => simp [sumL]
      | cons y a ih => rw [List.cons_append, sumL, sumL, ih]; omega
    rw [this]; omega
  · intro x hx
    rcases List.mem_append.1 hx with hx | hx
    · obtain ⟨i, hi, rfl⟩ := List.mem_iff_getElem.1 hx
      have hi2 : i < j := by simp at hi; omega
      have := hg i j (by omega) hj hi2
      rw [List.getElem_take]; omega
    · obtain rfl : x = f[j] := by simpa using hx
      omega
  · intro x hx
    obtain ⟨i, hi, rfl⟩ := List.mem_iff_getElem.1 hx
    rw [List.getElem_drop]
    exact hg j (j + 1 + i) hj (by simp at hi; omega) (by omega)
theorem sumL_take {f : List S118} {j : Nat} (hj : j < f.length) : sumL (f.take (j + 1)) = sumL (f.take j) + f[j].f1 := by
  rw [← List.take_append_getElem hj]
  generalize f.take j = a
  induction a with
  | nil => simp [sumL]
  | cons y a ih => rw [List.cons_append, sumL, sumL, ih]; omega
theorem least_l0 {f : List S118} (h : stepMay f = true) : ∀ m j mi, j + m = f.length → Ev (fun k => rescindref09_Least.l0 k f mi (j : Int)) (stepLeastL (sumL (f.take j)) mi (f.drop j)) := by
  have hf := stepMay_fair h
  intro m
  induction m with
  | zero =>
    intro j mi hj
    rw [List.drop_of_length_le (by omega)]
    exact Ev.now 0 (fun k _ => by rw [rescindref09_Least.l0, if_neg (by omega)]; rfl)
  | succ m ih =>
    intro j mi hj
    have hlt : j < f.length := by omega
    rw [drop_cons hlt, stepLeastL, ← sumL_take hlt]
    refine Ev.step (f.length + 1) (fun k hk => ?_) (ih (j + 1) _ (by omega))
    rw [rescindref09_Least.l0, if_pos (by omega), if_pos (by omega), rd118 hlt, value_f h _ _ hk]
    simp only [Option.bind_some]
    rw [value_at (stepMay_up h).1 hlt, ← sumL_take hlt, wrap_succ (by omega)]
    unfold mn
    split <;> rfl
theorem least_f {f : List S118} (h : stepMay f = true) : Ev (fun k => rescindref09_Least.f k f) (stepLeast f) := by
  have hu := stepMay_up h
  have hl := least_l0 h f.length 0 (least0 f) (by omega)
  have h0 : valueL f (-1) = least0 f := by
    cases f with
    | nil => rfl
    | cons x f =>
      obtain ⟨h1, h2⟩ := List.pairwise_cons.1 hu.1
      have hx := hu.2 x (by simp)
      rw [valueL, valueL_none f (-1) (fun y hy => by have := h1 y hy; omega), least0]
      by_cases e : x.f0 = -1
      · rw [if_pos (by omega), if_pos e]; omega
      · rw [if_neg (by omega), if_neg e]; omega
  have hgoal : stepLeast f = stepLeastL 0 (least0 f) f := by unfold stepLeast; rw [if_pos h]
  rw [hgoal]
  have hb := Ev.bind (ref09May_f h) (g := fun k t347 => if t347 = true then (rescindref09_Value.f k f (-1)).bind fun t348 => rescindref09_Least.l0 k f t348 0 else some 0) (r := stepLeastL 0 (least0 f) f) (by
    have hv : Ev (fun k => rescindref09_Value.f k f (-1)) (least0 f) := ⟨f.length + 1, fun k hk => by rw [← h0]; exact value_f h _ k hk⟩
    have := Ev.bind hv (g := fun k t348 => rescindref09_Least.l0 k f t348 0) hl
    simpa [sumL] using this)
  exact hb
def tableAll (l : List S44) : Bool := (rowsR l).all fun r => decide (0 ≤ stepLeast (jumpsL l r))
theorem table_l0 (l : List S44) (hl : l.length ≤ 1000000) (rows : List (List S70)) (hr : ∀ r ∈ rows, r.length ≤ 8 ∧ stepMay (jumpsL l r) = true) (hrl : rows.length ≤ 1000000) : ∀ m j, j + m = rows.length → Ev (fun k => rescindref10_Table.l0 k l rows (j : Int)) ((rows.drop j).all fun r => decide (0 ≤ stepLeast (jumpsL l r))) := by
  intro m
  induction m with
  | zero =>
    intro j hj
    rw [List.drop_of_length_le (by omega)]
    exact Ev.now 0 (fun k _ => by rw [rescindref10_Table.l0, if_neg (by omega)]; rfl)
  | succ m ih =>
    intro j hj
    have hlt : j < rows.length := by omega
    have hrj := hr _ (List.getElem_mem hlt)
    obtain ⟨K, hK0⟩ := jumps_f l rows[j] hl hrj.1
    have hK : ∀ k, K ≤ k → rescindref10_Jumps.f k l rows[j] = some (jumpsL l rows[j]) := hK0
    obtain ⟨K2, hK20⟩ := least_f hrj.2
    have hK2 : ∀ k, K2 ≤ k → rescindref09_Least.f k (jumpsL l rows[j]) = some (stepLeast (jumpsL l rows[j])) := hK20
    have hst : ∀ k, max K K2 ≤ k → rescindref10_Table.l0 (k + 1) l rows (j : Int) = (if stepLeast (jumpsL l rows[j]) < 0 then some false else rescindref10_Table.l0 k l rows ((j + 1 : Nat) : Int)) := fun k hk => by
      rw [rescindref10_Table.l0, if_pos (by omega), if_pos (by omega), rdL3 hlt, hK k (by omega)]
      simp only [Option.bind_some]
      rw [hK2 k (by omega), wrap_succ (by omega)]
      rfl
    rw [drop_cons hlt, List.all_cons]
    by_cases h : 0 ≤ stepLeast (jumpsL l rows[j])
    · rw [decide_eq_true h, Bool.true_and]
      exact Ev.step (max K K2) (fun k hk => by rw [hst k hk, if_neg (by omega)]) (ih (j + 1) (by omega))
    · rw [decide_eq_false h, Bool.false_and]
      exact Ev.now (max K K2) (fun k hk => by rw [hst k hk, if_pos (by omega)])
theorem may_parts {l : List S44} (h : edgeMay l = true) : l.length ≤ 4096 ∧ scan none l = true ∧ mayAll l = true := by
  rw [edgeMay_eq] at h
  simpa using h
theorem eachL_all {p : List S118 → Bool} : ∀ (L : List (List S70 × List S118)) (last : Option (List S70)), eachL p last L = true → ∀ y ∈ L, p y.2 = true
  | [], _, _, y, hy => by cases hy
  | (r, f) :: L, last, h, y, hy => by
    simp only [eachL, Bool.and_eq_true] at h
    rcases List.mem_cons.1 hy with rfl | hy
    · exact h.1.2
    · exact eachL_all L _ h.2 y hy
theorem runs_may {l : List S44} (h : edgeMay l = true) : ∀ y ∈ runsL l, stepMay y.2 = true := by
  simp only [edgeMay, edgeEach, Bool.and_eq_true] at h
  exact eachL_all _ _ h.2
theorem eachL_and {p q : List S118 → Bool} : ∀ (L : List (List S70 × List S118)) (last : Option (List S70)), eachL (fun f => p f && q f) last L = (eachL p last L && L.all fun y => q y.2)
  | [], _ => rfl
  | (r, f) :: L, last => by
    rw [eachL, eachL, eachL_and L, List.all_cons]
    generalize rowMay r = a
    generalize risesRow last r = b
    generalize p f = c
    generalize q f = d
    generalize eachL p (some r) L = e
    generalize (L.all fun y => q y.2) = g
    revert a b c d e g
    decide
theorem edgeTable_eq {l : List S44} (h : edgeMay l = true) : edgeTable l = tableAll l := by
  have hm := may_parts h
  have e : edgeTable l = (edgeMay l && (runsL l).all fun y => decide (0 ≤ stepLeast y.2)) := by
    show (decide (l.length ≤ 4096) && eachL (fun f => stepMay f && decide (stepLeast f ≥ 0)) none (runsL l)) = _
    rw [eachL_and]
    simp only [edgeMay, edgeEach, Bool.and_assoc]
    try rfl
  rw [e, h, Bool.true_and]
  unfold tableAll rowsR
  rw [List.all_map]
  have : ∀ (L : List (List S70 × List S118)), (∀ y ∈ L, jumpsL l y.1 = y.2) → (L.all fun y => decide (0 ≤ stepLeast y.2)) = L.all ((fun r => decide (0 ≤ stepLeast (jumpsL l r))) ∘ fun x => x.1) := fun L => by
    induction L with
    | nil => intro _; rfl
    | cons y L ih =>
      intro h
      rw [List.all_cons, List.all_cons, ih (fun z hz => h z (by simp [hz]))]
      simp only [Function.comp]
      rw [h y (by simp)]
  exact this _ (scan_jumps hm.2.1)
theorem rowsR_may {l : List S44} (h : edgeMay l = true) : ∀ r ∈ rowsR l, r.length ≤ 8 ∧ stepMay (jumpsL l r) = true := by
  have hm := may_parts h
  intro r hr
  obtain ⟨y, hy, rfl⟩ := List.mem_map.1 hr
  refine ⟨?_, by rw [scan_jumps hm.2.1 y hy]; exact runs_may h y hy⟩
  obtain ⟨x, hx, e⟩ := rowsR_row _ (List.mem_map.2 ⟨y, hy, rfl⟩)
  rw [e]
  exact (rowMay_ok (scan_rows l none hm.2.1 x hx)).1
theorem ref10Table (l : List S44) : Ev (fun k => rescindref10_Table.f k l) (edgeMay l && edgeTable l) := by
  cases h : edgeMay l with
  | false =>
    have hb := ref10May l
    rw [h] at hb
    exact Ev.bind hb (g := fun k t353 => if t353 = true then (rescindref10_Rows.f k l).bind fun t354 => rescindref10_Table.l0 k l t354 0 else some false) ⟨0, fun k _ => rfl⟩
  | true =>
    have hm := may_parts h
    have hb := ref10May l
    rw [h] at hb
    rw [edgeTable_eq h, Bool.true_and]
    refine Ev.bind hb (g := fun k t353 => if t353 = true then (rescindref10_Rows.f k l).bind fun t354 => rescindref10_Table.l0 k l t354 0 else some false) ?_
    have h1 := table_l0 l (by omega) (rowsR l) (rowsR_may h) (by have := rowsR_length l; omega) (rowsR l).length 0 (by omega)
    have h2 := Ev.bind (ref10_rows l (by omega) hm.2.1) (g := fun k t354 => rescindref10_Table.l0 k l t354 0) h1
    simpa [tableAll] using h2
theorem cuts_plain (l : List S44) (t : Int) : ∃ km kt m tb, rescindref10_May.f km l = some m ∧ rescindref10_Table.f kt l = some tb ∧ refCuts m tb l t = snapCuts l t := by
  obtain ⟨km, hkm⟩ := (ref10May l).get
  obtain ⟨kt, hkt⟩ := (ref10Table l).get
  refine ⟨km, kt, _, _, hkm, hkt, ?_⟩
  unfold refCuts snapCuts
  rw [cutsL_eq]
  cases edgeMay l <;> cases edgeTable l <;> simp
end Go.Proofs.Ytjkepojmceffkaa
namespace Go.Proofs.Ytjkepojmceffkaa
open Go Go.RowKit Go.Proofs.YtjkepojmceffkaaW.PrintWords Go.Proofs.Ytjkepojmceffkaa.R
theorem list_of {α : Type} {p : Nat → α → Prop} : ∀ n, (∀ i, i < n → ∃ x, p i x) → ∃ l : List α, l.length = n ∧ ∀ (i : Nat) (x : α), l[i]? = some x → p i x := by
  intro n
  induction n with
  | zero => exact fun _ => ⟨[], rfl, fun i x h => by simp at h⟩
  | succ n ih =>
    intro h
    obtain ⟨l, hl, hp⟩ := ih (fun i hi => h i (by omega))
    obtain ⟨x, hx⟩ := h n (by omega)
    refine ⟨l ++ [x], by simp [hl], fun i y hy => ?_⟩
    by_cases hi : i < l.length
    · rw [List.getElem?_append_left hi] at hy
      exact hp i y hy
    · rw [List.getElem?_append_right (by omega)] at hy
      have h0 : i - l.length = 0 := by
        have := (List.getElem?_eq_some_iff.1 hy).1
        simp at this; exact this
      rw [h0] at hy
      simp at hy
      subst hy
      rw [show i = n by omega]
      exact hx
section
variable {H : Type} {enc : TypeId × Value → H} {W : World} {base : Nat} {spare : Nat → Bool} {held : Bool}
set_option maxRecDepth 100000 in
theorem open_val {fuel : Nat} {cs : List Value} {y : DataW H × List MemPlace} (h : DataW.trod enc Try.prog W base spare held fuel 70 cs = some y) : ∃ x : S70, cs = [.int .i64 x.f0, .int .i64 x.f1, .string x.f2] := by
  obtain ⟨xs, n, _, _, hl, hxl, hf⟩ := DataW.trod_struct Try.underlying70 h
  rw [show Try.prog.cellsOf 70 = 3 by kernel_rfl] at hl
  match cs, hl with
  | [u0, u1, u2], _ =>
    match xs, hxl with
    | [y0, y1, y2], _ =>
      have h0 := hf 0 _ rfl
      have h1 := hf 1 _ rfl
      have h2 := hf 2 _ rfl
      simp only [show Try.prog.cellsOf 68 = 1 by kernel_rfl, show Try.prog.cellsOf 3 = 1 by kernel_rfl, show Try.prog.cellsOf 9 = 1 by kernel_rfl, List.drop_zero, List.drop_succ_cons, List.take_succ_cons, List.take_zero, List.getElem?_cons_zero, List.getElem?_cons_succ] at h0 h1 h2
      obtain ⟨a0, e0, _, _⟩ := DataW.trod_int Try.underlying68 h0
      obtain ⟨a1, e1, _, _⟩ := DataW.trod_int Try.underlying3 h1
      obtain ⟨s, e2, _, _⟩ := DataW.trod_string Try.underlying9 h2
      cases e0
      cases e1
      cases e2
      exact ⟨⟨a0, a1, s⟩, rfl⟩
theorem open_row {fuel : Nat} {cs : List Value} {y : DataW H × List MemPlace} (h : DataW.trod enc Try.prog W base spare held fuel 42 cs = some y) (hw : ∀ n ∈ y.1.weights Try.prog 42, n ≤ 140737488351232) :
    ∃ (r : List S70) (A : Option Addr) (c : Nat), cs = [.slice A r.length c] ∧ r.length ≤ c ∧ Kd.C k70 W A r.length r ∧ r.length * 32 ≤ 140737488351232 := by
  rcases Deep.open_slice Try.underlying42 h with ⟨rfl, rfl⟩ | ⟨a, len, cap, m, n, D, Pl, rfl, hb, hl, hm, hmm, rfl, hx⟩
  · exact ⟨[], none, 0, rfl, Nat.le_refl _, Kd.C_nil _ _, by simp⟩
  have hlm : len ≤ m := by rw [hmm]; split <;> omega
  obtain ⟨r, hr, hp⟩ := list_of (α := S70) (p := fun i x => ∀ j u, [Value.int .i64 x.f0, .int .i64 x.f1, .string x.f2][j]? = some u → W.cell? (a.add (i * 3 + j)) = some u) len (fun i hi => by
    obtain ⟨cs', h1, h2⟩ := hx i (by omega)
    rw [show Try.prog.cellsOf 70 = 3 by kernel_rfl] at h1
    obtain ⟨x, rfl⟩ := open_val h2
    refine ⟨x, fun j u hu => ?_⟩
    obtain ⟨_, _, hc⟩ := World.cells?_some h1
    have hj : j < 3 := by have := (List.getElem?_eq_some_iff.1 hu).1; simpa using this
    have := (hc j hj).trans hu
    rwa [Addr.add_add] at this)
  have hwl := hw ((len + (m - len)) * 32) (by
    simp only [DataW.weights, Try.underlying42, List.length_map, List.length_range, show Try.prog.bytesOf 70 = 32 by kernel_rfl]
    exact List.mem_cons_self)
  subst hr
  refine ⟨r, some a, cap, rfl, hl, ⟨rfl, ?_, fun _ => ⟨a, rfl, fun i x hi => ⟨_, rfl, k70_mk W x, hp i x hi⟩⟩⟩, ?_⟩
  · unfold maxLen at hm; omega
  · have := Nat.mul_le_mul_right 32 (show r.length ≤ r.length + (m - r.length) by omega)
    omega
set_option maxRecDepth 100000 in
theorem open_edge {fuel : Nat} {cs : List Value} {y : DataW H × List MemPlace} (h : DataW.trod enc Try.prog W base spare held fuel 44 cs = some y) (hw : ∀ n ∈ y.1.weights Try.prog 44, n ≤ 140737488351232) :
    ∃ x : S44, k44.K W x cs ∧ x.f0.length * 32 ≤ 140737488351232 ∧ (Lit.int .i64 x.f1).wf = true ∧ (Lit.int .i64 x.f2).wf = true := by
  obtain ⟨xs, n, _, rfl, hl, hxl, hf⟩ := DataW.trod_struct Try.underlying44 h
  rw [show Try.prog.cellsOf 44 = 3 by kernel_rfl] at hl
  match cs, hl with
  | [u0, u1, u2], _ =>
    match xs, hxl with
    | [y0, y1, y2], _ =>
      have h0 := hf 0 _ rfl
      have h1 := hf 1 _ rfl
      have h2 := hf 2 _ rfl
      simp only [show Try.prog.cellsOf 42 = 1 by kernel_rfl, show Try.prog.cellsOf 3 = 1 by kernel_rfl, List.drop_zero, List.drop_succ_cons, List.take_succ_cons, List.take_zero, List.getElem?_cons_zero, List.getElem?_cons_succ] at h0 h1 h2
      obtain ⟨r, A, c, e0, hc, hC, hb⟩ := open_row h0 (fun n hn => hw n (by
        simp only [DataW.weights, Try.underlying44, List.map_cons, List.map_nil, DataW.weightsEach, List.mem_append]
        exact Or.inl hn))
      obtain ⟨a1, e1, _, w1⟩ := DataW.trod_int Try.underlying3 h1
      obtain ⟨a2, e2, _, w2⟩ := DataW.trod_int Try.underlying3 h2
      cases e0
      cases e1
      cases e2
      exact ⟨⟨r, a1, a2⟩, k44_mk W ⟨r, a1, a2⟩ hc hC, hb, w1, w2⟩
theorem weightsAll_mem {P : Program} {e : TypeId} {ds : List (DataW H)} {d : DataW H} (hd : d ∈ ds) {n : Nat} (hn : n ∈ d.weights P e) : n ∈ DataW.weightsAll P e ds := by
  induction ds with
  | nil => cases hd
  | cons x ds ih =>
    simp only [DataW.weightsAll, List.mem_append]
    rcases List.mem_cons.1 hd with rfl | hd
    · exact .inl hn
    · exact .inr (ih hd)
theorem open_edges {fuel : Nat} {A : Option Addr} {len cap : Nat} {y : DataW H × List MemPlace} (h : DataW.trod enc Try.prog W base spare held fuel 34 [.slice A len cap] = some y) (hw : ∀ n ∈ y.1.weights Try.prog 34, n ≤ 140737488351232) :
    ∃ l : List S44, l.length = len ∧ len ≤ cap ∧ Kd.C k44 W A l.length l ∧ Fits44 l ∧ Wf44 l := by
  rcases Deep.open_slice Try.underlying34 h with ⟨hcs, rfl⟩ | ⟨a, len', cap', m, n, D, Pl, hcs, hb, hl, hm, hmm, rfl, hx⟩
  · cases hcs
    exact ⟨[], rfl, Nat.le_refl _, Kd.C_nil _ _, ⟨by simp, fun x hx => by simp at hx⟩, fun x hx => by simp at hx⟩
  cases hcs
  have hlm : len ≤ m := by rw [hmm]; split <;> omega
  obtain ⟨l, hlen, hp⟩ := list_of (α := S44) (p := fun i x => (∃ c : List Value, c.length = 3 ∧ k44.K W x c ∧ ∀ j u, c[j]? = some u → W.cell? (a.add (i * 3 + j)) = some u) ∧ x.f0.length * 32 ≤ 140737488351232 ∧ (Lit.int .i64 x.f1).wf = true ∧ (Lit.int .i64 x.f2).wf = true) len (fun i hi => by
    obtain ⟨cs', h1, h2⟩ := hx i (by omega)
    rw [show Try.prog.cellsOf 44 = 3 by kernel_rfl] at h1
    obtain ⟨x, hK, hb2, w1, w2⟩ := open_edge h2 (fun n hn => hw n (by
      simp only [DataW.weights, Try.underlying34]
      refine List.mem_cons_of_mem _ (List.mem_append_left _ (weightsAll_mem (d := D i) (List.mem_map.2 ⟨i, List.mem_range.2 hi, rfl⟩) hn))))
    obtain ⟨_, hl3, hc⟩ := World.cells?_some h1
    refine ⟨x, ⟨cs', hl3, hK, fun j u hu => ?_⟩, hb2, w1, w2⟩
    have hj : j < 3 := by have := (List.getElem?_eq_some_iff.1 hu).1; omega
    have := (hc j hj).trans hu
    rwa [Addr.add_add] at this)
  have hwl := hw ((len + (m - len)) * 40) (by
    simp only [DataW.weights, Try.underlying34, List.length_map, List.length_range, show Try.prog.bytesOf 44 = 40 by kernel_rfl]
    exact List.mem_cons_self)
  subst hlen
  refine ⟨l, rfl, hl, ⟨rfl, by unfold maxLen at hm; omega, fun _ => ⟨a, rfl, fun i x hi => ?_⟩⟩, ⟨?_, fun x hx' => ?_⟩, fun x hx' => ?_⟩
  · obtain ⟨⟨c, hc3, hK, hcell⟩, _⟩ := hp i x hi
    exact ⟨c, hc3, hK, hcell⟩
  · have := Nat.mul_le_mul_right 40 (show l.length ≤ l.length + (m - l.length) by omega)
    omega
  · obtain ⟨i, hi⟩ := List.mem_iff_getElem?.1 hx'
    exact (hp i x hi).2.1
  · obtain ⟨i, hi⟩ := List.mem_iff_getElem?.1 hx'
    exact (hp i x hi).2.2
end
end Go.Proofs.Ytjkepojmceffkaa
namespace Go.Proofs.Ytjkepojmceffkaa.snapCuts
open Go.ChangeShapes Go.WideShapes Go.ChangeAt Go.RowKit
theorem own : ownKnob Try.prog.godebug = none := by kernel_rfl
theorem laidOut : laidOutB Try.prog = true := by kernel_rfl
set_option maxRecDepth 100000 in
theorem lifted (os : Os) (started : os.Started) (H : Type) (enc : TypeId × Value → H) :
    ReturnsInHanded {} Try.checked os 5 .any (Rows.snapCutsSpec.pre6 enc Try.prog Try.f5 Rows.snapCutsRow.domain false) (Rows.snapCutsSpec.post enc Try.prog Try.f5 false true false false) := by
  refine returnsInHanded_of_change_sized (C := Try.checked) own started (by kernel_rfl) Try.func5
    (ChangeSpec.witness6 (enc := enc) (C := Try.checked) false ⟨#[], #[.slice none 0 0, .int .i64 0], []⟩ 8 (by kernel_rfl) (by kernel_rfl) (by kernel_rfl) (by kernel_rfl)) ?_
  intro W base args ds gs before hval0 hW hcnd hsz0 _
  have hsz : (DataW.weightsEach Try.prog (Try.f5.params.toList ++ Rows.snapCutsSpec.plain.varTypes Try.prog) (ds ++ gs)).all (· ≤ reachBytes) = true := hsz0
  have hval : ∀ (j : Nat) t v, Try.f5.params[j]? = some t → args[j]? = some v → Value.okWide Try.prog W .any base t v := hval0
  have hW' := hW
  obtain ⟨p, q, hA0, hV, rfl, hfz, hnd⟩ := hW
  have hA : DataW.TrodAll enc Try.prog W 0 (fun _ => true) true Try.f5.params.toList args.toList ds p := hA0
  rw [Try.params5] at hA hval hsz
  obtain ⟨v0, vs0, d0, ds0, p0, q0, hargs, rfl, rfl, h0, r0⟩ := trodAll_cons hA
  obtain ⟨v1, vs1, d1, ds1, p1, q1, rfl, rfl, rfl, h1, r1⟩ := trodAll_cons r0
  obtain ⟨rfl, rfl, rfl⟩ := trodAll_nil r1
  obtain rfl : args = #[v0, v1] := by cases args; simp_all
  obtain ⟨rfl, rfl⟩ := trodVars_none hV
  obtain ⟨a0, len0, cap0, rfl⟩ := okWide_slice Try.underlying34 (hval 0 34 v0 rfl rfl)
  have k0 := h0
  have lt0 : ∀ x ∈ p0, x.block < W.heap.size := by obtain ⟨m, hm⟩ := k0; exact DataW.trod_lt m _ _ _ hm
  obtain ⟨l, hlen, hcap, hC, hfit, hwf⟩ : ∃ l : List R.S44, l.length = len0 ∧ len0 ≤ cap0 ∧ YtjkepojmceffkaaW.PrintWords.Kd.C R.k44 W a0 l.length l ∧ Fits44 l ∧ Wf44 l := by
    obtain ⟨fuel, hf⟩ := h0
    exact open_edges hf (fun n hn => of_decide_eq_true (List.all_eq_true.1 hsz n (DataW.weights_mem_each (j := 0) rfl rfl n hn)))
  subst hlen
  obtain ⟨a1, rfl, rfl, rfl, w1⟩ := open_int Try.underlying3 (hval 1 3 v1 rfl rfl) h1
  clear hA0 hval0 hsz0 hsz
  refine (lawCuts_calls l a0 cap0 a1 W hC hcap hfit hwf w1 (fun _ => cuts_plain l a1)).mono fun e W' ⟨he, bel⟩ => ?_
  subst he
  exact ⟨_, rfl, _, _, _, [], _, [], hW', trodAll_mk1 (shut_bool Try.underlying4 _), (trodAll_cons_mk (Below.trod laidOut (by kernel_rfl) (of_decide_eq_true (by kernel_rfl)) k0 bel lt0) (trodAll_cons_mk (shut_int Try.underlying3 w1) trodAll_mk0)), rfl, bel.frame _, fun h => by cases h⟩
theorem over : Rows.snapCutsRow.holds Try.pinned (OpenSpec.ofChange Rows.snapCutsSpec) :=
  OpenClaim.holds_of_wide 5 Try.f5 rfl rfl rfl rfl rfl rfl rfl ⟨rfl, rfl, rfl, rfl, rfl⟩ rfl rfl rfl rfl rfl (by kernel_rfl) Try.func5 (by kernel_rfl)
    (of_decide_eq_true (by kernel_rfl)) (by unfold Func.isWrapper; first | (rw [if_pos (by decide +kernel)]; kernel_rfl) | (rw [if_neg (by decide +kernel)]; exact ⟨rfl, rfl⟩))
    (fun os started H enc _ => lifted os started H enc)
theorem proved : Rows.SnapCutsSaid := over
end Go.Proofs.Ytjkepojmceffkaa.snapCuts
namespace Go.Proofs.Ytjkepojmceffkaa
theorem snapCuts_holds : Rows.SnapCutsSaid := snapCuts.proved
end Go.Proofs.Ytjkepojmceffkaa
