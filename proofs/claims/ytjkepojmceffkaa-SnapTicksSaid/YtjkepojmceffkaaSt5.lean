/- Part of the proof of the law St. Its words and prints are cut from what the kit printed for this claim. -/
import Derived.Test.YtjkepojmceffkaaSt4
import Derived.Below
import Derived.ChangeArms
import Derived.ChangeOld
import Derived.DataReads
import Derived.Deep.Slices
import Derived.OpenShut
import Derived.ProofKit
import Derived.ShutString
import Derived.SizedLaws
import Derived.Test.YtjkepojmceffkaaRows
import Derived.WalkKit
set_option linter.unusedVariables false
set_option linter.unusedSimpArgs false
namespace Go.Proofs.Ytjkepojmceffkaa
open Go Go.RowKit Go.Proofs.YtjkepojmceffkaaW.PrintWords Go.Proofs.Ytjkepojmceffkaa.R
theorem heap70 : Kd.Heap k70 := Kd.heap_iso _ (Kd.heap_pair (Kd.heap_int .i64) (Kd.heap_pair (Kd.heap_int .i64) Kd.heap_string))
theorem heap44 : Kd.Heap k44 := Kd.heap_iso _ (Kd.heap_pair (Kd.heap_slice 70 heap70) (Kd.heap_pair (Kd.heap_int .i64) (Kd.heap_int .i64)))
set_option maxRecDepth 100000 in
set_option maxHeartbeats 2000000 in
theorem lawTicks_calls (l : List S44) (A : Option Addr) (c : Nat) (f t : Int) (w : World) (hC : Kd.C k44 w A l.length l) (hc : l.length ≤ c) (hfit : Fits44 l) (hwf : Wf44 l) (hwt : (Lit.int .i64 f).wf = true) :
    Calls Try.prog 7 #[.slice A l.length c, .int .i64 f, .int .i64 t] w fun e w' => e = .returned (.bool true) ∧ Below w.heap.size w w' := by
  have hmx : l.length ≤ 9223372036854775807 := hC.2.1
  have HC := Lib.hid hC
  have Hc := Lib.hid hc
  have HF := Lib.hid hfit
  have HW := Lib.hid hwf
  have HT := Lib.hid hwt
  clear hC hc hfit hwf hwt
  go_enter Try.func7, Try.ntmps7
  by_cases hg : (l.length : Int) > 200 ∨ t < f ∨ t ≥ 1125899906842624
  · go_wp2_with fail
    all_goals
      refine (live_calls _).mono ?_
      rintro e w2 ⟨rfl, hb2⟩
      go_wp2_with fail
      go_ret
      exact ⟨rfl, hb2⟩
  obtain ⟨g1, g2, g3⟩ : ¬ (l.length : Int) > 200 ∧ ¬ t < f ∧ ¬ t ≥ 1125899906842624 := ⟨fun h => hg (.inl h), fun h => hg (.inr (.inl h)), fun h => hg (.inr (.inr h))⟩
  clear hg
  have G := Lib.hid (show f ≤ t ∧ t < 1125899906842624 by omega)
  go_wp2_with fail
  refine (parts_calls l A c f _ HC.out HF.out HW.out HT.out).mono ?_
  rintro e w1 ⟨Ap, cp, rfl, hcp, hCp, hb1⟩
  have HCp := Lib.hid hCp
  have Hcp := Lib.hid hcp
  have Hb1 := Lib.hid hb1
  clear hCp hcp hb1
  have htk : (snapParts l f).2 = 0 → (hits t (snapParts l f).1).length ≤ 1 ∧ hitRows t (snapParts l f).1 = refAliveL (refV l t) (rowsR l) ∧ edgeMay l = true := fun h => by
    have h1 := ticks_one h G.out.1 G.out.2
    exact ⟨h1.1, h1.2, (snapParts_ok h (by have := G.out; omega)).1⟩
  have her : (snapParts l f).2 ≠ 0 → (snapParts l f).1 = [] := snapParts_err
  have Htk := Lib.hid htk
  have Her := Lib.hid her
  clear htk her g1 g2 g3
  generalize (snapParts l f).1 = ps at *
  generalize (snapParts l f).2 = er at *
  by_cases he : er = 0
  case neg =>
    have hps := Her.out he
    subst hps
    go_wp2_with fail
    refine (live_calls _).mono ?_
    rintro e w2 ⟨rfl, hb2⟩
    go_wp2_with fail
    go_ret
    exact ⟨rfl, Hb1.out.trans (hb2.mono Hb1.out.size)⟩
  subst he
  obtain ⟨htk1, htk2, hmay⟩ := Htk.out rfl
  have Htk1 := Lib.hid htk1
  have Htk2 := Lib.hid htk2
  have Hmay := Lib.hid hmay
  clear Htk Her htk1 htk2 hmay
  have hmp : ps.length ≤ 9223372036854775807 := HCp.out.2.1
  go_wp2_with fail
  go_loopw [9, 10, 11] (fun v9 v10 v11 wr => ∃ (j : Nat) (At : Option Addr) (ct : Nat), j ≤ ps.length ∧ v11 = .int .i64 j ∧ v10 = .int .i64 (hits t (ps.take j)).length ∧ v9 = .slice At (hitRows t (ps.take j)).length ct ∧ (hitRows t (ps.take j)).length ≤ ct ∧ Kd.C k108 wr At (hitRows t (ps.take j)).length (hitRows t (ps.take j)) ∧ Below w1.heap.size w1 wr) (fun _ _ v _ => ps.length - (intOf v).toNat)
  case atStart => exact ⟨0, _, 0, Nat.zero_le _, rfl, rfl, rfl, Nat.le_refl _, ⟨rfl, Nat.zero_le _, fun h => absurd h (Nat.lt_irrefl _)⟩, (Below.refl _ _).alloc (Nat.le_refl _) _⟩
  case round =>
    obtain ⟨j, At, ct, hj, rfl, rfl, rfl, hct, hCt, hbr⟩ := hrel
    by_cases hlt : j < ps.length
    · obtain ⟨p, hx⟩ : ∃ p, ps[j]? = some p := ⟨ps[j], by simp [hlt]⟩
      have hCw := Kd.C_below HCp.out hbr
      obtain ⟨ad, A2, c2, hA, x0, x1, x2, hc2, hC2⟩ := at61 hCw hx
      subst hA
      have Hx := Lib.hid hx
      have HCt := Lib.hid hCt
      have Hct := Lib.hid hct
      have HC2 := Lib.hid hC2
      have Hc2 := Lib.hid hc2
      have w0' : (0 : Int) ≤ (j : Int) := by omega
      have w1' : (j : Int) < (ps.length : Int) := by omega
      clear hx hCt hct hC2 hc2 hCw
      have Hbr := Lib.hid hbr
      clear hbr
      by_cases q1 : p.f0.f0 ≤ t
      · by_cases q2 : t < p.f0.f1
        · have hh : hitB t p = true := by simp [hitB, q1, q2]
          have hs := hitRows_yes Hx.out hh
          have Hs := Lib.hid hs
          have hn : (hits t (ps.take j)).length ≤ j := by
            have h1 : (hits t (ps.take j)).length ≤ (ps.take j).length := List.length_filter_le _ _
            have h2 : (ps.take j).length ≤ j := by simp; omega
            omega
          have Hn := Lib.hid hn
          clear hh hs hn
          go_wp2_with fail
          go_roundw
          case rel => exact ⟨j + 1, A2, c2, by omega, by go_num, by rw [Hs.out.2, wrap_succ (by have := Hn.out; omega)], by rw [Hs.out.1], by rw [Hs.out.1]; exact Hc2.out, by rw [Hs.out.1]; exact HC2.out, Hbr.out⟩
          case measure => simp [intOf]; omega
        · have hh : hitB t p = false := by simp [hitB, q2]
          have hs := hitRows_no Hx.out hh
          have Hs := Lib.hid hs
          clear hh hs
          go_wp2_with fail
          go_roundw
          case rel => exact ⟨j + 1, At, ct, by omega, by go_num, by rw [Hs.out.2], by rw [Hs.out.1], by rw [Hs.out.1]; exact Hct.out, by rw [Hs.out.1]; exact HCt.out, Hbr.out⟩
          case measure => simp [intOf]; omega
      · have hh : hitB t p = false := by simp [hitB, q1]
        have hs := hitRows_no Hx.out hh
        have Hs := Lib.hid hs
        clear hh hs
        go_wp2_with fail
        go_roundw
        case rel => exact ⟨j + 1, At, ct, by omega, by go_num, by rw [Hs.out.2], by rw [Hs.out.1], by rw [Hs.out.1]; exact Hct.out, by rw [Hs.out.1]; exact HCt.out, Hbr.out⟩
        case measure => simp [intOf]; omega
    · obtain rfl : j = ps.length := by omega
      rw [List.take_length] at hct hCt ⊢
      rw [Htk2.out] at hct hCt ⊢
      have hn1 := Htk1.out
      obtain ⟨⟨kr, hkr⟩, hl4, hJ, hV⟩ := alive_plain Hmay.out t
      have Hkr := Lib.hid hkr
      have HJ := Lib.hid hJ
      have HV := Lib.hid hV
      have Hsc := Lib.hid (sameCopies_self _ (by have := refAlive_len Hmay.out t; omega) (refAlive_rows Hmay.out t))
      generalize hAl : refAliveL (refV l t) (rowsR l) = al at *
      generalize (hits t ps).length = n1 at *
      have HAl := Lib.hid hAl
      have HCt := Lib.hid hCt
      have Hct := Lib.hid hct
      have Hbr := Lib.hid hbr
      have hni : (n1 : Int) ≤ 1 := by omega
      clear hkr hJ hV hAl hCt hct hbr
      go_wp2_with fail
      refine (live_calls wr).mono ?_
      rintro e w4 ⟨rfl, hb4⟩
      have Hb4 := Lib.hid (Hbr.out.trans (hb4.mono Hbr.out.size))
      have HCt4 := Lib.hid (Kd.C_below HCt.out hb4)
      clear hb4
      go_wp2_with fail
      refine (refAlive_calls l A c t (fun _ => True) (rowsR l) kr (jumpsL l) (refV l t) _ (Kd.F_mono (Kd.C_F heap44 (Kd.C_below HC.out (Hb1.out.trans (Hb4.out.mono Hb1.out.size)))) (fun _ _ => trivial)) Hc.out Hkr.out hl4 HJ.out HV.out).mono ?_
      rintro e w5 ⟨v5, rfl, hN5, hb5⟩
      obtain ⟨A5, c5, rfl, hc5, hC5⟩ := Kd.N_reads hN5
      rw [HAl.out] at hc5 hC5 ⊢
      have HC5 := Lib.hid hC5
      have Hc5 := Lib.hid hc5
      have HCt5 := Lib.hid (Kd.C_below HCt4.out hb5)
      have Hb5 := Lib.hid (Hb4.out.trans (hb5.mono Hb4.out.size))
      clear hN5 hb5 hC5 hc5
      go_wp2_with fail
      refine (rescindref27_SameCopies.calls _ At ct al A5 c5 al true _ HCt5.out Hct.out HC5.out Hc5.out Hsc.out).mono ?_
      rintro e w6 ⟨rfl, nd, rfl⟩
      have hb6 := pw_below_drewN Hb5.out nd
      generalize w5.drewN nd = w6 at hb6 ⊢
      have hb7 := Hb1.out.trans (hb6.mono Hb1.out.size)
      go_wp2_with fail
      go_ret
      exact ⟨rfl, hb7⟩
end Go.Proofs.Ytjkepojmceffkaa
namespace Go.Proofs.Ytjkepojmceffkaa
open Go Go.RowKit Go.Proofs.YtjkepojmceffkaaW.PrintWords Go.Proofs.Ytjkepojmceffkaa.R
theorem list_of {α : Type} {p : Nat → α → Prop} : ∀ n, (∀ i, i < n → ∃ x, p i x) → ∃ l : List α, l.length = n ∧ ∀ (i : Nat) (x : α), l[i]? = some x → p i x := by
  intro n
  induction n with
  | zero => exact fun _ => ⟨[], rfl, fun i x h => by simp at h⟩
  | succ n ih =>
    intro h
    obtain ⟨l, hl, hp⟩ := ih (fun i hi => h i (by omega))
    obtain ⟨x, hx⟩ := h n (by omega)
    refine ⟨l ++ [x], by simp [hl], fun i y hy => ?_⟩
    by_cases hi : i < l.length
    · rw [List.getElem?_append_left hi] at hy
      exact hp i y hy
    · rw [List.getElem?_append_right (by omega)] at hy
      have h0 : i - l.length = 0 := by
        have := (List.getElem?_eq_some_iff.1 hy).1
        simp at this; exact this
      rw [h0] at hy
      simp at hy
      subst hy
      rw [show i = n by omega]
      exact hx
section
variable {H : Type} {enc : TypeId × Value → H} {W : World} {base : Nat} {spare : Nat → Bool} {held : Bool}
set_option maxRecDepth 100000 in
theorem open_val {fuel : Nat} {cs : List Value} {y : DataW H × List MemPlace} (h : DataW.trod enc Try.prog W base spare held fuel 70 cs = some y) : ∃ x : S70, cs = [.int .i64 x.f0, .int .i64 x.f1, .string x.f2] := by
  obtain ⟨xs, n, _, _, hl, hxl, hf⟩ := DataW.trod_struct Try.underlying70 h
  rw [show Try.prog.cellsOf 70 = 3 by kernel_rfl] at hl
  match cs, hl with
  | [u0, u1, u2], _ =>
    match xs, hxl with
    | [y0, y1, y2], _ =>
      have h0 := hf 0 _ rfl
      have h1 := hf 1 _ rfl
      have h2 := hf 2 _ rfl
      simp only [show Try.prog.cellsOf 68 = 1 by kernel_rfl, show Try.prog.cellsOf 3 = 1 by kernel_rfl, show Try.prog.cellsOf 9 = 1 by kernel_rfl, List.drop_zero, List.drop_succ_cons, List.take_succ_cons, List.take_zero, List.getElem?_cons_zero, List.getElem?_cons_succ] at h0 h1 h2
      obtain ⟨a0, e0, _, _⟩ := DataW.trod_int Try.underlying68 h0
      obtain ⟨a1, e1, _, _⟩ := DataW.trod_int Try.underlying3 h1
      obtain ⟨s, e2, _, _⟩ := DataW.trod_string Try.underlying9 h2
      cases e0
      cases e1
      cases e2
      exact ⟨⟨a0, a1, s⟩, rfl⟩
theorem open_row {fuel : Nat} {cs : List Value} {y : DataW H × List MemPlace} (h : DataW.trod enc Try.prog W base spare held fuel 42 cs = some y) (hw : ∀ n ∈ y.1.weights Try.prog 42, n ≤ 140737488351232) :
    ∃ (r : List S70) (A : Option Addr) (c : Nat), cs = [.slice A r.length c] ∧ r.length ≤ c ∧ Kd.C k70 W A r.length r ∧ r.length * 32 ≤ 140737488351232 := by
  rcases Deep.open_slice Try.underlying42 h with ⟨rfl, rfl⟩ | ⟨a, len, cap, m, n, D, Pl, rfl, hb, hl, hm, hmm, rfl, hx⟩
  · exact ⟨[], none, 0, rfl, Nat.le_refl _, Kd.C_nil _ _, by simp⟩
  have hlm : len ≤ m := by rw [hmm]; split <;> omega
  obtain ⟨r, hr, hp⟩ := list_of (α := S70) (p := fun i x => ∀ j u, [Value.int .i64 x.f0, .int .i64 x.f1, .string x.f2][j]? = some u → W.cell? (a.add (i * 3 + j)) = some u) len (fun i hi => by
    obtain ⟨cs', h1, h2⟩ := hx i (by omega)
    rw [show Try.prog.cellsOf 70 = 3 by kernel_rfl] at h1
    obtain ⟨x, rfl⟩ := open_val h2
    refine ⟨x, fun j u hu => ?_⟩
    obtain ⟨_, _, hc⟩ := World.cells?_some h1
    have hj : j < 3 := by have := (List.getElem?_eq_some_iff.1 hu).1; simpa using this
    have := (hc j hj).trans hu
    rwa [Addr.add_add] at this)
  have hwl := hw ((len + (m - len)) * 32) (by
    simp only [DataW.weights, Try.underlying42, List.length_map, List.length_range, show Try.prog.bytesOf 70 = 32 by kernel_rfl]
    exact List.mem_cons_self)
  subst hr
  refine ⟨r, some a, cap, rfl, hl, ⟨rfl, ?_, fun _ => ⟨a, rfl, fun i x hi => ⟨_, rfl, k70_mk W x, hp i x hi⟩⟩⟩, ?_⟩
  · unfold maxLen at hm; omega
  · have := Nat.mul_le_mul_right 32 (show r.length ≤ r.length + (m - r.length) by omega)
    omega
set_option maxRecDepth 100000 in
theorem open_edge {fuel : Nat} {cs : List Value} {y : DataW H × List MemPlace} (h : DataW.trod enc Try.prog W base spare held fuel 44 cs = some y) (hw : ∀ n ∈ y.1.weights Try.prog 44, n ≤ 140737488351232) :
    ∃ x : S44, k44.K W x cs ∧ x.f0.length * 32 ≤ 140737488351232 ∧ (Lit.int .i64 x.f1).wf = true ∧ (Lit.int .i64 x.f2).wf = true := by
  obtain ⟨xs, n, _, rfl, hl, hxl, hf⟩ := DataW.trod_struct Try.underlying44 h
  rw [show Try.prog.cellsOf 44 = 3 by kernel_rfl] at hl
  match cs, hl with
  | [u0, u1, u2], _ =>
    match xs, hxl with
    | [y0, y1, y2], _ =>
      have h0 := hf 0 _ rfl
      have h1 := hf 1 _ rfl
      have h2 := hf 2 _ rfl
      simp only [show Try.prog.cellsOf 42 = 1 by kernel_rfl, show Try.prog.cellsOf 3 = 1 by kernel_rfl, List.drop_zero, List.drop_succ_cons, List.take_succ_cons, List.take_zero, List.getElem?_cons_zero, List.getElem?_cons_succ] at h0 h1 h2
      obtain ⟨r, A, c, e0, hc, hC, hb⟩ := open_row h0 (fun n hn => hw n (by
        simp only [DataW.weights, Try.underlying44, List.map_cons, List.map_nil, DataW.weightsEach, List.mem_append]
        exact Or.inl hn))
      obtain ⟨a1, e1, _, w1⟩ := DataW.trod_int Try.underlying3 h1
      obtain ⟨a2, e2, _, w2⟩ := DataW.trod_int Try.underlying3 h2
      cases e0
      cases e1
      cases e2
      exact ⟨⟨r, a1, a2⟩, k44_mk W ⟨r, a1, a2⟩ hc hC, hb, w1, w2⟩
theorem weightsAll_mem {P : Program} {e : TypeId} {ds : List (DataW H)} {d : DataW H} (hd : d ∈ ds) {n : Nat} (hn : n ∈ d.weights P e) : n ∈ DataW.weightsAll P e ds := by
  induction ds with
  | nil => cases hd
  | cons x ds ih =>
    simp only [DataW.weightsAll, List.mem_append]
    rcases List.mem_cons.1 hd with rfl | hd
    · exact .inl hn
    · exact .inr (ih hd)
theorem open_edges {fuel : Nat} {A : Option Addr} {len cap : Nat} {y : DataW H × List MemPlace} (h : DataW.trod enc Try.prog W base spare held fuel 34 [.slice A len cap] = some y) (hw : ∀ n ∈ y.1.weights Try.prog 34, n ≤ 140737488351232) :
    ∃ l : List S44, l.length = len ∧ len ≤ cap ∧ Kd.C k44 W A l.length l ∧ Fits44 l ∧ Wf44 l := by
  rcases Deep.open_slice Try.underlying34 h with ⟨hcs, rfl⟩ | ⟨a, len', cap', m, n, D, Pl, hcs, hb, hl, hm, hmm, rfl, hx⟩
  · cases hcs
    exact ⟨[], rfl, Nat.le_refl _, Kd.C_nil _ _, ⟨by simp, fun x hx => by simp at hx⟩, fun x hx => by simp at hx⟩
  cases hcs
  have hlm : len ≤ m := by rw [hmm]; split <;> omega
  obtain ⟨l, hlen, hp⟩ := list_of (α := S44) (p := fun i x => (∃ c : List Value, c.length = 3 ∧ k44.K W x c ∧ ∀ j u, c[j]? = some u → W.cell? (a.add (i * 3 + j)) = some u) ∧ x.f0.length * 32 ≤ 140737488351232 ∧ (Lit.int .i64 x.f1).wf = true ∧ (Lit.int .i64 x.f2).wf = true) len (fun i hi => by
    obtain ⟨cs', h1, h2⟩ := hx i (by omega)
    rw [show Try.prog.cellsOf 44 = 3 by kernel_rfl] at h1
    obtain ⟨x, hK, hb2, w1, w2⟩ := open_edge h2 (fun n hn => hw n (by
      simp only [DataW.weights, Try.underlying34]
      refine List.mem_cons_of_mem _ (List.mem_append_left _ (weightsAll_mem (d := D i) (List.mem_map.2 ⟨i, List.mem_range.2 hi, rfl⟩) hn))))
    obtain ⟨_, hl3, hc⟩ := World.cells?_some h1
    refine ⟨x, ⟨cs', hl3, hK, fun j u hu => ?_⟩, hb2, w1, w2⟩
    have hj : j < 3 := by have := (List.getElem?_eq_some_iff.1 hu).1; omega
    have := (hc j hj).trans hu
    rwa [Addr.add_add] at this)
  have hwl := hw ((len + (m - len)) * 40) (by
    simp only [DataW.weights, Try.underlying34, List.length_map, List.length_range, show Try.prog.bytesOf 44 = 40 by kernel_rfl]
    exact List.mem_cons_self)
  subst hlen
  refine ⟨l, rfl, hl, ⟨rfl, by unfold maxLen at hm; omega, fun _ => ⟨a, rfl, fun i x hi => ?_⟩⟩, ⟨?_, fun x hx' => ?_⟩, fun x hx' => ?_⟩
  · obtain ⟨⟨c, hc3, hK, hcell⟩, _⟩ := hp i x hi
    exact ⟨c, hc3, hK, hcell⟩
  · have := Nat.mul_le_mul_right 40 (show l.length ≤ l.length + (m - l.length) by omega)
    omega
  · obtain ⟨i, hi⟩ := List.mem_iff_getElem?.1 hx'
    exact (hp i x hi).2.1
  · obtain ⟨i, hi⟩ := List.mem_iff_getElem?.1 hx'
    exact (hp i x hi).2.2
end
end Go.Proofs.Ytjkepojmceffkaa
namespace Go.Proofs.Ytjkepojmceffkaa.snapTicks
open Go.ChangeShapes Go.WideShapes Go.ChangeAt Go.RowKit
theorem own : ownKnob Try.prog.godebug = none := by kernel_rfl
theorem laidOut : laidOutB Try.prog = true := by kernel_rfl
set_option maxRecDepth 100000 in
theorem lifted (os : Os) (started : os.Started) (H : Type) (enc : TypeId × Value → H) :
    ReturnsInHanded {} Try.checked os 7 .any (Rows.snapTicksSpec.pre6 enc Try.prog Try.f7 Rows.snapTicksRow.domain false) (Rows.snapTicksSpec.post enc Try.prog Try.f7 false true false false) := by
  refine returnsInHanded_of_change_sized (C := Try.checked) own started (by kernel_rfl) Try.func7
    (ChangeSpec.witness6 (enc := enc) (C := Try.checked) false ⟨#[], #[.slice none 0 0, .int .i64 0, .int .i64 0], []⟩ 8 (by kernel_rfl) (by kernel_rfl) (by kernel_rfl) (by kernel_rfl)) ?_
  intro W base args ds gs before hval0 hW hcnd hsz0 _
  have hsz : (DataW.weightsEach Try.prog (Try.f7.params.toList ++ Rows.snapTicksSpec.plain.varTypes Try.prog) (ds ++ gs)).all (· ≤ reachBytes) = true := hsz0
  have hval : ∀ (j : Nat) t v, Try.f7.params[j]? = some t → args[j]? = some v → Value.okWide Try.prog W .any base t v := hval0
  have hW' := hW
  obtain ⟨p, q, hA0, hV, rfl, hfz, hnd⟩ := hW
  have hA : DataW.TrodAll enc Try.prog W 0 (fun _ => true) true Try.f7.params.toList args.toList ds p := hA0
  rw [Try.params7] at hA hval hsz
  obtain ⟨v0, vs0, d0, ds0, p0, q0, hargs, rfl, rfl, h0, r0⟩ := trodAll_cons hA
  obtain ⟨v1, vs1, d1, ds1, p1, q1, rfl, rfl, rfl, h1, r1⟩ := trodAll_cons r0
  obtain ⟨v2, vs2, d2, ds2, p2, q2, rfl, rfl, rfl, h2, r2⟩ := trodAll_cons r1
  obtain ⟨rfl, rfl, rfl⟩ := trodAll_nil r2
  obtain rfl : args = #[v0, v1, v2] := by cases args; simp_all
  obtain ⟨rfl, rfl⟩ := trodVars_none hV
  obtain ⟨a0, len0, cap0, rfl⟩ := okWide_slice Try.underlying34 (hval 0 34 v0 rfl rfl)
  have k0 := h0
  have lt0 : ∀ x ∈ p0, x.block < W.heap.size := by obtain ⟨m, hm⟩ := k0; exact DataW.trod_lt m _ _ _ hm
  obtain ⟨l, hlen, hcap, hC, hfit, hwf⟩ : ∃ l : List R.S44, l.length = len0 ∧ len0 ≤ cap0 ∧ YtjkepojmceffkaaW.PrintWords.Kd.C R.k44 W a0 l.length l ∧ Fits44 l ∧ Wf44 l := by
    obtain ⟨fuel, hf⟩ := h0
    exact open_edges hf (fun n hn => of_decide_eq_true (List.all_eq_true.1 hsz n (DataW.weights_mem_each (j := 0) rfl rfl n hn)))
  subst hlen
  obtain ⟨a1, rfl, rfl, rfl, w1⟩ := open_int Try.underlying3 (hval 1 3 v1 rfl rfl) h1
  obtain ⟨a2, rfl, rfl, rfl, w2⟩ := open_int Try.underlying3 (hval 2 3 v2 rfl rfl) h2
  clear hA0 hval0 hsz0 hsz
  refine (lawTicks_calls l a0 cap0 a1 a2 W hC hcap hfit hwf w1).mono fun e W' ⟨he, bel⟩ => ?_
  subst he
  exact ⟨_, rfl, _, _, _, [], _, [], hW', trodAll_mk1 (shut_bool Try.underlying4 _), (trodAll_cons_mk (Below.trod laidOut (by kernel_rfl) (of_decide_eq_true (by kernel_rfl)) k0 bel lt0) (trodAll_cons_mk (shut_int Try.underlying3 w1) (trodAll_cons_mk (shut_int Try.underlying3 w2) trodAll_mk0))), rfl, bel.frame _, fun h => by cases h⟩
theorem over : Rows.snapTicksRow.holds Try.pinned (OpenSpec.ofChange Rows.snapTicksSpec) :=
  OpenClaim.holds_of_wide 7 Try.f7 rfl rfl rfl rfl rfl rfl rfl ⟨rfl, rfl, rfl, rfl, rfl⟩ rfl rfl rfl rfl rfl (by kernel_rfl) Try.func7 (by kernel_rfl)
    (of_decide_eq_true (by kernel_rfl)) (by unfold Func.isWrapper; first | (rw [if_pos (by decide +kernel)]; kernel_rfl) | (rw [if_neg (by decide +kernel)]; exact ⟨rfl, rfl⟩))
    (fun os started H enc _ => lifted os started H enc)
theorem proved : Rows.SnapTicksSaid := over
end Go.Proofs.Ytjkepojmceffkaa.snapTicks
namespace Go.Proofs.Ytjkepojmceffkaa
theorem snapTicks_holds : Rows.SnapTicksSaid := snapTicks.proved
end Go.Proofs.Ytjkepojmceffkaa
