/- Part of the proof of the law Sp. Its words and prints are cut from what the kit printed for this claim. -/
import Derived.Test.YtjkepojmceffkaaSp3
set_option linter.unusedVariables false
set_option linter.unusedSimpArgs false
namespace Go.Proofs.Ytjkepojmceffkaa.R
open Go.RowKit Go.Proofs.YtjkepojmceffkaaW.PrintWords Go.Proofs.YtjkepojmceffkaaW.PrintLast Go.Proofs.YtjkepojmceffkaaW.PrintMore
attribute [local go_sem] max2_int min2_int max_two min_two max_three min_three max_four min_four   -- for this text's walks alone
attribute [local go_sem high] eqA59
def rescindref27_SameCopies.l0 : Nat → List (S108) → List (S108) → Int → Option (Bool)
  | 0, _, _, _ => none
  | k + 1, x0, x1, x5 => if x5 < (x0.length : Int) then (if 0 ≤ x5 then (if x5 < (x1.length : Int) then (if ((rd_T108 x0 x5).f1) = ((rd_T108 x1 x5).f1) then ((rescindref06_Same.f k ((rd_T108 x0 x5).f0) ((rd_T108 x1 x5).f0)).bind fun t436 => (if t436 = true then (rescindref27_SameCopies.l0 k x0 x1 (wrap64 (x5 + 1))) else (some false))) else (some false)) else (none)) else (none)) else (some true)
def rescindref27_SameCopies.f (k : Nat) (l0 : List (S108)) (l1 : List (S108)) : Option (Bool) := if (l0.length : Int) = (l1.length : Int) then (rescindref27_SameCopies.l0 k l0 l1 0) else (some false)
theorem rescindref27_SameCopies.mono_l : ∀ k, (∀ y0 y1 y2, LeO (rescindref27_SameCopies.l0 k y0 y1 y2) (rescindref27_SameCopies.l0 (k + 1) y0 y1 y2))
  | 0 => fun _ _ _ r h => by simp [rescindref27_SameCopies.l0] at h
  | k + 1 => by
    have ih0 := rescindref27_SameCopies.mono_l k
    · intro y0 y1 y2
      unfold rescindref27_SameCopies.l0
      repeat' first
      | (with_reducible exact ih0 _ _ _)
      | (with_reducible exact rescindref06_Same.mono _ _ _)
      | (with_reducible exact LeO.refl _)
      | (with_reducible exact LeO.none _)
      | (with_reducible refine LeO.ite ?_ ?_)
      | (with_reducible refine LeO.bind ?_ (fun _ => ?_))
      | exact ih0 _ _ _
      | exact rescindref06_Same.mono _ _ _
      | exact LeO.none _
      | refine LeO.ite ?_ ?_
      | refine LeO.bind ?_ (fun _ => ?_)
theorem rescindref27_SameCopies.mono : ∀ a0 a1 k, LeO (rescindref27_SameCopies.f k a0 a1) (rescindref27_SameCopies.f (k + 1) a0 a1) := by
  intro a0 a1 k
  have ih0 := rescindref27_SameCopies.mono_l k
  unfold rescindref27_SameCopies.f
  repeat' first
      | (with_reducible exact ih0 _ _ _)
      | (with_reducible exact rescindref06_Same.mono _ _ _)
      | (with_reducible exact LeO.refl _)
      | (with_reducible exact LeO.none _)
      | (with_reducible refine LeO.ite ?_ ?_)
      | (with_reducible refine LeO.bind ?_ (fun _ => ?_))
      | exact ih0 _ _ _
      | exact rescindref06_Same.mono _ _ _
      | exact LeO.none _
      | refine LeO.ite ?_ ?_
      | refine LeO.bind ?_ (fun _ => ?_)
set_option maxHeartbeats 8000000 in
set_option maxRecDepth 100000 in
theorem rescindref27_SameCopies.calls (k : Nat) (A0 : Option Addr) (c0 : Nat) (l0 : List (S108)) (A1 : Option Addr) (c1 : Nat) (l1 : List (S108)) (r : Bool) (w : World) (hr0 : Kd.C k108 w A0 l0.length l0) (hc0 : l0.length ≤ c0) (hr1 : Kd.C k108 w A1 l1.length l1) (hc1 : l1.length ≤ c1) (h : rescindref27_SameCopies.f k l0 l1 = some r) :
    Calls Try.prog 32 #[.slice A0 l0.length c0, .slice A1 l1.length c1] w fun e w' => e = .returned (.bool r) ∧ Drawn0 w w' := by
  have HR0 := Aside0.mk hr0
  have HC0 := Aside0.mk hc0
  clear hr0 hc0
  have HR1 := Aside0.mk hr1
  have HC1 := Aside0.mk hc1
  clear hr1 hc1
  have H : (if (l0.length : Int) = (l1.length : Int) then (rescindref27_SameCopies.l0 k l0 l1 0) else (some false)) = some r := h
  clear h
  by_cases c3 : (l0.length : Int) = (l1.length : Int)
  · rw [if_pos c3] at H
    have c3b0 : ((l0.length : Int) == (l1.length : Int)) = true := beq_iff_eq.mpr c3
    have c3b1 : ((l0.length : Int) != (l1.length : Int)) = false := bne_eq_false_iff_eq.mpr c3
    have c3b2 : (l0.length == l1.length) = true := by first | simpa using c3 | (simp at c3 ⊢; omega)
    clear c3
    have H' := Aside0.mk H
    clear H
    go_enter Try.func32, Try.ntmps32
    go_wp2
    repeat (go_quiet (fail); try go_wp2)
    go_loopg [5] k (fun kq v5 w' => ∃ (x5_1 : Int), v5 = .int .i64 x5_1 ∧ Aside0 (rescindref27_SameCopies.l0 kq l0 l1 x5_1 = some r) ∧ Aside0 (kq ≤ k) ∧ Drawn0 w w')
    case atStart => exact ⟨(0), (by first | rfl | (simp; done) | (simp [*]; done)), H', ⟨Nat.le_refl _⟩, by repeat (first | exact Drawn0.refl _ | apply Drawn0.step)⟩
    case round =>
      clear H'
      try clear c1
      try clear p2
      try clear c3
      try clear c3b0
      try clear c3b1
      try clear c3b2
      obtain ⟨x5_1, rfl, HA, HK1, ⟨m1, rfl⟩⟩ := hrel
      cases gk with
      | zero => exact absurd HA.out (by simp [rescindref27_SameCopies.l0])
      | succ k1 =>
        have H := HA.out
        clear HA
        simp only [rescindref27_SameCopies.l0] at H
        by_cases c4 : x5_1 < (l0.length : Int)
        · rw [if_pos c4] at H
          have c4b0 : decide (x5_1 < (l0.length : Int)) = true := decide_eq_true c4
          clear c4
          by_cases c5 : 0 ≤ x5_1
          · rw [if_pos c5] at H
            have c5b0 : decide (0 ≤ x5_1) = true := decide_eq_true c5
            clear c5
            by_cases c6 : x5_1 < (l1.length : Int)
            · rw [if_pos c6] at H
              have c6b0 : decide (x5_1 < (l1.length : Int)) = true := decide_eq_true c6
              clear c6
              by_cases c7 : ((rd_T108 l0 x5_1).f1) = ((rd_T108 l1 x5_1).f1)
              · rw [if_pos c7] at H
                have c7b0 : (((rd_T108 l0 x5_1).f1) == ((rd_T108 l1 x5_1).f1)) = true := beq_iff_eq.mpr c7
                have c7b1 : (((rd_T108 l0 x5_1).f1) != ((rd_T108 l1 x5_1).f1)) = false := bne_eq_false_iff_eq.mpr c7
                clear c7
                replace H := Option.bind_eq_some_iff.mp H
                obtain ⟨t436, A80, H⟩ := H
                replace H : (if t436 = true then (rescindref27_SameCopies.l0 k1 l0 l1 (wrap64 (x5_1 + 1))) else (some false)) = some r := H
                have A8 := Aside0.mk A80
                clear A80
                by_cases c9 : t436 = true
                · subst c9
                  have H1 : (rescindref27_SameCopies.l0 k1 l0 l1 (wrap64 (x5_1 + 1))) = some r := by rw [if_pos rfl] at H; exact H
                  clear H
                  have H := H1
                  clear H1
                  have H' := Aside0.mk H
                  clear H
                  have p432 : 0 ≤ (x5_1 : Int) := of_decide_eq_true (by first | (with_reducible assumption) | assumption)
                  have q432 : x5_1 < (l0.length : Int) := of_decide_eq_true (by first | (with_reducible assumption) | assumption)
                  obtain ⟨ad432, A432_0, c432_0, e432, hx432_0, hx432_1, hl432_0, hi432_0⟩ := at_T108 HR0.out x5_1 p432 q432
                  cases e432
                  have HR432_0 := Aside0.mk hi432_0
                  have HC432_0 := Aside0.mk hl432_0
                  clear hi432_0 hl432_0
                  replace p432 := eq_true p432
                  replace q432 := eq_true q432
                  have p433 : 0 ≤ (x5_1 : Int) := of_decide_eq_true (by first | (with_reducible assumption) | assumption)
                  have q433 : x5_1 < (l1.length : Int) := of_decide_eq_true (by first | (with_reducible assumption) | assumption)
                  obtain ⟨ad433, A433_0, c433_0, e433, hx433_0, hx433_1, hl433_0, hi433_0⟩ := at_T108 HR1.out x5_1 p433 q433
                  cases e433
                  have HR433_0 := Aside0.mk hi433_0
                  have HC433_0 := Aside0.mk hl433_0
                  clear hi433_0 hl433_0
                  replace p433 := eq_true p433
                  replace q433 := eq_true q433
                  have p434 : 0 ≤ (x5_1 : Int) := of_decide_eq_true (by first | (with_reducible assumption) | assumption)
                  have q434 : x5_1 < (l0.length : Int) := of_decide_eq_true (by first | (with_reducible assumption) | assumption)
                  obtain ⟨ad434, A434_0, c434_0, e434, hx434_0, hx434_1, hl434_0, hi434_0⟩ := at_T108 HR0.out x5_1 p434 q434
                  obtain rfl : ad432 = ad434 := (by injection e434)
                  have HR434_0 := Aside0.mk hi434_0
                  have HC434_0 := Aside0.mk hl434_0
                  clear hi434_0 hl434_0
                  replace p434 := eq_true p434
                  replace q434 := eq_true q434
                  have ea_ := Option.some.inj (hx432_0.symm.trans hx434_0)
                  injection ea_ with ea_ en_ ec_
                  subst ea_
                  subst ec_
                  clear en_
                  have p435 : 0 ≤ (x5_1 : Int) := of_decide_eq_true (by first | (with_reducible assumption) | assumption)
                  have q435 : x5_1 < (l1.length : Int) := of_decide_eq_true (by first | (with_reducible assumption) | assumption)
                  obtain ⟨ad435, A435_0, c435_0, e435, hx435_0, hx435_1, hl435_0, hi435_0⟩ := at_T108 HR1.out x5_1 p435 q435
                  obtain rfl : ad433 = ad435 := (by injection e435)
                  have HR435_0 := Aside0.mk hi435_0
                  have HC435_0 := Aside0.mk hl435_0
                  clear hi435_0 hl435_0
                  replace p435 := eq_true p435
                  replace q435 := eq_true q435
                  have ea_ := Option.some.inj (hx433_0.symm.trans hx435_0)
                  injection ea_ with ea_ en_ ec_
                  subst ea_
                  subst ec_
                  clear en_
                  go_wp2_with (first | (go_at_call 55; (with_reducible refine (rescindref06_Same.calls k1 _ _ ((rd_T108 l0 x5_1).f0) _ _ ((rd_T108 l1 x5_1).f0) true _ ?side1 ?side2 ?side3 ?side4 A8.out).mono ?_); (case side1 => repeat (first | exact HR434_0.out | (with_reducible refine Kd.C_alloc ?_ _) | (with_reducible refine Kd.C_drewN ?_ _) | (with_reducible refine Kd.C_drew ?_))); (case side2 => exact HC434_0.out); (case side3 => repeat (first | exact HR435_0.out | (with_reducible refine Kd.C_alloc ?_ _) | (with_reducible refine Kd.C_drewN ?_ _) | (with_reducible refine Kd.C_drew ?_))); (case side4 => exact HC435_0.out); rintro e w' ⟨rfl, ⟨nd, rfl⟩⟩; (try first | exact ⟨rfl, _, World.drewN_drewN _ _ _⟩ | exact ⟨rfl, _, Eq.trans (World.drewN_drewN _ _ _) (congrArg (World.drewN _) (Nat.add_assoc _ _ _))⟩)))
                  repeat (go_quiet (first | (go_at_call 55; (with_reducible refine (rescindref06_Same.calls k1 _ _ ((rd_T108 l0 x5_1).f0) _ _ ((rd_T108 l1 x5_1).f0) true _ ?side1 ?side2 ?side3 ?side4 A8.out).mono ?_); (case side1 => repeat (first | exact HR434_0.out | (with_reducible refine Kd.C_alloc ?_ _) | (with_reducible refine Kd.C_drewN ?_ _) | (with_reducible refine Kd.C_drew ?_))); (case side2 => exact HC434_0.out); (case side3 => repeat (first | exact HR435_0.out | (with_reducible refine Kd.C_alloc ?_ _) | (with_reducible refine Kd.C_drewN ?_ _) | (with_reducible refine Kd.C_drew ?_))); (case side4 => exact HC435_0.out); rintro e w' ⟨rfl, ⟨nd, rfl⟩⟩; (try first | exact ⟨rfl, _, World.drewN_drewN _ _ _⟩ | exact ⟨rfl, _, Eq.trans (World.drewN_drewN _ _ _) (congrArg (World.drewN _) (Nat.add_assoc _ _ _))⟩))); try go_wp2_with (first | (go_at_call 55; (with_reducible refine (rescindref06_Same.calls k1 _ _ ((rd_T108 l0 x5_1).f0) _ _ ((rd_T108 l1 x5_1).f0) true _ ?side1 ?side2 ?side3 ?side4 A8.out).mono ?_); (case side1 => repeat (first | exact HR434_0.out | (with_reducible refine Kd.C_alloc ?_ _) | (with_reducible refine Kd.C_drewN ?_ _) | (with_reducible refine Kd.C_drew ?_))); (case side2 => exact HC434_0.out); (case side3 => repeat (first | exact HR435_0.out | (with_reducible refine Kd.C_alloc ?_ _) | (with_reducible refine Kd.C_drewN ?_ _) | (with_reducible refine Kd.C_drew ?_))); (case side4 => exact HC435_0.out); rintro e w' ⟨rfl, ⟨nd, rfl⟩⟩; (try first | exact ⟨rfl, _, World.drewN_drewN _ _ _⟩ | exact ⟨rfl, _, Eq.trans (World.drewN_drewN _ _ _) (congrArg (World.drewN _) (Nat.add_assoc _ _ _))⟩))))
                  go_roundg k1
                  case measure => have := HK1.out; omega
                  case rel => exact ⟨(wrap64 (x5_1 + 1)), (by first | rfl | (simp; done) | (simp [*]; done)), H', ⟨by have := HK1.out; omega⟩, by repeat (first | exact Drawn0.refl _ | apply Drawn0.step)⟩
                · replace c9 := Bool.eq_false_iff.mpr c9
                  subst c9
                  have H1 : (some false) = some r := by rw [if_neg (show ¬ (false = true) by decide)] at H; exact H
                  clear H
                  have H := H1
                  clear H1
                  obtain rfl := Option.some.inj H
                  have p432 : 0 ≤ (x5_1 : Int) := of_decide_eq_true (by first | (with_reducible assumption) | assumption)
                  have q432 : x5_1 < (l0.length : Int) := of_decide_eq_true (by first | (with_reducible assumption) | assumption)
                  obtain ⟨ad432, A432_0, c432_0, e432, hx432_0, hx432_1, hl432_0, hi432_0⟩ := at_T108 HR0.out x5_1 p432 q432
                  cases e432
                  have HR432_0 := Aside0.mk hi432_0
                  have HC432_0 := Aside0.mk hl432_0
                  clear hi432_0 hl432_0
                  replace p432 := eq_true p432
                  replace q432 := eq_true q432
                  have p433 : 0 ≤ (x5_1 : Int) := of_decide_eq_true (by first | (with_reducible assumption) | assumption)
                  have q433 : x5_1 < (l1.length : Int) := of_decide_eq_true (by first | (with_reducible assumption) | assumption)
                  obtain ⟨ad433, A433_0, c433_0, e433, hx433_0, hx433_1, hl433_0, hi433_0⟩ := at_T108 HR1.out x5_1 p433 q433
                  cases e433
                  have HR433_0 := Aside0.mk hi433_0
                  have HC433_0 := Aside0.mk hl433_0
                  clear hi433_0 hl433_0
                  replace p433 := eq_true p433
                  replace q433 := eq_true q433
                  have p434 : 0 ≤ (x5_1 : Int) := of_decide_eq_true (by first | (with_reducible assumption) | assumption)
                  have q434 : x5_1 < (l0.length : Int) := of_decide_eq_true (by first | (with_reducible assumption) | assumption)
                  obtain ⟨ad434, A434_0, c434_0, e434, hx434_0, hx434_1, hl434_0, hi434_0⟩ := at_T108 HR0.out x5_1 p434 q434
                  obtain rfl : ad432 = ad434 := (by injection e434)
                  have HR434_0 := Aside0.mk hi434_0
                  have HC434_0 := Aside0.mk hl434_0
                  clear hi434_0 hl434_0
                  replace p434 := eq_true p434
                  replace q434 := eq_true q434
                  have ea_ := Option.some.inj (hx432_0.symm.trans hx434_0)
                  injection ea_ with ea_ en_ ec_
                  subst ea_
                  subst ec_
                  clear en_
                  have p435 : 0 ≤ (x5_1 : Int) := of_decide_eq_true (by first | (with_reducible assumption) | assumption)
                  have q435 : x5_1 < (l1.length : Int) := of_decide_eq_true (by first | (with_reducible assumption) | assumption)
                  obtain ⟨ad435, A435_0, c435_0, e435, hx435_0, hx435_1, hl435_0, hi435_0⟩ := at_T108 HR1.out x5_1 p435 q435
                  obtain rfl : ad433 = ad435 := (by injection e435)
                  have HR435_0 := Aside0.mk hi435_0
                  have HC435_0 := Aside0.mk hl435_0
                  clear hi435_0 hl435_0
                  replace p435 := eq_true p435
                  replace q435 := eq_true q435
                  have ea_ := Option.some.inj (hx433_0.symm.trans hx435_0)
                  injection ea_ with ea_ en_ ec_
                  subst ea_
                  subst ec_
                  clear en_
                  go_wp2_with (first | (go_at_call 55; (with_reducible refine (rescindref06_Same.calls k1 _ _ ((rd_T108 l0 x5_1).f0) _ _ ((rd_T108 l1 x5_1).f0) false _ ?side1 ?side2 ?side3 ?side4 A8.out).mono ?_); (case side1 => repeat (first | exact HR434_0.out | (with_reducible refine Kd.C_alloc ?_ _) | (with_reducible refine Kd.C_drewN ?_ _) | (with_reducible refine Kd.C_drew ?_))); (case side2 => exact HC434_0.out); (case side3 => repeat (first | exact HR435_0.out | (with_reducible refine Kd.C_alloc ?_ _) | (with_reducible refine Kd.C_drewN ?_ _) | (with_reducible refine Kd.C_drew ?_))); (case side4 => exact HC435_0.out); rintro e w' ⟨rfl, ⟨nd, rfl⟩⟩; (try first | exact ⟨rfl, _, World.drewN_drewN _ _ _⟩ | exact ⟨rfl, _, Eq.trans (World.drewN_drewN _ _ _) (congrArg (World.drewN _) (Nat.add_assoc _ _ _))⟩)))
                  repeat (go_quiet (first | (go_at_call 55; (with_reducible refine (rescindref06_Same.calls k1 _ _ ((rd_T108 l0 x5_1).f0) _ _ ((rd_T108 l1 x5_1).f0) false _ ?side1 ?side2 ?side3 ?side4 A8.out).mono ?_); (case side1 => repeat (first | exact HR434_0.out | (with_reducible refine Kd.C_alloc ?_ _) | (with_reducible refine Kd.C_drewN ?_ _) | (with_reducible refine Kd.C_drew ?_))); (case side2 => exact HC434_0.out); (case side3 => repeat (first | exact HR435_0.out | (with_reducible refine Kd.C_alloc ?_ _) | (with_reducible refine Kd.C_drewN ?_ _) | (with_reducible refine Kd.C_drew ?_))); (case side4 => exact HC435_0.out); rintro e w' ⟨rfl, ⟨nd, rfl⟩⟩; (try first | exact ⟨rfl, _, World.drewN_drewN _ _ _⟩ | exact ⟨rfl, _, Eq.trans (World.drewN_drewN _ _ _) (congrArg (World.drewN _) (Nat.add_assoc _ _ _))⟩))); try go_wp2_with (first | (go_at_call 55; (with_reducible refine (rescindref06_Same.calls k1 _ _ ((rd_T108 l0 x5_1).f0) _ _ ((rd_T108 l1 x5_1).f0) false _ ?side1 ?side2 ?side3 ?side4 A8.out).mono ?_); (case side1 => repeat (first | exact HR434_0.out | (with_reducible refine Kd.C_alloc ?_ _) | (with_reducible refine Kd.C_drewN ?_ _) | (with_reducible refine Kd.C_drew ?_))); (case side2 => exact HC434_0.out); (case side3 => repeat (first | exact HR435_0.out | (with_reducible refine Kd.C_alloc ?_ _) | (with_reducible refine Kd.C_drewN ?_ _) | (with_reducible refine Kd.C_drew ?_))); (case side4 => exact HC435_0.out); rintro e w' ⟨rfl, ⟨nd, rfl⟩⟩; (try first | exact ⟨rfl, _, World.drewN_drewN _ _ _⟩ | exact ⟨rfl, _, Eq.trans (World.drewN_drewN _ _ _) (congrArg (World.drewN _) (Nat.add_assoc _ _ _))⟩))))
                  go_ret
                  exact ⟨by first | rfl | (simp; done) | (simp [*]; done), by repeat (first | exact Drawn0.refl _ | apply Drawn0.step)⟩
              · rw [if_neg c7] at H
                have c7b0 : (((rd_T108 l0 x5_1).f1) == ((rd_T108 l1 x5_1).f1)) = false := beq_eq_false_iff_ne.mpr c7
                have c7b1 : (((rd_T108 l0 x5_1).f1) != ((rd_T108 l1 x5_1).f1)) = true := bne_iff_ne.mpr c7
                obtain rfl := Option.some.inj H
                have p432 : 0 ≤ (x5_1 : Int) := of_decide_eq_true (by first | (with_reducible assumption) | assumption)
                have q432 : x5_1 < (l0.length : Int) := of_decide_eq_true (by first | (with_reducible assumption) | assumption)
                obtain ⟨ad432, A432_0, c432_0, e432, hx432_0, hx432_1, hl432_0, hi432_0⟩ := at_T108 HR0.out x5_1 p432 q432
                cases e432
                have HR432_0 := Aside0.mk hi432_0
                have HC432_0 := Aside0.mk hl432_0
                clear hi432_0 hl432_0
                replace p432 := eq_true p432
                replace q432 := eq_true q432
                have p433 : 0 ≤ (x5_1 : Int) := of_decide_eq_true (by first | (with_reducible assumption) | assumption)
                have q433 : x5_1 < (l1.length : Int) := of_decide_eq_true (by first | (with_reducible assumption) | assumption)
                obtain ⟨ad433, A433_0, c433_0, e433, hx433_0, hx433_1, hl433_0, hi433_0⟩ := at_T108 HR1.out x5_1 p433 q433
                cases e433
                have HR433_0 := Aside0.mk hi433_0
                have HC433_0 := Aside0.mk hl433_0
                clear hi433_0 hl433_0
                replace p433 := eq_true p433
                replace q433 := eq_true q433
                go_wp2
                repeat (go_quiet (fail); try go_wp2)
                go_ret
                exact ⟨by first | rfl | (simp; done) | (simp [*]; done), by repeat (first | exact Drawn0.refl _ | apply Drawn0.step)⟩
            · rw [if_neg c6] at H
              exact absurd H (by simp)
          · rw [if_neg c5] at H
            exact absurd H (by simp)
        · rw [if_neg c4] at H
          have c4b0 : decide (x5_1 < (l0.length : Int)) = false := decide_eq_false c4
          clear c4
          obtain rfl := Option.some.inj H
          go_wp2
          repeat (go_quiet (fail); try go_wp2)
          go_ret
          exact ⟨by first | rfl | (simp; done) | (simp [*]; done), by repeat (first | exact Drawn0.refl _ | apply Drawn0.step)⟩
  · rw [if_neg c3] at H
    have c3b0 : ((l0.length : Int) == (l1.length : Int)) = false := beq_eq_false_iff_ne.mpr c3
    have c3b1 : ((l0.length : Int) != (l1.length : Int)) = true := bne_iff_ne.mpr c3
    have c3b2 : (l0.length == l1.length) = false := by first | simpa using c3 | (simp at c3 ⊢; omega)
    obtain rfl := Option.some.inj H
    go_enter Try.func32, Try.ntmps32
    go_wp2
    repeat (go_quiet (fail); try go_wp2)
    go_ret
    exact ⟨by first | rfl | (simp; done) | (simp [*]; done), by repeat (first | exact Drawn0.refl _ | apply Drawn0.step)⟩
def rescindref27_Same.l0 : Nat → List (S61) → List (S61) → Int → Option (Bool)
  | 0, _, _, _ => none
  | k + 1, x0, x1, x5 => if x5 < (x0.length : Int) then (if 0 ≤ x5 then (if x5 < (x1.length : Int) then (if (!(((rd_T61 x0 x5).f0.f0) == ((rd_T61 x1 x5).f0.f0)) || (!(((rd_T61 x0 x5).f0.f1) == ((rd_T61 x1 x5).f0.f1)))) = true then (some false) else ((rescindref27_SameCopies.f k ((rd_T61 x0 x5).f1) ((rd_T61 x1 x5).f1)).bind fun t441 => (if t441 = true then (rescindref27_Same.l0 k x0 x1 (wrap64 (x5 + 1))) else (some false)))) else (none)) else (none)) else (some true)
def rescindref27_Same.f (k : Nat) (l0 : List (S61)) (l1 : List (S61)) : Option (Bool) := if (l0.length : Int) = (l1.length : Int) then (rescindref27_Same.l0 k l0 l1 0) else (some false)
set_option maxHeartbeats 8000000 in
set_option maxRecDepth 100000 in
theorem rescindref27_Same.calls (k : Nat) (A0 : Option Addr) (c0 : Nat) (l0 : List (S61)) (A1 : Option Addr) (c1 : Nat) (l1 : List (S61)) (r : Bool) (w : World) (hr0 : Kd.C k61 w A0 l0.length l0) (hc0 : l0.length ≤ c0) (hr1 : Kd.C k61 w A1 l1.length l1) (hc1 : l1.length ≤ c1) (h : rescindref27_Same.f k l0 l1 = some r) :
    Calls Try.prog 31 #[.slice A0 l0.length c0, .slice A1 l1.length c1] w fun e w' => e = .returned (.bool r) ∧ Drawn0 w w' := by
  have hu59 := Try.underlying59
  have HR0 := Aside0.mk hr0
  have HC0 := Aside0.mk hc0
  clear hr0 hc0
  have HR1 := Aside0.mk hr1
  have HC1 := Aside0.mk hc1
  clear hr1 hc1
  have H : (if (l0.length : Int) = (l1.length : Int) then (rescindref27_Same.l0 k l0 l1 0) else (some false)) = some r := h
  clear h
  by_cases c3 : (l0.length : Int) = (l1.length : Int)
  · rw [if_pos c3] at H
    have c3b0 : ((l0.length : Int) == (l1.length : Int)) = true := beq_iff_eq.mpr c3
    have c3b1 : ((l0.length : Int) != (l1.length : Int)) = false := bne_eq_false_iff_eq.mpr c3
    have c3b2 : (l0.length == l1.length) = true := by first | simpa using c3 | (simp at c3 ⊢; omega)
    clear c3
    have H' := Aside0.mk H
    clear H
    go_enter Try.func31, Try.ntmps31
    go_wp2
    repeat (go_quiet (fail); try go_wp2)
    go_loopg [5] k (fun kq v5 w' => ∃ (x5_1 : Int), v5 = .int .i64 x5_1 ∧ Aside0 (rescindref27_Same.l0 kq l0 l1 x5_1 = some r) ∧ Aside0 (kq ≤ k) ∧ Drawn0 w w')
    case atStart => exact ⟨(0), (by first | rfl | (simp; done) | (simp [*]; done)), H', ⟨Nat.le_refl _⟩, by repeat (first | exact Drawn0.refl _ | apply Drawn0.step)⟩
    case round =>
      clear H'
      try clear c1
      try clear p2
      try clear c3
      try clear c3b0
      try clear c3b1
      try clear c3b2
      obtain ⟨x5_1, rfl, HA, HK1, ⟨m1, rfl⟩⟩ := hrel
      cases gk with
      | zero => exact absurd HA.out (by simp [rescindref27_Same.l0])
      | succ k1 =>
        have H := HA.out
        clear HA
        simp only [rescindref27_Same.l0] at H
        by_cases c4 : x5_1 < (l0.length : Int)
        · rw [if_pos c4] at H
          have c4b0 : decide (x5_1 < (l0.length : Int)) = true := decide_eq_true c4
          clear c4
          by_cases c5 : 0 ≤ x5_1
          · rw [if_pos c5] at H
            have c5b0 : decide (0 ≤ x5_1) = true := decide_eq_true c5
            clear c5
            by_cases c6 : x5_1 < (l1.length : Int)
            · rw [if_pos c6] at H
              have c6b0 : decide (x5_1 < (l1.length : Int)) = true := decide_eq_true c6
              clear c6
              by_cases c7 : (!(((rd_T61 l0 x5_1).f0.f0) == ((rd_T61 l1 x5_1).f0.f0)) || (!(((rd_T61 l0 x5_1).f0.f1) == ((rd_T61 l1 x5_1).f0.f1)))) = true
              · rw [if_pos c7] at H
                have c7b0 : (!(((rd_T61 l0 x5_1).f0.f0) == ((rd_T61 l1 x5_1).f0.f0)) || (!(((rd_T61 l0 x5_1).f0.f1) == ((rd_T61 l1 x5_1).f0.f1)))) = true := c7
                clear c7
                obtain rfl := Option.some.inj H
                have p437 : 0 ≤ (x5_1 : Int) := of_decide_eq_true (by first | (with_reducible assumption) | assumption)
                have q437 : x5_1 < (l0.length : Int) := of_decide_eq_true (by first | (with_reducible assumption) | assumption)
                obtain ⟨ad437, A437_2, c437_2, e437, hx437_0, hx437_1, hx437_2, hl437_2, hi437_2⟩ := at_T61 HR0.out x5_1 p437 q437
                cases e437
                have HR437_2 := Aside0.mk hi437_2
                have HC437_2 := Aside0.mk hl437_2
                clear hi437_2 hl437_2
                replace p437 := eq_true p437
                replace q437 := eq_true q437
                have p438 : 0 ≤ (x5_1 : Int) := of_decide_eq_true (by first | (with_reducible assumption) | assumption)
                have q438 : x5_1 < (l1.length : Int) := of_decide_eq_true (by first | (with_reducible assumption) | assumption)
                obtain ⟨ad438, A438_2, c438_2, e438, hx438_0, hx438_1, hx438_2, hl438_2, hi438_2⟩ := at_T61 HR1.out x5_1 p438 q438
                cases e438
                have HR438_2 := Aside0.mk hi438_2
                have HC438_2 := Aside0.mk hl438_2
                clear hi438_2 hl438_2
                replace p438 := eq_true p438
                replace q438 := eq_true q438
                go_wp2
                repeat (go_quiet (fail); try go_wp2)
                go_ret
                exact ⟨by first | rfl | (simp; done) | (simp [*]; done), by repeat (first | exact Drawn0.refl _ | apply Drawn0.step)⟩
              · rw [if_neg c7] at H
                have c7b0 : (!(((rd_T61 l0 x5_1).f0.f0) == ((rd_T61 l1 x5_1).f0.f0)) || (!(((rd_T61 l0 x5_1).f0.f1) == ((rd_T61 l1 x5_1).f0.f1)))) = false := by simpa using c7
                clear c7
                replace H := Option.bind_eq_some_iff.mp H
                obtain ⟨t441, A80, H⟩ := H
                replace H : (if t441 = true then (rescindref27_Same.l0 k1 l0 l1 (wrap64 (x5_1 + 1))) else (some false)) = some r := H
                have A8 := Aside0.mk A80
                clear A80
                by_cases c9 : t441 = true
                · subst c9
                  have H1 : (rescindref27_Same.l0 k1 l0 l1 (wrap64 (x5_1 + 1))) = some r := by rw [if_pos rfl] at H; exact H
                  clear H
                  have H := H1
                  clear H1
                  have H' := Aside0.mk H
                  clear H
                  have p437 : 0 ≤ (x5_1 : Int) := of_decide_eq_true (by first | (with_reducible assumption) | assumption)
                  have q437 : x5_1 < (l0.length : Int) := of_decide_eq_true (by first | (with_reducible assumption) | assumption)
                  obtain ⟨ad437, A437_2, c437_2, e437, hx437_0, hx437_1, hx437_2, hl437_2, hi437_2⟩ := at_T61 HR0.out x5_1 p437 q437
                  cases e437
                  have HR437_2 := Aside0.mk hi437_2
                  have HC437_2 := Aside0.mk hl437_2
                  clear hi437_2 hl437_2
                  replace p437 := eq_true p437
                  replace q437 := eq_true q437
                  have p438 : 0 ≤ (x5_1 : Int) := of_decide_eq_true (by first | (with_reducible assumption) | assumption)
                  have q438 : x5_1 < (l1.length : Int) := of_decide_eq_true (by first | (with_reducible assumption) | assumption)
                  obtain ⟨ad438, A438_2, c438_2, e438, hx438_0, hx438_1, hx438_2, hl438_2, hi438_2⟩ := at_T61 HR1.out x5_1 p438 q438
                  cases e438
                  have HR438_2 := Aside0.mk hi438_2
                  have HC438_2 := Aside0.mk hl438_2
                  clear hi438_2 hl438_2
                  replace p438 := eq_true p438
                  replace q438 := eq_true q438
                  have p439 : 0 ≤ (x5_1 : Int) := of_decide_eq_true (by first | (with_reducible assumption) | assumption)
                  have q439 : x5_1 < (l0.length : Int) := of_decide_eq_true (by first | (with_reducible assumption) | assumption)
                  obtain ⟨ad439, A439_2, c439_2, e439, hx439_0, hx439_1, hx439_2, hl439_2, hi439_2⟩ := at_T61 HR0.out x5_1 p439 q439
                  obtain rfl : ad437 = ad439 := (by injection e439)
                  have HR439_2 := Aside0.mk hi439_2
                  have HC439_2 := Aside0.mk hl439_2
                  clear hi439_2 hl439_2
                  replace p439 := eq_true p439
                  replace q439 := eq_true q439
                  have ea_ := Option.some.inj (hx437_2.symm.trans hx439_2)
                  injection ea_ with ea_ en_ ec_
                  subst ea_
                  subst ec_
                  clear en_
                  have p440 : 0 ≤ (x5_1 : Int) := of_decide_eq_true (by first | (with_reducible assumption) | assumption)
                  have q440 : x5_1 < (l1.length : Int) := of_decide_eq_true (by first | (with_reducible assumption) | assumption)
                  obtain ⟨ad440, A440_2, c440_2, e440, hx440_0, hx440_1, hx440_2, hl440_2, hi440_2⟩ := at_T61 HR1.out x5_1 p440 q440
                  obtain rfl : ad438 = ad440 := (by injection e440)
                  have HR440_2 := Aside0.mk hi440_2
                  have HC440_2 := Aside0.mk hl440_2
                  clear hi440_2 hl440_2
                  replace p440 := eq_true p440
                  replace q440 := eq_true q440
                  have ea_ := Option.some.inj (hx438_2.symm.trans hx440_2)
                  injection ea_ with ea_ en_ ec_
                  subst ea_
                  subst ec_
                  clear en_
                  go_wp2_with (first | (go_at_call 32; (with_reducible refine (rescindref27_SameCopies.calls k1 _ _ ((rd_T61 l0 x5_1).f1) _ _ ((rd_T61 l1 x5_1).f1) true _ ?side1 ?side2 ?side3 ?side4 A8.out).mono ?_); (case side1 => repeat (first | exact HR439_2.out | (with_reducible refine Kd.C_alloc ?_ _) | (with_reducible refine Kd.C_drewN ?_ _) | (with_reducible refine Kd.C_drew ?_))); (case side2 => exact HC439_2.out); (case side3 => repeat (first | exact HR440_2.out | (with_reducible refine Kd.C_alloc ?_ _) | (with_reducible refine Kd.C_drewN ?_ _) | (with_reducible refine Kd.C_drew ?_))); (case side4 => exact HC440_2.out); rintro e w' ⟨rfl, ⟨nd, rfl⟩⟩; (try first | exact ⟨rfl, _, World.drewN_drewN _ _ _⟩ | exact ⟨rfl, _, Eq.trans (World.drewN_drewN _ _ _) (congrArg (World.drewN _) (Nat.add_assoc _ _ _))⟩)))
                  repeat (go_quiet (first | (go_at_call 32; (with_reducible refine (rescindref27_SameCopies.calls k1 _ _ ((rd_T61 l0 x5_1).f1) _ _ ((rd_T61 l1 x5_1).f1) true _ ?side1 ?side2 ?side3 ?side4 A8.out).mono ?_); (case side1 => repeat (first | exact HR439_2.out | (with_reducible refine Kd.C_alloc ?_ _) | (with_reducible refine Kd.C_drewN ?_ _) | (with_reducible refine Kd.C_drew ?_))); (case side2 => exact HC439_2.out); (case side3 => repeat (first | exact HR440_2.out | (with_reducible refine Kd.C_alloc ?_ _) | (with_reducible refine Kd.C_drewN ?_ _) | (with_reducible refine Kd.C_drew ?_))); (case side4 => exact HC440_2.out); rintro e w' ⟨rfl, ⟨nd, rfl⟩⟩; (try first | exact ⟨rfl, _, World.drewN_drewN _ _ _⟩ | exact ⟨rfl, _, Eq.trans (World.drewN_drewN _ _ _) (congrArg (World.drewN _) (Nat.add_assoc _ _ _))⟩))); try go_wp2_with (first | (go_at_call 32; (with_reducible refine (rescindref27_SameCopies.calls k1 _ _ ((rd_T61 l0 x5_1).f1) _ _ ((rd_T61 l1 x5_1).f1) true _ ?side1 ?side2 ?side3 ?side4 A8.out).mono ?_); (case side1 => repeat (first | exact HR439_2.out | (with_reducible refine Kd.C_alloc ?_ _) | (with_reducible refine Kd.C_drewN ?_ _) | (with_reducible refine Kd.C_drew ?_))); (case side2 => exact HC439_2.out); (case side3 => repeat (first | exact HR440_2.out | (with_reducible refine Kd.C_alloc ?_ _) | (with_reducible refine Kd.C_drewN ?_ _) | (with_reducible refine Kd.C_drew ?_))); (case side4 => exact HC440_2.out); rintro e w' ⟨rfl, ⟨nd, rfl⟩⟩; (try first | exact ⟨rfl, _, World.drewN_drewN _ _ _⟩ | exact ⟨rfl, _, Eq.trans (World.drewN_drewN _ _ _) (congrArg (World.drewN _) (Nat.add_assoc _ _ _))⟩))))
                  go_roundg k1
                  case measure => have := HK1.out; omega
                  case rel => exact ⟨(wrap64 (x5_1 + 1)), (by first | rfl | (simp; done) | (simp [*]; done)), H', ⟨by have := HK1.out; omega⟩, by repeat (first | exact Drawn0.refl _ | apply Drawn0.step)⟩
                · replace c9 := Bool.eq_false_iff.mpr c9
                  subst c9
                  have H1 : (some false) = some r := by rw [if_neg (show ¬ (false = true) by decide)] at H; exact H
                  clear H
                  have H := H1
                  clear H1
                  obtain rfl := Option.some.inj H
                  have p437 : 0 ≤ (x5_1 : Int) := of_decide_eq_true (by first | (with_reducible assumption) | assumption)
                  have q437 : x5_1 < (l0.length : Int) := of_decide_eq_true (by first | (with_reducible assumption) | assumption)
                  obtain ⟨ad437, A437_2, c437_2, e437, hx437_0, hx437_1, hx437_2, hl437_2, hi437_2⟩ := at_T61 HR0.out x5_1 p437 q437
                  cases e437
                  have HR437_2 := Aside0.mk hi437_2
                  have HC437_2 := Aside0.mk hl437_2
                  clear hi437_2 hl437_2
                  replace p437 := eq_true p437
                  replace q437 := eq_true q437
                  have p438 : 0 ≤ (x5_1 : Int) := of_decide_eq_true (by first | (with_reducible assumption) | assumption)
                  have q438 : x5_1 < (l1.length : Int) := of_decide_eq_true (by first | (with_reducible assumption) | assumption)
                  obtain ⟨ad438, A438_2, c438_2, e438, hx438_0, hx438_1, hx438_2, hl438_2, hi438_2⟩ := at_T61 HR1.out x5_1 p438 q438
                  cases e438
                  have HR438_2 := Aside0.mk hi438_2
                  have HC438_2 := Aside0.mk hl438_2
                  clear hi438_2 hl438_2
                  replace p438 := eq_true p438
                  replace q438 := eq_true q438
                  have p439 : 0 ≤ (x5_1 : Int) := of_decide_eq_true (by first | (with_reducible assumption) | assumption)
                  have q439 : x5_1 < (l0.length : Int) := of_decide_eq_true (by first | (with_reducible assumption) | assumption)
                  obtain ⟨ad439, A439_2, c439_2, e439, hx439_0, hx439_1, hx439_2, hl439_2, hi439_2⟩ := at_T61 HR0.out x5_1 p439 q439
                  obtain rfl : ad437 = ad439 := (by injection e439)
                  have HR439_2 := Aside0.mk hi439_2
                  have HC439_2 := Aside0.mk hl439_2
                  clear hi439_2 hl439_2
                  replace p439 := eq_true p439
                  replace q439 := eq_true q439
                  have ea_ := Option.some.inj (hx437_2.symm.trans hx439_2)
                  injection ea_ with ea_ en_ ec_
                  subst ea_
                  subst ec_
                  clear en_
                  have p440 : 0 ≤ (x5_1 : Int) := of_decide_eq_true (by first | (with_reducible assumption) | assumption)
                  have q440 : x5_1 < (l1.length : Int) := of_decide_eq_true (by first | (with_reducible assumption) | assumption)
                  obtain ⟨ad440, A440_2, c440_2, e440, hx440_0, hx440_1, hx440_2, hl440_2, hi440_2⟩ := at_T61 HR1.out x5_1 p440 q440
                  obtain rfl : ad438 = ad440 := (by injection e440)
                  have HR440_2 := Aside0.mk hi440_2
                  have HC440_2 := Aside0.mk hl440_2
                  clear hi440_2 hl440_2
                  replace p440 := eq_true p440
                  replace q440 := eq_true q440
                  have ea_ := Option.some.inj (hx438_2.symm.trans hx440_2)
                  injection ea_ with ea_ en_ ec_
                  subst ea_
                  subst ec_
                  clear en_
                  go_wp2_with (first | (go_at_call 32; (with_reducible refine (rescindref27_SameCopies.calls k1 _ _ ((rd_T61 l0 x5_1).f1) _ _ ((rd_T61 l1 x5_1).f1) false _ ?side1 ?side2 ?side3 ?side4 A8.out).mono ?_); (case side1 => repeat (first | exact HR439_2.out | (with_reducible refine Kd.C_alloc ?_ _) | (with_reducible refine Kd.C_drewN ?_ _) | (with_reducible refine Kd.C_drew ?_))); (case side2 => exact HC439_2.out); (case side3 => repeat (first | exact HR440_2.out | (with_reducible refine Kd.C_alloc ?_ _) | (with_reducible refine Kd.C_drewN ?_ _) | (with_reducible refine Kd.C_drew ?_))); (case side4 => exact HC440_2.out); rintro e w' ⟨rfl, ⟨nd, rfl⟩⟩; (try first | exact ⟨rfl, _, World.drewN_drewN _ _ _⟩ | exact ⟨rfl, _, Eq.trans (World.drewN_drewN _ _ _) (congrArg (World.drewN _) (Nat.add_assoc _ _ _))⟩)))
                  repeat (go_quiet (first | (go_at_call 32; (with_reducible refine (rescindref27_SameCopies.calls k1 _ _ ((rd_T61 l0 x5_1).f1) _ _ ((rd_T61 l1 x5_1).f1) false _ ?side1 ?side2 ?side3 ?side4 A8.out).mono ?_); (case side1 => repeat (first | exact HR439_2.out | (with_reducible refine Kd.C_alloc ?_ _) | (with_reducible refine Kd.C_drewN ?_ _) | (with_reducible refine Kd.C_drew ?_))); (case side2 => exact HC439_2.out); (case side3 => repeat (first | exact HR440_2.out | (with_reducible refine Kd.C_alloc ?_ _) | (with_reducible refine Kd.C_drewN ?_ _) | (with_reducible refine Kd.C_drew ?_))); (case side4 => exact HC440_2.out); rintro e w' ⟨rfl, ⟨nd, rfl⟩⟩; (try first | exact ⟨rfl, _, World.drewN_drewN _ _ _⟩ | exact ⟨rfl, _, Eq.trans (World.drewN_drewN _ _ _) (congrArg (World.drewN _) (Nat.add_assoc _ _ _))⟩))); try go_wp2_with (first | (go_at_call 32; (with_reducible refine (rescindref27_SameCopies.calls k1 _ _ ((rd_T61 l0 x5_1).f1) _ _ ((rd_T61 l1 x5_1).f1) false _ ?side1 ?side2 ?side3 ?side4 A8.out).mono ?_); (case side1 => repeat (first | exact HR439_2.out | (with_reducible refine Kd.C_alloc ?_ _) | (with_reducible refine Kd.C_drewN ?_ _) | (with_reducible refine Kd.C_drew ?_))); (case side2 => exact HC439_2.out); (case side3 => repeat (first | exact HR440_2.out | (with_reducible refine Kd.C_alloc ?_ _) | (with_reducible refine Kd.C_drewN ?_ _) | (with_reducible refine Kd.C_drew ?_))); (case side4 => exact HC440_2.out); rintro e w' ⟨rfl, ⟨nd, rfl⟩⟩; (try first | exact ⟨rfl, _, World.drewN_drewN _ _ _⟩ | exact ⟨rfl, _, Eq.trans (World.drewN_drewN _ _ _) (congrArg (World.drewN _) (Nat.add_assoc _ _ _))⟩))))
                  go_ret
                  exact ⟨by first | rfl | (simp; done) | (simp [*]; done), by repeat (first | exact Drawn0.refl _ | apply Drawn0.step)⟩
            · rw [if_neg c6] at H
              exact absurd H (by simp)
          · rw [if_neg c5] at H
            exact absurd H (by simp)
        · rw [if_neg c4] at H
          have c4b0 : decide (x5_1 < (l0.length : Int)) = false := decide_eq_false c4
          clear c4
          obtain rfl := Option.some.inj H
          go_wp2
          repeat (go_quiet (fail); try go_wp2)
          go_ret
          exact ⟨by first | rfl | (simp; done) | (simp [*]; done), by repeat (first | exact Drawn0.refl _ | apply Drawn0.step)⟩
  · rw [if_neg c3] at H
    have c3b0 : ((l0.length : Int) == (l1.length : Int)) = false := beq_eq_false_iff_ne.mpr c3
    have c3b1 : ((l0.length : Int) != (l1.length : Int)) = true := bne_iff_ne.mpr c3
    have c3b2 : (l0.length == l1.length) = false := by first | simpa using c3 | (simp at c3 ⊢; omega)
    obtain rfl := Option.some.inj H
    go_enter Try.func31, Try.ntmps31
    go_wp2
    repeat (go_quiet (fail); try go_wp2)
    go_ret
    exact ⟨by first | rfl | (simp; done) | (simp [*]; done), by repeat (first | exact Drawn0.refl _ | apply Drawn0.step)⟩
end Go.Proofs.Ytjkepojmceffkaa.R
