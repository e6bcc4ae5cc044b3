/- Part of the proof of the law Sp. Its words and prints are cut from what the kit printed for this claim. -/
import Derived.Test.YtjkepojmceffkaaSp4
import Derived.BigGuardIn
import Derived.BigQuiet
import Derived.BigRegion
import Derived.ChangeAlike
import Derived.Deep.DeepCutAuto
import Derived.Deep.QuietTactic
import Derived.Deep.RegionHeld3
import Derived.Deep.RegionWith
import Derived.Ground.Names2Prog
import Derived.Lib.Bytealg
import Derived.Lib.Hide
import Derived.Lib.SlKeysI
import Derived.LoopIn
import Derived.LoopNIn
import Derived.Maps.OwnOps
import Derived.Maps.OwnSet
import Derived.Maps.RangeWalk
import Derived.Outline
import Derived.OwnWalk
import Derived.OwnWalkIn
import Derived.RangeFuncBound
import Derived.RangeFuncBox
import Derived.RangeFuncCalls
import Derived.RangeFuncLeaves
import Derived.RangeFuncNested
import Derived.RegionTactic
import Derived.Shelf.Abstract
import Derived.Shelf.Slices.In.SortNone
import Derived.Shelf.Slices.SearchI
import Derived.Shelf.Small.Bits
import Derived.Shelf.Small.Strs
import Derived.Shelf.Small.Wraps
import Derived.Shelf.Sort.Plain
import Derived.Shelf.Strconv.Itoa0
import Derived.StillTailTactics
import Derived.TacticsInMore
import Derived.Test.YtjkepojmceffkaaProg
import Derived.WalkSpells
set_option linter.unusedVariables false
set_option linter.unusedSimpArgs false
namespace Go.Proofs.Ytjkepojmceffkaa
open Go Go.RowKit Go.Proofs.YtjkepojmceffkaaW.PrintWords Go.Proofs.Ytjkepojmceffkaa.R
theorem bcell {W w1 : World} (hb : Below W.heap.size W w1) : (∀ b o, b < W.heap.size → w1.cell? ⟨b, o, none⟩ = W.cell? ⟨b, o, none⟩) ∧ (∀ b o, b < W.heap.size → w1.frozen? ⟨b, o, none⟩ = W.frozen? ⟨b, o, none⟩) :=
  ⟨fun b o h => hb.cell (p := ⟨b, o, none⟩) h, fun b o h => hb.frozen (p := ⟨b, o, none⟩) h⟩
def isNum (k : Int) (s : ByteArray) : Bool := k == 1 && s.toList.isEmpty
def isTxt (k n : Int) (s : ByteArray) : Bool := k == 2 && n == 0 && decide ((s.size : Int) ≤ 64)
def ofV (k n : Int) (s : ByteArray) : Value :=
  if isNum k s then .iface 144 (.int .i64 n) else if isTxt k n s then .iface 148 (.string s) else .nilIface
def okV (k n : Int) (s : ByteArray) : Bool := isNum k s || isTxt k n s
set_option maxHeartbeats 400000 in
theorem of_calls (k n : Int) (s : ByteArray) (w : World) :
    Calls Try.prog 105 #[.agg #[.int .i64 k, .int .i64 n, .string s]] w fun e w' => e = .returned (.tuple #[ofV k n s, .bool (okV k n s)]) ∧ Below w.heap.size w w' := by
  by_cases h1 : k = 1
  · subst h1
    have h12 : ((1 : Int) == 2) = false := rfl
    by_cases hs : s.toList.isEmpty = true
    · go_enter Try.func105, Try.ntmps105
      go_wp2
      go_ret2
      exact ⟨by simp [ofV, okV, isNum, hs], (Below.refl _ _).alloc (Nat.le_refl _) _⟩
    · have hs' : s.toList.isEmpty = false := by simpa using hs
      clear hs
      go_enter Try.func105, Try.ntmps105
      go_wp2
      go_ret2
      exact ⟨by simp [ofV, okV, isNum, isTxt, hs'], (Below.refl _ _).alloc (Nat.le_refl _) _⟩
  · have h1b : (k == 1) = false := by simpa using h1
    clear h1
    by_cases h2 : k = 2
    · subst h2
      by_cases hn : n = 0
      · subst hn
        by_cases hz : s.size ≤ 64
        · have hz' : decide ((s.size : Int) ≤ 64) = true := by simp; omega
          go_enter Try.func105, Try.ntmps105
          go_wp2
          go_ret2
          exact ⟨by simp [ofV, okV, isNum, isTxt]; omega, (Below.refl _ _).alloc (Nat.le_refl _) _⟩
        · have hz' : decide ((s.size : Int) ≤ 64) = false := by simp; omega
          go_enter Try.func105, Try.ntmps105
          go_wp2
          go_ret2
          exact ⟨by simp [ofV, okV, isNum, isTxt]; omega, (Below.refl _ _).alloc (Nat.le_refl _) _⟩
      · have hn' : (n == 0) = false := by simpa using hn
        clear hn
        go_enter Try.func105, Try.ntmps105
        go_wp2
        go_ret2
        exact ⟨by simp [ofV, okV, isNum, isTxt, hn'], (Below.refl _ _).alloc (Nat.le_refl _) _⟩
    · have h2b : (k == 2) = false := by simpa using h2
      clear h2
      go_enter Try.func105, Try.ntmps105
      go_wp2
      go_ret2
      exact ⟨by simp [ofV, okV, isNum, isTxt, h1b, h2b], (Below.refl _ _).alloc (Nat.le_refl _) _⟩
theorem vmay_calls (k n : Int) (s : ByteArray) (w : World) :
    Calls Try.prog 77 #[.agg #[.int .i64 k, .int .i64 n, .string s]] w fun e w' => e = .returned (.bool (okV k n s)) ∧ Below w.heap.size w w' := by
  go_enter Try.func77, Try.ntmps77
  go_wp2_with (go_at_call 105; refine (of_calls k n s _).mono ?_; rintro e w' ⟨rfl, hb⟩)
  go_ret
  exact ⟨rfl, ((Below.refl _ _).alloc (Nat.le_refl _) _).trans (hb.mono (by simp))⟩
theorem vmay1_calls (k n : Int) (s : ByteArray) (w : World) :
    Calls Try.prog 76 #[.agg #[.int .i64 k, .int .i64 n, .string s]] w fun e w' => e = .returned (.bool (!okV k n s)) ∧ Below w.heap.size w w' := by
  go_enter Try.func76, Try.ntmps76
  go_wp2_with (go_at_call 77; refine (vmay_calls k n s _).mono ?_; rintro e w' ⟨rfl, hb⟩)
  go_ret
  exact ⟨rfl, ((Below.refl _ _).alloc (Nat.le_refl _) _).trans (hb.mono (by simp))⟩
end Go.Proofs.Ytjkepojmceffkaa
namespace Go.Proofs.Ytjkepojmceffkaa
open Go Go.RowKit Go.Proofs.YtjkepojmceffkaaW.PrintWords Go.Proofs.Ytjkepojmceffkaa.R
def idxFrom {α : Type} (p : Nat → α → Bool) : Nat → List α → Int
  | _, [] => -1
  | j, x :: xs => if p j x then j else idxFrom p (j + 1) xs
theorem drop_cons {α : Type} {xs : List α} {j : Nat} (h : j < xs.length) : xs.drop j = xs[j] :: xs.drop (j + 1) := by simp
theorem getD_of {α : Type} {xs : List α} {j : Nat} {x z : α} (h : xs[j]? = some x) : xs.getD j z = x := by simp [List.getD, h]
theorem at70 {w : World} {A : Option Addr} {n : Nat} {xs : List S70} (h : Kd.C k70 w A n xs) {j : Nat} {x : S70} (hj : xs[j]? = some x) : ∃ ad, A = some ad ∧ w.cell? (ad.add (j * 3)) = some (.int .i64 x.f0) ∧
    w.cell? ⟨(ad.add (j * 3)).block, (ad.add (j * 3)).off + 1, none⟩ = some (.int .i64 x.f1) ∧ w.cell? ⟨(ad.add (j * 3)).block, (ad.add (j * 3)).off + 2, none⟩ = some (.string x.f2) := by
  have hl : j < xs.length := (List.getElem?_eq_some_iff.1 hj).1
  obtain ⟨ad, e, c0, c1, c2⟩ := at_T70 h (j : Int) (by omega) (by have := h.1; omega)
  rw [show rd_T70 xs (j : Int) = x from getD_of hj] at c0 c1 c2
  exact ⟨ad, e, c0, c1, c2⟩
theorem at44 {w : World} {A : Option Addr} {n : Nat} {xs : List S44} (h : Kd.C k44 w A n xs) {j : Nat} {x : S44} (hj : xs[j]? = some x) : ∃ ad A0 c0, A = some ad ∧ w.cell? (ad.add (j * 3)) = some (.slice A0 x.f0.length c0) ∧
    w.cell? ⟨(ad.add (j * 3)).block, (ad.add (j * 3)).off + 1, none⟩ = some (.int .i64 x.f1) ∧ w.cell? ⟨(ad.add (j * 3)).block, (ad.add (j * 3)).off + 2, none⟩ = some (.int .i64 x.f2) ∧ x.f0.length ≤ c0 ∧ Kd.C k70 w A0 x.f0.length x.f0 := by
  have hl : j < xs.length := (List.getElem?_eq_some_iff.1 hj).1
  obtain ⟨ad, A0, c0, e, q0, q1, q2, q3, q4⟩ := at_T44 h (j : Int) (by omega) (by have := h.1; omega)
  rw [show rd_T44 xs (j : Int) = x from getD_of hj] at *
  exact ⟨ad, A0, c0, e, q0, q1, q2, q3, q4⟩
def v70 (x : S70) : Value := .agg #[.int .i64 x.f0, .int .i64 x.f1, .string x.f2]
set_option maxHeartbeats 1000000 in
theorem indexFunc70 (g : Nat) (caps : Array Value) (eg : ∀ args w, (callFunc g args).run Try.prog w = .ok (.enter g args) w) (xs : List S70) (A : Option Addr) (c : Nat) (w : World)
    (Inv : Nat → World → Prop) (p : Nat → S70 → Bool) (hC : ∀ j W, Inv j W → Kd.C k70 W A xs.length xs) (hm : xs.length ≤ 9223372036854775807)
    (hf : ∀ j W (hj : j < xs.length), Inv j W → Calls Try.prog g (#[v70 xs[j]] ++ caps) W fun e W' => e = .returned (.bool (p j xs[j])) ∧ Inv (j + 1) W')
    (h0 : Inv 0 w) :
    Calls Try.prog 79 #[.slice A xs.length c, .func (.func g) #[] caps] w fun e w' => e = .returned (.int .i64 (idxFrom p 0 xs)) ∧ ∃ j, Inv j w' := by
  have HC := Lib.hid hC
  have HF := Lib.hid hf
  clear hC hf
  go_enter Try.func79, Try.ntmps79
  go_wp2
  go_loopw [8] (fun v8 wr => ∃ j : Nat, j ≤ xs.length ∧ v8 = .int .i64 j ∧ Inv j wr ∧ Hid (idxFrom p 0 xs = idxFrom p j (xs.drop j))) (fun v8 _ => xs.length - (intOf v8).toNat)
  case atStart => exact ⟨0, Nat.zero_le _, rfl, h0, rfl⟩
  case round =>
    obtain ⟨j, hj, rfl, hi, hx⟩ := hrel
    by_cases hlt : j < xs.length
    · obtain ⟨x, hxj⟩ : ∃ x, xs[j]? = some x := ⟨xs[j], by simp [hlt]⟩
      obtain ⟨ad, hA, c0, c1, c2⟩ := at70 (HC.out j wr hi) hxj
      subst hA
      have hf := HF.out j wr hlt hi
      obtain rfl : xs[j] = x := by simpa [hlt] using hxj
      have HF1 := Lib.hid hf
      clear hf hxj
      cases hp : p j xs[j] with
      | true =>
        have hfin : idxFrom p 0 xs = j := by rw [show idxFrom p 0 xs = idxFrom p j (xs.drop j) from hx, drop_cons hlt]; simp [idxFrom, hp]
        have Hfin := Lib.hid hfin
        rw [hp] at HF1
        clear hfin hp
        go_wp2_with (refine (HF1.out).mono ?_; rintro e w' ⟨rfl, hi2⟩)
        go_ret
        exact ⟨by rw [Hfin.out]; rfl, _, hi2⟩
      | false =>
        have hnext : idxFrom p 0 xs = idxFrom p (j + 1) (xs.drop (j + 1)) := by rw [show idxFrom p 0 xs = idxFrom p j (xs.drop j) from hx, drop_cons hlt]; simp [idxFrom, hp]
        have Hnext := Lib.hid hnext
        rw [hp] at HF1
        clear hnext hp
        go_wp2_with (refine (HF1.out).mono ?_; rintro e w' ⟨rfl, hi2⟩)
        go_roundw
        case rel => exact ⟨j + 1, by omega, by go_num, hi2, Hnext⟩
        case measure => simp [intOf]; omega
    · obtain rfl : j = xs.length := by omega
      have hfin : idxFrom p 0 xs = -1 := by rw [show idxFrom p 0 xs = _ from hx]; simp [idxFrom]
      have Hfin := Lib.hid hfin
      clear hfin hx
      go_wp2_with fail
      go_ret
      exact ⟨by rw [Hfin.out]; rfl, _, hi⟩
def okS (x : S70) : Bool := okV x.f0 x.f1 x.f2
theorem enters76 : ∀ args w, (callFunc 76 args).run Try.prog w = .ok (.enter 76 args) w := enters_of Try.func76 (by kernel_rfl) rfl
theorem containsFunc70 (xs : List S70) (A : Option Addr) (c : Nat) (w : World) (hC : Kd.C k70 w A xs.length xs) (hm : xs.length ≤ 9223372036854775807) :
    Calls Try.prog 75 #[.slice A xs.length c, .func (.func 76) #[] #[]] w fun e w' => e = .returned (.bool (decide (0 ≤ idxFrom (fun _ x => !okS x) 0 xs))) ∧ Below w.heap.size w w' := by
  have H := Lib.hid hC
  clear hC
  go_enter Try.func75, Try.ntmps75
  go_wp2_with fail
  refine (indexFunc70 76 #[] enters76 xs A c _ (fun _ W => Below w.heap.size w W) (fun _ x => !okS x) (fun j W hb => Kd.C_below H.out hb) hm
    (fun j W hj hb => (vmay1_calls _ _ _ W).mono fun e W' ⟨he, hb'⟩ => ⟨he, hb.trans (hb'.mono hb.size)⟩) (Below.refl _ _)).mono ?_
  rintro e w' ⟨rfl, _, hb⟩
  go_wp2_with fail
  go_ret
  exact ⟨rfl, hb⟩
theorem idxFrom_neg {α : Type} (q : α → Bool) : ∀ (xs : List α) (j : Nat), decide (0 ≤ idxFrom (fun _ x => q x) j xs) = xs.any q
  | [], j => by simp [idxFrom]
  | x :: xs, j => by
    cases h : q x
    · simp [idxFrom, h, ← idxFrom_neg q xs (j + 1)]
    · simp [idxFrom, h]
def rowMay (xs : List S70) : Bool := decide (xs.length ≤ 8) && xs.all okS
theorem rowMay_eq (xs : List S70) (h : xs.length ≤ 8) : rowMay xs = !(xs.any fun x => !okS x) := by
  unfold rowMay
  rw [decide_eq_true h, Bool.true_and, List.all_eq_not_any_not]
theorem rowMay_calls (xs : List S70) (A : Option Addr) (c : Nat) (w : World) (hC : Kd.C k70 w A xs.length xs) :
    Calls Try.prog 44 #[.slice A xs.length c] w fun e w' => e = .returned (.bool (rowMay xs)) ∧ Below w.heap.size w w' := by
  have hm : xs.length ≤ 9223372036854775807 := hC.2.1
  have H := Lib.hid hC
  clear hC
  by_cases h8 : xs.length ≤ 8
  · have hr := Lib.hid (rowMay_eq xs h8)
    go_enter Try.func44, Try.ntmps44
    go_wp2_with fail
    refine (containsFunc70 xs A c _ H.out hm).mono ?_
    rintro e w' ⟨rfl, hb⟩
    rw [idxFrom_neg (fun x => !okS x)]
    go_wp2_with fail
    go_ret
    exact ⟨by rw [hr.out]; rfl, hb⟩
  · have hr : rowMay xs = false := by unfold rowMay; rw [decide_eq_false h8]; rfl
    have Hr := Lib.hid hr
    clear hr
    go_enter Try.func44, Try.ntmps44
    go_wp2_with fail
    go_ret
    exact ⟨by rw [Hr.out]; rfl, Below.refl _ _⟩
end Go.Proofs.Ytjkepojmceffkaa
namespace Go.Proofs.Ytjkepojmceffkaa
open Go Go.RowKit Go.Proofs.YtjkepojmceffkaaW.PrintWords Go.Proofs.Ytjkepojmceffkaa.R
theorem of_num (k n : Int) (s : ByteArray) (w : World) (h : isNum k s = true) :
    Calls Try.prog 105 #[.agg #[.int .i64 k, .int .i64 n, .string s]] w fun e w' => e = .returned (.tuple #[.iface 144 (.int .i64 n), .bool true]) ∧ Below w.heap.size w w' :=
  (of_calls k n s w).mono fun e w' ⟨he, hb⟩ => ⟨by rw [he]; simp [ofV, okV, h], hb⟩
theorem of_txt (k n : Int) (s : ByteArray) (w : World) (h1 : isNum k s = false) (h : isTxt k n s = true) :
    Calls Try.prog 105 #[.agg #[.int .i64 k, .int .i64 n, .string s]] w fun e w' => e = .returned (.tuple #[.iface 148 (.string s), .bool true]) ∧ Below w.heap.size w w' :=
  (of_calls k n s w).mono fun e w' ⟨he, hb⟩ => ⟨by rw [he]; simp [ofV, okV, h, h1], hb⟩
theorem of_no (k n : Int) (s : ByteArray) (w : World) (h1 : isNum k s = false) (h : isTxt k n s = false) :
    Calls Try.prog 105 #[.agg #[.int .i64 k, .int .i64 n, .string s]] w fun e w' => e = .returned (.tuple #[.nilIface, .bool false]) ∧ Below w.heap.size w w' :=
  (of_calls k n s w).mono fun e w' ⟨he, hb⟩ => ⟨by rw [he]; simp [ofV, okV, h, h1], hb⟩
def cmpInt (x y : Int) : Int := if x < y then -1 else if y < x then 1 else 0
def cmpV (a b : S70) : Int :=
  if isNum a.f0 a.f2 then (if isNum b.f0 b.f2 then cmpInt a.f1 b.f1 else if isTxt b.f0 b.f1 b.f2 then -1 else 0)
  else if isTxt a.f0 a.f1 a.f2 then (if isNum b.f0 b.f2 then 1 else if isTxt b.f0 b.f1 b.f2 then Lib.compareBytes a.f2.data.toList b.f2.data.toList else 0)
  else 0
theorem ta_nn (n : Int) (w : World) : (Instr.typeAssert (.iface 144 (.int .i64 n)) 139 144 true).run Try.prog w = .ok (.tuple #[.int .i64 n, .bool true]) w := by kernel_rfl
theorem ta_sn (s : ByteArray) (w : World) : (Instr.typeAssert (.iface 148 (.string s)) 139 144 true).run Try.prog w = .ok (.tuple #[.int .i64 0, .bool false]) w := by kernel_rfl
theorem ta_ss (s : ByteArray) (w : World) : (Instr.typeAssert (.iface 148 (.string s)) 139 148 false).run Try.prog w = .ok (.string s) w := by kernel_rfl
attribute [local go_sem] ta_nn ta_sn ta_ss
theorem cmp108 (x y : Int) : R.value_number_108.f x y = some (cmpInt x y) := by
  simp [R.value_number_108.f, R.value_number_128.f, cmpInt]
  repeat' split
  all_goals first | rfl | omega
theorem cmp51 (x y : Int) : R.cmp_Compare_int.f x y = some (cmpInt x y) := by
  simp [R.cmp_Compare_int.f, R.cmp_isNaN_int.f, cmpInt]
  repeat' split
  all_goals first | rfl | omega
theorem below_drawn {w w' : World} (h : Drawn0 w w') : Below w.heap.size w w' := by
  obtain ⟨n, rfl⟩ := h.out
  exact pw_below_drewN (Below.refl _ _) n
theorem cmp108_calls (x y : Int) (w : World) : Calls Try.prog 108 #[.int .i64 x, .int .i64 y] w fun e w' => e = .returned (.int .i64 (cmpInt x y)) ∧ Below w.heap.size w w' :=
  (R.value_number_108.calls x y _ w (cmp108 x y)).mono fun e w' ⟨he, hd⟩ => ⟨he, below_drawn hd⟩
theorem cmp51_calls (x y : Int) (w : World) : Calls Try.prog 51 #[.int .i64 x, .int .i64 y] w fun e w' => e = .returned (.int .i64 (cmpInt x y)) ∧ Below w.heap.size w w' :=
  (R.cmp_Compare_int.calls x y _ w (cmp51 x y)).mono fun e w' ⟨he, hd⟩ => ⟨he, below_drawn hd⟩
theorem below2 {w w1 w2 : World} {A B : Obj} (h1 : Below ((w.alloc A).alloc B).heap.size ((w.alloc A).alloc B) w1) (h2 : Below w1.heap.size w1 w2) : Below w.heap.size w w2 :=
  ((((Below.refl _ _).alloc (Nat.le_refl _) _).alloc (by simp) _).trans (h1.mono (by simp; omega))).trans (h2.mono (by have := h1.size; simp at this; omega))
set_option maxRecDepth 100000 in
set_option maxHeartbeats 1000000 in
theorem vcmp_calls (a b : S70) (w : World)
  (hsc : ∀ (a b : ByteArray) (w : World), Calls Try.prog 109 #[.string a, .string b] w fun e w' => e = .returned (.int .i64 (Lib.compareBytes a.data.toList b.data.toList)) ∧ w' = w) :
    Calls Try.prog 82 #[v70 a, v70 b] w fun e w' => e = .returned (.int .i64 (cmpV a b)) ∧ Below w.heap.size w w' := by
  have HS := Lib.hid hsc
  clear hsc
  obtain ⟨k, n, s⟩ := a
  obtain ⟨k', n', s'⟩ := b
  unfold v70
  dsimp only
  cases h1 : isNum k s with
  | true =>
    cases h2 : isNum k' s' with
    | true =>
      have hc : cmpV ⟨k, n, s⟩ ⟨k', n', s'⟩ = cmpInt n n' := by simp [cmpV, h1, h2]
      rw [hc]
      have H1 := Lib.hid h1
      have H2 := Lib.hid h2
      clear h1 h2 hc
      go_enter Try.func82, Try.ntmps82
      go_wp2_with fail
      refine (of_num k n s _ H1.out).mono ?_
      rintro e w1 ⟨rfl, hb1⟩
      obtain ⟨hc1, hf1⟩ := bcell hb1
      go_wp2_with fail
      refine (of_num k' n' s' _ H2.out).mono ?_
      rintro e w2 ⟨rfl, hb2⟩
      clear hc1 hf1
      go_wp2_with fail
      refine (cmp108_calls n n' _).mono ?_
      rintro e w3 ⟨rfl, hb3⟩
      go_wp2_with fail
      go_ret
      exact ⟨rfl, (below2 hb1 hb2).trans (hb3.mono (below2 hb1 hb2).size)⟩
    | false =>
      cases h3 : isTxt k' n' s' with
      | true =>
        have hc : cmpV ⟨k, n, s⟩ ⟨k', n', s'⟩ = -1 := by simp [cmpV, h1, h2, h3]
        rw [hc]
        have H1 := Lib.hid h1
        have H2 := Lib.hid h2
        have H3 := Lib.hid h3
        clear h1 h2 h3 hc
        go_enter Try.func82, Try.ntmps82
        go_wp2_with fail
        refine (of_num k n s _ H1.out).mono ?_
        rintro e w1 ⟨rfl, hb1⟩
        obtain ⟨hc1, hf1⟩ := bcell hb1
        go_wp2_with fail
        refine (of_txt k' n' s' _ H2.out H3.out).mono ?_
        rintro e w2 ⟨rfl, hb2⟩
        clear hc1 hf1
        go_wp2_with fail
        go_ret
        exact ⟨rfl, below2 hb1 hb2⟩
      | false =>
        have hc : cmpV ⟨k, n, s⟩ ⟨k', n', s'⟩ = 0 := by simp [cmpV, h1, h2, h3]
        rw [hc]
        have H1 := Lib.hid h1
        have H2 := Lib.hid h2
        have H3 := Lib.hid h3
        clear h1 h2 h3 hc
        go_enter Try.func82, Try.ntmps82
        go_wp2_with fail
        refine (of_num k n s _ H1.out).mono ?_
        rintro e w1 ⟨rfl, hb1⟩
        obtain ⟨hc1, hf1⟩ := bcell hb1
        go_wp2_with fail
        refine (of_no k' n' s' _ H2.out H3.out).mono ?_
        rintro e w2 ⟨rfl, hb2⟩
        clear hc1 hf1
        go_wp2_with fail
        go_ret
        exact ⟨rfl, below2 hb1 hb2⟩
  | false =>
    cases h4 : isTxt k n s with
    | false =>
      have hc : cmpV ⟨k, n, s⟩ ⟨k', n', s'⟩ = 0 := by simp [cmpV, h1, h4]
      rw [hc]
      have H1 := Lib.hid h1
      have H4 := Lib.hid h4
      clear h1 h4 hc
      go_enter Try.func82, Try.ntmps82
      go_wp2_with fail
      refine (of_no k n s _ H1.out H4.out).mono ?_
      rintro e w1 ⟨rfl, hb1⟩
      obtain ⟨hc1, hf1⟩ := bcell hb1
      go_wp2_with fail
      refine (of_calls k' n' s' _).mono ?_
      rintro e w2 ⟨rfl, hb2⟩
      clear hc1 hf1
      generalize ofV k' n' s' = vv
      generalize okV k' n' s' = bb
      go_wp2_with fail
      go_ret
      exact ⟨rfl, below2 hb1 hb2⟩
    | true =>
      cases h2 : isNum k' s' with
      | true =>
        have hc : cmpV ⟨k, n, s⟩ ⟨k', n', s'⟩ = 1 := by simp [cmpV, h1, h2, h4]
        rw [hc]
        have H1 := Lib.hid h1
        have H2 := Lib.hid h2
        have H4 := Lib.hid h4
        clear h1 h2 h4 hc
        go_enter Try.func82, Try.ntmps82
        go_wp2_with fail
        refine (of_txt k n s _ H1.out H4.out).mono ?_
        rintro e w1 ⟨rfl, hb1⟩
        obtain ⟨hc1, hf1⟩ := bcell hb1
        go_wp2_with fail
        refine (of_num k' n' s' _ H2.out).mono ?_
        rintro e w2 ⟨rfl, hb2⟩
        clear hc1 hf1
        go_wp2_with fail
        go_ret
        exact ⟨rfl, below2 hb1 hb2⟩
      | false =>
        cases h3 : isTxt k' n' s' with
        | true =>
          have hc : cmpV ⟨k, n, s⟩ ⟨k', n', s'⟩ = Lib.compareBytes s.data.toList s'.data.toList := by simp [cmpV, h1, h2, h3, h4]
          rw [hc]
          have H1 := Lib.hid h1
          have H2 := Lib.hid h2
          have H3 := Lib.hid h3
          have H4 := Lib.hid h4
          clear h1 h2 h3 h4 hc
          go_enter Try.func82, Try.ntmps82
          go_wp2_with fail
          refine (of_txt k n s _ H1.out H4.out).mono ?_
          rintro e w1 ⟨rfl, hb1⟩
          obtain ⟨hc1, hf1⟩ := bcell hb1
          go_wp2_with fail
          refine (of_txt k' n' s' _ H2.out H3.out).mono ?_
          rintro e w2 ⟨rfl, hb2⟩
          clear hc1 hf1
          go_wp2_with fail
          go_quiet ((go_at_call 109; exact Calls.quiet_of_same (HS.out _ _ _)))
          go_wp2_with fail
          go_ret
          exact ⟨rfl, by first | exact below2 hb1 hb2 | exact pw_below_drewN (below2 hb1 hb2) _⟩
        | false =>
          have hc : cmpV ⟨k, n, s⟩ ⟨k', n', s'⟩ = 0 := by simp [cmpV, h1, h2, h3, h4]
          rw [hc]
          have H1 := Lib.hid h1
          have H2 := Lib.hid h2
          have H3 := Lib.hid h3
          have H4 := Lib.hid h4
          clear h1 h2 h3 h4 hc
          go_enter Try.func82, Try.ntmps82
          go_wp2_with fail
          refine (of_txt k n s _ H1.out H4.out).mono ?_
          rintro e w1 ⟨rfl, hb1⟩
          obtain ⟨hc1, hf1⟩ := bcell hb1
          go_wp2_with fail
          refine (of_no k' n' s' _ H2.out H3.out).mono ?_
          rintro e w2 ⟨rfl, hb2⟩
          clear hc1 hf1
          go_wp2_with fail
          go_ret
          exact ⟨rfl, below2 hb1 hb2⟩
end Go.Proofs.Ytjkepojmceffkaa
namespace Go.Proofs
open Go.Shelf
def Try.lays106_ren : Go.Shelf.Ren := ⟨fun | 106 => 109 | 213 => 129 | 265 => 139 | n => n, fun | 9 => 9 | 3 => 3 | n => n, fun | n => n⟩
theorem Try.lays106 : Go.Proofs.Lays.n106 Try.prog Try.lays106_ren := {
  mixed := by kernel_rfl
  f106 := Try.func109.trans (congrArg some (by kernel_rfl))
  f213 := Try.func129.trans (congrArg some (by kernel_rfl))
  f265 := Try.func139.trans (congrArg some (by kernel_rfl))
  t3 := Try.underlying3
  a3 := Try.isAgg3
  z3 := Try.sizeOf3
  v3 := Try.zeroValue3
  t9 := Try.underlying9
  a9 := Try.isAgg9
  z9 := Try.sizeOf9
  v9 := Try.zeroValue9 }
open Go.RowKit in
theorem Try.strings_Compare (a b : ByteArray) (w : World) :
    Calls Try.prog 109 #[.string a, .string b] w fun e w' => e = .returned (.int .i64 (Lib.compareBytes a.data.toList b.data.toList)) ∧ w' = w := Any.strings_Compare Try.lays106 a b w
def Try.lays215_ren : Go.Shelf.Ren := ⟨fun | 215 => 83 | n => n, fun | 3 => 3 | 4 => 4 | n => n, fun | n => n⟩
theorem Try.lays215 : Go.Proofs.Lays.n215 Try.prog Try.lays215_ren := {
  mixed := by kernel_rfl
  f215 := Try.func83.trans (congrArg some (by kernel_rfl))
  t3 := Try.underlying3
  a3 := Try.isAgg3
  z3 := Try.sizeOf3
  v3 := Try.zeroValue3
  t4 := Try.underlying4
  a4 := Try.isAgg4
  z4 := Try.sizeOf4
  v4 := Try.zeroValue4 }
open Go.RowKit in
theorem Try.cmp_isNaN_int (x : Int) (w : World) :
    Calls Try.prog 83 #[.int .i64 x] w fun e w' => e = .returned (.bool false) ∧ w' = w := Any.cmp_isNaN_int Try.lays215 x w
def Try.lays122_ren : Go.Shelf.Ren := ⟨fun | 122 => 51 | 215 => 83 | n => n, fun | 3 => 3 | 4 => 4 | n => n, fun | n => n⟩
theorem Try.lays122 : Go.Proofs.Lays.n122 Try.prog Try.lays122_ren := {
  mixed := by kernel_rfl
  f122 := Try.func51.trans (congrArg some (by kernel_rfl))
  f215 := Try.func83.trans (congrArg some (by kernel_rfl))
  t3 := Try.underlying3
  a3 := Try.isAgg3
  z3 := Try.sizeOf3
  v3 := Try.zeroValue3
  t4 := Try.underlying4
  a4 := Try.isAgg4
  z4 := Try.sizeOf4
  v4 := Try.zeroValue4 }
open Go.RowKit in
theorem Try.cmp_Compare_int (x y : Int) (w : World) :
    Calls Try.prog 51 #[.int .i64 x, .int .i64 y] w fun e w' => e = .returned (.int .i64 (Lib.compareInt x y)) ∧ w' = w := Any.cmp_Compare_int Try.lays122 x y w
def Try.lays189_ren : Go.Shelf.Ren := ⟨fun | 189 => 57 | 125 => 97 | 257 => 96 | 128 => 124 | 129 => 125 | 294 => 115 | 295 => 116 | 296 => 117 | 297 => 118 | 298 => 119 | 299 => 120 | 216 => 121 | 300 => 122 | 301 => 123 | 328 => 133 | 329 => 134 | 330 => 135 | 331 => 136 | 332 => 137 | 215 => 83 | 343 => 141 | n => n, fun | 28 => 49 | 3 => 3 | 46 => 135 | 0 => 0 | 51 => 161 | 53 => 163 | 4 => 4 | 183 => 153 | 182 => 152 | 131 => 158 | 5 => 5 | 9 => 9 | 218 => 168 | 222 => 172 | 228 => 174 | 229 => 175 | n => n, fun | n => n⟩
theorem Try.lays189 : Go.Proofs.Lays.n189 Try.prog Try.lays189_ren := {
  mixed := by kernel_rfl
  f125 := Try.func97.trans (congrArg some (by kernel_rfl))
  f128 := Try.func124.trans (congrArg some (by kernel_rfl))
  f129 := Try.func125.trans (congrArg some (by kernel_rfl))
  f189 := Try.func57.trans (congrArg some (by kernel_rfl))
  f215 := Try.func83.trans (congrArg some (by kernel_rfl))
  f216 := Try.func121.trans (congrArg some (by kernel_rfl))
  f257 := Try.func96.trans (congrArg some (by kernel_rfl))
  f294 := Try.func115.trans (congrArg some (by kernel_rfl))
  f295 := Try.func116.trans (congrArg some (by kernel_rfl))
  f296 := Try.func117.trans (congrArg some (by kernel_rfl))
  f297 := Try.func118.trans (congrArg some (by kernel_rfl))
  f298 := Try.func119.trans (congrArg some (by kernel_rfl))
  f299 := Try.func120.trans (congrArg some (by kernel_rfl))
  f300 := Try.func122.trans (congrArg some (by kernel_rfl))
  f301 := Try.func123.trans (congrArg some (by kernel_rfl))
  f328 := Try.func133.trans (congrArg some (by kernel_rfl))
  f329 := Try.func134.trans (congrArg some (by kernel_rfl))
  f330 := Try.func135.trans (congrArg some (by kernel_rfl))
  f331 := Try.func136.trans (congrArg some (by kernel_rfl))
  f332 := Try.func137.trans (congrArg some (by kernel_rfl))
  f343 := Try.func141.trans (congrArg some (by kernel_rfl))
  t0 := Try.underlying0
  a0 := Try.isAgg0
  z0 := Try.sizeOf0
  v0 := Try.zeroValue0
  t3 := Try.underlying3
  a3 := Try.isAgg3
  z3 := Try.sizeOf3
  v3 := Try.zeroValue3
  t4 := Try.underlying4
  a4 := Try.isAgg4
  z4 := Try.sizeOf4
  v4 := Try.zeroValue4
  t5 := Try.underlying5
  a5 := Try.isAgg5
  z5 := Try.sizeOf5
  v5 := Try.zeroValue5
  t9 := Try.underlying9
  a9 := Try.isAgg9
  z9 := Try.sizeOf9
  v9 := Try.zeroValue9
  t28 := Try.underlying49
  a28 := Try.isAgg49
  z28 := Try.sizeOf49
  v28 := Try.zeroValue49
  t46 := Try.underlying135
  a46 := Try.isAgg135
  z46 := Try.sizeOf135
  v46 := Try.zeroValue135
  t51 := Try.underlying161
  a51 := Try.isAgg161
  z51 := Try.sizeOf161
  v51 := Try.zeroValue161
  t53 := Try.underlying163
  a53 := Try.isAgg163
  z53 := Try.sizeOf163
  v53 := Try.zeroValue163
  t131 := Try.underlying158
  a131 := Try.isAgg158
  z131 := Try.sizeOf158
  v131 := Try.zeroValue158
  t182 := Try.underlying152
  a182 := Try.isAgg152
  z182 := Try.sizeOf152
  v182 := Try.zeroValue152
  t183 := Try.underlying153
  a183 := Try.isAgg153
  z183 := Try.sizeOf153
  v183 := Try.zeroValue153
  t218 := Try.underlying168
  a218 := Try.isAgg168
  z218 := Try.sizeOf168
  v218 := Try.zeroValue168
  t222 := Try.underlying172
  a222 := Try.isAgg172
  z222 := Try.sizeOf172
  v222 := Try.zeroValue172
  t228 := Try.underlying174
  a228 := Try.isAgg174
  z228 := Try.sizeOf174
  v228 := Try.zeroValue174
  t229 := Try.underlying175
  a229 := Try.isAgg175
  z229 := Try.sizeOf175
  v229 := Try.zeroValue175 }
open Go.Sort Go.RowKit in
theorem Try.slices_Sort_int (blk off cap : Nat) (zs : List Int) (w : World) (hH : Holds (Value.int .i64) w blk off zs.toArray) (hblk : blk < w.heap.size) (hsz : zs.length < 4611686018427387904) :
    Calls Try.prog 57 #[.slice (some ⟨blk, off, none⟩) zs.length cap] w fun e w' =>
      e = .returned (.tuple #[]) ∧ ∃ n os, w' = grow (putRow (Value.int .i64) (Sort.ahead w n) blk off (zs.mergeSort fun x y => decide (x ≤ y)).toArray) os := Any.slices_Sort_int Try.lays189 blk off cap zs w hH hblk hsz
end Go.Proofs
namespace Go.Proofs.Ytjkepojmceffkaa
open Go Go.RowKit Go.Proofs.YtjkepojmceffkaaW.PrintWords Go.Proofs.Ytjkepojmceffkaa.R
attribute [local go_sem high] eqA70
def eqS (x y : S70) : Bool := x.f0 == y.f0 && (x.f1 == y.f1 && (x.f2.toList == y.f2.toList))
theorem cmpMaker_calls (v : Value) (w : World) :
    Calls Try.prog 80 #[v] w fun e w' => e = .returned (.func (.func 81) #[] #[.pointer (some ⟨w.heap.size, 0, none⟩), v]) ∧ w' = w.alloc (.cells #[.int .i64 (-1)] 3) := by
  go_enter Try.func80, Try.ntmps80
  go_wp2
  go_ret
  exact ⟨rfl, rfl⟩
theorem boxed_below {W W' : World} {B : Nat} {t : TypeId} {v : Value} (h : Boxed W B t v) (hb : Below W.heap.size W W') : Boxed W' B t v := (hb.block B h.lt).trans h
theorem cell_far {W : World} {b : Nat} {a : Addr} {u v : Value} (h : W.cell? a = some u) (hne : a.block ≠ b) : (W.setCell ⟨b, 0, none⟩ v).cell? a = some u := by
  rw [World.cell?_of_block (w := W) (Below.heap_setCell W ⟨b, 0, none⟩ v a.block hne)]
  exact h
theorem grown_sad (W : World) (b : Nat) (v : Value) (o : Obj) (n : Nat) : W.grownBy (((W.setCell ⟨b, 0, none⟩ v).alloc o).drewN n) (some b) :=
  ⟨rfl, rfl, rfl, by simp [World.drewN, World.setCell], fun k hk hne => (Below.heap_alloc (W.setCell ⟨b, 0, none⟩ v) o k (by simpa [World.setCell] using hk)).trans (Below.heap_setCell W ⟨b, 0, none⟩ v k (fun e => hne (by rw [e])))⟩
set_option maxRecDepth 100000 in
set_option maxHeartbeats 1000000 in
theorem cmpClo_calls (bi bb : Nat) (x : S70) (ys : List S70) (B : Option Addr) (cb j : Nat) (hj : j < ys.length) (hne : bb ≠ bi) (w W : World)
    (hC : Kd.C k70 w B ys.length ys) (hB : Below w.heap.size w W) (hi0 : w.heap.size ≤ bi) (hi : Boxed W bi 3 (.int .i64 ((j : Int) - 1))) (hbx : Boxed W bb 42 (.slice B ys.length cb)) :
    Calls Try.prog 81 #[v70 x, .pointer (some ⟨bi, 0, none⟩), .pointer (some ⟨bb, 0, none⟩)] W fun e W' => e = .returned (.bool (!eqS x ys[j])) ∧ Boxed W' bi 3 (.int .i64 j) ∧ Boxed W' bb 42 (.slice B ys.length cb) ∧ W.grownBy W' (some bi) := by
  obtain ⟨ad, rfl, c0, c1, c2⟩ := at70 hC (j := j) (x := ys[j]) (by simp)
  have hm : ys.length ≤ 9223372036854775807 := hC.2.1
  have i1 := hi.cell
  have i2 := hi.frozen
  have b1 := hbx.cell
  have b2 := hbx.frozen
  have hib := hi.lt
  have hbb := hbx.lt
  have l0 := World.block_lt_of_cell? w _ c0
  have l1 := Nat.lt_of_lt_of_le l0 hB.size
  have ne0 : (ad.add (j * 3)).block ≠ bi := by omega
  have d0 := fun v => cell_far (v := v) ((hB.cell l0).trans c0) ne0
  have d1 := fun v => cell_far (v := v) ((hB.cell (p := ⟨(ad.add (j * 3)).block, (ad.add (j * 3)).off + 1, none⟩) l0).trans c1) ne0
  have d2 := fun v => cell_far (v := v) ((hB.cell (p := ⟨(ad.add (j * 3)).block, (ad.add (j * 3)).off + 2, none⟩) l0).trans c2) ne0
  have HI := Lib.hid hi
  have HBX := Lib.hid hbx
  clear hi hbx c0 c1 c2
  unfold v70
  generalize hy : ys[j] = y at *
  clear hy hC
  have q0 : (0 : Int) ≤ (j : Int) := by omega
  have q1 : (j : Int) < (ys.length : Int) := by omega
  go_enter Try.func81, Try.ntmps81
  go_wp2_with fail
  go_quiet (fail)
  go_wp2_with fail
  go_ret
  exact ⟨by simp [eqS], (HI.out.set _).alloc _, (HBX.out.other hne _).alloc _, grown_sad W bi _ _ _⟩
def diffM (a b : List S70) (m : Nat) : Int := idxFrom (fun j x => !eqS x (b.getD j z70)) 0 (a.take m)
def diffAt (a b : List S70) : Int := diffM a b (min a.length b.length)
def rowCmp (a b : List S70) : Int :=
  if rowMay a && rowMay b then
    (if diffAt a b < 0 then cmpInt a.length b.length else cmpV (a.getD (diffAt a b).toNat z70) (b.getD (diffAt a b).toNat z70))
  else 0
theorem enters81 : ∀ args w, (callFunc 81 args).run Try.prog w = .ok (.enter 81 args) w := enters_of Try.func81 (by kernel_rfl) rfl
theorem indexFunc70' (g : Nat) (caps : Array Value) (eg : ∀ args w, (callFunc g args).run Try.prog w = .ok (.enter g args) w) (xs : List S70) (n : Nat) (hn : xs.length = n) (A : Option Addr) (c : Nat) (w : World)
    (Inv : Nat → World → Prop) (p : Nat → S70 → Bool) (hC : ∀ j W, Inv j W → Kd.C k70 W A xs.length xs) (hm : xs.length ≤ 9223372036854775807)
    (hf : ∀ j W (hj : j < xs.length), Inv j W → Calls Try.prog g (#[v70 xs[j]] ++ caps) W fun e W' => e = .returned (.bool (p j xs[j])) ∧ Inv (j + 1) W')
    (h0 : Inv 0 w) :
    Calls Try.prog 79 #[.slice A n c, .func (.func g) #[] caps] w fun e w' => e = .returned (.int .i64 (idxFrom p 0 xs)) ∧ ∃ j, Inv j w' := by
  subst hn
  exact indexFunc70 g caps eg xs A c w Inv p hC hm hf h0
def CmpInv (w : World) (bi bb : Nat) (bv : Value) (j : Nat) (W : World) : Prop :=
  Below w.heap.size w W ∧ Boxed W bi 3 (.int .i64 ((j : Int) - 1)) ∧ Boxed W bb 42 bv ∧ w.heap.size ≤ bi
theorem diff_calls (a b : List S70) (A B : Option Addr) (ca cb m : Nat) (hma : m ≤ a.length) (hmb : m ≤ b.length) (w W : World) (hA : Kd.C k70 w A a.length a) (hB : Kd.C k70 w B b.length b) (bi bb : Nat) (hne : bb ≠ bi)
    (h0 : CmpInv w bi bb (.slice B b.length cb) 0 W) :
    Calls Try.prog 79 #[.slice A m ca, .func (.func 81) #[] #[.pointer (some ⟨bi, 0, none⟩), .pointer (some ⟨bb, 0, none⟩)]] W fun e w' =>
      e = .returned (.int .i64 (diffM a b m)) ∧ Below w.heap.size w w' ∧ Boxed w' bb 42 (.slice B b.length cb) := by
  have hl : (a.take m).length = m := by rw [List.length_take]; omega
  refine (indexFunc70' 81 #[.pointer (some ⟨bi, 0, none⟩), .pointer (some ⟨bb, 0, none⟩)] enters81 (a.take m) m hl A ca W (CmpInv w bi bb (.slice B b.length cb)) (fun j x => !eqS x (b.getD j z70))
    (fun j W1 hi => Kd.C_below (Kd.C_take hA hma) hi.1) (by have := hA.2.1; omega) ?_ h0).mono ?_
  · rintro j W1 hj ⟨h1, h2, h3, h4⟩
    have hjb : j < b.length := by omega
    refine (cmpClo_calls bi bb (a.take m)[j] b B cb j hjb hne w W1 hB h1 h4 h2 h3).mono ?_
    rintro e W2 ⟨rfl, g1, g2, g3⟩
    refine ⟨by simp [List.getD, hjb], h1.grown g3 h1.size (fun k e => by cases e; exact h4), ?_, g2, h4⟩
    rw [show (((j + 1 : Nat) : Int) - 1) = j by omega]
    exact g1
  · rintro e w' ⟨rfl, j, h1, h2, h3, _⟩
    exact ⟨rfl, h1, h3⟩
theorem idxFrom_lt {α : Type} (p : Nat → α → Bool) : ∀ (xs : List α) (j : Nat), 0 ≤ idxFrom p j xs → idxFrom p j xs < j + xs.length
  | [], j, h => by simp [idxFrom] at h
  | x :: xs, j, h => by
    cases hp : p j x
    · have e : idxFrom p j (x :: xs) = idxFrom p (j + 1) xs := by simp [idxFrom, hp]
      rw [e] at h ⊢
      have := idxFrom_lt p xs (j + 1) h
      simp only [List.length_cons]
      omega
    · have e : idxFrom p j (x :: xs) = j := by simp [idxFrom, hp]
      rw [e]
      simp only [List.length_cons]
      omega
theorem slice42 (A : Option Addr) (n c m : Nat) (h : m ≤ c) : ∀ W : World, (Instr.slice 42 (.slice A n c) none (some (.int .i64 (m : Int))) none).run Try.prog W = .ok (.slice A m c) W := by
  intro W
  have hel : Try.prog.elem 42 = 70 := by kernel_rfl
  have hu : Try.prog.underlying 42 = some (.slice (Try.prog.elem 42)) := by rw [hel]; exact Try.underlying42
  have ha : (A.map fun x => x.add 0) = A := by cases A <;> simp [Addr.add]
  have h70 : (Try.prog.info? 70).isSome = true := by kernel_rfl
  obtain ⟨i1, hi1⟩ := Option.isSome_iff_exists.1 h70
  rw [run_slice_h W 42 A n c hu .i64 m (by omega) (by omega), hel]
  simp [sizeOf, typeInfo, hi1, sliced, Result.andThen, ha]
set_option maxRecDepth 100000 in
set_option maxHeartbeats 1000000 in
theorem rowCmp_calls (a b : List S70) (A B : Option Addr) (ca cb : Nat) (w : World) (hA : Kd.C k70 w A a.length a) (hca : a.length ≤ ca) (hB : Kd.C k70 w B b.length b) :
    Calls Try.prog 50 #[.slice A a.length ca, .slice B b.length cb] w fun e w' => e = .returned (.int .i64 (rowCmp a b)) ∧ Below w.heap.size w w' := by
  have ma : a.length ≤ 9223372036854775807 := hA.2.1
  have mb : b.length ≤ 9223372036854775807 := hB.2.1
  cases h1 : rowMay a with
  | false =>
    have hr : rowCmp a b = 0 := by simp [rowCmp, h1]
    rw [hr]
    have HA := Lib.hid hA
    have HB := Lib.hid hB
    have H1 := Lib.hid h1
    clear hA hB h1 hr
    go_enter Try.func50, Try.ntmps50
    go_wp2_with fail
    refine (rowMay_calls a A ca _ (Kd.C_below HA.out ((Below.refl _ _).alloc (Nat.le_refl _) _))).mono ?_
    rintro e w1 ⟨rfl, hb1⟩
    rw [H1.out]
    go_wp2_with fail
    go_ret
    exact ⟨rfl, ((Below.refl _ _).alloc (Nat.le_refl _) _).trans (hb1.mono (by simp))⟩
  | true =>
    cases h2 : rowMay b with
    | false =>
      have hr : rowCmp a b = 0 := by simp [rowCmp, h1, h2]
      rw [hr]
      have HA := Lib.hid hA
      have HB := Lib.hid hB
      have H1 := Lib.hid h1
      have H2 := Lib.hid h2
      clear hA hB h1 h2 hr
      go_enter Try.func50, Try.ntmps50
      go_wp2_with fail
      refine (rowMay_calls a A ca _ (Kd.C_below HA.out ((Below.refl _ _).alloc (Nat.le_refl _) _))).mono ?_
      rintro e w1 ⟨rfl, hb1⟩
      rw [H1.out]
      obtain ⟨hc1, hf1⟩ := bcell hb1
      go_wp2_with fail
      have hbw : Below w.heap.size w w1 := ((Below.refl _ _).alloc (Nat.le_refl _) _).trans (hb1.mono (by simp))
      refine (rowMay_calls b B cb _ (Kd.C_below HB.out hbw)).mono ?_
      rintro e w2 ⟨rfl, hb2⟩
      rw [H2.out]
      go_wp2_with fail
      go_ret
      exact ⟨rfl, hbw.trans (hb2.mono hbw.size)⟩
    | true =>
      have HA := Lib.hid hA
      have HB := Lib.hid hB
      have H1 := Lib.hid h1
      have H2 := Lib.hid h2
      clear hA hB h1 h2
      go_enter Try.func50, Try.ntmps50
      go_wp2_with fail
      refine (rowMay_calls a A ca _ (Kd.C_below HA.out ((Below.refl _ _).alloc (Nat.le_refl _) _))).mono ?_
      rintro e w1 ⟨rfl, hb1⟩
      rw [H1.out]
      obtain ⟨hc1, hf1⟩ := bcell hb1
      go_wp2_with fail
      have hbw : Below w.heap.size w w1 := ((Below.refl _ _).alloc (Nat.le_refl _) _).trans (hb1.mono (by simp))
      have hbx : Boxed w1 w.heap.size 42 (.slice B b.length cb) := (hb1.block _ (by simp)).trans (Boxed.new w 42 _)
      refine (rowMay_calls b B cb _ (Kd.C_below HB.out hbw)).mono ?_
      rintro e w2 ⟨rfl, hb2⟩
      rw [H2.out]
      replace hbx := boxed_below hbx hb2
      replace hbw := hbw.trans (hb2.mono hbw.size)
      clear hc1 hf1 hb1 hb2
      have b1 := hbx.cell
      have b2 := hbx.frozen
      have HBX := Lib.hid hbx
      clear hbx
      go_wp2_with fail
      obtain ⟨m, hm⟩ : ∃ m : Nat, min (a.length : Int) (b.length : Int) = m := ⟨min a.length b.length, by omega⟩
      rw [hm]
      have hma : m ≤ a.length := by omega
      have hmb : m ≤ b.length := by omega
      have hmm : min a.length b.length = m := by omega
      have Hm := Lib.hid hmm
      clear hm hmm
      have hsl := slice42 A a.length ca m (by omega)
      have hinv : CmpInv w w2.heap.size w.heap.size (.slice B b.length cb) 0 (w2.alloc (.cells #[.int .i64 (-1)] 3)).drew :=
        ⟨(hbw.alloc hbw.size _).drew, Boxed.new _ _ _, HBX.out.alloc _, hbw.size⟩
      have Hd := Lib.hid (fun (W : World) (h : CmpInv w w2.heap.size w.heap.size (.slice B b.length cb) 0 W) => diff_calls a b A B ca cb m hma hmb w W HA.out HB.out w2.heap.size w.heap.size (by have := HBX.out.lt; omega) h)
      have Hinv := Lib.hid hinv
      clear hinv
      go_region_with ((first | (go_at_call 80; refine (cmpMaker_calls _ _).mono ?_; rintro e w3 ⟨rfl, rfl⟩) | (go_at_call 79; refine (Hd.out _ (show CmpInv _ _ _ _ _ _ from Hinv.out)).mono ?_; rintro e w3 ⟨rfl, hbw3, hbx3⟩)))
      have hdm := idxFrom_lt (fun j x => !eqS x (b.getD j z70)) (a.take m) 0
      have hdd : diffAt a b = diffM a b m := by unfold diffAt; rw [Hm.out]
      have hdl : (a.take m).length = m := by rw [List.length_take]; omega
      rw [hdl, show idxFrom (fun j x => !eqS x (b.getD j z70)) 0 (a.take m) = diffM a b m from rfl] at hdm
      have hrc : rowCmp a b = if diffAt a b < 0 then cmpInt a.length b.length else cmpV (a.getD (diffAt a b).toNat z70) (b.getD (diffAt a b).toNat z70) := by simp [rowCmp, H1.out, H2.out]
      rw [hdd] at hrc
      clear hdd hdl Hd Hinv HBX b1 b2 hsl
      generalize diffM a b m = d at hrc hdm ⊢
      have Hrc := Lib.hid hrc
      clear hrc
      have b1 := hbx3.cell
      have b2 := hbx3.frozen
      have HX := Lib.hid hbx3
      clear hbx3
      by_cases hd : d < 0
      · have hfin := Hrc.out
        rw [if_pos hd] at hfin
        have Hfin := Lib.hid hfin
        clear hfin
        go_wp2_with fail
        refine (cmp51_calls _ _ _).mono ?_
        rintro e w4 ⟨rfl, hb4⟩
        go_wp2_with fail
        go_ret
        exact ⟨by rw [Hfin.out]; rfl, hbw3.trans (hb4.mono hbw3.size)⟩
      · have hfin := Hrc.out
        rw [if_neg hd] at hfin
        clear Hrc
        obtain ⟨q, rfl⟩ : ∃ q : Nat, d = q := ⟨d.toNat, by omega⟩
        have hqm : q < m := by have := hdm (by omega); omega
        clear hdm hd
        rw [Int.toNat_natCast] at hfin
        obtain ⟨x, hx⟩ : ∃ x, a[q]? = some x := ⟨a[q]'(by omega), by simp⟩
        obtain ⟨y, hy⟩ : ∃ y, b[q]? = some y := ⟨b[q]'(by omega), by simp⟩
        rw [getD_of hx, getD_of hy] at hfin
        have Hfin := Lib.hid hfin
        clear hfin
        obtain ⟨ax, rfl, x0, x1, x2⟩ := at70 (Kd.C_below HA.out hbw3) hx
        obtain ⟨ay, rfl, y0, y1, y2⟩ := at70 (Kd.C_below HB.out hbw3) hy
        clear hx hy
        have q0 : (0 : Int) ≤ (q : Int) := by omega
        have q1 : (q : Int) < (a.length : Int) := by omega
        have q2 : (q : Int) < (b.length : Int) := by omega
        go_wp2_with fail
        go_still_tail 8, (by kernel_rfl)
        change wpList _ _ _ _ _ w3.drew
        go_wp2_with fail
        refine (vcmp_calls x y _ Try.strings_Compare).mono ?_
        rintro e w4 ⟨rfl, hb4⟩
        go_wp2_with fail
        go_ret
        exact ⟨by rw [Hfin.out]; rfl, (hbw3.drew).trans (hb4.mono hbw3.size)⟩
end Go.Proofs.Ytjkepojmceffkaa
namespace Go.Proofs.Ytjkepojmceffkaa
open Go Go.RowKit Go.Proofs.YtjkepojmceffkaaW.PrintWords Go.Proofs.Ytjkepojmceffkaa.R
theorem wrap_succ {i : Nat} (h : i < 9223372036854775807) : wrap64 ((i : Int) + 1) = ((i + 1 : Nat) : Int) := by unfold wrap64; omega
def sameRow : List S70 → List S70 → Bool
  | [], [] => true
  | x :: xs, y :: ys => eqS x y && sameRow xs ys
  | _, _ => false
theorem sameRow_length : ∀ {a b : List S70}, sameRow a b = true → a.length = b.length
  | [], [], _ => rfl
  | x :: xs, y :: ys, h => by simp [sameRow] at h; simp [sameRow_length h.2]
  | [], _ :: _, h => by simp [sameRow] at h
  | _ :: _, [], h => by simp [sameRow] at h
theorem same130 (a b : List S70) (hab : a.length = b.length) (hm : a.length ≤ 9223372036854775807) : ∀ (d j : Nat), j + d = a.length → ∀ k, d < k →
    R.api_Value_130.l0 k a b (a.length : Int) (j : Int) = some (sameRow (a.drop j) (b.drop j)) := by
  intro d
  induction d with
  | zero =>
    intro j hj k hk
    obtain ⟨k, rfl⟩ : ∃ m, k = m + 1 := ⟨k - 1, by omega⟩
    simp only [R.api_Value_130.l0]
    rw [if_neg (by omega), List.drop_of_length_le (by omega), List.drop_of_length_le (by omega)]
    rfl
  | succ d ih =>
    intro j hj k hk
    obtain ⟨k, rfl⟩ : ∃ m, k = m + 1 := ⟨k - 1, by omega⟩
    simp only [R.api_Value_130.l0]
    rw [if_pos (by omega), if_pos (by omega), if_pos (by omega), if_pos (by omega), wrap_succ (by omega), ih (j + 1) (by omega) k (by omega)]
    rw [drop_cons (xs := a) (j := j) (by omega), drop_cons (xs := b) (j := j) (by omega)]
    have e1 : rd_T70 a (j : Int) = a[j] := getD_of (by simp)
    have e2 : rd_T70 b (j : Int) = b[j] := getD_of (by simp)
    rw [e1, e2]
    simp only [sameRow]
    have e3 : (!a[j].f0 == b[j].f0 || (!a[j].f1 == b[j].f1 || !a[j].f2.toList == b[j].f2.toList)) = !eqS a[j] b[j] := by simp [eqS]
    rw [e3]
    cases eqS a[j] b[j]
    · simp
    · simp only [Bool.not_true, Bool.true_and]
      rfl
theorem same111 (a b : List S70) (hm : a.length ≤ 9223372036854775807) : R.row_Same.f (a.length + 1) a b = some (sameRow a b) := by
  unfold R.row_Same.f R.api_Value_130.f
  by_cases h : a.length = b.length
  · have h1 := same130 a b h hm a.length 0 (by omega) (a.length + 1) (by omega)
    rw [if_pos (by omega), show (0 : Int) = ((0 : Nat) : Int) from rfl, h1]
    rfl
  · rw [if_neg (by omega)]
    have : sameRow a b = false := by
      cases hs : sameRow a b with
      | false => rfl
      | true => exact absurd (sameRow_length hs) h
    rw [this]
    rfl
theorem same_calls (a b : List S70) (A B : Option Addr) (ca cb : Nat) (w : World) (hA : Kd.C k70 w A a.length a) (hca : a.length ≤ ca) (hB : Kd.C k70 w B b.length b) (hcb : b.length ≤ cb) :
    Calls Try.prog 111 #[.slice A a.length ca, .slice B b.length cb] w fun e w' => e = .returned (.bool (sameRow a b)) ∧ ∃ n, w' = w.drewN n :=
  (R.row_Same.calls _ A ca a B cb b _ w hA hca hB hcb (same111 a b hA.2.1)).mono fun e w' ⟨he, hd⟩ => ⟨he, hd.out⟩
end Go.Proofs.Ytjkepojmceffkaa
namespace Go.Proofs.Ytjkepojmceffkaa
open Go Go.RowKit Go.Proofs.YtjkepojmceffkaaW.PrintWords Go.Proofs.Ytjkepojmceffkaa.R
theorem toList_eq' (s : ByteArray) : s.toList = s.data.toList := ByteArray.toList_eq s
theorem bytes_inj' {a b : ByteArray} (h : a.data.toList = b.data.toList) : a = b := by
  cases a; cases b
  simp at h
  simp [h]
structure Ordr {α : Type} (ok : α → Prop) (c : α → α → Int) : Prop where
  eq : ∀ a b, ok a → ok b → (c a b = 0 ↔ a = b)
  sym : ∀ a b, ok a → ok b → (c a b < 0 ↔ c b a > 0)
  trans : ∀ a b d, ok a → ok b → ok d → c a b < 0 → c b d < 0 → c a d < 0
theorem ordr_int : Ordr (fun _ : Int => True) cmpInt where
  eq := fun a b _ _ => by
    unfold cmpInt
    split
    · simp; omega
    · split
      · simp; omega
      · simp; omega
  sym := fun a b _ _ => by
    unfold cmpInt
    by_cases h1 : a < b
    · simp [h1, show ¬ b < a by omega]
    · by_cases h2 : b < a
      · simp [h1, h2]
      · simp [h1, h2]
  trans := fun a b d _ _ _ h1 h2 => by
    unfold cmpInt at *
    by_cases x : a < b
    · by_cases y : b < d
      · simp [show a < d by omega]
      · rw [if_neg y] at h2; split at h2 <;> simp at h2
    · rw [if_neg x] at h1; split at h1 <;> simp at h1
theorem u8_lt {a b : UInt8} : a < b ↔ a.toNat < b.toNat := UInt8.lt_iff_toNat_lt
theorem u8_eq {a b : UInt8} : a = b ↔ a.toNat = b.toNat := ⟨fun h => by rw [h], fun h => UInt8.toNat_inj.1 h⟩
theorem cb_eq : ∀ a b : List UInt8, Lib.compareBytes a b = 0 ↔ a = b
  | [], [] => by simp [Lib.compareBytes]
  | [], _ :: _ => by simp [Lib.compareBytes]
  | _ :: _, [] => by simp [Lib.compareBytes]
  | a :: a_s, b :: b_s => by
    rw [Lib.compareBytes]
    by_cases h1 : a < b
    · rw [if_pos h1]
      simp only [List.cons.injEq]
      constructor
      · intro h; omega
      · rintro ⟨rfl, _⟩; rw [u8_lt] at h1; omega
    · rw [if_neg h1]
      by_cases h2 : b < a
      · rw [if_pos h2]
        simp only [List.cons.injEq]
        constructor
        · intro h; omega
        · rintro ⟨rfl, _⟩; rw [u8_lt] at h2; omega
      · rw [if_neg h2, cb_eq a_s b_s]
        have : a = b := by rw [u8_lt] at h1 h2; rw [u8_eq]; omega
        simp [this]
theorem cb_sym : ∀ a b : List UInt8, Lib.compareBytes a b < 0 ↔ Lib.compareBytes b a > 0
  | [], [] => by simp [Lib.compareBytes]
  | [], _ :: _ => by simp [Lib.compareBytes]
  | _ :: _, [] => by simp [Lib.compareBytes]
  | a :: a_s, b :: b_s => by
    rw [Lib.compareBytes, Lib.compareBytes]
    by_cases h1 : a < b
    · rw [if_pos h1, if_neg (by rw [u8_lt] at *; omega), if_pos h1]; simp
    · rw [if_neg h1]
      by_cases h2 : b < a
      · rw [if_pos h2, if_pos h2]; simp
      · rw [if_neg h2, if_neg h2, if_neg h1, cb_sym a_s b_s]
theorem cb_trans : ∀ a b d : List UInt8, Lib.compareBytes a b < 0 → Lib.compareBytes b d < 0 → Lib.compareBytes a d < 0
  | [], [], _, h, _ => by simp [Lib.compareBytes] at h
  | _ :: _, [], _, h, _ => by simp [Lib.compareBytes] at h
  | _, _ :: _, [], _, h => by simp [Lib.compareBytes] at h
  | [], _ :: _, _ :: _, _, _ => by simp [Lib.compareBytes]
  | a :: a_s, b :: b_s, d :: d_s, h1, h2 => by
    rw [Lib.compareBytes] at *
    by_cases x1 : a < b
    · by_cases y1 : b < d
      · rw [if_pos (by rw [u8_lt] at *; omega)]; omega
      · rw [if_neg y1] at h2
        by_cases y2 : d < b
        · rw [if_pos y2] at h2; omega
        · have : b = d := by rw [u8_lt] at y1 y2; rw [u8_eq]; omega
          subst this
          rw [if_pos x1]; omega
    · rw [if_neg x1] at h1
      by_cases x2 : b < a
      · rw [if_pos x2] at h1; omega
      · rw [if_neg x2] at h1
        have : a = b := by rw [u8_lt] at x1 x2; rw [u8_eq]; omega
        subst this
        by_cases y1 : a < d
        · rw [if_pos y1]; omega
        · rw [if_neg y1] at h2 ⊢
          by_cases y2 : d < a
          · rw [if_pos y2] at h2; omega
          · rw [if_neg y2] at h2 ⊢
            exact cb_trans a_s b_s d_s h1 h2
def lexC {α : Type} (c : α → α → Int) : List α → List α → Int
  | [], [] => 0
  | [], _ :: _ => -1
  | _ :: _, [] => 1
  | a :: a_s, b :: b_s => if c a b = 0 then lexC c a_s b_s else c a b
theorem ordr_lex {α : Type} {ok : α → Prop} {c : α → α → Int} (h : Ordr ok c) : Ordr (fun l => ∀ x ∈ l, ok x) (lexC c) where
  eq := by
    intro a
    induction a with
    | nil => intro b _ _; cases b <;> simp [lexC]
    | cons x xs ih =>
      intro b ha hb
      cases b with
      | nil => simp [lexC]
      | cons y ys =>
        have hx := ha x (by simp)
        have hy := hb y (by simp)
        rw [lexC]
        by_cases e : c x y = 0
        · rw [if_pos e, ih ys (fun z hz => ha z (by simp [hz])) (fun z hz => hb z (by simp [hz]))]
          simp [(h.eq x y hx hy).1 e]
        · rw [if_neg e]
          simp only [List.cons.injEq]
          exact ⟨fun h0 => absurd h0 e, fun h0 => absurd ((h.eq x y hx hy).2 h0.1) e⟩
  sym := by
    intro a
    induction a with
    | nil => intro b _ _; cases b <;> simp [lexC]
    | cons x xs ih =>
      intro b ha hb
      cases b with
      | nil => simp [lexC]
      | cons y ys =>
        have hx := ha x (by simp)
        have hy := hb y (by simp)
        rw [lexC, lexC]
        by_cases e : c x y = 0
        · have exy := (h.eq x y hx hy).1 e
          rw [if_pos e, if_pos ((h.eq y x hy hx).2 exy.symm)]
          exact ih ys (fun z hz => ha z (by simp [hz])) (fun z hz => hb z (by simp [hz]))
        · rw [if_neg e, if_neg (fun h0 => e ((h.eq x y hx hy).2 ((h.eq y x hy hx).1 h0).symm))]
          exact h.sym x y hx hy
  trans := by
    intro a
    induction a with
    | nil => intro b d _ _ _ h1 h2; cases b <;> cases d <;> simp [lexC] at *
    | cons x xs ih =>
      intro b d ha hb hd h1 h2
      cases b with
      | nil => simp [lexC] at h1
      | cons y ys =>
        cases d with
        | nil => simp [lexC] at h2
        | cons z zs =>
          have hx := ha x (by simp)
          have hy := hb y (by simp)
          have hz := hd z (by simp)
          rw [lexC] at *
          by_cases e : c x y = 0
          · have exy := (h.eq x y hx hy).1 e
            subst exy
            rw [if_pos e] at h1
            by_cases e2 : c x z = 0
            · rw [if_pos e2] at h2 ⊢
              exact ih ys zs (fun w hw => ha w (by simp [hw])) (fun w hw => hb w (by simp [hw])) (fun w hw => hd w (by simp [hw])) h1 h2
            · rw [if_neg e2] at h2 ⊢
              exact h2
          · rw [if_neg e] at h1
            by_cases e2 : c y z = 0
            · have eyz := (h.eq y z hy hz).1 e2
              subst eyz
              rw [if_neg e]
              exact h1
            · rw [if_neg e2] at h2
              have h3 := h.trans x y z hx hy hz h1 h2
              rw [if_neg (by omega)]
              exact h3
theorem eqS_iff (x y : S70) : eqS x y = true ↔ x = y := by
  obtain ⟨a, b, s⟩ := x
  obtain ⟨a', b', s'⟩ := y
  simp only [eqS, Bool.and_eq_true, beq_iff_eq, S70.mk.injEq, toList_eq']
  constructor
  · rintro ⟨rfl, rfl, h⟩; exact ⟨rfl, rfl, bytes_inj' h⟩
  · rintro ⟨rfl, rfl, rfl⟩; exact ⟨rfl, rfl, rfl⟩
theorem sameRow_iff : ∀ a b : List S70, sameRow a b = true ↔ a = b
  | [], [] => by simp [sameRow]
  | [], _ :: _ => by simp [sameRow]
  | _ :: _, [] => by simp [sameRow]
  | x :: xs, y :: ys => by simp [sameRow, eqS_iff, sameRow_iff xs ys]
theorem isNum_iff {k : Int} {s : ByteArray} : isNum k s = true ↔ k = 1 ∧ s = ⟨#[]⟩ := by
  simp only [isNum, Bool.and_eq_true, beq_iff_eq, List.isEmpty_iff, toList_eq']
  constructor
  · rintro ⟨rfl, h⟩; exact ⟨rfl, bytes_inj' (by simpa using h)⟩
  · rintro ⟨rfl, rfl⟩; exact ⟨rfl, rfl⟩
theorem isTxt_iff {k n : Int} {s : ByteArray} : isTxt k n s = true ↔ k = 2 ∧ n = 0 ∧ (s.size : Int) ≤ 64 := by
  simp [isTxt, and_assoc]
theorem okS_cases {x : S70} (h : okS x = true) : (∃ n, x = ⟨1, n, ⟨#[]⟩⟩) ∨ (∃ s : ByteArray, x = ⟨2, 0, s⟩ ∧ (s.size : Int) ≤ 64) := by
  obtain ⟨k, n, s⟩ := x
  simp only [okS, okV, Bool.or_eq_true] at h
  rcases h with h | h
  · obtain ⟨rfl, rfl⟩ := isNum_iff.1 h
    exact .inl ⟨n, rfl⟩
  · obtain ⟨rfl, rfl, h3⟩ := isTxt_iff.1 h
    exact .inr ⟨s, rfl, h3⟩
theorem cmpV_nn (a b : Int) : cmpV ⟨1, a, ⟨#[]⟩⟩ ⟨1, b, ⟨#[]⟩⟩ = cmpInt a b := by
  simp only [cmpV, isNum_iff.2 ⟨rfl, rfl⟩, if_true]
theorem notNum (k n : Int) (s : ByteArray) (h : k = 2) : isNum k s = false := by
  cases hh : isNum k s with
  | false => rfl
  | true => exact absurd (isNum_iff.1 hh).1 (by omega)
theorem cmpV_nt (a : Int) (s : ByteArray) (h : (s.size : Int) ≤ 64) : cmpV ⟨1, a, ⟨#[]⟩⟩ ⟨2, 0, s⟩ = -1 := by
  simp only [cmpV, isNum_iff.2 ⟨rfl, rfl⟩, if_true, notNum 2 0 s rfl, isTxt_iff.2 ⟨rfl, rfl, h⟩, Bool.false_eq_true, if_false]
theorem cmpV_tn (a : Int) (s : ByteArray) (h : (s.size : Int) ≤ 64) : cmpV ⟨2, 0, s⟩ ⟨1, a, ⟨#[]⟩⟩ = 1 := by
  simp only [cmpV, isNum_iff.2 ⟨rfl, rfl⟩, if_true, notNum 2 0 s rfl, isTxt_iff.2 ⟨rfl, rfl, h⟩, Bool.false_eq_true, if_false]
theorem cmpV_tt (s s' : ByteArray) (h : (s.size : Int) ≤ 64) (h' : (s'.size : Int) ≤ 64) : cmpV ⟨2, 0, s⟩ ⟨2, 0, s'⟩ = Lib.compareBytes s.data.toList s'.data.toList := by
  simp only [cmpV, notNum 2 0 s rfl, notNum 2 0 s' rfl, isTxt_iff.2 ⟨rfl, rfl, h⟩, isTxt_iff.2 ⟨rfl, rfl, h'⟩, Bool.false_eq_true, if_false, if_true]
theorem ordr_V : Ordr (fun x : S70 => okS x = true) cmpV where
  eq := fun a b ha hb => by
    rcases okS_cases ha with ⟨n, rfl⟩ | ⟨s, rfl, hs⟩ <;> rcases okS_cases hb with ⟨m, rfl⟩ | ⟨s', rfl, hs'⟩
    · rw [cmpV_nn, ordr_int.eq _ _ trivial trivial]; simp
    · rw [cmpV_nt _ _ hs']; simp
    · rw [cmpV_tn _ _ hs]; simp
    · rw [cmpV_tt _ _ hs hs', cb_eq]
      simp only [S70.mk.injEq, true_and]
      exact ⟨bytes_inj', fun h => by rw [h]⟩
  sym := fun a b ha hb => by
    rcases okS_cases ha with ⟨n, rfl⟩ | ⟨s, rfl, hs⟩ <;> rcases okS_cases hb with ⟨m, rfl⟩ | ⟨s', rfl, hs'⟩
    · rw [cmpV_nn, cmpV_nn]; exact ordr_int.sym _ _ trivial trivial
    · rw [cmpV_nt _ _ hs', cmpV_tn _ _ hs']; simp
    · rw [cmpV_tn _ _ hs, cmpV_nt _ _ hs]; simp
    · rw [cmpV_tt _ _ hs hs', cmpV_tt _ _ hs' hs]; exact cb_sym _ _
  trans := fun a b d ha hb hd h1 h2 => by
    rcases okS_cases ha with ⟨n, rfl⟩ | ⟨s, rfl, hs⟩ <;> rcases okS_cases hb with ⟨m, rfl⟩ | ⟨s', rfl, hs'⟩ <;> rcases okS_cases hd with ⟨o, rfl⟩ | ⟨s'', rfl, hs''⟩
    · rw [cmpV_nn] at *; exact ordr_int.trans _ _ _ trivial trivial trivial h1 h2
    · rw [cmpV_nt _ _ hs'']; omega
    · rw [cmpV_tn _ _ hs'] at h2; omega
    · rw [cmpV_nt _ _ hs'']; omega
    · rw [cmpV_tn _ _ hs] at h1; omega
    · rw [cmpV_tn _ _ hs] at h1; omega
    · rw [cmpV_tn _ _ hs'] at h2; omega
    · rw [cmpV_tt _ _ hs hs'] at h1; rw [cmpV_tt _ _ hs' hs''] at h2; rw [cmpV_tt _ _ hs hs'']; exact cb_trans _ _ _ h1 h2
theorem rowMay_ok {r : List S70} (h : rowMay r = true) : r.length ≤ 8 ∧ ∀ x ∈ r, okS x = true := by
  simp only [rowMay, Bool.and_eq_true, decide_eq_true_eq, List.all_eq_true] at h
  exact h
theorem ordr_lexV : Ordr (fun r : List S70 => rowMay r = true) (lexC cmpV) where
  eq := fun a b ha hb => (ordr_lex ordr_V).eq a b (rowMay_ok ha).2 (rowMay_ok hb).2
  sym := fun a b ha hb => (ordr_lex ordr_V).sym a b (rowMay_ok ha).2 (rowMay_ok hb).2
  trans := fun a b d ha hb hd => (ordr_lex ordr_V).trans a b d (rowMay_ok ha).2 (rowMay_ok hb).2 (rowMay_ok hd).2
end Go.Proofs.Ytjkepojmceffkaa
namespace Go.Proofs.Ytjkepojmceffkaa
open Go Go.RowKit Go.Proofs.YtjkepojmceffkaaW.PrintWords Go.Proofs.Ytjkepojmceffkaa.R
theorem idxFrom_shift {α : Type} (p : Nat → α → Bool) : ∀ (xs : List α) (j : Nat), idxFrom p (j + 1) xs = (if idxFrom (fun i x => p (i + 1) x) j xs < 0 then -1 else idxFrom (fun i x => p (i + 1) x) j xs + 1)
  | [], _ => by simp [idxFrom]
  | x :: xs, j => by
    rw [idxFrom, idxFrom]
    by_cases h : p (j + 1) x = true
    · rw [if_pos h, if_pos h, if_neg (by omega)]; omega
    · rw [if_neg h, if_neg h, idxFrom_shift p xs (j + 1)]
theorem lex_diff : ∀ (a b : List S70), (∀ x ∈ a, okS x = true) → (∀ x ∈ b, okS x = true) →
    lexC cmpV a b = (if idxFrom (fun j x => !eqS x (b.getD j z70)) 0 (a.take (min a.length b.length)) < 0 then cmpInt a.length b.length
      else cmpV (a.getD (idxFrom (fun j x => !eqS x (b.getD j z70)) 0 (a.take (min a.length b.length))).toNat z70) (b.getD (idxFrom (fun j x => !eqS x (b.getD j z70)) 0 (a.take (min a.length b.length))).toNat z70))
  | [], [], _, _ => by simp [lexC, idxFrom, cmpInt]
  | [], y :: ys, _, _ => by simp [lexC, idxFrom, cmpInt] <;> omega
  | x :: xs, [], _, _ => by simp [lexC, idxFrom, cmpInt] <;> omega
  | x :: xs, y :: ys, ha, hb => by
    have hx := ha x (by simp)
    have hy := hb y (by simp)
    have ih := lex_diff xs ys (fun z hz => ha z (by simp [hz])) (fun z hz => hb z (by simp [hz]))
    have hm : (x :: xs).take (min (x :: xs).length (y :: ys).length) = x :: xs.take (min xs.length ys.length) := by
      rw [show min (x :: xs).length (y :: ys).length = min xs.length ys.length + 1 by simp <;> omega]; rfl
    rw [hm, lexC, idxFrom]
    by_cases e : x = y
    · subst e
      have h0 : eqS x x = true := (eqS_iff x x).2 rfl
      rw [if_pos ((ordr_V.eq x x hx hx).2 rfl), ih]
      simp only [List.getD_cons_zero, h0, Bool.not_true, Bool.false_eq_true, if_false]
      rw [idxFrom_shift]
      simp only [List.getD_cons_succ]
      have hc : cmpInt ((x :: xs).length : Int) ((x :: ys).length : Int) = cmpInt (xs.length : Int) (ys.length : Int) := by
        simp only [cmpInt, List.length_cons]
        by_cases h1 : (xs.length : Int) < ys.length
        · rw [if_pos h1, if_pos (by omega)]
        · rw [if_neg h1, if_neg (by omega)]
          by_cases h2 : (ys.length : Int) < xs.length
          · rw [if_pos h2, if_pos (by omega)]
          · rw [if_neg h2, if_neg (by omega)]
      generalize hd : idxFrom (fun j x => !eqS x (ys.getD j z70)) 0 (xs.take (min xs.length ys.length)) = d
      by_cases hn : d < 0
      · rw [if_pos hn, if_pos hn, if_pos (by omega), hc]
      · rw [if_neg hn, if_neg hn, if_neg (by omega)]
        rw [show (d + 1).toNat = d.toNat + 1 by omega]
        rfl
    · have h0 : eqS x y = false := by
        cases h : eqS x y with
        | false => rfl
        | true => exact absurd ((eqS_iff x y).1 h) e
      rw [if_neg (fun h => e ((ordr_V.eq x y hx hy).1 h))]
      simp [h0]
theorem rowCmp_lex {a b : List S70} (ha : rowMay a = true) (hb : rowMay b = true) : rowCmp a b = lexC cmpV a b := by
  rw [lex_diff a b (rowMay_ok ha).2 (rowMay_ok hb).2, rowCmp, ha, hb]
  rfl
theorem ordr_row : Ordr (fun r : List S70 => rowMay r = true) rowCmp where
  eq := fun a b ha hb => by rw [rowCmp_lex ha hb]; exact ordr_lexV.eq a b ha hb
  sym := fun a b ha hb => by rw [rowCmp_lex ha hb, rowCmp_lex hb ha]; exact ordr_lexV.sym a b ha hb
  trans := fun a b d ha hb hd => by rw [rowCmp_lex ha hb, rowCmp_lex hb hd, rowCmp_lex ha hd]; exact ordr_lexV.trans a b d ha hb hd
theorem up_mono {α : Type} {f : Nat → Option α} (hm : ∀ k, LeO (f k) (f (k + 1))) {K : Nat} {r : α} (h : f K = some r) : ∀ k, K ≤ k → f k = some r := by
  intro k hk
  induction k with
  | zero => rw [show K = 0 by omega] at h; exact h
  | succ k ih =>
    by_cases e : K ≤ k
    · exact hm k r (ih e)
    · rw [show k + 1 = K by omega]; exact h
theorem rd70 {f : List S70} {j : Nat} (h : j < f.length) : rd_T70 f (j : Int) = f[j] := by simp [rd_T70, List.getD, h]
theorem ref05May (x : S70) : rescindref05_May.f x.f0 x.f1 x.f2 = some (okS x) := by
  unfold rescindref05_May.f okS okV
  by_cases h1 : x.f0 = 1
  · rw [if_pos h1]
    simp [isNum, isTxt, h1, List.isEmpty_iff]
    try (cases x.f2.toList <;> simp)
  · rw [if_neg h1]
    by_cases h2 : x.f0 = 2
    · rw [if_pos h2]
      by_cases h3 : x.f1 = 0
      · rw [if_pos h3]; simp [isNum, isTxt, h2, h3]
      · rw [if_neg h3]; simp [isNum, isTxt, h2, h3]
    · rw [if_neg h2]; simp [isNum, isTxt, h1, h2]
theorem ref06Same_l0 (a b : List S70) (hab : a.length = b.length) (hm : a.length ≤ 1000000000000) : ∀ d j, j + d = a.length → rescindref06_Same.l0 (d + 1) a b (j : Int) = some (sameRow (a.drop j) (b.drop j)) := by
  intro d
  induction d with
  | zero =>
    intro j hj
    rw [rescindref06_Same.l0, if_neg (by omega), List.drop_of_length_le (by omega), List.drop_of_length_le (by omega)]
    rfl
  | succ d ih =>
    intro j hj
    have h1 : j < a.length := by omega
    have h2 : j < b.length := by omega
    rw [rescindref06_Same.l0, if_pos (by omega), if_pos (by omega), if_pos (by omega), rd70 h1, rd70 h2, drop_cons h1, drop_cons h2, wrap_succ (by omega), ih (j + 1) (by omega)]
    rw [sameRow]
    cases he : eqS a[j] b[j] with
    | true =>
      rw [if_neg]
      · simp
      · simp only [eqS, Bool.and_eq_true] at he
        simp [he.1, he.2.1, he.2.2]
    | false =>
      rw [if_pos]
      · simp
      · simp only [eqS, Bool.and_eq_false_iff] at he
        rcases he with h | h | h <;> simp [h]
theorem ref06Same (a b : List S70) (hm : a.length ≤ 1000000000000) : ∀ k, a.length + 1 ≤ k → rescindref06_Same.f k a b = some (sameRow a b) := by
  refine up_mono (rescindref06_Same.mono a b) ?_
  unfold rescindref06_Same.f
  by_cases h : a.length = b.length
  · rw [if_pos (by omega)]
    have := ref06Same_l0 a b h hm a.length 0 (by omega)
    simpa using this
  · rw [if_neg (by omega)]
    cases hs : sameRow a b with
    | false => rfl
    | true => exact absurd (sameRow_length hs) h
theorem ref06May_l0 (r : List S70) : ∀ m j, j + m = min r.length 9 → rescindref06_May.l0 (2 * m + 2) r (j : Int) = some (decide (r.length ≤ 8) && ((r.take 9).drop j).all okS) := by
  intro m
  induction m with
  | zero =>
    intro j hj
    rw [rescindref06_May.l0]
    have hd : (r.take 9).drop j = [] := List.drop_of_length_le (by simp; omega)
    rw [hd]
    by_cases h : (j : Int) < r.length
    · rw [if_pos h, decide_eq_false (by omega), rescindref06_May.j1, if_neg (by simp)]
      simp
      omega
    · rw [if_neg h, rescindref06_May.j1, if_neg (by simp)]
      simp
      omega
  | succ m ih =>
    intro j hj
    have h1 : j < r.length := by omega
    have h9 : j < (r.take 9).length := by simp; omega
    rw [show 2 * (m + 1) + 2 = (2 * m + 2) + 1 + 1 by omega, rescindref06_May.l0, if_pos (by omega), decide_eq_true (by omega), rescindref06_May.j1, if_pos rfl, if_pos (by omega), if_pos (by omega), rd70 h1, ref05May]
    simp only [Option.bind_some]
    rw [drop_cons h9, wrap_succ (by omega), ih (j + 1) (by omega)]
    rw [show (r.take 9)[j] = r[j] by simp]
    simp only [List.all_cons]
    generalize ((r.take 9).drop (j + 1)).all okS = b
    generalize decide (r.length ≤ 8) = d
    cases okS r[j] <;> cases b <;> cases d <;> simp
theorem ref06May (r : List S70) : ∀ k, 20 ≤ k → rescindref06_May.f k r = some (rowMay r) := by
  refine up_mono (rescindref06_May.mono r) ?_
  unfold rescindref06_May.f
  have h := ref06May_l0 r (min r.length 9) 0 (by omega)
  have h2 : rescindref06_May.l0 20 r 0 = some (decide (r.length ≤ 8) && ((r.take 9).drop 0).all okS) :=
    up_mono (f := fun k => rescindref06_May.l0 k r 0) (fun k => (rescindref06_May.mono_l k).1 r 0) h 20 (by omega)
  rw [h2]
  unfold rowMay
  by_cases h8 : r.length ≤ 8
  · rw [List.take_of_length_le (by omega)]; rfl
  · rw [decide_eq_false h8]; rfl
end Go.Proofs.Ytjkepojmceffkaa
namespace Go.Proofs.Ytjkepojmceffkaa
open Go Go.RowKit Go.Proofs.YtjkepojmceffkaaW.PrintWords Go.Proofs.Ytjkepojmceffkaa.R
theorem bt_list (s : ByteArray) {j : Nat} (h : j < s.data.toList.length) : bt s (j : Int) = (s.data.toList[j].toNat : Int) := by
  have hs : j < s.size := by simpa using h
  have := bt_at s (j : Int) (by simpa using hs)
  rw [← this]
  rfl
theorem ref05Cmp_l0 (s s' : ByteArray) (k0 n0 k1 n1 : Int) (h : s.size ≤ 1000000) (h' : s'.size ≤ 1000000) : ∀ m j, j + m = min s.size s'.size →
    rescindref05_Compare.l0 (2 * m + 2) (j : Int) k0 n0 s k1 n1 s' = some (Lib.compareBytes (s.data.toList.drop j) (s'.data.toList.drop j)) := by
  have e : s.data.toList.length = s.size := by simp
  have e' : s'.data.toList.length = s'.size := by simp
  intro m
  induction m with
  | zero =>
    intro j hj
    have hj2 : j = s.size ∨ j = s'.size := by omega
    have hfin : rescindref05_Compare.j2 1 (j : Int) false k0 n0 s k1 n1 s' = some (Lib.compareBytes (s.data.toList.drop j) (s'.data.toList.drop j)) := by
      rw [rescindref05_Compare.j2, if_neg (by simp)]
      by_cases h1 : s.size = s'.size
      · rw [if_pos (by omega), List.drop_of_length_le (by omega), List.drop_of_length_le (by omega)]; rfl
      · rw [if_neg (by omega)]
        by_cases h2 : s.size < s'.size
        · rw [if_pos (by omega), List.drop_of_length_le (by omega), drop_cons (by omega)]; rfl
        · rw [if_neg (by omega), List.drop_of_length_le (l := s'.data.toList) (by omega), drop_cons (xs := s.data.toList) (by omega)]; rfl
    rw [rescindref05_Compare.l0]
    by_cases h1 : (j : Int) < s.size
    · rw [if_pos h1, decide_eq_false (by omega)]; exact hfin
    · rw [if_neg h1]; exact hfin
  | succ m ih =>
    intro j hj
    have h1 : j < s.data.toList.length := by omega
    have h2 : j < s'.data.toList.length := by omega
    rw [show 2 * (m + 1) + 2 = (2 * m + 2) + 1 + 1 by omega, rescindref05_Compare.l0, if_pos (by omega), decide_eq_true (by omega), rescindref05_Compare.j2, if_pos rfl, if_pos (by omega), if_pos (by omega), if_pos (by omega),
      bt_list s h1, bt_list s' h2, drop_cons h1, drop_cons h2, wrap_succ (by omega), ih (j + 1) (by omega), Lib.compareBytes]
    generalize s.data.toList[j] = x
    generalize s'.data.toList[j] = y
    by_cases hxy : (x.toNat : Int) = y.toNat
    · rw [if_pos hxy, if_neg (by rw [u8_lt]; omega), if_neg (by rw [u8_lt]; omega)]
    · rw [if_neg hxy]
      by_cases hl : (x.toNat : Int) < y.toNat
      · rw [if_pos hl, if_pos (by rw [u8_lt]; omega)]
      · rw [if_neg hl, if_neg (by rw [u8_lt]; omega), if_pos (by rw [u8_lt]; omega)]
theorem ref05Cmp (a b : S70) : ∀ k, 200 ≤ k → rescindref05_Compare.f k a.f0 a.f1 a.f2 b.f0 b.f1 b.f2 = some (cmpV a b) := by
  refine up_mono (rescindref05_Compare.mono _ _ _ _ _ _) ?_
  unfold rescindref05_Compare.f
  rw [ref05May, ref05May]
  simp only [Option.bind_some]
  cases ha : okS a with
  | false =>
    rw [if_neg (by simp), rescindref05_Compare.j0, if_pos rfl]
    simp only [okS, okV, Bool.or_eq_false_iff] at ha
    simp [cmpV, ha.1, ha.2]
  | true =>
    rw [if_pos rfl]
    cases hb : okS b with
    | false =>
      rw [rescindref05_Compare.j0, if_pos (by simp)]
      simp only [okS, okV, Bool.or_eq_false_iff] at hb
      simp [cmpV, hb.1, hb.2]
    | true =>
      rw [rescindref05_Compare.j0, if_neg (by simp)]
      have hl : ∀ (s s' : ByteArray) (k0 n0 k1 n1 : Int), (s.size : Int) ≤ 64 → (s'.size : Int) ≤ 64 → rescindref05_Compare.l0 199 0 k0 n0 s k1 n1 s' = some (Lib.compareBytes s.data.toList s'.data.toList) := fun s s' k0 n0 k1 n1 h h' => by
        have := ref05Cmp_l0 s s' k0 n0 k1 n1 (by omega) (by omega) (min s.size s'.size) 0 (by omega)
        exact up_mono (f := fun k => rescindref05_Compare.l0 k 0 k0 n0 s k1 n1 s') (fun k => by have := rescindref05_Compare.mono_l k; first | exact this.2.1 _ _ _ _ _ _ _ | exact this.1 _ _ _ _ _ _ _) this 199 (by omega)
      rcases okS_cases ha with ⟨n, rfl⟩ | ⟨s, rfl, hs⟩ <;> rcases okS_cases hb with ⟨m, rfl⟩ | ⟨s', rfl, hs'⟩
      · simp only [if_true]
        rw [cmpV_nn]
        by_cases e : n = m
        · subst e
          rw [if_pos rfl, hl _ _ _ _ _ _ (by decide) (by decide), (ordr_int.eq n n trivial trivial).2 rfl]; rfl
        · rw [if_neg e]
          unfold cmpInt
          by_cases h1 : n < m
          · rw [if_pos h1, if_pos h1]
          · rw [if_neg h1, if_neg h1, if_pos (by omega)]
      · rw [cmpV_nt _ _ hs']; simp
      · rw [cmpV_tn _ _ hs]; simp
      · simp only [if_true]
        rw [cmpV_tt _ _ hs hs', hl _ _ _ _ _ _ hs hs']
theorem ref06Cmp_l0 (a b : List S70) (ha : rowMay a = true) (hb : rowMay b = true) : ∀ m j, j + m = min a.length b.length → ∀ k, 201 ≤ k → rescindref06_Compare.l0 (k + 2 * m + 2) a b (j : Int) = some (lexC cmpV (a.drop j) (b.drop j)) := by
  have la := (rowMay_ok ha).1
  have lb := (rowMay_ok hb).1
  intro m
  induction m with
  | zero =>
    intro j hj k hk
    have hj2 : j = a.length ∨ j = b.length := by omega
    have hfin : ∀ q, rescindref06_Compare.j2 (q + 1) a b (j : Int) false = some (lexC cmpV (a.drop j) (b.drop j)) := fun q => by
      rw [rescindref06_Compare.j2, if_neg (by simp)]
      by_cases h1 : (a.length : Int) < b.length
      · rw [if_pos h1, List.drop_of_length_le (by omega), drop_cons (by omega)]; rfl
      · rw [if_neg h1]
        by_cases h2 : (a.length : Int) > b.length
        · rw [if_pos h2, List.drop_of_length_le (l := b) (by omega), drop_cons (xs := a) (by omega)]; rfl
        · rw [if_neg h2, List.drop_of_length_le (by omega), List.drop_of_length_le (by omega)]; rfl
    rw [show k + 2 * 0 + 2 = k + 1 + 1 by omega, rescindref06_Compare.l0]
    by_cases h1 : (j : Int) < a.length
    · rw [if_pos h1, decide_eq_false (by omega)]; exact hfin _
    · rw [if_neg h1]; exact hfin _
  | succ m ih =>
    intro j hj k hk
    have h1 : j < a.length := by omega
    have h2 : j < b.length := by omega
    rw [show k + 2 * (m + 1) + 2 = (k + 2 * m + 2) + 1 + 1 by omega, rescindref06_Compare.l0, if_pos (by omega), decide_eq_true (by omega), rescindref06_Compare.j2, if_pos rfl, if_pos (by omega), if_pos (by omega), if_pos (by omega),
      rd70 h1, rd70 h2, ref05Cmp _ _ _ (by omega)]
    simp only [Option.bind_some]
    rw [drop_cons h1, drop_cons h2, wrap_succ (by omega), ih (j + 1) (by omega) k hk, lexC]
    split <;> rfl
theorem ref06Cmp (a b : List S70) : ∀ k, 300 ≤ k → rescindref06_Compare.f k a b = some (rowCmp a b) := by
  refine up_mono (rescindref06_Compare.mono _ _) ?_
  unfold rescindref06_Compare.f
  rw [ref06May a _ (by omega), ref06May b _ (by omega)]
  simp only [Option.bind_some]
  cases ha : rowMay a with
  | false => rw [if_neg (by simp), rescindref06_Compare.j0, if_pos rfl]; simp [rowCmp, ha]
  | true =>
    rw [if_pos rfl]
    cases hb : rowMay b with
    | false => rw [rescindref06_Compare.j0, if_pos (by simp)]; simp [rowCmp, hb]
    | true =>
      rw [rescindref06_Compare.j0, if_neg (by simp)]
      have la := (rowMay_ok ha).1
      have h := ref06Cmp_l0 a b ha hb (min a.length b.length) 0 (by omega) 201 (Nat.le_refl _)
      rw [rowCmp_lex ha hb]
      exact up_mono (f := fun k => rescindref06_Compare.l0 k a b 0) (fun k => by have := rescindref06_Compare.mono_l k; first | exact this.2.1 _ _ _ | exact this.1 _ _ _) h 299 (by omega)
end Go.Proofs.Ytjkepojmceffkaa
namespace Go.Proofs.Ytjkepojmceffkaa
open Go Go.RowKit Go.Proofs.YtjkepojmceffkaaW.PrintWords Go.Proofs.Ytjkepojmceffkaa.R
theorem info70 : (Try.prog.info? 70).map (fun i => (i.zero, i.size, i.bytes)) = some (some (.agg #[(.int .i64 0), (.int .i64 0), (.string ⟨#[]⟩)]), 3, 32) := by kernel_rfl
theorem R_of_own {α : Type} {d : Kd α} {e base : Nat} {w : World} {v : Value} (h : w.ownsRow base e d.sz v 0 []) : d.R e w base (fun _ => True) v [] :=
  ⟨fun _ _ => trivial, [], h, Reps.none _ _⟩
def TyIn (ts : List Nat) (w : World) (k : Nat) : Prop := ∃ q, q ∈ ts ∧ ∃ cells, w.heap[k]? = some (.cells cells q (0, 0))
def TF {α : Type} (d : Kd α) (ts : List Nat) (w : World) (A : Option Addr) (xs : List α) : Prop := Kd.F d w (TyIn ts w) A xs.length xs
theorem TF_step {α : Type} {d : Kd α} {ts : List Nat} {w w1 : World} {A : Option Addr} {xs : List α} (h : TF d ts w A xs) (hm : ∀ k, TyIn ts w k → w1.heap[k]? = w.heap[k]?) : TF d ts w1 A xs :=
  Kd.F_mono (Kd.F_step h (fun k hk _ => hm k hk)) (fun k hk => by
    obtain ⟨q, hq, cells, hc⟩ := hk
    exact ⟨q, hq, cells, (hm k ⟨q, hq, cells, hc⟩).trans hc⟩)
theorem TyIn.lt {ts : List Nat} {w : World} {k : Nat} (h : TyIn ts w k) : k < w.heap.size := by
  obtain ⟨_, _, _, hc⟩ := h
  exact (Array.getElem?_eq_some_iff.1 hc).1
theorem TF_below {α : Type} {d : Kd α} {ts : List Nat} {w w1 : World} {A : Option Addr} {xs : List α} (h : TF d ts w A xs) (hb : Below w.heap.size w w1) : TF d ts w1 A xs := TF_step h (fun k hk => hb.block k hk.lt)
theorem TF_now {α : Type} {d : Kd α} {ts : List Nat} {w : World} {A : Option Addr} {xs : List α} (h : TF d ts w A xs) : Kd.C d w A xs.length xs := Kd.F_now h
theorem TF_of_R {α : Type} {d : Kd α} {e base n c : Nat} {ok : Nat → Prop} {w : World} {A : Option Addr} {xs : List α} (h : d.R e w base ok (.slice A n c) xs) (hn : n = xs.length) : TF d (e :: d.E) w A xs := by
  subst hn
  exact Kd.F_mono (Kd.R_F (Kd.R_bound h)) (fun k hk => hk.2.2.2)
set_option maxRecDepth 100000 in
set_option maxHeartbeats 1000000 in
theorem rowCopy_calls (xs : List S70) (A : Option Addr) (c : Nat) (w : World) (hC : Kd.C k70 w A xs.length xs) (hr : xs.length * 32 ≤ 140737488351232) :
    Calls Try.prog 112 #[.slice A xs.length c] w fun e w' => ∃ A' c', e = .returned (.slice A' xs.length c') ∧ xs.length ≤ c' ∧ TF k70 [70] w' A' xs ∧ Below w.heap.size w w' := by
  have H := Lib.hid hC
  clear hC
  obtain ⟨i0, hi, hz0, hz1, hz2⟩ := info_parts info70
  have HI := Lib.hid hi
  have Hz0 := Lib.hid hz0
  have Hz1 := Lib.hid hz1
  have Hz2 := Lib.hid hz2
  clear hi hz0 hz1 hz2
  go_enter Try.func112, Try.ntmps112
  go_wp2_with (first | (at_make; refine wpList_make_own _ rfl _ _ 42 rfl w.heap.size 70 i0 _ 3 Try.underlying42 HI.out Hz0.out Hz1.out .i64 .i64 xs.length xs.length rfl rfl rfl ?m1 ?m2 (Nat.le_refl _) ?_; (case m1 => (rw [Hz2.out]; omega)); (case m2 => (unfold maxLen; omega)); intro w1 hown hg) | (at_builtin; refine Kd.R_append_rows k70 (Rr := k70.K w) (w0 := w) w.heap.size rfl (.tmp 5) (.tmp 6) 42 70 _ 32 rfl Try.underlying42 info70 rfl (by decide) (by decide) _ [] xs A xs.length c (fun _ => True) (fun _ => False) rfl rfl (R_of_own hown) ?a1 (fun x cs h => h) (fun _ h => h.elim) (fun _ _ => trivial) ?a2 ?a3 ?a4 ?_; (case a1 => exact Kd.C_below H.out ((Below.refl _ _).grown hg (Nat.le_refl _) (fun _ e => by cases e))); (case a2 => exact (Below.refl _ _).grown hg (Nat.le_refl _) (fun _ e => by cases e)); (case a3 => exact hg.size); (case a4 => (simp; omega)); intro v2 w2 hR hB2 hg2 _))
  rw [List.nil_append] at hR
  obtain ⟨A', c', rfl, hl, hC'⟩ := Kd.R_reads hR
  go_ret
  exact ⟨A', c', rfl, hl, TF_of_R hR rfl, hB2⟩
end Go.Proofs.Ytjkepojmceffkaa
namespace Go.Proofs.Ytjkepojmceffkaa
open Go Go.RowKit
section
variable {F : Fence} {n : Nat} {P : Program} {w : World}
def IterC {β : Type} (F : Fence) (n : Nat) (P : Program) (g : Nat) (lb : Array Value) (items : List β) (Rd : β → Array Value → World → Prop) (Mem : World → Prop) : Prop :=
  ∀ (l : Nat) (J : Nat → World → Prop) (Jx : World → Prop) (W : World),
    (∀ j A B, J j A → Below A.heap.size A B → J j B) → (∀ A B, Jx A → Below A.heap.size A B → Jx B) →
    (∀ j A, J j A → Mem A) →
    (∀ j x args A, items[j]? = some x → J j A → Rd x args A → YieldAt F (n - 1) P l args A fun e B =>
      (e = .returned (.bool true) ∧ J (j + 1) B) ∨ (e = .returned (.bool false) ∧ Jx B)) →
    J 0 W →
    CallsIn F n P g (#[.func (.yield l) #[] #[]] ++ lb) W fun e B => (∃ v, e = .returned v) ∧ (J items.length B ∨ Jx B)
def postC (B : Nat) (I : Nat → World → Prop) (Ix : Code → World → Prop) (j : Nat) (W : World) : Exit → Act → World → Prop
  | .normal, _, W' => KeepsFrom B W W' ∧ I (j + 1) W'
  | .ret, _, W' => KeepsFrom B W W' ∧ Ix .ret W'
  | .exit id, _, W' => KeepsFrom B W W' ∧ Ix (.exit id) W'
  | .goto t, _, W' => KeepsFrom B W W' ∧ Ix (.goto t) W'
  | .panic _, _, _ => False
  | .outgrown, _, _ => False
theorem grown_of_below {A B : World} (h : Below A.heap.size A B) : A.grownBy B none := ⟨h.os, h.tape, h.output, h.size, fun k hk _ => h.block k hk⟩
theorem wpIn_rangeFunc_C {β : Type} {g : Operand} {ps : Array Tmp} {assign body : Code} {Q : Exit → Act → World → Prop} {a : Act} {w : World}
    (hro : F.round = none) (h1 : 1 ≤ n) {gf : Nat} {lb : Array Value} (hg : a.eval g = .func (.func gf) #[] lb) (hFg : F.fn gf) (eg : ∀ args w, (callFunc gf args).run P w = .ok (.enter gf args) w)
    {items : List β} {Rd : β → Array Value → World → Prop} {Mem : World → Prop} (hit : IterC F (n - 1) P gf lb items Rd Mem)
    (hps : ∀ x args W, Rd x args W → args.size = ps.size) (hRd : ∀ x args, OwnFrom w.heap.size (fun (_ : Unit) W => Rd x args W))
    (I : Nat → World → Prop) (Ix : Code → World → Prop) (hI : OwnFrom w.heap.size I) (hIx : OwnFrom w.heap.size Ix)
    (hIb : ∀ j A, I j A → Mem A) (h0 : I 0 w)
    (hround : ∀ (l j : Nat) (x : β) (args : Array Value) (W : World) (K : Act → World → Prop), items[j]? = some x → Rd x args W →
      (∀ a', (∀ W2, w.heap.size ≤ l → (∃ r, W2.heap[l]? = some (.loop r)) → I j W2 → Rd x args W2 → body.wpIn (F.inRound l) (n - 1 - 1) P (postC w.heap.size I Ix j W2) a' W2) → K a' W) →
      assign.wpIn (F.inRound l) (n - 1 - 1) P (Exit.then K (fun _ _ _ => False)) { tmps := (ps.zip args).foldl (fun t (p, v) => t.setIfInBounds p v) a.tmps, defers := [] } W)
    (hdone : ∀ (D : Nat) (W : World), w.heap.size ≤ D → I items.length W → W.heap[D]? = some (.deferred (some [])) → Q .normal { a with defers := { target := .collected D, args := #[] } :: a.defers } W)
    (hstop : ∀ (D : Nat) (c : Code) (W : World), w.heap.size ≤ D → Ix c W → W.heap[D]? = some (.deferred (some [])) → c.wpIn F n P Q { a with defers := { target := .collected D, args := #[] } :: a.defers } W) :
    (Code.rangeFunc g ps assign body).wpIn F n P Q a w := by
  refine wpIn_rangeFunc ?_
  intro fn hfn
  rw [hro]
  obtain ⟨rec, hrec⟩ : ∃ rec : LoopState → Option Code → Loop, rec = fun st pe => { state := st, pending := pe, fn, tmps := a.tmps, params := ps, assign, body, defers := w.heap.size } := ⟨_, rfl⟩
  obtain ⟨W1, hW1⟩ : ∃ W1, (w.alloc (.deferred (some []))).alloc (.loop (rec .ready none)) = W1 := ⟨_, rfl⟩
  have hL1 : W1.heap[w.heap.size + 1]? = some (.loop (rec .ready none)) := by
    rw [← hW1]; have := World.alloc_heap_new (w.alloc (.deferred (some []))) (.loop (rec .ready none)); rwa [World.size_alloc] at this
  have hK1 : W1.heap[w.heap.size]? = some (.deferred (some [])) := by
    rw [← hW1]; exact (Below.heap_alloc _ _ _ (by simp)).trans (World.alloc_heap_new w _)
  have hI1 : I 0 W1 := by rw [← hW1]; exact hI.alloc _ (hI.alloc _ h0)
  refine ⟨w.heap.size + 1, [{ target := .collected w.heap.size, args := #[] }], W1, { target := .fn (.func gf) lb, args := #[.func (.yield (w.heap.size + 1)) #[] #[]] }, W1, gf,
    #[.func (.yield (w.heap.size + 1)) #[] #[]] ++ lb, W1, ?_, ?_, ?_, ?_, fun _ => h1, ?_⟩
  · rw [← hW1, hrec]; exact run_enterLoop_outer _ _ _ _ _
  · simp only [resolve, hg]
    simp [go_sem]
  · intro f' hf'; simp [Target.leads] at hf'; subst hf'; exact hFg
  · simp [invoke, go_sem, eg]
  · have hcell : ∀ {A B : World} {k : Nat} {o : Obj}, Below A.heap.size A B → A.heap[k]? = some o → B.heap[k]? = some o :=
      fun hb hk => (hb.block _ (Array.getElem?_eq_some_iff.1 hk).1).trans hk
    refine (hit (w.heap.size + 1)
      (fun j W => I j W ∧ W.heap[w.heap.size + 1]? = some (.loop (rec .ready none)) ∧ W.heap[w.heap.size]? = some (.deferred (some [])))
      (fun W => ∃ c, Ix c W ∧ W.heap[w.heap.size + 1]? = some (.loop (rec .done (some c))) ∧ W.heap[w.heap.size]? = some (.deferred (some [])))
      W1
      (fun j A B hs hb => ⟨hI j A B none hs.1 (grown_of_below hb) (fun r e => by cases e), hcell hb hs.2.1, hcell hb hs.2.2⟩)
      (fun A B hs hb => by
        obtain ⟨c, hc, hl, hk⟩ := hs
        exact ⟨c, hIx c A B none hc (grown_of_below hb) (fun r e => by cases e), hcell hb hl, hcell hb hk⟩)
      (fun j A hs => hIb j A hs.1)
      ?_ ⟨hI1, hL1, hK1⟩).mono ?_
    · rintro j x args W hx ⟨hi, hl, hk⟩ hrd
      have hsz := hps x args W hrd
      have hlt : w.heap.size + 1 < W.heap.size := (Array.getElem?_eq_some_iff.1 hl).1
      have hy := run_yield (P := P) (args := args) hl (by rw [hrec]; exact hsz)
      rw [hrec] at hy
      refine ⟨fn, _, assign, body, hy, roundIn_of_wpIn hfn (hround _ j x args W _ hx hrd (fun a' hbody => ?_))⟩
      clear hy
      refine ⟨_, run_beginRound hl (by rw [hrec]), ?_⟩
      have hl2 : (W.putObj (w.heap.size + 1) (.loop { rec .ready none with state := .busy })).heap[w.heap.size + 1]? = some (.loop { rec .ready none with state := .busy }) := World.putObj_heap_same hlt
      have hk2 : (W.putObj (w.heap.size + 1) (.loop { rec .ready none with state := .busy })).heap[w.heap.size]? = some (.deferred (some [])) := (World.putObj_heap_other (by omega)).trans hk
      refine wpIn_mono (hbody _ (by omega) ⟨_, hl2⟩ (hI.putObj _ hi (by omega) hl rfl) ((hRd x args).putObj (s := ()) _ hrd (by omega) hl rfl)) ?_
      have fin : ∀ (jump : Option Code) (W3 : World), KeepsFrom w.heap.size (W.putObj (w.heap.size + 1) (.loop { rec .ready none with state := .busy })) W3 →
          (Instr.endRound (w.heap.size + 1) jump).run P W3 = .ok (.bool jump.isNone) (W3.putObj (w.heap.size + 1) (.loop (rec (if jump.isNone then .ready else .done) jump))) ∧
          W3.heap[w.heap.size + 1]? = some (.loop { rec .ready none with state := .busy }) ∧
          (W3.putObj (w.heap.size + 1) (.loop (rec (if jump.isNone then .ready else .done) jump))).heap[w.heap.size + 1]? = some (.loop (rec (if jump.isNone then .ready else .done) jump)) ∧
          (W3.putObj (w.heap.size + 1) (.loop (rec (if jump.isNone then .ready else .done) jump))).heap[w.heap.size]? = some (.deferred (some [])) := fun jump W3 hk3 => by
        have hl3 := hk3.same _ _ (by omega) hl2 rfl
        have := run_endRound (P := P) jump hl3
        rw [hrec] at this ⊢
        exact ⟨this, by rw [hrec] at hl3; exact hl3, World.putObj_heap_same (Array.getElem?_eq_some_iff.1 hl3).1, (World.putObj_heap_other (by omega)).trans (hk3.same _ _ (Nat.le_refl _) hk2 rfl)⟩
      rintro e a3 W3 hp
      cases e with
      | normal =>
        obtain ⟨hk3, hi3⟩ := hp
        obtain ⟨hr, hl3, hl4, hk4⟩ := fin none W3 hk3
        exact ⟨_, _, hr, .inl ⟨rfl, hI.putObj _ hi3 (by omega) hl3 rfl, hl4, hk4⟩⟩
      | ret =>
        obtain ⟨hk3, hi3⟩ := hp
        obtain ⟨hr, hl3, hl4, hk4⟩ := fin (some .ret) W3 hk3
        exact ⟨_, _, hr, .inr ⟨rfl, .ret, hIx.putObj _ hi3 (by omega) hl3 rfl, hl4, hk4⟩⟩
      | exit id =>
        obtain ⟨hk3, hi3⟩ := hp
        obtain ⟨hr, hl3, hl4, hk4⟩ := fin (some (.exit id)) W3 hk3
        exact ⟨_, _, hr, .inr ⟨rfl, .exit id, hIx.putObj _ hi3 (by omega) hl3 rfl, hl4, hk4⟩⟩
      | goto t =>
        obtain ⟨hk3, hi3⟩ := hp
        obtain ⟨hr, hl3, hl4, hk4⟩ := fin (some (.goto t)) W3 hk3
        exact ⟨_, _, hr, .inr ⟨rfl, .goto t, hIx.putObj _ hi3 (by omega) hl3 rfl, hl4, hk4⟩⟩
      | panic ch => exact hp.elim
      | outgrown => exact hp.elim
    · rintro e W2 ⟨⟨v, rfl⟩, (⟨hi, hl, hk⟩ | ⟨c, hi, hl, hk⟩)⟩
      · exact ⟨none, _, by have := run_endLoop (P := P) hl (by rw [hrec]; simp); rw [hrec] at this; exact this, hdone _ _ (Nat.le_refl _) (hI.putObj _ hi (by omega) hl rfl) ((World.putObj_heap_other (by omega)).trans hk)⟩
      · exact ⟨some c, _, by have := run_endLoop (P := P) hl (by rw [hrec]; simp); rw [hrec] at this; exact this, hstop _ c _ (Nat.le_refl _) (hIx.putObj _ hi (by omega) hl rfl) ((World.putObj_heap_other (by omega)).trans hk)⟩
end
end Go.Proofs.Ytjkepojmceffkaa
namespace Go.Proofs.Ytjkepojmceffkaa
open Go Go.RowKit Go.Proofs.YtjkepojmceffkaaW.PrintWords Go.Proofs.Ytjkepojmceffkaa.R
attribute [local go_sem] Oper.semAt_some
theorem R_append_st {P : Program} {ops : Array Oper} {o : Oper} {a : Act} {Q : Exit → Act → World → Prop} {Kc : Act → World → Prop} {α : Type} (d : Kd α) {w0 W W' : World} (base : Nat) (hw : Region.wanted o (yielded ops a.tmps) = true) (s x : Operand) (t e : TypeId) (z : Value) (bytes : Nat)
    (ho : o.op = .call { callee := .builtin .append, args := #[s, x], argTypes := #[t, t] })
    (ht : P.underlying t = some (.slice e)) (hinfo : (P.info? e).map (fun i => (i.zero, i.size, i.bytes)) = some (some z, d.sz, bytes)) (hz : z.cells.size = d.sz) (hs0 : 0 < d.sz) (hb0 : 0 < bytes)
    (v : Value) (xs : List α) (p : α) (cs : List Value) (ok okp : Nat → Prop) (hW : W' = W.alloc (.cells cs.toArray e)) (hs : a.eval s = v) (hx : a.eval x = .slice (some ⟨W.heap.size, 0, none⟩) 1 1) (hp : d.M W base okp p cs) (hokp : ∀ k, okp k → ok k ∧ some k ≠ v.ownBlock) (hfresh : ∀ k, W.heap.size ≤ k → ok k)
    (HO : d.R e W base ok v xs) (HB : Below base w0 W) (hbase : base ≤ W.heap.size) (hl : (xs.length + 1) * bytes ≤ 140737488355328)
    (h : ∀ v1 w1, d.R e w1 base ok v1 (xs ++ [p]) → Below base w0 w1 → W.grownBy w1 v.ownBlock → (v1.ownBlock = v.ownBlock ∨ ∃ b, v1.ownBlock = some b ∧ W.heap.size ≤ b) → Kc (a.put o.dst v1) w1) :
    if Region.wanted o (yielded ops a.tmps) = true then Oper.wp P o a W' Kc Q else Kc (a.put o.dst undef) W' := by
  subst hW
  exact Kd.R_append_step d base hw s x t e z bytes ho ht hinfo hz hs0 hb0 v xs p cs ok okp hs hx hp hokp hfresh HO HB hbase hl h
def jumpOf (x : S44) : S118 := ⟨x.f1, x.f2⟩
def ofRow (r : List S70) (y : S44) : Bool := sameRow y.f0 r
theorem eqS_refl (x : S70) : eqS x x = true := by simp [eqS]
theorem sameRow_refl : ∀ a : List S70, sameRow a a = true
  | [] => rfl
  | x :: xs => by simp [sameRow, eqS_refl, sameRow_refl xs]
def runsL : List S44 → List (List S70 × List S118)
  | [] => []
  | x :: xs => (x.f0, ((x :: xs).takeWhile (ofRow x.f0)).map jumpOf) :: runsL (xs.dropWhile (ofRow x.f0))
termination_by l => l.length
decreasing_by
  have : ∀ (p : S44 → Bool) (l : List S44), (l.dropWhile p).length ≤ l.length := fun p l => by
    induction l with
    | nil => simp
    | cons a l ih => simp only [List.dropWhile_cons]; split <;> simp <;> omega
  have := this (ofRow x.f0) xs
  simp
  omega
theorem runsL_nil : runsL [] = [] := by rw [runsL]
theorem runsL_cons (x : S44) (xs : List S44) : runsL (x :: xs) = (x.f0, ((x :: xs).takeWhile (ofRow x.f0)).map jumpOf) :: runsL ((x :: xs).dropWhile (ofRow x.f0)) := by
  rw [runsL, List.dropWhile_cons_of_pos (by simp [ofRow, sameRow_refl])]
def RdRun (x : List S70 × List S118) (args : Array Value) (W : World) : Prop :=
  ∃ A c B d, args = #[.slice A x.1.length c, .slice B x.2.length d] ∧ x.1.length ≤ c ∧ TF k70 [70] W A x.1 ∧ x.2.length ≤ d ∧ TF k118 [118] W B x.2
def Fits44 (l : List S44) : Prop := l.length * 40 ≤ 140737488351232 ∧ ∀ x ∈ l, x.f0.length * 32 ≤ 140737488351232
theorem take_step (l : List S44) (p q : Nat) (h : p + q < l.length) : ((l.drop p).take (q + 1)).map jumpOf = ((l.drop p).take q).map jumpOf ++ [jumpOf l[p + q]] := by
  rw [List.take_succ_eq_append_getElem (by simp; omega), List.map_append]
  simp
theorem tw_step (f : S44 → Bool) (l : List S44) (p q : Nat) (h : p + q < l.length) (hf : f l[p + q] = true) (ih : (l.drop p).takeWhile f = (l.drop p).take q ++ (l.drop (p + q)).takeWhile f) :
    (l.drop p).takeWhile f = (l.drop p).take (q + 1) ++ (l.drop (p + (q + 1))).takeWhile f := by
  rw [ih, drop_cons h, List.takeWhile_cons_of_pos hf, List.take_succ_eq_append_getElem (i := q) (by simp; omega)]
  simp [Nat.add_assoc]
theorem dw_of_tw (f : S44 → Bool) (l : List S44) (p q : Nat) (h : (l.drop p).takeWhile f = (l.drop p).take q) (hq : p + q ≤ l.length) : (l.drop p).dropWhile f = l.drop (p + q) := by
  have h1 := List.takeWhile_append_dropWhile (p := f) (l := l.drop p)
  rw [h] at h1
  have h2 := List.take_append_drop q (l.drop p)
  rw [List.drop_drop] at h2
  exact List.append_cancel_left (h1.trans h2.symm)
end Go.Proofs.Ytjkepojmceffkaa
namespace Go.Proofs.Ytjkepojmceffkaa
open Go Go.RowKit Go.Proofs.YtjkepojmceffkaaW.PrintWords Go.Proofs.Ytjkepojmceffkaa.R
attribute [local go_sem] Oper.semAt_some
theorem info118' : (Try.prog.info? 118).map (fun i => (i.zero, i.size, i.bytes)) = some (some (.agg #[(.int .i64 0), (.int .i64 0)]), 2, 16) := by kernel_rfl
theorem R_lit0 {w : World} {base : Nat} (h : base ≤ w.heap.size) : Kd.R k118 118 (w.alloc (.cells #[] 118)) base (fun _ => True) (.slice (some ⟨w.heap.size, 0, none⟩) 0 0) [] :=
  ⟨fun _ _ => trivial, [], by have := World.ownsRow_lit (base := base) (e := 118) (size := 2) w #[] 0 h (by simp) (by simp); exact this, Reps.none _ _⟩
def MemRun (l : List S44) (A : Option Addr) (c bx : Nat) (W : World) : Prop := W.cell? ⟨bx, 0, none⟩ = some (.slice A l.length c) ∧ Kd.C k44 W A l.length l
set_option maxRecDepth 100000 in
set_option maxHeartbeats 2000000 in
theorem runs1_iter (n : Nat) (l : List S44) (A : Option Addr) (c bx : Nat) (hfit : Fits44 l) :
    IterC Fence.wide n Try.prog 110 #[.pointer (some ⟨bx, 0, none⟩)] (runsL l) RdRun (MemRun l A c bx) := by
  intro L J Jx W hJ hJx hJb hY h0
  have hm : l.length ≤ 9223372036854775807 := (hJb 0 W h0).2.2.1
  have HJ := Lib.hid hJ
  have HJx := Lib.hid hJx
  have HJb := Lib.hid hJb
  have HY := Lib.hid hY
  have HF := Lib.hid hfit
  clear hJ hJx hJb hY hfit
  refine callsIn_wide.2 ?_
  simp only [List.push_toArray, List.append_toArray, List.nil_append, List.cons_append]
  go_enter Try.func110, Try.ntmps110
  go_wp2_with fail
  go_loopw [3] (fun v3 wr => ∃ p j : Nat, p ≤ l.length ∧ v3 = .int .i64 p ∧ J j wr ∧ Hid (∃ done, done.length = j ∧ runsL l = done ++ runsL (l.drop p))) (fun v3 _ => l.length - (intOf v3).toNat)
  case atStart => exact ⟨0, 0, Nat.zero_le _, rfl, h0, [], rfl, rfl⟩
  case round =>
    obtain ⟨p, j, hp, rfl, hj, HD⟩ := hrel
    obtain ⟨wo, rfl⟩ : ∃ wo : World, wo = wr := ⟨_, rfl⟩
    obtain ⟨b1, hCo⟩ := HJb.out j wo hj
    have hbl := World.block_lt_of_cell? wo _ b1
    have HBX := Lib.hid b1
    have HC := Lib.hid hCo
    clear hCo
    by_cases hlt : p < l.length
    · obtain ⟨x, hx⟩ : ∃ x, l[p]? = some x := ⟨l[p], by simp [hlt]⟩
      obtain ⟨ad, Ar, cr, hA, x0, x1, x2, hcr, hCr⟩ := at44 HC.out hx
      subst hA
      have Hcr := Lib.hid hcr
      have HCr := Lib.hid hCr
      have Hx := Lib.hid hx
      clear hcr hCr hx
      go_wp2_with fail
      go_loopw [3, 5] (fun v3 v5 wq => ∃ i : Nat, p ≤ i ∧ i ≤ l.length ∧ v3 = .int .i64 i ∧ Kd.R k118 118 wq wo.heap.size (fun _ => True) v5 (((l.drop p).take (i - p)).map jumpOf) ∧ Below wo.heap.size wo wq ∧
        Hid ((l.drop p).takeWhile (ofRow x.f0) = (l.drop p).take (i - p) ++ (l.drop i).takeWhile (ofRow x.f0))) (fun v3 _ _ => l.length - (intOf v3).toNat)
      case atStart => exact ⟨p, Nat.le_refl _, hp, rfl, by rw [Nat.sub_self]; exact R_lit0 (Nat.le_refl _), (Below.refl _ _).alloc (Nat.le_refl _) _, by show _ = _; rw [Nat.sub_self]; rfl⟩
      case round =>
        obtain ⟨i, hpi, hi, rfl, HR, hbq, HTW⟩ := hrel
        have HR' := Lib.hid HR
        clear HR
        have q1 := (hbq.cell hbl).trans HBX.out
        clear b1 x0 x1 x2
        by_cases hco : ∃ y, l[i]? = some y ∧ sameRow y.f0 x.f0 = true
        · obtain ⟨y, hy, hsame⟩ := hco
          have hil : i < l.length := (List.getElem?_eq_some_iff.1 hy).1
          have hyi : l[i] = y := (List.getElem?_eq_some_iff.1 hy).2
          obtain ⟨ad', Ay, cy, hA, y0, y1, y2, hcy, hCy⟩ := at44 (Kd.C_below HC.out hbq) hy
          cases hA
          have Hcy := Lib.hid hcy
          have HCy := Lib.hid hCy
          have Hsame := Lib.hid hsame
          have Hyi := Lib.hid hyi
          clear hcy hCy hsame hy hyi
          have w0' : (0 : Int) ≤ (i : Int) := by omega
          have w1' : (i : Int) < (l.length : Int) := by omega
          go_wp2_with fail
          refine (same_calls y.f0 x.f0 Ay Ar cy cr _ HCy.out Hcy.out (Kd.C_below HCr.out hbq) Hcr.out).mono ?_
          rintro e w2 ⟨rfl, nd, rfl⟩
          rw [Hsame.out]
          go_wp2_with fail
          have HR2 := Lib.hid (Kd.R_drewN HR'.out nd)
          have hb2 := pw_below_drewN hbq nd
          generalize hw2 : wr.drewN nd = w2 at HR2 hb2 ⊢
          have r0 : w2.cell? ⟨bx, 0, none⟩ = some (.slice (some ad) l.length c) := by rw [← hw2]; exact q1
          have r1 : w2.cell? ⟨(ad.add (i * 3)).block, (ad.add (i * 3)).off + 1, none⟩ = some (.int .i64 y.f1) := by rw [← hw2]; exact y1
          have r2 : w2.cell? ⟨(ad.add (i * 3)).block, (ad.add (i * 3)).off + 2, none⟩ = some (.int .i64 y.f2) := by rw [← hw2]; exact y2
          have hlen : (((l.drop p).take (i - p)).map jumpOf).length ≤ l.length := by simp; omega
          have hbnd : l.length * 40 ≤ 140737488351232 := HF.out.1
          obtain ⟨_, _, _, hA2, z0, z1, z2, _, _⟩ := at44 HC.out (j := i) (x := y) (by rw [← Hyi.out]; simp)
          cases hA2
          have t0 := World.block_lt_of_cell? wo _ z0
          have t9 : bx < wo.heap.size := hbl
          have S0 := HBX
          have S1 := Lib.hid z1
          have S2 := Lib.hid z2
          clear q1 y0 y1 y2 hw2 z0 z1 z2
          go_region_held3 (fun w' => w'.cell? ⟨bx, 0, none⟩ = some (.slice (some ad) l.length c) ∧ w'.cell? ⟨(ad.add (i * 3)).block, (ad.add (i * 3)).off + 1, none⟩ = some (.int .i64 y.f1) ∧ w'.cell? ⟨(ad.add (i * 3)).block, (ad.add (i * 3)).off + 2, none⟩ = some (.int .i64 y.f2))
            (first | go_keep | exact ⟨(hb3.cell (p := ⟨bx, 0, none⟩) t9).trans S0.out, (hb3.cell (p := ⟨(ad.add (i * 3)).block, (ad.add (i * 3)).off + 1, none⟩) t0).trans S1.out, (hb3.cell (p := ⟨(ad.add (i * 3)).block, (ad.add (i * 3)).off + 2, none⟩) t0).trans S2.out⟩)
            ((refine R_append_st k118 (w0 := wo) (W := w2.drew) wo.heap.size (by rfl) (.tmp 31) (.tmp 43) 91 118 _ 16 (by rfl) Try.underlying91 info118' rfl (by decide) (by decide) u5 (((l.drop p).take (i - p)).map jumpOf) ⟨y.f1, y.f2⟩ [.int .i64 y.f1, .int .i64 y.f2] (fun _ => True) (fun _ => False) rfl (by rfl) (by rfl) ?a1 (fun _ h => h.elim) (fun _ _ => trivial) ?a2 ?a3 ?a4 ?a5 ?_; (case a1 => exact k118_mkM _ _ _ ⟨y.f1, y.f2⟩); (case a2 => exact Kd.R_drew HR2.out); (case a3 => exact hb2.drew); (case a4 => exact hb2.size); (case a5 => omega); intro v3 w3 hR3 hb3 hg3 hat3))
          have hq : p + (i - p) = i := by omega
          have hR4 : Kd.R k118 118 w3 wo.heap.size (fun _ => True) v3 (((l.drop p).take (i + 1 - p)).map jumpOf) := by
            have e := take_step l p (i - p) (by omega)
            have e2 : jumpOf (l[p + (i - p)]'(by omega)) = ⟨y.f1, y.f2⟩ := by simp only [hq]; rw [Hyi.out]; rfl
            rw [show i + 1 - p = i - p + 1 by omega, e, e2]
            exact hR3
          have hTW2 : (l.drop p).takeWhile (ofRow x.f0) = (l.drop p).take (i + 1 - p) ++ (l.drop (i + 1)).takeWhile (ofRow x.f0) := by
            have h1 := HTW.out
            have e := tw_step (ofRow x.f0) l p (i - p) (by omega) (by simp only [hq]; rw [Hyi.out]; exact Hsame.out) (by rw [hq]; exact h1)
            rw [show p + (i - p + 1) = i + 1 by omega, show i - p + 1 = i + 1 - p by omega] at e
            exact e
          have HTW2 := Lib.hid hTW2
          have HR4 := Lib.hid hR4
          clear hTW2 hR4 hR3 hq
          go_wp2_with fail
          go_roundw
          case rel => exact ⟨i + 1, by omega, by omega, by go_num, HR4.out, hb3, HTW2⟩
          case measure => simp [intOf]; omega
        · have htw : (l.drop p).takeWhile (ofRow x.f0) = (l.drop p).take (i - p) := by
            rw [HTW.out]
            have : (l.drop i).takeWhile (ofRow x.f0) = [] := by
              by_cases hil : i < l.length
              · rw [drop_cons hil, List.takeWhile_cons_of_neg]
                intro h
                exact hco ⟨l[i], by simp, h⟩
              · rw [List.drop_of_length_le (by omega)]
                rfl
            rw [this, List.append_nil]
          have Htw := Lib.hid htw
          clear htw HTW
          have hcase : (∃ y, l[i]? = some y ∧ sameRow y.f0 x.f0 = false) ∨ i = l.length := by
            by_cases hil : i < l.length
            · refine .inl ⟨l[i], by simp, ?_⟩
              cases hs : sameRow l[i].f0 x.f0 with
              | false => rfl
              | true => exact absurd ⟨l[i], by simp, hs⟩ hco
            · exact .inr (by omega)
          clear hco
          have hrun : (runsL l)[j]? = some (x.f0, ((l.drop p).take (i - p)).map jumpOf) ∧ ∃ done, done.length = j + 1 ∧ runsL l = done ++ runsL (l.drop i) := by
            obtain ⟨done, hdl, hde⟩ := HD.out
            have hxp : l[p] = x := (List.getElem?_eq_some_iff.1 Hx.out).2
            have e1 : l.drop p = x :: l.drop (p + 1) := by rw [drop_cons hlt, hxp]
            have e2 : runsL (l.drop p) = (x.f0, ((l.drop p).takeWhile (ofRow x.f0)).map jumpOf) :: runsL ((l.drop p).dropWhile (ofRow x.f0)) := by rw [e1]; exact runsL_cons x _
            rw [Htw.out, dw_of_tw (ofRow x.f0) l p (i - p) Htw.out (by omega), show p + (i - p) = i by omega] at e2
            rw [e2] at hde
            refine ⟨by rw [hde, List.getElem?_append_right (by omega), hdl, Nat.sub_self]; rfl, done ++ [_], by simp [hdl], by rw [hde, List.append_assoc]; rfl⟩
          have Hrun := Lib.hid hrun.1
          have Hdone := Lib.hid hrun.2
          have hpi2 : p < i := by
            rcases Nat.lt_or_ge p i with h | h
            · exact h
            · obtain rfl : i = p := by omega
              have h1 := Htw.out
              have hxp : l[i] = x := (List.getElem?_eq_some_iff.1 Hx.out).2
              rw [drop_cons hlt, hxp, List.takeWhile_cons_of_pos (show ofRow x.f0 x = true from sameRow_refl _), Nat.sub_self] at h1
              exact absurd h1 (by simp)
          clear hrun Htw HD
          rcases hcase with ⟨y, hy, hsame⟩ | hie
          · have hil : i < l.length := (List.getElem?_eq_some_iff.1 hy).1
            obtain ⟨ad', Ay, cy, hA, y0, y1, y2, hcy, hCy⟩ := at44 (Kd.C_below HC.out hbq) hy
            cases hA
            have Hcy := Lib.hid hcy
            have HCy := Lib.hid hCy
            have Hsame := Lib.hid hsame
            clear hcy hCy hsame hy
            have w0' : (0 : Int) ≤ (i : Int) := by omega
            have w1' : (i : Int) < (l.length : Int) := by omega
            go_wp2_with fail
            refine (same_calls y.f0 x.f0 Ay Ar cy cr _ HCy.out Hcy.out (Kd.C_below HCr.out hbq) Hcr.out).mono ?_
            rintro e w2 ⟨rfl, nd, rfl⟩
            rw [Hsame.out]
            have HR2 := Lib.hid (Kd.R_drewN HR'.out nd)
            have hb2 := pw_below_drewN hbq nd
            generalize hw2 : wr.drewN nd = w2 at HR2 hb2 ⊢
            clear hw2 q1 y0 y1 y2
            go_upto_region 7 with (fail)
            refine (wpIn_wide (n := n)).1 ?_
            have hfr : x.f0.length * 32 ≤ 140737488351232 := HF.out.2 x (List.mem_of_getElem? Hx.out)
            generalize hfl : ((l.drop p).take (i - p)).map jumpOf = fl at Hrun HR2
            clear hfl
            obtain ⟨B, cB, hu5, hcB, hCB'⟩ := Kd.R_reads HR2.out
            subst hu5
            have hCB : TF k118 [118] _ _ _ := TF_of_R HR2.out rfl
            clear hCB'
            have HcB := Lib.hid hcB
            have HCB := Lib.hid hCB
            clear hcB hCB
            gi_wp2_with fail
            refine ⟨trivial, (fun h => by cases h), callsIn_wide.2 ((rowCopy_calls x.f0 Ar cr _ (Kd.C_below HCr.out hb2) hfr).mono ?_)⟩
            rintro e w3 ⟨A', c', rfl, hc', hC', hb3⟩
            obtain ⟨fn, tmps, assign, body, hy, hR⟩ := HY.out j _ #[.slice A' x.f0.length c', .slice B fl.length cB] w3 Hrun.out (HJ.out j wo w3 hj (hb2.trans (hb3.mono hb2.size))) ⟨A', c', B, cB, rfl, hc', hC', HcB.out, TF_below HCB.out hb3⟩
            have HR3 := Lib.hid hR
            clear hR
            gi_wp2_with fail
            refine ⟨(fun h => by cases h), HR3.out.mono ?_⟩
            rintro e w4 (⟨rfl, hj4⟩ | ⟨rfl, hx4⟩)
            · gi_wp2_with fail
              go_wp2_with fail
              exact ⟨⟨i, j + 1, hi, rfl, hj4, Hdone⟩, by simp [intOf]; omega⟩
            · gi_wp2_with fail
              go_wp2_with fail
              exact bodyPost_ret (results_none rfl _ _ _) rfl ⟨⟨_, rfl⟩, .inr hx4⟩
          · have HR2 := Lib.hid HR'.out
            have hb2 := hbq
            clear HR'
            subst hie
            have w1' : ¬ ((l.length : Int) < (l.length : Int)) := by omega
            go_upto_region 7 with (fail)
            refine (wpIn_wide (n := n)).1 ?_
            have hfr : x.f0.length * 32 ≤ 140737488351232 := HF.out.2 x (List.mem_of_getElem? Hx.out)
            generalize hfl : ((l.drop p).take (l.length - p)).map jumpOf = fl at Hrun HR2
            clear hfl
            obtain ⟨B, cB, hu5, hcB, hCB'⟩ := Kd.R_reads HR2.out
            subst hu5
            have hCB : TF k118 [118] _ _ _ := TF_of_R HR2.out rfl
            clear hCB'
            have HcB := Lib.hid hcB
            have HCB := Lib.hid hCB
            clear hcB hCB
            gi_wp2_with fail
            refine ⟨trivial, (fun h => by cases h), callsIn_wide.2 ((rowCopy_calls x.f0 Ar cr _ (Kd.C_below HCr.out hb2) hfr).mono ?_)⟩
            rintro e w3 ⟨A', c', rfl, hc', hC', hb3⟩
            obtain ⟨fn, tmps, assign, body, hy, hR⟩ := HY.out j _ #[.slice A' x.f0.length c', .slice B fl.length cB] w3 Hrun.out (HJ.out j wo w3 hj (hb2.trans (hb3.mono hb2.size))) ⟨A', c', B, cB, rfl, hc', hC', HcB.out, TF_below HCB.out hb3⟩
            have HR3 := Lib.hid hR
            clear hR
            gi_wp2_with fail
            refine ⟨(fun h => by cases h), HR3.out.mono ?_⟩
            rintro e w4 (⟨rfl, hj4⟩ | ⟨rfl, hx4⟩)
            · gi_wp2_with fail
              go_wp2_with fail
              exact ⟨⟨l.length, j + 1, Nat.le_refl _, rfl, hj4, Hdone⟩, by simp [intOf]; omega⟩
            · gi_wp2_with fail
              go_wp2_with fail
              exact bodyPost_ret (results_none rfl _ _ _) rfl ⟨⟨_, rfl⟩, .inr hx4⟩
    · obtain rfl : p = l.length := by omega
      have hfin : j = (runsL l).length := by
        obtain ⟨done, hdl, hde⟩ := HD.out
        rw [List.drop_length, runsL_nil, List.append_nil] at hde
        rw [hde, hdl]
      subst hfin
      go_wp2_with fail
      exact bodyPost_end (results_none rfl _ _ _) rfl ⟨⟨_, rfl⟩, .inl hj⟩
end Go.Proofs.Ytjkepojmceffkaa
namespace Go.Proofs.Ytjkepojmceffkaa
open Go Go.RowKit Go.Proofs.YtjkepojmceffkaaW.PrintWords Go.Proofs.Ytjkepojmceffkaa.R
def CellsLe (W W' : World) : Prop := ∀ a v, W.cell? a = some v → W'.cell? a = some v
theorem cellsLe_of_grown {W W' : World} {row : Option Nat} (hg : W.grownBy W' row) (hrow : ∀ r, row = some r → ∃ o : Obj, W.heap[r]? = some o ∧ o.isCells = false) : CellsLe W W' := fun a v ha => Go.cell_kept ha hg hrow
structure KCells {α : Type} (d : Kd α) : Prop where
  K : ∀ {w w1 : World} {x : α} {cs : List Value}, CellsLe w w1 → d.K w x cs → d.K w1 x cs
theorem KCells.C {α : Type} {d : Kd α} (hd : KCells d) {w w1 : World} {A : Option Addr} {n : Nat} {xs : List α} (hb : CellsLe w w1) (h : d.C w A n xs) : d.C w1 A n xs :=
  ⟨h.1, h.2.1, fun hn => by
    obtain ⟨ad, e, hc⟩ := h.2.2 hn
    refine ⟨ad, e, fun j p hj => ?_⟩
    obtain ⟨c, hs, hr, hcell⟩ := hc j p hj
    exact ⟨c, hs, hd.K hb hr, fun i u hu => hb _ _ (hcell i u hu)⟩⟩
theorem kc_int (k : IntKind) : KCells (Kd.int k) := ⟨fun _ h => h⟩
theorem kc_string : KCells Kd.string := ⟨fun _ h => h⟩
theorem kc_slice {α : Type} {d : Kd α} (e : Nat) (hd : KCells d) : KCells (Kd.slice e d) := ⟨by
  rintro w w1 x cs hb ⟨A, c, rfl, hl, hr⟩
  exact ⟨A, c, rfl, hl, hd.C hb hr⟩⟩
theorem kc_pair {α β : Type} {a : Kd α} {b : Kd β} (ha : KCells a) (hb' : KCells b) : KCells (Kd.pair a b) := ⟨by
  rintro w w1 x cs hb ⟨c0, c1, rfl, h0, h1⟩
  exact ⟨c0, c1, rfl, ha.K hb h0, hb'.K hb h1⟩⟩
theorem kc_iso {α β : Type} {d : Kd α} (f : β → α) (hd : KCells d) : KCells (Kd.iso d f) := ⟨fun hb h => hd.K hb h⟩
theorem kc70 : KCells k70 := kc_iso _ (kc_pair (kc_int .i64) (kc_pair (kc_int .i64) kc_string))
theorem own_C {α β : Type} {d : Kd α} (hd : KCells d) (B : Nat) {A : Option Addr} {n : Nat} {xs : List α} : OwnFrom B (fun (_ : β) W => Kd.C d W A n xs) :=
  fun _ _ _ _ hs hg hr => hd.C (cellsLe_of_grown hg (fun r e => (hr r e).2)) hs
theorem own_RdRun {β : Type} (B : Nat) (x : List S70 × List S118) (args : Array Value) : OwnFrom B (fun (_ : β) W => RdRun x args W) := by
  rintro _ W W' row ⟨A, c, B', d, e, h1, h2, h3, h4⟩ hg hr
  have hb : ∀ {ts : List Nat} (k : Nat), TyIn ts W k → W'.heap[k]? = W.heap[k]? := fun {ts} k hk => by
    refine hg.block k hk.lt (fun e => ?_)
    obtain ⟨q, _, cells, hc⟩ := hk
    obtain ⟨_, o, ho, hoc⟩ := hr k e.symm
    rw [hc] at ho
    cases ho
    cases hoc
  exact ⟨A, c, B', d, e, h1, TF_step h2 hb, h3, TF_step h4 hb⟩
theorem rdRun_size (x : List S70 × List S118) (args : Array Value) (W : World) (h : RdRun x args W) : args.size = 2 := by
  obtain ⟨A, c, B', d, e, _⟩ := h
  rw [e]
  rfl
theorem keeps_of_below {B : Nat} {W W' : World} (h : Below W.heap.size W W') : KeepsFrom B W W' := KeepsFrom.of_grownBy (grown_of_below h) (fun j e => by cases e)
theorem boxed_cell_eq {W : World} {B : Nat} {t : TypeId} {v u : Value} {a : Addr} (hb : Boxed W B t v) (ha : a.block = B) (h : W.cell? a = some u) : u = v := by
  have hb' : W.heap[a.block]? = some (.cells #[v] t (0, 0)) := by rw [ha]; exact hb
  simp only [World.cell?, hb'] at h
  split at h
  · cases h
  · rcases Nat.eq_zero_or_pos a.off with h0 | h0
    · rw [h0] at h; simp at h; exact h.symm
    · rw [Array.getElem?_eq_none (by simp; omega)] at h; cases h
theorem C_setBox {α : Type} {d : Kd α} (hd : ∀ w w1 x cs, d.K w x cs → d.K w1 x cs) {W : World} {A : Option Addr} {n : Nat} {xs : List α} {B : Nat} {t : TypeId} {v u : Value} (h : d.C W A n xs) (hb : Boxed W B t v)
    (hv : ∀ w x cs, d.K w x cs → v ∉ cs) : d.C (W.setCell ⟨B, 0, none⟩ u) A n xs :=
  ⟨h.1, h.2.1, fun hn => by
    obtain ⟨ad, e, hc⟩ := h.2.2 hn
    refine ⟨ad, e, fun j p hj => ?_⟩
    obtain ⟨c, hs, hr, hcell⟩ := hc j p hj
    refine ⟨c, hs, hd _ _ _ _ hr, fun i q hq => ?_⟩
    have h1 := hcell i q hq
    refine cell_far h1 (fun e => ?_)
    have := boxed_cell_eq hb e h1
    subst this
    exact hv _ _ _ hr (List.mem_of_getElem? hq)⟩
theorem C70_setBox {W : World} {A : Option Addr} {n : Nat} {xs : List S70} {B : Nat} {t : TypeId} {v u : Value} (h : Kd.C k70 W A n xs) (hb : Boxed W B t v) (hv : ∀ x : S70, v ∉ [Value.int .i64 x.f0, .int .i64 x.f1, .string x.f2]) : Kd.C k70 (W.setCell ⟨B, 0, none⟩ u) A n xs :=
  C_setBox (fun _ _ _ _ h => h) h hb (fun w x cs hK => by rw [k70_open hK]; exact hv x)
end Go.Proofs.Ytjkepojmceffkaa
namespace Go.Proofs.Ytjkepojmceffkaa
open Go
theorem wpListIn_skipcall {F : Fence} {n : Nat} {P : Program} {ops : Array Oper} {Q : Exit → Act → World → Prop} {a : Act} {w : World} {rest : List Oper} {o : Oper}
    (hw : Region.wanted o (yielded ops a.tmps) = false) (hF : ∀ f, F.fn f) (h : wpListIn F n P ops Q rest (a.put o.dst undef) w) : wpListIn F n P ops Q (o :: rest) a w := by
  simp only [wpListIn, hw]
  exact ⟨fun f _ => hF f, h⟩
end Go.Proofs.Ytjkepojmceffkaa
namespace Go.Proofs.Ytjkepojmceffkaa
open Go Go.RowKit Go.Proofs.YtjkepojmceffkaaW.PrintWords Go.Proofs.Ytjkepojmceffkaa.R
attribute [local go_sem] Oper.semAt_some
theorem runs_calls (A : Option Addr) (n c : Nat) (w : World) :
    Calls Try.prog 84 #[.slice A n c] w fun e w' => e = .returned (.func (.func 110) #[] #[.pointer (some ⟨w.heap.size, 0, none⟩)]) ∧ w' = w.alloc (.cells #[.slice A n c] 34) := by
  go_enter Try.func84, Try.ntmps84
  go_wp2
  go_ret
  exact ⟨rfl, rfl⟩
theorem enters110 : ∀ args w, (callFunc 110 args).run Try.prog w = .ok (.enter 110 args) w := enters_of Try.func110 (by kernel_rfl) rfl
def risesRow (last : Option (List S70)) (r : List S70) : Bool := match last with
  | none => true
  | some q => decide (rowCmp q r < 0)
def eachL (p : List S118 → Bool) : Option (List S70) → List (List S70 × List S118) → Bool
  | _, [] => true
  | last, (r, f) :: rest => rowMay r && risesRow last r && p f && eachL p (some r) rest
def edgeEach (p : List S118 → Bool) (l : List S44) : Bool := decide (l.length ≤ 4096) && eachL p none (runsL l)
def lastOf (items : List (List S70 × List S118)) : Nat → Option (List S70)
  | 0 => none
  | j + 1 => (items[j]?).map (·.1)
structure EachI (w : World) (l : List S44) (A : Option Addr) (c : Nat) (fv : Value) (p : List S118 → Bool) (j : Nat) (W : World) : Prop where
  below : Below w.heap.size w W
  holds : Boxed W w.heap.size 114 fv
  res : Boxed W (w.heap.size + 1) 4 (.bool false)
  last : ∃ A' r c', Boxed W (w.heap.size + 2) 42 (.slice A' r.length c') ∧ r.length ≤ c' ∧ Kd.C k70 W A' r.length r ∧ (0 < j → lastOf (runsL l) j = some r)
  begun : Boxed W (w.heap.size + 3) 4 (.bool (decide (0 < j)))
  run : Boxed W (w.heap.size + 4) 34 (.slice A l.length c)
  spec : eachL p none (runsL l) = eachL p (lastOf (runsL l) j) ((runsL l).drop j)
structure EachX (w : World) (l : List S44) (p : List S118 → Bool) (W : World) : Prop where
  below : Below w.heap.size w W
  res : Boxed W (w.heap.size + 1) 4 (.bool false)
  spec : eachL p none (runsL l) = false
theorem own_boxed {β : Type} (B0 B : Nat) (t : TypeId) (v : Value) : OwnFrom B0 (fun (_ : β) W => Boxed W B t v) := (boxed_own B t (fun _ => v)).from B0
theorem own_eachI (w : World) (l : List S44) (A : Option Addr) (c : Nat) (fv : Value) (p : List S118 → Bool) (B : Nat) (hB : w.heap.size ≤ B) : OwnFrom B (EachI w l A c fv p) := by
  rintro j W W' row ⟨h1, h2, h3, ⟨A', r, c', h4, h5, h6, h7⟩, h8, h9, h10⟩ hg hr
  exact ⟨ownFrom_below (β := Unit) (Nat.le_refl _) hB () W W' row h1 hg hr, own_boxed (β := Unit) B _ _ _ () W W' row h2 hg hr, own_boxed (β := Unit) B _ _ _ () W W' row h3 hg hr,
    ⟨A', r, c', own_boxed (β := Unit) B _ _ _ () W W' row h4 hg hr, h5, own_C (β := Unit) kc70 B () W W' row h6 hg hr, h7⟩, own_boxed (β := Unit) B _ _ _ () W W' row h8 hg hr, own_boxed (β := Unit) B _ _ _ () W W' row h9 hg hr, h10⟩
theorem own_eachX (w : World) (l : List S44) (p : List S118 → Bool) (B : Nat) (hB : w.heap.size ≤ B) : OwnFrom B (fun (c : Code) W => c = .ret ∧ EachX w l p W) := by
  rintro c W W' row ⟨e, h1, h2, h3⟩ hg hr
  exact ⟨e, ownFrom_below (β := Unit) (Nat.le_refl _) hB () W W' row h1 hg hr, own_boxed (β := Unit) B _ _ _ () W W' row h2 hg hr, h3⟩
theorem boxed_new' {W : World} {n : Nat} {t : TypeId} {v : Value} (h : W.heap.size = n) : Boxed (W.alloc (.cells #[v] t)) n t v := by subst h; exact Boxed.new W t v
theorem eachI_start (w : World) (l : List S44) (A : Option Addr) (c : Nat) (fv : Value) (p : List S118 → Bool) :
    EachI w l A c fv p 0 (((((w.alloc (.cells #[fv] 114)).alloc (.cells #[.bool false] 4)).alloc (.cells #[.slice none 0 0] 42)).alloc (.cells #[.bool false] 4)).alloc (.cells #[.slice A l.length c] 34)) where
  below := ((((((Below.refl _ w).alloc (Nat.le_refl _) _).alloc (by simp) _).alloc (by simp; omega) _).alloc (by simp; omega) _).alloc (by simp; omega) _)
  holds := ((((boxed_new' rfl).alloc _).alloc _).alloc _).alloc _
  res := (((boxed_new' (by simp)).alloc _).alloc _).alloc _
  last := ⟨none, [], 0, ((boxed_new' (by simp)).alloc _).alloc _, Nat.le_refl _, Kd.C_nil _ _, fun h => absurd h (by omega)⟩
  begun := (boxed_new' (by simp)).alloc _
  run := boxed_new' (by simp)
  spec := rfl
theorem boxed_putObj {W : World} {B : Nat} {t : TypeId} {v : Value} (h : Boxed W B t v) {l : Nat} {o : Obj} (hl : W.heap[l]? = some o) (ho : o.isCells = false) (o' : Obj) : Boxed (W.putObj l o') B t v :=
  h.kept (grownBy_putObj' W l o') (fun e => by cases e; rw [show W.heap[B]? = _ from h] at hl; cases hl; cases ho)
theorem results_cell4 {fn : Func} {p : Tmp} (h : fn.results = #[.cell p 4]) (tmps : Array Value) (w : World) (g : Nat) {v : Value} (hp : tmps[p]?.getD undef = .pointer (some ⟨g, 0, none⟩)) (hc : w.cell? ⟨g, 0, none⟩ = some v) :
    (results fn tmps).run Try.prog w = .ok v w := by
  simp [results, h, hp, asAddr, go_sem, hc]
theorem each_fail {w : World} {l : List S44} {p : List S118 → Bool} {B : Nat} {W2 W3 : World} (h1 : Below w.heap.size w W2) (hb : Below W2.heap.size W2 W3) (hr : Boxed W3 (w.heap.size + 1) 4 (.bool false)) (hs : eachL p none (runsL l) = false) :
    KeepsFrom B W2 (W3.setCell ⟨w.heap.size + 1, 0, none⟩ (.bool false)) ∧ (Code.ret = Code.ret ∧ EachX w l p (W3.setCell ⟨w.heap.size + 1, 0, none⟩ (.bool false))) :=
  ⟨(keeps_of_below hb).trans ((KeepsOthers.setCell _ _ _).from B), rfl, (h1.trans (hb.mono h1.size)).setCell (p := ⟨w.heap.size + 1, 0, none⟩) (by simp) _, hr.set _, hs⟩
theorem each_next {w : World} {l : List S44} {A : Option Addr} {c : Nat} {fv : Value} {p : List S118 → Bool} {j B : Nat} {W2 W5 : World} {Ar Aq : Option Addr} {r : List S70} {nq cr cq : Nat} {bg : Bool} (h1 : Below w.heap.size w W2) (hb : Below W2.heap.size W2 W5)
    (e2 : Boxed W2 w.heap.size 114 fv) (e3 : Boxed W2 (w.heap.size + 1) 4 (.bool false)) (e4 : Boxed W2 (w.heap.size + 2) 42 (.slice Aq nq cq)) (e8 : Boxed W2 (w.heap.size + 3) 4 (.bool bg)) (e9 : Boxed W2 (w.heap.size + 4) 34 (.slice A l.length c))
    (g2 : Kd.C k70 W2 Ar r.length r) (hrc : r.length ≤ cr) (hl : lastOf (runsL l) (j + 1) = some r) (hs : eachL p none (runsL l) = eachL p (some r) ((runsL l).drop (j + 1))) :
    KeepsFrom B W2 ((W5.setCell ⟨w.heap.size + 2, 0, none⟩ (.slice Ar r.length cr)).setCell ⟨w.heap.size + 3, 0, none⟩ (.bool true)) ∧
    EachI w l A c fv p (j + 1) ((W5.setCell ⟨w.heap.size + 2, 0, none⟩ (.slice Ar r.length cr)).setCell ⟨w.heap.size + 3, 0, none⟩ (.bool true)) := by
  refine ⟨((keeps_of_below hb).trans ((KeepsOthers.setCell _ _ _).from B)).trans ((KeepsOthers.setCell _ _ _).from B), ⟨?_, ?_, ?_, ⟨Ar, r, cr, ?_, hrc, ?_, fun _ => hl⟩, ?_, ?_, ?_⟩⟩
  · exact ((h1.trans (hb.mono h1.size)).setCell (p := ⟨w.heap.size + 2, 0, none⟩) (by simp) _).setCell (p := ⟨w.heap.size + 3, 0, none⟩) (by simp) _
  · exact ((boxed_below e2 hb).other (by omega) _).other (by omega) _
  · exact ((boxed_below e3 hb).other (by omega) _).other (by omega) _
  · exact ((boxed_below e4 hb).set _).other (by omega) _
  · exact C70_setBox (C70_setBox (Kd.C_below g2 hb) (boxed_below e4 hb) (by simp)) ((boxed_below e8 hb).other (by omega) _) (by simp)
  · have := ((boxed_below e8 hb).other (B' := w.heap.size + 2) (by omega) (.slice Ar r.length cr)).set (.bool true)
    simpa using this
  · exact ((boxed_below e9 hb).other (by omega) _).other (by omega) _
  · rw [hl]; exact hs
set_option maxRecDepth 100000 in
set_option maxHeartbeats 2000000 in
theorem each_calls (g : Nat) (eg : ∀ args w, (callFunc g args).run Try.prog w = .ok (.enter g args) w) (p : List S118 → Bool)
    (hp : ∀ (B : Option Addr) (cB : Nat) (f : List S118) (W : World), Kd.C k118 W B f.length f → f.length ≤ cB → Calls Try.prog g #[.slice B f.length cB] W fun e W' => e = .returned (.bool (p f)) ∧ Below W.heap.size W W')
    (l : List S44) (A : Option Addr) (c : Nat) (w : World) (hC : Kd.C k44 w A l.length l) (hfit : Fits44 l) :
    Calls Try.prog 67 #[.slice A l.length c, .func (.func g) #[] #[]] w fun e w' => e = .returned (.bool (edgeEach p l)) ∧ Below w.heap.size w w' := by
  have hm : l.length ≤ 9223372036854775807 := hC.2.1
  have HC := Lib.hid hC
  have HP := Lib.hid hp
  have HF := Lib.hid hfit
  clear hC hp hfit
  refine (callsIn_wide (n := 5)).1 ?_
  refine callsIn_of_wp_marks Try.func67 rfl trivial ?_ rfl
  simp only [Try.ntmps67, List.size_toArray, List.length_cons, List.length_nil, Nat.reduceAdd, Nat.reduceSub, Array.replicate_succ, Array.replicate_zero, List.push_toArray, List.append_toArray, List.nil_append, List.cons_append]
  by_cases h4 : l.length ≤ 4096
  · gi_wp2_with fail
    refine ⟨trivial, callsIn_wide.2 ((runs_calls A l.length c _).mono ?_)⟩
    rintro e w' ⟨rfl, rfl⟩
    gi_wp2_with fail
    refine wpIn_rangeFunc_C rfl (by omega) (gf := 110) (lb := #[.pointer (some ⟨w.heap.size + 4, 0, none⟩)]) rfl trivial enters110 (items := runsL l) (Rd := RdRun) (Mem := MemRun l A c (w.heap.size + 4)) (runs1_iter _ l A c (w.heap.size + 4) HF.out) rdRun_size (fun x args => own_RdRun _ x args)
      (EachI w l A c (.func (.func g) #[] #[]) p) (fun c W => c = .ret ∧ EachX w l p W) (own_eachI w l A c _ p _ (by simp; omega)) (own_eachX w l p _ (by simp; omega)) ?mem (eachI_start w l A c _ p) ?round ?done ?stop
    case mem => exact fun j W hi => ⟨hi.run.cell, Kd.C_below HC.out hi.below⟩
    case round =>
      rintro L j ⟨r, f⟩ args W K hx ⟨Ar, cr, Bf, cf, rfl, g1, g2, g3, g4⟩ hK
      gi_wp2_with fail
      clear g1 g2 g3 g4
      rintro W2 hL rec hrec hi ⟨Ar', cr', Bf', cf', hargs, g1, g2, g3, g4⟩
      simp only [Array.mk.injEq, List.cons.injEq, Value.slice.injEq, and_true, true_and] at hargs
      obtain ⟨⟨rfl, rfl⟩, rfl, rfl⟩ := hargs
      obtain ⟨e1, e2, e3, ⟨Aq, q, cq, e4, e5, e6, e7⟩, e8, e9, e10⟩ := hi
      dsimp only at g1 g2 g3 g4
      have hsp : eachL p none (runsL l) = (rowMay r && risesRow (lastOf (runsL l) j) r && p f && eachL p (some r) ((runsL l).drop (j + 1))) := by
        rw [e10, List.drop_eq_getElem_cons (List.getElem?_eq_some_iff.1 hx).1, (List.getElem?_eq_some_iff.1 hx).2]
        rfl
      have hlast : lastOf (runsL l) (j + 1) = some r := by simp [lastOf, hx]
      have Hsp := Lib.hid hsp
      have Hlast := Lib.hid hlast
      have E2 := Lib.hid e2
      have E3 := Lib.hid e3
      have E4 := Lib.hid e4
      have E8 := Lib.hid e8
      have E9 := Lib.hid e9
      have G2 := Lib.hid (TF_now g2)
      have G4 := Lib.hid (TF_now g4)
      have E6 := Lib.hid e6
      have E7 := Lib.hid e7
      clear hsp hlast e2 e3 e4 e8 e9 e10 hx hrec g2 g4 e6 e7
      cases hr : rowMay r with
      | false =>
        have Hr := Lib.hid hr
        clear hr
        have hfin : eachL p none (runsL l) = false := by rw [Hsp.out, Hr.out]; rfl
        have Hfin := Lib.hid hfin
        clear hfin
        gi_wp2_with fail
        refine ⟨trivial, CallsIn.inRound L (callsIn_wide.2 ((rowMay_calls r Ar cr _ G2.out).mono ?_))⟩
        rintro e W3 ⟨rfl, hb3⟩
        rw [Hr.out]
        have b1 := (boxed_below E3.out hb3).cell
        have b2 := (boxed_below E3.out hb3).frozen
        gi_wp2_with (refine wpListIn_skipcall rfl (fun _ => trivial) ?_; go_simp)
        exact each_fail e1 hb3 (boxed_below E3.out hb3) Hfin.out
      | true =>
        have Hr := Lib.hid hr
        clear hr
        by_cases hj : 0 < j
        · have hlq := E7.out hj
          have hbg : decide (0 < j) = true := decide_eq_true hj
          have E8' := E8.out
          rw [hbg] at E8'
          have Hlq := Lib.hid hlq
          have HE8 := Lib.hid E8'
          clear hlq hbg E8' E8
          gi_wp2_with fail
          refine ⟨trivial, CallsIn.inRound L (callsIn_wide.2 ((rowMay_calls r Ar cr _ G2.out).mono ?_))⟩
          rintro e W3 ⟨rfl, hb3⟩
          rw [Hr.out]
          have b1 := (boxed_below HE8.out hb3).cell
          have b2 := (boxed_below HE8.out hb3).frozen
          have b3 := (boxed_below E4.out hb3).cell
          have b4 := (boxed_below E4.out hb3).frozen
          gi_wp2_with fail
          refine ⟨trivial, CallsIn.inRound L (callsIn_wide.2 ((rowCmp_calls q r Aq Ar cq cr _ (Kd.C_below E6.out hb3) e5 (Kd.C_below G2.out hb3)).mono ?_))⟩
          rintro e W4 ⟨rfl, hb4⟩
          replace hb4 := hb3.trans (hb4.mono hb3.size)
          clear b1 b2 b3 b4 hb3
          by_cases hc : rowCmp q r < 0
          · have hcb : decide (rowCmp q r ≥ 0) = false := by simp; omega
            have hris : risesRow (lastOf (runsL l) j) r = true := by rw [Hlq.out]; simp [risesRow, hc]
            have Hris := Lib.hid hris
            clear hris
            generalize rowCmp q r = rc at *
            have b1 := (boxed_below E2.out hb4).cell
            have b2 := (boxed_below E2.out hb4).frozen
            generalize hpf : p f = pf
            have Hpf := Lib.hid hpf
            clear hpf
            gi_wp2_with (refine wpListIn_skipcall rfl (fun _ => trivial) ?_; go_simp)
            refine ⟨trivial, CallsIn.inRound L (callsIn_wide.2 ((HP.out Bf cf f _ (Kd.C_below G4.out hb4) g3).mono ?_))⟩
            rintro e W5 ⟨rfl, hb5⟩
            rw [Hpf.out]
            replace hb5 := hb4.trans (hb5.mono hb4.size)
            clear hb4 b1 b2
            cases pf with
            | false =>
              have hfin : eachL p none (runsL l) = false := by rw [Hsp.out, Hpf.out]; simp
              have Hfin := Lib.hid hfin
              clear hfin
              have b1 := (boxed_below E3.out hb5).cell
              have b2 := (boxed_below E3.out hb5).frozen
              gi_wp2_with (refine wpListIn_skipcall rfl (fun _ => trivial) ?_; go_simp)
              exact each_fail e1 hb5 (boxed_below E3.out hb5) Hfin.out
            | true =>
              have hfin : eachL p none (runsL l) = eachL p (some r) ((runsL l).drop (j + 1)) := by rw [Hsp.out, Hr.out, Hris.out, Hpf.out]; simp
              have Hfin := Lib.hid hfin
              clear hfin
              have b1 := (boxed_below E4.out hb5).cell
              have b2 := (boxed_below E4.out hb5).frozen
              have b3 := ((boxed_below HE8.out hb5).other (B' := w.heap.size + 2) (by omega) (.slice Ar r.length cr)).cell
              have b4 := ((boxed_below HE8.out hb5).other (B' := w.heap.size + 2) (by omega) (.slice Ar r.length cr)).frozen
              gi_wp2_with (refine wpListIn_skipcall rfl (fun _ => trivial) ?_; go_simp)
              exact each_next e1 hb5 E2.out E3.out E4.out HE8.out E9.out G2.out g1 Hlast.out Hfin.out
          · have hris : risesRow (lastOf (runsL l) j) r = false := by rw [Hlq.out]; simp [risesRow]; omega
            have hfin : eachL p none (runsL l) = false := by rw [Hsp.out, hris]; simp
            have Hfin := Lib.hid hfin
            clear hfin hris
            generalize rowCmp q r = rc at *
            have b1 := (boxed_below E3.out hb4).cell
            have b2 := (boxed_below E3.out hb4).frozen
            gi_wp2_with (refine wpListIn_skipcall rfl (fun _ => trivial) ?_; go_simp)
            exact each_fail e1 hb4 (boxed_below E3.out hb4) Hfin.out
        · have hbg : decide (0 < j) = false := decide_eq_false hj
          have hlq : lastOf (runsL l) j = none := by rw [show j = 0 by omega]; rfl
          have hris : risesRow (lastOf (runsL l) j) r = true := by rw [hlq]; rfl
          have E8' := E8.out
          rw [hbg] at E8'
          have Hris := Lib.hid hris
          have HE8 := Lib.hid E8'
          clear hlq hbg E8' E8 hris
          gi_wp2_with fail
          refine ⟨trivial, CallsIn.inRound L (callsIn_wide.2 ((rowMay_calls r Ar cr _ G2.out).mono ?_))⟩
          rintro e W4 ⟨rfl, hb4⟩
          rw [Hr.out]
          have b1 := (boxed_below HE8.out hb4).cell
          have b2 := (boxed_below HE8.out hb4).frozen
          have b3 := (boxed_below E2.out hb4).cell
          have b4 := (boxed_below E2.out hb4).frozen
          generalize hpf : p f = pf
          have Hpf := Lib.hid hpf
          clear hpf
          gi_wp2_with (refine wpListIn_skipcall rfl (fun _ => trivial) ?_; go_simp)
          refine ⟨trivial, CallsIn.inRound L (callsIn_wide.2 ((HP.out Bf cf f _ (Kd.C_below G4.out hb4) g3).mono ?_))⟩
          rintro e W5 ⟨rfl, hb5⟩
          rw [Hpf.out]
          replace hb5 := hb4.trans (hb5.mono hb4.size)
          clear hb4 b1 b2 b3 b4
          cases pf with
          | false =>
            have hfin : eachL p none (runsL l) = false := by rw [Hsp.out, Hpf.out]; simp
            have Hfin := Lib.hid hfin
            clear hfin
            have b1 := (boxed_below E3.out hb5).cell
            have b2 := (boxed_below E3.out hb5).frozen
            gi_wp2_with (refine wpListIn_skipcall rfl (fun _ => trivial) ?_; go_simp)
            exact each_fail e1 hb5 (boxed_below E3.out hb5) Hfin.out
          | true =>
            have hfin : eachL p none (runsL l) = eachL p (some r) ((runsL l).drop (j + 1)) := by rw [Hsp.out, Hr.out, Hris.out, Hpf.out]; simp
            have Hfin := Lib.hid hfin
            clear hfin
            have b1 := (boxed_below E4.out hb5).cell
            have b2 := (boxed_below E4.out hb5).frozen
            have b3 := ((boxed_below HE8.out hb5).other (B' := w.heap.size + 2) (by omega) (.slice Ar r.length cr)).cell
            have b4 := ((boxed_below HE8.out hb5).other (B' := w.heap.size + 2) (by omega) (.slice Ar r.length cr)).frozen
            gi_wp2_with (refine wpListIn_skipcall rfl (fun _ => trivial) ?_; go_simp)
            exact each_next e1 hb5 E2.out E3.out E4.out HE8.out E9.out G2.out g1 Hlast.out Hfin.out
    case done =>
      rintro D W hD hi hK
      have HI := Lib.hid hi
      have HK := Lib.hid hK
      clear hi hK
      have hfin : edgeEach p l = true := by simp [edgeEach, h4, HI.out.spec, eachL]
      have Hfin := Lib.hid hfin
      clear hfin
      have b1 := HI.out.res.cell
      have b2 := HI.out.res.frozen
      have b3 := (HI.out.res.set (.bool true)).cell
      have b4 := (HI.out.res.set (.bool true)).frozen
      have k1 := (KeepsOthers.setCell W ⟨w.heap.size + 1, 0, none⟩ (.bool true)).2 _ _ HK.out rfl
      gi_wp2_with (refine wpListIn_skipcall rfl (fun _ => trivial) ?_; go_simp)
      refine ⟨by simp, .inl ⟨_, _, rfl, run_takeDeferred k1, ?_⟩⟩
      refine ⟨.bool true, ?_, by rw [Hfin.out], ?_⟩
      · have b5 := (boxed_putObj (HI.out.res.set (.bool true)) k1 rfl (.deferred none)).cell
        exact results_cell4 rfl _ _ _ (by simp) b5
      · exact (HI.out.below.setCell (p := ⟨w.heap.size + 1, 0, none⟩) (by simp) _).grown (grownBy_putObj' _ _ _) (by have := HI.out.below.size; simp; exact this) (fun k e => by cases e; simp at hD; omega)
    case stop =>
      rintro D c W hD ⟨rfl, hx⟩ hK
      have HI := Lib.hid hx
      have HK := Lib.hid hK
      clear hx hK
      have hfin : edgeEach p l = false := by simp [edgeEach, HI.out.spec]
      have Hfin := Lib.hid hfin
      clear hfin
      have b1 := HI.out.res.cell
      have b2 := HI.out.res.frozen
      gi_wp2_with (refine wpListIn_skipcall rfl (fun _ => trivial) ?_; go_simp)
      refine ⟨by simp, .inl ⟨_, _, rfl, run_takeDeferred HK.out, ?_⟩⟩
      refine ⟨.bool false, ?_, by rw [Hfin.out], ?_⟩
      · have b5 := (boxed_putObj HI.out.res HK.out rfl (.deferred none)).cell
        exact results_cell4 rfl _ _ _ (by simp) b5
      · exact HI.out.below.grown (grownBy_putObj' _ _ _) HI.out.below.size (fun k e => by cases e; simp at hD; omega)
  · have h5 : 4096 < l.length := by omega
    have hfin : edgeEach p l = false := by simp [edgeEach]; omega
    have Hfin := Lib.hid hfin
    clear hfin h4
    gi_wp2_with (refine wpListIn_skipcall rfl (fun _ => trivial) ?_; go_simp)
    show LeavesInM _ _ _ _ _ _ _ _ _
    refine ⟨.bool false, ?_, by rw [Hfin.out], ?_⟩
    · exact results_cell4 rfl _ _ (w.heap.size + 1) (by simp) (boxed_new' (by simp) : Boxed ((w.alloc (.cells #[.func (.func g) #[] #[]] 114)).alloc (.cells #[.bool false] 4)) (w.heap.size + 1) 4 (.bool false)).cell
    · exact ((Below.refl _ w).alloc (Nat.le_refl _) _).alloc (by simp) _
end Go.Proofs.Ytjkepojmceffkaa
namespace Go.Proofs.Ytjkepojmceffkaa
open Go Go.RowKit Go.Proofs.YtjkepojmceffkaaW.PrintWords Go.Proofs.Ytjkepojmceffkaa.R
def fairP (n : Int) : Bool := decide (n ≤ 1048576) && decide (-1048576 ≤ n)
def stepMayL : Int → List S118 → Bool
  | _, [] => true
  | last, j :: f => decide (last < j.f0) && (decide (j.f0 < 1125899906842624) && (decide (j.f1 ≠ 0) && (fairP j.f1 && stepMayL j.f0 f)))
def stepMay (f : List S118) : Bool := decide (f.length ≤ 1024) && stepMayL (-2) f
def stepAtL (t : Int) : Int → List S118 → Int
  | v, [] => v
  | v, j :: f => if j.f0 > t then v else stepAtL t (v + j.f1) f
def stepAt (f : List S118) (t : Int) : Int := if stepMay f = true then stepAtL t 0 f else 0
def stepLeastL : Int → Int → List S118 → Int
  | _, m, [] => m
  | v, m, j :: f => stepLeastL (v + j.f1) (mn m (v + j.f1)) f
def least0 : List S118 → Int
  | [] => 0
  | j :: _ => if j.f0 = -1 then j.f1 else 0
def stepLeast (f : List S118) : Int := if stepMay f = true then stepLeastL 0 (least0 f) f else 0
theorem rd118 {f : List S118} {j : Nat} (h : j < f.length) : rd_T118 f (j : Int) = f[j] := by simp [rd_T118, List.getD, h]
theorem stepMay_l0 (f : List S118) (hf : f.length ≤ 1024) : ∀ m j last, j + m = f.length → step_May.l0 (m + 1) last f (f.length : Int) (j : Int) = some (stepMayL last (f.drop j)) := by
  intro m
  induction m with
  | zero =>
    intro j last hj
    rw [step_May.l0, if_neg (by omega), List.drop_of_length_le (by omega)]
    rfl
  | succ m ih =>
    intro j last hj
    have hlt : j < f.length := by omega
    rw [step_May.l0, if_pos (by omega), if_pos (by omega), if_pos (by omega), rd118 hlt, drop_cons hlt, wrap_succ (by omega), ih (j + 1) _ (by omega)]
    simp only [stepMayL, step_fair.f, fairP]
    generalize f[j] = x
    by_cases h1 : x.f0 ≤ last
    · rw [if_pos h1]; simp; omega
    rw [if_neg h1, decide_eq_true (show last < x.f0 by omega)]
    by_cases h2 : x.f0 ≥ 1125899906842624
    · rw [if_pos h2]; simp; omega
    rw [if_neg h2, decide_eq_true (show x.f0 < 1125899906842624 by omega)]
    by_cases h3 : x.f1 = 0
    · rw [if_pos h3]; simp [h3]
    rw [if_neg h3, decide_eq_true h3]
    by_cases h4 : x.f1 ≤ 1048576
    · rw [if_pos h4, decide_eq_true h4]
      by_cases h5 : -1048576 ≤ x.f1
      · rw [decide_eq_true h5]; simp
      · rw [decide_eq_false h5]; simp
    · rw [if_neg h4, decide_eq_false h4]; simp
theorem stepMay_f (f : List S118) : step_May.f (f.length + 1) f = some (stepMay f) := by
  unfold step_May.f stepMay
  by_cases h : f.length ≤ 1024
  · rw [if_neg (by omega), decide_eq_true h]
    have := stepMay_l0 f h f.length 0 (-2) (by omega)
    simpa using this
  · rw [if_pos (by omega), decide_eq_false h]; rfl
theorem stepMay_calls (B : Option Addr) (cB : Nat) (f : List S118) (W : World) (h : Kd.C k118 W B f.length f) (hc : f.length ≤ cB) : Calls Try.prog 68 #[.slice B f.length cB] W fun e W' => e = .returned (.bool (stepMay f)) ∧ Below W.heap.size W W' :=
  step_May.calls _ B cB f _ W h hc (stepMay_f f)
theorem stepMayL_fair : ∀ (f : List S118) (last : Int), stepMayL last f = true → ∀ x ∈ f, -1048576 ≤ x.f1 ∧ x.f1 ≤ 1048576
  | [], _, _ => fun x hx => by cases hx
  | j :: f, last, h => by
    simp only [stepMayL, Bool.and_eq_true, decide_eq_true_eq, fairP] at h
    obtain ⟨h1, h2, h3, ⟨h4, h5⟩, h6⟩ := h
    intro x hx
    rcases List.mem_cons.1 hx with rfl | hx
    · exact ⟨h5, h4⟩
    · exact stepMayL_fair f _ h6 x hx
theorem stepMay_fair {f : List S118} (h : stepMay f = true) : f.length ≤ 1024 ∧ ∀ x ∈ f, -1048576 ≤ x.f1 ∧ x.f1 ≤ 1048576 := by
  simp only [stepMay, Bool.and_eq_true, decide_eq_true_eq] at h
  exact ⟨h.1, stepMayL_fair f _ h.2⟩
theorem wrap_id {i : Int} (h : -9223372036854775808 ≤ i) (h' : i < 9223372036854775808) : wrap64 i = i := by unfold wrap64; omega
theorem stepMay_f' (f : List S118) (k : Nat) (hk : f.length + 1 ≤ k) : step_May.f k f = some (stepMay f) := by
  induction k with
  | zero => omega
  | succ k ih =>
    by_cases h : f.length + 1 ≤ k
    · exact step_May.mono f k _ (ih h)
    · rw [show k + 1 = f.length + 1 by omega]; exact stepMay_f f
theorem stepAt_l0 (f : List S118) (t : Int) (hf : f.length ≤ 1024) (hb : ∀ x ∈ f, -1048576 ≤ x.f1 ∧ x.f1 ≤ 1048576) : ∀ m j v, j + m = f.length → -(1048576 * (j : Int)) ≤ v → v ≤ 1048576 * (j : Int) →
    step_At.l0 (m + 1) t v f (f.length : Int) (j : Int) = some (stepAtL t v (f.drop j)) := by
  intro m
  induction m with
  | zero =>
    intro j v hj _ _
    rw [step_At.l0, if_neg (by omega), List.drop_of_length_le (by omega)]
    rfl
  | succ m ih =>
    intro j v hj h1 h2
    have hlt : j < f.length := by omega
    have hb' := hb _ (List.getElem_mem hlt)
    rw [step_At.l0, if_pos (by omega), if_pos (by omega), if_pos (by omega), rd118 hlt, drop_cons hlt, wrap_succ (by omega)]
    generalize f[j] = x at *
    rw [wrap_id (by omega) (by omega), ih (j + 1) _ (by omega) (by omega) (by omega)]
    simp only [stepAtL]
    by_cases h : x.f0 > t
    · rw [if_pos h, if_pos h]
    · rw [if_neg h, if_neg h]
theorem stepAt_f (f : List S118) (t : Int) : step_At.f (f.length + 1) f t = some (stepAt f t) := by
  unfold step_At.f stepAt
  rw [stepMay_f]
  simp only [Option.bind_some]
  by_cases h : stepMay f = true
  · rw [if_pos h, if_pos h]
    have hf := stepMay_fair h
    have := stepAt_l0 f t hf.1 hf.2 f.length 0 0 (by omega) (by omega) (by omega)
    simpa using this
  · rw [if_neg h, if_neg h]
theorem stepAt_calls (t : Int) (B : Option Addr) (cB : Nat) (f : List S118) (W : World) (h : Kd.C k118 W B f.length f) (hc : f.length ≤ cB) : Calls Try.prog 62 #[.slice B f.length cB, .int .i64 t] W fun e W' => e = .returned (.int .i64 (stepAt f t)) ∧ Below W.heap.size W W' :=
  step_At.calls _ B cB f t _ W h hc (stepAt_f f t)
theorem stepLeast_l0 (f : List S118) (hf : f.length ≤ 1024) (hb : ∀ x ∈ f, -1048576 ≤ x.f1 ∧ x.f1 ≤ 1048576) : ∀ m j v mi, j + m = f.length → -(1048576 * (j : Int)) ≤ v → v ≤ 1048576 * (j : Int) →
    step_Least.l0 (m + 1) v mi f (f.length : Int) (j : Int) = some (stepLeastL v mi (f.drop j)) := by
  intro m
  induction m with
  | zero =>
    intro j v mi hj _ _
    rw [step_Least.l0, if_neg (by omega), List.drop_of_length_le (by omega)]
    rfl
  | succ m ih =>
    intro j v mi hj h1 h2
    have hlt : j < f.length := by omega
    have hb' := hb _ (List.getElem_mem hlt)
    rw [step_Least.l0, if_pos (by omega), if_pos (by omega), if_pos (by omega), rd118 hlt, drop_cons hlt, wrap_succ (by omega)]
    generalize f[j] = x at *
    rw [wrap_id (by omega) (by omega), ih (j + 1) _ _ (by omega) (by omega) (by omega)]
    rfl
theorem stepLeast_f (f : List S118) : step_Least.f (f.length + 3) f = some (stepLeast f) := by
  unfold step_Least.f stepLeast
  rw [stepMay_f' f _ (by omega)]
  simp only [Option.bind_some]
  by_cases h : stepMay f = true
  · rw [if_pos h, if_pos h]
    have hf := stepMay_fair h
    rw [step_Least.j0]
    have hl := fun mi => stepLeast_l0 f hf.1 hf.2 f.length 0 0 mi (by omega) (by omega) (by omega)
    simp only [List.drop_zero, Int.ofNat_zero, Int.natCast_zero] at hl
    cases f with
    | nil => simp [stepLeastL, least0]
    | cons x f =>
      rw [if_neg (by simp; omega), if_pos (by simp)]
      simp only [show rd_T118 (x :: f) 0 = x from rfl, least0]
      by_cases hx : x.f0 = -1
      · rw [if_pos hx, if_pos hx, step_Least.j1]; exact hl _
      · rw [if_neg hx, if_neg hx, step_Least.j1]; exact hl _
  · rw [if_neg h, if_neg h, step_Least.j0]; simp
theorem stepLeast_calls (B : Option Addr) (cB : Nat) (f : List S118) (W : World) (h : Kd.C k118 W B f.length f) (hc : f.length ≤ cB) : Calls Try.prog 95 #[.slice B f.length cB] W fun e W' => e = .returned (.int .i64 (stepLeast f)) ∧ Below W.heap.size W W' :=
  step_Least.calls _ B cB f _ W h hc (stepLeast_f f)
theorem enters68 : ∀ args w, (callFunc 68 args).run Try.prog w = .ok (.enter 68 args) w := enters_of Try.func68 (by kernel_rfl) rfl
theorem enters94 : ∀ args w, (callFunc 94 args).run Try.prog w = .ok (.enter 94 args) w := enters_of Try.func94 (by kernel_rfl) rfl
def tabF (f : List S118) : Bool := stepMay f && decide (stepLeast f ≥ 0)
set_option maxRecDepth 100000 in
theorem table1_calls (B : Option Addr) (cB : Nat) (f : List S118) (W : World) (h : Kd.C k118 W B f.length f) (hc : f.length ≤ cB) : Calls Try.prog 94 #[.slice B f.length cB] W fun e W' => e = .returned (.bool (tabF f)) ∧ Below W.heap.size W W' := by
  have H := Lib.hid h
  clear h
  generalize hm : stepMay f = m
  have Hm := Lib.hid hm
  clear hm
  cases m with
  | false =>
    have hr : tabF f = false := by simp [tabF, Hm.out]
    have Hr := Lib.hid hr
    clear hr
    go_enter Try.func94, Try.ntmps94
    go_wp2_with fail
    refine (stepMay_calls B cB f _ H.out hc).mono ?_
    rintro e w1 ⟨rfl, hb⟩
    rw [Hm.out]
    go_wp2_with fail
    go_ret
    exact ⟨by simp [Hr.out], hb⟩
  | true =>
    generalize hl : stepLeast f = v
    have hr : tabF f = decide (v ≥ 0) := by simp [tabF, Hm.out, hl]
    have Hl := Lib.hid hl
    have Hr := Lib.hid hr
    clear hr hl
    go_enter Try.func94, Try.ntmps94
    go_wp2_with fail
    refine (stepMay_calls B cB f _ H.out hc).mono ?_
    rintro e w1 ⟨rfl, hb⟩
    rw [Hm.out]
    go_wp2_with fail
    refine (stepLeast_calls B cB f _ (Kd.C_below H.out hb) hc).mono ?_
    rintro e w2 ⟨rfl, hb2⟩
    rw [Hl.out]
    go_wp2_with fail
    go_ret
    exact ⟨by simp [Hr.out], hb.trans (hb2.mono hb.size)⟩
def edgeMay (l : List S44) : Bool := edgeEach stepMay l
def edgeTable (l : List S44) : Bool := edgeEach tabF l
theorem edgeMay_calls (l : List S44) (A : Option Addr) (c : Nat) (w : World) (hC : Kd.C k44 w A l.length l) (hfit : Fits44 l) :
    Calls Try.prog 36 #[.slice A l.length c] w fun e w' => e = .returned (.bool (edgeMay l)) ∧ Below w.heap.size w w' := by
  have H := Lib.hid hC
  have HF := Lib.hid hfit
  clear hC hfit
  go_enter Try.func36, Try.ntmps36
  go_wp2_with fail
  refine (each_calls 68 enters68 stepMay stepMay_calls l A c _ H.out HF.out).mono ?_
  rintro e w1 ⟨rfl, hb⟩
  go_wp2_with fail
  go_ret
  exact ⟨rfl, hb⟩
theorem edgeTable_calls (l : List S44) (A : Option Addr) (c : Nat) (w : World) (hC : Kd.C k44 w A l.length l) (hfit : Fits44 l) :
    Calls Try.prog 56 #[.slice A l.length c] w fun e w' => e = .returned (.bool (edgeTable l)) ∧ Below w.heap.size w w' := by
  have H := Lib.hid hC
  have HF := Lib.hid hfit
  clear hC hfit
  go_enter Try.func56, Try.ntmps56
  go_wp2_with fail
  refine (each_calls 94 enters94 tabF table1_calls l A c _ H.out HF.out).mono ?_
  rintro e w1 ⟨rfl, hb⟩
  go_wp2_with fail
  go_ret
  exact ⟨rfl, hb⟩
end Go.Proofs.Ytjkepojmceffkaa
namespace Go.Proofs.Ytjkepojmceffkaa
open Go Go.RowKit Go.Maps Go.Sort Go.Proofs.YtjkepojmceffkaaW.PrintWords Go.Proofs.Ytjkepojmceffkaa.R
theorem law3 : Keyed Try.prog 3 := int_keyed Try.underlying3
def cutStep (t : Int) (D : DataW Unit) (x : S44) : DataW Unit := if x.f1 > t then D.put (.int .i64 x.f1) (.lit (.int .i64 1)) else D
def cutD (t : Int) (l : List S44) : DataW Unit := l.foldl (cutStep t) ((DataW.map []).put (.int .i64 t) (.lit (.int .i64 1)))
def cutsL (t : Int) (l : List S44) : List Int := (intKeys (cutD t l)).mergeSort leI
theorem cutD_take {t : Int} {l : List S44} {j : Nat} {x : S44} (hx : l[j]? = some x) : cutD t (l.take (j + 1)) = cutStep t (cutD t (l.take j)) x := by
  obtain ⟨hl, rfl⟩ := List.getElem?_eq_some_iff.1 hx
  unfold cutD
  rw [← List.take_append_getElem hl, List.foldl_append]
  rfl
def Wf44 (l : List S44) : Prop := ∀ x ∈ l, (Lit.int .i64 x.f1).wf = true ∧ (Lit.int .i64 x.f2).wf = true
theorem ownsMap_size {H : Type} {P : Program} {k : TypeId} {R : Value → Option (DataW H × List MemPlace)} {w : World} {b n : Nat} {D : DataW H} (h : w.ownsMap P k R b n D) : Maps.size D ≤ n := by
  obtain ⟨es, clock, _, _, hs, rfl⟩ := h
  simp only [Maps.size, length_sorted, List.length_map]
  simpa using hs
theorem wpList_insert_own {H : Type} {P : Program} (w : World) {ops : Array Oper} {rest : List Oper} {o : Oper} {a : Act} {Q : Exit → Act → World → Prop}
    (hg : o.guard = none) (m x v : Operand) (t : TypeId) (hop : o.op = Op.insert t m x v)
    (k e : TypeId) (K : Keyed P k) (ht : P.underlying t = some (.map k e)) (R : Value → Option (DataW H × List MemPlace)) (b n : Nat) (D : DataW H)
    (hm : a.eval m = .map (some b)) (hown : w.ownsMap P k R b n D) (hn : n < maxLen) (key val : Value) (kl : Lit) (hx : a.eval x = key) (hv : a.eval v = val) (hkey : Go.keyOf P k key = some kl)
    (d : DataW H) (ps : List MemPlace) (hval : R val = some (d, ps))
    (hK : ∀ w', w'.ownsMap P k R b (n + 1) (D.put kl d) → w.grownBy w' (some b) → wpList P ops Q rest (a.put o.dst undef) w') :
    wpList P ops Q (o :: rest) a w := by
  refine wpList_plain hg fun K' hK' => ?_
  obtain ⟨w', hrun, r1, r2⟩ := hown.update K ht hn hkey hval
  unfold Oper.wp
  simp [execOp, hop, hm, hx, hv, hrun, Result.andThen]
  exact hK' _ _ (hK w' r1 r2)
def snapCuts (l : List S44) (t : Int) : List Int × Int :=
  if edgeMay l = true then (if edgeTable l = true then (if t < 0 ∨ t > 1125899906842624 then ([], 13) else if t = 1125899906842624 then ([], 0) else (cutsL t l, 0)) else ([], 20)) else ([], 2)
theorem info3' : (Try.prog.info? 3).map (fun i => (i.zero, i.size, i.bytes)) = some (some (.int .i64 0), 1, 8) := by kernel_rfl
theorem C_of_holds {w : World} {g : Nat} {ss : List Int} (h : Holds encZ w g 0 ss.toArray) (hl : ss.length ≤ 9223372036854775807) : Kd.C (Kd.int .i64) w (some ⟨g, 0, none⟩) ss.length ss := by
  refine ⟨rfl, hl, fun _ => ⟨_, rfl, fun j p hj => ⟨[.int .i64 p], rfl, rfl, fun i u hu => ?_⟩⟩⟩
  obtain ⟨hlt, hp⟩ := List.getElem?_eq_some_iff.1 hj
  have h1 := (h j (by simpa using hlt)).1
  have hi : i = 0 := by
    have := (List.getElem?_eq_some_iff.1 hu).1
    simp at this; exact this
  subst hi
  simp at hu
  subst hu
  have e : ss.toArray[j]! = p := by rw [getElem!_pos _ j (by simpa using hlt)]; simpa using hp
  rw [e] at h1
  simpa [Addr.add_lit, show (Kd.int IntKind.i64).sz = 1 from rfl] using h1
theorem below_set3 {wr wb : World} {gb : Nat} (hgb : gb = wr.heap.size) (hb : RowKit.Below wr.heap.size wr wb) (a b c : Value) :
    RowKit.Below wr.heap.size wr (((wb.setCell ⟨gb, 0, none⟩ a).setCell ⟨gb, 1, none⟩ b).setCell ⟨gb, 2, none⟩ c) := by
  subst hgb
  exact ((hb.setCell (p := ⟨wr.heap.size, 0, none⟩) (Nat.le_refl _) _).setCell (p := ⟨wr.heap.size, 1, none⟩) (Nat.le_refl _) _).setCell (p := ⟨wr.heap.size, 2, none⟩) (Nat.le_refl _) _
set_option maxRecDepth 100000 in
set_option maxHeartbeats 2000000 in
theorem cuts_calls (l : List S44) (A : Option Addr) (c : Nat) (t : Int) (w : World) (hC : Kd.C k44 w A l.length l) (hfit : Fits44 l) (hwf : Wf44 l) (hwt : (Lit.int .i64 t).wf = true) :
    Calls Try.prog 27 #[.slice A l.length c, .int .i64 t] w fun e w' => ∃ A' c', e = .returned (.tuple #[.slice A' (snapCuts l t).1.length c', .int .i64 (snapCuts l t).2]) ∧ (snapCuts l t).1.length ≤ c' ∧ Kd.C (Kd.int .i64) w' A' (snapCuts l t).1.length (snapCuts l t).1 ∧ Below w.heap.size w w' := by
  have hm : l.length ≤ 9223372036854775807 := hC.2.1
  have hu44 := Try.underlying44
  have HC := Lib.hid hC
  have HF := Lib.hid hfit
  have HW := Lib.hid hwf
  have HT := Lib.hid hwt
  clear hC hfit hwf hwt
  go_enter Try.func27, Try.ntmps27
  go_wp2_with fail
  refine (edgeMay_calls l A c _ HC.out HF.out).mono ?_
  rintro e w1 ⟨rfl, hb1⟩
  by_cases hem : edgeMay l = true
  case neg =>
    have hr : snapCuts l t = ([], 2) := by simp [snapCuts, hem]
    have Hr := Lib.hid hr
    clear hr
    rw [Bool.eq_false_iff.2 hem]
    go_wp2_with fail
    go_ret2
    exact ⟨none, 0, by rw [Hr.out]; rfl, by rw [Hr.out]; exact Nat.le_refl _, by rw [Hr.out]; exact Kd.C_nil _ _, hb1⟩
  have Hem := Lib.hid hem
  rw [hem]
  clear hem
  go_wp2_with fail
  refine (edgeTable_calls l A c _ (Kd.C_below HC.out hb1) HF.out).mono ?_
  rintro e w2 ⟨rfl, hb2⟩
  replace hb2 := hb1.trans (hb2.mono hb1.size)
  clear hb1
  by_cases het : edgeTable l = true
  case neg =>
    have hr : snapCuts l t = ([], 20) := by simp [snapCuts, het, Hem.out]
    have Hr := Lib.hid hr
    clear hr
    rw [Bool.eq_false_iff.2 het]
    go_wp2_with fail
    go_ret2
    exact ⟨none, 0, by rw [Hr.out]; rfl, by rw [Hr.out]; exact Nat.le_refl _, by rw [Hr.out]; exact Kd.C_nil _ _, hb2⟩
  have Het := Lib.hid het
  rw [het]
  clear het
  by_cases h1 : t < 0
  · have hr : snapCuts l t = ([], 13) := by simp [snapCuts, Het.out, Hem.out, h1]
    have Hr := Lib.hid hr
    clear hr
    go_wp2_with fail
    go_ret2
    exact ⟨none, 0, by rw [Hr.out]; rfl, by rw [Hr.out]; exact Nat.le_refl _, by rw [Hr.out]; exact Kd.C_nil _ _, hb2⟩
  by_cases h2 : t > 1125899906842624
  · have hr : snapCuts l t = ([], 13) := by simp [snapCuts, Het.out, Hem.out, h2]
    have Hr := Lib.hid hr
    clear hr
    go_wp2_with fail
    go_ret2
    exact ⟨none, 0, by rw [Hr.out]; rfl, by rw [Hr.out]; exact Nat.le_refl _, by rw [Hr.out]; exact Kd.C_nil _ _, hb2⟩
  by_cases h3 : t = 1125899906842624
  · have hr : snapCuts l t = ([], 0) := by simp [snapCuts, Het.out, Hem.out, h3]
    have Hr := Lib.hid hr
    clear hr
    subst h3
    go_wp2_with fail
    go_ret2
    exact ⟨none, 0, by rw [Hr.out]; rfl, by rw [Hr.out]; exact Nat.le_refl _, by rw [Hr.out]; exact Kd.C_nil _ _, hb2⟩
  have hr : snapCuts l t = (cutsL t l, 0) := by simp only [snapCuts, Het.out, Hem.out, if_true]; rw [if_neg (by omega), if_neg h3]
  have Hr := Lib.hid hr
  clear hr
  have hmm := @run_makeMap Try.prog
  have Hk := Lib.hid (keyOf_int_mk (P := Try.prog) Try.underlying3 HT.out)
  have Hv := Lib.hid (plainElem_int (H := Unit) (P := Try.prog) (a := 1) (q := .i64) Try.underlying3 (by decide))
  have Hn := Lib.hid (show 0 < maxLen by unfold maxLen; omega)
  go_wp2_with (first | ((refine wpList_insert_own _ rfl _ _ _ 96 rfl 3 3 law3 Try.underlying96 (plainElem (H := Unit) Try.prog 3) w2.heap.size 0 (.map []) rfl (World.ownsMap_made w2 Try.prog 3 _) Hn.out _ _ _ rfl rfl Hk.out _ [] Hv.out ?_); intro w3 hown3 hg3))
  have hb3 : RowKit.Below w.heap.size w w3 := (hb2.alloc hb2.size _).grown hg3 (by have := hb2.size; simp; omega) (fun j hj => by cases hj; exact hb2.size)
  have HM := Lib.hid hown3
  clear hown3 hg3 Hk Hn
  go_loopw [34] (fun v wr => ∃ j : Nat, j ≤ l.length ∧ v = .int .i64 j ∧ wr.ownsMap Try.prog 3 (plainElem (H := Unit) Try.prog 3) w2.heap.size (j + 1) (cutD t (l.take j)) ∧ RowKit.Below w.heap.size w wr) (fun v _ => l.length - (intOf v).toNat)
  case atStart => exact ⟨0, Nat.zero_le _, rfl, HM.out, hb3⟩
  case round =>
    obtain ⟨j, hj, rfl, hown, hbr⟩ := hrel
    have HO := Lib.hid hown
    clear hown
    by_cases hlt : j < l.length
    · obtain ⟨x, hx⟩ : ∃ x, l[j]? = some x := ⟨l[j], by simp [hlt]⟩
      obtain ⟨ad, Ar, cr, hA, x0, x1, x2, hcr, hCr⟩ := at44 HC.out hx
      subst hA
      have Hx := Lib.hid hx
      have z0 := (hbr.cell (World.block_lt_of_cell? w _ x0)).trans x0
      have z1 := (hbr.cell (World.block_lt_of_cell? w _ x1)).trans x1
      have z2 := (hbr.cell (World.block_lt_of_cell? w _ x2)).trans x2
      have w0' : (0 : Int) ≤ (j : Int) := by omega
      have w1' : (j : Int) < (l.length : Int) := by omega
      clear hcr hCr x0 x1 x2 hx
      have Hk2 := Lib.hid (keyOf_int_mk (P := Try.prog) Try.underlying3 (HW.out x (List.mem_of_getElem? Hx.out)).1)
      have Hn2 := Lib.hid (show j + 1 < maxLen by have := HF.out.1; unfold maxLen; omega)
      by_cases hgt : x.f1 > t
      · go_wp2_with (first | ((with_reducible refine gate_dst (N := 8) rfl ?_); refine box_event ?hg (N := 8) ?hd (cs := #[.slice none 0 0, .int .i64 0, .int .i64 0]) (t := 44) ?hr ?_; (case hd => rfl); (case hg => rfl); (case hr => first | (go_simp; done) | (go_simp; rfl)); intro gb hgb wb hbox hbb; have hc0 : wb.cell? ⟨gb, 0, none⟩ = some (.slice none 0 0) := (blk_cell hbox 0).trans rfl; have hc1 : wb.cell? ⟨gb, 1, none⟩ = some (.int .i64 0) := (blk_cell hbox 1).trans rfl; have hc2 : wb.cell? ⟨gb, 2, none⟩ = some (.int .i64 0) := (blk_cell hbox 2).trans rfl; have hf0 := blk_frozen hbox 0; have hf1 := blk_frozen hbox 1; have hf2 := blk_frozen hbox 2; have Hgb := Lib.hid hgb; have Hbb := Lib.hid hbb; clear hgb hbb hbox) | (at_mapUpdate; have hbx := below_set3 Hgb.out Hbb.out (.slice Ar x.f0.length cr) (.int .i64 x.f1) (.int .i64 x.f2); have hO1 := Lib.hid (HO.out.kept (grown_of_below hbx) (by simp)); have Hbx := Lib.hid hbx; clear hbx hc0 hc1 hc2 hf0 hf1 hf2; (refine wpList_mapUpdate_own _ rfl _ _ _ 96 rfl 3 3 law3 Try.underlying96 (plainElem (H := Unit) Try.prog 3) w2.heap.size (j + 1) (cutD t (l.take j)) rfl hO1.out Hn2.out _ _ _ rfl rfl Hk2.out _ [] Hv.out ?_); intro w4 hown4 hg4))
        have hd : cutD t (l.take (j + 1)) = (cutD t (l.take j)).put (.int .i64 x.f1) (.lit (.int .i64 1)) := by rw [cutD_take Hx.out]; exact if_pos hgt
        have hb4 : RowKit.Below w.heap.size w w4 := (hbr.trans (Hbx.out.mono hbr.size)).grown hg4 (Nat.le_trans hbr.size Hbx.out.size) (fun k hk => by cases hk; exact hb2.size)
        have HO4 := Lib.hid hown4
        have Hd := Lib.hid hd
        clear hown4 hg4 hd
        go_wp2_with fail
        go_roundw
        case rel => exact ⟨j + 1, by omega, by go_num, by rw [Hd.out]; exact HO4.out, hb4⟩
        case measure => simp [intOf]; omega
      · have hd : cutD t (l.take (j + 1)) = cutD t (l.take j) := by rw [cutD_take Hx.out]; exact if_neg hgt
        have Hd := Lib.hid hd
        clear hd
        go_wp2_with (first | ((with_reducible refine gate_dst (N := 8) rfl ?_); refine box_event ?hg (N := 8) ?hd (cs := #[.slice none 0 0, .int .i64 0, .int .i64 0]) (t := 44) ?hr ?_; (case hd => rfl); (case hg => rfl); (case hr => first | (go_simp; done) | (go_simp; rfl)); intro gb hgb wb hbox hbb; have hc0 : wb.cell? ⟨gb, 0, none⟩ = some (.slice none 0 0) := (blk_cell hbox 0).trans rfl; have hc1 : wb.cell? ⟨gb, 1, none⟩ = some (.int .i64 0) := (blk_cell hbox 1).trans rfl; have hc2 : wb.cell? ⟨gb, 2, none⟩ = some (.int .i64 0) := (blk_cell hbox 2).trans rfl; have hf0 := blk_frozen hbox 0; have hf1 := blk_frozen hbox 1; have hf2 := blk_frozen hbox 2; have Hgb := Lib.hid hgb; have Hbb := Lib.hid hbb; clear hgb hbb hbox))
        have hbx := below_set3 Hgb.out Hbb.out (.slice Ar x.f0.length cr) (.int .i64 x.f1) (.int .i64 x.f2)
        have hO1 := Lib.hid (HO.out.kept (grown_of_below hbx) (by simp))
        go_roundw
        case rel => exact ⟨j + 1, by omega, by go_num, by rw [Hd.out]; exact hO1.out.mono (by omega), hbr.trans (hbx.mono hbr.size)⟩
        case measure => simp [intOf]; omega
    · obtain rfl : j = l.length := by omega
      obtain ⟨wo, rfl⟩ : ∃ wo : World, wo = wr := ⟨_, rfl⟩
      have hO2 := HO.out
      rw [List.take_length] at hO2
      have HO2 := Lib.hid hO2
      clear hO2 HO
      obtain ⟨i0, hi, hz0, hz1, hz2⟩ := info_parts info3'
      have HI := Lib.hid hi
      have Hz0 := Lib.hid hz0
      have Hz1 := Lib.hid hz1
      have Hz2 := Lib.hid hz2
      have hsz := ownsMap_size HO2.out
      have h40 := HF.out.1
      have Hm1 := Lib.hid (show Maps.size (cutD t l) ≤ maxLen by unfold maxLen; omega)
      have Hm2 := Lib.hid (show 8 * Maps.size (cutD t l) ≤ 281474976710656 by omega)
      have Hm3 := Lib.hid (show 16 * Maps.size (cutD t l) ≤ 140737488355328 by omega)
      have hbl := HO2.out.lt
      clear hi hz0 hz1 hz2 hsz h40
      go_wp2_with (first
        | (at_len; refine wpList_len_own _ rfl _ 96 rfl 3 3 Try.underlying96 _ w2.heap.size (l.length + 1) (cutD t l) rfl HO2.out ?_)
        | (at_make; (refine wpList_make_own _ rfl _ _ 49 rfl wo.heap.size 3 i0 (.int .i64 0) 1 Try.underlying49 HI.out Hz0.out Hz1.out .i64 .i64 (Maps.size (cutD t l)) (Maps.size (cutD t l)) rfl rfl rfl (by rw [Hz2.out]; exact Hm2.out) Hm1.out (Nat.le_refl _) ?_); intro w5 hrow1 hg1)
        | (at_range; (refine wpList_range_own _ rfl _ 96 rfl 3 3 law3 Try.underlying96 _ w2.heap.size _ _ rfl (HO2.out.kept hg1 (by simp)) ?_); intro w0 hrg0 hg0 hs0))
      have hbw : w.heap.size ≤ wo.heap.size := hbr.size
      have h51 : wo.heap.size ≤ w5.heap.size := hg1.size
      have hb0 : RowKit.Below w.heap.size w w0 := (hbr.grown hg1 hbr.size (fun j hj => by cases hj)).grown hg0 (Nat.le_trans hbw h51) (fun j hj => by cases hj)
      have Hrow := Lib.hid (hrow1.kept hg0 (Or.inr (by simp [Value.ownBlock])))
      have Hrg := Lib.hid hrg0
      have Hb0 := Lib.hid hb0
      have Hs0 := Lib.hid (show w5.heap.size < w0.heap.size by omega)
      clear hrow1 hg1 hrg0 hg0 hs0 hb0
      obtain ⟨D0, hD0⟩ : ∃ D0, D0 = cutD t l := ⟨_, rfl⟩
      have HD0 := Lib.hid hD0
      rw [← hD0] at Hrg Hrow Hm1 Hm2 Hm3 HO2 ⊢
      clear hD0
      go_frame
      go_loopw [9] (fun v wq => ∃ (left : Lit → Bool) (cnt : Nat) (ss : List Int), wq.ranges Try.prog 3 (plainElem (H := Unit) Try.prog 3) w2.heap.size w5.heap.size (l.length + 1) D0 left cnt ∧ ss.length + cnt ≤ Maps.size D0 ∧
          wq.ownsRow wo.heap.size 3 1 v ss.length (ss.map encZ) ∧ v ≠ .slice none 0 0 ∧ CollectedI D0 left ss ∧ RowKit.Below w.heap.size w wq ∧ w5.heap.size < wq.heap.size)
        (fun _ wq => wq.rangeLeft w2.heap.size w5.heap.size)
      case atStart => exact ⟨_, _, [], Hrg.out, by simp, Hrow.out, by simp, CollectedI.start D0, Hb0.out, Hs0.out⟩
      case round =>
        obtain ⟨left, cnt, ss, hrg, hcs, hrow, hnn, hC, hnx, h5q⟩ := hrel
        go_wp2_with (first
          | (at_next; (refine wpList_next_ranges_ii _ rfl _ rfl 3 3 .i64 .i64 law3 Try.underlying3 Try.underlying3 w2.heap.size w5.heap.size (l.length + 1) _ _ _ rfl hrg ?_ ?_)))
        · intro hc0 hl0
          rcases hrow.2 with ⟨hnil, _⟩ | ⟨g, cap, cur, rfl, hbase, hb, q1, q2, q3, q4⟩
          · exact absurd hnil hnn
          have hH : Holds encZ wr g 0 ss.toArray := holds_of_block_i hb (by simpa using q4)
          have hgl : g < wr.heap.size := (Array.getElem?_eq_some_iff.1 hb).1
          have hm3 := Hm3.out
          have hcut : cutsL t l = ss.mergeSort leI := by
            rw [mergeSort_of_perm_i (hC.perm hrg.owns law3 Try.underlying3 hl0), HD0.out]; rfl
          have hslen : (cutsL t l).length = ss.length := by rw [hcut, List.length_mergeSort]
          have hsort := Lib.hid (Try.slices_Sort_int g 0 cap ss wr hH hgl (by omega))
          have Hcut := Lib.hid hcut
          have Hslen := Lib.hid hslen
          have HH := Lib.hid hH
          have Hnx := Lib.hid hnx
          have Hq1 := Lib.hid q1
          have Hbase := Lib.hid (show w.heap.size ≤ g by omega)
          have Hbig := Lib.hid (show ss.length ≤ 9223372036854775807 by omega)
          clear hrow hrg hC hcs hm3 hcut hslen hH hnx q1 q2 q3 q4 hb hl0 hbase
          go_wp2_with (go_at_call 57; refine hsort.out.mono ?_; rintro e w' ⟨rfl, nn, os, rfl⟩)
          go_ret2
          rw [Hr.out]
          have hH2 := holds_grow (Value.int .i64) _ os g 0 _ (by simpa [putRow, mapBlock, Sort.ahead] using hgl) (holds_putRow (Value.int .i64) _ g 0 _ (ss.mergeSort fun x y => decide (x ≤ y)).toArray (holds_ahead _ wr nn g 0 _ HH.out) (by simp))
          refine ⟨some ⟨g, 0, none⟩, cap, by rw [Hslen.out]; rfl, by rw [Hslen.out]; exact Hq1.out, ?_, ?_⟩
          · rw [Hcut.out]
            exact C_of_holds hH2 (by rw [List.length_mergeSort]; exact Hbig.out)
          · exact Hnx.out.grown (grownBy_sorted_i _) Hnx.out.size (fun j hj => by cases hj; exact Hbase.out)
        · intro x cc w6 cnt2 hwx hwc hlk hat hrg2 hlt hg2 hs2 hen
          have hrow2 := hrow.kept hg2 (Or.inr (row_ne_iter hrow hrg).symm)
          clear hs2
          have HHi := Lib.hid HI.out
          go_wp2_with (first
            | (at_builtin; (refine wpList_append_own _ rfl _ _ 49 rfl wo.heap.size 3 i0 (.int .i64 0) 1 8 Try.underlying49 HI.out Hz0.out Hz1.out Hz2.out rfl (by decide) _ _ _ rfl (hrow2.alloc _) ⟨w6.heap.size, 0, none⟩ 1 1 [encZ x] rfl rfl (cell_one_new _ _ _) (by simp [Value.oneCell', encZ]) (by have := Hm1.out; unfold maxLen at *; omega) (by have := Hm3.out; omega) (by have := hg2.size; simp; omega) ?_); intro v' w7 hown' hg3 hnil3; go_frame))
          have hrg3 := (hrg2.alloc _).kept hg3 (row_ne_low hrow2 hbl) (row_ne_iter hrow2 hrg2)
          have hs6 := hg2.size
          have hs7 := hg3.size
          go_roundw
          case rel =>
            refine ⟨_, cnt2, ss ++ [x], hrg3, by simp; omega, by simpa using hown', fun hv' => by have := (hnil3.1 hv').2; omega, hC.step hlk hat, ?_, ?_⟩
            · exact ((hnx.grown hg2 hnx.size (fun j hj => by cases hj; omega)).alloc (Nat.le_trans hnx.size hs6) _).grown hg3 (by have := hnx.size; simp; omega) (fun j hj => by have := (hrow2.lt j hj).1; omega)
            · simp at hs7; omega
          case measure => rw [hrg3.left_eq, hrg.left_eq]; exact hlt
end Go.Proofs.Ytjkepojmceffkaa
namespace Go.Proofs.Ytjkepojmceffkaa
open Go Go.RowKit
section
variable {F : Fence} {n : Nat} {P : Program} {w : World}
def KBox (t : List TypeId) (A B : World) : Prop := ∀ k u v, u ∈ t → Boxed A k u v → Boxed B k u v
theorem KBox.refl (t : List TypeId) (A : World) : KBox t A A := fun _ _ _ _ h => h
theorem KBox.trans {t : List TypeId} {A B C : World} (h : KBox t A B) (k : KBox t B C) : KBox t A C := fun i u v hu hi => k i u v hu (h i u v hu hi)
theorem KBox.below {t : List TypeId} {A B : World} (h : Below A.heap.size A B) : KBox t A B := fun _ _ _ _ hk => boxed_below hk h
def IterC2 {β : Type} (t : List TypeId) (F : Fence) (n : Nat) (P : Program) (g : Nat) (lb : Array Value) (items : List β) (Rd : β → Array Value → World → Prop) (Mem : World → Prop) : Prop :=
  ∀ (l : Nat) (J : Nat → World → Prop) (Jx : World → Prop) (W : World),
    OwnFrom W.heap.size J → OwnFrom W.heap.size (fun (_ : Unit) => Jx) →
    (∀ j A, J j A → Mem A) →
    (∀ j x args A, items[j]? = some x → J j A → Rd x args A → YieldAt F (n - 1) P l args A fun e B =>
      KeepsFrom W.heap.size A B ∧ KBox t A B ∧ ((e = .returned (.bool true) ∧ J (j + 1) B) ∨ (e = .returned (.bool false) ∧ Jx B))) →
    J 0 W →
    CallsIn F n P g (#[.func (.yield l) #[] #[]] ++ lb) W fun e B => (∃ v, e = .returned v) ∧ (J items.length B ∨ Jx B)
def postC2 (t : List TypeId) (B : Nat) (I : Nat → World → Prop) (Ix : Code → World → Prop) (j : Nat) (W : World) (e : Exit) (a : Act) (W' : World) : Prop := KBox t W W' ∧ postC B I Ix j W e a W'
theorem wpIn_rangeFunc_C2 {β : Type} {g : Operand} {ps : Array Tmp} {assign body : Code} {Q : Exit → Act → World → Prop} {a : Act} {w : World}
    (hro : F.round = none) (h1 : 1 ≤ n) {gf : Nat} {lb : Array Value} (hg : a.eval g = .func (.func gf) #[] lb) (hFg : F.fn gf) (eg : ∀ args w, (callFunc gf args).run P w = .ok (.enter gf args) w)
    {items : List β} {Rd : β → Array Value → World → Prop} {Mem : World → Prop} {t : List TypeId} (hit : IterC2 t F (n - 1) P gf lb items Rd Mem)
    (hps : ∀ x args W, Rd x args W → args.size = ps.size) (hRd : ∀ x args, OwnFrom w.heap.size (fun (_ : Unit) W => Rd x args W))
    (I : Nat → World → Prop) (Ix : Code → World → Prop) (hI : OwnFrom w.heap.size I) (hIx : OwnFrom w.heap.size Ix)
    (hIb : ∀ j A, I j A → Mem A) (h0 : I 0 w)
    (hround : ∀ (l j : Nat) (x : β) (args : Array Value) (W : World) (K : Act → World → Prop), items[j]? = some x → Rd x args W →
      (∀ a', (∀ W2, w.heap.size ≤ l → (∃ r, W2.heap[l]? = some (.loop r)) → I j W2 → Rd x args W2 → body.wpIn (F.inRound l) (n - 1 - 1) P (postC2 t w.heap.size I Ix j W2) a' W2) → K a' W) →
      assign.wpIn (F.inRound l) (n - 1 - 1) P (Exit.then K (fun _ _ _ => False)) { tmps := (ps.zip args).foldl (fun t (p, v) => t.setIfInBounds p v) a.tmps, defers := [] } W)
    (hdone : ∀ (D : Nat) (W : World), w.heap.size ≤ D → I items.length W → W.heap[D]? = some (.deferred (some [])) → Q .normal { a with defers := { target := .collected D, args := #[] } :: a.defers } W)
    (hstop : ∀ (D : Nat) (c : Code) (W : World), w.heap.size ≤ D → Ix c W → W.heap[D]? = some (.deferred (some [])) → c.wpIn F n P Q { a with defers := { target := .collected D, args := #[] } :: a.defers } W) :
    (Code.rangeFunc g ps assign body).wpIn F n P Q a w := by
  refine wpIn_rangeFunc ?_
  intro fn hfn
  rw [hro]
  obtain ⟨rec, hrec⟩ : ∃ rec : LoopState → Option Code → Loop, rec = fun st pe => { state := st, pending := pe, fn, tmps := a.tmps, params := ps, assign, body, defers := w.heap.size } := ⟨_, rfl⟩
  obtain ⟨W1, hW1⟩ : ∃ W1, (w.alloc (.deferred (some []))).alloc (.loop (rec .ready none)) = W1 := ⟨_, rfl⟩
  have hL1 : W1.heap[w.heap.size + 1]? = some (.loop (rec .ready none)) := by
    rw [← hW1]; have := World.alloc_heap_new (w.alloc (.deferred (some []))) (.loop (rec .ready none)); rwa [World.size_alloc] at this
  have hK1 : W1.heap[w.heap.size]? = some (.deferred (some [])) := by
    rw [← hW1]; exact (Below.heap_alloc _ _ _ (by simp)).trans (World.alloc_heap_new w _)
  have hI1 : I 0 W1 := by rw [← hW1]; exact hI.alloc _ (hI.alloc _ h0)
  refine ⟨w.heap.size + 1, [{ target := .collected w.heap.size, args := #[] }], W1, { target := .fn (.func gf) lb, args := #[.func (.yield (w.heap.size + 1)) #[] #[]] }, W1, gf,
    #[.func (.yield (w.heap.size + 1)) #[] #[]] ++ lb, W1, ?_, ?_, ?_, ?_, fun _ => h1, ?_⟩
  · rw [← hW1, hrec]; exact run_enterLoop_outer _ _ _ _ _
  · simp only [resolve, hg]
    simp [go_sem]
  · intro f' hf'; simp [Target.leads] at hf'; subst hf'; exact hFg
  · simp [invoke, go_sem, eg]
  · have hs1 : W1.heap.size = w.heap.size + 2 := by rw [← hW1]; simp
    have hkeep : ∀ {A B : World} {k : Nat} {o : Obj} {row : Option Nat}, A.heap[k]? = some o → A.grownBy B row → (∀ r, row = some r → W1.heap.size ≤ r ∧ ∃ o : Obj, A.heap[r]? = some o ∧ o.isCells = false) → k < W1.heap.size → B.heap[k]? = some o :=
      fun hk hg hr hlt => (hg.block _ (Array.getElem?_eq_some_iff.1 hk).1 (fun e => by have := (hr _ e.symm).1; omega)).trans hk
    refine (hit (w.heap.size + 1)
      (fun j W => I j W ∧ W.heap[w.heap.size + 1]? = some (.loop (rec .ready none)) ∧ W.heap[w.heap.size]? = some (.deferred (some [])))
      (fun W => ∃ c, Ix c W ∧ W.heap[w.heap.size + 1]? = some (.loop (rec .done (some c))) ∧ W.heap[w.heap.size]? = some (.deferred (some [])))
      W1
      (fun j A B row hs hg hr => ⟨hI j A B row hs.1 hg (fun r e => ⟨by have := (hr r e).1; omega, (hr r e).2⟩), hkeep hs.2.1 hg hr (by omega), hkeep hs.2.2 hg hr (by omega)⟩)
      (fun _ A B row hs hg hr => by
        obtain ⟨c, hc, hl, hk⟩ := hs
        exact ⟨c, hIx c A B row hc hg (fun r e => ⟨by have := (hr r e).1; omega, (hr r e).2⟩), hkeep hl hg hr (by omega), hkeep hk hg hr (by omega)⟩)
      (fun j A hs => hIb j A hs.1)
      ?_ ⟨hI1, hL1, hK1⟩).mono ?_
    · rintro j x args W hx ⟨hi, hl, hk⟩ hrd
      have hsz := hps x args W hrd
      have hlt : w.heap.size + 1 < W.heap.size := (Array.getElem?_eq_some_iff.1 hl).1
      have hy := run_yield (P := P) (args := args) hl (by rw [hrec]; exact hsz)
      rw [hrec] at hy
      refine ⟨fn, _, assign, body, hy, roundIn_of_wpIn hfn (hround _ j x args W _ hx hrd (fun a' hbody => ?_))⟩
      clear hy
      refine ⟨_, run_beginRound hl (by rw [hrec]), ?_⟩
      have hl2 : (W.putObj (w.heap.size + 1) (.loop { rec .ready none with state := .busy })).heap[w.heap.size + 1]? = some (.loop { rec .ready none with state := .busy }) := World.putObj_heap_same hlt
      have hk2 : (W.putObj (w.heap.size + 1) (.loop { rec .ready none with state := .busy })).heap[w.heap.size]? = some (.deferred (some [])) := (World.putObj_heap_other (by omega)).trans hk
      refine wpIn_mono (hbody _ (by omega) ⟨_, hl2⟩ (hI.putObj _ hi (by omega) hl rfl) ((hRd x args).putObj (s := ()) _ hrd (by omega) hl rfl)) ?_
      have kb : ∀ (W3 : World) (jump : Option Code), KBox t (W.putObj (w.heap.size + 1) (.loop { rec .ready none with state := .busy })) W3 → KeepsFrom w.heap.size (W.putObj (w.heap.size + 1) (.loop { rec .ready none with state := .busy })) W3 →
          KeepsFrom W1.heap.size W (W3.putObj (w.heap.size + 1) (.loop (rec (if jump.isNone then .ready else .done) jump))) ∧ KBox t W (W3.putObj (w.heap.size + 1) (.loop (rec (if jump.isNone then .ready else .done) jump))) := fun W3 jump hb3 hk3 =>
        ⟨⟨by simpa using hk3.size, fun k o hBk hk ho => (World.putObj_heap_other (by omega)).trans (hk3.same k o (by omega) ((World.putObj_heap_other (by omega)).trans hk) ho)⟩,
          fun k u v hu hk => boxed_putObj (hb3 k u v hu (boxed_putObj hk hl rfl _)) (hk3.same _ _ (by omega) hl2 rfl) rfl _⟩
      have fin : ∀ (jump : Option Code) (W3 : World), KeepsFrom w.heap.size (W.putObj (w.heap.size + 1) (.loop { rec .ready none with state := .busy })) W3 →
          (Instr.endRound (w.heap.size + 1) jump).run P W3 = .ok (.bool jump.isNone) (W3.putObj (w.heap.size + 1) (.loop (rec (if jump.isNone then .ready else .done) jump))) ∧
          W3.heap[w.heap.size + 1]? = some (.loop { rec .ready none with state := .busy }) ∧
          (W3.putObj (w.heap.size + 1) (.loop (rec (if jump.isNone then .ready else .done) jump))).heap[w.heap.size + 1]? = some (.loop (rec (if jump.isNone then .ready else .done) jump)) ∧
          (W3.putObj (w.heap.size + 1) (.loop (rec (if jump.isNone then .ready else .done) jump))).heap[w.heap.size]? = some (.deferred (some [])) := fun jump W3 hk3 => by
        have hl3 := hk3.same _ _ (by omega) hl2 rfl
        have := run_endRound (P := P) jump hl3
        rw [hrec] at this ⊢
        exact ⟨this, by rw [hrec] at hl3; exact hl3, World.putObj_heap_same (Array.getElem?_eq_some_iff.1 hl3).1, (World.putObj_heap_other (by omega)).trans (hk3.same _ _ (Nat.le_refl _) hk2 rfl)⟩
      rintro e a3 W3 hp
      cases e with
      | normal =>
        obtain ⟨hkb, hk3, hi3⟩ := hp
        obtain ⟨hr, hl3, hl4, hk4⟩ := fin none W3 hk3
        exact ⟨_, _, hr, (kb W3 none hkb hk3).1, (kb W3 none hkb hk3).2, .inl ⟨rfl, hI.putObj _ hi3 (by omega) hl3 rfl, hl4, hk4⟩⟩
      | ret =>
        obtain ⟨hkb, hk3, hi3⟩ := hp
        obtain ⟨hr, hl3, hl4, hk4⟩ := fin (some .ret) W3 hk3
        exact ⟨_, _, hr, (kb W3 _ hkb hk3).1, (kb W3 _ hkb hk3).2, .inr ⟨rfl, .ret, hIx.putObj _ hi3 (by omega) hl3 rfl, hl4, hk4⟩⟩
      | exit id =>
        obtain ⟨hkb, hk3, hi3⟩ := hp
        obtain ⟨hr, hl3, hl4, hk4⟩ := fin (some (.exit id)) W3 hk3
        exact ⟨_, _, hr, (kb W3 _ hkb hk3).1, (kb W3 _ hkb hk3).2, .inr ⟨rfl, .exit id, hIx.putObj _ hi3 (by omega) hl3 rfl, hl4, hk4⟩⟩
      | goto tt =>
        obtain ⟨hkb, hk3, hi3⟩ := hp
        obtain ⟨hr, hl3, hl4, hk4⟩ := fin (some (.goto tt)) W3 hk3
        exact ⟨_, _, hr, (kb W3 _ hkb hk3).1, (kb W3 _ hkb hk3).2, .inr ⟨rfl, .goto tt, hIx.putObj _ hi3 (by omega) hl3 rfl, hl4, hk4⟩⟩
      | panic ch => exact hp.2.elim
      | outgrown => exact hp.2.elim
    · rintro e W2 ⟨⟨v, rfl⟩, (⟨hi, hl, hk⟩ | ⟨c, hi, hl, hk⟩)⟩
      · exact ⟨none, _, by have := run_endLoop (P := P) hl (by rw [hrec]; simp); rw [hrec] at this; exact this, hdone _ _ (Nat.le_refl _) (hI.putObj _ hi (by omega) hl rfl) ((World.putObj_heap_other (by omega)).trans hk)⟩
      · exact ⟨some c, _, by have := run_endLoop (P := P) hl (by rw [hrec]; simp); rw [hrec] at this; exact this, hstop _ c _ (Nat.le_refl _) (hIx.putObj _ hi (by omega) hl rfl) ((World.putObj_heap_other (by omega)).trans hk)⟩
end
end Go.Proofs.Ytjkepojmceffkaa
namespace Go.Proofs.Ytjkepojmceffkaa
open Go Go.RowKit Go.Proofs.YtjkepojmceffkaaW.PrintWords Go.Proofs.Ytjkepojmceffkaa.R
attribute [local go_sem] Oper.semAt_some
theorem groups_calls (A : Option Addr) (n c : Nat) (w : World) :
    Calls Try.prog 60 #[.slice A n c] w fun e w' => e = .returned (.func (.func 99) #[] #[.pointer (some ⟨w.heap.size, 0, none⟩)]) ∧ w' = w.alloc (.cells #[.slice A n c] 34) := by
  go_enter Try.func60, Try.ntmps60
  go_wp2
  go_ret
  exact ⟨rfl, rfl⟩
theorem enters99 : ∀ args w, (callFunc 99 args).run Try.prog w = .ok (.enter 99 args) w := enters_of Try.func99 (by kernel_rfl) rfl
def groupsL (l : List S44) : List (List S70 × List S118) := if edgeMay l = true then runsL l else []
theorem roundIn_wide {n m : Nat} {P : Program} {l : Nat} {f : FuncId} {tmps : Array Value} {assign body : Code} {w : World} {R : Ending → World → Prop} (h : RoundIn Fence.wide n P l f tmps assign body w R) : RoundIn Fence.wide m P l f tmps assign body w R :=
  ⟨h.1, fun c cs _ => h.2 c cs (room_wide _)⟩
theorem roundIn_inRound {F : Fence} {n : Nat} {P : Program} {l : Nat} {f : FuncId} {tmps : Array Value} {assign body : Code} {w : World} {R : Ending → World → Prop} (L : Nat) (h : RoundIn F n P l f tmps assign body w R) : RoundIn (F.inRound L) n P l f tmps assign body w R := h
structure GrpI (J : Nat → World → Prop) (n₀ : Nat) (y : Value) (bx : Nat) (v : Value) (j : Nat) (W : World) : Prop where
  inv : J j W
  yld : Boxed W n₀ 136 y
  run : Boxed W bx 34 v
theorem own_grpI (J : Nat → World → Prop) (n₀ : Nat) (y : Value) (bx : Nat) (v : Value) (B : Nat) (h : OwnFrom n₀ J) (hB : n₀ ≤ B) : OwnFrom B (GrpI J n₀ y bx v) := by
  rintro j W W' row ⟨h1, h2, h3⟩ hg hr
  exact ⟨h j W W' row h1 hg (fun r e => ⟨Nat.le_trans hB (hr r e).1, (hr r e).2⟩), own_boxed (β := Unit) B _ _ _ () W W' row h2 hg hr, own_boxed (β := Unit) B _ _ _ () W W' row h3 hg hr⟩
set_option maxRecDepth 100000 in
set_option maxHeartbeats 2000000 in
theorem groups1_iter (n : Nat) (l : List S44) (A : Option Addr) (c bx : Nat) (hfit : Fits44 l) :
    IterC2 [136, 34] Fence.wide n Try.prog 99 #[.pointer (some ⟨bx, 0, none⟩)] (groupsL l) RdRun (MemRun l A c bx) := by
  intro L J Jx W hJ hJx hJb hY h0
  have hm : l.length ≤ 9223372036854775807 := (hJb 0 W h0).2.2.1
  have HJ := Lib.hid hJ
  have HJx := Lib.hid hJx
  have HJb := Lib.hid hJb
  have HY := Lib.hid hY
  have HF := Lib.hid hfit
  have H0 := Lib.hid h0
  clear hJ hJx hJb hY hfit h0
  refine callsIn_wide.2 ?_
  refine (callsIn_wide (n := 5)).1 ?_
  refine callsIn_of_wp_marks Try.func99 rfl trivial ?_ rfl
  simp only [Try.ntmps99, List.push_toArray, List.append_toArray, List.nil_append, List.cons_append, List.size_toArray, List.length_cons, List.length_nil, Nat.reduceAdd, Nat.reduceSub, Array.replicate_succ, Array.replicate_zero]
  have hM0 := HJb.out 0 W H0.out
  have hbl := World.block_lt_of_cell? W _ hM0.1
  have HM0 := Lib.hid hM0
  clear hM0
  have H1 := Lib.hid (HJ.out.alloc (.cells #[.func (.yield L) #[] #[]] 136) H0.out)
  have q1 : (W.alloc (.cells #[.func (.yield L) #[] #[]] 136)).cell? ⟨bx, 0, none⟩ = some (.slice A l.length c) := (HJb.out 0 _ H1.out).1
  gi_wp2_with (refine wpListIn_skipcall rfl (fun _ => trivial) ?_; go_simp)
  refine ⟨trivial, callsIn_wide.2 ((edgeMay_calls l A c _ (HJb.out 0 _ H1.out).2 HF.out).mono ?_)⟩
  rintro e w1 ⟨rfl, hb1⟩
  have H2 := Lib.hid (HJ.out 0 _ w1 none H1.out (grown_of_below hb1) (fun r e => by cases e))
  have hs1 : W.heap.size + 1 ≤ w1.heap.size := by have := hb1.size; simpa using this
  have hY1 := Lib.hid (boxed_below (boxed_new' rfl : Boxed (W.alloc (.cells #[.func (.yield L) #[] #[]] 136)) W.heap.size 136 (.func (.yield L) #[] #[])) hb1)
  generalize hem : edgeMay l = em
  have Hem := Lib.hid hem
  clear hem hb1 q1 H1
  have q1 : w1.cell? ⟨bx, 0, none⟩ = some (.slice A l.length c) := (HJb.out 0 _ H2.out).1
  cases em with
  | false =>
    gi_wp2_with (refine wpListIn_skipcall rfl (fun _ => trivial) ?_; go_simp)
    refine ⟨_, results_none rfl _ _ _, ⟨_, rfl⟩, .inl ?_⟩
    rw [show groupsL l = [] by simp [groupsL, Hem.out]]
    exact H2.out
  | true =>
    have hgl : groupsL l = runsL l := by simp [groupsL, Hem.out]
    have Hgl := Lib.hid hgl
    clear hgl
    gi_wp2_with fail
    refine ⟨trivial, callsIn_wide.2 ((runs_calls A l.length c _).mono ?_)⟩
    rintro e w' ⟨rfl, rfl⟩
    gi_wp2_with fail
    refine wpIn_rangeFunc_C rfl (by omega) (gf := 110) (lb := #[.pointer (some ⟨w1.heap.size, 0, none⟩)]) rfl trivial enters110 (items := runsL l) (Rd := RdRun) (Mem := MemRun l A c w1.heap.size) (runs1_iter _ l A c w1.heap.size HF.out) rdRun_size (fun x args => own_RdRun _ x args)
      (GrpI J W.heap.size (.func (.yield L) #[] #[]) w1.heap.size (.slice A l.length c)) (fun c W => c = .ret ∧ Jx W) (own_grpI _ _ _ _ _ _ HJ.out (by simp; omega)) ?ownx ?mem ?start ?round ?done ?stop
    case ownx => exact fun c A B row hs hg hr => ⟨hs.1, HJx.out () A B row hs.2 hg (fun r e => ⟨Nat.le_trans (by simp; omega) (hr r e).1, (hr r e).2⟩)⟩
    case mem => exact fun j W hi => ⟨hi.run.cell, (HJb.out j W hi.inv).2⟩
    case start => exact ⟨HJ.out.alloc _ H2.out, hY1.out.alloc _, boxed_new' rfl⟩
    case round =>
      rintro L2 j ⟨r, f⟩ args W1 K hx ⟨Ar, cr, Bf, cf, rfl, g1, g2, g3, g4⟩ hK
      have hk' : RdRun (r, f) #[.slice Ar r.length cr, .slice Bf f.length cf] W1 := ⟨Ar, cr, Bf, cf, rfl, g1, g2, g3, g4⟩
      gi_wp2_with fail
      clear g1 g2 g3 g4 hk'
      rintro W2 hL rec hrec hi hrd
      obtain ⟨fn, tmps, assign, body, hy, hR⟩ := HY.out j _ #[.slice Ar r.length cr, .slice Bf f.length cf] W2 (by rw [Hgl.out]; exact hx) hi.inv hrd
      have HR := Lib.hid hR
      have HI := Lib.hid hi
      have b1 := hi.yld.cell
      have b2 := hi.yld.frozen
      clear hR hi hrd hx hrec
      gi_wp2_with fail
      refine roundIn_inRound L2 (roundIn_wide (HR.out.mono ?_))
      rintro e w4 ⟨hk4, hb4, (⟨rfl, hj4⟩ | ⟨rfl, hx4⟩)⟩
      · gi_wp2_with fail
        exact ⟨⟨hk4.size, fun k o hB => hk4.same k o (Nat.le_trans (by omega) hB)⟩, hj4, hb4 _ _ _ (by simp) HI.out.yld, hb4 _ _ _ (by simp) HI.out.run⟩
      · gi_wp2_with fail
        exact ⟨⟨hk4.size, fun k o hB => hk4.same k o (Nat.le_trans (by omega) hB)⟩, rfl, hx4⟩
    case done =>
      rintro D W1 hD hi hK
      have HI := Lib.hid hi
      have HK := Lib.hid hK
      clear hi hK
      gi_wp2_with (refine wpListIn_skipcall rfl (fun _ => trivial) ?_; go_simp)
      refine ⟨by simp, .inl ⟨_, _, rfl, run_takeDeferred HK.out, ?_⟩⟩
      refine ⟨_, results_none rfl _ _ _, ⟨_, rfl⟩, .inl ?_⟩
      rw [Hgl.out]
      exact HJ.out.putObj _ HI.out.inv (by simp at hD; omega) HK.out rfl
    case stop =>
      rintro D c W1 hD ⟨rfl, hx⟩ hK
      have HI := Lib.hid hx
      have HK := Lib.hid hK
      clear hx hK
      gi_wp2_with (refine wpListIn_skipcall rfl (fun _ => trivial) ?_; go_simp)
      refine ⟨by simp, .inl ⟨_, _, rfl, run_takeDeferred HK.out, ?_⟩⟩
      refine ⟨_, results_none rfl _ _ _, ⟨_, rfl⟩, .inr ?_⟩
      exact HJx.out.putObj (s := ()) _ HI.out (by simp at hD; omega) HK.out rfl
end Go.Proofs.Ytjkepojmceffkaa
namespace Go.Proofs.Ytjkepojmceffkaa
open Go Go.RowKit Go.Proofs.YtjkepojmceffkaaW.PrintWords Go.Proofs.Ytjkepojmceffkaa.R
theorem R_litG {α : Type} {d : Kd α} {e : Nat} {w : World} {base : Nat} (h : base ≤ w.heap.size) : Kd.R d e (w.alloc (.cells #[] e)) base (fun _ => True) (.slice (some ⟨w.heap.size, 0, none⟩) 0 0) [] :=
  ⟨fun _ _ => trivial, [], by have := World.ownsRow_lit (base := base) (e := e) (size := d.sz) w #[] 0 h (by simp) (by simp); exact this, Reps.none _ _⟩
set_option maxRecDepth 100000 in
set_option maxHeartbeats 1000000 in
theorem rowClone_calls (xs : List S70) (A : Option Addr) (c : Nat) (w : World) (hC : Kd.C k70 w A xs.length xs) (hr : xs.length * 32 ≤ 140737488351232) :
    Calls Try.prog 63 #[.slice A xs.length c] w fun e w' => ∃ v, e = .returned v ∧ Kd.R k70 70 w' w.heap.size (fun _ => True) v xs ∧ Below w.heap.size w w' := by
  have H := Lib.hid hC
  have heq := fun A n c => Lib.run_eql_slice_nil (P := Try.prog) w 42 70 A n c 0 0 Try.underlying42
  cases A with
  | none =>
    obtain rfl : xs = [] := by
      cases xs with
      | nil => rfl
      | cons x xs =>
        obtain ⟨ad, e, _⟩ := hC.2.2 (by simp)
        cases e
    clear hC
    go_enter Try.func63, Try.ntmps63
    go_wp2_with fail
    go_ret
    exact ⟨_, rfl, Kd.R_nil _ _ _ _ _, Below.refl _ _⟩
  | some ad =>
    clear hC
    go_enter Try.func63, Try.ntmps63
    go_wp2_with (first | (at_builtin; (refine Kd.R_append_rows k70 (Rr := k70.K w) (w0 := w) w.heap.size rfl (.tmp 5) (.tmp 6) 42 70 _ 32 rfl Try.underlying42 info70 rfl (by decide) (by decide) _ [] xs (some ad) xs.length c (fun _ => True) (fun _ => False) rfl rfl (R_litG (Nat.le_refl _)) ?a1 (fun x cs h => h) (fun _ h => h.elim) (fun _ _ => trivial) ?a2 ?a3 ?a4 ?_; (case a1 => exact Kd.C_below H.out ((Below.refl _ _).alloc (Nat.le_refl _) _)); (case a2 => exact (Below.refl _ _).alloc (Nat.le_refl _) _); (case a3 => (simp)); (case a4 => (simp; omega))); intro v2 w2 hR hB2 hg2 _))
    rw [List.nil_append] at hR
    go_ret
    exact ⟨_, rfl, hR, hB2⟩
end Go.Proofs.Ytjkepojmceffkaa
namespace Go.Proofs.Ytjkepojmceffkaa
open Go Go.RowKit Go.Proofs.YtjkepojmceffkaaW.PrintWords Go.Proofs.Ytjkepojmceffkaa.R
structure S104 where
  f0 : List S70
  f1 : List S118
def z104 : S104 := ⟨[], []⟩
def k104 : Kd S104 := Kd.iso (Kd.pair (Kd.slice 70 k70) (Kd.slice 118 k118)) (fun x : S104 => (x.f0, x.f1))
theorem k104_open {w : World} {x : S104} {cs : List Value} (h : k104.K w x cs) : ∃ A0 c0 A1 c1, cs = [.slice A0 x.f0.length c0, .slice A1 x.f1.length c1] ∧ x.f0.length ≤ c0 ∧ k70.C w A0 x.f0.length x.f0 ∧ x.f1.length ≤ c1 ∧ k118.C w A1 x.f1.length x.f1 := by
  obtain ⟨_, _, rfl, ⟨A0, c0, rfl, l0, g0⟩, ⟨A1, c1, rfl, l1, g1⟩⟩ := h
  exact ⟨A0, c0, A1, c1, rfl, l0, g0, l1, g1⟩
theorem k104_mk (w : World) (x : S104) {A0 A1 : Option Addr} {c0 c1 : Nat} (l0 : x.f0.length ≤ c0) (g0 : k70.C w A0 x.f0.length x.f0) (l1 : x.f1.length ≤ c1) (g1 : k118.C w A1 x.f1.length x.f1) : k104.K w x [.slice A0 x.f0.length c0, .slice A1 x.f1.length c1] :=
  ⟨[.slice A0 x.f0.length c0], [.slice A1 x.f1.length c1], rfl, ⟨A0, c0, rfl, l0, g0⟩, ⟨A1, c1, rfl, l1, g1⟩⟩
theorem at104 {w : World} {A : Option Addr} {n : Nat} {xs : List S104} (h : Kd.C k104 w A n xs) {j : Nat} {x : S104} (hj : xs[j]? = some x) : ∃ ad A0 c0 A1 c1, A = some ad ∧ w.cell? (ad.add (j * 2)) = some (.slice A0 x.f0.length c0) ∧
    w.cell? ⟨(ad.add (j * 2)).block, (ad.add (j * 2)).off + 1, none⟩ = some (.slice A1 x.f1.length c1) ∧ x.f0.length ≤ c0 ∧ k70.C w A0 x.f0.length x.f0 ∧ x.f1.length ≤ c1 ∧ k118.C w A1 x.f1.length x.f1 := by
  have hl : j < xs.length := (List.getElem?_eq_some_iff.1 hj).1
  obtain ⟨ad, c, e, _, hK, hc0⟩ := Kd.C_get h z104 (j : Int) (by omega) (by have := h.1; omega)
  have hc : ∀ i u, c[i]? = some u → w.cell? (ad.add (j * 2 + i)) = some u := hc0
  rw [show xs.getD (j : Int).toNat z104 = x from getD_of hj] at hK
  obtain ⟨A0, c0, A1, c1, rfl, l0, g0, l1, g1⟩ := k104_open hK
  exact ⟨ad, A0, c0, A1, c1, e, hc 0 _ rfl, by rw [← add_field _ _ 1 (by omega)]; exact hc 1 _ rfl, l0, g0, l1, g1⟩
def aliveOne (t : Int) (x : S104) : Option S108 := if stepAt x.f1 t > 0 then some ⟨x.f0, stepAt x.f1 t⟩ else none
def aliveL (t : Int) (all : List S104) : List S108 := all.filterMap (aliveOne t)
theorem aliveL_take {t : Int} {all : List S104} {j : Nat} {x : S104} (hx : all[j]? = some x) : aliveL t (all.take (j + 1)) = aliveL t (all.take j) ++ (aliveOne t x).toList := by
  obtain ⟨hl, rfl⟩ := List.getElem?_eq_some_iff.1 hx
  unfold aliveL
  rw [← List.take_append_getElem hl, List.filterMap_append]
  cases h : aliveOne t all[j] <;> simp [h]
theorem below_set2 {wr wb : World} {gb : Nat} (hgb : gb = wr.heap.size) (hb : Below wr.heap.size wr wb) (a b : Value) :
    Below wr.heap.size wr ((wb.setCell ⟨gb, 0, none⟩ a).setCell ⟨gb, 1, none⟩ b) := by
  subst hgb
  exact (hb.setCell (p := ⟨wr.heap.size, 0, none⟩) (Nat.le_refl _) _).setCell (p := ⟨wr.heap.size, 1, none⟩) (Nat.le_refl _) _
set_option maxRecDepth 100000 in
set_option maxHeartbeats 2000000 in
theorem alive_calls (all : List S104) (t : Int) (bx : Nat) (A : Option Addr) (c : Nat) (w : World) (hbx : w.cell? ⟨bx, 0, none⟩ = some (.slice A all.length c)) (hC : Kd.C k104 w A all.length all) (h4 : all.length ≤ 4096) (hr : ∀ x ∈ all, x.f0.length * 32 ≤ 140737488351232) :
    Calls Try.prog 61 #[.int .i64 t, .pointer (some ⟨bx, 0, none⟩)] w fun e w' => ∃ v, e = .returned v ∧ Kd.R k108 108 w' w.heap.size (fun _ => True) v (aliveL t all) ∧ Below w.heap.size w w' := by
  have hm : all.length ≤ 9223372036854775807 := hC.2.1
  have hu104 := Try.underlying104
  have HC := Lib.hid hC
  have HR := Lib.hid hr
  have hbl := World.block_lt_of_cell? w _ hbx
  have HBX := Lib.hid hbx
  clear hC hr
  go_enter Try.func61, Try.ntmps61
  go_wp2_with fail
  clear hbx
  go_loopw [4, 11] (fun v4 v11 wr => ∃ j : Nat, j ≤ all.length ∧ v11 = .int .i64 j ∧ Kd.R k108 108 wr w.heap.size (fun _ => True) v4 (aliveL t (all.take j)) ∧ Below w.heap.size w wr) (fun _ v _ => all.length - (intOf v).toNat)
  case atStart => exact ⟨0, Nat.zero_le _, rfl, R_litG (Nat.le_refl _), (Below.refl _ _).alloc (Nat.le_refl _) _⟩
  case round =>
    obtain ⟨j, hj, rfl, hR, hbr⟩ := hrel
    have HRr := Lib.hid hR
    clear hR
    by_cases hlt : j < all.length
    · obtain ⟨x, hx⟩ : ∃ x, all[j]? = some x := ⟨all[j], by simp [hlt]⟩
      obtain ⟨ad, Ar, cr, Af, cf, hA, x0, x1, hcr, hCr, hcf, hCf⟩ := at104 HC.out hx
      subst hA
      have Hx := Lib.hid hx
      have z0 := (hbr.cell (World.block_lt_of_cell? w _ x0)).trans x0
      have z1 := (hbr.cell (World.block_lt_of_cell? w _ x1)).trans x1
      have w0' : (0 : Int) ≤ (j : Int) := by omega
      have w1' : (j : Int) < (all.length : Int) := by omega
      have HCr := Lib.hid hCr
      have HCf := Lib.hid hCf
      have Hcf := Lib.hid hcf
      clear hcr hCr hCf hcf x0 x1 hx
      go_wp2_with (first | ((with_reducible refine gate_dst (N := 6) rfl ?_); refine box_event ?hg (N := 6) ?hd (cs := #[.slice none 0 0, .slice none 0 0]) (t := 104) ?hr ?_; (case hd => rfl); (case hg => rfl); (case hr => first | (go_simp; done) | (go_simp; rfl)); intro gb hgb wb hbox hbb; have hc0 : wb.cell? ⟨gb, 0, none⟩ = some (.slice none 0 0) := (blk_cell hbox 0).trans rfl; have hc1 : wb.cell? ⟨gb, 1, none⟩ = some (.slice none 0 0) := (blk_cell hbox 1).trans rfl; have hf0 := blk_frozen hbox 0; have hf1 := blk_frozen hbox 1; have Hgb := Lib.hid hgb; have Hbb := Lib.hid hbb; clear hgb hbb hbox))
      have e0 : ((wb.setCell ⟨gb, 0, none⟩ (.slice Ar x.f0.length cr)).setCell ⟨gb, 1, none⟩ (.slice Af x.f1.length cf)).cell? ⟨gb, 0, none⟩ = some (.slice Ar x.f0.length cr) := by go_simp
      have hbs := below_set2 Hgb.out Hbb.out (.slice Ar x.f0.length cr) (.slice Af x.f1.length cf)
      generalize ((wb.setCell ⟨gb, 0, none⟩ (.slice Ar x.f0.length cr)).setCell ⟨gb, 1, none⟩ (.slice Af x.f1.length cf)) = w3 at e0 hbs ⊢
      clear hc0 hc1 hf0 hf1 Hgb Hbb
      refine (stepAt_calls t Af cf x.f1 _ (Kd.C_below HCf.out (hbr.trans (hbs.mono hbr.size))) Hcf.out).mono ?_
      rintro e w4 ⟨rfl, hb4⟩
      have e1 : w4.cell? ⟨gb, 0, none⟩ = some (.slice Ar x.f0.length cr) := (hb4.cell (World.block_lt_of_cell? w3 _ e0)).trans e0
      have hbr4 : Below wr.heap.size wr w4 := hbs.trans (hb4.mono hbs.size)
      clear hbs hb4 e0
      generalize hn : stepAt x.f1 t = n
      have Hn := Lib.hid hn
      clear hn
      by_cases hpos : n > 0
      · have hone : aliveL t (all.take (j + 1)) = aliveL t (all.take j) ++ [⟨x.f0, n⟩] := by rw [aliveL_take Hx.out]; simp [aliveOne, Hn.out, hpos]
        have Hone := Lib.hid hone
        have Hbr4 := Lib.hid hbr4
        have Hbr := Lib.hid hbr
        have hln : (aliveL t (all.take j)).length ≤ 4096 := by
          have h1 : (aliveL t (all.take j)).length ≤ (all.take j).length := List.length_filterMap_le _ _
          have h2 : (all.take j).length ≤ all.length := by simp; omega
          omega
        have Hln := Lib.hid hln
        clear hone hbr4 hbr hln
        go_wp2_with (first | (go_at_call 63; refine (rowClone_calls x.f0 Ar cr _ (Kd.C_below HCr.out (Hbr.out.trans (Hbr4.out.mono Hbr.out.size))) (HR.out x (List.mem_of_getElem? Hx.out))).mono ?_; rintro e w5 ⟨v5, rfl, hR5, hb5⟩; obtain ⟨A5, c5, rfl, hl5, hC5⟩ := Kd.R_reads hR5; clear hl5 hC5; have HR5 := Lib.hid hR5; have Hb5 := Lib.hid (Hbr4.out.trans (hb5.mono Hbr4.out.size)); have Hs5 := Lib.hid hb5.size; clear hR5 hb5) | (at_builtin; (refine Kd.R_append k108 (w0 := w) w.heap.size rfl (.tmp 21) (.tmp 27) 57 108 _ 32 rfl Try.underlying57 info108 rfl (by decide) (by decide) u4 (aliveL t (all.take j)) ⟨x.f0, n⟩ [.slice A5 x.f0.length c5, .int .i64 n] (fun _ => True) (fun k => wr.heap.size ≤ k) rfl rfl ?a1 ?a2 (fun _ _ => trivial) ?a3 ?a4 ?a5 ?a6 ?_; (case a1 => exact k108_mkM _ _ _ ⟨x.f0, n⟩ (Kd.R_lower (Kd.R_mono (Kd.R_bound HR5.out) (fun k hk => Nat.le_trans Hbr4.out.size hk.2.1)) (Nat.le_trans Hbr.out.size Hbr4.out.size))); (case a2 => exact fun k hk => ⟨trivial, fun e => by have := Kd.R_lt HRr.out k e.symm; omega⟩); (case a3 => exact Kd.R_below HRr.out Hb5.out); (case a4 => exact Hbr.out.trans (Hb5.out.mono Hbr.out.size)); (case a5 => exact Nat.le_trans Hbr.out.size Hb5.out.size); (case a6 => have := Hln.out; omega)); intro v6 w6 hR6 hb6 hg6 hat6; clear hg6 hat6; have HR6 := Lib.hid hR6; have Hb6 := Lib.hid hb6; clear hR6 hb6; go_frame))
        go_roundw
        case rel => exact ⟨j + 1, by omega, by go_num, by rw [Hone.out]; exact HR6.out, Hb6.out⟩
        case measure => simp [intOf]; omega
      · have hone : aliveL t (all.take (j + 1)) = aliveL t (all.take j) := by rw [aliveL_take Hx.out]; simp [aliveOne, Hn.out]; omega
        have Hone := Lib.hid hone
        clear hone
        go_wp2_with fail
        go_roundw
        case rel => exact ⟨j + 1, by omega, by go_num, by rw [Hone.out]; exact Kd.R_below HRr.out hbr4, hbr.trans (hbr4.mono hbr.size)⟩
        case measure => simp [intOf]; omega
    · obtain rfl : j = all.length := by omega
      have hR2 := HRr.out
      rw [List.take_length] at hR2
      have HR2 := Lib.hid hR2
      clear hR2 HRr
      go_wp2_with fail
      go_ret
      exact ⟨_, rfl, HR2.out, hbr⟩
end Go.Proofs.Ytjkepojmceffkaa
namespace Go.Proofs.Ytjkepojmceffkaa
open Go Go.RowKit Go.Proofs.YtjkepojmceffkaaW.PrintWords Go.Proofs.Ytjkepojmceffkaa.R
theorem rowsIn_wide {n : Nat} {P : Program} {row : String} {args : Array Value} {w : World} {R : Value → World → Prop} (h : Rows P row args w R) : RowsIn Fence.wide n P row args w R :=
  fun c cs _ => let ⟨v, w', r, s⟩ := h c cs; ⟨v, w', r, stepsIn_wide.2 s⟩
theorem oper_wpIn_of_wp {o : Oper} {P : Program} {L n : Nat} {a : Act} {w : World} {K : Act → World → Prop} {Q : Exit → Act → World → Prop} (hd : ∀ c, o.op ≠ .defer c)
    (h : o.wp P a w K Q) : o.wpIn (Fence.wide.inRound L) n P a w K Q := by
  refine ⟨fun _ _ => trivial, ?_⟩
  rw [Oper.semAt_eq _ _ _ hd]
  unfold Oper.wp at h
  revert h
  generalize (execOp a.eval o).run P w = res
  intro h
  cases res with
  | ok x w' =>
    cases x with
    | value v => exact h
    | skip => exact h
    | defer d => exact h
    | enter f args => exact ⟨(fun hd => by cases hd), CallsIn.inRound L (callsIn_wide.2 h)⟩
    | row row args => exact ⟨(fun hd => by cases hd), rowsIn_wide h⟩
    | _ => exact h.elim
  | halt hh w' =>
    cases hh with
    | panic v => exact h
    | _ => exact h.elim
def AllR (W : World) (base : Nat) (v : Value) (xs : List S104) : Prop :=
  ∃ rows : List (List Value), rows.length = xs.length ∧ (Kd.raw 2).R 104 W base (fun _ => True) v rows ∧ ∀ (j : Nat) (x : S104) (c : List Value), xs[j]? = some x → rows[j]? = some c → Kd.FK k104 W (TyIn [70, 118] W) x c
theorem FK_ty {α : Type} {d : Kd α} {ts : List Nat} {w w1 : World} {x : α} {c : List Value} (h : Kd.FK d w (TyIn ts w) x c) (hm : ∀ k, TyIn ts w k → w1.heap[k]? = w.heap[k]?) : Kd.FK d w1 (TyIn ts w1) x c :=
  Kd.FK_mono (Kd.FK_step h (fun k hk _ => hm k hk)) (fun k hk => by
    obtain ⟨q, hq, cells, hc⟩ := hk
    exact ⟨q, hq, cells, (hm k ⟨q, hq, cells, hc⟩).trans hc⟩)
theorem AllR_nil {W : World} {base : Nat} (h : base ≤ W.heap.size) : AllR (W.alloc (.cells #[] 104)) base (.slice (some ⟨W.heap.size, 0, none⟩) 0 0) [] := ⟨[], rfl, R_litG h, fun j x c hx _ => by simp at hx⟩
theorem AllR_step {W W1 : World} {base : Nat} {v : Value} {xs : List S104} (h : AllR W base v xs) (hm : ∀ k, TyIn [104, 70, 118] W k → W1.heap[k]? = W.heap[k]?) : AllR W1 base v xs := by
  obtain ⟨rows, hl, hR, hf⟩ := h
  refine ⟨rows, hl, Kd.R_mono (Kd.R_step (Kd.R_bound hR) (fun k hk _ => hm k ?_)) (fun _ _ => trivial), fun j x c hx hc => FK_ty (hf j x c hx hc) (fun k hk => hm k ?_)⟩
  · obtain ⟨q, hq, cells, hc⟩ := hk.2.2.2
    refine ⟨104, by simp, cells, ?_⟩
    have : q = 104 := by simpa [show (Kd.raw 2).E = [] from rfl] using hq
    rw [← this]; exact hc
  · obtain ⟨q, hq, cells, hc⟩ := hk
    exact ⟨q, List.mem_cons_of_mem _ hq, cells, hc⟩
theorem AllR_below {W W1 : World} {base : Nat} {v : Value} {xs : List S104} (h : AllR W base v xs) (hb : Below W.heap.size W W1) : AllR W1 base v xs := AllR_step h (fun k hk => hb.block k hk.lt)
theorem AllR_typed {W : World} {base : Nat} {v : Value} {xs : List S104} (h : AllR W base v xs) : ∀ k, v.ownBlock = some k → ∃ cells, W.heap[k]? = some (.cells cells 104 (0, 0)) := by
  obtain ⟨rows, hl, hR, hf⟩ := h
  exact Kd.R_typed hR
theorem AllR_slice {W : World} {base : Nat} {v : Value} {xs : List S104} (h : AllR W base v xs) : ∃ A c, v = .slice A xs.length c ∧ xs.length ≤ c ∧ Kd.C k104 W A xs.length xs := by
  have ht := AllR_typed h
  obtain ⟨rows, hl, hR, hf⟩ := h
  have hN : Kd.N k104 104 W base (fun _ => True) v xs := ⟨fun _ _ => trivial, rows, hl, Kd.R_tight rfl hR, fun j x c hx hc => Kd.FK_mono (hf j x c hx hc) (fun k hk => ⟨trivial, fun e => by
    obtain ⟨cells, hc1⟩ := ht k e.symm
    obtain ⟨q, hq, cells2, hc2⟩ := hk
    rw [hc1] at hc2
    cases hc2
    simp at hq⟩)⟩
  exact Kd.N_reads hN
theorem info104 : (Try.prog.info? 104).map (fun i => (i.zero, i.size, i.bytes)) = some (some (.agg #[(.slice none 0 0), (.slice none 0 0)]), 2, 48) := by kernel_rfl
section
variable {ops : Array Oper} {o : Oper} {a : Act} {Q : Exit → Act → World → Prop} {Kc : Act → World → Prop}
theorem AllR_append_wp {w0 W : World} (base : Nat) (hw : Region.wanted o (yielded ops a.tmps) = true) (s x : Operand)
    (ho : o.op = .call { callee := .builtin .append, args := #[s, x], argTypes := #[99, 99] })
    (v : Value) (xs : List S104) (p : S104) (cs : List Value) (hs : a.eval s = v) (hx : a.eval x = .slice (some ⟨W.heap.size, 0, none⟩) 1 1) (hp : Kd.FK k104 W (TyIn [70, 118] W) p cs)
    (HO : AllR W base v xs) (HB : Below base w0 W) (hbase : base ≤ W.heap.size) (hl : (xs.length + 1) * 48 ≤ 140737488355328)
    (h : ∀ v1 w1, AllR w1 base v1 (xs ++ [p]) → Below base w0 w1 → W.grownBy w1 v.ownBlock → Kc (a.put o.dst v1) w1) : Oper.wp Try.prog o a (W.alloc (.cells cs.toArray 104)) Kc Q := by
  have ht := AllR_typed HO
  obtain ⟨rows, hlr, hR, hf⟩ := HO
  have H := Kd.R_append_step (o := o) (a := a) (ops := ops) (Q := Q) (Kc := Kc) (P := Try.prog) (Kd.raw 2) base hw s x 99 104 _ 48 ho Try.underlying99 info104 rfl (by decide) (by decide) v rows cs cs (fun _ => True) (fun _ => False) hs hx (Kd.FK_raw hp) (fun _ hk => hk.elim) (fun _ _ => trivial) hR HB hbase (by rw [hlr]; exact hl) ?_
  · rwa [if_pos hw] at H
  intro v1 w1 hr hb hg hat
  have hm : ∀ k, TyIn [70, 118] W k → w1.heap[k]? = W.heap[k]? := fun k hk => hg.block k hk.lt (fun e => by
    obtain ⟨cells, hc1⟩ := ht k e.symm
    obtain ⟨q, hq, cells2, hc2⟩ := hk
    rw [hc1] at hc2
    cases hc2
    simp at hq)
  refine h v1 w1 ⟨rows ++ [cs], by simp [hlr], hr, fun j y c hy hc => ?_⟩ hb hg
  by_cases hj : j < xs.length
  · rw [List.getElem?_append_left hj] at hy
    rw [List.getElem?_append_left (by omega)] at hc
    exact FK_ty (hf j y c hy hc) hm
  · rw [List.getElem?_append_right (by omega)] at hy
    rw [List.getElem?_append_right (by omega)] at hc
    have hj0 : j - xs.length = 0 := by
      have := (List.getElem?_eq_some_iff.1 hy).1
      simp at this; exact this
    rw [hj0] at hy
    rw [show j - rows.length = 0 by omega] at hc
    simp at hy hc
    subst hy hc
    exact FK_ty hp hm
end
theorem FK_pairRun {W : World} {r : List S70} {f : List S118} {Ar Bf : Option Addr} {cr cf : Nat} (h1 : r.length ≤ cr) (h2 : TF k70 [70] W Ar r) (h3 : f.length ≤ cf) (h4 : TF k118 [118] W Bf f) :
    Kd.FK k104 W (TyIn [70, 118] W) ⟨r, f⟩ [.slice Ar r.length cr, .slice Bf f.length cf] := fun W' hW =>
  k104_mk W' ⟨r, f⟩ h1 (h2 W' (fun k hk => hW k (by obtain ⟨q, hq, c⟩ := hk; exact ⟨q, by simp at hq; simp [hq], c⟩))) h3 (h4 W' (fun k hk => hW k (by obtain ⟨q, hq, c⟩ := hk; exact ⟨q, by simp at hq; simp [hq], c⟩)))
def allOf (l : List S44) : List S104 := (groupsL l).map (fun x => ⟨x.1, x.2⟩)
def partsGo (all : List S104) : List Int → List S61 → Option (List S61)
  | [], out => some out
  | t :: cuts, out => if (aliveL t all).length = 0 then partsGo all cuts out else if out.length = 1024 then none else partsGo all cuts (out ++ [⟨⟨t, cuts.headD 1125899906842624⟩, aliveL t all⟩])
def snapParts (l : List S44) (t : Int) : List S61 × Int :=
  if (snapCuts l t).2 ≠ 0 then ([], (snapCuts l t).2) else match partsGo (allOf l) (snapCuts l t).1 [] with | none => ([], 7) | some out => (out, 0)
theorem snapCuts_may {l : List S44} {t : Int} (h : (snapCuts l t).2 = 0) : edgeMay l = true := by
  cases hm : edgeMay l with
  | true => rfl
  | false => simp [snapCuts, hm] at h
theorem runsL_length : ∀ l : List S44, (runsL l).length ≤ l.length := by
  suffices h : ∀ n, ∀ l : List S44, l.length ≤ n → (runsL l).length ≤ l.length from fun l => h _ l (Nat.le_refl _)
  intro n
  induction n with
  | zero => intro l hl; obtain rfl := List.eq_nil_of_length_eq_zero (Nat.le_zero.1 hl); simp [runsL_nil]
  | succ n ih =>
    intro l hl
    cases l with
    | nil => simp [runsL_nil]
    | cons x xs =>
      rw [runsL_cons, List.dropWhile_cons_of_pos (show ofRow _ _ = true from sameRow_refl _)]
      have h1 := (List.dropWhile_sublist (p := ofRow x.f0) (l := xs)).length_le
      have := ih (xs.dropWhile (ofRow x.f0)) (by simp at hl; omega)
      simp
      omega
theorem runsL_row : ∀ (n : Nat) (l : List S44), l.length ≤ n → ∀ x ∈ runsL l, ∃ y ∈ l, x.1 = y.f0 := by
  intro n
  induction n with
  | zero => intro l hl x hx; obtain rfl := List.eq_nil_of_length_eq_zero (Nat.le_zero.1 hl); simp [runsL_nil] at hx
  | succ n ih =>
    intro l hl x hx
    cases l with
    | nil => simp [runsL_nil] at hx
    | cons y ys =>
      rw [runsL_cons, List.dropWhile_cons_of_pos (show ofRow _ _ = true from sameRow_refl _)] at hx
      rcases List.mem_cons.1 hx with rfl | hx
      · exact ⟨y, by simp, rfl⟩
      · have h1 := (List.dropWhile_sublist (p := ofRow y.f0) (l := ys)).length_le
        obtain ⟨z, hz, e⟩ := ih (ys.dropWhile (ofRow y.f0)) (by simp at hl; omega) x hx
        exact ⟨z, List.mem_cons_of_mem _ ((List.dropWhile_sublist _).subset hz), e⟩
theorem edgeMay_len {l : List S44} (h : edgeMay l = true) : l.length ≤ 4096 := by
  simp only [edgeMay, edgeEach, Bool.and_eq_true, decide_eq_true_eq] at h
  exact h.1
theorem allOf_len {l : List S44} (h : edgeMay l = true) : (allOf l).length ≤ 4096 := by
  have h1 := edgeMay_len h
  have h2 := runsL_length l
  simp [allOf, groupsL, h]
  omega
theorem allOf_row {l : List S44} (hfit : Fits44 l) (h : edgeMay l = true) : ∀ x ∈ allOf l, x.f0.length * 32 ≤ 140737488351232 := by
  intro x hx
  simp only [allOf, groupsL, h, if_true, List.mem_map] at hx
  obtain ⟨y, hy, rfl⟩ := hx
  obtain ⟨z, hz, e⟩ := runsL_row _ l (Nat.le_refl _) y hy
  show y.1.length * 32 ≤ _
  rw [e]
  exact hfit.2 z hz
end Go.Proofs.Ytjkepojmceffkaa
namespace Go.Proofs.Ytjkepojmceffkaa
open Go Go.RowKit Go.Proofs.YtjkepojmceffkaaW.PrintWords Go.Proofs.Ytjkepojmceffkaa.R
attribute [local go_sem] Oper.semAt_some
theorem kc108 : KCells k108 := kc_iso _ (kc_pair (kc_slice 70 kc70) (kc_int .i64))
theorem kc59 : KCells k59 := kc_iso _ (kc_pair (kc_int .i64) (kc_int .i64))
theorem kc61 : KCells k61 := kc_iso _ (kc_pair kc59 (kc_slice 108 kc108))
theorem atInt {w : World} {A : Option Addr} {n : Nat} {xs : List Int} (h : Kd.C (Kd.int .i64) w A n xs) {j : Nat} {x : Int} (hj : xs[j]? = some x) : ∃ ad, A = some ad ∧ w.cell? (ad.add j) = some (.int .i64 x) := by
  have hl : j < xs.length := (List.getElem?_eq_some_iff.1 hj).1
  obtain ⟨ad, e, hc⟩ := Kd.at_int h (j : Int) (by omega) (by have := h.1; omega)
  refine ⟨ad, e, ?_⟩
  rw [show rd xs (j : Int) = x from getD_of hj] at hc
  simpa using hc
structure PartI (w : World) (l : List S44) (A : Option Addr) (c : Nat) (j : Nat) (W : World) : Prop where
  below : Below w.heap.size w W
  run : Boxed W (w.heap.size + 2) 34 (.slice A l.length c)
  all : ∃ v, Boxed W (w.heap.size + 1) 99 v ∧ AllR W w.heap.size v ((allOf l).take j)
theorem tyIn_step {ts : List Nat} {W W' : World} {row : Option Nat} (hg : W.grownBy W' row) (hr : ∀ r, row = some r → ∃ o : Obj, W.heap[r]? = some o ∧ o.isCells = false) : ∀ k, TyIn ts W k → W'.heap[k]? = W.heap[k]? := fun k hk => by
  refine hg.block k hk.lt (fun e => ?_)
  obtain ⟨q, _, cells, hc⟩ := hk
  obtain ⟨o, ho, hoc⟩ := hr k e.symm
  rw [hc] at ho
  cases ho
  cases hoc
theorem own_partI (w : World) (l : List S44) (A : Option Addr) (c : Nat) (B : Nat) (hB : w.heap.size ≤ B) : OwnFrom B (PartI w l A c) := by
  rintro j W W' row ⟨h1, h2, v, h3, h4⟩ hg hr
  exact ⟨ownFrom_below (β := Unit) (Nat.le_refl _) hB () W W' row h1 hg hr, own_boxed (β := Unit) B _ _ _ () W W' row h2 hg hr, v, own_boxed (β := Unit) B _ _ _ () W W' row h3 hg hr, AllR_step h4 (tyIn_step hg (fun r e => (hr r e).2))⟩
theorem boxed_all {W W1 : World} {base B t : Nat} {u v : Value} {xs : List S104} (h : Boxed W B t v) (hA : AllR W base u xs) (ht : t ≠ 104) (hg : W.grownBy W1 u.ownBlock) : Boxed W1 B t v :=
  h.kept hg (fun e => by
    obtain ⟨cells, hc⟩ := AllR_typed hA B e.symm
    rw [show W.heap[B]? = _ from h] at hc
    cases hc
    exact ht rfl)
theorem keeps_all {W W1 : World} {base B : Nat} {u : Value} {xs : List S104} (hA : AllR W base u xs) (hg : W.grownBy W1 u.ownBlock) : KeepsFrom B W W1 :=
  ⟨hg.size, fun k o _ hk ho => (hg.block k (Array.getElem?_eq_some_iff.1 hk).1 (fun e => by
    obtain ⟨cells, hc⟩ := AllR_typed hA k e.symm
    rw [hk] at hc
    cases hc
    cases ho)).trans hk⟩
theorem AllR_setBox {W : World} {base B t : Nat} {u v v' : Value} {xs : List S104} (hA : AllR W base u xs) (h : Boxed W B t v) (ht : t ∉ [104, 70, 118]) : AllR (W.setCell ⟨B, 0, none⟩ v') base u xs :=
  AllR_step hA (fun k hk => Below.heap_setCell W ⟨B, 0, none⟩ v' k (fun e => by
    obtain ⟨q, hq, cells, hc⟩ := hk
    subst e
    rw [show W.heap[k]? = _ from h] at hc
    cases hc
    exact ht hq))
theorem part_next {w : World} {l : List S44} {A Aa A3 : Option Addr} {c ca c3 j B : Nat} {W2 w3 : World} {xs xs' : List S104} {n3 : Nat} (hn3 : n3 = xs'.length) (E1 : Below w.heap.size w W2) (E2 : Boxed W2 (w.heap.size + 2) 34 (.slice A l.length c)) (E3 : Boxed W2 (w.heap.size + 1) 99 (.slice Aa xs.length ca)) (E4 : AllR W2 w.heap.size (.slice Aa xs.length ca) xs)
    (hA : AllR w3 w.heap.size (.slice A3 xs'.length c3) xs') (hb : Below w.heap.size w w3) (hg : W2.grownBy w3 (Value.slice Aa xs.length ca).ownBlock) (hx : (allOf l).take (j + 1) = xs') :
    KBox [136, 34] W2 (w3.setCell ⟨w.heap.size + 1, 0, none⟩ (.slice A3 n3 c3)) ∧ KeepsFrom B W2 (w3.setCell ⟨w.heap.size + 1, 0, none⟩ (.slice A3 n3 c3)) ∧ PartI w l A c (j + 1) (w3.setCell ⟨w.heap.size + 1, 0, none⟩ (.slice A3 n3 c3)) := by
  subst hn3
  have h3 := boxed_all E3 E4 (by decide) hg
  refine ⟨fun k u v hu hk => ?_, (keeps_all E4 hg).trans ((KeepsOthers.setCell _ _ _).from B), hb.setCell (p := ⟨w.heap.size + 1, 0, none⟩) (by show w.heap.size ≤ w.heap.size + 1; omega) _, (boxed_all E2 E4 (by decide) hg).other (by omega) _, _, h3.set _, ?_⟩
  · have hk3 := boxed_all hk E4 (by rcases (by simpa using hu : u = 136 ∨ u = 34) with rfl | rfl <;> decide) hg
    refine hk3.other (fun e => ?_) _
    subst e
    have : W2.heap[w.heap.size + 1]? = _ := hk
    rw [show W2.heap[w.heap.size + 1]? = _ from E3] at this
    cases this
    simp at hu
  · rw [hx]; exact AllR_setBox hA h3 (by simp)
set_option maxRecDepth 100000 in
set_option maxHeartbeats 2000000 in
theorem parts_calls (l : List S44) (A : Option Addr) (c : Nat) (t : Int) (w : World) (hC : Kd.C k44 w A l.length l) (hfit : Fits44 l) (hwf : Wf44 l) (hwt : (Lit.int .i64 t).wf = true) :
    Calls Try.prog 29 #[.slice A l.length c, .int .i64 t] w fun e w' => ∃ A' c', e = .returned (.tuple #[.slice A' (snapParts l t).1.length c', .int .i64 (snapParts l t).2]) ∧ (snapParts l t).1.length ≤ c' ∧ Kd.C k61 w' A' (snapParts l t).1.length (snapParts l t).1 ∧ Below w.heap.size w w' := by
  have hm : l.length ≤ 9223372036854775807 := hC.2.1
  have HC := Lib.hid hC
  have HF := Lib.hid hfit
  have HW := Lib.hid hwf
  have HT := Lib.hid hwt
  clear hC hfit hwf hwt
  refine (callsIn_wide (n := 5)).1 ?_
  refine callsIn_of_wp_marks Try.func29 rfl trivial ?_ rfl
  simp only [Try.ntmps29, List.size_toArray, List.length_cons, List.length_nil, Nat.reduceAdd, Nat.reduceSub, Array.replicate_succ, Array.replicate_zero, List.push_toArray, List.append_toArray, List.nil_append, List.cons_append]
  gi_wp2_with fail
  refine ⟨trivial, callsIn_wide.2 ((cuts_calls l A c t _ HC.out HF.out HW.out HT.out).mono ?_)⟩
  rintro e w1 ⟨Ac, cc, rfl, hcc, hCc, hb1⟩
  have Hcc := Lib.hid hcc
  have HCc := Lib.hid hCc
  clear hcc hCc
  have hpd : snapParts l t = if (snapCuts l t).2 ≠ 0 then ([], (snapCuts l t).2) else match partsGo (allOf l) (snapCuts l t).1 [] with | none => ([], 7) | some out => (out, 0) := rfl
  have hcm : (snapCuts l t).2 = 0 → edgeMay l = true := snapCuts_may
  have Hpd := Lib.hid hpd
  have Hcm := Lib.hid hcm
  clear hpd hcm
  generalize (snapCuts l t).1 = cuts at Hcc HCc Hpd ⊢
  generalize (snapCuts l t).2 = err at Hpd Hcm ⊢
  by_cases he : err = 0
  case neg =>
    have hr : snapParts l t = ([], err) := by rw [Hpd.out, if_pos he]
    have Hr := Lib.hid hr
    clear hr
    gi_wp2_with fail
    show LeavesInM _ _ _ _ _ _ _ _ _
    refine ⟨_, results_tmp2 rfl _ _ _, none, 0, by rw [Hr.out]; rfl, by rw [Hr.out]; exact Nat.le_refl _, by rw [Hr.out]; exact Kd.C_nil _ _, hb1⟩
  subst he
  have hmay := Hcm.out rfl
  have Hmay := Lib.hid hmay
  clear hmay
  gi_wp2_with fail
  clear Hcm
  refine ⟨trivial, callsIn_wide.2 ((groups_calls A l.length c _).mono ?_)⟩
  rintro e w' ⟨rfl, rfl⟩
  gi_wp2_with fail
  have hgl : groupsL l = runsL l := by simp [groupsL, Hmay.out]
  refine wpIn_rangeFunc_C2 rfl (by omega) (gf := 99) (lb := #[.pointer (some ⟨w1.heap.size + 2, 0, none⟩)]) rfl trivial enters99 (items := groupsL l) (Rd := RdRun) (Mem := MemRun l A c (w1.heap.size + 2)) (groups1_iter _ l A c (w1.heap.size + 2) HF.out) rdRun_size (fun x args => own_RdRun _ x args)
    (PartI w1 l A c) (fun _ _ => False) (own_partI w1 l A c _ (by simp; omega)) (fun _ _ _ _ h => h.elim) ?mem ?start ?round ?done ?stop
  case mem => exact fun j W hi => ⟨hi.run.cell, Kd.C_below HC.out (hb1.trans (hi.below.mono hb1.size))⟩
  case start => exact ⟨(((Below.refl _ _).alloc (Nat.le_refl _) _).alloc (by simp) _).alloc (by simp; omega) _, boxed_new' (by simp), _, (boxed_new' (by simp)).alloc _, AllR_below (AllR_nil (Nat.le_refl _)) (((Below.refl _ _).alloc (Nat.le_refl _) _).alloc (by simp) _)⟩
  case round =>
    rintro L j ⟨r, f⟩ args W K hx ⟨Ar, cr, Bf, cf, rfl, g1, g2, g3, g4⟩ hK
    gi_wp2_with fail
    clear g1 g2 g3 g4
    rintro W2 hL rec hrec hi ⟨Ar', cr', Bf', cf', hargs, g1, g2, g3, g4⟩
    simp only [Array.mk.injEq, List.cons.injEq, Value.slice.injEq, and_true, true_and] at hargs
    obtain ⟨⟨rfl, rfl⟩, rfl, rfl⟩ := hargs
    obtain ⟨e1, e2, v, e3, e4⟩ := hi
    obtain ⟨Aa, ca, rfl, hca, hCa⟩ := AllR_slice e4
    have hxs : (allOf l).take (j + 1) = (allOf l).take j ++ [⟨r, f⟩] := by
      have h1 : (allOf l)[j]? = some ⟨r, f⟩ := by simp [allOf, hx]
      obtain ⟨hl, h2⟩ := List.getElem?_eq_some_iff.1 h1
      rw [← List.take_append_getElem hl, h2]
    have hln : ((allOf l).take j).length ≤ 4096 := by have := allOf_len Hmay.out; simp; omega
    have Hxs := Lib.hid hxs
    have Hln := Lib.hid hln
    clear hxs hln
    generalize (allOf l).take j = xs at *
    have Hfk := Lib.hid (FK_pairRun g1 g2 g3 g4)
    have Hx := Lib.hid hx
    have E1 := Lib.hid e1
    have E2 := Lib.hid e2
    have E3 := Lib.hid e3
    have E4 := Lib.hid e4
    have b1 := e3.cell
    have b2 := e3.frozen
    clear hca hCa hx e1 e2 e3 e4 g1 g2 g3 g4 hrec
    dsimp only at Hfk
    have hbw : w.heap.size ≤ w1.heap.size := hb1.size
    gi_wp2_with (first | (gi_at_builtin; refine wpListIn_plain rfl (fun Kc hKc => oper_wpIn_of_wp (by simp) ?_); (refine AllR_append_wp (ops := #[]) (w0 := w1) (W := W2) w1.heap.size rfl (.tmp 31) (.tmp 35) rfl (.slice Aa xs.length ca) xs ⟨r, f⟩ [.slice Ar r.length cr, .slice Bf f.length cf] rfl rfl Hfk.out E4.out E1.out E1.out.size ?a3 ?_; (case a3 => have := Hln.out; omega)); intro v1 w3 hA3 hb3 hg3; obtain ⟨A3, c3, rfl, hc3, hC3⟩ := AllR_slice hA3; have HA3 := Lib.hid hA3; have Hb3 := Lib.hid hb3; have Hg3 := Lib.hid hg3; have d1 := (boxed_all E3.out E4.out (by decide) hg3).cell; have d2 := (boxed_all E3.out E4.out (by decide) hg3).frozen; clear hA3 hb3 hg3 hc3 hC3 b1 b2; refine hKc _ _ ?_; go_frame))
    exact part_next (by simp) E1.out E2.out E3.out E4.out HA3.out Hb3.out Hg3.out Hxs.out
  case done =>
    rintro D W hD hi hK
    obtain ⟨e1, e2, v, e3, e4⟩ := hi
    rw [show (allOf l).take (groupsL l).length = allOf l by rw [List.take_of_length_le]; simp [allOf]] at e4
    obtain ⟨Aa, ca, rfl, hca, hCa⟩ := AllR_slice e4
    have HK := Lib.hid hK
    have E1 := Lib.hid e1
    have E3 := Lib.hid e3
    have HCa := Lib.hid hCa
    have Hlen := Lib.hid (allOf_len Hmay.out)
    have Hrow := Lib.hid (allOf_row HF.out Hmay.out)
    have HCw := Lib.hid (Kd.C_below HCc.out e1)
    clear hK e1 e2 e3 e4 hca hCa hgl
    generalize allOf l = all at *
    gi_wp2_with (refine wpIn_wide.2 ?_)
    have hbw : w.heap.size ≤ w1.heap.size := hb1.size
    have HD := Lib.hid (show w.heap.size ≤ D by simp at hD; omega)
    have hcm : cuts.length ≤ 9223372036854775807 := HCw.out.2.1
    have HEw := Lib.hid (hb1.trans (E1.out.mono hb1.size))
    clear hD
    go_loopw [12, 41] (fun v12 v41 wr => ∃ (j : Nat) (out : List S61), j ≤ cuts.length ∧ v41 = .int .i64 j ∧ Kd.R k61 61 wr W.heap.size (fun _ => True) v12 out ∧ out.length ≤ 1024 ∧ Below W.heap.size W wr ∧ Hid (partsGo all cuts [] = partsGo all (cuts.drop j) out)) (fun _ v _ => cuts.length - (intOf v).toNat)
    case atStart => exact ⟨0, [], Nat.zero_le _, rfl, R_litG (Nat.le_refl _), by simp, (Below.refl _ _).alloc (Nat.le_refl _) _, Lib.hid rfl⟩
    case round =>
      obtain ⟨j, out, hj, rfl, hR, ho, hbr, Hgo⟩ := hrel
      obtain ⟨Ao, co, rfl, hco, hCo⟩ := Kd.R_reads hR
      have HR := Lib.hid hR
      have Hbr := Lib.hid hbr
      clear hR hco hCo
      by_cases hlt : j < cuts.length
      · obtain ⟨tj, htj⟩ : ∃ tj, cuts[j]? = some tj := ⟨cuts[j], by simp [hlt]⟩
        obtain ⟨ad, hA, x0⟩ := atInt HCw.out htj
        subst hA
        have Htj := Lib.hid htj
        have z0 := (hbr.cell (World.block_lt_of_cell? W _ x0)).trans x0
        have w0' : (0 : Int) ≤ (j : Int) := by omega
        have w1' : (j : Int) < (cuts.length : Int) := by omega
        have hdrop : cuts.drop j = tj :: cuts.drop (j + 1) := by rw [drop_cons hlt, (List.getElem?_eq_some_iff.1 htj).2]
        have Hdrop := Lib.hid hdrop
        clear htj x0 hbr hdrop
        go_wp2_with fail
        refine (alive_calls all tj (w1.heap.size + 1) Aa ca _ (boxed_below E3.out Hbr.out).cell (Kd.C_below HCa.out Hbr.out) Hlen.out Hrow.out).mono ?_
        rintro e w4 ⟨v4, rfl, hR4, hb4⟩
        obtain ⟨A4, c4, rfl, hc4, hC4⟩ := Kd.R_reads hR4
        have HR4 := Lib.hid hR4
        have Hb4 := Lib.hid (Hbr.out.trans (hb4.mono Hbr.out.size))
        have Hb4' := Lib.hid hb4
        clear hR4 hb4 hc4 hC4
        generalize hal : aliveL tj all = al at *
        have Hal := Lib.hid hal
        clear hal
        have Hk4 := Lib.hid ((Hb4.out.block D (Array.getElem?_eq_some_iff.1 HK.out).1).trans HK.out)
        by_cases h0 : al.length = 0
        · have hgo2 : partsGo all cuts [] = partsGo all (cuts.drop (j + 1)) out := by rw [Hgo.out, Hdrop.out, partsGo, Hal.out, if_pos h0]
          have Hgo2 := Lib.hid hgo2
          clear hgo2
          go_wp2_with fail
          go_roundw
          case rel => exact ⟨j + 1, out, by omega, by go_num, Kd.R_below HR.out Hb4'.out, ho, Hb4.out, Hgo2⟩
          case measure => simp [intOf]; omega
        · by_cases h1 : out.length = 1024
          · have hr : snapParts l t = ([], 7) := by rw [Hpd.out, if_neg (by simp), Hgo.out, Hdrop.out, partsGo, Hal.out, if_neg h0, if_pos h1]
            have Hr := Lib.hid hr
            clear hr
            go_wp2_with fail
            refine ⟨by simp, .inl ⟨_, _, rfl, run_takeDeferred Hk4.out, ?_⟩⟩
            refine ⟨_, results_tmp2 rfl _ _ _, none, 0, by rw [Hr.out]; rfl, by rw [Hr.out]; exact Nat.le_refl _, by rw [Hr.out]; exact Kd.C_nil _ _, ?_⟩
            exact (HEw.out.trans (Hb4.out.mono HEw.out.size)).grown (grownBy_putObj' _ _ _) (Nat.le_trans HEw.out.size Hb4.out.size) (fun k e => by cases e; exact HD.out)
          · by_cases h2 : j + 1 < cuts.length
            · obtain ⟨te, hte⟩ : ∃ te, cuts[j + 1]? = some te := ⟨cuts[j + 1], by simp [h2]⟩
              obtain ⟨ad2, hA2, x2⟩ := atInt HCw.out hte
              cases hA2
              have z2 := (Hb4.out.cell (World.block_lt_of_cell? W _ x2)).trans x2
              have w2' : wrap64 ((j : Int) + 1) = ((j + 1 : Nat) : Int) := wrap_succ (by omega)
              have w3' : ((j + 1 : Nat) : Int) < (cuts.length : Int) := by omega
              have w4' : (0 : Int) ≤ ((j + 1 : Nat) : Int) := by omega
              have hgo2 : partsGo all cuts [] = partsGo all (cuts.drop (j + 1)) (out ++ [⟨⟨tj, te⟩, al⟩]) := by
                rw [Hgo.out, Hdrop.out, partsGo, Hal.out, if_neg h0, if_neg h1]
                have : (cuts.drop (j + 1)).headD 1125899906842624 = te := by rw [drop_cons h2, (List.getElem?_eq_some_iff.1 hte).2]; rfl
                rw [this]
              have Hgo2 := Lib.hid hgo2
              have z3 : w4.cell? ⟨ad.block, ad.off + (j + 1), none⟩ = some (.int .i64 te) := z2
              clear hgo2 hte x2
              go_wp2_with (first | (at_builtin; (refine Kd.R_append k61 (w0 := W) (W := w4) W.heap.size rfl (.tmp 65) (.tmp 71) 53 61 _ 40 rfl Try.underlying53 info61 rfl (by decide) (by decide) (.slice Ao out.length co) out ⟨⟨tj, te⟩, al⟩ [.int .i64 tj, .int .i64 te, .slice A4 al.length c4] (fun _ => True) (fun k => wr.heap.size ≤ k) rfl rfl ?a1 ?a2 (fun _ _ => trivial) ?a3 ?a4 ?a5 ?a6 ?_; (case a1 => exact k61_mkM _ _ _ ⟨⟨tj, te⟩, al⟩ (Kd.R_lower (Kd.R_mono (Kd.R_bound HR4.out) (fun k hk => hk.2.1)) Hbr.out.size)); (case a2 => exact fun k hk => ⟨trivial, fun e => by have := Kd.R_lt HR.out k e.symm; omega⟩); (case a3 => exact Kd.R_below HR.out Hb4'.out); (case a4 => exact Hb4.out); (case a5 => exact Hb4.out.size); (case a6 => omega)); intro v6 w6 hR6 hb6 hg6 hat6; clear hg6 hat6; have HR6 := Lib.hid hR6; have Hb6 := Lib.hid hb6; clear hR6 hb6; go_frame))
              go_roundw
              case rel => exact ⟨j + 1, out ++ [⟨⟨tj, te⟩, al⟩], by omega, by go_num, HR6.out, by simp; omega, Hb6.out, Hgo2⟩
              case measure => simp [intOf]; omega
            · have hgo2 : partsGo all cuts [] = partsGo all (cuts.drop (j + 1)) (out ++ [⟨⟨tj, 1125899906842624⟩, al⟩]) := by
                rw [Hgo.out, Hdrop.out, partsGo, Hal.out, if_neg h0, if_neg h1]
                have : (cuts.drop (j + 1)).headD 1125899906842624 = 1125899906842624 := by rw [List.drop_of_length_le (by omega)]; rfl
                rw [this]
              have Hgo2 := Lib.hid hgo2
              have w2' : wrap64 ((j : Int) + 1) = ((j + 1 : Nat) : Int) := wrap_succ (by omega)
              have w3' : ¬ ((j + 1 : Nat) : Int) < (cuts.length : Int) := by omega
              clear hgo2
              go_wp2_with (first | (at_builtin; (refine Kd.R_append k61 (w0 := W) (W := w4) W.heap.size rfl (.tmp 65) (.tmp 71) 53 61 _ 40 rfl Try.underlying53 info61 rfl (by decide) (by decide) (.slice Ao out.length co) out ⟨⟨tj, 1125899906842624⟩, al⟩ [.int .i64 tj, .int .i64 1125899906842624, .slice A4 al.length c4] (fun _ => True) (fun k => wr.heap.size ≤ k) rfl rfl ?a1 ?a2 (fun _ _ => trivial) ?a3 ?a4 ?a5 ?a6 ?_; (case a1 => exact k61_mkM _ _ _ ⟨⟨tj, 1125899906842624⟩, al⟩ (Kd.R_lower (Kd.R_mono (Kd.R_bound HR4.out) (fun k hk => hk.2.1)) Hbr.out.size)); (case a2 => exact fun k hk => ⟨trivial, fun e => by have := Kd.R_lt HR.out k e.symm; omega⟩); (case a3 => exact Kd.R_below HR.out Hb4'.out); (case a4 => exact Hb4.out); (case a5 => exact Hb4.out.size); (case a6 => omega)); intro v6 w6 hR6 hb6 hg6 hat6; clear hg6 hat6; have HR6 := Lib.hid hR6; have Hb6 := Lib.hid hb6; clear hR6 hb6; go_frame))
              go_roundw
              case rel => exact ⟨j + 1, out ++ [⟨⟨tj, 1125899906842624⟩, al⟩], by omega, by go_num, HR6.out, by simp; omega, Hb6.out, Hgo2⟩
              case measure => simp [intOf]; omega
      · obtain rfl : j = cuts.length := by omega
        have hr : snapParts l t = (out, 0) := by rw [Hpd.out, if_neg (by simp), Hgo.out, List.drop_length, partsGo]
        have Hr := Lib.hid hr
        have Hk4 := Lib.hid ((hbr.block D (Array.getElem?_eq_some_iff.1 HK.out).1).trans HK.out)
        clear hr hbr
        have HC2 := Lib.hid (Kd.R_reads' HR.out)
        have HBe := Lib.hid (HEw.out.trans (Hbr.out.mono HEw.out.size))
        go_wp2_with fail
        gi_wp2_with fail
        refine ⟨by simp, .inl ⟨_, _, rfl, run_takeDeferred Hk4.out, ?_⟩⟩
        refine ⟨_, results_tmp2 rfl _ _ _, Ao, co, by rw [Hr.out]; rfl, by rw [Hr.out]; exact HC2.out.2.1, ?_, ?_⟩
        · rw [Hr.out]
          refine kc61.C (cellsLe_of_grown (grownBy_putObj' _ _ _) (fun r e => by cases e; exact ⟨_, Hk4.out, rfl⟩)) HC2.out.2.2
        · exact HBe.out.grown (grownBy_putObj' _ _ _) HBe.out.size (fun k e => by cases e; exact HD.out)
  case stop => exact fun _ _ _ _ h => h.elim
end Go.Proofs.Ytjkepojmceffkaa
namespace Go.Proofs.Ytjkepojmceffkaa
open Go Go.RowKit Go.Proofs.YtjkepojmceffkaaW.PrintWords Go.Proofs.Ytjkepojmceffkaa.R
def withIns (t : Int) : Bool → List Int → List Int
  | put, [] => if put = true then [] else [t]
  | put, x :: xs => if x > t ∧ put = false then t :: x :: withIns t true xs else x :: withIns t put xs
def withL (l : List Int) (t : Int) : List Int := if t ∈ l then l else withIns t false l
theorem rdInt {xs : List Int} {j : Nat} (h : j < xs.length) : rd xs (j : Int) = xs[j] := by simp [rd, List.getD, h]
theorem withL_l0 (l : List Int) (t : Int) (hl : l.length ≤ 1000000) : ∀ m j (out : List Int) (put : Bool), j + m = l.length → out.length + (if put = true then 0 else 1) ≤ j + 1 → t ∉ l.take j →
    rescindref09_With.l0 (m + 1) l t out put (j : Int) = some (if t ∈ l then l else out ++ withIns t put (l.drop j)) := by
  intro m
  induction m with
  | zero =>
    intro j out put hj ho ht
    have ho' : out.length ≤ j + 1 := by omega
    rw [rescindref09_With.l0, if_neg (by omega), List.drop_of_length_le (by omega)]
    rw [List.take_of_length_le (by omega)] at ht
    rw [if_neg ht]
    cases put
    · rw [if_neg (by simp), if_pos (by omega)]; rfl
    · simp [withIns]
  | succ m ih =>
    intro j out put hj ho ht
    have ho' : out.length ≤ j + 1 := by omega
    have hlt : j < l.length := by omega
    rw [rescindref09_With.l0, if_pos (by omega), if_pos (by omega), rdInt hlt, drop_cons hlt]
    by_cases h1 : l[j] = t
    · rw [if_pos h1, if_pos (by rw [← h1]; exact List.getElem_mem hlt)]
    rw [if_neg h1]
    have ht2 : t ∉ l.take (j + 1) := by
      rw [← List.take_append_getElem hlt, List.mem_append, not_or]
      exact ⟨ht, by simpa using fun e => h1 e.symm⟩
    rw [wrap_succ (by omega)]
    by_cases h2 : l[j] > t
    · rw [if_pos h2]
      cases put
      · rw [if_neg (by simp), if_pos (by omega)]
        simp only [Option.bind_some]
        simp at ho
        rw [if_pos (by simp; omega), ih (j + 1) _ _ (by omega) (by simp; omega) ht2]
        have e : withIns t false (l[j] :: l.drop (j + 1)) = t :: l[j] :: withIns t true (l.drop (j + 1)) := by rw [withIns, if_pos ⟨h2, rfl⟩]
        rw [e]
        simp
      · rw [if_pos rfl, if_pos (by omega), ih (j + 1) _ _ (by omega) (by simp at ho ⊢; omega) ht2]
        have e : withIns t true (l[j] :: l.drop (j + 1)) = l[j] :: withIns t true (l.drop (j + 1)) := by rw [withIns, if_neg (by simp)]
        rw [e]
        simp
    · rw [if_neg h2, if_pos (by omega), ih (j + 1) _ _ (by omega) (by cases put <;> simp at ho ⊢ <;> omega) ht2]
      have e : withIns t put (l[j] :: l.drop (j + 1)) = l[j] :: withIns t put (l.drop (j + 1)) := by rw [withIns, if_neg (fun h => h2 h.1)]
      rw [e]
      simp
theorem withL_f (l : List Int) (t : Int) (hl : l.length ≤ 1000000) : rescindref09_With.f (l.length + 1) l t = some (withL l t) := by
  have := withL_l0 l t hl l.length 0 [] false (by omega) (by simp) (by simp)
  simpa [rescindref09_With.f, withL] using this
theorem withIns_length (t : Int) : ∀ (l : List Int) (put : Bool), (withIns t put l).length ≤ l.length + 1
  | [], put => by cases put <;> simp [withIns]
  | x :: xs, put => by
    rw [withIns]
    have h1 := withIns_length t xs put
    have h2 := withIns_length t xs true
    split
    · rename_i h
      have : ∀ (l : List Int), (withIns t true l).length = l.length := fun l => by induction l with
        | nil => rfl
        | cons a l ih => rw [withIns, if_neg (by simp)]; simp [ih]
      simp [this]
    · simp; omega
theorem withL_length (l : List Int) (t : Int) : (withL l t).length ≤ l.length + 1 := by
  unfold withL
  split
  · omega
  · exact withIns_length t l false
def refStep (t : Int) (out : List Int) (x : S44) : List Int := if x.f1 > t then withL out x.f1 else out
def refCutsL (t : Int) (l : List S44) : List Int := l.foldl (refStep t) [t]
theorem refCutsL_take {t : Int} {l : List S44} {j : Nat} {x : S44} (hx : l[j]? = some x) : refCutsL t (l.take (j + 1)) = refStep t (refCutsL t (l.take j)) x := by
  obtain ⟨hl, rfl⟩ := List.getElem?_eq_some_iff.1 hx
  unfold refCutsL
  rw [← List.take_append_getElem hl, List.foldl_append]
  rfl
theorem refCutsL_length (t : Int) (l : List S44) : ∀ j, j ≤ l.length → (refCutsL t (l.take j)).length ≤ j + 1 := by
  intro j
  induction j with
  | zero => intro _; simp [refCutsL]
  | succ j ih =>
    intro h
    rw [refCutsL_take (x := l[j]) (by simp)]
    unfold refStep
    have := ih (by omega)
    split
    · have := withL_length (refCutsL t (l.take j)) l[j].f1
      omega
    · omega
def refCuts (m tb : Bool) (l : List S44) (t : Int) : List Int × Int :=
  if m = true then (if tb = true then (if t < 0 ∨ t > 1125899906842624 then ([], 13) else if t = 1125899906842624 then ([], 0) else (refCutsL t l, 0)) else ([], 20)) else ([], 2)
def tickB (t : Int) : Bool := decide (0 ≤ t) && decide (t ≤ 1125899906842624)
theorem tick_f (t : Int) : rescindref02_Tick.f t = some (tickB t) := by
  unfold rescindref02_Tick.f tickB
  by_cases h : t ≥ 0
  · rw [if_pos h, decide_eq_true (show 0 ≤ t from h)]; rfl
  · rw [if_neg h, decide_eq_false (show ¬ 0 ≤ t from h)]; rfl
theorem R_lit1 {w : World} {t : Int} : Kd.R (Kd.int .i64) 3 (w.alloc (.cells #[.int .i64 t] 3)) w.heap.size (fun _ => True) (.slice (some ⟨w.heap.size, 0, none⟩) 1 1) [t] :=
  ⟨fun _ _ => trivial, [.int .i64 t], by have := World.ownsRow_lit (base := w.heap.size) (e := 3) (size := 1) w #[.int .i64 t] 1 (Nat.le_refl _) (by unfold maxLen; omega) rfl; exact this, Kd.reps_scalar (enc := Value.int .i64) [t]⟩
set_option maxRecDepth 100000 in
set_option maxHeartbeats 2000000 in
theorem refCuts_calls (l : List S44) (A : Option Addr) (c : Nat) (t : Int) (m tb : Bool) (km kt : Nat) (w : World) (hC : Kd.C k44 w A l.length l) (hc : l.length ≤ c) (hl : l.length ≤ 4096) (hm : rescindref10_May.f km l = some m) (ht : rescindref10_Table.f kt l = some tb) :
    Calls Try.prog 28 #[.slice A l.length c, .int .i64 t] w fun e w' => ∃ A' c', e = .returned (.tuple #[.slice A' (refCuts m tb l t).1.length c', .int .i64 (refCuts m tb l t).2]) ∧ (refCuts m tb l t).1.length ≤ c' ∧ Kd.C (Kd.int .i64) w' A' (refCuts m tb l t).1.length (refCuts m tb l t).1 ∧ Below w.heap.size w w' := by
  have hmx : l.length ≤ 9223372036854775807 := hC.2.1
  have HC := Lib.hid hC
  have Hc := Lib.hid hc
  have HM := Lib.hid hm
  have HT := Lib.hid ht
  clear hC hc hm ht
  go_enter Try.func28, Try.ntmps28
  go_wp2_with fail
  refine (rescindref10_May.calls km A c l m _ HC.out Hc.out HM.out).mono ?_
  rintro e w1 ⟨rfl, hb1⟩
  cases m with
  | false =>
    have hr : refCuts false tb l t = ([], 2) := by simp [refCuts]
    have Hr := Lib.hid hr
    clear hr
    go_wp2_with fail
    go_ret2
    exact ⟨none, 0, by rw [Hr.out]; rfl, by rw [Hr.out]; exact Nat.le_refl _, by rw [Hr.out]; exact Kd.C_nil _ _, hb1⟩
  | true =>
  go_wp2_with fail
  refine (rescindref10_Table.calls kt A c l tb _ (Kd.C_below HC.out hb1) Hc.out HT.out).mono ?_
  rintro e w2 ⟨rfl, hb2⟩
  replace hb2 := hb1.trans (hb2.mono hb1.size)
  clear hb1
  cases tb with
  | false =>
    have hr : refCuts true false l t = ([], 20) := by simp [refCuts]
    have Hr := Lib.hid hr
    clear hr
    go_wp2_with fail
    go_ret2
    exact ⟨none, 0, by rw [Hr.out]; rfl, by rw [Hr.out]; exact Nat.le_refl _, by rw [Hr.out]; exact Kd.C_nil _ _, hb2⟩
  | true =>
  go_wp2_with fail
  refine (rescindref02_Tick.calls t _ _ (tick_f t)).mono ?_
  rintro e w3 ⟨rfl, hd3⟩
  have hb3 : Below w.heap.size w w3 := by
    obtain ⟨nd, rfl⟩ := hd3
    exact pw_below_drewN hb2 nd
  clear hb2 hd3
  generalize htk : tickB t = tk
  have Htk := Lib.hid htk
  clear htk
  cases tk with
  | false =>
    have hr : refCuts true true l t = ([], 13) := by
      have := Htk.out
      simp only [tickB, Bool.and_eq_false_iff, decide_eq_false_iff_not] at this
      simp only [refCuts, if_true]
      rw [if_pos (by omega)]
    have Hr := Lib.hid hr
    clear hr
    go_wp2_with fail
    go_ret2
    exact ⟨none, 0, by rw [Hr.out]; rfl, by rw [Hr.out]; exact Nat.le_refl _, by rw [Hr.out]; exact Kd.C_nil _ _, hb3⟩
  | true =>
  have htk : 0 ≤ t ∧ t ≤ 1125899906842624 := by
    have := Htk.out
    simp only [tickB, Bool.and_eq_true, decide_eq_true_eq] at this
    exact this
  by_cases h3 : t = 1125899906842624
  · have hr : refCuts true true l t = ([], 0) := by simp only [refCuts, if_true]; rw [if_neg (by omega), if_pos h3]
    have Hr := Lib.hid hr
    clear hr
    subst h3
    go_wp2_with fail
    go_ret2
    exact ⟨none, 0, by rw [Hr.out]; rfl, by rw [Hr.out]; exact Nat.le_refl _, by rw [Hr.out]; exact Kd.C_nil _ _, hb3⟩
  have hr : refCuts true true l t = (refCutsL t l, 0) := by simp only [refCuts, if_true]; rw [if_neg (by omega), if_neg h3]
  have Hr := Lib.hid hr
  clear hr htk
  have hte : (t == 1125899906842624) = false := by simpa using h3
  go_wp2_with fail
  (try simp only [hte])
  go_loopw [6, 7] (fun v6 v7 wr => ∃ j : Nat, j ≤ l.length ∧ v7 = .int .i64 j ∧ Kd.R (Kd.int .i64) 3 wr w3.heap.size (fun _ => True) v6 (refCutsL t (l.take j)) ∧ Below w3.heap.size w3 wr) (fun _ v _ => l.length - (intOf v).toNat)
  case atStart => exact ⟨0, Nat.zero_le _, rfl, R_lit1, (Below.refl _ _).alloc (Nat.le_refl _) _⟩
  case round =>
    obtain ⟨j, hj, rfl, hR, hbr⟩ := hrel
    have HR := Lib.hid hR
    have Hlen := Lib.hid (refCutsL_length t l j hj)
    by_cases hlt : j < l.length
    · obtain ⟨x, hx⟩ : ∃ x, l[j]? = some x := ⟨l[j], by simp [hlt]⟩
      obtain ⟨ad, Ar, cr, hA, x0, x1, x2, hcr, hCr⟩ := at44 HC.out hx
      subst hA
      have hbw := hb3.trans (hbr.mono hb3.size)
      have z1 := (hbw.cell (World.block_lt_of_cell? w _ x1)).trans x1
      have w0' : (0 : Int) ≤ (j : Int) := by omega
      have w1' : (j : Int) < (l.length : Int) := by omega
      have hst := refCutsL_take (t := t) hx
      have Hst := Lib.hid hst
      clear x0 x1 x2 hcr hCr hx hst hR hbw
      by_cases hgt : x.f1 > t
      · have hst2 : refCutsL t (l.take (j + 1)) = withL (refCutsL t (l.take j)) x.f1 := by rw [Hst.out]; simp [refStep, hgt]
        have Hst2 := Lib.hid hst2
        clear hst2
        go_wp2_with fail
        refine (rescindref09_With.calls _ (fun _ => True) u6 (refCutsL t (l.take j)) x.f1 _ w3 _ hbr HR.out (withL_f _ _ (by have := Hlen.out; omega))).mono ?_
        rintro e w4 ⟨v4, rfl, hR4, hb4, hk4⟩
        obtain ⟨A4, c4, rfl, hc4, hC4⟩ := Kd.R_reads hR4
        clear hc4 hC4
        have HR4 := Lib.hid hR4
        have Hb4 := Lib.hid hb4
        clear hR4 hb4 hk4
        go_wp2_with fail
        go_roundw
        case rel => exact ⟨j + 1, by omega, by go_num, by rw [Hst2.out]; exact Kd.R_mono HR4.out (fun _ _ => trivial), Hb4.out⟩
        case measure => simp [intOf]; omega
      · have hst2 : refCutsL t (l.take (j + 1)) = refCutsL t (l.take j) := by rw [Hst.out]; simp [refStep, hgt]
        have Hst2 := Lib.hid hst2
        clear hst2
        go_wp2_with fail
        go_roundw
        case rel => exact ⟨j + 1, by omega, by go_num, by rw [Hst2.out]; exact HR.out, hbr⟩
        case measure => simp [intOf]; omega
    · obtain rfl : j = l.length := by omega
      rw [List.take_length] at hR
      obtain ⟨A6, c6, rfl, hc6, hC6⟩ := Kd.R_reads hR
      have HC6 := Lib.hid hC6
      have Hc6 := Lib.hid hc6
      clear hR hC6 hc6
      go_wp2_with fail
      go_ret2
      exact ⟨A6, c6, by rw [Hr.out]; rfl, by rw [Hr.out]; exact Hc6.out, by rw [Hr.out]; exact HC6.out, hb3.trans (hbr.mono hb3.size)⟩
end Go.Proofs.Ytjkepojmceffkaa
namespace Go.Proofs.Ytjkepojmceffkaa
open Go Go.RowKit Go.Proofs.YtjkepojmceffkaaW.PrintWords Go.Proofs.Ytjkepojmceffkaa.R
def refOne (V : List S70 → Int) (r : List S70) : Option S108 := if V r > 0 then some ⟨r, V r⟩ else none
def refAliveL (V : List S70 → Int) (rows : List (List S70)) : List S108 := rows.filterMap (refOne V)
theorem refAliveL_take {V : List S70 → Int} {rows : List (List S70)} {j : Nat} {r : List S70} (hx : rows[j]? = some r) : refAliveL V (rows.take (j + 1)) = refAliveL V (rows.take j) ++ (refOne V r).toList := by
  obtain ⟨hl, rfl⟩ := List.getElem?_eq_some_iff.1 hx
  unfold refAliveL
  rw [← List.take_append_getElem hl, List.filterMap_append]
  cases h : refOne V rows[j] <;> simp [h]
theorem N_litG {α : Type} {d : Kd α} {e : Nat} {w : World} {base : Nat} {ok : Nat → Prop} (h : base ≤ w.heap.size) (hok : ok w.heap.size) : Kd.N d e (w.alloc (.cells #[] e)) base ok (.slice (some ⟨w.heap.size, 0, none⟩) 0 0) [] :=
  Kd.R_N ⟨fun k hk => by simp [Value.ownBlock] at hk; subst hk; exact hok, [], by have := World.ownsRow_lit (base := base) (e := e) (size := d.sz) w #[] 0 h (by simp) (by simp); exact this, Reps.none _ _⟩
set_option maxRecDepth 100000 in
set_option maxHeartbeats 2000000 in
theorem refAlive_calls (l : List S44) (A : Option Addr) (c : Nat) (t : Int) (P0 : Nat → Prop) (rows : List (List S70)) (kr : Nat) (J : List S70 → List S118) (V : List S70 → Int) (w : World) (hF : Kd.F k44 w P0 A l.length l) (hc : l.length ≤ c)
    (hrows : rescindref10_Rows.f kr l = some rows) (hlen : rows.length ≤ 4096) (hJ : ∀ r ∈ rows, ∃ k, rescindref10_Jumps.f k l r = some (J r)) (hV : ∀ r ∈ rows, ∃ k, rescindref09_Value.f k (J r) t = some (V r)) :
    Calls Try.prog 33 #[.slice A l.length c, .int .i64 t] w fun e w' => ∃ v, e = .returned v ∧ Kd.N k108 108 w' w.heap.size (fun k => P0 k ∨ w.heap.size ≤ k) v (refAliveL V rows) ∧ Below w.heap.size w w' := by
  have hmx : l.length ≤ 9223372036854775807 := (Kd.F_now hF).2.1
  have HF := Lib.hid (Kd.F_bound hF)
  have HC := Lib.hid (Kd.F_now hF)
  have Hc := Lib.hid hc
  have HRo := Lib.hid hrows
  have HJ := Lib.hid hJ
  have HV := Lib.hid hV
  clear hF hc hrows hJ hV
  go_enter Try.func33, Try.ntmps33
  go_wp2_with fail
  refine (rescindref10_Rows.calls kr (fun k => P0 k ∧ k < w.heap.size) A c l rows _ ⟨A, c, rfl, Hc.out, Kd.F_below HF.out ((Below.refl _ _).alloc (Nat.le_refl _) _)⟩ HRo.out).mono ?_
  rintro e w2 ⟨v6, rfl, hN, hb2⟩
  obtain ⟨A6, c6, rfl⟩ := Kd.N_slice hN
  have HR := Lib.hid (Kd.F_mono (ok' := fun k => ((P0 k ∧ k < w.heap.size) ∨ w.heap.size + 1 ≤ k) ∧ some k ≠ (Value.slice (some ⟨w.heap.size, 0, none⟩) 0 0).ownBlock) (Kd.N_F hN) (fun k hk => ⟨by simpa using hk, fun e => by simp [Value.ownBlock] at e; simp at hk; omega⟩))
  have HO := Lib.hid (Kd.N_below (N_litG (d := k108) (e := 108) (w := w) (base := w.heap.size) (ok := fun k => P0 k ∨ w.heap.size ≤ k) (Nat.le_refl _) (.inr (Nat.le_refl _))) hb2)
  have Hb2 := Lib.hid ((((Below.refl w.heap.size w).alloc (Nat.le_refl _) (.cells #[] 108)).trans (hb2.mono (by simp))))
  clear hN hb2
  go_wp2_with fail
  go_loopw [5, 7] (fun v5 v7 wr => ∃ j : Nat, j ≤ rows.length ∧ v7 = .int .i64 j ∧ Kd.N k108 108 wr w.heap.size (fun k => P0 k ∨ w.heap.size ≤ k) v5 (refAliveL V (rows.take j)) ∧ Kd.F (Kd.slice 70 k70) wr (fun k => ((P0 k ∧ k < w.heap.size) ∨ w.heap.size + 1 ≤ k) ∧ some k ≠ v5.ownBlock) A6 rows.length rows ∧ Below w.heap.size w wr) (fun _ v _ => rows.length - (intOf v).toNat)
  case atStart => exact ⟨0, Nat.zero_le _, rfl, HO.out, HR.out, Hb2.out⟩
  case round =>
    obtain ⟨j, hj, rfl, hO, hR, hbr⟩ := hrel
    have HO1 := Lib.hid hO
    have HR1 := Lib.hid hR
    have Hbr := Lib.hid hbr
    clear HO HR Hb2 hO hR
    obtain ⟨A5, c5, rfl⟩ := Kd.N_slice HO1.out
    by_cases hlt : j < rows.length
    · obtain ⟨r, hx⟩ : ∃ r, rows[j]? = some r := ⟨rows[j], by simp [hlt]⟩
      obtain ⟨ad, cs, hA, hcl, hFK, hcell, _⟩ := Kd.F_get HR1.out ([] : List S70) (j : Int) (by omega) (by omega)
      subst hA
      rw [show rows.getD (j : Int).toNat [] = r from getD_of hx] at hFK
      obtain ⟨Ar, cr, rfl, hcr, hFr⟩ := Kd.FK_slice_open hFK
      have z0 : wr.cell? (ad.add j) = some (.slice Ar r.length cr) := by simpa [show (Kd.slice 70 k70).sz = 1 from rfl] using hcell 0 _ rfl
      have Hx := Lib.hid hx
      have HFr := Lib.hid hFr
      have Hcr := Lib.hid hcr
      have w0' : (0 : Int) ≤ (j : Int) := by omega
      have w1' : (j : Int) < (rows.length : Int) := by omega
      clear hcl hFK hcell hFr hcr hx hbr
      obtain ⟨kj, hkj⟩ := HJ.out r (List.mem_of_getElem? Hx.out)
      obtain ⟨kv, hkv⟩ := HV.out r (List.mem_of_getElem? Hx.out)
      have Hkj := Lib.hid hkj
      have Hkv := Lib.hid hkv
      clear hkj hkv
      go_wp2_with fail
      refine (rescindref10_Jumps.calls kj A c l Ar cr r (J r) _ (Kd.C_below HC.out Hbr.out) Hc.out (Kd.F_now HFr.out) Hcr.out Hkj.out).mono ?_
      rintro e w3 ⟨v3, rfl, hR3, hb3⟩
      obtain ⟨A3, c3, rfl, hc3, hC3⟩ := Kd.R_reads hR3
      have Hc3 := Lib.hid hc3
      have HC3 := Lib.hid hC3
      have Hb3 := Lib.hid hb3
      clear hR3 hc3 hC3 hb3
      go_wp2_with fail
      refine (rescindref09_Value.calls kv A3 c3 (J r) t (V r) _ HC3.out Hc3.out Hkv.out).mono ?_
      rintro e w4 ⟨rfl, nd, rfl⟩
      have hb4 := pw_below_drewN Hb3.out nd
      generalize w3.drewN nd = w4 at hb4 ⊢
      have Hb4 := Lib.hid hb4
      have z4 := (hb4.cell (World.block_lt_of_cell? wr _ z0)).trans z0
      have hone := refAliveL_take (V := V) Hx.out
      have Hone := Lib.hid hone
      clear hb4 hone z0
      generalize hn : V r = n
      have Hn := Lib.hid hn
      clear hn
      by_cases hpos : n > 0
      · have h2 : refAliveL V (rows.take (j + 1)) = refAliveL V (rows.take j) ++ [⟨r, n⟩] := by rw [Hone.out]; simp [refOne, Hn.out, hpos]
        have H2 := Lib.hid h2
        have hln : (refAliveL V (rows.take j)).length ≤ 4096 := by
          have h1 : (refAliveL V (rows.take j)).length ≤ (rows.take j).length := List.length_filterMap_le _ _
          have h3 : (rows.take j).length ≤ rows.length := by simp; omega
          omega
        have Hln := Lib.hid hln
        clear h2 hln
        go_wp2_with (first | (at_builtin; (refine Kd.N_append k108 (w0 := w) (W := w4) w.heap.size rfl (.tmp 28) (.tmp 35) 57 108 _ 32 rfl Try.underlying57 info108 rfl (by decide) (by decide) (.slice A5 (refAliveL V (rows.take j)).length c5) (refAliveL V (rows.take j)) ⟨r, n⟩ [.slice Ar r.length cr, .int .i64 n] (fun k => P0 k ∨ w.heap.size ≤ k) (fun k => ((P0 k ∧ k < w.heap.size) ∨ w.heap.size + 1 ≤ k) ∧ some k ≠ (Value.slice A5 (refAliveL V (rows.take j)).length c5).ownBlock) rfl rfl ?a1 ?a2 ?a3 ?a4 ?a5 ?a6 ?a7 ?_; (case a1 => exact k108_mkF _ _ ⟨r, n⟩ Hcr.out (Kd.F_below HFr.out Hb4.out)); (case a2 => exact fun k hk => ⟨hk.1.elim (fun h => .inl h.1) (fun h => .inr (by omega)), hk.2⟩); (case a3 => exact fun k hk => .inr (by have := Hbr.out.size; have := Hb4.out.size; omega)); (case a4 => exact Kd.N_below HO1.out Hb4.out); (case a5 => exact Hbr.out.trans (Hb4.out.mono Hbr.out.size)); (case a6 => exact Nat.le_trans Hbr.out.size Hb4.out.size); (case a7 => have := Hln.out; omega)); intro v6 w6 hN6 hb6 hg6 hat6; obtain ⟨A6', c6', rfl⟩ := Kd.N_slice hN6; have HN6 := Lib.hid hN6; have Hb6 := Lib.hid hb6; have HF6 := Lib.hid (Kd.F_after (Kd.F_below HR1.out Hb4.out) hg6 hat6); clear hN6 hb6 hg6 hat6; go_frame))
        go_roundw
        case rel => exact ⟨j + 1, by omega, by go_num, by rw [H2.out]; exact HN6.out, HF6.out, Hb6.out⟩
        case measure => simp [intOf]; omega
      · have h2 : refAliveL V (rows.take (j + 1)) = refAliveL V (rows.take j) := by rw [Hone.out]; simp [refOne, Hn.out]; omega
        have H2 := Lib.hid h2
        clear h2
        go_wp2_with fail
        go_roundw
        case rel => exact ⟨j + 1, by omega, by go_num, by rw [H2.out]; exact Kd.N_below HO1.out Hb4.out, Kd.F_below HR1.out Hb4.out, Hbr.out.trans (Hb4.out.mono Hbr.out.size)⟩
        case measure => simp [intOf]; omega
    · obtain rfl : j = rows.length := by omega
      have hO2 := HO1.out
      rw [List.take_length] at hO2
      have HO2 := Lib.hid hO2
      clear hO2
      go_wp2_with fail
      go_ret
      exact ⟨_, rfl, by have := HO2.out; simpa using this, hbr⟩
end Go.Proofs.Ytjkepojmceffkaa
namespace Go.Proofs.Ytjkepojmceffkaa
open Go Go.RowKit Go.Proofs.YtjkepojmceffkaaW.PrintWords Go.Proofs.Ytjkepojmceffkaa.R
def Ev {α : Type} (f : Nat → Option α) (r : α) : Prop := ∃ K, ∀ k, K ≤ k → f k = some r
theorem Ev.step {α : Type} {f g : Nat → Option α} {r : α} (K0 : Nat) (h : ∀ k, K0 ≤ k → f (k + 1) = g k) (hg : Ev g r) : Ev f r := by
  obtain ⟨K, hK⟩ := hg
  refine ⟨max K0 K + 1, fun k hk => ?_⟩
  obtain ⟨k', rfl⟩ : ∃ k', k = k' + 1 := ⟨k - 1, by omega⟩
  rw [h k' (by omega)]
  exact hK k' (by omega)
theorem Ev.now {α : Type} {f : Nat → Option α} {r : α} (K0 : Nat) (h : ∀ k, K0 ≤ k → f (k + 1) = some r) : Ev f r := ⟨K0 + 1, fun k hk => by
  obtain ⟨k', rfl⟩ : ∃ k', k = k' + 1 := ⟨k - 1, by omega⟩
  exact h k' (by omega)⟩
theorem Ev.bind {α β : Type} {f : Nat → Option β} {g : Nat → β → Option α} {b : β} {r : α} (hf : Ev f b) (hg : Ev (fun k => g k b) r) : Ev (fun k => (f k).bind (g k)) r := by
  obtain ⟨K, hK⟩ := hf
  obtain ⟨K', hK'⟩ := hg
  exact ⟨max K K', fun k hk => by simp only [hK k (by omega), Option.bind_some]; exact hK' k (by omega)⟩
theorem Ev.get {α : Type} {f : Nat → Option α} {r : α} (h : Ev f r) : ∃ k, f k = some r := let ⟨K, hK⟩ := h; ⟨K, hK K (Nat.le_refl _)⟩
theorem ref06Same' (a b : List S70) (hb : b.length ≤ 8) : ∀ k, 20 ≤ k → rescindref06_Same.f k a b = some (sameRow a b) := by
  intro k hk
  by_cases h : a.length = b.length
  · exact ref06Same a b (by omega) k (by omega)
  · unfold rescindref06_Same.f
    rw [if_neg (by omega)]
    cases hs : sameRow a b with
    | false => rfl
    | true => exact absurd (sameRow_length hs) h
theorem rd44 {f : List S44} {j : Nat} (h : j < f.length) : rd_T44 f (j : Int) = f[j] := by simp [rd_T44, List.getD, h]
def jumpsL (l : List S44) (r : List S70) : List S118 := (l.filter (ofRow r)).map jumpOf
theorem jumpsL_cons (x : S44) (xs : List S44) (r : List S70) : jumpsL (x :: xs) r = (if sameRow x.f0 r = true then [jumpOf x] else []) ++ jumpsL xs r := by
  unfold jumpsL
  rw [List.filter_cons]
  show (List.map jumpOf (if sameRow x.f0 r = true then _ else _)) = _
  split <;> simp
theorem jumps_l0 (l : List S44) (r : List S70) (hl : l.length ≤ 1000000) (hr : r.length ≤ 8) : ∀ m j (out : List S118), j + m = l.length → out.length ≤ j → rescindref10_Jumps.l0 (m + 21) l r out (j : Int) = some (out ++ jumpsL (l.drop j) r) := by
  intro m
  induction m with
  | zero =>
    intro j out hj ho
    rw [rescindref10_Jumps.l0, if_neg (by omega), List.drop_of_length_le (by omega)]
    simp [jumpsL]
  | succ m ih =>
    intro j out hj ho
    have hlt : j < l.length := by omega
    rw [show m + 1 + 21 = (m + 21) + 1 by omega, rescindref10_Jumps.l0, if_pos (by omega), if_pos (by omega), rd44 hlt, ref06Same' _ _ hr _ (by omega)]
    simp only [Option.bind_some]
    rw [drop_cons hlt, wrap_succ (by omega)]
    cases hs : sameRow l[j].f0 r with
    | true =>
      rw [if_pos rfl, if_pos (by omega), ih (j + 1) _ (by omega) (by simp; omega)]
      rw [jumpsL_cons, if_pos hs]
      simp only [jumpOf, List.append_assoc]
    | false =>
      rw [if_neg (by simp), ih (j + 1) _ (by omega) (by omega)]
      rw [jumpsL_cons, if_neg (by rw [hs]; simp)]
      rfl
theorem jumps_f (l : List S44) (r : List S70) (hl : l.length ≤ 1000000) (hr : r.length ≤ 8) : Ev (fun k => rescindref10_Jumps.f k l r) (jumpsL l r) := by
  refine ⟨l.length + 21, up_mono (rescindref10_Jumps.mono l r) ?_⟩
  have := jumps_l0 l r hl hr l.length 0 [] (by omega) (by simp)
  simpa [rescindref10_Jumps.f] using this
instance rowDec : DecidableEq (List S70) := fun a b => decidable_of_iff (sameRow a b = true) (sameRow_iff a b)
def rowAcc (rows : List (List S70)) (x : S44) : List (List S70) := if rows.getLast? = some x.f0 then rows else rows ++ [x.f0]
def RowsUp (rows : List (List S70)) : Prop := rows.Pairwise (fun a b => rowCmp a b < 0) ∧ ∀ r ∈ rows, rowMay r = true
theorem rdL3 {f : List (List S70)} {j : Nat} (h : j < f.length) : rd_L3 f (j : Int) = f[j] := by simp [rd_L3, List.getD, h]
def Follows (rows : List (List S70)) (x : S44) : Prop := rowMay x.f0 = true ∧ ∀ r, rows.getLast? = some r → rowCmp r x.f0 < 0 ∨ r = x.f0
theorem rowAcc_up {rows : List (List S70)} {x : S44} (h : RowsUp rows) (hf : Follows rows x) : RowsUp (rowAcc rows x) := by
  unfold rowAcc
  split
  · exact h
  · rename_i hne
    refine ⟨List.pairwise_append.2 ⟨h.1, by simp, fun a ha b hb => ?_⟩, fun r hr => ?_⟩
    · obtain rfl : b = x.f0 := by simpa using hb
      -- a is the last one, or ahead of it
      obtain ⟨init, lst, rfl⟩ : ∃ init lst, rows = init ++ [lst] := by
        rcases List.eq_nil_or_concat rows with rfl | ⟨i, l, rfl⟩
        · cases ha
        · exact ⟨i, l, by simp⟩
      have hl := hf.2 lst (by simp)
      have hlx : rowCmp lst x.f0 < 0 := hl.resolve_right (fun e => hne (by simp [e]))
      rcases List.mem_append.1 ha with ha | ha
      · have h1 := (List.pairwise_append.1 h.1).2.2 a ha lst (by simp)
        exact ordr_row.trans a lst x.f0 (h.2 a (by simp [ha])) (h.2 lst (by simp)) hf.1 h1 hlx
      · obtain rfl : a = lst := by simpa using ha
        exact hlx
    · rcases List.mem_append.1 hr with hr | hr
      · exact h.2 r hr
      · obtain rfl : r = x.f0 := by simpa using hr
        exact hf.1
theorem rowCmp_self {a : List S70} (h : rowMay a = true) : rowCmp a a = 0 := (ordr_row.eq a a h h).2 rfl
theorem rows_l1 (l : List S44) (rows : List (List S70)) (i : Nat) (hi : i < l.length) (hl : l.length ≤ 1000000) (hrl : rows.length ≤ 1000000) (h : RowsUp rows) (hf : Follows rows l[i]) (r : List (List S70))
    (hnext : Ev (fun k => rescindref10_Rows.l0 k l (rowAcc rows l[i]) ((i + 1 : Nat) : Int)) r) :
    ∀ m j, j + m = rows.length → (∀ q, q < j → ∀ hq : q < rows.length, rowCmp rows[q] l[i].f0 < 0) → Ev (fun k => rescindref10_Rows.l1 k l rows (i : Int) (j : Int)) r := by
  intro m
  induction m with
  | zero =>
    intro j hj hq
    obtain rfl : j = rows.length := by omega
    have hacc : rowAcc rows l[i] = rows ++ [l[i].f0] := by
      unfold rowAcc
      rw [if_neg]
      intro e
      have hpos : 0 < rows.length := by cases rows <;> simp at e ⊢
      have e2 : rows[rows.length - 1] = l[i].f0 := by
        rw [List.getLast?_eq_getElem?] at e
        exact (List.getElem?_eq_some_iff.1 e).2
      have := hq (rows.length - 1) (by omega) (by omega)
      rw [e2, rowCmp_self hf.1] at this
      omega
    rw [hacc] at hnext
    refine Ev.step 0 (fun k _ => ?_) hnext
    rw [rescindref10_Rows.l1, if_neg (by omega)]
    simp only [Option.bind_some]
    rw [if_pos (by omega), if_pos (by omega)]
    have et : ((rows.length : Int)).toNat = rows.length := by simp
    rw [et, List.take_length, List.drop_length]
    simp only [List.nil_append, List.length_nil, List.append_nil, Nat.zero_add, Nat.add_zero]
    rw [if_pos (by omega), if_pos (by omega), if_pos (by omega), if_pos (by omega), if_pos (by simp; omega), rd44 hi, wrap_succ (by omega)]
  | succ m ih =>
    intro j hj hq
    have hlt : j < rows.length := by omega
    by_cases hc : rowCmp rows[j] l[i].f0 < 0
    · refine Ev.step 300 (fun k hk => ?_) (ih (j + 1) (by omega) (fun q hqj hql => ?_))
      · rw [rescindref10_Rows.l1, if_pos (by omega), if_pos (by omega), if_pos (by omega), if_pos (by omega), rdL3 hlt, rd44 hi, ref06Cmp _ _ _ hk]
        simp only [Option.bind_some]
        rw [if_pos hc, wrap_succ (by omega)]
      · by_cases e : q = j
        · subst e; exact hc
        · exact hq q (by omega) hql
    · -- the last one, and the same
      have hlast : rows.getLast? = some rows[rows.length - 1] := by rw [List.getLast?_eq_getElem?]; simp [show rows.length - 1 < rows.length by omega]
      have hj1 : j = rows.length - 1 := by
        rcases Nat.lt_or_ge j (rows.length - 1) with h1 | h1
        · exfalso
          have hp := List.pairwise_iff_getElem.1 h.1 j (rows.length - 1) hlt (by omega) h1
          rcases hf.2 _ hlast with h2 | h2
          · exact hc (ordr_row.trans _ _ _ (h.2 _ (List.getElem_mem _)) (h.2 _ (List.getElem_mem _)) hf.1 hp h2)
          · rw [← h2] at hc; exact hc hp
        · omega
      have heq : rows[j] = l[i].f0 := by
        rcases hf.2 _ hlast with h2 | h2
        · simp only [hj1] at hc; exact absurd h2 hc
        · simp only [hj1]; exact h2
      have hacc : rowAcc rows l[i] = rows := by
        unfold rowAcc
        rw [if_pos]
        rw [hlast]
        simp only [hj1] at heq
        rw [heq]
      rw [hacc] at hnext
      refine Ev.step 300 (fun k hk => ?_) hnext
      rw [rescindref10_Rows.l1, if_pos (by omega), if_pos (by omega), if_pos (by omega), if_pos (by omega), rdL3 hlt, rd44 hi, ref06Cmp _ _ _ hk]
      simp only [Option.bind_some]
      rw [if_neg hc, ref06Same' _ _ (rowMay_ok hf.1).1 _ (by omega), heq, (sameRow_iff _ _).2 rfl]
      simp only [Option.bind_some, if_true]
      rw [wrap_succ (by omega)]
def FollowsAll : List (List S70) → List S44 → Prop
  | _, [] => True
  | rows, x :: xs => Follows rows x ∧ FollowsAll (rowAcc rows x) xs
theorem rowAcc_length (rows : List (List S70)) (x : S44) : (rowAcc rows x).length ≤ rows.length + 1 := by
  unfold rowAcc
  split <;> simp
theorem rows_l0 (l : List S44) (hl : l.length ≤ 1000000) : ∀ m i (rows : List (List S70)), i + m = l.length → rows.length ≤ i → RowsUp rows → FollowsAll rows (l.drop i) →
    Ev (fun k => rescindref10_Rows.l0 k l rows (i : Int)) ((l.drop i).foldl rowAcc rows) := by
  intro m
  induction m with
  | zero =>
    intro i rows hi hr h hf
    rw [List.drop_of_length_le (by omega)]
    exact Ev.now 0 (fun k _ => by rw [rescindref10_Rows.l0, if_neg (by omega)]; rfl)
  | succ m ih =>
    intro i rows hi hr h hf
    have hlt : i < l.length := by omega
    rw [drop_cons hlt] at hf ⊢
    rw [List.foldl_cons]
    have hn := ih (i + 1) (rowAcc rows l[i]) (by omega) (by have := rowAcc_length rows l[i]; omega) (rowAcc_up h hf.1) hf.2
    refine Ev.step 0 (fun k _ => ?_) (rows_l1 l rows i hlt hl (by omega) h hf.1 _ hn rows.length 0 (by omega) (fun q hq => by omega))
    rw [rescindref10_Rows.l0, if_pos (by omega)]
    rfl
theorem rows_f (l : List S44) (hl : l.length ≤ 1000000) (hf : FollowsAll [] l) : Ev (fun k => rescindref10_Rows.f k l) (l.foldl rowAcc []) :=
  rows_l0 l hl l.length 0 [] (by omega) (by simp) ⟨List.Pairwise.nil, by simp⟩ hf
end Go.Proofs.Ytjkepojmceffkaa
namespace Go.Proofs.Ytjkepojmceffkaa
open Go Go.RowKit Go.Proofs.YtjkepojmceffkaaW.PrintWords Go.Proofs.Ytjkepojmceffkaa.R
def netOk (x : S44) : Bool := decide (-1 ≤ x.f1) && (decide (x.f1 < 1125899906842624) && (decide (x.f2 ≠ 0) && fairP x.f2))
def okE (x : S44) : Bool := rowMay x.f0 && netOk x
def pairOk (p x : S44) : Bool := decide (rowCmp p.f0 x.f0 < 0) || (decide (rowCmp p.f0 x.f0 = 0) && decide (p.f1 < x.f1))
def prevOk : Option S44 → S44 → Bool
  | none, _ => true
  | some p, x => pairOk p x
def scan : Option S44 → List S44 → Bool
  | _, [] => true
  | p, x :: xs => okE x && (prevOk p x && scan (some x) xs)
theorem ref09May1 (x : S44) : ∀ k, 3 ≤ k → rescindref09_May.f k [⟨x.f1, x.f2⟩] = some (netOk x) := by
  refine up_mono (rescindref09_May.mono _) ?_
  unfold rescindref09_May.f netOk fairP
  rw [if_neg (by simp), rescindref09_May.l0, if_pos (by simp), if_pos (by omega)]
  have hrd : rd_T118 [(⟨x.f1, x.f2⟩ : S118)] 0 = ⟨x.f1, x.f2⟩ := rfl
  simp only [hrd]
  by_cases h1 : x.f1 < -1
  · rw [if_pos h1, rescindref09_May.j1, if_pos rfl, decide_eq_false (by omega)]; rfl
  rw [if_neg h1, decide_eq_true (show -1 ≤ x.f1 by omega)]
  by_cases h2 : x.f1 ≥ 1125899906842624
  · rw [if_pos h2, rescindref09_May.j1, if_pos rfl, decide_eq_false (by omega)]; rfl
  rw [if_neg h2, decide_eq_true (show x.f1 < 1125899906842624 by omega)]
  by_cases h3 : x.f2 = 0
  · rw [if_pos h3, rescindref09_May.j1, if_pos rfl]; simp [h3]
  rw [if_neg h3, decide_eq_true h3]
  by_cases h4 : x.f2 > 1048576
  · rw [if_pos h4, rescindref09_May.j1, if_pos rfl, decide_eq_false (show ¬ x.f2 ≤ 1048576 by omega)]; rfl
  rw [if_neg h4, rescindref09_May.j1, decide_eq_true (show x.f2 ≤ 1048576 by omega)]
  by_cases h5 : x.f2 < -1048576
  · rw [decide_eq_true h5, if_pos rfl, decide_eq_false (show ¬ -1048576 ≤ x.f2 by omega)]; rfl
  · rw [decide_eq_false h5, if_neg (by simp), if_neg (by omega), decide_eq_true (show -1048576 ≤ x.f2 by omega)]
    rw [show wrap64 (0 + 1) = 1 by unfold wrap64; omega, rescindref09_May.l0, if_neg (by simp)]
    rfl
theorem wrap_pred {i : Nat} (h : 0 < i) (h2 : i < 9223372036854775807) : wrap64 ((i : Int) - 1) = ((i - 1 : Nat) : Int) := by unfold wrap64; omega
theorem may_l0 (l : List S44) (hl : l.length ≤ 1000000) (T : Bool) : ∀ m i, i + m = l.length → ∀ prev : Option S44, prev = (if i = 0 then none else l[i - 1]?) →
    (scan prev (l.drop i) = true → Ev (fun k => (rescindref10_Rows.f k l).bind fun rows => rescindref10_May.l1 k l rows 0) T) →
    Ev (fun k => rescindref10_May.l0 k l (i : Int)) (if scan prev (l.drop i) = true then T else false) := by
  intro m
  induction m with
  | zero =>
    intro i hi prev hp ht
    rw [List.drop_of_length_le (by omega)] at ht ⊢
    have hn : scan prev [] = true := by cases prev <;> rfl
    rw [if_pos hn]
    exact Ev.step 0 (fun k _ => by rw [rescindref10_May.l0, if_neg (by omega)]) (ht hn)
  | succ m ih =>
    intro i hi prev hp ht
    have hlt : i < l.length := by omega
    have ih' := ih (i + 1) (by omega) (some l[i]) (by simp)
    rw [drop_cons hlt] at ht ⊢
    have hstep : ∀ k, 300 ≤ k → rescindref10_May.l0 (k + 1) l (i : Int) = rescindref10_May.j1 k l (i : Int) (!okE l[i]) := fun k hk => by
      rw [rescindref10_May.l0, if_pos (by omega), if_pos (by omega), rd44 hlt, ref06May _ _ (by omega)]
      simp only [Option.bind_some]
      unfold okE
      cases rowMay l[i].f0 with
      | false => rw [if_neg (by simp)]; rfl
      | true => rw [if_pos rfl, ref09May1 _ _ (by omega)]; rfl
    refine Ev.step 300 hstep ?_
    rw [scan] at ht ⊢
    cases hok : okE l[i] with
    | false =>
      simp only [Bool.false_and, Bool.false_eq_true, if_false]
      exact Ev.now 0 (fun k _ => by rw [rescindref10_May.j1, if_pos (by simp)])
    | true =>
      rw [hok] at ht
      simp only [Bool.true_and] at ht ⊢
      by_cases hi0 : i = 0
      · subst hi0
        simp only [if_true] at hp
        subst hp
        simp only [prevOk, Bool.true_and] at ht ⊢
        refine Ev.step 0 (fun k _ => ?_) (ih' ht)
        rw [rescindref10_May.j1, if_neg (by simp), if_pos (by simp), wrap_succ (by omega)]
      · have hpl : i - 1 < l.length := by omega
        rw [if_neg hi0, List.getElem?_eq_getElem hpl] at hp
        subst hp
        have hst : ∀ k, 300 ≤ k → rescindref10_May.j1 (k + 1) l (i : Int) (!true) = (if rowCmp l[i - 1].f0 l[i].f0 > 0 then some false else if rowCmp l[i - 1].f0 l[i].f0 = 0 then (if l[i - 1].f1 ≥ l[i].f1 then some false else rescindref10_May.l0 k l ((i + 1 : Nat) : Int)) else rescindref10_May.l0 k l ((i + 1 : Nat) : Int)) := fun k hk => by
          rw [rescindref10_May.j1, if_neg (by simp), if_neg (by omega), wrap_pred (by omega) (by omega), if_pos (by omega), if_pos (by omega), if_pos (by omega), if_pos (by omega), rd44 hlt, rd44 hpl, ref06Cmp _ _ _ hk, wrap_succ (by omega)]
          rfl
        by_cases h1 : rowCmp l[i - 1].f0 l[i].f0 > 0
        · have hpo : prevOk (some l[i - 1]) l[i] = false := by simp [prevOk, pairOk]; omega
          rw [hpo] at ht ⊢
          simp only [Bool.false_and, Bool.false_eq_true, if_false]
          exact Ev.now 300 (fun k hk => by rw [hst k hk, if_pos h1])
        · by_cases h2 : rowCmp l[i - 1].f0 l[i].f0 = 0
          · by_cases h3 : l[i - 1].f1 ≥ l[i].f1
            · have hpo : prevOk (some l[i - 1]) l[i] = false := by simp [prevOk, pairOk]; omega
              rw [hpo] at ht ⊢
              simp only [Bool.false_and, Bool.false_eq_true, if_false]
              exact Ev.now 300 (fun k hk => by rw [hst k hk, if_neg h1, if_pos h2, if_pos h3])
            · have hpo : prevOk (some l[i - 1]) l[i] = true := by simp [prevOk, pairOk]; omega
              rw [hpo] at ht ⊢
              simp only [Bool.true_and] at ht ⊢
              exact Ev.step 300 (fun k hk => by rw [hst k hk, if_neg h1, if_pos h2, if_neg h3]) (ih' ht)
          · have hpo : prevOk (some l[i - 1]) l[i] = true := by simp [prevOk, pairOk]; omega
            rw [hpo] at ht ⊢
            simp only [Bool.true_and] at ht ⊢
            exact Ev.step 300 (fun k hk => by rw [hst k hk, if_neg h1, if_neg h2]) (ih' ht)
theorem rowAcc_last (rows : List (List S70)) (x : S44) : (rowAcc rows x).getLast? = some x.f0 := by
  unfold rowAcc
  split
  · assumption
  · simp
theorem follows_scan : ∀ (l : List S44) (prev : Option S44) (rows : List (List S70)), scan prev l = true → rows.getLast? = prev.map (·.f0) → (∀ p, prev = some p → rowMay p.f0 = true) → FollowsAll rows l
  | [], _, _, _, _, _ => trivial
  | x :: xs, prev, rows, h, hl, hp => by
    simp only [scan, Bool.and_eq_true] at h
    obtain ⟨h1, h2, h3⟩ := h
    have hx : rowMay x.f0 = true := by simp only [okE, Bool.and_eq_true] at h1; exact h1.1
    refine ⟨⟨hx, fun r hr => ?_⟩, follows_scan xs (some x) _ h3 (rowAcc_last rows x) (fun p e => by cases e; exact hx)⟩
    rw [hl] at hr
    cases prev with
    | none => cases hr
    | some p =>
      obtain rfl : p.f0 = r := by simpa using hr
      simp only [prevOk, pairOk, Bool.or_eq_true, decide_eq_true_eq, Bool.and_eq_true] at h2
      rcases h2 with h2 | ⟨h2, _⟩
      · exact .inl h2
      · exact .inr ((ordr_row.eq _ _ (hp p rfl) hx).1 h2)
theorem scan_rows : ∀ (l : List S44) (prev : Option S44), scan prev l = true → ∀ x ∈ l, rowMay x.f0 = true
  | [], _, _, x, hx => by cases hx
  | y :: ys, prev, h, x, hx => by
    simp only [scan, Bool.and_eq_true] at h
    rcases List.mem_cons.1 hx with rfl | hx
    · have := h.1; simp only [okE, Bool.and_eq_true] at this; exact this.1
    · exact scan_rows ys _ h.2.2 x hx
def rowsR (l : List S44) : List (List S70) := (runsL l).map (·.1)
theorem foldl_run : ∀ (l : List S44) (acc : List (List S70)) (r : List S70), acc.getLast? = some r → (∀ x ∈ l, x.f0 = r) → l.foldl rowAcc acc = acc
  | [], _, _, _, _ => rfl
  | x :: xs, acc, r, h, hx => by
    rw [List.foldl_cons]
    have : rowAcc acc x = acc := by unfold rowAcc; rw [if_pos (by rw [h, hx x (by simp)])]
    rw [this]
    exact foldl_run xs acc r h (fun y hy => hx y (by simp [hy]))
theorem takeWhile_row (r : List S70) : ∀ (l : List S44), ∀ x ∈ l.takeWhile (ofRow r), x.f0 = r
  | [], x, hx => by simp at hx
  | y :: ys, x, hx => by
    rw [List.takeWhile_cons] at hx
    split at hx
    · rename_i h
      rcases List.mem_cons.1 hx with rfl | hx
      · exact (sameRow_iff _ _).1 h
      · exact takeWhile_row r ys x hx
    · simp at hx
theorem rowsR_foldl : ∀ (n : Nat) (l : List S44), l.length ≤ n → ∀ acc, (∀ x, l.head? = some x → acc.getLast? ≠ some x.f0) → l.foldl rowAcc acc = acc ++ rowsR l := by
  intro n
  induction n with
  | zero => intro l hl acc _; obtain rfl := List.eq_nil_of_length_eq_zero (Nat.le_zero.1 hl); simp [rowsR, runsL_nil]
  | succ n ih =>
    intro l hl acc hne
    cases l with
    | nil => simp [rowsR, runsL_nil]
    | cons x xs =>
      have h0 : rowAcc acc x = acc ++ [x.f0] := by unfold rowAcc; rw [if_neg (hne x rfl)]
      have hd : (x :: xs).dropWhile (ofRow x.f0) = xs.dropWhile (ofRow x.f0) := List.dropWhile_cons_of_pos (show ofRow _ _ = true from sameRow_refl _)
      rw [List.foldl_cons, h0]
      have hsplit : xs = xs.takeWhile (ofRow x.f0) ++ xs.dropWhile (ofRow x.f0) := (List.takeWhile_append_dropWhile).symm
      have e1 : xs.foldl rowAcc (acc ++ [x.f0]) = (xs.dropWhile (ofRow x.f0)).foldl rowAcc (acc ++ [x.f0]) := by
        conv => lhs; rw [hsplit]
        rw [List.foldl_append, foldl_run _ _ x.f0 (by simp) (takeWhile_row x.f0 xs)]
      rw [e1, ih (xs.dropWhile (ofRow x.f0)) (by have := (List.dropWhile_sublist (p := ofRow x.f0) (l := xs)).length_le; simp at hl; omega) (acc ++ [x.f0]) (fun y hy e => ?_)]
      · simp [rowsR, runsL_cons, hd]
      · have e2 : y.f0 = x.f0 := by simpa using e.symm
        have h3 := List.head?_dropWhile_not (ofRow x.f0) xs
        rw [hy] at h3
        simp [ofRow, e2, sameRow_refl] at h3
theorem may_l1 (l : List S44) (hl : l.length ≤ 1000000) (rows : List (List S70)) (hr : ∀ r ∈ rows, r.length ≤ 8) (hrl : rows.length ≤ 1000000) : ∀ m j, j + m = rows.length → Ev (fun k => rescindref10_May.l1 k l rows (j : Int)) ((rows.drop j).all fun r => decide ((jumpsL l r).length ≤ 1024)) := by
  intro m
  induction m with
  | zero =>
    intro j hj
    rw [List.drop_of_length_le (by omega)]
    exact Ev.now 0 (fun k _ => by rw [rescindref10_May.l1, if_neg (by omega)]; rfl)
  | succ m ih =>
    intro j hj
    have hlt : j < rows.length := by omega
    obtain ⟨K, hK0⟩ := jumps_f l rows[j] hl (hr _ (List.getElem_mem hlt))
    have hK : ∀ k, K ≤ k → rescindref10_Jumps.f k l rows[j] = some (jumpsL l rows[j]) := hK0
    have hst : ∀ k, K ≤ k → rescindref10_May.l1 (k + 1) l rows (j : Int) = (if ((jumpsL l rows[j]).length : Int) > 1024 then some false else rescindref10_May.l1 k l rows ((j + 1 : Nat) : Int)) := fun k hk => by
      rw [rescindref10_May.l1, if_pos (by omega), if_pos (by omega), rdL3 hlt, hK k hk, wrap_succ (by omega)]
      rfl
    rw [drop_cons hlt, List.all_cons]
    by_cases h : (jumpsL l rows[j]).length ≤ 1024
    · rw [decide_eq_true h, Bool.true_and]
      exact Ev.step K (fun k hk => by rw [hst k hk, if_neg (by omega)]) (ih (j + 1) (by omega))
    · rw [decide_eq_false h, Bool.false_and]
      exact Ev.now K (fun k hk => by rw [hst k hk, if_pos (by omega)])
theorem rowsR_row {l : List S44} : ∀ r ∈ rowsR l, ∃ x ∈ l, r = x.f0 := by
  intro r hr
  obtain ⟨y, hy, rfl⟩ := List.mem_map.1 hr
  exact runsL_row _ l (Nat.le_refl _) y hy
def mayAll (l : List S44) : Bool := (rowsR l).all fun r => decide ((jumpsL l r).length ≤ 1024)
theorem ref10_rows (l : List S44) (hl : l.length ≤ 1000000) (hs : scan none l = true) : Ev (fun k => rescindref10_Rows.f k l) (rowsR l) := by
  have := rows_f l hl (follows_scan l none [] hs rfl (fun p e => by cases e))
  rw [rowsR_foldl _ l (Nat.le_refl _) [] (fun x _ e => by simp at e)] at this
  exact this
theorem rowsR_length (l : List S44) : (rowsR l).length ≤ l.length := by
  unfold rowsR
  rw [List.length_map]
  exact runsL_length l
theorem ref10_may (l : List S44) : Ev (fun k => rescindref10_May.f k l) (decide (l.length ≤ 4096) && (scan none l && mayAll l)) := by
  by_cases h : l.length ≤ 4096
  · rw [decide_eq_true h, Bool.true_and]
    have h0 := may_l0 l (by omega) (mayAll l) l.length 0 (by omega) none (by simp) (fun hs => by
      rw [List.drop_zero] at hs
      refine Ev.bind (ref10_rows l (by omega) hs) ?_
      have := may_l1 l (by omega) (rowsR l) (fun r hr => by obtain ⟨x, hx, rfl⟩ := rowsR_row r hr; exact (rowMay_ok (scan_rows l none hs x hx)).1) (by have := rowsR_length l; omega) (rowsR l).length 0 (by omega)
      exact this)
    rw [List.drop_zero] at h0
    have e : (if scan none l = true then mayAll l else false) = (scan none l && mayAll l) := by cases scan none l <;> simp
    rw [← e]
    obtain ⟨K, hK⟩ := h0
    exact ⟨K, fun k hk => by simp only [rescindref10_May.f]; rw [if_neg (by omega)]; exact hK k hk⟩
  · rw [decide_eq_false h]
    exact ⟨0, fun k _ => by simp only [rescindref10_May.f]; rw [if_pos (by omega)]; rfl⟩
end Go.Proofs.Ytjkepojmceffkaa
namespace Go.Proofs.Ytjkepojmceffkaa
open Go Go.RowKit Go.Proofs.YtjkepojmceffkaaW.PrintWords Go.Proofs.Ytjkepojmceffkaa.R
def lastE (p : S44) : List S44 → S44
  | [] => p
  | x :: xs => lastE x xs
theorem lastE_row {r : List S70} : ∀ (a : List S44) (p : S44), p.f0 = r → (∀ x ∈ a, x.f0 = r) → (lastE p a).f0 = r
  | [], p, h, _ => h
  | x :: xs, p, _, h => lastE_row xs x (h x (by simp)) (fun y hy => h y (by simp [hy]))
theorem scan_run {r : List S70} (hr : rowMay r = true) (rest : List S44) : ∀ (a : List S44) (p : S44), p.f0 = r → -2 ≤ p.f1 → (∀ x ∈ a, x.f0 = r) →
    scan (some p) (a ++ rest) = (stepMayL p.f1 (a.map jumpOf) && scan (some (lastE p a)) rest)
  | [], p, _, _, _ => by simp [stepMayL, lastE]
  | x :: xs, p, hp, hp2, h => by
    have hx := h x (by simp)
    rw [List.cons_append, scan]
    by_cases hlt : p.f1 < x.f1
    · rw [scan_run hr rest xs x hx (by omega) (fun y hy => h y (by simp [hy]))]
      simp only [List.map_cons, stepMayL, jumpOf, lastE]
      have e1 : prevOk (some p) x = true := by
        simp only [prevOk, pairOk, hp, hx, rowCmp_self hr]
        simp [hlt]
      have e2 : okE x = (decide (x.f1 < 1125899906842624) && (decide (x.f2 ≠ 0) && fairP x.f2)) := by
        simp only [okE, netOk, hx, hr, Bool.true_and]
        rw [decide_eq_true (show -1 ≤ x.f1 by omega), Bool.true_and]
      rw [e1, e2, decide_eq_true hlt]
      simp only [Bool.true_and, Bool.and_assoc]
    · have e1 : prevOk (some p) x = false := by
        simp only [prevOk, pairOk, hp, hx, rowCmp_self hr]
        simp; omega
      rw [e1]
      simp only [List.map_cons, stepMayL, jumpOf]
      rw [decide_eq_false hlt]
      simp
theorem dropW_head (r : List S70) : ∀ (l : List S44) (y : S44), (l.dropWhile (ofRow r)).head? = some y → y.f0 ≠ r := by
  intro l y hy e
  have h3 := List.head?_dropWhile_not (ofRow r) l
  rw [hy] at h3
  simp [ofRow, e, sameRow_refl] at h3
theorem runsL_cons' (x : S44) (xs : List S44) : runsL (x :: xs) = (x.f0, jumpOf x :: (xs.takeWhile (ofRow x.f0)).map jumpOf) :: runsL (xs.dropWhile (ofRow x.f0)) := by
  rw [runsL_cons, List.takeWhile_cons_of_pos (show ofRow _ _ = true from sameRow_refl _), List.dropWhile_cons_of_pos (show ofRow _ _ = true from sameRow_refl _)]
  rfl
theorem stepMay_cons (x : S44) (F : List S118) : stepMay (jumpOf x :: F) = (decide (F.length + 1 ≤ 1024) && (decide (-2 < x.f1) && (decide (x.f1 < 1125899906842624) && (decide (x.f2 ≠ 0) && (fairP x.f2 && stepMayL x.f1 F))))) := rfl
theorem each_scan : ∀ (n : Nat) (l : List S44), l.length ≤ n → ∀ prev : Option S44, (∀ p, prev = some p → rowMay p.f0 = true ∧ ∀ x, l.head? = some x → x.f0 ≠ p.f0) →
    eachL stepMay (prev.map (·.f0)) (runsL l) = (scan prev l && (runsL l).all fun x => decide (x.2.length ≤ 1024)) := by
  intro n
  induction n with
  | zero => intro l hl prev _; obtain rfl := List.eq_nil_of_length_eq_zero (Nat.le_zero.1 hl); cases prev <;> simp [runsL_nil, eachL, scan]
  | succ n ih =>
    intro l hl prev hp
    cases l with
    | nil => cases prev <;> simp [runsL_nil, eachL, scan]
    | cons x xs =>
      rw [runsL_cons', eachL, scan, List.all_cons]
      cases hr : rowMay x.f0 with
      | false => simp [okE, hr]
      | true =>
        have hlen : (xs.dropWhile (ofRow x.f0)).length ≤ n := by have := (List.dropWhile_sublist (p := ofRow x.f0) (l := xs)).length_le; simp at hl; omega
        have hrow := takeWhile_row x.f0 xs
        have hlast := lastE_row (xs.takeWhile (ofRow x.f0)) x rfl hrow
        have hih := ih _ hlen (some (lastE x (xs.takeWhile (ofRow x.f0)))) (fun p e => by
          cases e
          rw [hlast]
          exact ⟨hr, fun y hy => dropW_head x.f0 xs y hy⟩)
        have hmap : ((some (lastE x (xs.takeWhile (ofRow x.f0)))).map (·.f0) : Option (List S70)) = some x.f0 := by simp [hlast]
        rw [hmap] at hih
        have hpv : prevOk prev x = risesRow (prev.map (·.f0)) x.f0 := by
          cases prev with
          | none => rfl
          | some p =>
            obtain ⟨h1, h2⟩ := hp p rfl
            have hne : ¬ rowCmp p.f0 x.f0 = 0 := fun e => h2 x rfl ((ordr_row.eq _ _ h1 hr).1 e).symm
            simp [prevOk, pairOk, risesRow, hne]
        by_cases hx1 : -1 ≤ x.f1
        · have hs := scan_run hr (xs.dropWhile (ofRow x.f0)) (xs.takeWhile (ofRow x.f0)) x rfl (by omega) hrow
          rw [List.takeWhile_append_dropWhile] at hs
          rw [hs, hih, hpv]
          rw [stepMay_cons]
          simp only [okE, netOk, hr, Bool.true_and, List.length_cons]
          rw [decide_eq_true hx1, decide_eq_true (show (-2 : Int) < x.f1 by omega)]
          generalize risesRow (prev.map (·.f0)) x.f0 = b1
          generalize decide (((xs.takeWhile (ofRow x.f0)).map jumpOf).length + 1 ≤ 1024) = b2
          generalize decide (x.f1 < 1125899906842624) = b3
          generalize decide (x.f2 ≠ 0) = b4
          generalize fairP x.f2 = b5
          generalize stepMayL x.f1 ((xs.takeWhile (ofRow x.f0)).map jumpOf) = b6
          generalize scan (some (lastE x (xs.takeWhile (ofRow x.f0)))) (xs.dropWhile (ofRow x.f0)) = b7
          generalize ((runsL (xs.dropWhile (ofRow x.f0))).all fun x => decide (x.2.length ≤ 1024)) = b8
          revert b1 b2 b3 b4 b5 b6 b7 b8
          decide
        · have e1 : okE x = false := by simp [okE, netOk, hx1]
          have e2 : stepMay (jumpOf x :: (xs.takeWhile (ofRow x.f0)).map jumpOf) = false := by
            rw [stepMay_cons, decide_eq_false (show ¬ (-2 : Int) < x.f1 by omega)]
            simp
          rw [e1, e2]
          simp
theorem mem_rowsR : ∀ (n : Nat) (l : List S44), l.length ≤ n → ∀ z ∈ l, z.f0 ∈ rowsR l := by
  intro n
  induction n with
  | zero => intro l hl z hz; obtain rfl := List.eq_nil_of_length_eq_zero (Nat.le_zero.1 hl); cases hz
  | succ n ih =>
    intro l hl z hz
    cases l with
    | nil => cases hz
    | cons x xs =>
      rw [rowsR, runsL_cons', List.map_cons]
      rcases List.mem_cons.1 hz with rfl | hz
      · exact List.mem_cons_self
      · rw [← List.takeWhile_append_dropWhile (p := ofRow x.f0) (l := xs)] at hz
        rcases List.mem_append.1 hz with hz | hz
        · rw [takeWhile_row x.f0 xs z hz]; exact List.mem_cons_self
        · exact List.mem_cons_of_mem _ (ih _ (by have := (List.dropWhile_sublist (p := ofRow x.f0) (l := xs)).length_le; simp at hl; omega) z hz)
theorem jumpsL_append (a b : List S44) (r : List S70) : jumpsL (a ++ b) r = jumpsL a r ++ jumpsL b r := by simp [jumpsL]
theorem jumpsL_none {l : List S44} {r : List S70} (h : ∀ x ∈ l, x.f0 ≠ r) : jumpsL l r = [] := by
  unfold jumpsL
  rw [List.filter_eq_nil_iff.2 (fun x hx (hs : ofRow r x = true) => h x hx ((sameRow_iff _ _).1 hs))]
  rfl
theorem jumpsL_all {l : List S44} {r : List S70} (h : ∀ x ∈ l, x.f0 = r) : jumpsL l r = l.map jumpOf := by
  unfold jumpsL
  rw [List.filter_eq_self.2 (fun x hx => (show ofRow r x = true from (sameRow_iff _ _).2 (h x hx)))]
theorem jumps_runs : ∀ (n : Nat) (l : List S44), l.length ≤ n → (rowsR l).Pairwise (· ≠ ·) → ∀ y ∈ runsL l, jumpsL l y.1 = y.2 := by
  intro n
  induction n with
  | zero => intro l hl _ y hy; obtain rfl := List.eq_nil_of_length_eq_zero (Nat.le_zero.1 hl); simp [runsL_nil] at hy
  | succ n ih =>
    intro l hl hp y hy
    cases l with
    | nil => simp [runsL_nil] at hy
    | cons x xs =>
      have hlen : (xs.dropWhile (ofRow x.f0)).length ≤ n := by have := (List.dropWhile_sublist (p := ofRow x.f0) (l := xs)).length_le; simp at hl; omega
      rw [rowsR, runsL_cons', List.map_cons] at hp
      obtain ⟨hp1, hp2⟩ := List.pairwise_cons.1 hp
      rw [runsL_cons'] at hy
      have hsplit : x :: xs = (x :: xs.takeWhile (ofRow x.f0)) ++ xs.dropWhile (ofRow x.f0) := by rw [List.cons_append, List.takeWhile_append_dropWhile]
      have hall : ∀ z ∈ x :: xs.takeWhile (ofRow x.f0), z.f0 = x.f0 := fun z hz => by
        rcases List.mem_cons.1 hz with rfl | hz
        · rfl
        · exact takeWhile_row x.f0 xs z hz
      rw [hsplit, jumpsL_append]
      rcases List.mem_cons.1 hy with rfl | hy
      · show jumpsL _ x.f0 ++ jumpsL _ x.f0 = _
        rw [jumpsL_all hall, jumpsL_none (fun z hz e => hp1 z.f0 (mem_rowsR _ _ (Nat.le_refl _) z hz) e.symm)]
        simp
      · have hne : x.f0 ≠ y.1 := hp1 y.1 (List.mem_map.2 ⟨y, hy, rfl⟩)
        rw [jumpsL_none (fun z hz e => hne ((hall z hz).symm.trans e)), ih _ hlen hp2 y hy]
        rfl
theorem rowsUp_foldl : ∀ (l : List S44) (rows : List (List S70)), RowsUp rows → FollowsAll rows l → RowsUp (l.foldl rowAcc rows)
  | [], _, h, _ => h
  | x :: xs, rows, h, hf => rowsUp_foldl xs _ (rowAcc_up h hf.1) hf.2
theorem scan_rowsUp {l : List S44} (hs : scan none l = true) : RowsUp (rowsR l) := by
  have := rowsUp_foldl l [] ⟨List.Pairwise.nil, by simp⟩ (follows_scan l none [] hs rfl (fun p e => by cases e))
  rwa [rowsR_foldl _ l (Nat.le_refl _) [] (fun x _ e => by simp at e)] at this
theorem scan_distinct {l : List S44} (hs : scan none l = true) : (rowsR l).Pairwise (· ≠ ·) := by
  obtain ⟨h1, h2⟩ := scan_rowsUp hs
  exact h1.imp_of_mem (fun {a b} ha hb h e => by subst e; rw [rowCmp_self (h2 a ha)] at h; omega)
theorem scan_jumps {l : List S44} (hs : scan none l = true) : ∀ y ∈ runsL l, jumpsL l y.1 = y.2 := jumps_runs _ l (Nat.le_refl _) (scan_distinct hs)
theorem mayAll_runs {l : List S44} (hs : scan none l = true) : mayAll l = (runsL l).all fun x => decide (x.2.length ≤ 1024) := by
  unfold mayAll rowsR
  rw [List.all_map]
  have : ∀ (L : List (List S70 × List S118)), (∀ y ∈ L, jumpsL l y.1 = y.2) → L.all ((fun r => decide ((jumpsL l r).length ≤ 1024)) ∘ fun x => x.1) = L.all fun x => decide (x.2.length ≤ 1024) := fun L => by
    induction L with
    | nil => intro _; rfl
    | cons y L ih =>
      intro h
      rw [List.all_cons, List.all_cons, ih (fun z hz => h z (by simp [hz]))]
      simp only [Function.comp]
      rw [h y (by simp)]
  exact this _ (scan_jumps hs)
theorem edgeMay_eq (l : List S44) : edgeMay l = (decide (l.length ≤ 4096) && (scan none l && mayAll l)) := by
  unfold edgeMay edgeEach
  have h := each_scan l.length l (Nat.le_refl _) none (fun p e => by cases e)
  rw [show (none : Option (List S70)) = (none : Option S44).map (·.f0) from rfl, h]
  cases hs : scan none l with
  | false => rfl
  | true => rw [mayAll_runs hs]
theorem ref10May (l : List S44) : Ev (fun k => rescindref10_May.f k l) (edgeMay l) := by rw [edgeMay_eq]; exact ref10_may l
end Go.Proofs.Ytjkepojmceffkaa
namespace Go.Proofs.Ytjkepojmceffkaa
open Go Go.RowKit Go.Maps Go.Proofs.YtjkepojmceffkaaW.PrintWords Go.Proofs.Ytjkepojmceffkaa.R
theorem insert_perm' {H : Type} (x : Lit × DataW H) : ∀ l : List (Lit × DataW H), (DataW.insert x l).Perm (x :: l)
  | [] => List.Perm.refl _
  | y :: r => by
    rw [DataW.insert]
    split
    · exact List.Perm.refl _
    · exact ((insert_perm' x r).cons y).trans (List.Perm.swap x y r)
def IntMap (D : DataW Unit) : Prop := ∃ es, D = .map es ∧ es.Pairwise (fun p q => p.1 ≠ q.1) ∧ ∀ p ∈ es, ∃ x, p.1 = .int .i64 x
theorem intMap_put {D : DataW Unit} (h : IntMap D) (x : Int) (d : DataW Unit) : IntMap (D.put (.int .i64 x) d) := by
  obtain ⟨es, rfl, hp, hk⟩ := h
  refine ⟨_, rfl, ?_, ?_⟩
  · refine ((insert_perm' _ _).pairwise_iff (fun {_ _} h => Ne.symm h)).2 ?_
    refine List.pairwise_cons.2 ⟨fun p hp' e => ?_, hp.filter _⟩
    have h2 := (List.mem_filter.1 hp').2
    rw [← show Lit.int .i64 x = p.1 from e] at h2
    simp [Lit.sameKey] at h2
  · intro p hp'
    rcases List.mem_cons.1 ((insert_perm' _ _).mem_iff.1 hp') with rfl | h2
    · exact ⟨x, rfl⟩
    · exact hk p (List.mem_filter.1 h2).1
theorem intMap_has {D : DataW Unit} (h : IntMap D) (x y : Int) (d : DataW Unit) : has (D.put (.int .i64 x) d) (.int .i64 y) = (decide (y = x) || has D (.int .i64 y)) := by
  by_cases e : y = x
  · subst e
    rw [has_put_same (by obtain ⟨es, rfl, _⟩ := h; exact ⟨es, rfl⟩) (by first | trivial | exact ⟨⟩ | simp [WideAt.IsKeyLit])]
    simp
  · rw [has_put_other (by simpa using e)]
    simp [e]
theorem withIns_true (t : Int) : ∀ l : List Int, withIns t true l = l
  | [] => rfl
  | x :: l => by rw [withIns, if_neg (by simp), withIns_true t l]
theorem withIns_mem (t y : Int) : ∀ l : List Int, y ∈ withIns t false l ↔ y = t ∨ y ∈ l
  | [] => by simp [withIns]
  | x :: l => by
    rw [withIns]
    split
    · rw [withIns_true]; simp
    · rw [List.mem_cons, withIns_mem t y l, List.mem_cons]
      constructor <;> (rintro (h | h | h) <;> simp [h])
theorem withIns_sorted (t : Int) : ∀ l : List Int, l.Pairwise (· < ·) → t ∉ l → (withIns t false l).Pairwise (· < ·)
  | [], _, _ => by simp [withIns]
  | x :: l, h, ht => by
    obtain ⟨h1, h2⟩ := List.pairwise_cons.1 h
    simp only [List.mem_cons, not_or] at ht
    rw [withIns]
    split
    · rename_i hx
      rw [withIns_true]
      refine List.pairwise_cons.2 ⟨fun y hy => ?_, h⟩
      rcases List.mem_cons.1 hy with rfl | hy
      · exact hx.1
      · have := h1 y hy; omega
    · rename_i hx
      refine List.pairwise_cons.2 ⟨fun y hy => ?_, withIns_sorted t l h2 ht.2⟩
      rcases (withIns_mem t y l).1 hy with rfl | hy
      · simp at hx; omega
      · exact h1 y hy
theorem withL_sorted {t : Int} {l : List Int} (h : l.Pairwise (· < ·)) : (withL l t).Pairwise (· < ·) := by
  unfold withL
  split
  · exact h
  · rename_i ht; exact withIns_sorted t l h ht
theorem withL_mem {t y : Int} {l : List Int} : y ∈ withL l t ↔ y = t ∨ y ∈ l := by
  unfold withL
  split
  · rename_i ht
    constructor
    · exact .inr
    · rintro (rfl | h)
      · exact ht
      · exact h
  · exact withIns_mem t y l
theorem cuts_both (t : Int) : ∀ (l : List S44) (D : DataW Unit) (out : List Int), IntMap D → out.Pairwise (· < ·) → (∀ x, x ∈ out ↔ has D (.int .i64 x) = true) →
    IntMap (l.foldl (cutStep t) D) ∧ (l.foldl (refStep t) out).Pairwise (· < ·) ∧ ∀ x, x ∈ l.foldl (refStep t) out ↔ has (l.foldl (cutStep t) D) (.int .i64 x) = true
  | [], D, out, h1, h2, h3 => ⟨h1, h2, h3⟩
  | e :: l, D, out, h1, h2, h3 => by
    simp only [List.foldl_cons]
    unfold cutStep refStep
    by_cases he : e.f1 > t
    · rw [if_pos he, if_pos he]
      refine cuts_both t l _ _ (intMap_put h1 _ _) (withL_sorted h2) (fun x => ?_)
      rw [withL_mem, intMap_has h1]
      simp [h3]
    · rw [if_neg he, if_neg he]
      exact cuts_both t l _ _ h1 h2 h3
theorem cutsL_eq (t : Int) (l : List S44) : cutsL t l = refCutsL t l := by
  have h0 : IntMap ((DataW.map []).put (.int .i64 t) (.lit (.int .i64 1))) := intMap_put ⟨[], rfl, List.Pairwise.nil, by simp⟩ _ _
  obtain ⟨h1, h2, h3⟩ := cuts_both t l ((DataW.map []).put (.int .i64 t) (.lit (.int .i64 1))) [t] h0 (by simp) (fun x => by
    rw [intMap_has ⟨[], rfl, List.Pairwise.nil, by simp⟩]
    simp [has])
  obtain ⟨es, he, hp, hk⟩ := h1
  have hperm : (refCutsL t l).Perm (intKeys (cutD t l)) := by
    unfold cutD
    rw [he]
    refine perm_intKeys hp hk (h2.imp (fun h => by omega)) (fun x => ?_)
    rw [← he]
    exact h3 x
  unfold cutsL
  rw [← mergeSort_of_perm_i hperm]
  refine List.mergeSort_of_pairwise ?_
  exact h2.imp (fun h => by simp [leI]; omega)
end Go.Proofs.Ytjkepojmceffkaa
