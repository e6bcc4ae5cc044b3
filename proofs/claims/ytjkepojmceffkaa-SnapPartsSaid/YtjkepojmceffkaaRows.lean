/-
  No cell of these rows narrows 'for every input' (looked for: loops, veiled, ifaces, maps, wideKeys, modest, calm, conditions, laid).
  DERIVED. THE GIVEN ROWS OF THIS SEAT. 5 by the template 'for every input the law returns true; each argument reads behind the call as it read before'; 0 by the template 'total and deterministic' (their statements: YtjkepojmceffkaaTotals.lean).
  GIVEN WITH THE SEED: the statements are not yours to turn. If you find one false, say at which input.
  Laid BY PROGRAM, IN A SANDBOX (cutbox-rows.mjs): the forced cells as the released guide's own fill.sh prints them over the translation bc0532468bb3c797… (all of the seat's roots in one cut). By AI agents, Wed Nov 11 2026. No macro, syntax, notation, axiom, sorry.
-/
import Derived.Test.YtjkepojmceffkaaChecked
import GoSem.Claim
import GoSem.ClaimJoined
import GoSem.ClaimMapViews
import Derived.JoinedTies
import Derived.KernelRfl
namespace Go.Proofs.Ytjkepojmceffkaa
/- THE CELL 'sum', in the pinned program and in every row, IS THE sha256 OF THE DUMP (.gsa) THAT YtjkepojmceffkaaProg.lean LOADS. Nothing in Lean hashes anything: it is a label: what it is worth is what the hold of that sum in a sandbox is worth. -/
noncomputable def Try.pinned : Pinned := { name := "ytjkepojmceffkaa", sum := "bc0532468bb3c797efc1d8d3b4b69fe8d89ac513b0b70ab4f46b2bd7bd751a9f", checked := Try.checked }
namespace Rows
def none {H : Type} : Left H := { results := [], args := [] }

/-- 'rescindlaw16.AlignDoes': WHATEVER THE INPUT: true; the input reads as it did. -/
def alignDoesSpec : ChangeSpec := { name := "alignDoes", fn := fun _ => fun
  | [d1, d2] => { results := [.lit (.bool true)], args := [d1, d2] }
  | _ => none }
def alignDoesRow : OpenClaim := { program := "ytjkepojmceffkaa", sum := "bc0532468bb3c797efc1d8d3b4b69fe8d89ac513b0b70ab4f46b2bd7bd751a9f", func := "rescind/rescindlaw16.AlignDoes", spec := "alignDoes", inPlace := ["internal/bytealg.abigen_runtime_cmpstring"], unfollowed := true, recurses := true, apart := false }
def AlignDoesSaid : Prop := alignDoesRow.holds Try.pinned (OpenSpec.ofChange alignDoesSpec)

/-- ITS FALSE NEIGHBOUR: 'it returns false'. Refute it at one input. -/
def alignDoesWrong : ChangeSpec := { name := "alignDoes", fn := fun _ => fun
  | [d1, d2] => { results := [.lit (.bool false)], args := [d1, d2] }
  | _ => none }
def AlignDoesWrongFalsely : Prop := alignDoesRow.holds Try.pinned (OpenSpec.ofChange alignDoesWrong)

/-- 'rescindlaw16.AlignSums': WHATEVER THE INPUT: true; the input reads as it did. -/
def alignSumsSpec : ChangeSpec := { name := "alignSums", fn := fun _ => fun
  | [d] => { results := [.lit (.bool true)], args := [d] }
  | _ => none }
def alignSumsRow : OpenClaim := { program := "ytjkepojmceffkaa", sum := "bc0532468bb3c797efc1d8d3b4b69fe8d89ac513b0b70ab4f46b2bd7bd751a9f", func := "rescind/rescindlaw16.AlignSums", spec := "alignSums", inPlace := ["internal/bytealg.abigen_runtime_cmpstring"], unfollowed := true, recurses := true, apart := false }
def AlignSumsSaid : Prop := alignSumsRow.holds Try.pinned (OpenSpec.ofChange alignSumsSpec)

/-- ITS FALSE NEIGHBOUR: 'it returns false'. Refute it at one input. -/
def alignSumsWrong : ChangeSpec := { name := "alignSums", fn := fun _ => fun
  | [d] => { results := [.lit (.bool false)], args := [d] }
  | _ => none }
def AlignSumsWrongFalsely : Prop := alignSumsRow.holds Try.pinned (OpenSpec.ofChange alignSumsWrong)

/-- 'rescindlaw27.SnapCuts': WHATEVER THE INPUT: true; the input reads as it did. -/
def snapCutsSpec : ChangeSpec := { name := "snapCuts", fn := fun _ => fun
  | [d1, d2] => { results := [.lit (.bool true)], args := [d1, d2] }
  | _ => none }
def snapCutsRow : OpenClaim := { program := "ytjkepojmceffkaa", sum := "bc0532468bb3c797efc1d8d3b4b69fe8d89ac513b0b70ab4f46b2bd7bd751a9f", func := "rescind/rescindlaw27.SnapCuts", spec := "snapCuts", inPlace := ["internal/bytealg.abigen_runtime_cmpstring"], unfollowed := true, recurses := true, apart := false }
def SnapCutsSaid : Prop := snapCutsRow.holds Try.pinned (OpenSpec.ofChange snapCutsSpec)

/-- ITS FALSE NEIGHBOUR: 'it returns false'. Refute it at one input. -/
def snapCutsWrong : ChangeSpec := { name := "snapCuts", fn := fun _ => fun
  | [d1, d2] => { results := [.lit (.bool false)], args := [d1, d2] }
  | _ => none }
def SnapCutsWrongFalsely : Prop := snapCutsRow.holds Try.pinned (OpenSpec.ofChange snapCutsWrong)

/-- 'rescindlaw27.SnapParts': WHATEVER THE INPUT: true; the input reads as it did. -/
def snapPartsSpec : ChangeSpec := { name := "snapParts", fn := fun _ => fun
  | [d1, d2] => { results := [.lit (.bool true)], args := [d1, d2] }
  | _ => none }
def snapPartsRow : OpenClaim := { program := "ytjkepojmceffkaa", sum := "bc0532468bb3c797efc1d8d3b4b69fe8d89ac513b0b70ab4f46b2bd7bd751a9f", func := "rescind/rescindlaw27.SnapParts", spec := "snapParts", inPlace := ["internal/bytealg.abigen_runtime_cmpstring"], unfollowed := true, recurses := true, apart := false }
def SnapPartsSaid : Prop := snapPartsRow.holds Try.pinned (OpenSpec.ofChange snapPartsSpec)

/-- ITS FALSE NEIGHBOUR: 'it returns false'. Refute it at one input. -/
def snapPartsWrong : ChangeSpec := { name := "snapParts", fn := fun _ => fun
  | [d1, d2] => { results := [.lit (.bool false)], args := [d1, d2] }
  | _ => none }
def SnapPartsWrongFalsely : Prop := snapPartsRow.holds Try.pinned (OpenSpec.ofChange snapPartsWrong)

/-- 'rescindlaw27.SnapTicks': WHATEVER THE INPUT: true; the input reads as it did. -/
def snapTicksSpec : ChangeSpec := { name := "snapTicks", fn := fun _ => fun
  | [d1, d2, d3] => { results := [.lit (.bool true)], args := [d1, d2, d3] }
  | _ => none }
def snapTicksRow : OpenClaim := { program := "ytjkepojmceffkaa", sum := "bc0532468bb3c797efc1d8d3b4b69fe8d89ac513b0b70ab4f46b2bd7bd751a9f", func := "rescind/rescindlaw27.SnapTicks", spec := "snapTicks", inPlace := ["internal/bytealg.abigen_runtime_cmpstring"], unfollowed := true, recurses := true, apart := false }
def SnapTicksSaid : Prop := snapTicksRow.holds Try.pinned (OpenSpec.ofChange snapTicksSpec)

/-- ITS FALSE NEIGHBOUR: 'it returns false'. Refute it at one input. -/
def snapTicksWrong : ChangeSpec := { name := "snapTicks", fn := fun _ => fun
  | [d1, d2, d3] => { results := [.lit (.bool false)], args := [d1, d2, d3] }
  | _ => none }
def SnapTicksWrongFalsely : Prop := snapTicksRow.holds Try.pinned (OpenSpec.ofChange snapTicksWrong)

/- THE SECOND FORM. 'bulk': how many values and letters a reading holds, each counted each time it is reached (what is shared counts as often as it is met; a slice's spare places count too). A statement '..UptoSaid' is the law's where the arguments, and the package variables that the reading takes, are together of bulk at most 1048576: NARROWER than '..Said'. Prove '..Said' where nothing that the law and all that it calls make is longer than what came in: it says more and counts as full. Else prove '..UptoSaid'. A law counts once. -/
mutual
def uptoBulk {H : Type} : DataW H → Nat
  | .lit (.string bytes) => bytes.length + 1
  | .lit _ => 1
  | .nil => 1
  | .ptr d => uptoBulk d + 1
  | .slice elems spare => uptoBulkAll elems + uptoBulkAll spare + 1
  | .agg parts => uptoBulkAll parts + 1
  | .iface _ d => uptoBulk d + 1
  | .map entries => uptoBulkEntries entries + 1
  | .held _ => 1
def uptoBulkAll {H : Type} : List (DataW H) → Nat
  | [] => 0
  | d :: r => uptoBulk d + uptoBulkAll r
def uptoBulkEntries {H : Type} : List (Lit × DataW H) → Nat
  | [] => 0
  | x :: r => uptoBulkEntry x + uptoBulkEntries r
def uptoBulkEntry {H : Type} : Lit × DataW H → Nat
  | (.string bytes, d) => bytes.length + uptoBulk d + 1
  | (_, d) => uptoBulk d + 1
 end
def uptoSmall : (H : Type) → List (DataW H) → Bool := fun _ ds => decide (uptoBulkAll ds ≤ 1048576)
def OpenSpec.upto (s : _root_.Go.ChangeSpec) : _root_.Go.OpenSpec := { _root_.Go.OpenSpec.ofChange s with cond := some uptoSmall }

/-- 'rescindlaw16.AlignDoes', WHERE WHAT IT READS IS OF BULK AT MOST 1048576: true; the input reads as it did. -/
def alignDoesUptoRow : OpenClaim := { program := "ytjkepojmceffkaa", sum := "bc0532468bb3c797efc1d8d3b4b69fe8d89ac513b0b70ab4f46b2bd7bd751a9f", func := "rescind/rescindlaw16.AlignDoes", spec := "alignDoes", inPlace := ["internal/bytealg.abigen_runtime_cmpstring"], unfollowed := true, recurses := true, apart := false, narrowed := true }
def AlignDoesUptoSaid : Prop := alignDoesUptoRow.holds Try.pinned (OpenSpec.upto alignDoesSpec)

/-- 'rescindlaw16.AlignSums', WHERE WHAT IT READS IS OF BULK AT MOST 1048576: true; the input reads as it did. -/
def alignSumsUptoRow : OpenClaim := { program := "ytjkepojmceffkaa", sum := "bc0532468bb3c797efc1d8d3b4b69fe8d89ac513b0b70ab4f46b2bd7bd751a9f", func := "rescind/rescindlaw16.AlignSums", spec := "alignSums", inPlace := ["internal/bytealg.abigen_runtime_cmpstring"], unfollowed := true, recurses := true, apart := false, narrowed := true }
def AlignSumsUptoSaid : Prop := alignSumsUptoRow.holds Try.pinned (OpenSpec.upto alignSumsSpec)

/-- 'rescindlaw27.SnapCuts', WHERE WHAT IT READS IS OF BULK AT MOST 1048576: true; the input reads as it did. -/
def snapCutsUptoRow : OpenClaim := { program := "ytjkepojmceffkaa", sum := "bc0532468bb3c797efc1d8d3b4b69fe8d89ac513b0b70ab4f46b2bd7bd751a9f", func := "rescind/rescindlaw27.SnapCuts", spec := "snapCuts", inPlace := ["internal/bytealg.abigen_runtime_cmpstring"], unfollowed := true, recurses := true, apart := false, narrowed := true }
def SnapCutsUptoSaid : Prop := snapCutsUptoRow.holds Try.pinned (OpenSpec.upto snapCutsSpec)

/-- 'rescindlaw27.SnapParts', WHERE WHAT IT READS IS OF BULK AT MOST 1048576: true; the input reads as it did. -/
def snapPartsUptoRow : OpenClaim := { program := "ytjkepojmceffkaa", sum := "bc0532468bb3c797efc1d8d3b4b69fe8d89ac513b0b70ab4f46b2bd7bd751a9f", func := "rescind/rescindlaw27.SnapParts", spec := "snapParts", inPlace := ["internal/bytealg.abigen_runtime_cmpstring"], unfollowed := true, recurses := true, apart := false, narrowed := true }
def SnapPartsUptoSaid : Prop := snapPartsUptoRow.holds Try.pinned (OpenSpec.upto snapPartsSpec)

/-- 'rescindlaw27.SnapTicks', WHERE WHAT IT READS IS OF BULK AT MOST 1048576: true; the input reads as it did. -/
def snapTicksUptoRow : OpenClaim := { program := "ytjkepojmceffkaa", sum := "bc0532468bb3c797efc1d8d3b4b69fe8d89ac513b0b70ab4f46b2bd7bd751a9f", func := "rescind/rescindlaw27.SnapTicks", spec := "snapTicks", inPlace := ["internal/bytealg.abigen_runtime_cmpstring"], unfollowed := true, recurses := true, apart := false, narrowed := true }
def SnapTicksUptoSaid : Prop := snapTicksUptoRow.holds Try.pinned (OpenSpec.upto snapTicksSpec)

end Rows
end Go.Proofs.Ytjkepojmceffkaa
