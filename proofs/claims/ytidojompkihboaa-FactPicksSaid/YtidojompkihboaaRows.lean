/-
  No cell of these rows narrows 'for every input' (looked for: loops, veiled, ifaces, maps, wideKeys, modest, calm, conditions, laid).
  DERIVED. THE GIVEN ROWS OF THIS SEAT. 3 by the template 'for every input the law returns true; each argument reads behind the call as it read before'; 0 by the template 'total and deterministic' (their statements: YtidojompkihboaaTotals.lean).
  GIVEN WITH THE SEED: the statements are not yours to turn. If you find one false, say at which input.
  Laid BY PROGRAM, IN A SANDBOX (cutbox-rows.mjs): the forced cells as the released guide's own fill.sh prints them over the translation d6b45e06b7cac3b5… (all of the seat's roots in one cut). By AI agents, Wed Nov 11 2026. No macro, syntax, notation, axiom, sorry.
-/
import Derived.Test.YtidojompkihboaaChecked
import GoSem.Claim
import GoSem.ClaimJoined
import GoSem.ClaimMapViews
import Derived.JoinedTies
import Derived.KernelRfl
namespace Go.Proofs.Ytidojompkihboaa
/- THE CELL 'sum', in the pinned program and in every row, IS THE sha256 OF THE DUMP (.gsa) THAT YtidojompkihboaaProg.lean LOADS. Nothing in Lean hashes anything: it is a label: what it is worth is what the hold of that sum in a sandbox is worth. -/
noncomputable def Try.pinned : Pinned := { name := "ytidojompkihboaa", sum := "d6b45e06b7cac3b5bb438ae8902eec248a0dbbbc3cb23fe02f4fc4113e859842", checked := Try.checked }
namespace Rows
def none {H : Type} : Left H := { results := [], args := [] }

/-- 'comptrollerlaw09.FactKeys': WHATEVER THE INPUT: true; the input reads as it did. -/
def factKeysSpec : ChangeSpec := { name := "factKeys", fn := fun _ => fun
  | [d1, d2, d3] => { results := [.lit (.bool true)], args := [d1, d2, d3] }
  | _ => none }
def factKeysRow : OpenClaim := { program := "ytidojompkihboaa", sum := "d6b45e06b7cac3b5bb438ae8902eec248a0dbbbc3cb23fe02f4fc4113e859842", func := "comptroller/comptrollerlaw09.FactKeys", spec := "factKeys", inPlace := ["internal/bytealg.abigen_runtime_cmpstring"], unfollowed := true, recurses := true, apart := false }
def FactKeysSaid : Prop := factKeysRow.holds Try.pinned (OpenSpec.ofChange factKeysSpec)

/-- ITS FALSE NEIGHBOUR: 'it returns false'. Refute it at one input. -/
def factKeysWrong : ChangeSpec := { name := "factKeys", fn := fun _ => fun
  | [d1, d2, d3] => { results := [.lit (.bool false)], args := [d1, d2, d3] }
  | _ => none }
def FactKeysWrongFalsely : Prop := factKeysRow.holds Try.pinned (OpenSpec.ofChange factKeysWrong)

/-- 'comptrollerlaw09.FactPicks': WHATEVER THE INPUT: true; the input reads as it did. -/
def factPicksSpec : ChangeSpec := { name := "factPicks", fn := fun _ => fun
  | [d1, d2] => { results := [.lit (.bool true)], args := [d1, d2] }
  | _ => none }
def factPicksRow : OpenClaim := { program := "ytidojompkihboaa", sum := "d6b45e06b7cac3b5bb438ae8902eec248a0dbbbc3cb23fe02f4fc4113e859842", func := "comptroller/comptrollerlaw09.FactPicks", spec := "factPicks", inPlace := ["internal/bytealg.abigen_runtime_cmpstring"], unfollowed := true, recurses := true, apart := false }
def FactPicksSaid : Prop := factPicksRow.holds Try.pinned (OpenSpec.ofChange factPicksSpec)

/-- ITS FALSE NEIGHBOUR: 'it returns false'. Refute it at one input. -/
def factPicksWrong : ChangeSpec := { name := "factPicks", fn := fun _ => fun
  | [d1, d2] => { results := [.lit (.bool false)], args := [d1, d2] }
  | _ => none }
def FactPicksWrongFalsely : Prop := factPicksRow.holds Try.pinned (OpenSpec.ofChange factPicksWrong)

/-- 'comptrollerlaw09.FactZeros': WHATEVER THE INPUT: true; the input reads as it did. -/
def factZerosSpec : ChangeSpec := { name := "factZeros", fn := fun _ => fun
  | [d] => { results := [.lit (.bool true)], args := [d] }
  | _ => none }
def factZerosRow : OpenClaim := { program := "ytidojompkihboaa", sum := "d6b45e06b7cac3b5bb438ae8902eec248a0dbbbc3cb23fe02f4fc4113e859842", func := "comptroller/comptrollerlaw09.FactZeros", spec := "factZeros", inPlace := ["internal/bytealg.abigen_runtime_cmpstring"], unfollowed := true, recurses := true, apart := false }
def FactZerosSaid : Prop := factZerosRow.holds Try.pinned (OpenSpec.ofChange factZerosSpec)

/-- ITS FALSE NEIGHBOUR: 'it returns false'. Refute it at one input. -/
def factZerosWrong : ChangeSpec := { name := "factZeros", fn := fun _ => fun
  | [d] => { results := [.lit (.bool false)], args := [d] }
  | _ => none }
def FactZerosWrongFalsely : Prop := factZerosRow.holds Try.pinned (OpenSpec.ofChange factZerosWrong)

/- THE SECOND FORM. 'bulk': how many values and letters a reading holds, each counted each time it is reached (what is shared counts as often as it is met; a slice's spare places count too). A statement '..UptoSaid' is the law's where the arguments, and the package variables that the reading takes, are together of bulk at most 1048576: NARROWER than '..Said'. Prove '..Said' where nothing that the law and all that it calls make is longer than what came in: it says more and counts as full. Else prove '..UptoSaid'. A law counts once. -/
mutual
def uptoBulk {H : Type} : DataW H → Nat
  | .lit (.string bytes) => bytes.length + 1
  | .lit _ => 1
  | .nil => 1
  | .ptr d => uptoBulk d + 1
  | .slice elems spare => uptoBulkAll elems + uptoBulkAll spare + 1
  | .agg parts => uptoBulkAll parts + 1
  | .iface _ d => uptoBulk d + 1
  | .map entries => uptoBulkEntries entries + 1
  | .held _ => 1
def uptoBulkAll {H : Type} : List (DataW H) → Nat
  | [] => 0
  | d :: r => uptoBulk d + uptoBulkAll r
def uptoBulkEntries {H : Type} : List (Lit × DataW H) → Nat
  | [] => 0
  | x :: r => uptoBulkEntry x + uptoBulkEntries r
def uptoBulkEntry {H : Type} : Lit × DataW H → Nat
  | (.string bytes, d) => bytes.length + uptoBulk d + 1
  | (_, d) => uptoBulk d + 1
 end
def uptoSmall : (H : Type) → List (DataW H) → Bool := fun _ ds => decide (uptoBulkAll ds ≤ 1048576)
def OpenSpec.upto (s : _root_.Go.ChangeSpec) : _root_.Go.OpenSpec := { _root_.Go.OpenSpec.ofChange s with cond := some uptoSmall }

/-- 'comptrollerlaw09.FactKeys', WHERE WHAT IT READS IS OF BULK AT MOST 1048576: true; the input reads as it did. -/
def factKeysUptoRow : OpenClaim := { program := "ytidojompkihboaa", sum := "d6b45e06b7cac3b5bb438ae8902eec248a0dbbbc3cb23fe02f4fc4113e859842", func := "comptroller/comptrollerlaw09.FactKeys", spec := "factKeys", inPlace := ["internal/bytealg.abigen_runtime_cmpstring"], unfollowed := true, recurses := true, apart := false, narrowed := true }
def FactKeysUptoSaid : Prop := factKeysUptoRow.holds Try.pinned (OpenSpec.upto factKeysSpec)

/-- 'comptrollerlaw09.FactPicks', WHERE WHAT IT READS IS OF BULK AT MOST 1048576: true; the input reads as it did. -/
def factPicksUptoRow : OpenClaim := { program := "ytidojompkihboaa", sum := "d6b45e06b7cac3b5bb438ae8902eec248a0dbbbc3cb23fe02f4fc4113e859842", func := "comptroller/comptrollerlaw09.FactPicks", spec := "factPicks", inPlace := ["internal/bytealg.abigen_runtime_cmpstring"], unfollowed := true, recurses := true, apart := false, narrowed := true }
def FactPicksUptoSaid : Prop := factPicksUptoRow.holds Try.pinned (OpenSpec.upto factPicksSpec)

/-- 'comptrollerlaw09.FactZeros', WHERE WHAT IT READS IS OF BULK AT MOST 1048576: true; the input reads as it did. -/
def factZerosUptoRow : OpenClaim := { program := "ytidojompkihboaa", sum := "d6b45e06b7cac3b5bb438ae8902eec248a0dbbbc3cb23fe02f4fc4113e859842", func := "comptroller/comptrollerlaw09.FactZeros", spec := "factZeros", inPlace := ["internal/bytealg.abigen_runtime_cmpstring"], unfollowed := true, recurses := true, apart := false, narrowed := true }
def FactZerosUptoSaid : Prop := factZerosUptoRow.holds Try.pinned (OpenSpec.upto factZerosSpec)

end Rows
end Go.Proofs.Ytidojompkihboaa
