/-
  No cell of these rows narrows 'for every input' (looked for: loops, veiled, ifaces, maps, wideKeys, modest, calm, conditions, laid).
  DERIVED. THE GIVEN ROWS OF THIS SEAT. 6 by the template 'for every input the law returns true; each argument reads behind the call as it read before'; 0 by the template 'total and deterministic' (their statements: YtnebclliacjjkaaTotals.lean).
  GIVEN WITH THE SEED: the statements are not yours to turn. If you find one false, say at which input.
  Laid BY PROGRAM, IN A SANDBOX (cutbox-rows.mjs): the forced cells as the released guide's own fill.sh prints them over the translation 668451bf2f7221c4… (all of the seat's roots in one cut). By AI agents, Wed Nov 11 2026. No macro, syntax, notation, axiom, sorry.
-/
import Derived.Test.YtnebclliacjjkaaChecked
import GoSem.Claim
import GoSem.ClaimJoined
import GoSem.ClaimMapViews
import Derived.JoinedTies
import Derived.KernelRfl
namespace Go.Proofs.Ytnebclliacjjkaa
/- THE CELL 'sum', in the pinned program and in every row, IS THE sha256 OF THE DUMP (.gsa) THAT YtnebclliacjjkaaProg.lean LOADS. Nothing in Lean hashes anything: it is a label: what it is worth is what the hold of that sum in a sandbox is worth. -/
noncomputable def Try.pinned : Pinned := { name := "ytnebclliacjjkaa", sum := "668451bf2f7221c493d616c1e6cd93bb09deabb9bf8b620bdc8ca64ad0223796", checked := Try.checked }
namespace Rows
def none {H : Type} : Left H := { results := [], args := [] }

/-- 'laws.FnExactFreeModel': WHATEVER THE INPUT: true; the input reads as it did. -/
def fnExactFreeModelSpec : ChangeSpec := { name := "fnExactFreeModel", fn := fun _ => fun
  | [d1, d2] => { results := [.lit (.bool true)], args := [d1, d2] }
  | _ => none }
def fnExactFreeModelRow : OpenClaim := { program := "ytnebclliacjjkaa", sum := "668451bf2f7221c493d616c1e6cd93bb09deabb9bf8b620bdc8ca64ad0223796", func := "loop.example/g00945/laws.FnExactFreeModel", spec := "fnExactFreeModel", apart := false }
def FnExactFreeModelSaid : Prop := fnExactFreeModelRow.holds Try.pinned (OpenSpec.ofChange fnExactFreeModelSpec)

/-- ITS FALSE NEIGHBOUR: 'it returns false'. Refute it at one input. -/
def fnExactFreeModelWrong : ChangeSpec := { name := "fnExactFreeModel", fn := fun _ => fun
  | [d1, d2] => { results := [.lit (.bool false)], args := [d1, d2] }
  | _ => none }
def FnExactFreeModelWrongFalsely : Prop := fnExactFreeModelRow.holds Try.pinned (OpenSpec.ofChange fnExactFreeModelWrong)

/-- 'laws.FnExactJoin': WHATEVER THE INPUT: true; the input reads as it did. -/
def fnExactJoinSpec : ChangeSpec := { name := "fnExactJoin", fn := fun _ => fun
  | [d1, d2] => { results := [.lit (.bool true)], args := [d1, d2] }
  | _ => none }
def fnExactJoinRow : OpenClaim := { program := "ytnebclliacjjkaa", sum := "668451bf2f7221c493d616c1e6cd93bb09deabb9bf8b620bdc8ca64ad0223796", func := "loop.example/g00945/laws.FnExactJoin", spec := "fnExactJoin", inPlace := ["internal/abi.NoEscape", "internal/bytealg.MakeNoZero"], apart := false }
def FnExactJoinSaid : Prop := fnExactJoinRow.holds Try.pinned (OpenSpec.ofChange fnExactJoinSpec)

/-- ITS FALSE NEIGHBOUR: 'it returns false'. Refute it at one input. -/
def fnExactJoinWrong : ChangeSpec := { name := "fnExactJoin", fn := fun _ => fun
  | [d1, d2] => { results := [.lit (.bool false)], args := [d1, d2] }
  | _ => none }
def FnExactJoinWrongFalsely : Prop := fnExactJoinRow.holds Try.pinned (OpenSpec.ofChange fnExactJoinWrong)

/-- 'laws.FnExactSameModel': WHATEVER THE INPUT: true; the input reads as it did. -/
def fnExactSameModelSpec : ChangeSpec := { name := "fnExactSameModel", fn := fun _ => fun
  | [d1, d2] => { results := [.lit (.bool true)], args := [d1, d2] }
  | _ => none }
def fnExactSameModelRow : OpenClaim := { program := "ytnebclliacjjkaa", sum := "668451bf2f7221c493d616c1e6cd93bb09deabb9bf8b620bdc8ca64ad0223796", func := "loop.example/g00945/laws.FnExactSameModel", spec := "fnExactSameModel", unfollowed := true, recurses := true, apart := false }
def FnExactSameModelSaid : Prop := fnExactSameModelRow.holds Try.pinned (OpenSpec.ofChange fnExactSameModelSpec)

/-- ITS FALSE NEIGHBOUR: 'it returns false'. Refute it at one input. -/
def fnExactSameModelWrong : ChangeSpec := { name := "fnExactSameModel", fn := fun _ => fun
  | [d1, d2] => { results := [.lit (.bool false)], args := [d1, d2] }
  | _ => none }
def FnExactSameModelWrongFalsely : Prop := fnExactSameModelRow.holds Try.pinned (OpenSpec.ofChange fnExactSameModelWrong)

/-- 'laws.FnExactFormulaOk': WHATEVER THE INPUT: true; the input reads as it did. -/
def fnExactFormulaOkSpec : ChangeSpec := { name := "fnExactFormulaOk", fn := fun _ => fun
  | [d] => { results := [.lit (.bool true)], args := [d] }
  | _ => none }
def fnExactFormulaOkRow : OpenClaim := { program := "ytnebclliacjjkaa", sum := "668451bf2f7221c493d616c1e6cd93bb09deabb9bf8b620bdc8ca64ad0223796", func := "loop.example/g00945/laws.FnExactFormulaOk", spec := "fnExactFormulaOk", apart := false }
def FnExactFormulaOkSaid : Prop := fnExactFormulaOkRow.holds Try.pinned (OpenSpec.ofChange fnExactFormulaOkSpec)

/-- ITS FALSE NEIGHBOUR: 'it returns false'. Refute it at one input. -/
def fnExactFormulaOkWrong : ChangeSpec := { name := "fnExactFormulaOk", fn := fun _ => fun
  | [d] => { results := [.lit (.bool false)], args := [d] }
  | _ => none }
def FnExactFormulaOkWrongFalsely : Prop := fnExactFormulaOkRow.holds Try.pinned (OpenSpec.ofChange fnExactFormulaOkWrong)

/-- 'laws.FnExactModelOk': WHATEVER THE INPUT: true; the input reads as it did. -/
def fnExactModelOkSpec : ChangeSpec := { name := "fnExactModelOk", fn := fun _ => fun
  | [d] => { results := [.lit (.bool true)], args := [d] }
  | _ => none }
def fnExactModelOkRow : OpenClaim := { program := "ytnebclliacjjkaa", sum := "668451bf2f7221c493d616c1e6cd93bb09deabb9bf8b620bdc8ca64ad0223796", func := "loop.example/g00945/laws.FnExactModelOk", spec := "fnExactModelOk", unfollowed := true, recurses := true, apart := false }
def FnExactModelOkSaid : Prop := fnExactModelOkRow.holds Try.pinned (OpenSpec.ofChange fnExactModelOkSpec)

/-- ITS FALSE NEIGHBOUR: 'it returns false'. Refute it at one input. -/
def fnExactModelOkWrong : ChangeSpec := { name := "fnExactModelOk", fn := fun _ => fun
  | [d] => { results := [.lit (.bool false)], args := [d] }
  | _ => none }
def FnExactModelOkWrongFalsely : Prop := fnExactModelOkRow.holds Try.pinned (OpenSpec.ofChange fnExactModelOkWrong)

/-- 'laws.FnExactSameBlock': WHATEVER THE INPUT: true; the input reads as it did. -/
def fnExactSameBlockSpec : ChangeSpec := { name := "fnExactSameBlock", fn := fun _ => fun
  | [d1, d2, d3, d4] => { results := [.lit (.bool true)], args := [d1, d2, d3, d4] }
  | _ => none }
def fnExactSameBlockRow : OpenClaim := { program := "ytnebclliacjjkaa", sum := "668451bf2f7221c493d616c1e6cd93bb09deabb9bf8b620bdc8ca64ad0223796", func := "loop.example/g00945/laws.FnExactSameBlock", spec := "fnExactSameBlock", unfollowed := true, recurses := true, apart := false }
def FnExactSameBlockSaid : Prop := fnExactSameBlockRow.holds Try.pinned (OpenSpec.ofChange fnExactSameBlockSpec)

/-- ITS FALSE NEIGHBOUR: 'it returns false'. Refute it at one input. -/
def fnExactSameBlockWrong : ChangeSpec := { name := "fnExactSameBlock", fn := fun _ => fun
  | [d1, d2, d3, d4] => { results := [.lit (.bool false)], args := [d1, d2, d3, d4] }
  | _ => none }
def FnExactSameBlockWrongFalsely : Prop := fnExactSameBlockRow.holds Try.pinned (OpenSpec.ofChange fnExactSameBlockWrong)

/- THE SECOND FORM. 'bulk': how many values and letters a reading holds, each counted each time it is reached (what is shared counts as often as it is met; a slice's spare places count too). A statement '..UptoSaid' is the law's where the arguments, and the package variables that the reading takes, are together of bulk at most 1048576: NARROWER than '..Said'. Prove '..Said' where nothing that the law and all that it calls make is longer than what came in: it says more and counts as full. Else prove '..UptoSaid'. A law counts once. -/
mutual
def uptoBulk {H : Type} : DataW H → Nat
  | .lit (.string bytes) => bytes.length + 1
  | .lit _ => 1
  | .nil => 1
  | .ptr d => uptoBulk d + 1
  | .slice elems spare => uptoBulkAll elems + uptoBulkAll spare + 1
  | .agg parts => uptoBulkAll parts + 1
  | .iface _ d => uptoBulk d + 1
  | .map entries => uptoBulkEntries entries + 1
  | .held _ => 1
def uptoBulkAll {H : Type} : List (DataW H) → Nat
  | [] => 0
  | d :: r => uptoBulk d + uptoBulkAll r
def uptoBulkEntries {H : Type} : List (Lit × DataW H) → Nat
  | [] => 0
  | x :: r => uptoBulkEntry x + uptoBulkEntries r
def uptoBulkEntry {H : Type} : Lit × DataW H → Nat
  | (.string bytes, d) => bytes.length + uptoBulk d + 1
  | (_, d) => uptoBulk d + 1
 end
def uptoSmall : (H : Type) → List (DataW H) → Bool := fun _ ds => decide (uptoBulkAll ds ≤ 1048576)
def OpenSpec.upto (s : _root_.Go.ChangeSpec) : _root_.Go.OpenSpec := { _root_.Go.OpenSpec.ofChange s with cond := some uptoSmall }

/-- 'laws.FnExactFreeModel', WHERE WHAT IT READS IS OF BULK AT MOST 1048576: true; the input reads as it did. -/
def fnExactFreeModelUptoRow : OpenClaim := { program := "ytnebclliacjjkaa", sum := "668451bf2f7221c493d616c1e6cd93bb09deabb9bf8b620bdc8ca64ad0223796", func := "loop.example/g00945/laws.FnExactFreeModel", spec := "fnExactFreeModel", apart := false, narrowed := true }
def FnExactFreeModelUptoSaid : Prop := fnExactFreeModelUptoRow.holds Try.pinned (OpenSpec.upto fnExactFreeModelSpec)

/-- 'laws.FnExactJoin', WHERE WHAT IT READS IS OF BULK AT MOST 1048576: true; the input reads as it did. -/
def fnExactJoinUptoRow : OpenClaim := { program := "ytnebclliacjjkaa", sum := "668451bf2f7221c493d616c1e6cd93bb09deabb9bf8b620bdc8ca64ad0223796", func := "loop.example/g00945/laws.FnExactJoin", spec := "fnExactJoin", inPlace := ["internal/abi.NoEscape", "internal/bytealg.MakeNoZero"], apart := false, narrowed := true }
def FnExactJoinUptoSaid : Prop := fnExactJoinUptoRow.holds Try.pinned (OpenSpec.upto fnExactJoinSpec)

/-- 'laws.FnExactSameModel', WHERE WHAT IT READS IS OF BULK AT MOST 1048576: true; the input reads as it did. -/
def fnExactSameModelUptoRow : OpenClaim := { program := "ytnebclliacjjkaa", sum := "668451bf2f7221c493d616c1e6cd93bb09deabb9bf8b620bdc8ca64ad0223796", func := "loop.example/g00945/laws.FnExactSameModel", spec := "fnExactSameModel", unfollowed := true, recurses := true, apart := false, narrowed := true }
def FnExactSameModelUptoSaid : Prop := fnExactSameModelUptoRow.holds Try.pinned (OpenSpec.upto fnExactSameModelSpec)

/-- 'laws.FnExactFormulaOk', WHERE WHAT IT READS IS OF BULK AT MOST 1048576: true; the input reads as it did. -/
def fnExactFormulaOkUptoRow : OpenClaim := { program := "ytnebclliacjjkaa", sum := "668451bf2f7221c493d616c1e6cd93bb09deabb9bf8b620bdc8ca64ad0223796", func := "loop.example/g00945/laws.FnExactFormulaOk", spec := "fnExactFormulaOk", apart := false, narrowed := true }
def FnExactFormulaOkUptoSaid : Prop := fnExactFormulaOkUptoRow.holds Try.pinned (OpenSpec.upto fnExactFormulaOkSpec)

/-- 'laws.FnExactModelOk', WHERE WHAT IT READS IS OF BULK AT MOST 1048576: true; the input reads as it did. -/
def fnExactModelOkUptoRow : OpenClaim := { program := "ytnebclliacjjkaa", sum := "668451bf2f7221c493d616c1e6cd93bb09deabb9bf8b620bdc8ca64ad0223796", func := "loop.example/g00945/laws.FnExactModelOk", spec := "fnExactModelOk", unfollowed := true, recurses := true, apart := false, narrowed := true }
def FnExactModelOkUptoSaid : Prop := fnExactModelOkUptoRow.holds Try.pinned (OpenSpec.upto fnExactModelOkSpec)

/-- 'laws.FnExactSameBlock', WHERE WHAT IT READS IS OF BULK AT MOST 1048576: true; the input reads as it did. -/
def fnExactSameBlockUptoRow : OpenClaim := { program := "ytnebclliacjjkaa", sum := "668451bf2f7221c493d616c1e6cd93bb09deabb9bf8b620bdc8ca64ad0223796", func := "loop.example/g00945/laws.FnExactSameBlock", spec := "fnExactSameBlock", unfollowed := true, recurses := true, apart := false, narrowed := true }
def FnExactSameBlockUptoSaid : Prop := fnExactSameBlockUptoRow.holds Try.pinned (OpenSpec.upto fnExactSameBlockSpec)

end Rows
end Go.Proofs.Ytnebclliacjjkaa
