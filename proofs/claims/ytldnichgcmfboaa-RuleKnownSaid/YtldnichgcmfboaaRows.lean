/-
  No cell of these rows narrows 'for every input' (looked for: loops, veiled, ifaces, maps, wideKeys, modest, calm, conditions, laid).
  DERIVED. THE GIVEN ROWS OF THIS SEAT. 6 by the template 'for every input the law returns true; each argument reads behind the call as it read before'; 0 by the template 'total and deterministic' (their statements: YtldnichgcmfboaaTotals.lean).
  GIVEN WITH THE SEED: the statements are not yours to turn. If you find one false, say at which input.
  Laid BY PROGRAM, IN A SANDBOX (cutbox-rows.mjs): the forced cells as the released guide's own fill.sh prints them over the translation f4af81f4193d1241… (all of the seat's roots in one cut). By AI agents, Wed Nov 11 2026. No macro, syntax, notation, axiom, sorry.
-/
import Derived.Test.YtldnichgcmfboaaChecked
import GoSem.Claim
import GoSem.ClaimJoined
import GoSem.ClaimMapViews
import Derived.JoinedTies
import Derived.KernelRfl
namespace Go.Proofs.Ytldnichgcmfboaa
/- THE CELL 'sum', in the pinned program and in every row, IS THE sha256 OF THE DUMP (.gsa) THAT YtldnichgcmfboaaProg.lean LOADS. Nothing in Lean hashes anything: it is a label: what it is worth is what the hold of that sum in a sandbox is worth. -/
noncomputable def Try.pinned : Pinned := { name := "ytldnichgcmfboaa", sum := "f4af81f4193d12418151f923a5620f2ef4f30a2b8d976552381c696b9de61b1e", checked := Try.checked }
namespace Rows
def none {H : Type} : Left H := { results := [], args := [] }

/-- 'taskmasterlaw24.RuleTells': WHATEVER THE INPUT: true; the input reads as it did. -/
def ruleTellsSpec : ChangeSpec := { name := "ruleTells", fn := fun _ => fun
  | [d1, d2, d3, d4, d5] => { results := [.lit (.bool true)], args := [d1, d2, d3, d4, d5] }
  | _ => none }
def ruleTellsRow : OpenClaim := { program := "ytldnichgcmfboaa", sum := "f4af81f4193d12418151f923a5620f2ef4f30a2b8d976552381c696b9de61b1e", func := "taskmaster/taskmasterlaw24.RuleTells", spec := "ruleTells", apart := false }
def RuleTellsSaid : Prop := ruleTellsRow.holds Try.pinned (OpenSpec.ofChange ruleTellsSpec)

/-- ITS FALSE NEIGHBOUR: 'it returns false'. Refute it at one input. -/
def ruleTellsWrong : ChangeSpec := { name := "ruleTells", fn := fun _ => fun
  | [d1, d2, d3, d4, d5] => { results := [.lit (.bool false)], args := [d1, d2, d3, d4, d5] }
  | _ => none }
def RuleTellsWrongFalsely : Prop := ruleTellsRow.holds Try.pinned (OpenSpec.ofChange ruleTellsWrong)

/-- 'taskmasterlaw24.RuleThere': WHATEVER THE INPUT: true; the input reads as it did. -/
def ruleThereSpec : ChangeSpec := { name := "ruleThere", fn := fun _ => fun
  | [d1, d2, d3, d4] => { results := [.lit (.bool true)], args := [d1, d2, d3, d4] }
  | _ => none }
def ruleThereRow : OpenClaim := { program := "ytldnichgcmfboaa", sum := "f4af81f4193d12418151f923a5620f2ef4f30a2b8d976552381c696b9de61b1e", func := "taskmaster/taskmasterlaw24.RuleThere", spec := "ruleThere", apart := false }
def RuleThereSaid : Prop := ruleThereRow.holds Try.pinned (OpenSpec.ofChange ruleThereSpec)

/-- ITS FALSE NEIGHBOUR: 'it returns false'. Refute it at one input. -/
def ruleThereWrong : ChangeSpec := { name := "ruleThere", fn := fun _ => fun
  | [d1, d2, d3, d4] => { results := [.lit (.bool false)], args := [d1, d2, d3, d4] }
  | _ => none }
def RuleThereWrongFalsely : Prop := ruleThereRow.holds Try.pinned (OpenSpec.ofChange ruleThereWrong)

/-- 'taskmasterlaw24.RuleRank': WHATEVER THE INPUT: true; the input reads as it did. -/
def ruleRankSpec : ChangeSpec := { name := "ruleRank", fn := fun _ => fun
  | [d1, d2, d3, d4, d5] => { results := [.lit (.bool true)], args := [d1, d2, d3, d4, d5] }
  | _ => none }
def ruleRankRow : OpenClaim := { program := "ytldnichgcmfboaa", sum := "f4af81f4193d12418151f923a5620f2ef4f30a2b8d976552381c696b9de61b1e", func := "taskmaster/taskmasterlaw24.RuleRank", spec := "ruleRank", apart := false }
def RuleRankSaid : Prop := ruleRankRow.holds Try.pinned (OpenSpec.ofChange ruleRankSpec)

/-- ITS FALSE NEIGHBOUR: 'it returns false'. Refute it at one input. -/
def ruleRankWrong : ChangeSpec := { name := "ruleRank", fn := fun _ => fun
  | [d1, d2, d3, d4, d5] => { results := [.lit (.bool false)], args := [d1, d2, d3, d4, d5] }
  | _ => none }
def RuleRankWrongFalsely : Prop := ruleRankRow.holds Try.pinned (OpenSpec.ofChange ruleRankWrong)

/-- 'taskmasterlaw24.RuleKnown': WHATEVER THE INPUT: true; the input reads as it did. -/
def ruleKnownSpec : ChangeSpec := { name := "ruleKnown", fn := fun _ => fun
  | [d] => { results := [.lit (.bool true)], args := [d] }
  | _ => none }
def ruleKnownRow : OpenClaim := { program := "ytldnichgcmfboaa", sum := "f4af81f4193d12418151f923a5620f2ef4f30a2b8d976552381c696b9de61b1e", func := "taskmaster/taskmasterlaw24.RuleKnown", spec := "ruleKnown", apart := false }
def RuleKnownSaid : Prop := ruleKnownRow.holds Try.pinned (OpenSpec.ofChange ruleKnownSpec)

/-- ITS FALSE NEIGHBOUR: 'it returns false'. Refute it at one input. -/
def ruleKnownWrong : ChangeSpec := { name := "ruleKnown", fn := fun _ => fun
  | [d] => { results := [.lit (.bool false)], args := [d] }
  | _ => none }
def RuleKnownWrongFalsely : Prop := ruleKnownRow.holds Try.pinned (OpenSpec.ofChange ruleKnownWrong)

/-- 'taskmasterlaw24.RuleHeld': WHATEVER THE INPUT: true; the input reads as it did. -/
def ruleHeldSpec : ChangeSpec := { name := "ruleHeld", fn := fun _ => fun
  | [d1, d2, d3, d4] => { results := [.lit (.bool true)], args := [d1, d2, d3, d4] }
  | _ => none }
def ruleHeldRow : OpenClaim := { program := "ytldnichgcmfboaa", sum := "f4af81f4193d12418151f923a5620f2ef4f30a2b8d976552381c696b9de61b1e", func := "taskmaster/taskmasterlaw24.RuleHeld", spec := "ruleHeld", apart := false }
def RuleHeldSaid : Prop := ruleHeldRow.holds Try.pinned (OpenSpec.ofChange ruleHeldSpec)

/-- ITS FALSE NEIGHBOUR: 'it returns false'. Refute it at one input. -/
def ruleHeldWrong : ChangeSpec := { name := "ruleHeld", fn := fun _ => fun
  | [d1, d2, d3, d4] => { results := [.lit (.bool false)], args := [d1, d2, d3, d4] }
  | _ => none }
def RuleHeldWrongFalsely : Prop := ruleHeldRow.holds Try.pinned (OpenSpec.ofChange ruleHeldWrong)

/-- 'taskmasterlaw24.RuleLast': WHATEVER THE INPUT: true; the input reads as it did. -/
def ruleLastSpec : ChangeSpec := { name := "ruleLast", fn := fun _ => fun
  | [d1, d2, d3, d4, d5] => { results := [.lit (.bool true)], args := [d1, d2, d3, d4, d5] }
  | _ => none }
def ruleLastRow : OpenClaim := { program := "ytldnichgcmfboaa", sum := "f4af81f4193d12418151f923a5620f2ef4f30a2b8d976552381c696b9de61b1e", func := "taskmaster/taskmasterlaw24.RuleLast", spec := "ruleLast", apart := false }
def RuleLastSaid : Prop := ruleLastRow.holds Try.pinned (OpenSpec.ofChange ruleLastSpec)

/-- ITS FALSE NEIGHBOUR: 'it returns false'. Refute it at one input. -/
def ruleLastWrong : ChangeSpec := { name := "ruleLast", fn := fun _ => fun
  | [d1, d2, d3, d4, d5] => { results := [.lit (.bool false)], args := [d1, d2, d3, d4, d5] }
  | _ => none }
def RuleLastWrongFalsely : Prop := ruleLastRow.holds Try.pinned (OpenSpec.ofChange ruleLastWrong)

/- THE SECOND FORM. 'bulk': how many values and letters a reading holds, each counted each time it is reached (what is shared counts as often as it is met; a slice's spare places count too). A statement '..UptoSaid' is the law's where the arguments, and the package variables that the reading takes, are together of bulk at most 1048576: NARROWER than '..Said'. Prove '..Said' where nothing that the law and all that it calls make is longer than what came in: it says more and counts as full. Else prove '..UptoSaid'. A law counts once. -/
mutual
def uptoBulk {H : Type} : DataW H → Nat
  | .lit (.string bytes) => bytes.length + 1
  | .lit _ => 1
  | .nil => 1
  | .ptr d => uptoBulk d + 1
  | .slice elems spare => uptoBulkAll elems + uptoBulkAll spare + 1
  | .agg parts => uptoBulkAll parts + 1
  | .iface _ d => uptoBulk d + 1
  | .map entries => uptoBulkEntries entries + 1
  | .held _ => 1
def uptoBulkAll {H : Type} : List (DataW H) → Nat
  | [] => 0
  | d :: r => uptoBulk d + uptoBulkAll r
def uptoBulkEntries {H : Type} : List (Lit × DataW H) → Nat
  | [] => 0
  | x :: r => uptoBulkEntry x + uptoBulkEntries r
def uptoBulkEntry {H : Type} : Lit × DataW H → Nat
  | (.string bytes, d) => bytes.length + uptoBulk d + 1
  | (_, d) => uptoBulk d + 1
 end
def uptoSmall : (H : Type) → List (DataW H) → Bool := fun _ ds => decide (uptoBulkAll ds ≤ 1048576)
def OpenSpec.upto (s : _root_.Go.ChangeSpec) : _root_.Go.OpenSpec := { _root_.Go.OpenSpec.ofChange s with cond := some uptoSmall }

/-- 'taskmasterlaw24.RuleTells', WHERE WHAT IT READS IS OF BULK AT MOST 1048576: true; the input reads as it did. -/
def ruleTellsUptoRow : OpenClaim := { program := "ytldnichgcmfboaa", sum := "f4af81f4193d12418151f923a5620f2ef4f30a2b8d976552381c696b9de61b1e", func := "taskmaster/taskmasterlaw24.RuleTells", spec := "ruleTells", apart := false, narrowed := true }
def RuleTellsUptoSaid : Prop := ruleTellsUptoRow.holds Try.pinned (OpenSpec.upto ruleTellsSpec)

/-- 'taskmasterlaw24.RuleThere', WHERE WHAT IT READS IS OF BULK AT MOST 1048576: true; the input reads as it did. -/
def ruleThereUptoRow : OpenClaim := { program := "ytldnichgcmfboaa", sum := "f4af81f4193d12418151f923a5620f2ef4f30a2b8d976552381c696b9de61b1e", func := "taskmaster/taskmasterlaw24.RuleThere", spec := "ruleThere", apart := false, narrowed := true }
def RuleThereUptoSaid : Prop := ruleThereUptoRow.holds Try.pinned (OpenSpec.upto ruleThereSpec)

/-- 'taskmasterlaw24.RuleRank', WHERE WHAT IT READS IS OF BULK AT MOST 1048576: true; the input reads as it did. -/
def ruleRankUptoRow : OpenClaim := { program := "ytldnichgcmfboaa", sum := "f4af81f4193d12418151f923a5620f2ef4f30a2b8d976552381c696b9de61b1e", func := "taskmaster/taskmasterlaw24.RuleRank", spec := "ruleRank", apart := false, narrowed := true }
def RuleRankUptoSaid : Prop := ruleRankUptoRow.holds Try.pinned (OpenSpec.upto ruleRankSpec)

/-- 'taskmasterlaw24.RuleKnown', WHERE WHAT IT READS IS OF BULK AT MOST 1048576: true; the input reads as it did. -/
def ruleKnownUptoRow : OpenClaim := { program := "ytldnichgcmfboaa", sum := "f4af81f4193d12418151f923a5620f2ef4f30a2b8d976552381c696b9de61b1e", func := "taskmaster/taskmasterlaw24.RuleKnown", spec := "ruleKnown", apart := false, narrowed := true }
def RuleKnownUptoSaid : Prop := ruleKnownUptoRow.holds Try.pinned (OpenSpec.upto ruleKnownSpec)

/-- 'taskmasterlaw24.RuleHeld', WHERE WHAT IT READS IS OF BULK AT MOST 1048576: true; the input reads as it did. -/
def ruleHeldUptoRow : OpenClaim := { program := "ytldnichgcmfboaa", sum := "f4af81f4193d12418151f923a5620f2ef4f30a2b8d976552381c696b9de61b1e", func := "taskmaster/taskmasterlaw24.RuleHeld", spec := "ruleHeld", apart := false, narrowed := true }
def RuleHeldUptoSaid : Prop := ruleHeldUptoRow.holds Try.pinned (OpenSpec.upto ruleHeldSpec)

/-- 'taskmasterlaw24.RuleLast', WHERE WHAT IT READS IS OF BULK AT MOST 1048576: true; the input reads as it did. -/
def ruleLastUptoRow : OpenClaim := { program := "ytldnichgcmfboaa", sum := "f4af81f4193d12418151f923a5620f2ef4f30a2b8d976552381c696b9de61b1e", func := "taskmaster/taskmasterlaw24.RuleLast", spec := "ruleLast", apart := false, narrowed := true }
def RuleLastUptoSaid : Prop := ruleLastUptoRow.holds Try.pinned (OpenSpec.upto ruleLastSpec)

end Rows
end Go.Proofs.Ytldnichgcmfboaa
