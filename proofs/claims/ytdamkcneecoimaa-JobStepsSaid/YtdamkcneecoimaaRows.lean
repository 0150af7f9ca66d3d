/-
  No cell of these rows narrows 'for every input' (looked for: loops, veiled, ifaces, maps, wideKeys, modest, calm, conditions, laid).
  DERIVED. THE GIVEN ROWS OF THIS SEAT. 5 by the template 'for every input the law returns true; each argument reads behind the call as it read before'; 0 by the template 'total and deterministic' (their statements: YtdamkcneecoimaaTotals.lean).
  GIVEN WITH THE SEED: the statements are not yours to turn. If you find one false, say at which input.
  Laid BY PROGRAM, IN A SANDBOX (cutbox-rows.mjs): the forced cells as the released guide's own fill.sh prints them over the translation 624906b0862e314b… (all of the seat's roots in one cut). By AI agents, Wed Nov 11 2026. No macro, syntax, notation, axiom, sorry.
-/
import Derived.Test.YtdamkcneecoimaaChecked
import GoSem.Claim
import GoSem.ClaimJoined
import GoSem.ClaimMapViews
import Derived.JoinedTies
import Derived.KernelRfl
namespace Go.Proofs.Ytdamkcneecoimaa
/- THE CELL 'sum', in the pinned program and in every row, IS THE sha256 OF THE DUMP (.gsa) THAT YtdamkcneecoimaaProg.lean LOADS. Nothing in Lean hashes anything: it is a label: what it is worth is what the hold of that sum in a sandbox is worth. -/
noncomputable def Try.pinned : Pinned := { name := "ytdamkcneecoimaa", sum := "624906b0862e314bd4d12b4d58537b9050ace343c7c0c5b4aeb11691b9fd5482", checked := Try.checked }
namespace Rows
def none {H : Type} : Left H := { results := [], args := [] }

/-- 'taskmasterlaw20.JobKnown': WHATEVER THE INPUT: true; the input reads as it did. -/
def jobKnownSpec : ChangeSpec := { name := "jobKnown", fn := fun _ => fun
  | [d] => { results := [.lit (.bool true)], args := [d] }
  | _ => none }
def jobKnownRow : OpenClaim := { program := "ytdamkcneecoimaa", sum := "624906b0862e314bd4d12b4d58537b9050ace343c7c0c5b4aeb11691b9fd5482", func := "taskmaster/taskmasterlaw20.JobKnown", spec := "jobKnown", unfollowed := true, recurses := true, apart := false }
def JobKnownSaid : Prop := jobKnownRow.holds Try.pinned (OpenSpec.ofChange jobKnownSpec)

/-- ITS FALSE NEIGHBOUR: 'it returns false'. Refute it at one input. -/
def jobKnownWrong : ChangeSpec := { name := "jobKnown", fn := fun _ => fun
  | [d] => { results := [.lit (.bool false)], args := [d] }
  | _ => none }
def JobKnownWrongFalsely : Prop := jobKnownRow.holds Try.pinned (OpenSpec.ofChange jobKnownWrong)

/-- 'taskmasterlaw20.JobBudget': WHATEVER THE INPUT: true; the input reads as it did. -/
def jobBudgetSpec : ChangeSpec := { name := "jobBudget", fn := fun _ => fun
  | [d1, d2] => { results := [.lit (.bool true)], args := [d1, d2] }
  | _ => none }
def jobBudgetRow : OpenClaim := { program := "ytdamkcneecoimaa", sum := "624906b0862e314bd4d12b4d58537b9050ace343c7c0c5b4aeb11691b9fd5482", func := "taskmaster/taskmasterlaw20.JobBudget", spec := "jobBudget", unfollowed := true, recurses := true, apart := false }
def JobBudgetSaid : Prop := jobBudgetRow.holds Try.pinned (OpenSpec.ofChange jobBudgetSpec)

/-- ITS FALSE NEIGHBOUR: 'it returns false'. Refute it at one input. -/
def jobBudgetWrong : ChangeSpec := { name := "jobBudget", fn := fun _ => fun
  | [d1, d2] => { results := [.lit (.bool false)], args := [d1, d2] }
  | _ => none }
def JobBudgetWrongFalsely : Prop := jobBudgetRow.holds Try.pinned (OpenSpec.ofChange jobBudgetWrong)

/-- 'taskmasterlaw20.JobOwn': WHATEVER THE INPUT: true; the input reads as it did. -/
def jobOwnSpec : ChangeSpec := { name := "jobOwn", fn := fun _ => fun
  | [d1, d2, d3] => { results := [.lit (.bool true)], args := [d1, d2, d3] }
  | _ => none }
def jobOwnRow : OpenClaim := { program := "ytdamkcneecoimaa", sum := "624906b0862e314bd4d12b4d58537b9050ace343c7c0c5b4aeb11691b9fd5482", func := "taskmaster/taskmasterlaw20.JobOwn", spec := "jobOwn", unfollowed := true, recurses := true, apart := false }
def JobOwnSaid : Prop := jobOwnRow.holds Try.pinned (OpenSpec.ofChange jobOwnSpec)

/-- ITS FALSE NEIGHBOUR: 'it returns false'. Refute it at one input. -/
def jobOwnWrong : ChangeSpec := { name := "jobOwn", fn := fun _ => fun
  | [d1, d2, d3] => { results := [.lit (.bool false)], args := [d1, d2, d3] }
  | _ => none }
def JobOwnWrongFalsely : Prop := jobOwnRow.holds Try.pinned (OpenSpec.ofChange jobOwnWrong)

/-- 'taskmasterlaw20.JobSteps': WHATEVER THE INPUT: true; the input reads as it did. -/
def jobStepsSpec : ChangeSpec := { name := "jobSteps", fn := fun _ => fun
  | [d1, d2, d3] => { results := [.lit (.bool true)], args := [d1, d2, d3] }
  | _ => none }
def jobStepsRow : OpenClaim := { program := "ytdamkcneecoimaa", sum := "624906b0862e314bd4d12b4d58537b9050ace343c7c0c5b4aeb11691b9fd5482", func := "taskmaster/taskmasterlaw20.JobSteps", spec := "jobSteps", unfollowed := true, recurses := true, apart := false }
def JobStepsSaid : Prop := jobStepsRow.holds Try.pinned (OpenSpec.ofChange jobStepsSpec)

/-- ITS FALSE NEIGHBOUR: 'it returns false'. Refute it at one input. -/
def jobStepsWrong : ChangeSpec := { name := "jobSteps", fn := fun _ => fun
  | [d1, d2, d3] => { results := [.lit (.bool false)], args := [d1, d2, d3] }
  | _ => none }
def JobStepsWrongFalsely : Prop := jobStepsRow.holds Try.pinned (OpenSpec.ofChange jobStepsWrong)

/-- 'taskmasterlaw20.JobExact': WHATEVER THE INPUT: true; the input reads as it did. -/
def jobExactSpec : ChangeSpec := { name := "jobExact", fn := fun _ => fun
  | [d1, d2] => { results := [.lit (.bool true)], args := [d1, d2] }
  | _ => none }
def jobExactRow : OpenClaim := { program := "ytdamkcneecoimaa", sum := "624906b0862e314bd4d12b4d58537b9050ace343c7c0c5b4aeb11691b9fd5482", func := "taskmaster/taskmasterlaw20.JobExact", spec := "jobExact", unfollowed := true, recurses := true, apart := false }
def JobExactSaid : Prop := jobExactRow.holds Try.pinned (OpenSpec.ofChange jobExactSpec)

/-- ITS FALSE NEIGHBOUR: 'it returns false'. Refute it at one input. -/
def jobExactWrong : ChangeSpec := { name := "jobExact", fn := fun _ => fun
  | [d1, d2] => { results := [.lit (.bool false)], args := [d1, d2] }
  | _ => none }
def JobExactWrongFalsely : Prop := jobExactRow.holds Try.pinned (OpenSpec.ofChange jobExactWrong)

/- THE SECOND FORM. 'bulk': how many values and letters a reading holds, each counted each time it is reached (what is shared counts as often as it is met; a slice's spare places count too). A statement '..UptoSaid' is the law's where the arguments, and the package variables that the reading takes, are together of bulk at most 1048576: NARROWER than '..Said'. Prove '..Said' where nothing that the law and all that it calls make is longer than what came in: it says more and counts as full. Else prove '..UptoSaid'. A law counts once. -/
mutual
def uptoBulk {H : Type} : DataW H → Nat
  | .lit (.string bytes) => bytes.length + 1
  | .lit _ => 1
  | .nil => 1
  | .ptr d => uptoBulk d + 1
  | .slice elems spare => uptoBulkAll elems + uptoBulkAll spare + 1
  | .agg parts => uptoBulkAll parts + 1
  | .iface _ d => uptoBulk d + 1
  | .map entries => uptoBulkEntries entries + 1
  | .held _ => 1
def uptoBulkAll {H : Type} : List (DataW H) → Nat
  | [] => 0
  | d :: r => uptoBulk d + uptoBulkAll r
def uptoBulkEntries {H : Type} : List (Lit × DataW H) → Nat
  | [] => 0
  | x :: r => uptoBulkEntry x + uptoBulkEntries r
def uptoBulkEntry {H : Type} : Lit × DataW H → Nat
  | (.string bytes, d) => bytes.length + uptoBulk d + 1
  | (_, d) => uptoBulk d + 1
 end
def uptoSmall : (H : Type) → List (DataW H) → Bool := fun _ ds => decide (uptoBulkAll ds ≤ 1048576)
def OpenSpec.upto (s : _root_.Go.ChangeSpec) : _root_.Go.OpenSpec := { _root_.Go.OpenSpec.ofChange s with cond := some uptoSmall }

/-- 'taskmasterlaw20.JobKnown', WHERE WHAT IT READS IS OF BULK AT MOST 1048576: true; the input reads as it did. -/
def jobKnownUptoRow : OpenClaim := { program := "ytdamkcneecoimaa", sum := "624906b0862e314bd4d12b4d58537b9050ace343c7c0c5b4aeb11691b9fd5482", func := "taskmaster/taskmasterlaw20.JobKnown", spec := "jobKnown", unfollowed := true, recurses := true, apart := false, narrowed := true }
def JobKnownUptoSaid : Prop := jobKnownUptoRow.holds Try.pinned (OpenSpec.upto jobKnownSpec)

/-- 'taskmasterlaw20.JobBudget', WHERE WHAT IT READS IS OF BULK AT MOST 1048576: true; the input reads as it did. -/
def jobBudgetUptoRow : OpenClaim := { program := "ytdamkcneecoimaa", sum := "624906b0862e314bd4d12b4d58537b9050ace343c7c0c5b4aeb11691b9fd5482", func := "taskmaster/taskmasterlaw20.JobBudget", spec := "jobBudget", unfollowed := true, recurses := true, apart := false, narrowed := true }
def JobBudgetUptoSaid : Prop := jobBudgetUptoRow.holds Try.pinned (OpenSpec.upto jobBudgetSpec)

/-- 'taskmasterlaw20.JobOwn', WHERE WHAT IT READS IS OF BULK AT MOST 1048576: true; the input reads as it did. -/
def jobOwnUptoRow : OpenClaim := { program := "ytdamkcneecoimaa", sum := "624906b0862e314bd4d12b4d58537b9050ace343c7c0c5b4aeb11691b9fd5482", func := "taskmaster/taskmasterlaw20.JobOwn", spec := "jobOwn", unfollowed := true, recurses := true, apart := false, narrowed := true }
def JobOwnUptoSaid : Prop := jobOwnUptoRow.holds Try.pinned (OpenSpec.upto jobOwnSpec)

/-- 'taskmasterlaw20.JobSteps', WHERE WHAT IT READS IS OF BULK AT MOST 1048576: true; the input reads as it did. -/
def jobStepsUptoRow : OpenClaim := { program := "ytdamkcneecoimaa", sum := "624906b0862e314bd4d12b4d58537b9050ace343c7c0c5b4aeb11691b9fd5482", func := "taskmaster/taskmasterlaw20.JobSteps", spec := "jobSteps", unfollowed := true, recurses := true, apart := false, narrowed := true }
def JobStepsUptoSaid : Prop := jobStepsUptoRow.holds Try.pinned (OpenSpec.upto jobStepsSpec)

/-- 'taskmasterlaw20.JobExact', WHERE WHAT IT READS IS OF BULK AT MOST 1048576: true; the input reads as it did. -/
def jobExactUptoRow : OpenClaim := { program := "ytdamkcneecoimaa", sum := "624906b0862e314bd4d12b4d58537b9050ace343c7c0c5b4aeb11691b9fd5482", func := "taskmaster/taskmasterlaw20.JobExact", spec := "jobExact", unfollowed := true, recurses := true, apart := false, narrowed := true }
def JobExactUptoSaid : Prop := jobExactUptoRow.holds Try.pinned (OpenSpec.upto jobExactSpec)

end Rows
end Go.Proofs.Ytdamkcneecoimaa
