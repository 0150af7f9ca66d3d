/-
  No cell of these rows narrows 'for every input' (looked for: loops, veiled, ifaces, maps, wideKeys, modest, calm, conditions, laid).
  DERIVED. THE GIVEN ROWS OF THIS SEAT. 3 by the template 'for every input the law returns true; each argument reads behind the call as it read before'; 0 by the template 'total and deterministic' (their statements: YtggoflcphalnpaaTotals.lean).
  GIVEN WITH THE SEED: the statements are not yours to turn. If you find one false, say at which input.
  Laid BY PROGRAM, IN A SANDBOX (cutbox-rows.mjs): the forced cells as the released guide's own fill.sh prints them over the translation b1b9f5416c1194a2… (all of the seat's roots in one cut). By AI agents, Wed Nov 11 2026. No macro, syntax, notation, axiom, sorry.
-/
import Derived.Test.YtggoflcphalnpaaChecked
import GoSem.Claim
import GoSem.ClaimJoined
import GoSem.ClaimMapViews
import Derived.JoinedTies
import Derived.KernelRfl
namespace Go.Proofs.Ytggoflcphalnpaa
/- THE CELL 'sum', in the pinned program and in every row, IS THE sha256 OF THE DUMP (.gsa) THAT YtggoflcphalnpaaProg.lean LOADS. Nothing in Lean hashes anything: it is a label: what it is worth is what the hold of that sum in a sandbox is worth. -/
noncomputable def Try.pinned : Pinned := { name := "ytggoflcphalnpaa", sum := "b1b9f5416c1194a2e6676c9e43575e26927ea2cb8db09f24f1f5ce0e01c4ec84", checked := Try.checked }
namespace Rows
def none {H : Type} : Left H := { results := [], args := [] }

/-- 'taskmasterlaw19.PolicePlays': WHATEVER THE INPUT: true; the input reads as it did. -/
def policePlaysSpec : ChangeSpec := { name := "policePlays", fn := fun _ => fun
  | [d1, d2] => { results := [.lit (.bool true)], args := [d1, d2] }
  | _ => none }
def policePlaysRow : OpenClaim := { program := "ytggoflcphalnpaa", sum := "b1b9f5416c1194a2e6676c9e43575e26927ea2cb8db09f24f1f5ce0e01c4ec84", func := "taskmaster/taskmasterlaw19.PolicePlays", spec := "policePlays", unfollowed := true, recurses := true, apart := false }
def PolicePlaysSaid : Prop := policePlaysRow.holds Try.pinned (OpenSpec.ofChange policePlaysSpec)

/-- ITS FALSE NEIGHBOUR: 'it returns false'. Refute it at one input. -/
def policePlaysWrong : ChangeSpec := { name := "policePlays", fn := fun _ => fun
  | [d1, d2] => { results := [.lit (.bool false)], args := [d1, d2] }
  | _ => none }
def PolicePlaysWrongFalsely : Prop := policePlaysRow.holds Try.pinned (OpenSpec.ofChange policePlaysWrong)

/-- 'taskmasterlaw19.PoliceApart': WHATEVER THE INPUT: true; the input reads as it did. -/
def policeApartSpec : ChangeSpec := { name := "policeApart", fn := fun _ => fun
  | [d1, d2] => { results := [.lit (.bool true)], args := [d1, d2] }
  | _ => none }
def policeApartRow : OpenClaim := { program := "ytggoflcphalnpaa", sum := "b1b9f5416c1194a2e6676c9e43575e26927ea2cb8db09f24f1f5ce0e01c4ec84", func := "taskmaster/taskmasterlaw19.PoliceApart", spec := "policeApart", unfollowed := true, recurses := true, apart := false }
def PoliceApartSaid : Prop := policeApartRow.holds Try.pinned (OpenSpec.ofChange policeApartSpec)

/-- ITS FALSE NEIGHBOUR: 'it returns false'. Refute it at one input. -/
def policeApartWrong : ChangeSpec := { name := "policeApart", fn := fun _ => fun
  | [d1, d2] => { results := [.lit (.bool false)], args := [d1, d2] }
  | _ => none }
def PoliceApartWrongFalsely : Prop := policeApartRow.holds Try.pinned (OpenSpec.ofChange policeApartWrong)

/-- 'taskmasterlaw19.PoliceAlone': WHATEVER THE INPUT: true; the input reads as it did. -/
def policeAloneSpec : ChangeSpec := { name := "policeAlone", fn := fun _ => fun
  | [d1, d2] => { results := [.lit (.bool true)], args := [d1, d2] }
  | _ => none }
def policeAloneRow : OpenClaim := { program := "ytggoflcphalnpaa", sum := "b1b9f5416c1194a2e6676c9e43575e26927ea2cb8db09f24f1f5ce0e01c4ec84", func := "taskmaster/taskmasterlaw19.PoliceAlone", spec := "policeAlone", unfollowed := true, recurses := true, apart := false }
def PoliceAloneSaid : Prop := policeAloneRow.holds Try.pinned (OpenSpec.ofChange policeAloneSpec)

/-- ITS FALSE NEIGHBOUR: 'it returns false'. Refute it at one input. -/
def policeAloneWrong : ChangeSpec := { name := "policeAlone", fn := fun _ => fun
  | [d1, d2] => { results := [.lit (.bool false)], args := [d1, d2] }
  | _ => none }
def PoliceAloneWrongFalsely : Prop := policeAloneRow.holds Try.pinned (OpenSpec.ofChange policeAloneWrong)

/- THE SECOND FORM. 'bulk': how many values and letters a reading holds, each counted each time it is reached (what is shared counts as often as it is met; a slice's spare places count too). A statement '..UptoSaid' is the law's where the arguments, and the package variables that the reading takes, are together of bulk at most 1048576: NARROWER than '..Said'. Prove '..Said' where nothing that the law and all that it calls make is longer than what came in: it says more and counts as full. Else prove '..UptoSaid'. A law counts once. -/
mutual
def uptoBulk {H : Type} : DataW H → Nat
  | .lit (.string bytes) => bytes.length + 1
  | .lit _ => 1
  | .nil => 1
  | .ptr d => uptoBulk d + 1
  | .slice elems spare => uptoBulkAll elems + uptoBulkAll spare + 1
  | .agg parts => uptoBulkAll parts + 1
  | .iface _ d => uptoBulk d + 1
  | .map entries => uptoBulkEntries entries + 1
  | .held _ => 1
def uptoBulkAll {H : Type} : List (DataW H) → Nat
  | [] => 0
  | d :: r => uptoBulk d + uptoBulkAll r
def uptoBulkEntries {H : Type} : List (Lit × DataW H) → Nat
  | [] => 0
  | x :: r => uptoBulkEntry x + uptoBulkEntries r
def uptoBulkEntry {H : Type} : Lit × DataW H → Nat
  | (.string bytes, d) => bytes.length + uptoBulk d + 1
  | (_, d) => uptoBulk d + 1
 end
def uptoSmall : (H : Type) → List (DataW H) → Bool := fun _ ds => decide (uptoBulkAll ds ≤ 1048576)
def OpenSpec.upto (s : _root_.Go.ChangeSpec) : _root_.Go.OpenSpec := { _root_.Go.OpenSpec.ofChange s with cond := some uptoSmall }

/-- 'taskmasterlaw19.PolicePlays', WHERE WHAT IT READS IS OF BULK AT MOST 1048576: true; the input reads as it did. -/
def policePlaysUptoRow : OpenClaim := { program := "ytggoflcphalnpaa", sum := "b1b9f5416c1194a2e6676c9e43575e26927ea2cb8db09f24f1f5ce0e01c4ec84", func := "taskmaster/taskmasterlaw19.PolicePlays", spec := "policePlays", unfollowed := true, recurses := true, apart := false, narrowed := true }
def PolicePlaysUptoSaid : Prop := policePlaysUptoRow.holds Try.pinned (OpenSpec.upto policePlaysSpec)

/-- 'taskmasterlaw19.PoliceApart', WHERE WHAT IT READS IS OF BULK AT MOST 1048576: true; the input reads as it did. -/
def policeApartUptoRow : OpenClaim := { program := "ytggoflcphalnpaa", sum := "b1b9f5416c1194a2e6676c9e43575e26927ea2cb8db09f24f1f5ce0e01c4ec84", func := "taskmaster/taskmasterlaw19.PoliceApart", spec := "policeApart", unfollowed := true, recurses := true, apart := false, narrowed := true }
def PoliceApartUptoSaid : Prop := policeApartUptoRow.holds Try.pinned (OpenSpec.upto policeApartSpec)

/-- 'taskmasterlaw19.PoliceAlone', WHERE WHAT IT READS IS OF BULK AT MOST 1048576: true; the input reads as it did. -/
def policeAloneUptoRow : OpenClaim := { program := "ytggoflcphalnpaa", sum := "b1b9f5416c1194a2e6676c9e43575e26927ea2cb8db09f24f1f5ce0e01c4ec84", func := "taskmaster/taskmasterlaw19.PoliceAlone", spec := "policeAlone", unfollowed := true, recurses := true, apart := false, narrowed := true }
def PoliceAloneUptoSaid : Prop := policeAloneUptoRow.holds Try.pinned (OpenSpec.upto policeAloneSpec)

end Rows
end Go.Proofs.Ytggoflcphalnpaa
