/- Joined texts: Laid. -/
import Derived.Test.YtdgfjpbjiccllaaGreatDoorRows
import Derived.Test.YtdgfjpbjiccllaaGreatDoorTopAgain09
import Derived.ProofKit
import Derived.LaidMore
import Derived.LaidSub
import Derived.OpenShut
import Derived.Stop.Joined
import Derived.Lib.LaidTab
import Derived.Lib.Space
namespace Go.Proofs.YtdgfjpbjiccllaaGreatDoor
open Go.ChangeShapes Go.WideShapes Go.ChangeAt Go.RowKit
theorem ownT : ownKnob Tryz.prog.godebug = none := by kernel_rfl
theorem laidOutT : laidOutB Tryz.prog = true := by kernel_rfl
def laid5 : List (String × DataW Unit) := Rows.topAloneRow.laid
theorem door_met (os : Os) (args : Array Value) : laidMetH Tryz.prog laid5 ((World.doorLaid Tryz.prog 48 os).forCall (fun _ _ => 0) ⟨#[], args, []⟩).memory :=
 laidMetH_of_parts3 (fuel := 8) (laidMet_of_run' 8 (by kernel_rfl) (by kernel_rfl)) (by kernel_rfl) (by kernel_rfl)
theorem plain5 : (laid5.all fun x => x.2.handleName?.isNone) = true := by kernel_rfl
theorem ascii_of {W : World} (h : laidMetH Tryz.prog laid5 W) : Lib.TabIs Tryz.prog W "strings.asciiSpace" .u8 Lib.asciiSpaceTab := by
 rw [MakeChecks.laidMetH_plain _ _ _ plain5] at h
 have h2 := h.filter (fun x => x.1 == "strings.asciiSpace")
 have e : laid5.filter (fun x => x.1 == "strings.asciiSpace") = [("strings.asciiSpace", Lib.tabData .u8 Lib.asciiSpaceTab)] := by kernel_rfl
 rw [e] at h2
 exact Lib.tabIs_of_head (g := 2) (t := 240) (e := 5) (n := 256) (by kernel_rfl) (by kernel_rfl) (by kernel_rfl) (by kernel_rfl) (by kernel_rfl) (by kernel_rfl) h2
theorem deB_of {W : World} (h : laidMetH Tryz.prog laid5 W) : DeB W := by
 rw [MakeChecks.laidMetH_plain _ _ _ plain5] at h
 have h2 := h.filter (fun x => x.1 == "math/bits.deBruijn64tab")
 have e : laid5.filter (fun x => x.1 == "math/bits.deBruijn64tab") = [("math/bits.deBruijn64tab", Lib.tabData .u8 (Lib.deBruijn64tab.map fun (n : Nat) => (n : Int)))] := by kernel_rfl
 rw [e] at h2
 have h3 := Lib.tabIs_of_head (g := 0) (t := 208) (e := 5) (n := 64) (by kernel_rfl) (by kernel_rfl) (by kernel_rfl) (by kernel_rfl) (by kernel_rfl) (by kernel_rfl) h2
 intro j hj
 have h4 := Lib.TabIs.cell h3 (g := 0) (by kernel_rfl) j (by simpa using hj)
 rw [h4]
 simp [List.getD_eq_getElem?_getD, hj]
end Go.Proofs.YtdgfjpbjiccllaaGreatDoor
