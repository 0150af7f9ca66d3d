/- What the statements' closed part comes to: a Table of two tasks, asked by hand; and a copy of all states. -/
import Derived.Test.YtmbbfakdcfhahaaOld
namespace Go.Proofs.Ytmbbfakdcfhahaa
open Go.RowKit

theorem tnew_two (w : World) :
    Calls Try.prog 6 #[.int .i64 2] w fun e w' => e = .returned (.pointer (some ⟨w.heap.size + 1, 0, none⟩)) ∧ Tab w' 48 (w.heap.size + 1) w.heap.size (zeros 2) ∧ Below w.heap.size w w' :=
  tnew_yes 2 (by omega) (by omega) w

theorem known_any (w : World) : Calls Try.prog 9 #[] w fun e w' => e = .returned (.bool true) ∧ Below w.heap.size w w' := by
  go_enter Try.func9, Try.ntmps9
  go_wp2_with fail
  refine (tnew_two w).mono ?_
  rintro e w1 ⟨rfl, h1, b1⟩
  go_wp2_with fail
  refine (tput_any (w.heap.size + 1) w.heap.size (zeros 2) 1 7 w1 h1).mono ?_
  rintro e w2 ⟨rfl, h2, g2⟩
  rw [show putOk (zeros 2) 1 = true from by decide]
  go_wp2_with fail
  refine (tput_any (w.heap.size + 1) w.heap.size _ 1 8 w2 h2).mono ?_
  rintro e w3 ⟨rfl, h3, g3⟩
  rw [show putOk (putL (zeros 2) 1 7) 1 = false from by decide]
  rw [show putL (putL (zeros 2) 1 7) 1 8 = putL (zeros 2) 1 7 from by decide] at h3
  go_wp2_with fail
  refine (toldest_any (w.heap.size + 1) w.heap.size _ 2 w3 h3 (by decide) (by decide)).mono ?_
  rintro e w4 ⟨rfl, g4⟩
  rw [show oldL ((putL (zeros 2) 1 7).take (2 : Int).toNat) = (7, true) from by decide]
  have h4 := h3.keep g4 (by simp) (by simp)
  go_wp2_with fail
  refine (toldest_any (w.heap.size + 1) w.heap.size _ 1 w4 h4 (by decide) (by decide)).mono ?_
  rintro e w5 ⟨rfl, g5⟩
  rw [show oldL ((putL (zeros 2) 1 7).take (1 : Int).toNat) = (0, false) from by decide]
  have h5 := h4.keep g5 (by simp) (by simp)
  go_wp2_with fail
  refine (tstate_any (w.heap.size + 1) w.heap.size _ 1 w5 h5).mono ?_
  rintro e w6 ⟨rfl, g6⟩
  rw [show stateL (putL (zeros 2) 1 7) 1 = ⟨true, false, false, 7⟩ from by decide]
  unfold St.val
  go_wp2
  go_ret
  refine ⟨rfl, ?_⟩
  have B0 : w.heap.size ≤ w.heap.size := Nat.le_refl _
  have k2 := b1.grown g2 b1.size (fun k e => by injection e with e; omega)
  have k3 := k2.grown g3 k2.size (fun k e => by injection e with e; omega)
  have k4 := k3.grown g4 k3.size (fun k e => by cases e)
  have k5 := k4.grown g5 k4.size (fun k e => by cases e)
  exact k5.grown g6 k5.size (fun k e => by cases e)

end Go.Proofs.Ytmbbfakdcfhahaa
