/- Of every number of tasks and every tick the law TableOwn returns true; no condition. -/
import Derived.Test.YtmbbfakdcfhahaaAll
import Derived.Test.YtmbbfakdcfhahaaRows
import Derived.WalkKit
import Derived.ProofKit
import Derived.OpenShut
import Derived.ShutString
import Derived.ChangeOld
import Derived.Below
namespace Go.Proofs.Ytmbbfakdcfhahaa.tableOwn
open Go.ChangeShapes Go.WideShapes Go.ChangeAt Go.RowKit
open Go.ChangeMaps (open_string shut_string)

theorem own : ownKnob Try.prog.godebug = none := by kernel_rfl
theorem laidOut : laidOutB Try.prog = true := by kernel_rfl

/-! ### The walk -/
set_option maxHeartbeats 1000000 in
theorem walk (a0 : Int) (a1 : Int) (w : World) (_w0 : (Lit.int .i64 a0).wf = true) (_w1 : (Lit.int .i64 a1).wf = true) :
    Calls Try.prog 5 #[.int .i64 a0, .int .i64 a1] w fun e w' => e = .returned (.bool true) ∧ Below w.heap.size w w' := by
  by_cases h1 : a0 < 1
  · go_enter Try.func5, Try.ntmps5
    go_wp2
    go_ret
    exact ⟨rfl, Below.refl _ _⟩
  · by_cases h8 : 8 < a0
    · go_enter Try.func5, Try.ntmps5
      go_wp2
      go_ret
      exact ⟨rfl, Below.refl _ _⟩
    · obtain ⟨n, rfl⟩ := Int.eq_ofNat_of_zero_le (show 0 ≤ a0 by omega)
      have l1 : 1 ≤ n := by omega
      have l8 : n ≤ 8 := by omega
      clear h1 h8
      have hz : zeros n = ⟨false, false, false, 0⟩ :: zeros (n - 1) := by
        unfold zeros
        rw [← List.replicate_succ, show n - 1 + 1 = n from by omega]
      have hfd : ∀ (W : World) (p q r : Bool) (t : Int), (Instr.field 44 (.agg #[.bool p, .bool q, .bool r, .int .i64 t]) 0).run Try.prog W = .ok (.bool p) W := fun _ _ _ _ _ => by kernel_rfl
      have hp : putOk (zeros n) 0 = true := by rw [hz]; simp [putOk, hasL, zeros]
      have hq : putL (zeros n) 0 a1 = ⟨true, false, false, a1⟩ :: zeros (n - 1) := by
        unfold putL; rw [if_pos hp, hz]; rfl
      have hl : (St.mk true false false a1 :: zeros (n - 1)).length = n := by simp [zeros]; omega
      have hs : stateL (⟨true, false, false, a1⟩ :: zeros (n - 1)) 0 = ⟨true, false, false, a1⟩ := by simp [stateL, hasL, getL]
      have HP := Lib.hid hp
      have HQ := Lib.hid hq
      have HL := Lib.hid hl
      have HS := Lib.hid hs
      clear hz hp hq hl hs
      go_enter Try.func5, Try.ntmps5
      go_wp2_with fail
      refine (tnew_yes n l1 l8 w).mono ?_
      rintro e w1 ⟨rfl, h1, b1⟩
      go_wp2_with fail
      refine (tput_any (w.heap.size + 1) w.heap.size _ 0 a1 w1 h1).mono ?_
      rintro e w2 ⟨rfl, h2, g2⟩
      rw [HP.out]
      rw [HQ.out] at h2
      have k2 := b1.grown g2 b1.size (fun k e => by injection e with e; omega)
      clear h1 b1 g2
      go_wp2_with fail
      refine (tall_any (w.heap.size + 1) w.heap.size _ w2 h2 (by rw [HL.out]; exact l8)).mono ?_
      rintro e w3 ⟨v, rfl, hown, b3⟩
      rw [HL.out] at hown
      have hv := hown
      obtain ⟨gv, cv, cur, rfl, hgv, hcur, hnc, hcm, hsz, htk⟩ : ∃ g cap cur, v = .slice (some ⟨g, 0, none⟩) n cap ∧ w2.heap.size ≤ g ∧ w3.heap[g]? = some (.cells cur 44 (0, 0)) ∧ n ≤ cap ∧ cap ≤ maxLen ∧ cur.size = cap * 4 ∧ cur.toList.take (n * 4) = (St.mk true false false a1 :: zeros (n - 1)).flatMap St.cells := by
        rcases hown.2 with ⟨_, h⟩ | h
        · omega
        · exact h
      clear hown hv
      have hB : Blk w3 gv 44 cur := hcur
      have c0 : w3.cell? ⟨gv, 0, none⟩ = some (cur[0]'(by omega)) := by rw [hB.cell]; exact Array.getElem?_eq_getElem (by omega)
      have c1 : w3.cell? ⟨gv, 1, none⟩ = some (cur[1]'(by omega)) := by rw [hB.cell]; exact Array.getElem?_eq_getElem (by omega)
      have c2 : w3.cell? ⟨gv, 2, none⟩ = some (cur[2]'(by omega)) := by rw [hB.cell]; exact Array.getElem?_eq_getElem (by omega)
      have c3 : w3.cell? ⟨gv, 3, none⟩ = some (cur[3]'(by omega)) := by rw [hB.cell]; exact Array.getElem?_eq_getElem (by omega)
      have f0 := hB.frozen 0
      have f1 := hB.frozen 1
      have f2 := hB.frozen 2
      have f3 := hB.frozen 3
      have hg2 : w.heap.size + 1 < w2.heap.size := h2.hd.lt
      have ha2 : w.heap.size < w2.heap.size := h2.row.lt
      have h3 : Tab w3 48 (w.heap.size + 1) w.heap.size (St.mk true false false a1 :: zeros (n - 1)) := ⟨h2.hd.below b3 hg2, h2.row.below b3 ha2⟩
      have k3 : Below w.heap.size w w3 := k2.trans (b3.mono k2.size)
      have q0 : Blk (setSt w3 gv 0 ⟨false, false, false, 0⟩) gv 44 (((((cur.setIfInBounds 0 (.bool false)).setIfInBounds 1 (.bool false)).setIfInBounds 2 (.bool false)).setIfInBounds 3 (.int .i64 0))) := by
        have := (((hB.set_ 0 (.bool false)).set_ 1 (.bool false)).set_ 2 (.bool false)).set_ 3 (.int .i64 0)
        simpa [setSt] using this
      have gs := grown_setSt w3 gv 0 ⟨false, false, false, 0⟩
      have h4 : Tab (setSt w3 gv 0 ⟨false, false, false, 0⟩) 48 (w.heap.size + 1) w.heap.size (St.mk true false false a1 :: zeros (n - 1)) := h3.keep gs (by simp; omega) (by simp; omega)
      have k4 : Below w.heap.size w (setSt w3 gv 0 ⟨false, false, false, 0⟩) := k3.grown gs k3.size (fun k e => by injection e with e; omega)
      obtain ⟨w4, hw4⟩ : ∃ w4, setSt w3 gv 0 ⟨false, false, false, 0⟩ = w4 := ⟨_, rfl⟩
      rw [hw4] at h4 k4
      have Hw4 := Lib.hid hw4
      clear hw4 gs q0 h3 k3 b3 k2 h2 hcur htk
      go_wp2_with fail
      refine (toldest_nil 9 _).mono ?_
      rintro e w5 ⟨rfl, hw5⟩
      obtain rfl : w5 = w4 := hw5.symm.trans Hw4.out
      clear hw5 Hw4
      go_wp2_with fail
      refine (tstate_any (w.heap.size + 1) w.heap.size _ 0 w5 h4).mono ?_
      rintro e w6 ⟨rfl, g6⟩
      rw [HS.out]
      unfold St.val
      have k6 := k4.grown g6 k4.size (fun k e => by cases e)
      go_wp2_with fail
      refine (tput_nil 0 0 w6).mono ?_
      rintro e w7 ⟨rfl, rfl⟩
      go_wp2_with fail
      refine (tbegin_nil 0 w6).mono ?_
      rintro e w7 ⟨rfl, rfl⟩
      go_wp2_with fail
      refine (tmid_nil 0 true w6).mono ?_
      rintro e w7 ⟨rfl, rfl⟩
      go_wp2_with fail
      refine (tdrop_nil 0 w6).mono ?_
      rintro e w7 ⟨rfl, rfl⟩
      go_wp2_with fail
      refine (tstate_nil 0 w6).mono ?_
      rintro e w7 ⟨rfl, g7⟩
      unfold St.val
      have k7 := k6.grown g7 k6.size (fun k e => by cases e)
      go_wp2_with fail
      refine (tall_nil w7).mono ?_
      rintro e w8 ⟨rfl, rfl⟩
      go_wp2_with fail
      refine (known_any w7).mono ?_
      rintro e w9 ⟨rfl, b9⟩
      go_wp2
      go_ret
      exact ⟨rfl, k7.trans (b9.mono k7.size)⟩

/-! ### The row's step -/
set_option linter.unusedVariables false in
set_option maxRecDepth 100000 in
theorem lifted (os : Os) (started : os.Started) (H : Type) (enc : TypeId × Value → H) :
    ReturnsInHanded {} Try.checked os 5 .any (Rows.tableOwnSpec.pre6 enc Try.prog Try.f5 Rows.tableOwnRow.domain false) (Rows.tableOwnSpec.post enc Try.prog Try.f5 false true false false) := by
  refine returnsInHanded_of_change (C := Try.checked) own started (by kernel_rfl) Try.func5
    (ChangeSpec.witness6 (enc := enc) (C := Try.checked) false ⟨#[], #[.int .i64 0, .int .i64 0], []⟩ 8 (by kernel_rfl) (by kernel_rfl) (by kernel_rfl) (by kernel_rfl)) ?_
  intro W base args ds gs before hval0 hW hcnd _
  have hval : ∀ (j : Nat) t v, Try.f5.params[j]? = some t → args[j]? = some v → Value.okWide Try.prog W .any base t v := hval0
  have hW' := hW
  obtain ⟨p, q, hA0, hV, rfl, hfz, hnd⟩ := hW
  have hA : DataW.TrodAll enc Try.prog W 0 (fun _ => true) true Try.f5.params.toList args.toList ds p := hA0
  rw [Try.params5] at hA hval
  obtain ⟨v0, vs0, d0, ds0, p0, q0, hargs, rfl, rfl, h0, r0⟩ := trodAll_cons hA
  obtain ⟨v1, vs1, d1, ds1, p1, q1, rfl, rfl, rfl, h1, r1⟩ := trodAll_cons r0
  obtain ⟨rfl, rfl, rfl⟩ := trodAll_nil r1
  obtain rfl : args = #[v0, v1] := by cases args; simp_all
  obtain ⟨rfl, rfl⟩ := trodVars_none hV
  obtain ⟨a0, rfl, rfl, rfl, w0⟩ := open_int Try.underlying3 (hval 0 3 v0 rfl rfl) h0
  obtain ⟨a1, rfl, rfl, rfl, w1⟩ := open_int Try.underlying2 (hval 1 2 v1 rfl rfl) h1
  clear hA0 hval0
  refine (walk a0 a1 W w0 w1).mono fun e W' ⟨he, bel⟩ => ?_
  subst he
  exact ⟨_, rfl, _, _, _, [], _, [], hW', trodAll_mk1 (shut_bool Try.underlying4 _), (trodAll_cons_mk (shut_int Try.underlying3 w0) (trodAll_cons_mk (shut_int Try.underlying2 w1) trodAll_mk0)), rfl, bel.frame _, fun h => by cases h⟩

theorem over : Rows.tableOwnRow.holds Try.pinned (OpenSpec.ofChange Rows.tableOwnSpec) :=
  OpenClaim.holds_of_wide 5 Try.f5 rfl rfl rfl rfl rfl rfl rfl ⟨rfl, rfl, rfl, rfl, rfl⟩ rfl rfl rfl rfl rfl (by kernel_rfl) Try.func5 (by kernel_rfl)
    (of_decide_eq_true (by kernel_rfl)) (by unfold Func.isWrapper; first | (rw [if_pos (by decide +kernel)]; kernel_rfl) | (rw [if_neg (by decide +kernel)]; exact ⟨rfl, rfl⟩))
    (fun os started H enc _ => lifted os started H enc)

/-- The statement. -/
theorem proved : Rows.TableOwnSaid := over
end Go.Proofs.Ytmbbfakdcfhahaa.tableOwn
