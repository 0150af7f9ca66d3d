/- Of every set, states, ticks and numbers the law RuleRank returns true; no condition. -/
import Derived.Test.YtldnichgcmfboaaCon
import Derived.Test.YtldnichgcmfboaaRows
import Derived.WalkKit
import Derived.ProofKit
import Derived.OpenShut
import Derived.ShutString
import Derived.ChangeOld
import Derived.Below
namespace Go.Proofs.Ytldnichgcmfboaa.ruleRank
open Go.ChangeShapes Go.WideShapes Go.ChangeAt Go.RowKit
open Go.ChangeMaps (open_string shut_string)
open Go.Joins
open Go.Proofs.YtldnichgcmfboaaW.PrintWords Go.Proofs.YtldnichgcmfboaaW.PrintLast Go.Proofs.YtldnichgcmfboaaW.PrintMore
open Go.Proofs.Ytldnichgcmfboaa.PRuleTells

theorem own : ownKnob Try.prog.godebug = none := by kernel_rfl
theorem laidOut : laidOutB Try.prog = true := by kernel_rfl

/-! ### The walk -/
set_option maxHeartbeats 4000000 in
theorem walk (a0 : Int) (A0 : Option Addr) (c0 : Nat) (T0 : List S37) (A1 : Option Addr) (c1 : Nat) (L1 : List S33) (a2 a3 a4 : Int) (w : World) (s0 : Small T0) (w1 : In w A0 c0 T0 A1 c1 L1)
    (_w2 : (Lit.int .i64 a2).wf = true) (_w3 : (Lit.int .i64 a3).wf = true) (_w4 : (Lit.int .i64 a4).wf = true) :
    Calls Try.prog 5 #[.agg #[.int .i64 a0, .slice A0 T0.length c0], .slice A1 L1.length c1, .int .i64 a2, .int .i64 a3, .int .i64 a4] w fun e w' => e = .returned (.bool true) ∧ Below w.heap.size w w' := by
  obtain ⟨b, hmay, hb⟩ := c_may (A := A0) (c := c0) (B := A1) (d := c1) (L := L1) s0 a0 a3
  have HB := Lib.hid hb
  clear hb
  have P0 := At.start (a := a0) w1
  have hlt := P0.lt
  have r0 := P0.c0
  have q0 := P0.c1
  cases b with
  | false =>
    clear hmay
    go_enter Try.func5, Try.ntmps5
    go_wp2_with fail
    refine (HB.out _ P0.in_).mono ?_
    rintro e w2 ⟨rfl, b2⟩
    have P2 := P0.next b2
    go_wp2
    go_ret
    exact ⟨rfl, P2.b⟩
  | true =>
    obtain ⟨hn, h10⟩ := hmay rfl
    have HN := Lib.hid hn
    clear hmay
    by_cases i0 : a4 < 0
    · clear hn
      go_enter Try.func5, Try.ntmps5
      go_wp2_with fail
      refine (HB.out _ P0.in_).mono ?_
      rintro e w2 ⟨rfl, b2⟩
      have P2 := P0.next b2
      have r2 := P2.c0
      have q2 := P2.c1
      clear r0 q0 P0 b2
      go_wp2
      go_ret
      exact ⟨rfl, P2.b⟩
    by_cases i1 : (L1.length : Int) ≤ a4
    · clear hn
      go_enter Try.func5, Try.ntmps5
      go_wp2_with fail
      refine (HB.out _ P0.in_).mono ?_
      rintro e w2 ⟨rfl, b2⟩
      have P2 := P0.next b2
      have r2 := P2.c0
      have q2 := P2.c1
      clear r0 q0 P0 b2
      go_wp2
      go_ret
      exact ⟨rfl, P2.b⟩
    have j0 : 0 ≤ a4 := by omega
    have j1 : a4 < (L1.length : Int) := by omega
    clear i0 i1
    have hrd := pend_rd j0 j1
    cases hp : pend L1 a4 with
    | false =>
      rw [hp] at hrd
      have HR := Lib.hid hrd
      clear hrd hp hn
      go_enter Try.func5, Try.ntmps5
      go_wp2_with fail
      refine (HB.out _ P0.in_).mono ?_
      rintro e w2 ⟨rfl, b2⟩
      have P2 := P0.next b2
      have r2 := P2.c0
      have q2 := P2.c1
      clear r0 q0 P0 b2
      obtain ⟨ad, rfl, k0, k1, k2, k3⟩ := at_T33 P2.in_.l a4 j0 j1
      rw [HR.out] at k0
      clear k1 k2 k3
      go_wp2
      go_ret
      exact ⟨rfl, P2.b⟩
    | true =>
      rw [hp] at hrd
      have HR := Lib.hid hrd
      clear hrd
      cases hh : held T0 L1 a2 a3 with
      | true =>
        obtain ⟨hpa, _⟩ := held_pend hh
        obtain ⟨m0, m1⟩ := pend_in hpa
        have hc : choose T0 L1 a2 a3 = a2 := by simp [choose, hh]
        have HH := Lib.hid hh
        have HC := Lib.hid hc
        clear hh hc hpa hp hn
        go_enter Try.func5, Try.ntmps5
        go_wp2_with fail
        refine (HB.out _ P0.in_).mono ?_
        rintro e w2 ⟨rfl, b2⟩
        have P2 := P0.next b2
        have r2 := P2.c0
        have q2 := P2.c1
        clear r0 q0 P0 b2
        obtain ⟨ad, rfl, k0, k1, k2, k3⟩ := at_T33 P2.in_.l a4 j0 j1
        rw [HR.out] at k0
        clear k1 k2 k3
        go_wp2_with fail
        refine (c_choose P2.in_ HN.out h10 a0 a2 a3).mono ?_
        rintro e w3 ⟨rfl, b3⟩
        rw [HC.out]
        have P3 := P2.next b3
        have r3 := P3.c0
        have q3 := P3.c1
        clear r2 q2 P2 b3
        go_wp2_with fail
        refine (c_rheld P3.in_ HN.out h10 a0 a2 a3).mono ?_
        rintro e w4 ⟨rfl, b4⟩
        rw [HH.out]
        have P4 := P3.next b4
        have r4 := P4.c0
        have q4 := P4.c1
        clear r3 q3 P3 b4
        go_wp2_with fail
        refine (c_known w4).mono ?_
        rintro e w5 ⟨rfl, b5⟩
        have P5 := P4.next b5
        have r5 := P5.c0
        have q5 := P5.c1
        clear r4 q4 P4 b5
        go_wp2
        go_ret
        exact ⟨rfl, P5.b⟩
      | false =>
        have hc : choose T0 L1 a2 a3 = best T0 L1 L1.length := by simp [choose, hh]
        obtain ⟨hpb, hrk⟩ : pend L1 (best T0 L1 L1.length) = true ∧ rank T0 L1 (best T0 L1 L1.length) ≤ rank T0 L1 a4 := by
          rcases best_spec T0 L1 L1.length (Nat.le_refl _) with ⟨_, h⟩ | ⟨h1, h2⟩
          · have := h a4.toNat (by omega)
            rw [show ((a4.toNat : Nat) : Int) = a4 from by omega, hp] at this
            cases this
          · have := h2 a4.toNat (by omega)
            rw [show ((a4.toNat : Nat) : Int) = a4 from by omega] at this
            exact ⟨h1, this hp⟩
        obtain ⟨m0, m1⟩ := pend_in hpb
        obtain ⟨bb, hbb⟩ : ∃ bb, best T0 L1 L1.length = bb := ⟨_, rfl⟩
        rw [hbb] at hc hpb hrk m0 m1
        have HH := Lib.hid hh
        have HC := Lib.hid hc
        have tok1 : True := trivial
        clear hh hc hpb hp hbb hn
        by_cases he : bb = a2
        · subst he
          go_enter Try.func5, Try.ntmps5
          go_wp2_with fail
          refine (HB.out _ P0.in_).mono ?_
          rintro e w2 ⟨rfl, b2⟩
          have P2 := P0.next b2
          have r2 := P2.c0
          have q2 := P2.c1
          clear r0 q0 P0 b2
          obtain ⟨ad, rfl, k0, k1, k2, k3⟩ := at_T33 P2.in_.l a4 j0 j1
          rw [HR.out] at k0
          clear k1 k2 k3
          go_wp2_with fail
          refine (c_choose P2.in_ HN.out h10 a0 bb a3).mono ?_
          rintro e w3 ⟨rfl, b3⟩
          rw [HC.out]
          have P3 := P2.next b3
          have r3 := P3.c0
          have q3 := P3.c1
          clear r2 q2 P2 b3
          go_wp2_with fail
          refine (c_rheld P3.in_ HN.out h10 a0 bb a3).mono ?_
          rintro e w4 ⟨rfl, b4⟩
          rw [HH.out]
          have P4 := P3.next b4
          have r4 := P4.c0
          have q4 := P4.c1
          clear r3 q3 P3 b4
          go_wp2_with fail
          go_region_held3 (fun w' => w'.cell? ⟨w.heap.size, 0, none⟩ = some (.int .i64 a0) ∧ w'.cell? ⟨w.heap.size, 1, none⟩ = some (.slice A0 T0.length c0)) (go_keep) (first
            | (go_at_call 11
               have _t := tok1
               refine (c_rrank P4.drew.in_ HN.out a0 bb).mono ?_
               rintro e w5 ⟨rfl, b5⟩
               have P5 := P4.drew.next b5
               have r5 := P5.c0
               have q5 := P5.c1
               clear tok1)
            | (go_at_call 11
               refine (c_rrank P5.in_ HN.out a0 a4).mono ?_
               rintro e w6 ⟨rfl, b6⟩
               have P6 := P5.next b6
               have r6 := P6.c0
               have q6 := P6.c1)
            | (go_at_call 16
               refine (c_known _).mono ?_
               rintro e w7 ⟨rfl, b7⟩
               have P7 := P6.next b7
               have r7 := P7.c0
               have q7 := P7.c1))
          go_wp2
          go_ret
          exact ⟨rfl, P7.b⟩
        · have he' : (bb == a2) = false := by simpa using he
          go_enter Try.func5, Try.ntmps5
          go_wp2_with fail
          refine (HB.out _ P0.in_).mono ?_
          rintro e w2 ⟨rfl, b2⟩
          have P2 := P0.next b2
          have r2 := P2.c0
          have q2 := P2.c1
          clear r0 q0 P0 b2
          obtain ⟨ad, rfl, k0, k1, k2, k3⟩ := at_T33 P2.in_.l a4 j0 j1
          rw [HR.out] at k0
          clear k1 k2 k3
          go_wp2_with fail
          refine (c_choose P2.in_ HN.out h10 a0 a2 a3).mono ?_
          rintro e w3 ⟨rfl, b3⟩
          rw [HC.out]
          have P3 := P2.next b3
          have r3 := P3.c0
          have q3 := P3.c1
          clear r2 q2 P2 b3
          go_wp2_with fail
          go_region_held3 (fun w' => w'.cell? ⟨w.heap.size, 0, none⟩ = some (.int .i64 a0) ∧ w'.cell? ⟨w.heap.size, 1, none⟩ = some (.slice A0 T0.length c0)) (go_keep) (first
            | (go_at_call 11
               have _t := tok1
               refine (c_rrank P3.drew.in_ HN.out a0 bb).mono ?_
               rintro e w4 ⟨rfl, b4⟩
               have P4 := P3.drew.next b4
               have r4 := P4.c0
               have q4 := P4.c1
               clear tok1)
            | (go_at_call 11
               refine (c_rrank P4.in_ HN.out a0 a4).mono ?_
               rintro e w5 ⟨rfl, b5⟩
               have P5 := P4.next b5
               have r5 := P5.c0
               have q5 := P5.c1)
            | (go_at_call 16
               refine (c_known _).mono ?_
               rintro e w6 ⟨rfl, b6⟩
               have P6 := P5.next b6
               have r6 := P6.c0
               have q6 := P6.c1))
          go_wp2
          go_ret
          exact ⟨rfl, P6.b⟩

/-! ### The row's step -/
set_option linter.unusedVariables false in
set_option maxRecDepth 100000 in
theorem lifted (os : Os) (started : os.Started) (H : Type) (enc : TypeId × Value → H) :
    ReturnsInHanded {} Try.checked os 5 .any (Rows.ruleRankSpec.pre6 enc Try.prog Try.f5 Rows.ruleRankRow.domain false) (Rows.ruleRankSpec.post enc Try.prog Try.f5 false true false false) := by
  refine returnsInHanded_of_change (C := Try.checked) own started (by kernel_rfl) Try.func5
    (ChangeSpec.witness6 (enc := enc) (C := Try.checked) false ⟨#[], #[.agg #[.int .i64 0, .slice none 0 0], .slice none 0 0, .int .i64 0, .int .i64 0, .int .i64 0], []⟩ 8 (by kernel_rfl) (by kernel_rfl) (by kernel_rfl) (by kernel_rfl)) ?_
  intro W base args ds gs before hval0 hW hcnd _
  have hval : ∀ (j : Nat) t v, Try.f5.params[j]? = some t → args[j]? = some v → Value.okWide Try.prog W .any base t v := hval0
  have hW' := hW
  obtain ⟨p, q, hA0, hV, rfl, hfz, hnd⟩ := hW
  have hA : DataW.TrodAll enc Try.prog W 0 (fun _ => true) true Try.f5.params.toList args.toList ds p := hA0
  rw [Try.params5] at hA hval
  obtain ⟨v0, vs0, d0, ds0, p0, q0, hargs, rfl, rfl, h0, r0⟩ := trodAll_cons hA
  obtain ⟨v1, vs1, d1, ds1, p1, q1, rfl, rfl, rfl, h1, r1⟩ := trodAll_cons r0
  obtain ⟨v2, vs2, d2, ds2, p2, q2, rfl, rfl, rfl, h2, r2⟩ := trodAll_cons r1
  obtain ⟨v3, vs3, d3, ds3, p3, q3, rfl, rfl, rfl, h3, r3⟩ := trodAll_cons r2
  obtain ⟨v4, vs4, d4, ds4, p4, q4, rfl, rfl, rfl, h4, r4⟩ := trodAll_cons r3
  obtain ⟨rfl, rfl, rfl⟩ := trodAll_nil r4
  obtain rfl : args = #[v0, v1, v2, v3, v4] := by cases args; simp_all
  obtain ⟨rfl, rfl⟩ := trodVars_none hV
  have k0 := h0
  have lt0 : ∀ x ∈ p0, x.block < W.heap.size := by obtain ⟨m, hm⟩ := k0; exact DataW.trod_lt m _ _ _ hm
  obtain ⟨u0, u1, y0, y1, m0, rfl, rfl, rfl, hy0, hy1⟩ := open_agg2 Try.underlying24 (by kernel_rfl) (by kernel_rfl) (hval 0 24 v0 rfl rfl) h0
  obtain ⟨a0, e0, _, _⟩ := DataW.trod_int Try.underlying2 hy0
  simp at e0
  subst e0
  obtain ⟨A0, n0, c0, rfl⟩ := form22 hy1
  obtain ⟨T0, hn0, hc0, hC0, s0⟩ := open_tasks hy1
  subst hn0
  have k1 := h1
  have lt1 : ∀ x ∈ p1, x.block < W.heap.size := by obtain ⟨m, hm⟩ := k1; exact DataW.trod_lt m _ _ _ hm
  obtain ⟨A1, n1, c1, rfl⟩ := okWide_slice Try.underlying25 (hval 1 25 v1 rfl rfl)
  obtain ⟨L1, hn1, hc1, hC1⟩ : ∃ L : List S33, L.length = n1 ∧ n1 ≤ c1 ∧ Kd.C k33 W A1 n1 L := by
    obtain ⟨fuel, hf⟩ := h1
    exact open_states (by simpa [Value.cells] using hf)
  subst hn1
  have w1 : In W A0 c0 T0 A1 c1 L1 := ⟨hC0, hc0, hC1, hc1⟩
  obtain ⟨a2, rfl, rfl, rfl, w2⟩ := open_int Try.underlying3 (hval 2 3 v2 rfl rfl) h2
  obtain ⟨a3, rfl, rfl, rfl, w3⟩ := open_int Try.underlying2 (hval 3 2 v3 rfl rfl) h3
  obtain ⟨a4, rfl, rfl, rfl, w4⟩ := open_int Try.underlying3 (hval 4 3 v4 rfl rfl) h4
  clear hA0 hval0
  refine (walk a0 A0 c0 T0 A1 c1 L1 a2 a3 a4 W s0 w1 w2 w3 w4).mono fun e W' ⟨he, bel⟩ => ?_
  subst he
  exact ⟨_, rfl, _, _, _, [], _, [], hW', trodAll_mk1 (shut_bool Try.underlying4 _), (trodAll_cons_mk (Below.trod laidOut (by kernel_rfl) (of_decide_eq_true (by kernel_rfl)) k0 bel lt0) (trodAll_cons_mk (Below.trod laidOut (by kernel_rfl) (of_decide_eq_true (by kernel_rfl)) k1 bel lt1) (trodAll_cons_mk (shut_int Try.underlying3 w2) (trodAll_cons_mk (shut_int Try.underlying2 w3) (trodAll_cons_mk (shut_int Try.underlying3 w4) trodAll_mk0))))), rfl, bel.frame _, fun h => by cases h⟩

theorem over : Rows.ruleRankRow.holds Try.pinned (OpenSpec.ofChange Rows.ruleRankSpec) :=
  OpenClaim.holds_of_wide 5 Try.f5 rfl rfl rfl rfl rfl rfl rfl ⟨rfl, rfl, rfl, rfl, rfl⟩ rfl rfl rfl rfl rfl (by kernel_rfl) Try.func5 (by kernel_rfl)
    (of_decide_eq_true (by kernel_rfl)) (by unfold Func.isWrapper; first | (rw [if_pos (by decide +kernel)]; kernel_rfl) | (rw [if_neg (by decide +kernel)]; exact ⟨rfl, rfl⟩))
    (fun os started H enc _ => lifted os started H enc)

/-- The statement. -/
theorem proved : Rows.RuleRankSaid := over
end Go.Proofs.Ytldnichgcmfboaa.ruleRank
