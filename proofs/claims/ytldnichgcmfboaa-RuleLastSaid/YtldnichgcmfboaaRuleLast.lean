/- Of every set, states and ticks the law RuleLast returns true; no condition. -/
import Derived.Test.YtldnichgcmfboaaCon
import Derived.Test.YtldnichgcmfboaaRows
import Derived.WalkKit
import Derived.ProofKit
import Derived.OpenShut
import Derived.ShutString
import Derived.ChangeOld
import Derived.Below
namespace Go.Proofs.Ytldnichgcmfboaa.ruleLast
open Go.ChangeShapes Go.WideShapes Go.ChangeAt Go.RowKit
open Go.ChangeMaps (open_string shut_string)
open Go.Joins
open Go.Proofs.YtldnichgcmfboaaW.PrintWords Go.Proofs.YtldnichgcmfboaaW.PrintLast Go.Proofs.YtldnichgcmfboaaW.PrintMore
open Go.Proofs.Ytldnichgcmfboaa.PRuleTells

theorem own : ownKnob Try.prog.godebug = none := by kernel_rfl
theorem laidOut : laidOutB Try.prog = true := by kernel_rfl

/-! ### The walk -/
set_option maxHeartbeats 4000000 in
theorem walk (a0 : Int) (A0 : Option Addr) (c0 : Nat) (T0 : List S37) (A1 : Option Addr) (c1 : Nat) (L1 : List S33) (a2 a3 a4 : Int) (w : World) (s0 : Small T0) (w1 : In w A0 c0 T0 A1 c1 L1)
    (_w2 : (Lit.int .i64 a2).wf = true) (_w3 : (Lit.int .i64 a3).wf = true) (_w4 : (Lit.int .i64 a4).wf = true) :
    Calls Try.prog 8 #[.agg #[.int .i64 a0, .slice A0 T0.length c0], .slice A1 L1.length c1, .int .i64 a2, .int .i64 a3, .int .i64 a4] w fun e w' => e = .returned (.bool true) ∧ Below w.heap.size w w' := by
  obtain ⟨b, hmay, hb⟩ := c_may (A := A0) (c := c0) (B := A1) (d := c1) (L := L1) s0 a0 a4
  have HB := Lib.hid hb
  clear hb
  have P0 := At.start (a := a0) w1
  have hlt := P0.lt
  have r0 := P0.c0
  have q0 := P0.c1
  cases b with
  | false =>
    clear hmay
    go_enter Try.func8, Try.ntmps8
    go_wp2_with fail
    refine (HB.out _ P0.in_).mono ?_
    rintro e w2 ⟨rfl, b2⟩
    have P2 := P0.next b2
    go_wp2
    go_ret
    exact ⟨rfl, P2.b⟩
  | true =>
    obtain ⟨hn, h10⟩ := hmay rfl
    have HN := Lib.hid hn
    clear hmay
    cases hh : held T0 L1 a2 a4 with
    | true =>
      have HH := Lib.hid hh
      clear hh hn
      go_enter Try.func8, Try.ntmps8
      go_wp2_with fail
      refine (HB.out _ P0.in_).mono ?_
      rintro e w2 ⟨rfl, b2⟩
      have P2 := P0.next b2
      have r2 := P2.c0
      have q2 := P2.c1
      clear r0 q0 P0 b2
      go_wp2_with fail
      refine (c_rheld P2.in_ HN.out h10 a0 a2 a4).mono ?_
      rintro e w3 ⟨rfl, b3⟩
      rw [HH.out]
      have P3 := P2.next b3
      have r3 := P3.c0
      have q3 := P3.c1
      clear r2 q2 P2 b3
      go_wp2
      go_ret
      exact ⟨rfl, P3.b⟩
    | false =>
      cases hg : held T0 L1 a3 a4 with
      | true =>
        have HH := Lib.hid hh
        have HG := Lib.hid hg
        clear hh hg hn
        go_enter Try.func8, Try.ntmps8
        go_wp2_with fail
        refine (HB.out _ P0.in_).mono ?_
        rintro e w2 ⟨rfl, b2⟩
        have P2 := P0.next b2
        have r2 := P2.c0
        have q2 := P2.c1
        clear r0 q0 P0 b2
        go_wp2_with fail
        refine (c_rheld P2.in_ HN.out h10 a0 a2 a4).mono ?_
        rintro e w3 ⟨rfl, b3⟩
        rw [HH.out]
        have P3 := P2.next b3
        have r3 := P3.c0
        have q3 := P3.c1
        clear r2 q2 P2 b3
        go_wp2_with fail
        refine (c_rheld P3.in_ HN.out h10 a0 a3 a4).mono ?_
        rintro e w4 ⟨rfl, b4⟩
        rw [HG.out]
        have P4 := P3.next b4
        have r4 := P4.c0
        have q4 := P4.c1
        clear r3 q3 P3 b4
        go_wp2
        go_ret
        exact ⟨rfl, P4.b⟩
      | false =>
        have hc : choose T0 L1 a2 a4 = best T0 L1 L1.length := by simp [choose, hh]
        have hd : choose T0 L1 a3 a4 = best T0 L1 L1.length := by simp [choose, hg]
        have HH := Lib.hid hh
        have HG := Lib.hid hg
        have HC := Lib.hid hc
        have HD := Lib.hid hd
        have tok1 : True := trivial
        clear hh hg hc hd hn
        go_enter Try.func8, Try.ntmps8
        go_wp2_with fail
        refine (HB.out _ P0.in_).mono ?_
        rintro e w2 ⟨rfl, b2⟩
        have P2 := P0.next b2
        have r2 := P2.c0
        have q2 := P2.c1
        clear r0 q0 P0 b2
        go_wp2_with fail
        refine (c_rheld P2.in_ HN.out h10 a0 a2 a4).mono ?_
        rintro e w3 ⟨rfl, b3⟩
        rw [HH.out]
        have P3 := P2.next b3
        have r3 := P3.c0
        have q3 := P3.c1
        clear r2 q2 P2 b3
        go_wp2_with fail
        refine (c_rheld P3.in_ HN.out h10 a0 a3 a4).mono ?_
        rintro e w4 ⟨rfl, b4⟩
        rw [HG.out]
        have P4 := P3.next b4
        have r4 := P4.c0
        have q4 := P4.c1
        clear r3 q3 P3 b4
        go_wp2_with fail
        go_region_held3 (fun w' => w'.cell? ⟨w.heap.size, 0, none⟩ = some (.int .i64 a0) ∧ w'.cell? ⟨w.heap.size, 1, none⟩ = some (.slice A0 T0.length c0)) (go_keep) (first
          | (go_at_call 14
             have _t := tok1
             refine (c_choose P4.drew.in_ HN.out h10 a0 a2 a4).mono ?_
             rintro e w5 ⟨rfl, b5⟩
             rw [HC.out]
             have P5 := P4.drew.next b5
             have r5 := P5.c0
             have q5 := P5.c1
             clear tok1)
          | (go_at_call 14
             refine (c_choose P5.in_ HN.out h10 a0 a3 a4).mono ?_
             rintro e w6 ⟨rfl, b6⟩
             rw [HD.out]
             have P6 := P5.next b6
             have r6 := P6.c0
             have q6 := P6.c1)
          | (go_at_call 16
             refine (c_known _).mono ?_
             rintro e w7 ⟨rfl, b7⟩
             have P7 := P6.next b7
             have r7 := P7.c0
             have q7 := P7.c1))
        go_wp2
        go_ret
        exact ⟨rfl, P7.b⟩

/-! ### The row's step -/
set_option linter.unusedVariables false in
set_option maxRecDepth 100000 in
theorem lifted (os : Os) (started : os.Started) (H : Type) (enc : TypeId × Value → H) :
    ReturnsInHanded {} Try.checked os 8 .any (Rows.ruleLastSpec.pre6 enc Try.prog Try.f8 Rows.ruleLastRow.domain false) (Rows.ruleLastSpec.post enc Try.prog Try.f8 false true false false) := by
  refine returnsInHanded_of_change (C := Try.checked) own started (by kernel_rfl) Try.func8
    (ChangeSpec.witness6 (enc := enc) (C := Try.checked) false ⟨#[], #[.agg #[.int .i64 0, .slice none 0 0], .slice none 0 0, .int .i64 0, .int .i64 0, .int .i64 0], []⟩ 8 (by kernel_rfl) (by kernel_rfl) (by kernel_rfl) (by kernel_rfl)) ?_
  intro W base args ds gs before hval0 hW hcnd _
  have hval : ∀ (j : Nat) t v, Try.f8.params[j]? = some t → args[j]? = some v → Value.okWide Try.prog W .any base t v := hval0
  have hW' := hW
  obtain ⟨p, q, hA0, hV, rfl, hfz, hnd⟩ := hW
  have hA : DataW.TrodAll enc Try.prog W 0 (fun _ => true) true Try.f8.params.toList args.toList ds p := hA0
  rw [Try.params8] at hA hval
  obtain ⟨v0, vs0, d0, ds0, p0, q0, hargs, rfl, rfl, h0, r0⟩ := trodAll_cons hA
  obtain ⟨v1, vs1, d1, ds1, p1, q1, rfl, rfl, rfl, h1, r1⟩ := trodAll_cons r0
  obtain ⟨v2, vs2, d2, ds2, p2, q2, rfl, rfl, rfl, h2, r2⟩ := trodAll_cons r1
  obtain ⟨v3, vs3, d3, ds3, p3, q3, rfl, rfl, rfl, h3, r3⟩ := trodAll_cons r2
  obtain ⟨v4, vs4, d4, ds4, p4, q4, rfl, rfl, rfl, h4, r4⟩ := trodAll_cons r3
  obtain ⟨rfl, rfl, rfl⟩ := trodAll_nil r4
  obtain rfl : args = #[v0, v1, v2, v3, v4] := by cases args; simp_all
  obtain ⟨rfl, rfl⟩ := trodVars_none hV
  have k0 := h0
  have lt0 : ∀ x ∈ p0, x.block < W.heap.size := by obtain ⟨m, hm⟩ := k0; exact DataW.trod_lt m _ _ _ hm
  obtain ⟨u0, u1, y0, y1, m0, rfl, rfl, rfl, hy0, hy1⟩ := open_agg2 Try.underlying24 (by kernel_rfl) (by kernel_rfl) (hval 0 24 v0 rfl rfl) h0
  obtain ⟨a0, e0, _, _⟩ := DataW.trod_int Try.underlying2 hy0
  simp at e0
  subst e0
  obtain ⟨A0, n0, c0, rfl⟩ := form22 hy1
  obtain ⟨T0, hn0, hc0, hC0, s0⟩ := open_tasks hy1
  subst hn0
  have k1 := h1
  have lt1 : ∀ x ∈ p1, x.block < W.heap.size := by obtain ⟨m, hm⟩ := k1; exact DataW.trod_lt m _ _ _ hm
  obtain ⟨A1, n1, c1, rfl⟩ := okWide_slice Try.underlying25 (hval 1 25 v1 rfl rfl)
  obtain ⟨L1, hn1, hc1, hC1⟩ : ∃ L : List S33, L.length = n1 ∧ n1 ≤ c1 ∧ Kd.C k33 W A1 n1 L := by
    obtain ⟨fuel, hf⟩ := h1
    exact open_states (by simpa [Value.cells] using hf)
  subst hn1
  have w1 : In W A0 c0 T0 A1 c1 L1 := ⟨hC0, hc0, hC1, hc1⟩
  obtain ⟨a2, rfl, rfl, rfl, w2⟩ := open_int Try.underlying3 (hval 2 3 v2 rfl rfl) h2
  obtain ⟨a3, rfl, rfl, rfl, w3⟩ := open_int Try.underlying3 (hval 3 3 v3 rfl rfl) h3
  obtain ⟨a4, rfl, rfl, rfl, w4⟩ := open_int Try.underlying2 (hval 4 2 v4 rfl rfl) h4
  clear hA0 hval0
  refine (walk a0 A0 c0 T0 A1 c1 L1 a2 a3 a4 W s0 w1 w2 w3 w4).mono fun e W' ⟨he, bel⟩ => ?_
  subst he
  exact ⟨_, rfl, _, _, _, [], _, [], hW', trodAll_mk1 (shut_bool Try.underlying4 _), (trodAll_cons_mk (Below.trod laidOut (by kernel_rfl) (of_decide_eq_true (by kernel_rfl)) k0 bel lt0) (trodAll_cons_mk (Below.trod laidOut (by kernel_rfl) (of_decide_eq_true (by kernel_rfl)) k1 bel lt1) (trodAll_cons_mk (shut_int Try.underlying3 w2) (trodAll_cons_mk (shut_int Try.underlying3 w3) (trodAll_cons_mk (shut_int Try.underlying2 w4) trodAll_mk0))))), rfl, bel.frame _, fun h => by cases h⟩

theorem over : Rows.ruleLastRow.holds Try.pinned (OpenSpec.ofChange Rows.ruleLastSpec) :=
  OpenClaim.holds_of_wide 8 Try.f8 rfl rfl rfl rfl rfl rfl rfl ⟨rfl, rfl, rfl, rfl, rfl⟩ rfl rfl rfl rfl rfl (by kernel_rfl) Try.func8 (by kernel_rfl)
    (of_decide_eq_true (by kernel_rfl)) (by unfold Func.isWrapper; first | (rw [if_pos (by decide +kernel)]; kernel_rfl) | (rw [if_neg (by decide +kernel)]; exact ⟨rfl, rfl⟩))
    (fun os started H enc _ => lifted os started H enc)

/-- The statement. -/
theorem proved : Rows.RuleLastSaid := over
end Go.Proofs.Ytldnichgcmfboaa.ruleLast
