/- Of every set, states and ticks the law RuleThere returns true; no condition. -/
import Derived.Test.YtldnichgcmfboaaCon
import Derived.Test.YtldnichgcmfboaaRows
import Derived.WalkKit
import Derived.ProofKit
import Derived.OpenShut
import Derived.ShutString
import Derived.ChangeOld
import Derived.Below
namespace Go.Proofs.Ytldnichgcmfboaa.ruleThere
open Go.ChangeShapes Go.WideShapes Go.ChangeAt Go.RowKit
open Go.ChangeMaps (open_string shut_string)
open Go.Joins
open Go.Proofs.YtldnichgcmfboaaW.PrintWords Go.Proofs.YtldnichgcmfboaaW.PrintLast Go.Proofs.YtldnichgcmfboaaW.PrintMore
open Go.Proofs.Ytldnichgcmfboaa.PRuleTells

theorem own : ownKnob Try.prog.godebug = none := by kernel_rfl
theorem laidOut : laidOutB Try.prog = true := by kernel_rfl

/-! ### The walk -/
def anyTo (L : List S33) (n : Nat) : Bool := (List.range n).any fun j => pend L j
theorem anyTo_succ (L : List S33) (n : Nat) : anyTo L (n + 1) = (anyTo L n || pend L n) := by
  unfold anyTo
  rw [List.range_succ, List.any_append]
  simp
theorem anyTo_true {L : List S33} {i : Int} (h : pend L i = true) : anyTo L L.length = true := by
  obtain ⟨h0, h1⟩ := pend_in h
  unfold anyTo
  rw [List.any_eq_true]
  exact ⟨i.toNat, by simp; omega, by rw [show ((i.toNat : Nat) : Int) = i from by omega]; exact h⟩

set_option maxHeartbeats 4000000 in
theorem walk (a0 : Int) (A0 : Option Addr) (c0 : Nat) (T0 : List S37) (A1 : Option Addr) (c1 : Nat) (L1 : List S33) (a2 a3 : Int) (w : World) (s0 : Small T0) (w1 : In w A0 c0 T0 A1 c1 L1)
    (_w2 : (Lit.int .i64 a2).wf = true) (_w3 : (Lit.int .i64 a3).wf = true) :
    Calls Try.prog 4 #[.agg #[.int .i64 a0, .slice A0 T0.length c0], .slice A1 L1.length c1, .int .i64 a2, .int .i64 a3] w fun e w' => e = .returned (.bool true) ∧ Below w.heap.size w w' := by
  obtain ⟨b, hmay, hb⟩ := c_may (A := A0) (c := c0) (B := A1) (d := c1) (L := L1) s0 a0 a3
  have HB := Lib.hid hb
  clear hb
  have P0 := At.start (a := a0) w1
  have hlt := P0.lt
  have r0 := P0.c0
  have q0 := P0.c1
  cases b with
  | false =>
    clear hmay
    go_enter Try.func4, Try.ntmps4
    go_wp2_with fail
    refine (HB.out _ P0.in_).mono ?_
    rintro e w2 ⟨rfl, b2⟩
    have P2 := P0.next b2
    go_wp2
    go_ret
    exact ⟨rfl, P2.b⟩
  | true =>
    obtain ⟨hn, h10⟩ := hmay rfl
    have HN := Lib.hid hn
    clear hmay
    have hch : (anyTo L1 L1.length = false ∧ choose T0 L1 a2 a3 = -1) ∨ (anyTo L1 L1.length = true ∧ pend L1 (choose T0 L1 a2 a3) = true) := by
      unfold choose
      cases hh : held T0 L1 a2 a3 with
      | true =>
        have hp := (held_pend hh).1
        exact .inr ⟨anyTo_true hp, by simpa using hp⟩
      | false =>
        simp only [Bool.false_eq_true, if_false]
        rcases best_spec T0 L1 L1.length (Nat.le_refl _) with ⟨h1, h2⟩ | ⟨h1, _⟩
        · refine .inl ⟨?_, h1⟩
          unfold anyTo
          rw [List.any_eq_false]
          intro j hj
          simp [h2 j (by simpa using hj)]
        · exact .inr ⟨anyTo_true h1, h1⟩
    have HCH := Lib.hid hch
    have hL10 : L1.length ≤ 10 := by rw [← hn]; exact h10
    clear hch hn
    go_enter Try.func4, Try.ntmps4
    go_wp2_with fail
    refine (HB.out _ P0.in_).mono ?_
    rintro e w2 ⟨rfl, b2⟩
    have P2 := P0.next b2
    have r2 := P2.c0
    have q2 := P2.c1
    clear r0 q0 P0 b2
    go_wp2_with fail
    go_loop [9, 10] (fun x z => ∃ k : Nat, k ≤ L1.length ∧ z = .int .i64 k ∧ x = .bool (anyTo L1 k)) (fun _ z => L1.length - (intOf z).toNat)
    case atStart => exact ⟨0, Nat.zero_le _, rfl, rfl⟩
    case round =>
      obtain ⟨k, hk, rfl, rfl⟩ := hrel
      by_cases hlt : k < L1.length
      · obtain ⟨ad, rfl, k0, k1, k2, k3⟩ := at_T33 P2.in_.l (k : Int) (by omega) (by omega)
        rw [pend_rd (by omega) (by omega), Int.toNat_natCast] at k0
        clear k1 k2 k3
        have HS := Lib.hid (anyTo_succ L1 k)
        cases hany : anyTo L1 k with
        | true =>
          have HY := Lib.hid hany
          clear hany
          go_wp2
          go_round
          case rel => exact ⟨k + 1, by omega, by go_num, by rw [HS.out, HY.out]; simp⟩
          case measure => simp [intOf]; omega
        | false =>
          have HY := Lib.hid hany
          clear hany
          go_wp2
          go_round
          case rel => exact ⟨k + 1, by omega, by go_num, by rw [HS.out, HY.out]; simp⟩
          case measure => simp [intOf]; omega
      · obtain rfl : k = L1.length := by omega
        rcases HCH.out with ⟨ha, hc⟩ | ⟨ha, hc⟩
        · rw [ha]
          have HC := Lib.hid hc
          clear hc ha
          go_wp2_with fail
          refine (c_choose P2.in_ HN.out h10 a0 a2 a3).mono ?_
          rintro e w3 ⟨rfl, b3⟩
          rw [HC.out]
          have P3 := P2.next b3
          have r3 := P3.c0
          have q3 := P3.c1
          clear r2 q2 P2 b3
          go_wp2_with fail
          refine (c_known w3).mono ?_
          rintro e w4 ⟨rfl, b4⟩
          have P4 := P3.next b4
          have r4 := P4.c0
          have q4 := P4.c1
          clear r3 q3 P3 b4
          go_wp2
          go_ret
          exact ⟨rfl, P4.b⟩
        · rw [ha]
          obtain ⟨m0, m1⟩ := pend_in hc
          have hrd := pend_rd m0 m1
          rw [hc] at hrd
          have HR := Lib.hid hrd
          clear hc ha hrd
          obtain ⟨cc, hcc⟩ : ∃ cc, choose T0 L1 a2 a3 = cc := ⟨_, rfl⟩
          rw [hcc] at HR m0 m1
          have HC := Lib.hid hcc
          clear hcc
          go_wp2_with fail
          refine (c_choose P2.in_ HN.out h10 a0 a2 a3).mono ?_
          rintro e w3 ⟨rfl, b3⟩
          rw [HC.out]
          have P3 := P2.next b3
          have r3 := P3.c0
          have q3 := P3.c1
          clear r2 q2 P2 b3
          obtain ⟨ad, rfl, k0, k1, k2, k3⟩ := at_T33 P3.in_.l cc m0 m1
          rw [HR.out] at k0
          clear k1 k2 k3
          go_wp2_with fail
          refine (c_known w3).mono ?_
          rintro e w4 ⟨rfl, b4⟩
          have P4 := P3.next b4
          have r4 := P4.c0
          have q4 := P4.c1
          clear r3 q3 P3 b4
          go_wp2
          go_ret
          exact ⟨rfl, P4.b⟩

/-! ### The row's step -/
set_option linter.unusedVariables false in
set_option maxRecDepth 100000 in
theorem lifted (os : Os) (started : os.Started) (H : Type) (enc : TypeId × Value → H) :
    ReturnsInHanded {} Try.checked os 4 .any (Rows.ruleThereSpec.pre6 enc Try.prog Try.f4 Rows.ruleThereRow.domain false) (Rows.ruleThereSpec.post enc Try.prog Try.f4 false true false false) := by
  refine returnsInHanded_of_change (C := Try.checked) own started (by kernel_rfl) Try.func4
    (ChangeSpec.witness6 (enc := enc) (C := Try.checked) false ⟨#[], #[.agg #[.int .i64 0, .slice none 0 0], .slice none 0 0, .int .i64 0, .int .i64 0], []⟩ 8 (by kernel_rfl) (by kernel_rfl) (by kernel_rfl) (by kernel_rfl)) ?_
  intro W base args ds gs before hval0 hW hcnd _
  have hval : ∀ (j : Nat) t v, Try.f4.params[j]? = some t → args[j]? = some v → Value.okWide Try.prog W .any base t v := hval0
  have hW' := hW
  obtain ⟨p, q, hA0, hV, rfl, hfz, hnd⟩ := hW
  have hA : DataW.TrodAll enc Try.prog W 0 (fun _ => true) true Try.f4.params.toList args.toList ds p := hA0
  rw [Try.params4] at hA hval
  obtain ⟨v0, vs0, d0, ds0, p0, q0, hargs, rfl, rfl, h0, r0⟩ := trodAll_cons hA
  obtain ⟨v1, vs1, d1, ds1, p1, q1, rfl, rfl, rfl, h1, r1⟩ := trodAll_cons r0
  obtain ⟨v2, vs2, d2, ds2, p2, q2, rfl, rfl, rfl, h2, r2⟩ := trodAll_cons r1
  obtain ⟨v3, vs3, d3, ds3, p3, q3, rfl, rfl, rfl, h3, r3⟩ := trodAll_cons r2
  obtain ⟨rfl, rfl, rfl⟩ := trodAll_nil r3
  obtain rfl : args = #[v0, v1, v2, v3] := by cases args; simp_all
  obtain ⟨rfl, rfl⟩ := trodVars_none hV
  have k0 := h0
  have lt0 : ∀ x ∈ p0, x.block < W.heap.size := by obtain ⟨m, hm⟩ := k0; exact DataW.trod_lt m _ _ _ hm
  obtain ⟨u0, u1, y0, y1, m0, rfl, rfl, rfl, hy0, hy1⟩ := open_agg2 Try.underlying24 (by kernel_rfl) (by kernel_rfl) (hval 0 24 v0 rfl rfl) h0
  obtain ⟨a0, e0, _, _⟩ := DataW.trod_int Try.underlying2 hy0
  simp at e0
  subst e0
  obtain ⟨A0, n0, c0, rfl⟩ := form22 hy1
  obtain ⟨T0, hn0, hc0, hC0, s0⟩ := open_tasks hy1
  subst hn0
  have k1 := h1
  have lt1 : ∀ x ∈ p1, x.block < W.heap.size := by obtain ⟨m, hm⟩ := k1; exact DataW.trod_lt m _ _ _ hm
  obtain ⟨A1, n1, c1, rfl⟩ := okWide_slice Try.underlying25 (hval 1 25 v1 rfl rfl)
  obtain ⟨L1, hn1, hc1, hC1⟩ : ∃ L : List S33, L.length = n1 ∧ n1 ≤ c1 ∧ Kd.C k33 W A1 n1 L := by
    obtain ⟨fuel, hf⟩ := h1
    exact open_states (by simpa [Value.cells] using hf)
  subst hn1
  have w1 : In W A0 c0 T0 A1 c1 L1 := ⟨hC0, hc0, hC1, hc1⟩
  obtain ⟨a2, rfl, rfl, rfl, w2⟩ := open_int Try.underlying3 (hval 2 3 v2 rfl rfl) h2
  obtain ⟨a3, rfl, rfl, rfl, w3⟩ := open_int Try.underlying2 (hval 3 2 v3 rfl rfl) h3
  clear hA0 hval0
  refine (walk a0 A0 c0 T0 A1 c1 L1 a2 a3 W s0 w1 w2 w3).mono fun e W' ⟨he, bel⟩ => ?_
  subst he
  exact ⟨_, rfl, _, _, _, [], _, [], hW', trodAll_mk1 (shut_bool Try.underlying4 _), (trodAll_cons_mk (Below.trod laidOut (by kernel_rfl) (of_decide_eq_true (by kernel_rfl)) k0 bel lt0) (trodAll_cons_mk (Below.trod laidOut (by kernel_rfl) (of_decide_eq_true (by kernel_rfl)) k1 bel lt1) (trodAll_cons_mk (shut_int Try.underlying3 w2) (trodAll_cons_mk (shut_int Try.underlying2 w3) trodAll_mk0)))), rfl, bel.frame _, fun h => by cases h⟩

theorem over : Rows.ruleThereRow.holds Try.pinned (OpenSpec.ofChange Rows.ruleThereSpec) :=
  OpenClaim.holds_of_wide 4 Try.f4 rfl rfl rfl rfl rfl rfl rfl ⟨rfl, rfl, rfl, rfl, rfl⟩ rfl rfl rfl rfl rfl (by kernel_rfl) Try.func4 (by kernel_rfl)
    (of_decide_eq_true (by kernel_rfl)) (by unfold Func.isWrapper; first | (rw [if_pos (by decide +kernel)]; kernel_rfl) | (rw [if_neg (by decide +kernel)]; exact ⟨rfl, rfl⟩))
    (fun os started H enc _ => lifted os started H enc)

/-- The statement. -/
theorem proved : Rows.RuleThereSaid := over
end Go.Proofs.Ytldnichgcmfboaa.ruleThere
