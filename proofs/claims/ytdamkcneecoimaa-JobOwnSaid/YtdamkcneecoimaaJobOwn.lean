/- Of every region's length, every demand and every other number the law JobOwn returns true; no condition. -/
import Derived.Test.YtdamkcneecoimaaTick
import Derived.Test.YtdamkcneecoimaaRows
import Derived.WalkKit
import Derived.ProofKit
import Derived.OpenShut
import Derived.ShutString
import Derived.ChangeOld
import Derived.Below
namespace Go.Proofs.Ytdamkcneecoimaa.jobOwn
open Go.ChangeShapes Go.WideShapes Go.ChangeAt Go.RowKit
open Go.ChangeMaps (open_string shut_string)

theorem own : ownKnob Try.prog.godebug = none := by kernel_rfl
theorem laidOut : laidOutB Try.prog = true := by kernel_rfl

/-! ### The walk -/
/-- The job behind m ticks. -/
def at_ (a : Int) (B m : Nat) : Jb := if m < B then ⟨[a], [(B : Int)], 0, m, m, 0⟩ else ⟨[a], [(B : Int)], 1, 0, m, 2⟩
theorem at_zero (a : Int) (B : Nat) (h : 1 ≤ B) : jb0 [a] [(B : Int)] = at_ a B 0 := by
  unfold jb0 at_ dems
  rw [if_pos (by omega)]
  simp [dmd]
  omega
theorem at_on (a : Int) (B m : Nat) (h : m + 1 < B) (ha : (B : Int) ≤ a) : tick (at_ a B m) = (at_ a B (m + 1), 0, 0) := by
  unfold at_
  rw [if_pos (by omega), if_pos h, tick_on rfl (by simp; omega) (by simp; omega)]
  simp
theorem at_done (a : Int) (B m : Nat) (h : m + 1 = B) : tick (at_ a B m) = (at_ a B (m + 1), 0, 2) := by
  unfold at_
  rw [if_pos (by omega), if_neg (by omega), tick_done rfl (by simp; omega) rfl]
  simp
theorem at_facts (a : Int) (B m : Nat) (h : m < B) (h50 : B ≤ 50) : ((at_ a B m).how = 0 → (at_ a B m).k < (at_ a B m).rs.length) ∧ (at_ a B m).rs.length ≤ 8 ∧ 0 ≤ (at_ a B m).had ∧ (at_ a B m).had ≤ 1000000 ∧ 0 ≤ (at_ a B m).all ∧ (at_ a B m).all ≤ 1000000 := by
  unfold at_
  rw [if_pos h]
  simp
  omega
theorem at_mid (a : Int) (B m : Nat) (h0 : 0 < m) : decide (0 < (at_ a B m).had) = decide (m < B) := by
  unfold at_
  split
  · next h => simp [h, h0]
  · next h => simp [h]
theorem at_all (a : Int) (B m : Nat) : (at_ a B m).all = m := by
  unfold at_
  split <;> rfl

set_option maxHeartbeats 4000000 in
theorem walk (a0 a1 a2 : Int) (w : World) (_w0 : (Lit.int .i64 a0).wf = true) (_w1 : (Lit.int .i64 a1).wf = true) (_w2 : (Lit.int .i64 a2).wf = true) :
    Calls Try.prog 5 #[.int .i64 a0, .int .i64 a1, .int .i64 a2] w fun e w' => e = .returned (.bool true) ∧ Below w.heap.size w w' := by
  by_cases c1 : a0 < 1
  · go_enter Try.func5, Try.ntmps5
    go_wp2
    go_ret
    exact ⟨rfl, Below.refl _ _⟩
  by_cases c2 : 50 < a0
  · go_enter Try.func5, Try.ntmps5
    go_wp2
    go_ret
    exact ⟨rfl, Below.refl _ _⟩
  by_cases c3 : a1 < 1
  · go_enter Try.func5, Try.ntmps5
    go_wp2
    go_ret
    exact ⟨rfl, Below.refl _ _⟩
  by_cases c4 : a0 < a1
  · go_enter Try.func5, Try.ntmps5
    go_wp2
    go_ret
    exact ⟨rfl, Below.refl _ _⟩
  obtain ⟨B, rfl⟩ := Int.eq_ofNat_of_zero_le (show 0 ≤ a1 by omega)
  have lB : 1 ≤ B := by omega
  have lA : (B : Int) ≤ a0 := by omega
  have l50 : a0 ≤ 50 := by omega
  have ho : [a0].any odd = false := by simp [odd]; omega
  have HO := Lib.hid ho
  clear ho
  go_enter Try.func5, Try.ntmps5
  go_wp2_with fail
  have n1 : Nums ((w.alloc (.cells #[.int .i64 a0] 2)).alloc (.cells #[.int .i64 B] 2)) (some ⟨w.heap.size, 0, none⟩) [a0] :=
    (newNums1 (w := w) a0).below ((Below.refl _ _).alloc (Nat.le_refl _) _)
  have n2 : Nums ((w.alloc (.cells #[.int .i64 a0] 2)).alloc (.cells #[.int .i64 B] 2)) (some ⟨w.heap.size + 1, 0, none⟩) [(B : Int)] := by
    have := newNums1 (w := w.alloc (.cells #[.int .i64 a0] 2)) (B : Int)
    rwa [World.size_alloc] at this
  have B1 : Blk ((w.alloc (.cells #[.int .i64 a0] 2)).alloc (.cells #[.int .i64 B] 2)) w.heap.size 2 #[.int .i64 a0] := (Blk.new w 2 _).alloc _
  have B2 : Blk ((w.alloc (.cells #[.int .i64 a0] 2)).alloc (.cells #[.int .i64 B] 2)) (w.heap.size + 1) 2 #[.int .i64 B] := by
    have := Blk.new (w.alloc (.cells #[.int .i64 a0] 2)) 2 #[.int .i64 B]
    rwa [World.size_alloc] at this
  have k0 : Below w.heap.size w ((w.alloc (.cells #[.int .i64 a0] 2)).alloc (.cells #[.int .i64 B] 2)) := ((Below.refl _ _).alloc (Nat.le_refl _) _).alloc (by simp) _
  refine (new_yes (some ⟨w.heap.size, 0, none⟩) (some ⟨w.heap.size + 1, 0, none⟩) 1 1 [a0] [(B : Int)] _ n1 n2 (by simp) (by simp) HO.out).mono ?_
  rintro e w1 ⟨p, a, ca, b, cb, rfl, h1, b1, hp⟩
  rw [at_zero a0 B lB] at h1
  have hs : ((w.alloc (.cells #[.int .i64 a0] 2)).alloc (.cells #[.int .i64 B] 2)).heap.size = w.heap.size + 1 + 1 := by simp
  have D1 : Blk w1 w.heap.size 2 #[.int .i64 a0] := B1.below b1 (by rw [hs]; omega)
  have D2 : Blk w1 (w.heap.size + 1) 2 #[.int .i64 B] := B2.below b1 (by rw [hs]; omega)
  have k1 : Below w.heap.size w w1 := k0.trans (b1.mono (by rw [hs]; omega))
  have ha := (own_at h1.rs).1
  have hb := (own_at h1.ds).1
  rw [hs] at ha hb hp
  have q1 : w1.cell? ⟨w.heap.size, 0, none⟩ = some (.int .i64 a0) := D1.cell 0
  have q2 : w1.cell? ⟨w.heap.size + 1, 0, none⟩ = some (.int .i64 B) := D2.cell 0
  have f1 := D1.frozen 0
  have f2 := D2.frozen 0
  have g1 : w1.grownBy (w1.setCell ⟨w.heap.size, 0, none⟩ (.int .i64 a2)) (some w.heap.size) := only_setCell (World.grownBy.refl w1 _) (.inl rfl) _
  have g2 : (w1.setCell ⟨w.heap.size, 0, none⟩ (.int .i64 a2)).grownBy ((w1.setCell ⟨w.heap.size, 0, none⟩ (.int .i64 a2)).setCell ⟨w.heap.size + 1, 0, none⟩ (.int .i64 a2)) (some (w.heap.size + 1)) := only_setCell (World.grownBy.refl _ _) (.inl rfl) _
  rw [hs] at h1
  have h2 := (h1.keep g1 (by simp; omega) (by simp; omega) (by simp; omega)).keep g2 (by simp; omega) (by simp; omega) (by simp; omega)
  have k2 := below_only (below_only k1 (Nat.le_refl _) g1 (fun k e => by injection e with e; omega)) (Nat.le_refl _) g2 (fun k e => by injection e with e; omega)
  obtain ⟨w2, hw2⟩ : ∃ w2, (w1.setCell ⟨w.heap.size, 0, none⟩ (.int .i64 a2)).setCell ⟨w.heap.size + 1, 0, none⟩ (.int .i64 a2) = w2 := ⟨_, rfl⟩
  rw [hw2] at h2 k2
  have HW := Lib.hid hw2
  clear hw2 hs n1 n2 B1 B2 b1 k0 D1 D2 k1 g1 g2 h1
  go_wp2_with fail
  rw [HW.out]
  clear HW q1 q2 f1 f2
  go_loopw [10] (fun z wr => ∃ m : Nat, m ≤ B ∧ z = .int .i64 ((m : Int) + 1) ∧ JobAt wr (w.heap.size + 1 + 1) p a ca b cb (at_ a0 B m) ∧ Below w.heap.size w wr) (fun z _ => B + 1 - (intOf z).toNat)
  case atStart => exact ⟨0, Nat.zero_le _, rfl, h2, k2⟩
  case round =>
    obtain ⟨m, hm, rfl, hJ, hW⟩ := hrel
    clear h2 k2
    by_cases hlt : m < B
    · obtain ⟨x1, x2, x3, x4, x5, x6⟩ := at_facts a0 B m hlt (by omega)
      have hS := step_any wr hJ x1 x2 x3 x4 x5 x6
      have HM := Lib.hid (at_mid a0 B (m + 1) (by omega))
      have HL := Lib.hid (at_all a0 B (m + 1))
      clear x1 x2 x3 x4 x5 x6
      by_cases hlast : m + 1 < B
      · rw [at_on a0 B m hlast lA] at hS
        have d1 : decide (m + 1 < B) = true := by simpa using hlast
        go_wp2_with fail
        refine hS.mono ?_
        rintro e w2 ⟨rfl, hJ2, g2⟩
        have hW2 := below_only hW (Nat.le_refl _) g2 (fun k e => by injection e with e; omega)
        clear hS hJ hW g2
        go_wp2_with fail
        refine (mid_any w2 hJ2).mono ?_
        rintro e w3 ⟨rfl, rfl⟩
        rw [HM.out]
        go_wp2_with fail
        refine (ticks_any w2 hJ2).mono ?_
        rintro e w3 ⟨rfl, rfl⟩
        rw [HL.out]
        clear HM HL
        go_wp2_with fail
        go_roundw
        case rel => exact ⟨m + 1, by omega, by go_num, hJ2, hW2⟩
        case measure => simp [intOf]; omega
      · have hB : m + 1 = B := by omega
        rw [at_done a0 B m hB] at hS
        have d1 : decide (m + 1 < B) = false := by simpa using hlast
        have l1 : B ≤ m + 1 := by omega
        clear hB
        go_wp2_with fail
        refine hS.mono ?_
        rintro e w2 ⟨rfl, hJ2, g2⟩
        have hW2 := below_only hW (Nat.le_refl _) g2 (fun k e => by injection e with e; omega)
        clear hS hJ hW g2
        go_wp2_with fail
        refine (mid_any w2 hJ2).mono ?_
        rintro e w3 ⟨rfl, rfl⟩
        rw [HM.out]
        go_wp2_with fail
        refine (ticks_any w2 hJ2).mono ?_
        rintro e w3 ⟨rfl, rfl⟩
        rw [HL.out]
        clear HM HL
        go_wp2_with fail
        go_roundw
        case rel => exact ⟨m + 1, by omega, by go_num, hJ2, hW2⟩
        case measure => simp [intOf]; omega
    · go_wp2_with fail
      refine (known_any wr).mono ?_
      rintro e w4 ⟨rfl, b4⟩
      go_wp2
      go_ret
      exact ⟨rfl, hW.trans (b4.mono hW.size)⟩

/-! ### The row's step -/
set_option linter.unusedVariables false in
set_option maxRecDepth 100000 in
theorem lifted (os : Os) (started : os.Started) (H : Type) (enc : TypeId × Value → H) :
    ReturnsInHanded {} Try.checked os 5 .any (Rows.jobOwnSpec.pre6 enc Try.prog Try.f5 Rows.jobOwnRow.domain false) (Rows.jobOwnSpec.post enc Try.prog Try.f5 false true false false) := by
  refine returnsInHanded_of_change (C := Try.checked) own started (by kernel_rfl) Try.func5
    (ChangeSpec.witness6 (enc := enc) (C := Try.checked) false ⟨#[], #[.int .i64 0, .int .i64 0, .int .i64 0], []⟩ 8 (by kernel_rfl) (by kernel_rfl) (by kernel_rfl) (by kernel_rfl)) ?_
  intro W base args ds gs before hval0 hW hcnd _
  have hval : ∀ (j : Nat) t v, Try.f5.params[j]? = some t → args[j]? = some v → Value.okWide Try.prog W .any base t v := hval0
  have hW' := hW
  obtain ⟨p, q, hA0, hV, rfl, hfz, hnd⟩ := hW
  have hA : DataW.TrodAll enc Try.prog W 0 (fun _ => true) true Try.f5.params.toList args.toList ds p := hA0
  rw [Try.params5] at hA hval
  obtain ⟨v0, vs0, d0, ds0, p0, q0, hargs, rfl, rfl, h0, r0⟩ := trodAll_cons hA
  obtain ⟨v1, vs1, d1, ds1, p1, q1, rfl, rfl, rfl, h1, r1⟩ := trodAll_cons r0
  obtain ⟨v2, vs2, d2, ds2, p2, q2, rfl, rfl, rfl, h2, r2⟩ := trodAll_cons r1
  obtain ⟨rfl, rfl, rfl⟩ := trodAll_nil r2
  obtain rfl : args = #[v0, v1, v2] := by cases args; simp_all
  obtain ⟨rfl, rfl⟩ := trodVars_none hV
  obtain ⟨a0, rfl, rfl, rfl, w0⟩ := open_int Try.underlying2 (hval 0 2 v0 rfl rfl) h0
  obtain ⟨a1, rfl, rfl, rfl, w1⟩ := open_int Try.underlying2 (hval 1 2 v1 rfl rfl) h1
  obtain ⟨a2, rfl, rfl, rfl, w2⟩ := open_int Try.underlying2 (hval 2 2 v2 rfl rfl) h2
  clear hA0 hval0
  refine (walk a0 a1 a2 W w0 w1 w2).mono fun e W' ⟨he, bel⟩ => ?_
  subst he
  exact ⟨_, rfl, _, _, _, [], _, [], hW', trodAll_mk1 (shut_bool Try.underlying4 _), (trodAll_cons_mk (shut_int Try.underlying2 w0) (trodAll_cons_mk (shut_int Try.underlying2 w1) (trodAll_cons_mk (shut_int Try.underlying2 w2) trodAll_mk0))), rfl, bel.frame _, fun h => by cases h⟩

theorem over : Rows.jobOwnRow.holds Try.pinned (OpenSpec.ofChange Rows.jobOwnSpec) :=
  OpenClaim.holds_of_wide 5 Try.f5 rfl rfl rfl rfl rfl rfl rfl ⟨rfl, rfl, rfl, rfl, rfl⟩ rfl rfl rfl rfl rfl (by kernel_rfl) Try.func5 (by kernel_rfl)
    (of_decide_eq_true (by kernel_rfl)) (by unfold Func.isWrapper; first | (rw [if_pos (by decide +kernel)]; kernel_rfl) | (rw [if_neg (by decide +kernel)]; exact ⟨rfl, rfl⟩))
    (fun os started H enc _ => lifted os started H enc)

/-- The statement. -/
theorem proved : Rows.JobOwnSaid := over
end Go.Proofs.Ytdamkcneecoimaa.jobOwn
