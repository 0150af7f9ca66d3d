/- Of every row of regions, every row of demands and every number of ticks the law JobSteps returns true; no condition. -/
import Derived.Test.YtdamkcneecoimaaRef2
import Derived.Test.YtdamkcneecoimaaRows
import Derived.WalkKit
import Derived.ProofKit
import Derived.OpenShut
import Derived.ShutString
import Derived.ChangeOld
import Derived.Below
namespace Go.Proofs.Ytdamkcneecoimaa.jobSteps
open Go.ChangeShapes Go.WideShapes Go.ChangeAt Go.RowKit
open Go.ChangeMaps (open_string shut_string)

theorem own : ownKnob Try.prog.godebug = none := by kernel_rfl
theorem laidOut : laidOutB Try.prog = true := by kernel_rfl

/-- A slice of whole numbers that came in: nil, or a row of 'cap' cells that holds the numbers 'zs', of which the first 'len' are its elements. -/
def IsRow (k : IntKind) (w : World) (a : Option Addr) (len cap : Nat) (zs : List Int) : Prop :=
  (a = none ∧ len = 0 ∧ cap = 0 ∧ zs = []) ∨
  ∃ x, a = some x ∧ len ≤ cap ∧ cap ≤ maxLen ∧ zs.length = cap ∧ (∀ i, i < zs.length → w.cell? (x.add i) = some (.int k (zs.getD i 0))) ∧ ∀ n ∈ zs, (Lit.int k n).wf = true

/-! ### The plain side -/
/-- Where a job stands behind t ticks. -/
def Inv (rs : List Int) (j : Jb) (t : Int) : Prop :=
  j.rs = rs ∧ 0 ≤ j.had ∧ j.had ≤ t ∧ 0 ≤ j.all ∧ j.all ≤ t ∧ (j.how = 0 → j.k < rs.length)
theorem inv_zero (rs dm : List Int) (h : 0 < rs.length) : Inv rs (jb0 rs dm) 0 := ⟨rfl, by simp [jb0], by simp [jb0], by simp [jb0], by simp [jb0], fun _ => h⟩
theorem inv_tick {rs : List Int} {j : Jb} {t : Int} (h : Inv rs j t) : Inv rs (tick j).1 (t + 1) := by
  obtain ⟨h1, h2, h3, h4, h5, h6⟩ := h
  subst h1
  by_cases h0 : j.how = 0
  · have hk := h6 h0
    by_cases hd : j.had + 1 = j.ds.getD j.k 0
    · by_cases hl : j.k + 1 = j.rs.length
      · rw [tick_done h0 hd hl]
        exact ⟨rfl, by simp, by simp; omega, by simp; omega, by simp; omega, by simp⟩
      · rw [tick_part h0 hd hl]
        exact ⟨rfl, by simp, by simp; omega, by simp; omega, by simp; omega, fun _ => by simp; omega⟩
    · by_cases hr : j.had + 1 = j.rs.getD j.k 0
      · rw [tick_cut h0 hd hr]
        exact ⟨rfl, by simp; omega, by simp; omega, by simp; omega, by simp; omega, by simp⟩
      · rw [tick_on h0 hd hr]
        exact ⟨rfl, by simp; omega, by simp; omega, by simp; omega, by simp; omega, fun _ => hk⟩
  · rw [tick_over h0]
    exact ⟨rfl, h2, by simp only; omega, h4, by simp only; omega, fun h => absurd h h0⟩

theorem row_open {w : World} {a : Option Addr} {len cap : Nat} {z : List Int} (h : IsRow .i64 w a len cap z) :
    ∃ zs : List Int, zs.length = len ∧ Nums w a zs := by
  rcases h with ⟨rfl, rfl, rfl, rfl⟩ | ⟨⟨b, off, spot⟩, rfl, hl, hm, hz, hcell, hwz⟩
  · exact ⟨[], rfl, .inl rfl⟩
  · refine ⟨z.take len, by simp; omega, ?_⟩
    by_cases h0 : len = 0
    · left; simp [h0]
    · have hc := hcell 0 (by omega)
      have hspot : spot = none := by simpa [Addr.add] using World.cell?_spot hc
      subst hspot
      refine .inr ⟨b, off, rfl, World.block_lt_of_cell? w _ hc, fun i hi => ?_⟩
      have hi' : i < len := by simp at hi; omega
      have := hcell i (by omega)
      rw [add_none] at this
      rw [this]
      simp [List.getD, show i < z.length from by omega]

theorem quiet_mid {base p a ca b cb : Nat} {j : Jb} {w : World} (h : JobAt w base p a ca b cb j) (n : Nat) :
    Calls Try.prog 12 #[.pointer (some ⟨p, 0, none⟩)] (w.drewN n) fun e w' => e = .returned (.bool (decide (0 < j.had))) ∧ w' = w.drewN n :=
  (mid_any _ (h.drewN n)).mono fun _ _ ⟨he, hw⟩ => ⟨he, hw.symm⟩
theorem quiet_rmid {base p a ca b cb : Nat} {j : Jb} {w : World} (h : RJobAt w base p a ca b cb j) (n : Nat) :
    Calls Try.prog 15 #[.pointer (some ⟨p, 0, none⟩)] (w.drewN n) fun e w' => e = .returned (.bool (decide (0 < j.had))) ∧ w' = w.drewN n :=
  (rmid_any _ (h.drewN n)).mono fun _ _ ⟨he, hw⟩ => ⟨he, hw.symm⟩
theorem quiet_region {base p a ca b cb : Nat} {j : Jb} {w : World} (h : JobAt w base p a ca b cb j) (n : Nat) :
    Calls Try.prog 16 #[.pointer (some ⟨p, 0, none⟩)] (w.drewN n) fun e w' => e = .returned (.int .i64 j.k) ∧ w' = w.drewN n :=
  (region_any _ (h.drewN n)).mono fun _ _ ⟨he, hw⟩ => ⟨he, hw.symm⟩
theorem quiet_ticks {base p a ca b cb : Nat} {j : Jb} {w : World} (h : JobAt w base p a ca b cb j) (n : Nat) :
    Calls Try.prog 11 #[.pointer (some ⟨p, 0, none⟩)] (w.drewN n) fun e w' => e = .returned (.int .i64 j.all) ∧ w' = w.drewN n :=
  (ticks_any _ (h.drewN n)).mono fun _ _ ⟨he, hw⟩ => ⟨he, hw.symm⟩

set_option maxHeartbeats 8000000 in
theorem walk (a0 : Option Addr) (len0 cap0 : Nat) (z0 : List Int) (a1 : Option Addr) (len1 cap1 : Nat) (z1 : List Int) (a2 : Int) (w : World) (w0 : IsRow .i64 w a0 len0 cap0 z0) (w1 : IsRow .i64 w a1 len1 cap1 z1) (_w2 : (Lit.int .i64 a2).wf = true) :
    Calls Try.prog 6 #[.slice a0 len0 cap0, .slice a1 len1 cap1, .int .i64 a2] w fun e w' => e = .returned (.bool true) ∧ Below w.heap.size w w' := by
  obtain ⟨rs, rfl, hR⟩ := row_open w0
  obtain ⟨dm, rfl, hD⟩ := row_open w1
  clear w0 w1
  by_cases c1 : 20 < rs.length
  · go_enter Try.func6, Try.ntmps6
    go_wp2
    go_ret
    exact ⟨rfl, Below.refl _ _⟩
  by_cases c2 : 20 < dm.length
  · go_enter Try.func6, Try.ntmps6
    go_wp2
    go_ret
    exact ⟨rfl, Below.refl _ _⟩
  by_cases c3 : a2 < 0
  · go_enter Try.func6, Try.ntmps6
    go_wp2
    go_ret
    exact ⟨rfl, Below.refl _ _⟩
  by_cases c4 : 300 < a2
  · go_enter Try.func6, Try.ntmps6
    go_wp2
    go_ret
    exact ⟨rfl, Below.refl _ _⟩
  obtain ⟨n, rfl⟩ := Int.eq_ofNat_of_zero_le (show 0 ≤ a2 by omega)
  have l1 : n ≤ 300 := by omega
  by_cases hN : rs.length < 1 ∨ 8 < rs.length
  · have H1 := new_no a0 a1 cap0 cap1 dm.length rs w hR (by rcases hN with h | h; exact .inl h; exact .inr (.inl h))
    have H2 := rnew_len a0 a1 cap0 cap1 dm.length rs w hN
    clear hN hR hD
    go_enter Try.func6, Try.ntmps6
    go_wp2_with fail
    refine H1.mono ?_
    rintro e w1 ⟨rfl, rfl⟩
    go_wp2_with fail
    refine H2.mono ?_
    rintro e w1 ⟨rfl, rfl⟩
    clear H1 H2
    go_wp2_with fail
    go_loopw [9] (fun z wr => z = .int .i64 0 ∧ wr = w.drewN 0) (fun _ _ => 0)
    case atStart => exact ⟨rfl, rfl⟩
    case round =>
      obtain ⟨rfl, rfl⟩ := hrel
      go_wp2_with fail
      refine (known_any _).mono ?_
      rintro e w5 ⟨rfl, b5⟩
      go_wp2
      go_ret
      exact ⟨rfl, b5⟩
  have d1 : 0 < rs.length := by omega
  have d8 : rs.length ≤ 8 := by omega
  clear hN
  cases hodd : rs.any odd with
  | true =>
    have H1 := new_no a0 a1 cap0 cap1 dm.length rs w hR (.inr (.inr hodd))
    have H2 := rnew_any a0 a1 cap0 cap1 rs dm w hR hD d1 d8
    have HO := Lib.hid hodd
    clear hR hD hodd
    go_enter Try.func6, Try.ntmps6
    go_wp2_with fail
    refine H1.mono ?_
    rintro e w1 ⟨rfl, rfl⟩
    go_wp2_with fail
    refine H2.mono ?_
    rintro e w1 hP
    unfold NewPost at hP
    rw [HO.out] at hP
    rcases hP with ⟨_, rfl, k1⟩ | ⟨h, _⟩
    case inr => cases h
    clear H1 H2
    go_wp2_with fail
    go_loopw [9] (fun z wr => z = .int .i64 0 ∧ wr = w1.drewN 0) (fun _ _ => 0)
    case atStart => exact ⟨rfl, rfl⟩
    case round =>
      obtain ⟨rfl, rfl⟩ := hrel
      go_wp2_with fail
      refine (known_any _).mono ?_
      rintro e w5 ⟨rfl, b5⟩
      go_wp2
      go_ret
      exact ⟨rfl, k1.trans (b5.mono k1.size)⟩
  | false =>
    have H1 := new_yes a0 a1 cap0 cap1 rs dm w hR hD d1 d8 hodd
    have H2 := fun w1 (k1 : Below w.heap.size w w1) => rnew_any a0 a1 cap0 cap1 rs dm w1 (hR.below k1) (hD.below k1) d1 d8
    have HO := Lib.hid hodd
    have HI := Lib.hid (inv_zero rs dm d1)
    clear hR hD hodd
    go_enter Try.func6, Try.ntmps6
    go_wp2_with fail
    refine H1.mono ?_
    rintro e w1 ⟨p, a, ca, b, cb, rfl, hJ, k1, hp⟩
    have H3 := H2 w1 k1
    clear H1 H2
    go_wp2_with fail
    refine H3.mono ?_
    rintro e w2 hP
    unfold NewPost at hP
    rw [HO.out] at hP
    rcases hP with ⟨h, _⟩ | ⟨_, a', ca', b', cb', rfl, hX, k2⟩
    · cases h
    have hJ2 := hJ.below k2
    have K2 := k1.trans (k2.mono k1.size)
    have hs1 := k1.size
    obtain ⟨q, hq⟩ : ∃ q, w1.heap.size = q := ⟨_, rfl⟩
    rw [hq] at hX hs1 ⊢
    clear hq H3 hJ k1 k2
    go_wp2_with fail
    go_loopw [9] (fun z wr => ∃ (t : Nat) (j : Jb), t ≤ n ∧ z = .int .i64 t ∧ JobAt wr w.heap.size p a ca b cb j ∧ RJobAt wr q q a' ca' b' cb' j ∧ Inv rs j t ∧ Below w.heap.size w wr) (fun z _ => n - (intOf z).toNat)
    case atStart => exact ⟨0, _, Nat.zero_le _, rfl, hJ2, hX, HI.out, K2⟩
    case round =>
      obtain ⟨t, j, ht, rfl, hJ, hX, hE, hW⟩ := hrel
      clear hJ2 K2
      by_cases hlt : t < n
      · have hE2 := inv_tick hE
        obtain ⟨h1, h2, h3, h4, h5, h6⟩ := hE
        have x1 : j.how = 0 → j.k < j.rs.length := by rw [h1]; exact h6
        have x2 : j.rs.length ≤ 8 := by rw [h1]; exact d8
        have hS := step_any wr hJ x1 x2 h2 (by omega) h4 (by omega)
        have hT := fun wr hX => rstep_any (base := q) (p := q) (a := a') (ca := ca') (b := b') (cb := cb') (j := j) wr hX x1 x2 h2 (by omega) h4 (by omega)
        have n1 : p ≠ q := hJ.hd.ne_ hX.hd (by decide)
        have n2 : a ≠ q := by obtain ⟨_, cur, hb, _⟩ := own_at hJ.rs; exact hb.ne_ hX.hd (by decide)
        have n3 : b ≠ q := by obtain ⟨_, cur, hb, _⟩ := own_at hJ.ds; exact hb.ne_ hX.hd (by decide)
        have n4 : a' ≠ p := by obtain ⟨_, cur, hb, _⟩ := own_at hX.rs; exact hb.ne_ hJ.hd (by decide)
        have n5 : b' ≠ p := by obtain ⟨_, cur, hb, _⟩ := own_at hX.ds; exact hb.ne_ hJ.hd (by decide)
        obtain ⟨j', r, e, htk⟩ : ∃ j' r e, tick j = (j', r, e) := ⟨_, _, _, rfl⟩
        rw [htk] at hS hT hE2
        have HE := Lib.hid hE2
        have hX' := fun w3 (g : wr.grownBy w3 (some p)) => hX.keep g (by simpa using n1.symm) (by simpa using n4) (by simpa using n5)
        clear htk hE2 x1 x2 h1 h2 h3 h4 h5 h6 hX
        go_wp2_with fail
        refine hS.mono ?_
        rintro _ w3 ⟨rfl, hJ3, g3⟩
        have hW3 := below_only hW (Nat.le_refl _) g3 (fun k e => by injection e with e; omega)
        have hT3 := hT w3 (hX' w3 g3)
        clear hS hT hX' hJ hW g3
        go_wp2_with fail
        refine hT3.mono ?_
        rintro _ w4 ⟨rfl, hX4, g4⟩
        have hW4 := below_only hW3 (Nat.le_refl _) g4 (fun k e => by injection e with e; omega)
        have hJ4 := hJ3.keep g4 (by simpa using n1) (by simpa using n2) (by simpa using n3)
        have m1 := Lib.hid (quiet_mid hJ4)
        have m2 := Lib.hid (quiet_rmid hX4)
        have m3 := Lib.hid (quiet_region hJ4)
        have m4 := Lib.hid (quiet_ticks hJ4)
        have s2 : w4.cell? ⟨q, 2, none⟩ = some (.int .i64 j'.k) := hX4.hd.cell 2
        have s4 : w4.cell? ⟨q, 4, none⟩ = some (.int .i64 j'.all) := hX4.hd.cell 4
        have HJ := Lib.hid hJ4
        have HX := Lib.hid hX4
        have HW := Lib.hid hW4
        clear hT3 g4 hW3 hJ3 hX4 hJ4 hW4 n1 n2 n3 n4 n5
        go_wp2_with fail
        go_quiet ((first
          | (go_at_call 12; exact Calls.quiet_of_same (m1.out _))
          | (go_at_call 15; exact Calls.quiet_of_same (m2.out _))
          | (go_at_call 16; exact Calls.quiet_of_same (m3.out _))
          | (go_at_call 11; exact Calls.quiet_of_same (m4.out _))))
        go_wp2_with fail
        go_roundw
        case rel => exact ⟨t + 1, j', by omega, by go_num, HJ.out.drewN _, HX.out.drewN _, HE.out, below_drewN HW.out _⟩
        case measure => simp [intOf]; omega
      · go_wp2_with fail
        refine (known_any wr).mono ?_
        rintro e w5 ⟨rfl, b5⟩
        go_wp2
        go_ret
        exact ⟨rfl, hW.trans (b5.mono hW.size)⟩

/-! ### The row's step -/
set_option linter.unusedVariables false in
set_option maxRecDepth 100000 in
theorem lifted (os : Os) (started : os.Started) (H : Type) (enc : TypeId × Value → H) :
    ReturnsInHanded {} Try.checked os 6 .any (Rows.jobStepsSpec.pre6 enc Try.prog Try.f6 Rows.jobStepsRow.domain false) (Rows.jobStepsSpec.post enc Try.prog Try.f6 false true false false) := by
  refine returnsInHanded_of_change (C := Try.checked) own started (by kernel_rfl) Try.func6
    (ChangeSpec.witness6 (enc := enc) (C := Try.checked) false ⟨#[], #[.slice none 0 0, .slice none 0 0, .int .i64 0], []⟩ 8 (by kernel_rfl) (by kernel_rfl) (by kernel_rfl) (by kernel_rfl)) ?_
  intro W base args ds gs before hval0 hW hcnd _
  have hval : ∀ (j : Nat) t v, Try.f6.params[j]? = some t → args[j]? = some v → Value.okWide Try.prog W .any base t v := hval0
  have hW' := hW
  obtain ⟨p, q, hA0, hV, rfl, hfz, hnd⟩ := hW
  have hA : DataW.TrodAll enc Try.prog W 0 (fun _ => true) true Try.f6.params.toList args.toList ds p := hA0
  rw [Try.params6] at hA hval
  obtain ⟨v0, vs0, d0, ds0, p0, q0, hargs, rfl, rfl, h0, r0⟩ := trodAll_cons hA
  obtain ⟨v1, vs1, d1, ds1, p1, q1, rfl, rfl, rfl, h1, r1⟩ := trodAll_cons r0
  obtain ⟨v2, vs2, d2, ds2, p2, q2, rfl, rfl, rfl, h2, r2⟩ := trodAll_cons r1
  obtain ⟨rfl, rfl, rfl⟩ := trodAll_nil r2
  obtain rfl : args = #[v0, v1, v2] := by cases args; simp_all
  obtain ⟨rfl, rfl⟩ := trodVars_none hV
  obtain ⟨a0, len0, cap0, rfl⟩ := okWide_slice Try.underlying22 (hval 0 22 v0 rfl rfl)
  have k0 := h0
  have lt0 : ∀ x ∈ p0, x.block < W.heap.size := by obtain ⟨m, hm⟩ := k0; exact DataW.trod_lt m _ _ _ hm
  obtain ⟨z0, w0⟩ : ∃ zs, IsRow .i64 W a0 len0 cap0 zs := by
    obtain ⟨fuel, hf⟩ := h0
    rcases open_ints Try.underlying22 Try.underlying2 (by kernel_rfl) hf with ⟨hcs, _⟩ | ⟨x, l, c, zs, hcs, _, hl, hm, hz, _, hcell, hwz⟩
    · simp [Value.cells] at hcs
      obtain ⟨rfl, rfl, rfl⟩ := hcs
      exact ⟨[], .inl ⟨rfl, rfl, rfl, rfl⟩⟩
    · simp [Value.cells] at hcs
      obtain ⟨rfl, rfl, rfl⟩ := hcs
      exact ⟨zs, .inr ⟨_, rfl, hl, hm, by simpa using hz, hcell, hwz⟩⟩
  obtain ⟨a1, len1, cap1, rfl⟩ := okWide_slice Try.underlying22 (hval 1 22 v1 rfl rfl)
  have k1 := h1
  have lt1 : ∀ x ∈ p1, x.block < W.heap.size := by obtain ⟨m, hm⟩ := k1; exact DataW.trod_lt m _ _ _ hm
  obtain ⟨z1, w1⟩ : ∃ zs, IsRow .i64 W a1 len1 cap1 zs := by
    obtain ⟨fuel, hf⟩ := h1
    rcases open_ints Try.underlying22 Try.underlying2 (by kernel_rfl) hf with ⟨hcs, _⟩ | ⟨x, l, c, zs, hcs, _, hl, hm, hz, _, hcell, hwz⟩
    · simp [Value.cells] at hcs
      obtain ⟨rfl, rfl, rfl⟩ := hcs
      exact ⟨[], .inl ⟨rfl, rfl, rfl, rfl⟩⟩
    · simp [Value.cells] at hcs
      obtain ⟨rfl, rfl, rfl⟩ := hcs
      exact ⟨zs, .inr ⟨_, rfl, hl, hm, by simpa using hz, hcell, hwz⟩⟩
  obtain ⟨a2, rfl, rfl, rfl, w2⟩ := open_int Try.underlying3 (hval 2 3 v2 rfl rfl) h2
  clear hA0 hval0
  refine (walk a0 len0 cap0 z0 a1 len1 cap1 z1 a2 W w0 w1 w2).mono fun e W' ⟨he, bel⟩ => ?_
  subst he
  exact ⟨_, rfl, _, _, _, [], _, [], hW', trodAll_mk1 (shut_bool Try.underlying4 _), (trodAll_cons_mk (Below.trod laidOut (by kernel_rfl) (of_decide_eq_true (by kernel_rfl)) k0 bel lt0) (trodAll_cons_mk (Below.trod laidOut (by kernel_rfl) (of_decide_eq_true (by kernel_rfl)) k1 bel lt1) (trodAll_cons_mk (shut_int Try.underlying3 w2) trodAll_mk0))), rfl, bel.frame _, fun h => by cases h⟩

theorem over : Rows.jobStepsRow.holds Try.pinned (OpenSpec.ofChange Rows.jobStepsSpec) :=
  OpenClaim.holds_of_wide 6 Try.f6 rfl rfl rfl rfl rfl rfl rfl ⟨rfl, rfl, rfl, rfl, rfl⟩ rfl rfl rfl rfl rfl (by kernel_rfl) Try.func6 (by kernel_rfl)
    (of_decide_eq_true (by kernel_rfl)) (by unfold Func.isWrapper; first | (rw [if_pos (by decide +kernel)]; kernel_rfl) | (rw [if_neg (by decide +kernel)]; exact ⟨rfl, rfl⟩))
    (fun os started H enc _ => lifted os started H enc)

/-- The statement. -/
theorem proved : Rows.JobStepsSaid := over
end Go.Proofs.Ytdamkcneecoimaa.jobSteps
