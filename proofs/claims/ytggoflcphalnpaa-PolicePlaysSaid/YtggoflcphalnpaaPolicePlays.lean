/- Of every row of periods and every script the law PolicePlays returns true; no condition. -/
import Derived.Test.YtggoflcphalnpaaDuo
import Derived.Deep.RegionWith
import Derived.Test.YtggoflcphalnpaaRows
import Derived.WalkKit
import Derived.ProofKit
import Derived.OpenShut
import Derived.ShutString
import Derived.ChangeOld
import Derived.Below
namespace Go.Proofs.Ytggoflcphalnpaa.policePlays
open Go.ChangeShapes Go.WideShapes Go.ChangeAt Go.RowKit
open Go.ChangeMaps (open_string shut_string)

theorem own : ownKnob Try.prog.godebug = none := by kernel_rfl
theorem laidOut : laidOutB Try.prog = true := by kernel_rfl

/-- A slice of whole numbers that came in: nil, or a row of 'cap' cells that holds the numbers 'zs', of which the first 'len' are its elements. -/
def IsRow (k : IntKind) (w : World) (a : Option Addr) (len cap : Nat) (zs : List Int) : Prop :=
  (a = none ∧ len = 0 ∧ cap = 0 ∧ zs = []) ∨
  ∃ x, a = some x ∧ len ≤ cap ∧ cap ≤ maxLen ∧ zs.length = cap ∧ (∀ i, i < zs.length → w.cell? (x.add i) = some (.int k (zs.getD i 0))) ∧ ∀ n ∈ zs, (Lit.int k n).wf = true

/-! ### The walk -/
theorem row_open {w : World} {a : Option Addr} {len cap : Nat} {z : List Int} (h : IsRow .i64 w a len cap z) :
    ∃ zs : List Int, zs.length = len ∧ Nums w a zs := by
  rcases h with ⟨rfl, rfl, rfl, rfl⟩ | ⟨⟨b, off, spot⟩, rfl, hl, hm, hz, hcell, hwz⟩
  · exact ⟨[], rfl, .inl rfl⟩
  · refine ⟨z.take len, by simp; omega, ?_⟩
    by_cases h0 : len = 0
    · left; simp [h0]
    · have hc := hcell 0 (by omega)
      have hspot : spot = none := by simpa [Addr.add] using World.cell?_spot hc
      subst hspot
      refine .inr ⟨b, off, rfl, World.block_lt_of_cell? w _ hc, fun i hi => ?_⟩
      have hi' : i < len := by simp at hi; omega
      have := hcell i (by omega)
      rw [add_none] at this
      rw [this]
      simp [List.getD, show i < z.length from by omega]

set_option maxRecDepth 100000 in
set_option maxHeartbeats 8000000 in
theorem walk (a0 : Option Addr) (len0 cap0 : Nat) (z0 : List Int) (a1 : Option Addr) (len1 cap1 : Nat) (X1 : Nat → Act) (w : World) (w0 : IsRow .i64 w a0 len0 cap0 z0) (w1 : IsActs w a1 len1 X1) :
    Calls Try.prog 3 #[.slice a0 len0 cap0, .slice a1 len1 cap1] w fun e w' => e = .returned (.bool true) ∧ Below w.heap.size w w' := by
  obtain ⟨zs, rfl, hR⟩ := row_open w0
  have HA := Lib.hid w1
  clear w0 w1
  by_cases c1 : 20 < zs.length
  · go_enter Try.func3, Try.ntmps3
    go_wp2
    go_ret
    exact ⟨rfl, Below.refl _ _⟩
  by_cases c2 : 100 < len1
  · go_enter Try.func3, Try.ntmps3
    go_wp2
    go_ret
    exact ⟨rfl, Below.refl _ _⟩
  by_cases c3 : 8 < zs.length
  · have H1 := new_no a0 cap0 zs w hR (.inl c3)
    have H2 := rnew_no a0 cap0 zs w c3
    clear hR
    go_enter Try.func3, Try.ntmps3
    go_wp2_with fail
    refine H1.mono ?_
    rintro e w1 ⟨rfl, rfl⟩
    go_wp2_with fail
    refine H2.mono ?_
    rintro e w1 ⟨rfl, rfl⟩
    clear H1 H2
    go_wp2_with fail
    go_loopw [7] (fun z wr => z = .int .i64 0 ∧ wr = w.drewN 0) (fun _ _ => 0)
    case atStart => exact ⟨rfl, rfl⟩
    case round =>
      obtain ⟨rfl, rfl⟩ := hrel
      go_wp2_with fail
      refine (known_any _).mono ?_
      rintro e w5 ⟨rfl, b5⟩
      go_wp2
      go_ret
      exact ⟨rfl, b5⟩
  have d8 : zs.length ≤ 8 := by omega
  cases hodd : zs.any odd with
  | true =>
    have H1 := new_no a0 cap0 zs w hR (.inr hodd)
    have H2 := rnew_any a0 cap0 zs w hR d8
    have HO := Lib.hid hodd
    clear hR hodd
    go_enter Try.func3, Try.ntmps3
    go_wp2_with fail
    refine H1.mono ?_
    rintro e w1 ⟨rfl, rfl⟩
    go_wp2_with fail
    refine H2.mono ?_
    rintro e w1 hP
    unfold NewPost at hP
    rw [HO.out] at hP
    rcases hP with ⟨_, rfl, k1⟩ | ⟨h, _⟩
    case inr => cases h
    clear H1 H2
    go_wp2_with fail
    go_loopw [7] (fun z wr => z = .int .i64 0 ∧ wr = w1.drewN 0) (fun _ _ => 0)
    case atStart => exact ⟨rfl, rfl⟩
    case round =>
      obtain ⟨rfl, rfl⟩ := hrel
      go_wp2_with fail
      refine (known_any _).mono ?_
      rintro e w5 ⟨rfl, b5⟩
      go_wp2
      go_ret
      exact ⟨rfl, k1.trans (b5.mono k1.size)⟩
  | false =>
    have H1 := new_yes a0 cap0 zs w hR d8 hodd
    have H2 := fun w1 (k1 : Below w.heap.size w w1) => rnew_any a0 cap0 zs w1 (hR.below k1) d8
    have HO := Lib.hid hodd
    clear hR hodd
    go_enter Try.func3, Try.ntmps3
    go_wp2_with fail
    refine H1.mono ?_
    rintro e w1 ⟨v1, rfl, hJ, k1⟩
    have H3 := H2 w1 k1
    clear H1 H2
    go_wp2_with fail
    refine H3.mono ?_
    rintro e w2 hP
    unfold NewPost at hP
    rw [HO.out] at hP
    rcases hP with ⟨h, _⟩ | ⟨_, v2, u2, rfl, hX, k2⟩
    · cases h
    have f : ∀ v : Value, v.ownBlock = none ∨ v.ownBlock ≠ none := fun v => by cases v.ownBlock <;> simp
    have hT : Duo w w2 (w.heap.size + 1) w.heap.size v1 (w1.heap.size + 1) w1.heap.size v2 u2 (zs.map mkW) :=
      ⟨hJ.keep (only_of_below k2 none) (by simp) (f _), hX, by intro x hx; obtain ⟨y, _, rfl⟩ := List.mem_map.1 hx; simp [mkW], k1.trans (k2.mono k1.size), by omega, by have := k1.size; omega⟩
    obtain ⟨L, hL⟩ : ∃ L, zs.map mkW = L := ⟨_, rfl⟩
    obtain ⟨q1, hq1⟩ : ∃ q, w.heap.size = q := ⟨_, rfl⟩
    obtain ⟨q2, hq2⟩ : ∃ q, w1.heap.size = q := ⟨_, rfl⟩
    rw [hL, hq2] at hT
    rw [hq2]
    have hT' := hT
    rw [hq1] at hT' ⊢
    have HQ := Lib.hid hq1
    clear hq1 hq2 hL hT H3 hJ hX k1 k2 f
    go_wp2_with fail
    go_loopw [7] (fun z wr => ∃ (k : Nat) (L : List Wt), k ≤ len1 ∧ z = .int .i64 k ∧ Duo w wr (q1 + 1) q1 v1 (q2 + 1) q2 v2 u2 L) (fun z _ => len1 - (intOf z).toNat)
    case atStart => exact ⟨0, _, Nat.zero_le _, rfl, hT'⟩
    case round =>
      obtain ⟨k, L, hk, rfl, hb⟩ := hrel
      clear hT'
      by_cases hlt : k < len1
      · rcases HA.out with h0 | ⟨b, off, rfl, hbl, hcell⟩
        · omega
        obtain ⟨⟨d0, d1, d2⟩, t0, t1⟩ := hcell k hlt
        obtain ⟨tk, ti, nt, hX⟩ : ∃ tk ti nt, X1 k = ⟨tk, ti, nt⟩ := ⟨_, _, _, rfl⟩
        rw [hX] at d0 d1 d2 t0 t1
        have p0 : wr.cell? ⟨b, off + k * 3, none⟩ = some (.int .i64 tk) := (hb.b.cell (p := ⟨b, off + k * 3, none⟩) hbl).trans d0
        have p1 : wr.cell? ⟨b, off + k * 3 + 1, none⟩ = some (.int .i64 ti) := (hb.b.cell (p := ⟨b, off + (k * 3 + 1), none⟩) hbl).trans d1
        have p2 : wr.cell? ⟨b, off + k * 3 + 2, none⟩ = some (.bool nt) := (hb.b.cell (p := ⟨b, off + (k * 3 + 2), none⟩) hbl).trans d2
        clear d0 d1 d2 hcell hX
        cases nt with
        | true =>
          have A0 := Blk.new wr 29 #[.int .i64 tk, .int .i64 ti, .bool true]
          have A1 := hb.alloc (.cells #[.int .i64 tk, .int .i64 ti, .bool true] 29)
          have HA0 := Lib.hid A0
          have HA1 := Lib.hid A1
          clear A0 A1 hb
          go_wp2_with fail
          obtain ⟨wa, hwa⟩ : ∃ wa, wr.alloc (.cells #[.int .i64 tk, .int .i64 ti, .bool true] 29) = wa := ⟨_, rfl⟩
          obtain ⟨ga, hgae⟩ : ∃ ga, wr.heap.size = ga := ⟨_, rfl⟩
          have T : Duo w wa (q1 + 1) q1 v1 (q2 + 1) q2 v2 u2 L := by rw [← hwa]; exact HA1.out
          have D0 : Blk wa ga 29 #[.int .i64 tk, .int .i64 ti, .bool true] := by rw [← hwa, ← hgae]; exact HA0.out
          have r0 : wa.cell? ⟨ga, 0, none⟩ = some (.int .i64 tk) := D0.cell 0
          have r1 : wa.cell? ⟨ga, 1, none⟩ = some (.int .i64 ti) := D0.cell 1
          have r2 : wa.cell? ⟨ga, 2, none⟩ = some (.bool true) := D0.cell 2
          rw [hwa, hgae]
          clear hwa hgae HA0 HA1 p0 p1 p2
          go_region_held3 (fun w' => w'.cell? ⟨ga, 0, none⟩ = some (.int .i64 tk) ∧ w'.cell? ⟨ga, 1, none⟩ = some (.int .i64 ti) ∧ w'.cell? ⟨ga, 2, none⟩ = some (.bool true)) (go_keep) (first
              | (go_at_call 8
                 refine (early_any tk ti T.ok t0 t1 _ T.drew.one).mono ?_
                 rintro e w3 ⟨rfl, m3, hw3⟩
                 have T3 : Duo w w3 (q1 + 1) q1 v1 (q2 + 1) q2 v2 u2 L := by rw [← hw3]; exact T.drew.drewN m3
                 have D3 : Blk w3 ga 29 #[.int .i64 tk, .int .i64 ti, .bool true] := by rw [← hw3]; exact (D0.drew).drewN m3
                 have r30 : w3.cell? ⟨ga, 0, none⟩ = some (.int .i64 tk) := D3.cell 0
                 have r31 : w3.cell? ⟨ga, 1, none⟩ = some (.int .i64 ti) := D3.cell 1
                 have r32 : w3.cell? ⟨ga, 2, none⟩ = some (.bool true) := D3.cell 2
                 clear hw3)
              | (go_at_call 9
                 refine (rearly_any tk ti T.ok t0 t1 _ T3.two).mono ?_
                 rintro e w4 ⟨rfl, m4, hw4⟩
                 have T4 : Duo w w4 (q1 + 1) q1 v1 (q2 + 1) q2 v2 u2 L := by rw [← hw4]; exact T3.drewN m4
                 have D4 : Blk w4 ga 29 #[.int .i64 tk, .int .i64 ti, .bool true] := by rw [← hw4]; exact D3.drewN m4
                 have r40 : w4.cell? ⟨ga, 0, none⟩ = some (.int .i64 tk) := D4.cell 0
                 have r41 : w4.cell? ⟨ga, 1, none⟩ = some (.int .i64 ti) := D4.cell 1
                 have r42 : w4.cell? ⟨ga, 2, none⟩ = some (.bool true) := D4.cell 2
                 clear hw4)
              | (go_at_call 10
                 refine (note_any tk ti T.ok t0 t1 _ T4.one).mono ?_
                 rintro e w5 ⟨rfl, h5, g5⟩
                 have D5 : Blk w5 ga 29 #[.int .i64 tk, .int .i64 ti, .bool true] := D4.grown g5 (own_blk_ne T4.one.own D4 (by decide)).symm
                 have r50 : w5.cell? ⟨ga, 0, none⟩ = some (.int .i64 tk) := D5.cell 0
                 have r51 : w5.cell? ⟨ga, 1, none⟩ = some (.int .i64 ti) := D5.cell 1
                 have r52 : w5.cell? ⟨ga, 2, none⟩ = some (.bool true) := D5.cell 2
                 have T5 := T4.half h5 g5
                 clear h5 g5)
              | (go_at_call 11
                 refine (rnote_any tk ti T5.ok t0 t1 _ T5.two).mono ?_
                 rintro e w6 ⟨rfl, h6, g6⟩
                 have D6 : Blk w6 ga 29 #[.int .i64 tk, .int .i64 ti, .bool true] := D5.grown g6 (own_blk_ne T5.two.last D5 (by decide)).symm
                 have r60 : w6.cell? ⟨ga, 0, none⟩ = some (.int .i64 tk) := D6.cell 0
                 have r61 : w6.cell? ⟨ga, 1, none⟩ = some (.int .i64 ti) := D6.cell 1
                 have r62 : w6.cell? ⟨ga, 2, none⟩ = some (.bool true) := D6.cell 2
                 have T6 := T5.duo (OkL.note T5.ok tk ti t1) h6 g6
                 clear h6 g6))
          clear T T3 T4 T5 D0 D3 D4 D5 D6 r30 r31 r32 r40 r41 r42 r50 r51 r52 r60 r61 r62
          go_wp2_with fail
          go_roundw
          case rel => exact ⟨k + 1, _, by omega, by go_num, T6⟩
          case measure => simp [intOf]; omega
        | false =>
          have A0 := Blk.new wr 29 #[.int .i64 tk, .int .i64 ti, .bool false]
          have A1 := hb.alloc (.cells #[.int .i64 tk, .int .i64 ti, .bool false] 29)
          have HA0 := Lib.hid A0
          have HA1 := Lib.hid A1
          clear A0 A1 hb
          go_wp2_with fail
          obtain ⟨wa, hwa⟩ : ∃ wa, wr.alloc (.cells #[.int .i64 tk, .int .i64 ti, .bool false] 29) = wa := ⟨_, rfl⟩
          obtain ⟨ga, hgae⟩ : ∃ ga, wr.heap.size = ga := ⟨_, rfl⟩
          have T : Duo w wa (q1 + 1) q1 v1 (q2 + 1) q2 v2 u2 L := by rw [← hwa]; exact HA1.out
          have D0 : Blk wa ga 29 #[.int .i64 tk, .int .i64 ti, .bool false] := by rw [← hwa, ← hgae]; exact HA0.out
          have r0 : wa.cell? ⟨ga, 0, none⟩ = some (.int .i64 tk) := D0.cell 0
          have r1 : wa.cell? ⟨ga, 1, none⟩ = some (.int .i64 ti) := D0.cell 1
          have r2 : wa.cell? ⟨ga, 2, none⟩ = some (.bool false) := D0.cell 2
          rw [hwa, hgae]
          have E1 : ∀ n, Calls Try.prog 8 #[.pointer (some ⟨q1, 0, none⟩), .int .i64 tk, .int .i64 ti] (wa.drewN n) fun e w' => e = .returned (.bool (earlyL L tk ti)) ∧ ∃ m, w' = (wa.drewN n).drewN m := by
            intro n
            refine (early_any tk ti T.ok t0 t1 _ (T.drewN n).one).mono ?_
            rintro e w' ⟨rfl, m, hm⟩
            exact ⟨rfl, m, hm.symm⟩
          have E2 : ∀ n, Calls Try.prog 9 #[.pointer (some ⟨q2, 0, none⟩), .int .i64 tk, .int .i64 ti] (wa.drewN n) fun e w' => e = .returned (.bool (earlyL L tk ti)) ∧ ∃ m, w' = (wa.drewN n).drewN m := by
            intro n
            refine (rearly_any tk ti T.ok t0 t1 _ (T.drewN n).two).mono ?_
            rintro e w' ⟨rfl, m, hm⟩
            exact ⟨rfl, m, hm.symm⟩
          have HE1 := hide E1
          have HE2 := hide E2
          have HT := Lib.hid T
          clear E1 E2 hwa hgae HA0 HA1 p0 p1 p2 T D0
          go_quiet (first | (go_at_call 8; exact Calls.quiet_of (HE1.out _)) | (go_at_call 9; exact Calls.quiet_of (HE2.out _)))
          clear HE1 HE2 r0 r1 r2
          go_wp2_with fail
          go_roundw
          case rel => exact ⟨k + 1, _, by omega, by go_num, HT.out.drewN _⟩
          case measure => simp [intOf]; omega
      · go_wp2_with fail
        refine (known_any wr).mono ?_
        rintro e w4 ⟨rfl, b4⟩
        go_wp2
        go_ret
        exact ⟨rfl, hb.b.trans (b4.mono hb.b.size)⟩

/-! ### The row's step -/
set_option linter.unusedVariables false in
set_option maxRecDepth 100000 in
theorem lifted (os : Os) (started : os.Started) (H : Type) (enc : TypeId × Value → H) :
    ReturnsInHanded {} Try.checked os 3 .any (Rows.policePlaysSpec.pre6 enc Try.prog Try.f3 Rows.policePlaysRow.domain false) (Rows.policePlaysSpec.post enc Try.prog Try.f3 false true false false) := by
  refine returnsInHanded_of_change (C := Try.checked) own started (by kernel_rfl) Try.func3
    (ChangeSpec.witness6 (enc := enc) (C := Try.checked) false ⟨#[], #[.slice none 0 0, .slice none 0 0], []⟩ 8 (by kernel_rfl) (by kernel_rfl) (by kernel_rfl) (by kernel_rfl)) ?_
  intro W base args ds gs before hval0 hW hcnd _
  have hval : ∀ (j : Nat) t v, Try.f3.params[j]? = some t → args[j]? = some v → Value.okWide Try.prog W .any base t v := hval0
  have hW' := hW
  obtain ⟨p, q, hA0, hV, rfl, hfz, hnd⟩ := hW
  have hA : DataW.TrodAll enc Try.prog W 0 (fun _ => true) true Try.f3.params.toList args.toList ds p := hA0
  rw [Try.params3] at hA hval
  obtain ⟨v0, vs0, d0, ds0, p0, q0, hargs, rfl, rfl, h0, r0⟩ := trodAll_cons hA
  obtain ⟨v1, vs1, d1, ds1, p1, q1, rfl, rfl, rfl, h1, r1⟩ := trodAll_cons r0
  obtain ⟨rfl, rfl, rfl⟩ := trodAll_nil r1
  obtain rfl : args = #[v0, v1] := by cases args; simp_all
  obtain ⟨rfl, rfl⟩ := trodVars_none hV
  obtain ⟨a0, len0, cap0, rfl⟩ := okWide_slice Try.underlying22 (hval 0 22 v0 rfl rfl)
  have k0 := h0
  have lt0 : ∀ x ∈ p0, x.block < W.heap.size := by obtain ⟨m, hm⟩ := k0; exact DataW.trod_lt m _ _ _ hm
  obtain ⟨z0, w0⟩ : ∃ zs, IsRow .i64 W a0 len0 cap0 zs := by
    obtain ⟨fuel, hf⟩ := h0
    rcases open_ints Try.underlying22 Try.underlying2 (by kernel_rfl) hf with ⟨hcs, _⟩ | ⟨x, l, c, zs, hcs, _, hl, hm, hz, _, hcell, hwz⟩
    · simp [Value.cells] at hcs
      obtain ⟨rfl, rfl, rfl⟩ := hcs
      exact ⟨[], .inl ⟨rfl, rfl, rfl, rfl⟩⟩
    · simp [Value.cells] at hcs
      obtain ⟨rfl, rfl, rfl⟩ := hcs
      exact ⟨zs, .inr ⟨_, rfl, hl, hm, by simpa using hz, hcell, hwz⟩⟩
  have k1 := h1
  have lt1 : ∀ x ∈ p1, x.block < W.heap.size := by obtain ⟨m, hm⟩ := k1; exact DataW.trod_lt m _ _ _ hm
  obtain ⟨a1, len1, cap1, rfl⟩ := okWide_slice Try.underlying23 (hval 1 23 v1 rfl rfl)
  obtain ⟨X1, w1⟩ : ∃ X, IsActs W a1 len1 X := by
    obtain ⟨fuel, hf⟩ := h1
    exact open_acts (by simpa [Value.cells] using hf)
  clear hA0 hval0
  refine (walk a0 len0 cap0 z0 a1 len1 cap1 X1 W w0 w1).mono fun e W' ⟨he, bel⟩ => ?_
  subst he
  exact ⟨_, rfl, _, _, _, [], _, [], hW', trodAll_mk1 (shut_bool Try.underlying4 _), (trodAll_cons_mk (Below.trod laidOut (by kernel_rfl) (of_decide_eq_true (by kernel_rfl)) k0 bel lt0) (trodAll_cons_mk (Below.trod laidOut (by kernel_rfl) (of_decide_eq_true (by kernel_rfl)) k1 bel lt1) trodAll_mk0)), rfl, bel.frame _, fun h => by cases h⟩

theorem over : Rows.policePlaysRow.holds Try.pinned (OpenSpec.ofChange Rows.policePlaysSpec) :=
  OpenClaim.holds_of_wide 3 Try.f3 rfl rfl rfl rfl rfl rfl rfl ⟨rfl, rfl, rfl, rfl, rfl⟩ rfl rfl rfl rfl rfl (by kernel_rfl) Try.func3 (by kernel_rfl)
    (of_decide_eq_true (by kernel_rfl)) (by unfold Func.isWrapper; first | (rw [if_pos (by decide +kernel)]; kernel_rfl) | (rw [if_neg (by decide +kernel)]; exact ⟨rfl, rfl⟩))
    (fun os started H enc _ => lifted os started H enc)

/-- The statement. -/
theorem proved : Rows.PolicePlaysSaid := over
end Go.Proofs.Ytggoflcphalnpaa.policePlays
