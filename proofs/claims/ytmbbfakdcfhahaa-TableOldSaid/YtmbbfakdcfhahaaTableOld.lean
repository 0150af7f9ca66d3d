/- Of every row of ticks and every bound the law TableOld returns true; no condition. -/
import Derived.Test.YtmbbfakdcfhahaaRows
import Derived.Test.YtmbbfakdcfhahaaKnown
import Derived.WalkKit
import Derived.ProofKit
import Derived.OpenShut
import Derived.ShutString
import Derived.ChangeOld
import Derived.Below
namespace Go.Proofs.Ytmbbfakdcfhahaa.tableOld
open Go.ChangeShapes Go.WideShapes Go.ChangeAt Go.RowKit
open Go.ChangeMaps (open_string shut_string)
set_option linter.unusedVariables false

theorem own : ownKnob Try.prog.godebug = none := by kernel_rfl
theorem laidOut : laidOutB Try.prog = true := by kernel_rfl

/-- WHAT THE WALK IS TOLD OF A SLICE OF INTEGERS THAT CAME IN: it is nil; or it leads to a row of 'cap' cells, the numbers 'zs' (the first 'len' are its elements, the rest its spare room), each fitting its kind. -/
def IsRow (k : IntKind) (w : World) (a : Option Addr) (len cap : Nat) (zs : List Int) : Prop :=
  (a = none ∧ len = 0 ∧ cap = 0 ∧ zs = []) ∨
  ∃ x, a = some x ∧ len ≤ cap ∧ cap ≤ maxLen ∧ zs.length = cap ∧ (∀ i, i < zs.length → w.cell? (x.add i) = some (.int k (zs.getD i 0))) ∧ ∀ n ∈ zs, (Lit.int k n).wf = true

/-! ### The walk -/
open Go.Proofs.Ytmbbfakdcfhahaa in
def mk (z : Int) : St := ⟨true, false, false, z⟩
def tabAt (zs : List Int) (n k : Nat) : List St := (List.range n).map fun j => if j < k then mk (zs.getD j 0) else ⟨false, false, false, 0⟩
def lsAt (zs : List Int) (A k : Nat) : Int × Bool := oldL ((List.range (min k A)).map fun j => mk (zs.getD j 0))

theorem tabAt_length (zs : List Int) (n k : Nat) : (tabAt zs n k).length = n := by simp [tabAt]
theorem tabAt_zero (zs : List Int) (n : Nat) : tabAt zs n 0 = zeros n := by
  apply List.ext_getElem
  · simp [tabAt, zeros]
  · intro i h1 h2; simp [tabAt, zeros]
theorem hasL_tabAt (zs : List Int) (n k : Nat) (h : k < n) : hasL (tabAt zs n k) k = false := by
  rw [hasL_in (by rw [tabAt_length]; exact h)]
  simp [tabAt]
theorem putOk_tabAt (zs : List Int) (n k : Nat) (h : k < n) : putOk (tabAt zs n k) k = true := by
  simp [putOk, hasL_tabAt zs n k h, tabAt_length, h]
theorem putL_tabAt (zs : List Int) (n k : Nat) (h : k < n) : putL (tabAt zs n k) k (zs.getD k 0) = tabAt zs n (k + 1) := by
  unfold putL
  rw [if_pos (putOk_tabAt zs n k h), Int.toNat_natCast]
  apply List.ext_getElem
  · simp [tabAt]
  · intro i h1 h2
    rw [List.getElem_set]
    by_cases e : k = i
    · subst e
      rw [if_pos rfl]
      simp only [tabAt, List.getElem_map, List.getElem_range]
      rw [if_pos (by omega)]
      rfl
    · rw [if_neg e]
      simp only [tabAt, List.getElem_map, List.getElem_range]
      by_cases l : i < k
      · rw [if_pos l, if_pos (by omega)]
      · rw [if_neg l, if_neg (by omega)]
theorem lsAt_last (zs : List Int) (n A : Nat) : oldL ((tabAt zs n n).take A) = lsAt zs A n := by
  unfold lsAt tabAt
  rw [← List.map_take, List.take_range, Nat.min_comm]
  congr 1
  apply List.map_congr_left
  intro j hj
  rw [if_pos (by simp at hj; omega)]
theorem lsAt_lt (zs : List Int) (A k : Nat) (h : k < A) : lsAt zs A (k + 1) = oldStep (lsAt zs A k) (mk (zs.getD k 0)) := by
  unfold lsAt
  rw [show min (k + 1) A = k + 1 from by omega, show min k A = k from by omega, List.range_succ, List.map_append]
  unfold oldL
  rw [List.foldl_append]
  rfl
theorem lsAt_ge (zs : List Int) (A k : Nat) (h : A ≤ k) : lsAt zs A (k + 1) = lsAt zs A k := by
  unfold lsAt
  rw [show min (k + 1) A = A from by omega, show min k A = A from by omega]

set_option maxHeartbeats 1000000 in
theorem walk (a0 : Option Addr) (len0 cap0 : Nat) (z0 : List Int) (a1 : Int) (w : World) (w0 : IsRow .i64 w a0 len0 cap0 z0) (w1 : (Lit.int .i64 a1).wf = true) :
    Calls Try.prog 3 #[.slice a0 len0 cap0, .int .i64 a1] w fun e w' => e = .returned (.bool true) ∧ Below w.heap.size w w' := by
  rcases w0 with ⟨rfl, rfl, rfl, rfl⟩ | ⟨x, rfl, hl, hm, hz, hcell, hwz⟩
  · go_enter Try.func3, Try.ntmps3
    go_wp2
    go_ret
    exact ⟨rfl, Below.refl _ _⟩
  · by_cases h0 : len0 < 1
    · go_enter Try.func3, Try.ntmps3
      go_wp2
      go_ret
      exact ⟨rfl, Below.refl _ _⟩
    · by_cases h8 : 8 < len0
      · go_enter Try.func3, Try.ntmps3
        go_wp2
        go_ret
        exact ⟨rfl, Below.refl _ _⟩
      · obtain ⟨b, off, spot⟩ := x
        have hc := hcell 0 (by omega)
        have hspot : spot = none := by simpa [Addr.add] using World.cell?_spot hc
        subst hspot
        have hcl : ∀ i, i < len0 → w.cell? ⟨b, off + i, none⟩ = some (.int .i64 (z0.getD i 0)) := by
          intro i hi
          have := hcell i (by omega)
          unfold Addr.add at this
          by_cases hi0 : i = 0
          · subst hi0; simpa using this
          · simpa [hi0] using this
        have hb : b < w.heap.size := World.block_lt_of_cell? w _ hc
        clear hcell hc hwz w1 hm hl
        have hcl' := Lib.hid hcl; clear hcl
        go_enter Try.func3, Try.ntmps3
        go_wp2_with fail
        refine (tnew_yes len0 (by omega) (by omega) w).mono ?_
        rintro e w1 ⟨rfl, h1, b1⟩
        rw [← tabAt_zero z0] at h1
        go_wp2_with fail
        go_loopw [6, 7, 8] (fun x y z wr => ∃ k : Nat, k ≤ len0 ∧ z = .int .i64 k ∧ x = .int .i64 (lsAt z0 a1.toNat k).1 ∧ y = .bool (lsAt z0 a1.toNat k).2 ∧ Tab wr 48 (w.heap.size + 1) w.heap.size (tabAt z0 len0 k) ∧ Below w.heap.size w wr) (fun _ _ z _ => len0 - (intOf z).toNat)
        case atStart => exact ⟨0, Nat.zero_le _, rfl, by simp [lsAt, oldL], by simp [lsAt, oldL], h1, b1⟩
        case round =>
          obtain ⟨k, hk, rfl, rfl, rfl, hT, hB⟩ := hrel
          clear h1 b1
          by_cases hlt : k < len0
          · have hcell : wr.cell? ⟨b, off + k, none⟩ = some (.int .i64 (z0.getD k 0)) := (hB.cell (p := ⟨b, off + k, none⟩) hb).trans (hcl'.out k hlt)
            have HP := Lib.hid (putOk_tabAt z0 len0 k hlt)
            have HQ := Lib.hid (putL_tabAt z0 len0 k hlt)
            by_cases hka : (k : Int) < a1
            · have HL := Lib.hid (lsAt_lt z0 a1.toNat k (by omega))
              go_wp2_with fail
              refine (tput_any (w.heap.size + 1) w.heap.size _ k (z0.getD k 0) wr hT).mono ?_
              rintro e w2 ⟨rfl, h2, g2⟩
              rw [HP.out]
              rw [HQ.out] at h2
              have hB2 : Below w.heap.size w w2 := hB.grown g2 hB.size (fun k e => by injection e with e; omega)
              have hcell2 : w2.cell? ⟨b, off + k, none⟩ = some (.int .i64 (z0.getD k 0)) := (hB2.cell (p := ⟨b, off + k, none⟩) hb).trans (hcl'.out k hlt)
              clear hcell hT hB g2
              go_wp2
              all_goals
                refine ⟨⟨k + 1, by omega, by go_num, ?_, ?_, h2, hB2⟩, by simp [intOf]; omega⟩
                all_goals
                  rw [HL.out]
                  first
                    | (simp [oldStep, mk, *]; done)
                    | (rw [show oldStep (lsAt z0 a1.toNat k) (mk (z0.getD k 0)) = lsAt z0 a1.toNat k from by unfold oldStep; rw [if_neg (by simp [mk, *])]]; done)
                    | (rw [show oldStep (lsAt z0 a1.toNat k) (mk (z0.getD k 0)) = lsAt z0 a1.toNat k from by unfold oldStep; rw [if_neg (by simp [mk, *])]]; simp [*]; done)
            · have HL := Lib.hid (lsAt_ge z0 a1.toNat k (by omega))
              go_wp2_with fail
              refine (tput_any (w.heap.size + 1) w.heap.size _ k (z0.getD k 0) wr hT).mono ?_
              rintro e w2 ⟨rfl, h2, g2⟩
              rw [HP.out]
              rw [HQ.out] at h2
              have hB2 : Below w.heap.size w w2 := hB.grown g2 hB.size (fun k e => by injection e with e; omega)
              clear hcell hT hB g2
              go_wp2
              refine ⟨⟨k + 1, by omega, by go_num, ?_, ?_, h2, hB2⟩, by simp [intOf]; omega⟩
              · rw [HL.out]
              · rw [HL.out]
          · obtain rfl : k = len0 := by omega
            have HX := Lib.hid (lsAt_last z0 k a1.toNat)
            go_wp2_with fail
            refine (toldest_any (w.heap.size + 1) w.heap.size _ a1 wr hT (by rw [tabAt_length]; omega) (by rw [tabAt_length]; omega)).mono ?_
            rintro e w2 ⟨rfl, g2⟩
            rw [HX.out]
            have hB2 : Below w.heap.size w w2 := hB.grown g2 hB.size (fun k e => by cases e)
            clear hT hB g2
            go_wp2_with fail
            refine (known_any w2).mono ?_
            rintro e w3 ⟨rfl, b3⟩
            go_wp2
            go_ret
            exact ⟨rfl, hB2.trans (b3.mono hB2.size)⟩

/-! ### The row's step -/
set_option maxRecDepth 100000 in
theorem lifted (os : Os) (started : os.Started) (H : Type) (enc : TypeId × Value → H) :
    ReturnsInHanded {} Try.checked os 3 .any (Rows.tableOldSpec.pre6 enc Try.prog Try.f3 Rows.tableOldRow.domain false) (Rows.tableOldSpec.post enc Try.prog Try.f3 false true false false) := by
  refine returnsInHanded_of_change (C := Try.checked) own started (by kernel_rfl) Try.func3
    (ChangeSpec.witness6 (enc := enc) (C := Try.checked) false ⟨#[], #[.slice none 0 0, .int .i64 0], []⟩ 8 (by kernel_rfl) (by kernel_rfl) (by kernel_rfl) (by kernel_rfl)) ?_
  intro W base args ds gs before hval0 hW hcnd _
  have hval : ∀ (j : Nat) t v, Try.f3.params[j]? = some t → args[j]? = some v → Value.okWide Try.prog W .any base t v := hval0
  have hW' := hW
  obtain ⟨p, q, hA0, hV, rfl, hfz, hnd⟩ := hW
  have hA : DataW.TrodAll enc Try.prog W 0 (fun _ => true) true Try.f3.params.toList args.toList ds p := hA0
  rw [Try.params3] at hA hval
  obtain ⟨v0, vs0, d0, ds0, p0, q0, hargs, rfl, rfl, h0, r0⟩ := trodAll_cons hA
  obtain ⟨v1, vs1, d1, ds1, p1, q1, rfl, rfl, rfl, h1, r1⟩ := trodAll_cons r0
  obtain ⟨rfl, rfl, rfl⟩ := trodAll_nil r1
  obtain rfl : args = #[v0, v1] := by cases args; simp_all
  obtain ⟨rfl, rfl⟩ := trodVars_none hV
  obtain ⟨a0, len0, cap0, rfl⟩ := okWide_slice Try.underlying22 (hval 0 22 v0 rfl rfl)
  have k0 := h0
  have lt0 : ∀ x ∈ p0, x.block < W.heap.size := by obtain ⟨m, hm⟩ := k0; exact DataW.trod_lt m _ _ _ hm
  obtain ⟨z0, w0⟩ : ∃ zs, IsRow .i64 W a0 len0 cap0 zs := by
    obtain ⟨fuel, hf⟩ := h0
    rcases open_ints Try.underlying22 Try.underlying2 (by kernel_rfl) hf with ⟨hcs, _⟩ | ⟨x, l, c, zs, hcs, _, hl, hm, hz, _, hcell, hwz⟩
    · simp [Value.cells] at hcs
      obtain ⟨rfl, rfl, rfl⟩ := hcs
      exact ⟨[], .inl ⟨rfl, rfl, rfl, rfl⟩⟩
    · simp [Value.cells] at hcs
      obtain ⟨rfl, rfl, rfl⟩ := hcs
      exact ⟨zs, .inr ⟨_, rfl, hl, hm, by simpa using hz, hcell, hwz⟩⟩
  obtain ⟨a1, rfl, rfl, rfl, w1⟩ := open_int Try.underlying3 (hval 1 3 v1 rfl rfl) h1
  clear hA0 hval0
  refine (walk a0 len0 cap0 z0 a1 W w0 w1).mono fun e W' ⟨he, bel⟩ => ?_
  subst he
  exact ⟨_, rfl, _, _, _, [], _, [], hW', trodAll_mk1 (shut_bool Try.underlying4 _), (trodAll_cons_mk (Below.trod laidOut (by kernel_rfl) (of_decide_eq_true (by kernel_rfl)) k0 bel lt0) (trodAll_cons_mk (shut_int Try.underlying3 w1) trodAll_mk0)), rfl, bel.frame _, fun h => by cases h⟩

theorem over : Rows.tableOldRow.holds Try.pinned (OpenSpec.ofChange Rows.tableOldSpec) :=
  OpenClaim.holds_of_wide 3 Try.f3 rfl rfl rfl rfl rfl rfl rfl ⟨rfl, rfl, rfl, rfl, rfl⟩ rfl rfl rfl rfl rfl (by kernel_rfl) Try.func3 (by kernel_rfl)
    (of_decide_eq_true (by kernel_rfl)) (by unfold Func.isWrapper; first | (rw [if_pos (by decide +kernel)]; kernel_rfl) | (rw [if_neg (by decide +kernel)]; exact ⟨rfl, rfl⟩))
    (fun os started H enc _ => lifted os started H enc)

/-- The statement. -/
theorem proved : Rows.TableOldSaid := over
end Go.Proofs.Ytmbbfakdcfhahaa.tableOld
