/- Of every period and every row of ticks the law PoliceApart returns true; no condition. -/
import Derived.Test.YtggoflcphalnpaaKnown
import Derived.Test.YtggoflcphalnpaaRows
import Derived.WalkKit
import Derived.ProofKit
import Derived.OpenShut
import Derived.ShutString
import Derived.ChangeOld
import Derived.Below
namespace Go.Proofs.Ytggoflcphalnpaa.policeApart
open Go.ChangeShapes Go.WideShapes Go.ChangeAt Go.RowKit
open Go.ChangeMaps (open_string shut_string)

theorem own : ownKnob Try.prog.godebug = none := by kernel_rfl
theorem laidOut : laidOutB Try.prog = true := by kernel_rfl

/-- A slice of whole numbers that came in: nil, or a row of 'cap' cells that holds the numbers 'zs', of which the first 'len' are its elements. -/
def IsRow (k : IntKind) (w : World) (a : Option Addr) (len cap : Nat) (zs : List Int) : Prop :=
  (a = none ∧ len = 0 ∧ cap = 0 ∧ zs = []) ∨
  ∃ x, a = some x ∧ len ≤ cap ∧ cap ≤ maxLen ∧ zs.length = cap ∧ (∀ i, i < zs.length → w.cell? (x.add i) = some (.int k (zs.getD i 0))) ∧ ∀ n ∈ zs, (Lit.int k n).wf = true

/-! ### The walk -/
theorem early_off (pe la t : Int) : noteOk [⟨pe, la, false⟩] ((0 : Nat) : Int) t = decide (0 ≤ t) := by
  by_cases h : 0 ≤ t <;> simp [noteOk, earlyL, early, h]
theorem early_on (pe la t : Int) : noteOk [⟨pe, la, true⟩] ((0 : Nat) : Int) t = (decide (0 ≤ t) && !(decide (t < la) || decide (t - la < pe))) := by
  by_cases h : 0 ≤ t <;> simp [noteOk, earlyL, early, h]

theorem noteL_no {L : List Wt} {i t : Int} (h : noteOk L i t = false) : noteL L i t = L := by simp [noteL, h]
theorem noteL_one {x : Wt} {t : Int} (h : noteOk [x] ((0 : Nat) : Int) t = true) : noteL [x] ((0 : Nat) : Int) t = [⟨x.t, t, true⟩] := by
  unfold noteL
  rw [if_pos h]
  rfl

set_option maxHeartbeats 4000000 in
theorem walk (a0 : Int) (a1 : Option Addr) (len1 cap1 : Nat) (z1 : List Int) (w : World) (_w0 : (Lit.int .i64 a0).wf = true) (w1 : IsRow .i64 w a1 len1 cap1 z1) :
    Calls Try.prog 4 #[.int .i64 a0, .slice a1 len1 cap1] w fun e w' => e = .returned (.bool true) ∧ Below w.heap.size w w' := by
  by_cases h1 : a0 < 1
  · go_enter Try.func4, Try.ntmps4
    go_wp2
    go_ret
    exact ⟨rfl, Below.refl _ _⟩
  by_cases h2 : 10000 < a0
  · go_enter Try.func4, Try.ntmps4
    go_wp2
    go_ret
    exact ⟨rfl, Below.refl _ _⟩
  by_cases h3 : 100 < len1
  · go_enter Try.func4, Try.ntmps4
    go_wp2
    go_ret
    exact ⟨rfl, Below.refl _ _⟩
  have ho : odd a0 = false := by simp [odd, h1, h2]
  have hI : ∃ (b off : Nat), 0 < len1 → a1 = some ⟨b, off, none⟩ ∧ b < w.heap.size ∧ ∀ i, i < len1 → w.cell? ⟨b, off + i, none⟩ = some (.int .i64 (z1.getD i 0)) ∧ -9223372036854775808 ≤ z1.getD i 0 ∧ z1.getD i 0 ≤ 9223372036854775807 := by
    rcases w1 with ⟨rfl, rfl, rfl, rfl⟩ | ⟨⟨b, off, spot⟩, rfl, hl, hm, hz, hcell, hwz⟩
    · exact ⟨0, 0, fun h => by omega⟩
    · refine ⟨b, off, fun hp => ?_⟩
      have hc := hcell 0 (by omega)
      have hspot : spot = none := by simpa [Addr.add] using World.cell?_spot hc
      subst hspot
      refine ⟨rfl, World.block_lt_of_cell? w _ hc, fun i hi => ?_⟩
      have := hcell i (by omega)
      rw [add_none] at this
      have hb := hwz (z1.getD i 0) (by rw [List.getD_eq_getElem?_getD, List.getElem?_eq_getElem (by omega)]; exact List.getElem_mem _)
      have hb' := bounds_i64 hb
      exact ⟨this, hb'.1, hb'.2⟩
  obtain ⟨b, off, hI⟩ := hI
  have HI := Lib.hid hI
  have HO := Lib.hid ho
  clear w1 hI ho
  go_enter Try.func4, Try.ntmps4
  go_wp2_with fail
  refine (new_one a0 _ (Below.newNums a0) HO.out).mono ?_
  rintro e w1 ⟨a, cap, rfl, h1, b1⟩
  rw [World.size_alloc] at h1 ⊢
  have k1 : Below w.heap.size w w1 := ((Below.refl _ _).alloc (Nat.le_refl _) _).trans (b1.mono (by simp))
  clear b1
  obtain ⟨p, hp⟩ : ∃ p, w.heap.size + 1 = p := ⟨_, rfl⟩
  have hwp : w.heap.size < p := by omega
  rw [hp] at h1 ⊢
  clear hp
  have hpa := h1.lt
  go_wp2_with fail
  go_loopw [6, 7, 8] (fun x y z wr => ∃ (k : Nat) (la : Int) (on : Bool), k ≤ len1 ∧ z = .int .i64 k ∧ x = .int .i64 la ∧ y = .bool on ∧ 0 ≤ la ∧ la ≤ 1152921504606846976 ∧ PolAt wr (p + 1) p a cap [⟨a0, la, on⟩] ∧ Below w.heap.size w wr) (fun _ _ z _ => len1 - (intOf z).toNat)
  case atStart => exact ⟨0, 0, false, Nat.zero_le _, rfl, rfl, rfl, by omega, by omega, h1, k1⟩
  case round =>
    obtain ⟨k, la, on, hk, rfl, rfl, rfl, hl0, hl1, hP, hW⟩ := hrel
    clear h1 k1
    by_cases hlt : k < len1
    · obtain ⟨rfl, hb, hc⟩ := HI.out (by omega)
      obtain ⟨d, t0, t1⟩ := hc k hlt
      obtain ⟨t, ht⟩ : ∃ t, z1.getD k 0 = t := ⟨_, rfl⟩
      rw [ht] at d t0 t1
      clear ht hc
      have c0 := (hW.cell (p := ⟨b, off + k, none⟩) hb).trans d
      have hN := note_yes (base := p + 1) (p := p) (a := a) (cap := cap) (L := [⟨a0, la, on⟩]) 0 t (by simp) (ok_one hl0 (by simpa using (by omega : la ≤ 9223372036854775807))) t0 t1 wr hP
      go_wp2_with fail
      refine hN.mono ?_
      rintro e w2 ⟨rfl, h2, g2⟩
      have hW2 := below_only hW (Nat.le_refl _) g2 (fun k e => by injection e with e; omega)
      have c2 := (hW2.cell (p := ⟨b, off + k, none⟩) hb).trans d
      clear hN hP hW g2 c0 d
      cases on with
      | false =>
        by_cases ht0 : t < 0
        · have hn : noteOk [⟨a0, la, false⟩] ((0 : Nat) : Int) t = false := by rw [early_off]; simpa using ht0
          have HN := Lib.hid hn
          clear hn
          rw [HN.out]
          rw [noteL_no HN.out] at h2
          go_wp2
          go_roundw
          case rel => exact ⟨k + 1, la, false, by omega, by go_num, rfl, rfl, hl0, hl1, h2, hW2⟩
          case measure => simp [intOf]; omega
        · have hn : noteOk [⟨a0, la, false⟩] ((0 : Nat) : Int) t = true := by rw [early_off]; simpa using ht0
          have HN := Lib.hid hn
          clear hn
          rw [HN.out]
          rw [noteL_one HN.out] at h2
          by_cases hbig : 1152921504606846976 < t
          · go_wp2
            go_ret
            exact ⟨rfl, hW2⟩
          · go_wp2
            go_roundw
            case rel => exact ⟨k + 1, t, true, by omega, by go_num, rfl, rfl, by omega, by omega, h2, hW2⟩
            case measure => simp [intOf]; omega
      | true =>
        by_cases ht0 : t < 0
        · have hn : noteOk [⟨a0, la, true⟩] ((0 : Nat) : Int) t = false := by rw [early_on]; simp [show ¬ 0 ≤ t from by omega]
          have HN := Lib.hid hn
          clear hn
          rw [HN.out]
          rw [noteL_no HN.out] at h2
          go_wp2
          go_roundw
          case rel => exact ⟨k + 1, la, true, by omega, by go_num, rfl, rfl, hl0, hl1, h2, hW2⟩
          case measure => simp [intOf]; omega
        · by_cases ht1 : t < la
          · have hn : noteOk [⟨a0, la, true⟩] ((0 : Nat) : Int) t = false := by rw [early_on]; simp [ht1]
            have HN := Lib.hid hn
            clear hn
            rw [HN.out]
            rw [noteL_no HN.out] at h2
            go_wp2
            go_roundw
            case rel => exact ⟨k + 1, la, true, by omega, by go_num, rfl, rfl, hl0, hl1, h2, hW2⟩
            case measure => simp [intOf]; omega
          · by_cases ht2 : t - la < a0
            · have hn : noteOk [⟨a0, la, true⟩] ((0 : Nat) : Int) t = false := by rw [early_on]; simp [ht2]
              have HN := Lib.hid hn
              clear hn
              rw [HN.out]
              rw [noteL_no HN.out] at h2
              go_wp2
              go_roundw
              case rel => exact ⟨k + 1, la, true, by omega, by go_num, rfl, rfl, hl0, hl1, h2, hW2⟩
              case measure => simp [intOf]; omega
            · have hn : noteOk [⟨a0, la, true⟩] ((0 : Nat) : Int) t = true := by rw [early_on]; simp [ht1, ht2]; omega
              have HN := Lib.hid hn
              clear hn
              rw [HN.out]
              rw [noteL_one HN.out] at h2
              by_cases hbig : 1152921504606846976 < t
              · go_wp2
                go_ret
                exact ⟨rfl, hW2⟩
              · go_wp2
                go_roundw
                case rel => exact ⟨k + 1, t, true, by omega, by go_num, rfl, rfl, by omega, by omega, h2, hW2⟩
                case measure => simp [intOf]; omega
    · go_wp2_with fail
      refine (early_nil 0 0 wr).mono ?_
      rintro e w2 ⟨rfl, m, rfl⟩
      go_wp2_with fail
      refine (note_nil 0 0 _).mono ?_
      rintro e w3 ⟨rfl, rfl⟩
      go_wp2_with fail
      refine (known_any _).mono ?_
      rintro e w4 ⟨rfl, b4⟩
      go_wp2
      go_ret
      exact ⟨rfl, (below_drewN hW m).trans (b4.mono (by have := hW.size; simpa using this))⟩

/-! ### The row's step -/
set_option linter.unusedVariables false in
set_option maxRecDepth 100000 in
theorem lifted (os : Os) (started : os.Started) (H : Type) (enc : TypeId × Value → H) :
    ReturnsInHanded {} Try.checked os 4 .any (Rows.policeApartSpec.pre6 enc Try.prog Try.f4 Rows.policeApartRow.domain false) (Rows.policeApartSpec.post enc Try.prog Try.f4 false true false false) := by
  refine returnsInHanded_of_change (C := Try.checked) own started (by kernel_rfl) Try.func4
    (ChangeSpec.witness6 (enc := enc) (C := Try.checked) false ⟨#[], #[.int .i64 0, .slice none 0 0], []⟩ 8 (by kernel_rfl) (by kernel_rfl) (by kernel_rfl) (by kernel_rfl)) ?_
  intro W base args ds gs before hval0 hW hcnd _
  have hval : ∀ (j : Nat) t v, Try.f4.params[j]? = some t → args[j]? = some v → Value.okWide Try.prog W .any base t v := hval0
  have hW' := hW
  obtain ⟨p, q, hA0, hV, rfl, hfz, hnd⟩ := hW
  have hA : DataW.TrodAll enc Try.prog W 0 (fun _ => true) true Try.f4.params.toList args.toList ds p := hA0
  rw [Try.params4] at hA hval
  obtain ⟨v0, vs0, d0, ds0, p0, q0, hargs, rfl, rfl, h0, r0⟩ := trodAll_cons hA
  obtain ⟨v1, vs1, d1, ds1, p1, q1, rfl, rfl, rfl, h1, r1⟩ := trodAll_cons r0
  obtain ⟨rfl, rfl, rfl⟩ := trodAll_nil r1
  obtain rfl : args = #[v0, v1] := by cases args; simp_all
  obtain ⟨rfl, rfl⟩ := trodVars_none hV
  obtain ⟨a0, rfl, rfl, rfl, w0⟩ := open_int Try.underlying2 (hval 0 2 v0 rfl rfl) h0
  obtain ⟨a1, len1, cap1, rfl⟩ := okWide_slice Try.underlying22 (hval 1 22 v1 rfl rfl)
  have k1 := h1
  have lt1 : ∀ x ∈ p1, x.block < W.heap.size := by obtain ⟨m, hm⟩ := k1; exact DataW.trod_lt m _ _ _ hm
  obtain ⟨z1, w1⟩ : ∃ zs, IsRow .i64 W a1 len1 cap1 zs := by
    obtain ⟨fuel, hf⟩ := h1
    rcases open_ints Try.underlying22 Try.underlying2 (by kernel_rfl) hf with ⟨hcs, _⟩ | ⟨x, l, c, zs, hcs, _, hl, hm, hz, _, hcell, hwz⟩
    · simp [Value.cells] at hcs
      obtain ⟨rfl, rfl, rfl⟩ := hcs
      exact ⟨[], .inl ⟨rfl, rfl, rfl, rfl⟩⟩
    · simp [Value.cells] at hcs
      obtain ⟨rfl, rfl, rfl⟩ := hcs
      exact ⟨zs, .inr ⟨_, rfl, hl, hm, by simpa using hz, hcell, hwz⟩⟩
  clear hA0 hval0
  refine (walk a0 a1 len1 cap1 z1 W w0 w1).mono fun e W' ⟨he, bel⟩ => ?_
  subst he
  exact ⟨_, rfl, _, _, _, [], _, [], hW', trodAll_mk1 (shut_bool Try.underlying4 _), (trodAll_cons_mk (shut_int Try.underlying2 w0) (trodAll_cons_mk (Below.trod laidOut (by kernel_rfl) (of_decide_eq_true (by kernel_rfl)) k1 bel lt1) trodAll_mk0)), rfl, bel.frame _, fun h => by cases h⟩

theorem over : Rows.policeApartRow.holds Try.pinned (OpenSpec.ofChange Rows.policeApartSpec) :=
  OpenClaim.holds_of_wide 4 Try.f4 rfl rfl rfl rfl rfl rfl rfl ⟨rfl, rfl, rfl, rfl, rfl⟩ rfl rfl rfl rfl rfl (by kernel_rfl) Try.func4 (by kernel_rfl)
    (of_decide_eq_true (by kernel_rfl)) (by unfold Func.isWrapper; first | (rw [if_pos (by decide +kernel)]; kernel_rfl) | (rw [if_neg (by decide +kernel)]; exact ⟨rfl, rfl⟩))
    (fun os started H enc _ => lifted os started H enc)

/-- The statement. -/
theorem proved : Rows.PoliceApartSaid := over
end Go.Proofs.Ytggoflcphalnpaa.policeApart
