/- Of every way the law JobKnown returns true; no condition. -/
import Derived.Test.YtdamkcneecoimaaTick
import Derived.Test.YtdamkcneecoimaaRows
import Derived.WalkKit
import Derived.ProofKit
import Derived.OpenShut
import Derived.ShutString
import Derived.ChangeOld
import Derived.Below
namespace Go.Proofs.Ytdamkcneecoimaa.jobKnown
open Go.ChangeShapes Go.WideShapes Go.ChangeAt Go.RowKit
open Go.ChangeMaps (open_string shut_string)

theorem own : ownKnob Try.prog.godebug = none := by kernel_rfl
theorem laidOut : laidOutB Try.prog = true := by kernel_rfl

/-! ### The plain side -/
def it (j : Jb) : Nat → Jb
  | 0 => j
  | k + 1 => (tick (it j k)).1
/-- What k ticks of a job do, all of it a closed question. -/
def Runs (j : Jb) (want : List Int) : Prop := ∀ k, k < want.length → (tick (it j k)).2.2 = want.getD k 0 ∧ ((it j k).how = 0 → (it j k).k < (it j k).rs.length) ∧ (it j k).rs.length ≤ 8 ∧ 0 ≤ (it j k).had ∧ (it j k).had ≤ 1000000 ∧ 0 ≤ (it j k).all ∧ (it j k).all ≤ 1000000
instance (j : Jb) (want : List Int) : Decidable (Runs j want) := by unfold Runs; infer_instance

theorem allocs_below (l : List Obj) : ∀ (w : World), Below w.heap.size w (l.foldl World.alloc w) := by
  induction l with
  | nil => exact fun w => Below.refl _ _
  | cons o l ih =>
    intro w
    exact ((Below.refl _ w).alloc (Nat.le_refl _) o).trans ((ih (w.alloc o)).mono (by simp))
theorem allocs_get (l : List Obj) : ∀ (w : World) (i : Nat) (o : Obj), l[i]? = some o → (l.foldl World.alloc w).heap[w.heap.size + i]? = some o := by
  induction l with
  | nil => intro w i o h; simp at h
  | cons o l ih =>
    intro w i u h
    cases i with
    | zero =>
      have h' : o = u := by simpa using h
      subst h'
      exact ((allocs_below l (w.alloc o)).block w.heap.size (by simp)).trans (heap_alloc_new w o)
    | succ i =>
      have := ih (w.alloc o) i u (by simpa using h)
      rw [World.size_alloc] at this
      rw [show w.heap.size + (i + 1) = w.heap.size + 1 + i from by omega]
      exact this
def objs (n : Nat) : List Obj := [.cells #[.int .i64 1] 2,
  .cells #[.int .i64 3] 2,
  .cells #[.int .i64 2, .int .i64 2] 2,
  .cells #[.int .i64 2] 2,
  .cells #[.int .i64 1, .int .i64 1, .int .i64 1] 2,
  .cells #[.int .i64 4] 2,
  .cells #[.slice (some ⟨n, 0, none⟩) 1 1, .slice (some ⟨n + 1, 0, none⟩) 1 1, .slice (some ⟨n + 1 + 1, 0, none⟩) 2 2, .slice (some ⟨n + 1 + 1 + 1, 0, none⟩) 1 1, .slice (some ⟨n + 1 + 1 + 1 + 1, 0, none⟩) 3 3, .slice (some ⟨n + 1 + 1 + 1 + 1 + 1, 0, none⟩) 1 1] 22,
  .cells #[.int .i64 2] 2,
  .cells #[.int .i64 2, .int .i64 9] 2,
  .cells #[.int .i64 0] 2,
  .cells #[.int .i64 1, .int .i64 1, .int .i64 2] 2,
  .cells #[.int .i64 4] 2,
  .cells #[.slice none 0 0, .slice (some ⟨n + 1 + 1 + 1 + 1 + 1 + 1 + 1, 0, none⟩) 1 1, .slice (some ⟨n + 1 + 1 + 1 + 1 + 1 + 1 + 1 + 1, 0, none⟩) 2 2, .slice (some ⟨n + 1 + 1 + 1 + 1 + 1 + 1 + 1 + 1 + 1, 0, none⟩) 1 1, .slice (some ⟨n + 1 + 1 + 1 + 1 + 1 + 1 + 1 + 1 + 1 + 1, 0, none⟩) 3 3, .slice (some ⟨n + 1 + 1 + 1 + 1 + 1 + 1 + 1 + 1 + 1 + 1 + 1, 0, none⟩) 1 1] 22,
  .cells #[.int .i64 2, .int .i64 2] 3,
  .cells #[.int .i64 0, .int .i64 2] 3,
  .cells #[.int .i64 0, .int .i64 1, .int .i64 0, .int .i64 3] 3,
  .cells #[.int .i64 2] 3,
  .cells #[.int .i64 1, .int .i64 1, .int .i64 3, .int .i64 3] 3,
  .cells #[.int .i64 0, .int .i64 0, .int .i64 0, .int .i64 2] 3,
  .cells #[.slice (some ⟨n + 1 + 1 + 1 + 1 + 1 + 1 + 1 + 1 + 1 + 1 + 1 + 1 + 1, 0, none⟩) 2 2, .slice (some ⟨n + 1 + 1 + 1 + 1 + 1 + 1 + 1 + 1 + 1 + 1 + 1 + 1 + 1 + 1, 0, none⟩) 2 2, .slice (some ⟨n + 1 + 1 + 1 + 1 + 1 + 1 + 1 + 1 + 1 + 1 + 1 + 1 + 1 + 1 + 1, 0, none⟩) 4 4, .slice (some ⟨n + 1 + 1 + 1 + 1 + 1 + 1 + 1 + 1 + 1 + 1 + 1 + 1 + 1 + 1 + 1 + 1, 0, none⟩) 1 1, .slice (some ⟨n + 1 + 1 + 1 + 1 + 1 + 1 + 1 + 1 + 1 + 1 + 1 + 1 + 1 + 1 + 1 + 1 + 1, 0, none⟩) 4 4, .slice (some ⟨n + 1 + 1 + 1 + 1 + 1 + 1 + 1 + 1 + 1 + 1 + 1 + 1 + 1 + 1 + 1 + 1 + 1 + 1, 0, none⟩) 4 4] 24]

/-- What the tables say of one way. -/
structure In (W : World) (ga gb gc way : Nat) (A' : Option Addr) (x z : Nat) (rs dm want : List Int) : Prop where
  qa : W.cell? ⟨ga, way, none⟩ = some (.slice (some ⟨x, 0, none⟩) rs.length rs.length)
  qb : W.cell? ⟨gb, way, none⟩ = some (.slice A' dm.length dm.length)
  qc : W.cell? ⟨gc, way, none⟩ = some (.slice (some ⟨z, 0, none⟩) want.length want.length)
  na : Nums W (some ⟨x, 0, none⟩) rs
  nb : Nums W A' dm
  nc : ∀ k, k < want.length → W.cell? ⟨z, k, none⟩ = some (.int .i64 (want.getD k 0))
  la : gc < W.heap.size
  lz : z < W.heap.size
  h0 : 0 < rs.length
  h8 : rs.length ≤ 8
  hw : want.length ≤ 8
  ho : rs.any odd = false
  run : Runs (jb0 rs dm) want

theorem ints_get (l : List Int) (k : Nat) (h : k < l.length) : (ints l).toArray[k]? = some (.int .i64 (l.getD k 0)) := by simp [ints, List.getD, h]
theorem nums_blk {W : World} {g : Nat} {l : List Int} (h : Blk W g 2 (ints l).toArray) : Nums W (some ⟨g, 0, none⟩) l := by
  refine .inr ⟨g, 0, rfl, h.lt, fun i hi => ?_⟩
  rw [h.cell]
  simp [ints, hi]

theorem in_any (w : World) (way : Nat) (h : way < 6) : ∃ A' x z rs dm want, In ((objs w.heap.size).foldl World.alloc w) (w.heap.size + 6) (w.heap.size + 12) (w.heap.size + 19) way A' x z rs dm want := by
  obtain ⟨W, hW⟩ : ∃ W, (objs w.heap.size).foldl World.alloc w = W := ⟨_, rfl⟩
  have G : ∀ (i : Nat) (o : Obj), (objs w.heap.size)[i]? = some o → W.heap[w.heap.size + i]? = some o := fun i o h => hW ▸ allocs_get _ w i o h
  rw [hW]
  clear hW
  have B0 : Blk W (w.heap.size + 6) _ _ := G 6 _ rfl
  have B1 : Blk W (w.heap.size + 12) _ _ := G 12 _ rfl
  have B2 : Blk W (w.heap.size + 19) _ _ := G 19 _ rfl
  have hw : way = 0 ∨ way = 1 ∨ way = 2 ∨ way = 3 ∨ way = 4 ∨ way = 5 := by omega
  rcases hw with rfl | rfl | rfl | rfl | rfl | rfl
  · have R0 : Blk W (w.heap.size + 0) 2 (ints [1]).toArray := G 0 _ rfl
    have R2 : Blk W (w.heap.size + 13) 3 (ints [2, 2]).toArray := G 13 _ rfl
    exact ⟨none, w.heap.size + 0, w.heap.size + 13, [1], [], [2, 2], B0.cell 0, B1.cell 0, B2.cell 0, nums_blk R0, .inl rfl, fun k hk => (R2.cell k).trans (ints_get _ k hk), B2.lt, R2.lt, by decide, by decide, by decide, by decide, by decide +kernel⟩
  · have R0 : Blk W (w.heap.size + 1) 2 (ints [3]).toArray := G 1 _ rfl
    have R1 : Blk W (w.heap.size + 7) 2 (ints [2]).toArray := G 7 _ rfl
    have R2 : Blk W (w.heap.size + 14) 3 (ints [0, 2]).toArray := G 14 _ rfl
    exact ⟨some ⟨w.heap.size + 7, 0, none⟩, w.heap.size + 1, w.heap.size + 14, [3], [2], [0, 2], B0.cell 1, B1.cell 1, B2.cell 1, nums_blk R0, nums_blk R1, fun k hk => (R2.cell k).trans (ints_get _ k hk), B2.lt, R2.lt, by decide, by decide, by decide, by decide, by decide +kernel⟩
  · have R0 : Blk W (w.heap.size + 2) 2 (ints [2, 2]).toArray := G 2 _ rfl
    have R1 : Blk W (w.heap.size + 8) 2 (ints [2, 9]).toArray := G 8 _ rfl
    have R2 : Blk W (w.heap.size + 15) 3 (ints [0, 1, 0, 3]).toArray := G 15 _ rfl
    exact ⟨some ⟨w.heap.size + 8, 0, none⟩, w.heap.size + 2, w.heap.size + 15, [2, 2], [2, 9], [0, 1, 0, 3], B0.cell 2, B1.cell 2, B2.cell 2, nums_blk R0, nums_blk R1, fun k hk => (R2.cell k).trans (ints_get _ k hk), B2.lt, R2.lt, by decide, by decide, by decide, by decide, by decide +kernel⟩
  · have R0 : Blk W (w.heap.size + 3) 2 (ints [2]).toArray := G 3 _ rfl
    have R1 : Blk W (w.heap.size + 9) 2 (ints [0]).toArray := G 9 _ rfl
    have R2 : Blk W (w.heap.size + 16) 3 (ints [2]).toArray := G 16 _ rfl
    exact ⟨some ⟨w.heap.size + 9, 0, none⟩, w.heap.size + 3, w.heap.size + 16, [2], [0], [2], B0.cell 3, B1.cell 3, B2.cell 3, nums_blk R0, nums_blk R1, fun k hk => (R2.cell k).trans (ints_get _ k hk), B2.lt, R2.lt, by decide, by decide, by decide, by decide, by decide +kernel⟩
  · have R0 : Blk W (w.heap.size + 4) 2 (ints [1, 1, 1]).toArray := G 4 _ rfl
    have R1 : Blk W (w.heap.size + 10) 2 (ints [1, 1, 2]).toArray := G 10 _ rfl
    have R2 : Blk W (w.heap.size + 17) 3 (ints [1, 1, 3, 3]).toArray := G 17 _ rfl
    exact ⟨some ⟨w.heap.size + 10, 0, none⟩, w.heap.size + 4, w.heap.size + 17, [1, 1, 1], [1, 1, 2], [1, 1, 3, 3], B0.cell 4, B1.cell 4, B2.cell 4, nums_blk R0, nums_blk R1, fun k hk => (R2.cell k).trans (ints_get _ k hk), B2.lt, R2.lt, by decide, by decide, by decide, by decide, by decide +kernel⟩
  · have R0 : Blk W (w.heap.size + 5) 2 (ints [4]).toArray := G 5 _ rfl
    have R1 : Blk W (w.heap.size + 11) 2 (ints [4]).toArray := G 11 _ rfl
    have R2 : Blk W (w.heap.size + 18) 3 (ints [0, 0, 0, 2]).toArray := G 18 _ rfl
    exact ⟨some ⟨w.heap.size + 11, 0, none⟩, w.heap.size + 5, w.heap.size + 18, [4], [4], [0, 0, 0, 2], B0.cell 5, B1.cell 5, B2.cell 5, nums_blk R0, nums_blk R1, fun k hk => (R2.cell k).trans (ints_get _ k hk), B2.lt, R2.lt, by decide, by decide, by decide, by decide, by decide +kernel⟩

set_option maxHeartbeats 8000000 in
theorem walk (a0 : Int) (w : World) (_w0 : (Lit.int .i64 a0).wf = true) :
    Calls Try.prog 3 #[.int .i64 a0] w fun e w' => e = .returned (.bool true) ∧ Below w.heap.size w w' := by
  by_cases c1 : a0 < 0
  · go_enter Try.func3, Try.ntmps3
    go_wp2
    go_ret
    exact ⟨rfl, allocs_below (objs w.heap.size) w⟩
  by_cases c2 : 6 ≤ a0
  · go_enter Try.func3, Try.ntmps3
    go_wp2
    go_ret
    exact ⟨rfl, allocs_below (objs w.heap.size) w⟩
  obtain ⟨way, rfl⟩ := Int.eq_ofNat_of_zero_le (show 0 ≤ a0 by omega)
  have l6 : way < 6 := by omega
  obtain ⟨A', x, z, rs, dm, want, hI⟩ := in_any w way l6
  have hB0 := allocs_below (objs w.heap.size) w
  obtain ⟨W, hW⟩ : ∃ W, (objs w.heap.size).foldl World.alloc w = W := ⟨_, rfl⟩
  rw [hW] at hI hB0
  simp only [objs, List.foldl] at hW
  have HW := Lib.hid hW
  have HI := Lib.hid hI
  clear hW hI
  go_enter Try.func3, Try.ntmps3
  go_wp2_with fail
  rw [HW.out]
  have hI := HI.out
  obtain ⟨gc, hgc⟩ : ∃ g, w.heap.size + 1 + 1 + 1 + 1 + 1 + 1 + 1 + 1 + 1 + 1 + 1 + 1 + 1 + 1 + 1 + 1 + 1 + 1 + 1 = g := ⟨_, rfl⟩
  obtain ⟨gb, hgb⟩ : ∃ g, w.heap.size + 1 + 1 + 1 + 1 + 1 + 1 + 1 + 1 + 1 + 1 + 1 + 1 = g := ⟨_, rfl⟩
  obtain ⟨ga, hga⟩ : ∃ g, w.heap.size + 1 + 1 + 1 + 1 + 1 + 1 = g := ⟨_, rfl⟩
  have hI : In W ga gb gc way A' x z rs dm want := by rw [← hgc, ← hgb, ← hga]; exact hI
  rw [hgc, hgb, hga]
  clear HW HI hgc hgb hga
  obtain ⟨qa, qb, qc, na, nb, nc, la, lz, h0, h8, hw8, ho, run⟩ := hI
  have i0 : (0 : Int) ≤ (way : Int) := by omega
  have HO := Lib.hid ho
  have HNA := Lib.hid na
  have HNB := Lib.hid nb
  have HNC := Lib.hid nc
  have HR := Lib.hid run
  clear ho na nb nc run
  have la0 : ga < W.heap.size := World.block_lt_of_cell? W _ qa
  have lb0 : gb < W.heap.size := World.block_lt_of_cell? W _ qb
  go_region_held3 (fun w' => w'.cell? ⟨ga, way, none⟩ = some (.slice (some ⟨x, 0, none⟩) rs.length rs.length) ∧ w'.cell? ⟨gb, way, none⟩ = some (.slice A' dm.length dm.length)) (go_keep) (first
    | (go_at_call 8
       refine (new_yes (some ⟨x, 0, none⟩) A' rs.length dm.length rs dm W.drew HNA.out HNB.out h0 h8 HO.out).mono ?_
       rintro e w1 ⟨p, a, ca, b, cb, rfl, hJ0, k0, hp⟩
       have k0 : Below W.heap.size W w1 := (Below.refl _ _).drew.trans k0
       have hp : W.heap.size ≤ p := hp
       have hJ0 : JobAt w1 W.heap.size p a ca b cb (jb0 rs dm) := hJ0
       have ra : w1.cell? ⟨ga, way, none⟩ = some (.slice (some ⟨x, 0, none⟩) rs.length rs.length) := (k0.cell la0).trans qa
       have rb : w1.cell? ⟨gb, way, none⟩ = some (.slice A' dm.length dm.length) := (k0.cell lb0).trans qb))
  clear ra rb qa qb la0 lb0 HO HNA HNB h0
  have HJ0 := Lib.hid hJ0
  clear hJ0
  go_wp2_with fail
  go_loopw [7] (fun z' wr => ∃ k : Nat, k ≤ want.length ∧ z' = .int .i64 k ∧ JobAt wr W.heap.size p a ca b cb (it (jb0 rs dm) k) ∧ Below W.heap.size W wr) (fun z' _ => want.length - (intOf z').toNat)
  case atStart => exact ⟨0, Nat.zero_le _, rfl, HJ0.out, by first | exact k0 | exact below_drewN k0 _⟩
  case round =>
    obtain ⟨k, hk, rfl, hJ, hW⟩ := hrel
    clear HJ0
    have rc : wr.cell? ⟨gc, way, none⟩ = some (.slice (some ⟨z, 0, none⟩) want.length want.length) := (hW.cell la).trans qc
    by_cases hlt : k < want.length
    · obtain ⟨y1, x1, x2, x3, x4, x5, x6⟩ := HR.out k hlt
      have hS := step_any wr hJ x1 x2 x3 x4 x5 x6
      rw [y1] at hS
      have hn : it (jb0 rs dm) (k + 1) = (tick (it (jb0 rs dm) k)).1 := rfl
      rw [← hn] at hS
      have qz := HNC.out k hlt
      obtain ⟨v, hv⟩ : ∃ v, want.getD k 0 = v := ⟨_, rfl⟩
      rw [hv] at hS qz
      clear hv hn y1 x1 x2 x3 x4 x5 x6
      have i1 : (0 : Int) ≤ (k : Int) := by omega
      have i2 : (k : Int) < (want.length : Int) := by omega
      go_wp2_with fail
      refine hS.mono ?_
      rintro _ w2 ⟨rfl, hJ2, g2⟩
      have hW2 := below_only hW (Nat.le_refl _) g2 (fun k e => by injection e with e; omega)
      have rd : w2.cell? ⟨gc, way, none⟩ = some (.slice (some ⟨z, 0, none⟩) want.length want.length) := (hW2.cell la).trans qc
      have rz : w2.cell? ⟨z, k, none⟩ = some (.int .i64 v) := (hW2.cell lz).trans qz
      have HJ2 := Lib.hid hJ2
      clear hS hJ hW g2 hJ2 rc qz
      go_wp2_with fail
      go_roundw
      case rel => exact ⟨k + 1, by omega, by go_num, HJ2.out, hW2⟩
      case measure => simp [intOf]; omega
    · obtain rfl : k = want.length := by omega
      go_wp2_with fail
      refine (known_any wr).mono ?_
      rintro e w4 ⟨rfl, b4⟩
      go_wp2
      go_ret
      exact ⟨rfl, hB0.trans ((hW.mono hB0.size).trans (b4.mono (Nat.le_trans hB0.size hW.size)))⟩

/-! ### The row's step -/
set_option linter.unusedVariables false in
set_option maxRecDepth 100000 in
theorem lifted (os : Os) (started : os.Started) (H : Type) (enc : TypeId × Value → H) :
    ReturnsInHanded {} Try.checked os 3 .any (Rows.jobKnownSpec.pre6 enc Try.prog Try.f3 Rows.jobKnownRow.domain false) (Rows.jobKnownSpec.post enc Try.prog Try.f3 false true false false) := by
  refine returnsInHanded_of_change (C := Try.checked) own started (by kernel_rfl) Try.func3
    (ChangeSpec.witness6 (enc := enc) (C := Try.checked) false ⟨#[], #[.int .i64 0], []⟩ 8 (by kernel_rfl) (by kernel_rfl) (by kernel_rfl) (by kernel_rfl)) ?_
  intro W base args ds gs before hval0 hW hcnd _
  have hval : ∀ (j : Nat) t v, Try.f3.params[j]? = some t → args[j]? = some v → Value.okWide Try.prog W .any base t v := hval0
  have hW' := hW
  obtain ⟨p, q, hA0, hV, rfl, hfz, hnd⟩ := hW
  have hA : DataW.TrodAll enc Try.prog W 0 (fun _ => true) true Try.f3.params.toList args.toList ds p := hA0
  rw [Try.params3] at hA hval
  obtain ⟨v0, vs0, d0, ds0, p0, q0, hargs, rfl, rfl, h0, r0⟩ := trodAll_cons hA
  obtain ⟨rfl, rfl, rfl⟩ := trodAll_nil r0
  obtain rfl : args = #[v0] := by cases args; simp_all
  obtain ⟨rfl, rfl⟩ := trodVars_none hV
  obtain ⟨a0, rfl, rfl, rfl, w0⟩ := open_int Try.underlying3 (hval 0 3 v0 rfl rfl) h0
  clear hA0 hval0
  refine (walk a0 W w0).mono fun e W' ⟨he, bel⟩ => ?_
  subst he
  exact ⟨_, rfl, _, _, _, [], _, [], hW', trodAll_mk1 (shut_bool Try.underlying4 _), (trodAll_cons_mk (shut_int Try.underlying3 w0) trodAll_mk0), rfl, bel.frame _, fun h => by cases h⟩

theorem over : Rows.jobKnownRow.holds Try.pinned (OpenSpec.ofChange Rows.jobKnownSpec) :=
  OpenClaim.holds_of_wide 3 Try.f3 rfl rfl rfl rfl rfl rfl rfl ⟨rfl, rfl, rfl, rfl, rfl⟩ rfl rfl rfl rfl rfl (by kernel_rfl) Try.func3 (by kernel_rfl)
    (of_decide_eq_true (by kernel_rfl)) (by unfold Func.isWrapper; first | (rw [if_pos (by decide +kernel)]; kernel_rfl) | (rw [if_neg (by decide +kernel)]; exact ⟨rfl, rfl⟩))
    (fun os started H enc _ => lifted os started H enc)

/-- The statement. -/
theorem proved : Rows.JobKnownSaid := over
end Go.Proofs.Ytdamkcneecoimaa.jobKnown
