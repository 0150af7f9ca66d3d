/- Of every way the law RuleKnown returns true; no condition. -/
import Derived.Test.YtldnichgcmfboaaCon
import Derived.Test.YtldnichgcmfboaaRows
import Derived.WalkKit
import Derived.ProofKit
import Derived.OpenShut
import Derived.ShutString
import Derived.ChangeOld
import Derived.Below
namespace Go.Proofs.Ytldnichgcmfboaa.ruleKnown
open Go.ChangeShapes Go.WideShapes Go.ChangeAt Go.RowKit
open Go.ChangeMaps (open_string shut_string)
open Go.Joins
open Go.Proofs.YtldnichgcmfboaaW.PrintWords Go.Proofs.YtldnichgcmfboaaW.PrintLast Go.Proofs.YtldnichgcmfboaaW.PrintMore
open Go.Proofs.Ytldnichgcmfboaa.PRuleTells

theorem own : ownKnob Try.prog.godebug = none := by kernel_rfl
theorem laidOut : laidOutB Try.prog = true := by kernel_rfl

/-! ### The plain side -/
theorem allocs_below (l : List Obj) : ∀ (w : World), Below w.heap.size w (l.foldl World.alloc w) := by
  induction l with
  | nil => exact fun w => Below.refl _ _
  | cons o l ih =>
    intro w
    exact ((Below.refl _ w).alloc (Nat.le_refl _) o).trans ((ih (w.alloc o)).mono (by simp))
theorem allocs_get (l : List Obj) : ∀ (w : World) (i : Nat) (o : Obj), l[i]? = some o → (l.foldl World.alloc w).heap[w.heap.size + i]? = some o := by
  induction l with
  | nil => intro w i o h; simp at h
  | cons o l ih =>
    intro w i u h
    cases i with
    | zero =>
      have h' : o = u := by simpa using h
      subst h'
      exact ((allocs_below l (w.alloc o)).block w.heap.size (by simp)).trans (heap_alloc_new w o)
    | succ i =>
      have := ih (w.alloc o) i u (by simpa using h)
      rw [World.size_alloc] at this
      rw [show w.heap.size + (i + 1) = w.heap.size + 1 + i from by omega]
      exact this
def objs (n : Nat) : List Obj := [Obj.cells #[Value.int IntKind.i64 2, Value.int IntKind.i64 2] 2,
  Obj.cells #[Value.string { data := #[97] }, Value.int IntKind.i64 9, Value.int IntKind.i64 9, Value.int IntKind.i64 0, Value.int IntKind.i64 0, Value.int IntKind.i64 0, Value.slice (some { block := n, off := 0 }) 2 2, Value.int IntKind.u64 0, Value.int IntKind.u64 0] 37,
  Obj.cells #[Value.string { data := #[98] }, Value.int IntKind.i64 9, Value.int IntKind.i64 9, Value.int IntKind.i64 1, Value.int IntKind.i64 3, Value.int IntKind.i64 0, Value.slice (some { block := n, off := 0 }) 2 2, Value.int IntKind.u64 0, Value.int IntKind.u64 0] 37,
  Obj.cells #[Value.string { data := #[99] }, Value.int IntKind.i64 9, Value.int IntKind.i64 9, Value.int IntKind.i64 2, Value.int IntKind.i64 0, Value.int IntKind.i64 1, Value.slice (some { block := n, off := 0 }) 2 2, Value.int IntKind.u64 0, Value.int IntKind.u64 0] 37,
  Obj.cells #[Value.string { data := #[97] }, Value.int IntKind.i64 9, Value.int IntKind.i64 9, Value.int IntKind.i64 0, Value.int IntKind.i64 0, Value.int IntKind.i64 0, Value.slice (some { block := n, off := 0 }) 2 2, Value.int IntKind.u64 0, Value.int IntKind.u64 0, Value.string { data := #[98] }, Value.int IntKind.i64 9, Value.int IntKind.i64 9, Value.int IntKind.i64 1, Value.int IntKind.i64 3, Value.int IntKind.i64 0, Value.slice (some { block := n, off := 0 }) 2 2, Value.int IntKind.u64 0, Value.int IntKind.u64 0, Value.string { data := #[99] }, Value.int IntKind.i64 9, Value.int IntKind.i64 9, Value.int IntKind.i64 2, Value.int IntKind.i64 0, Value.int IntKind.i64 1, Value.slice (some { block := n, off := 0 }) 2 2, Value.int IntKind.u64 0, Value.int IntKind.u64 0] 37,
  Obj.cells #[Value.int IntKind.i64 0, Value.slice (some { block := n + 1 + 1 + 1 + 1, off := 0 }) 3 3] 24,
  Obj.cells #[Value.bool true, Value.bool false, Value.bool false, Value.int IntKind.i64 5] 33,
  Obj.cells #[Value.bool true, Value.bool true, Value.bool false, Value.int IntKind.i64 4] 33,
  Obj.cells #[Value.bool true, Value.bool true, Value.bool true, Value.int IntKind.i64 4] 33,
  Obj.cells #[Value.bool true, Value.bool false, Value.bool false, Value.int IntKind.i64 5, Value.bool true, Value.bool true, Value.bool false, Value.int IntKind.i64 4, Value.bool false, Value.bool false, Value.bool false, Value.int IntKind.i64 0] 33,
  Obj.cells #[Value.bool true, Value.bool false, Value.bool false, Value.int IntKind.i64 5, Value.bool true, Value.bool true, Value.bool false, Value.int IntKind.i64 4, Value.bool false, Value.bool false, Value.bool false, Value.int IntKind.i64 0] 33,
  Obj.cells #[Value.bool true, Value.bool false, Value.bool false, Value.int IntKind.i64 5, Value.bool true, Value.bool true, Value.bool false, Value.int IntKind.i64 4, Value.bool false, Value.bool false, Value.bool false, Value.int IntKind.i64 0] 33,
  Obj.cells #[Value.bool false, Value.bool false, Value.bool false, Value.int IntKind.i64 0, Value.bool true, Value.bool false, Value.bool false, Value.int IntKind.i64 5, Value.bool true, Value.bool true, Value.bool false, Value.int IntKind.i64 4] 33,
  Obj.cells #[Value.bool true, Value.bool false, Value.bool false, Value.int IntKind.i64 5, Value.bool false, Value.bool false, Value.bool false, Value.int IntKind.i64 0, Value.bool true, Value.bool true, Value.bool true, Value.int IntKind.i64 4] 33,
  Obj.cells #[Value.bool true, Value.bool false, Value.bool false, Value.int IntKind.i64 5, Value.bool true, Value.bool true, Value.bool false, Value.int IntKind.i64 4, Value.bool true, Value.bool false, Value.bool false, Value.int IntKind.i64 5] 33,
  Obj.cells #[Value.bool false, Value.bool false, Value.bool false, Value.int IntKind.i64 0, Value.bool true, Value.bool false, Value.bool false, Value.int IntKind.i64 5, Value.bool true, Value.bool false, Value.bool false, Value.int IntKind.i64 5] 33,
  Obj.cells #[Value.bool true, Value.bool true, Value.bool true, Value.int IntKind.i64 4, Value.bool false, Value.bool false, Value.bool false, Value.int IntKind.i64 0, Value.bool true, Value.bool true, Value.bool false, Value.int IntKind.i64 4] 33,
  Obj.cells #[Value.bool false, Value.bool false, Value.bool false, Value.int IntKind.i64 0, Value.bool true, Value.bool true, Value.bool false, Value.int IntKind.i64 4, Value.bool true, Value.bool true, Value.bool false, Value.int IntKind.i64 4] 33,
  Obj.cells #[Value.slice (some { block := n + 1 + 1 + 1 + 1 + 1 + 1 + 1 + 1 + 1, off := 0 }) 3 3, Value.slice (some { block := n + 1 + 1 + 1 + 1 + 1 + 1 + 1 + 1 + 1 + 1, off := 0 }) 3 3, Value.slice (some { block := n + 1 + 1 + 1 + 1 + 1 + 1 + 1 + 1 + 1 + 1 + 1, off := 0 }) 3 3, Value.slice (some { block := n + 1 + 1 + 1 + 1 + 1 + 1 + 1 + 1 + 1 + 1 + 1 + 1, off := 0 }) 3 3, Value.slice (some { block := n + 1 + 1 + 1 + 1 + 1 + 1 + 1 + 1 + 1 + 1 + 1 + 1 + 1, off := 0 }) 3 3, Value.slice (some { block := n + 1 + 1 + 1 + 1 + 1 + 1 + 1 + 1 + 1 + 1 + 1 + 1 + 1 + 1, off := 0 }) 3 3, Value.slice (some { block := n + 1 + 1 + 1 + 1 + 1 + 1 + 1 + 1 + 1 + 1 + 1 + 1 + 1 + 1 + 1, off := 0 }) 3 3, Value.slice (some { block := n + 1 + 1 + 1 + 1 + 1 + 1 + 1 + 1 + 1 + 1 + 1 + 1 + 1 + 1 + 1 + 1, off := 0 }) 3 3, Value.slice (some { block := n + 1 + 1 + 1 + 1 + 1 + 1 + 1 + 1 + 1 + 1 + 1 + 1 + 1 + 1 + 1 + 1 + 1, off := 0 }) 3 3] 25,
  Obj.cells #[Value.int IntKind.i64 1, Value.int IntKind.i64 1, Value.int IntKind.i64 (-1), Value.int IntKind.i64 2, Value.int IntKind.i64 2, Value.int IntKind.i64 1, Value.int IntKind.i64 (-1), Value.int IntKind.i64 0, Value.int IntKind.i64 1] 3,
  Obj.cells #[Value.int IntKind.i64 7, Value.int IntKind.i64 8, Value.int IntKind.i64 7, Value.int IntKind.i64 6, Value.int IntKind.i64 6, Value.int IntKind.i64 6, Value.int IntKind.i64 6, Value.int IntKind.i64 6, Value.int IntKind.i64 6] 2,
  Obj.cells #[Value.int IntKind.i64 1, Value.int IntKind.i64 0, Value.int IntKind.i64 0, Value.int IntKind.i64 2, Value.int IntKind.i64 0, Value.int IntKind.i64 1, Value.int IntKind.i64 1, Value.int IntKind.i64 0, Value.int IntKind.i64 2] 3]
def tks : List S37 := [⟨⟨#[97]⟩, 9, 9, 0, 0, 0, [2, 2], 0, 0⟩, ⟨⟨#[98]⟩, 9, 9, 1, 3, 0, [2, 2], 0, 0⟩, ⟨⟨#[99]⟩, 9, 9, 2, 0, 1, [2, 2], 0, 0⟩]

theorem c33 (W : World) (g : Nat) (x y z : S33) (hb : W.heap[g]? = some (.cells #[.bool x.f0, .bool x.f1, .bool x.f2, .int .i64 x.f3, .bool y.f0, .bool y.f1, .bool y.f2, .int .i64 y.f3, .bool z.f0, .bool z.f1, .bool z.f2, .int .i64 z.f3] 33 (0, 0))) : Kd.C k33 W (some ⟨g, 0, none⟩) 3 [x, y, z] := by
  have hc := fun i => cell_of_row W g i _ 33 (0, 0) hb
  refine ⟨rfl, by omega, fun _ => ⟨_, rfl, fun j p hp => ?_⟩⟩
  match j, hp with
  | 0, hp =>
    obtain rfl : x = p := by simpa using hp
    refine ⟨_, rfl, k33_mk W x, fun i u hu => ?_⟩
    match i, hu with
    | 0, hu => simp at hu; subst hu; exact hc 0
    | 1, hu => simp at hu; subst hu; exact hc 1
    | 2, hu => simp at hu; subst hu; exact hc 2
    | 3, hu => simp at hu; subst hu; exact hc 3
  | 1, hp =>
    obtain rfl : y = p := by simpa using hp
    refine ⟨_, rfl, k33_mk W y, fun i u hu => ?_⟩
    match i, hu with
    | 0, hu => simp at hu; subst hu; exact hc 4
    | 1, hu => simp at hu; subst hu; exact hc 5
    | 2, hu => simp at hu; subst hu; exact hc 6
    | 3, hu => simp at hu; subst hu; exact hc 7
  | 2, hp =>
    obtain rfl : z = p := by simpa using hp
    refine ⟨_, rfl, k33_mk W z, fun i u hu => ?_⟩
    match i, hu with
    | 0, hu => simp at hu; subst hu; exact hc 8
    | 1, hu => simp at hu; subst hu; exact hc 9
    | 2, hu => simp at hu; subst hu; exact hc 10
    | 3, hu => simp at hu; subst hu; exact hc 11

theorem c2 (W : World) (g : Nat) (x y : Int) (hb : W.heap[g]? = some (.cells #[.int .i64 x, .int .i64 y] 2 (0, 0))) : (Kd.int .i64).C W (some ⟨g, 0, none⟩) 2 [x, y] := by
  have hc := fun i => cell_of_row W g i _ 2 (0, 0) hb
  refine ⟨rfl, by omega, fun _ => ⟨_, rfl, fun j p hp => ?_⟩⟩
  match j, hp with
  | 0, hp =>
    obtain rfl : x = p := by simpa using hp
    refine ⟨[.int .i64 x], rfl, rfl, fun i u hu => ?_⟩
    match i, hu with
    | 0, hu => simp at hu; subst hu; exact hc 0
  | 1, hp =>
    obtain rfl : y = p := by simpa using hp
    refine ⟨[.int .i64 y], rfl, rfl, fun i u hu => ?_⟩
    match i, hu with
    | 0, hu => simp at hu; subst hu; exact hc 1

theorem c37 (W : World) (g r : Nat) (x y z : S37) (hx : x.f6 = [2, 2]) (hy : y.f6 = [2, 2]) (hz : z.f6 = [2, 2]) (hr : (Kd.int .i64).C W (some ⟨r, 0, none⟩) 2 [2, 2])
    (hb : W.heap[g]? = some (.cells #[.string x.f0, .int .i64 x.f1, .int .i64 x.f2, .int .i64 x.f3, .int .i64 x.f4, .int .i64 x.f5, .slice (some ⟨r, 0, none⟩) x.f6.length 2, .int .u64 x.f7, .int .u64 x.f8, .string y.f0, .int .i64 y.f1, .int .i64 y.f2, .int .i64 y.f3, .int .i64 y.f4, .int .i64 y.f5, .slice (some ⟨r, 0, none⟩) y.f6.length 2, .int .u64 y.f7, .int .u64 y.f8, .string z.f0, .int .i64 z.f1, .int .i64 z.f2, .int .i64 z.f3, .int .i64 z.f4, .int .i64 z.f5, .slice (some ⟨r, 0, none⟩) z.f6.length 2, .int .u64 z.f7, .int .u64 z.f8] 37 (0, 0))) : Kd.C k37 W (some ⟨g, 0, none⟩) 3 [x, y, z] := by
  have hc := fun i => cell_of_row W g i _ 37 (0, 0) hb
  refine ⟨rfl, by omega, fun _ => ⟨_, rfl, fun j p hp => ?_⟩⟩
  match j, hp with
  | 0, hp =>
    obtain rfl : x = p := by simpa using hp
    refine ⟨_, rfl, k37_mk W x (A6 := some ⟨r, 0, none⟩) (c6 := 2) (by rw [hx]; exact Nat.le_refl _) (by rw [hx]; exact hr), fun i u hu => ?_⟩
    match i, hu with
    | 0, hu => simp at hu; subst hu; exact hc 0
    | 1, hu => simp at hu; subst hu; exact hc 1
    | 2, hu => simp at hu; subst hu; exact hc 2
    | 3, hu => simp at hu; subst hu; exact hc 3
    | 4, hu => simp at hu; subst hu; exact hc 4
    | 5, hu => simp at hu; subst hu; exact hc 5
    | 6, hu => simp at hu; subst hu; exact hc 6
    | 7, hu => simp at hu; subst hu; exact hc 7
    | 8, hu => simp at hu; subst hu; exact hc 8
  | 1, hp =>
    obtain rfl : y = p := by simpa using hp
    refine ⟨_, rfl, k37_mk W y (A6 := some ⟨r, 0, none⟩) (c6 := 2) (by rw [hy]; exact Nat.le_refl _) (by rw [hy]; exact hr), fun i u hu => ?_⟩
    match i, hu with
    | 0, hu => simp at hu; subst hu; exact hc 9
    | 1, hu => simp at hu; subst hu; exact hc 10
    | 2, hu => simp at hu; subst hu; exact hc 11
    | 3, hu => simp at hu; subst hu; exact hc 12
    | 4, hu => simp at hu; subst hu; exact hc 13
    | 5, hu => simp at hu; subst hu; exact hc 14
    | 6, hu => simp at hu; subst hu; exact hc 15
    | 7, hu => simp at hu; subst hu; exact hc 16
    | 8, hu => simp at hu; subst hu; exact hc 17
  | 2, hp =>
    obtain rfl : z = p := by simpa using hp
    refine ⟨_, rfl, k37_mk W z (A6 := some ⟨r, 0, none⟩) (c6 := 2) (by rw [hz]; exact Nat.le_refl _) (by rw [hz]; exact hr), fun i u hu => ?_⟩
    match i, hu with
    | 0, hu => simp at hu; subst hu; exact hc 18
    | 1, hu => simp at hu; subst hu; exact hc 19
    | 2, hu => simp at hu; subst hu; exact hc 20
    | 3, hu => simp at hu; subst hu; exact hc 21
    | 4, hu => simp at hu; subst hu; exact hc 22
    | 5, hu => simp at hu; subst hu; exact hc 23
    | 6, hu => simp at hu; subst hu; exact hc 24
    | 7, hu => simp at hu; subst hu; exact hc 25
    | 8, hu => simp at hu; subst hu; exact hc 26

/-- What the tables say of one way. -/
structure Way (W : World) (gt gs gl ga gb gc way x : Nat) (s0 s1 s2 : S33) (last tick want : Int) : Prop where
  i_ : In W (some ⟨gt, 0, none⟩) 3 tks (some ⟨x, 0, none⟩) 3 [s0, s1, s2]
  q0 : W.cell? ⟨gs, 0, none⟩ = some (.int .i64 0)
  q1 : W.cell? ⟨gs, 1, none⟩ = some (.slice (some ⟨gt, 0, none⟩) 3 3)
  ql : W.cell? ⟨gl, way, none⟩ = some (.slice (some ⟨x, 0, none⟩) 3 3)
  qa : W.cell? ⟨ga, way, none⟩ = some (.int .i64 last)
  qb : W.cell? ⟨gb, way, none⟩ = some (.int .i64 tick)
  qc : W.cell? ⟨gc, way, none⟩ = some (.int .i64 want)
  ch : choose tks [s0, s1, s2] last tick = want

theorem way_any (w : World) (way : Nat) (h : way < 9) : ∃ x s0 s1 s2 last tick want, Way ((objs w.heap.size).foldl World.alloc w) (w.heap.size + 4) (w.heap.size + 5) (w.heap.size + 18) (w.heap.size + 19) (w.heap.size + 20) (w.heap.size + 21) way x s0 s1 s2 last tick want := by
  obtain ⟨W, hW⟩ : ∃ W, (objs w.heap.size).foldl World.alloc w = W := ⟨_, rfl⟩
  have G : ∀ (i : Nat) (o : Obj), (objs w.heap.size)[i]? = some o → W.heap[w.heap.size + i]? = some o := fun i o h => hW ▸ allocs_get _ w i o h
  rw [hW]
  clear hW
  have T0 : Kd.C k37 W (some ⟨w.heap.size + 4, 0, none⟩) 3 tks := c37 W _ w.heap.size _ _ _ rfl rfl rfl (c2 W _ _ _ (G 0 _ rfl)) (G 4 _ rfl)
  have S0 := fun i => cell_of_row W _ i _ _ (0, 0) (G 5 _ rfl)
  have BL := fun i => cell_of_row W _ i _ _ (0, 0) (G 18 _ rfl)
  have BA := fun i => cell_of_row W _ i _ _ (0, 0) (G 19 _ rfl)
  have BB := fun i => cell_of_row W _ i _ _ (0, 0) (G 20 _ rfl)
  have BC := fun i => cell_of_row W _ i _ _ (0, 0) (G 21 _ rfl)
  have hw : way = 0 ∨ way = 1 ∨ way = 2 ∨ way = 3 ∨ way = 4 ∨ way = 5 ∨ way = 6 ∨ way = 7 ∨ way = 8 := by omega
  rcases hw with rfl | rfl | rfl | rfl | rfl | rfl | rfl | rfl | rfl
  · exact ⟨w.heap.size + 9, ⟨true, false, false, 5⟩, ⟨true, true, false, 4⟩, ⟨false, false, false, 0⟩, (1), (7), (1), ⟨T0, Nat.le_refl _, c33 W _ _ _ _ (G 9 _ rfl), Nat.le_refl _⟩, S0 0, S0 1, BL 0, BA 0, BB 0, BC 0, by decide +kernel⟩
  · exact ⟨w.heap.size + 10, ⟨true, false, false, 5⟩, ⟨true, true, false, 4⟩, ⟨false, false, false, 0⟩, (1), (8), (0), ⟨T0, Nat.le_refl _, c33 W _ _ _ _ (G 10 _ rfl), Nat.le_refl _⟩, S0 0, S0 1, BL 1, BA 1, BB 1, BC 1, by decide +kernel⟩
  · exact ⟨w.heap.size + 11, ⟨true, false, false, 5⟩, ⟨true, true, false, 4⟩, ⟨false, false, false, 0⟩, (-1), (7), (0), ⟨T0, Nat.le_refl _, c33 W _ _ _ _ (G 11 _ rfl), Nat.le_refl _⟩, S0 0, S0 1, BL 2, BA 2, BB 2, BC 2, by decide +kernel⟩
  · exact ⟨w.heap.size + 12, ⟨false, false, false, 0⟩, ⟨true, false, false, 5⟩, ⟨true, true, false, 4⟩, (2), (6), (2), ⟨T0, Nat.le_refl _, c33 W _ _ _ _ (G 12 _ rfl), Nat.le_refl _⟩, S0 0, S0 1, BL 3, BA 3, BB 3, BC 3, by decide +kernel⟩
  · exact ⟨w.heap.size + 13, ⟨true, false, false, 5⟩, ⟨false, false, false, 0⟩, ⟨true, true, true, 4⟩, (2), (6), (0), ⟨T0, Nat.le_refl _, c33 W _ _ _ _ (G 13 _ rfl), Nat.le_refl _⟩, S0 0, S0 1, BL 4, BA 4, BB 4, BC 4, by decide +kernel⟩
  · exact ⟨w.heap.size + 14, ⟨true, false, false, 5⟩, ⟨true, true, false, 4⟩, ⟨true, false, false, 5⟩, (1), (6), (1), ⟨T0, Nat.le_refl _, c33 W _ _ _ _ (G 14 _ rfl), Nat.le_refl _⟩, S0 0, S0 1, BL 5, BA 5, BB 5, BC 5, by decide +kernel⟩
  · exact ⟨w.heap.size + 15, ⟨false, false, false, 0⟩, ⟨true, false, false, 5⟩, ⟨true, false, false, 5⟩, (-1), (6), (1), ⟨T0, Nat.le_refl _, c33 W _ _ _ _ (G 15 _ rfl), Nat.le_refl _⟩, S0 0, S0 1, BL 6, BA 6, BB 6, BC 6, by decide +kernel⟩
  · exact ⟨w.heap.size + 16, ⟨true, true, true, 4⟩, ⟨false, false, false, 0⟩, ⟨true, true, false, 4⟩, (0), (6), (0), ⟨T0, Nat.le_refl _, c33 W _ _ _ _ (G 16 _ rfl), Nat.le_refl _⟩, S0 0, S0 1, BL 7, BA 7, BB 7, BC 7, by decide +kernel⟩
  · exact ⟨w.heap.size + 17, ⟨false, false, false, 0⟩, ⟨true, true, false, 4⟩, ⟨true, true, false, 4⟩, (1), (6), (2), ⟨T0, Nat.le_refl _, c33 W _ _ _ _ (G 17 _ rfl), Nat.le_refl _⟩, S0 0, S0 1, BL 8, BA 8, BB 8, BC 8, by decide +kernel⟩

set_option maxRecDepth 100000 in
set_option maxHeartbeats 8000000 in
theorem walk (a0 : Int) (w : World) (_w0 : (Lit.int .i64 a0).wf = true) :
    Calls Try.prog 6 #[.int .i64 a0] w fun e w' => e = .returned (.bool true) ∧ Below w.heap.size w w' := by
  by_cases c1 : a0 < 0
  · go_enter Try.func6, Try.ntmps6
    go_wp2
    go_ret
    exact ⟨rfl, allocs_below (objs w.heap.size) w⟩
  by_cases c2 : 9 ≤ a0
  · go_enter Try.func6, Try.ntmps6
    go_wp2
    go_ret
    exact ⟨rfl, allocs_below (objs w.heap.size) w⟩
  obtain ⟨way, rfl⟩ := Int.eq_ofNat_of_zero_le (show 0 ≤ a0 by omega)
  have l9 : way < 9 := by omega
  obtain ⟨x, s0, s1, s2, last, tick, want, hI⟩ := way_any w way l9
  have hB0 := allocs_below (objs w.heap.size) w
  obtain ⟨W, hW⟩ : ∃ W, (objs w.heap.size).foldl World.alloc w = W := ⟨_, rfl⟩
  rw [hW] at hI hB0
  simp only [objs, List.foldl] at hW
  have HW := Lib.hid hW
  have HI := Lib.hid hI
  clear hW hI
  go_enter Try.func6, Try.ntmps6
  go_wp2_with fail
  rw [HW.out]
  have hI := HI.out
  obtain ⟨gc, hgc⟩ : ∃ g, w.heap.size + 1 + 1 + 1 + 1 + 1 + 1 + 1 + 1 + 1 + 1 + 1 + 1 + 1 + 1 + 1 + 1 + 1 + 1 + 1 + 1 + 1 = g := ⟨_, rfl⟩
  obtain ⟨gb, hgb⟩ : ∃ g, w.heap.size + 1 + 1 + 1 + 1 + 1 + 1 + 1 + 1 + 1 + 1 + 1 + 1 + 1 + 1 + 1 + 1 + 1 + 1 + 1 + 1 = g := ⟨_, rfl⟩
  obtain ⟨ga, hga⟩ : ∃ g, w.heap.size + 1 + 1 + 1 + 1 + 1 + 1 + 1 + 1 + 1 + 1 + 1 + 1 + 1 + 1 + 1 + 1 + 1 + 1 + 1 = g := ⟨_, rfl⟩
  obtain ⟨gl, hgl⟩ : ∃ g, w.heap.size + 1 + 1 + 1 + 1 + 1 + 1 + 1 + 1 + 1 + 1 + 1 + 1 + 1 + 1 + 1 + 1 + 1 + 1 = g := ⟨_, rfl⟩
  obtain ⟨gs, hgs⟩ : ∃ g, w.heap.size + 1 + 1 + 1 + 1 + 1 = g := ⟨_, rfl⟩
  obtain ⟨gt, hgt⟩ : ∃ g, w.heap.size + 1 + 1 + 1 + 1 = g := ⟨_, rfl⟩
  have hI : Way W gt gs gl ga gb gc way x s0 s1 s2 last tick want := by rw [← hgc, ← hgb, ← hga, ← hgl, ← hgs, ← hgt]; exact hI
  rw [hgc, hgb, hga, hgl, hgs]
  clear HW HI hgc hgb hga hgl hgs hgt
  obtain ⟨i_, q0, q1, ql, qa, qb, qc, ch⟩ := hI
  have hC : ∀ w', In w' (some ⟨gt, 0, none⟩) 3 tks (some ⟨x, 0, none⟩) 3 [s0, s1, s2] → Calls Try.prog 14 #[.agg #[.int .i64 0, .slice (some ⟨gt, 0, none⟩) 3 3], .slice (some ⟨x, 0, none⟩) 3 3, .int .i64 last, .int .i64 tick] w' fun e w'' => e = .returned (.int .i64 want) ∧ Below w'.heap.size w' w'' := by
    intro w' h
    have := c_choose h rfl (by decide) 0 last tick
    rw [ch] at this
    exact this
  clear ch
  have b0 := World.block_lt_of_cell? W _ q0
  have b1 := World.block_lt_of_cell? W _ q1
  have b2 := World.block_lt_of_cell? W _ ql
  have b3 := World.block_lt_of_cell? W _ qa
  have b4 := World.block_lt_of_cell? W _ qb
  have b5 := World.block_lt_of_cell? W _ qc
  have i0 : (0 : Int) ≤ (way : Int) := by omega
  have keep : ∀ w', Below W.heap.size W w' → w'.cell? ⟨gs, 0, none⟩ = some (.int .i64 0) ∧ w'.cell? ⟨gs, 1, none⟩ = some (.slice (some ⟨gt, 0, none⟩) 3 3) ∧ w'.cell? ⟨gl, way, none⟩ = some (.slice (some ⟨x, 0, none⟩) 3 3) ∧ w'.cell? ⟨ga, way, none⟩ = some (.int .i64 last) ∧ w'.cell? ⟨gb, way, none⟩ = some (.int .i64 tick) ∧ w'.cell? ⟨gc, way, none⟩ = some (.int .i64 want) := fun w' h => ⟨(h.cell b0).trans q0, (h.cell b1).trans q1, (h.cell b2).trans ql, (h.cell b3).trans qa, (h.cell b4).trans qb, (h.cell b5).trans qc⟩
  go_region_held3 (fun w' => w'.cell? ⟨gs, 0, none⟩ = some (.int .i64 0) ∧ w'.cell? ⟨gs, 1, none⟩ = some (.slice (some ⟨gt, 0, none⟩) 3 3) ∧ w'.cell? ⟨gl, way, none⟩ = some (.slice (some ⟨x, 0, none⟩) 3 3) ∧ w'.cell? ⟨ga, way, none⟩ = some (.int .i64 last) ∧ w'.cell? ⟨gb, way, none⟩ = some (.int .i64 tick) ∧ w'.cell? ⟨gc, way, none⟩ = some (.int .i64 want)) (go_keep) (first
    | (go_at_call 14
       refine (hC W.drew (i_.below (Below.refl _ _).drew)).mono ?_
       rintro e w3 ⟨rfl, b3'⟩
       have k3 : Below W.heap.size W w3 := (Below.refl _ _).drew.trans b3'
       obtain ⟨r0, r1, rl, ra, rb, rc⟩ := keep w3 k3)
    | (go_at_call 16
       refine (c_known _).mono ?_
       rintro e w4 ⟨rfl, b4'⟩
       have k4 := k3.trans (b4'.mono k3.size)
       obtain ⟨t0, t1, tl, ta, tb, tc⟩ := keep w4 k4))
  go_wp2
  go_ret
  exact ⟨rfl, (hB0.trans (k4.mono hB0.size))⟩

/-! ### The row's step -/
set_option linter.unusedVariables false in
set_option maxRecDepth 100000 in
theorem lifted (os : Os) (started : os.Started) (H : Type) (enc : TypeId × Value → H) :
    ReturnsInHanded {} Try.checked os 6 .any (Rows.ruleKnownSpec.pre6 enc Try.prog Try.f6 Rows.ruleKnownRow.domain false) (Rows.ruleKnownSpec.post enc Try.prog Try.f6 false true false false) := by
  refine returnsInHanded_of_change (C := Try.checked) own started (by kernel_rfl) Try.func6
    (ChangeSpec.witness6 (enc := enc) (C := Try.checked) false ⟨#[], #[.int .i64 0], []⟩ 8 (by kernel_rfl) (by kernel_rfl) (by kernel_rfl) (by kernel_rfl)) ?_
  intro W base args ds gs before hval0 hW hcnd _
  have hval : ∀ (j : Nat) t v, Try.f6.params[j]? = some t → args[j]? = some v → Value.okWide Try.prog W .any base t v := hval0
  have hW' := hW
  obtain ⟨p, q, hA0, hV, rfl, hfz, hnd⟩ := hW
  have hA : DataW.TrodAll enc Try.prog W 0 (fun _ => true) true Try.f6.params.toList args.toList ds p := hA0
  rw [Try.params6] at hA hval
  obtain ⟨v0, vs0, d0, ds0, p0, q0, hargs, rfl, rfl, h0, r0⟩ := trodAll_cons hA
  obtain ⟨rfl, rfl, rfl⟩ := trodAll_nil r0
  obtain rfl : args = #[v0] := by cases args; simp_all
  obtain ⟨rfl, rfl⟩ := trodVars_none hV
  obtain ⟨a0, rfl, rfl, rfl, w0⟩ := open_int Try.underlying3 (hval 0 3 v0 rfl rfl) h0
  clear hA0 hval0
  refine (walk a0 W w0).mono fun e W' ⟨he, bel⟩ => ?_
  subst he
  exact ⟨_, rfl, _, _, _, [], _, [], hW', trodAll_mk1 (shut_bool Try.underlying4 _), (trodAll_cons_mk (shut_int Try.underlying3 w0) trodAll_mk0), rfl, bel.frame _, fun h => by cases h⟩

theorem over : Rows.ruleKnownRow.holds Try.pinned (OpenSpec.ofChange Rows.ruleKnownSpec) :=
  OpenClaim.holds_of_wide 6 Try.f6 rfl rfl rfl rfl rfl rfl rfl ⟨rfl, rfl, rfl, rfl, rfl⟩ rfl rfl rfl rfl rfl (by kernel_rfl) Try.func6 (by kernel_rfl)
    (of_decide_eq_true (by kernel_rfl)) (by unfold Func.isWrapper; first | (rw [if_pos (by decide +kernel)]; kernel_rfl) | (rw [if_neg (by decide +kernel)]; exact ⟨rfl, rfl⟩))
    (fun os started H enc _ => lifted os started H enc)

/-- The statement. -/
theorem proved : Rows.RuleKnownSaid := over
end Go.Proofs.Ytldnichgcmfboaa.ruleKnown
