/- Words for memory that the table's proofs use: a block known whole, a frame that lets go of some blocks; no condition. -/
import Derived.Test.YtmbbfakdcfhahaaRows
import Derived.WalkKit
import Derived.WalkSpells
import Derived.WalkLawsBesides
import Derived.Laws.OwnMore
import Derived.Deep.Draws
import Derived.Laws.Rows
import Derived.Lib.Hide
import Derived.Laws.MakeOwn
import Derived.Laws.AppendOwn
namespace Go.Proofs.Ytmbbfakdcfhahaa
open Go.RowKit

def Blk (w : World) (g : Nat) (t : TypeId) (cs : Array Value) : Prop := w.heap[g]? = some (.cells cs t (0, 0))

section
variable {w w' : World} {g : Nat} {t : TypeId} {cs : Array Value}
theorem Blk.lt (h : Blk w g t cs) : g < w.heap.size := by
  rcases Nat.lt_or_ge g w.heap.size with hlt | hge
  · exact hlt
  · unfold Blk at h; rw [Array.getElem?_eq_none hge] at h; cases h
theorem Blk.cell (h : Blk w g t cs) (i : Nat) : w.cell? ⟨g, i, none⟩ = cs[i]? := cell_of_row w g i cs t (0, 0) h
theorem Blk.frozen (h : Blk w g t cs) (i : Nat) : w.frozen? ⟨g, i, none⟩ = false := by
  unfold Blk at h
  simp [World.frozen?, h]
theorem Blk.new (w : World) (t : TypeId) (cs : Array Value) : Blk (w.alloc (.cells cs t)) w.heap.size t cs := heap_alloc_new w _
theorem Blk.drew (h : Blk w g t cs) : Blk w.drew g t cs := h
theorem Blk.drewN (h : Blk w g t cs) (n : Nat) : Blk (w.drewN n) g t cs := h
theorem Blk.alloc (h : Blk w g t cs) (o : Obj) : Blk (w.alloc o) g t cs := (Below.heap_alloc w o g h.lt).trans h
theorem Blk.set_ (h : Blk w g t cs) (i : Nat) (u : Value) : Blk (w.setCell ⟨g, i, none⟩ u) g t (cs.setIfInBounds i u) := by
  unfold Blk at h ⊢
  simp [World.setCell, Array.getElem?_modify, h]
theorem Blk.far (h : Blk w g t cs) {p : Addr} (hp : g ≠ p.block) (u : Value) : Blk (w.setCell p u) g t cs := (Below.heap_setCell w p u g hp).trans h
theorem Blk.below {B : Nat} (h : Blk w g t cs) (hb : Below B w w') (hg : g < B) : Blk w' g t cs := (hb.block g hg).trans h
theorem Blk.ne_ {g' : Nat} {t' : TypeId} {cs' : Array Value} (h : Blk w g t cs) (h' : Blk w g' t' cs') (hne : t ≠ t') : g ≠ g' := by
  rintro rfl
  unfold Blk at h h'
  rw [h] at h'
  injection h' with h'
  injection h' with _ ht
  exact hne ht
end

/-- A task's state: three marks and a tick. -/
structure St where
  p : Bool
  s : Bool
  m : Bool
  a : Int
deriving DecidableEq

def St.cells (x : St) : List Value := [.bool x.p, .bool x.s, .bool x.m, .int .i64 x.a]
def St.val (x : St) : Value := .agg #[.bool x.p, .bool x.s, .bool x.m, .int .i64 x.a]
def cellsOf (L : List St) : Array Value := (L.flatMap St.cells).toArray

/-- A table at block g: its slice is the whole of block a. -/
structure Tab (w : World) (tt : TypeId) (g a : Nat) (L : List St) : Prop where
  hd : Blk w g tt #[.slice (some ⟨a, 0, none⟩) L.length L.length]
  row : Blk w a 44 (cellsOf L)

theorem cellsOf_length (L : List St) : (L.flatMap St.cells).length = L.length * 4 := by
  induction L with
  | nil => rfl
  | cons x L ih => simp only [List.flatMap_cons, List.length_append, ih, List.length_cons]; show 4 + _ = _; omega

theorem cellsOf_at (L : List St) : ∀ (i j : Nat) (hi : i < L.length), j < 4 → (cellsOf L)[i * 4 + j]? = (L[i]'hi).cells[j]? := by
  unfold cellsOf
  induction L with
  | nil => intro i j hi; simp at hi
  | cons x L ih =>
    intro i j hi hj
    rcases i with _ | i
    · simp only [List.getElem?_toArray, List.flatMap_cons, Nat.zero_mul, Nat.zero_add, List.getElem_cons_zero]
      exact List.getElem?_append_left hj
    · have := ih i j (by simpa using hi) hj
      simp only [List.getElem?_toArray, List.flatMap_cons, List.getElem_cons_succ] at this ⊢
      rw [List.getElem?_append_right (by show 4 ≤ _; omega)]
      rw [show (i + 1) * 4 + j - x.cells.length = i * 4 + j from by show (i + 1) * 4 + j - 4 = _; omega]
      exact this

theorem cellsOf_set (L : List St) : ∀ (i : Nat) (x : St), i < L.length →
    ((((cellsOf L).setIfInBounds (i * 4) (.bool x.p)).setIfInBounds (i * 4 + 1) (.bool x.s)).setIfInBounds (i * 4 + 2) (.bool x.m)).setIfInBounds (i * 4 + 3) (.int .i64 x.a) = cellsOf (L.set i x) := by
  unfold cellsOf
  induction L with
  | nil => intro i x hi; simp at hi
  | cons y L ih =>
    intro i x hi
    rcases i with _ | i
    · simp [St.cells]
    · have := ih i x (by simpa using hi)
      simp only [List.setIfInBounds_toArray, Array.mk.injEq] at this ⊢
      simp only [List.set_cons_succ, List.flatMap_cons, ← this]
      have e : ∀ (l r : List Value) (k : Nat) (v : Value), l.length = 4 → (l ++ r).set (k + 4) v = l ++ r.set k v := by
        intro l r k v hl
        rw [List.set_append_right _ _ (by omega)]
        congr 2
        omega
      rw [show (i + 1) * 4 = i * 4 + 4 from by omega, e _ _ _ _ rfl, show i * 4 + 4 + 1 = (i * 4 + 1) + 4 from rfl, e _ _ _ _ rfl,
        show i * 4 + 4 + 2 = (i * 4 + 2) + 4 from rfl, e _ _ _ _ rfl, show i * 4 + 4 + 3 = (i * 4 + 3) + 4 from rfl, e _ _ _ _ rfl]

theorem setIfInBounds_self {xs : Array Value} {i : Nat} {v : Value} (h : xs[i]? = some v) : xs.setIfInBounds i v = xs := by
  obtain ⟨hi, rfl⟩ := Array.getElem?_eq_some_iff.1 h
  ext j h1 h2
  · simp
  · simp only [Array.getElem_setIfInBounds h2]
    split
    · next h => subst h; rfl
    · rfl

section
variable {w w' : World} {g a b : Nat} {tt : TypeId} {L : List St} {t : TypeId} {cs : Array Value}
theorem Blk.grown {row : Option Nat} (h : Blk w g t cs) (hb : w.grownBy w' row) (hg : some g ≠ row) : Blk w' g t cs := (hb.block g h.lt hg).trans h

theorem only_drewN {a w : World} {row : Option Nat} (h : a.grownBy w row) (n : Nat) : a.grownBy (w.drewN n) row := ⟨h.os, h.tape, h.output, h.size, h.block⟩
theorem only_drew {a w : World} {row : Option Nat} (h : a.grownBy w row) : a.grownBy w.drew row := ⟨h.os, h.tape, h.output, h.size, h.block⟩
theorem only_alloc {a w : World} {row : Option Nat} (h : a.grownBy w row) (o : Obj) : a.grownBy (w.alloc o) row :=
  ⟨h.os, h.tape, h.output, Nat.le_trans h.size (by simp), fun i hi hne => (Below.heap_alloc w o i (Nat.lt_of_lt_of_le hi h.size)).trans (h.block i hi hne)⟩
theorem only_setCell {a w : World} {g : Nat} (h : a.grownBy w (some g)) {p : Addr} (hp : p.block = g ∨ a.heap.size ≤ p.block) (u : Value) : a.grownBy (w.setCell p u) (some g) :=
  ⟨h.os, h.tape, h.output, by simpa [World.setCell] using h.size, fun i hi hne => (Below.heap_setCell w p u i (by
    rintro rfl
    rcases hp with hp | hp
    · exact hne (by rw [hp])
    · omega)).trans (h.block i hi hne)⟩
theorem only_of_below {a w : World} (h : Below a.heap.size a w) (row : Option Nat) : a.grownBy w row := ⟨h.os, h.tape, h.output, h.size, fun i hi _ => h.block i hi⟩

theorem Tab.drew (h : Tab w tt g a L) : Tab w.drew tt g a L := ⟨h.hd, h.row⟩
theorem Tab.drewN (h : Tab w tt g a L) (n : Nat) : Tab (w.drewN n) tt g a L := ⟨h.hd, h.row⟩
theorem Tab.ne (h : Tab w tt g a L) (ht : tt ≠ 44) : g ≠ a := Blk.ne_ h.hd h.row ht
theorem Tab.keep {row : Option Nat} (h : Tab w tt g a L) (hg : w.grownBy w' row) (h1 : some g ≠ row) (h2 : some a ≠ row) : Tab w' tt g a L := ⟨h.hd.grown hg h1, h.row.grown hg h2⟩

/-- The world behind the store of a whole state. -/
def setSt (w : World) (a i : Nat) (x : St) : World :=
  (((w.setCell ⟨a, i * 4, none⟩ (.bool x.p)).setCell ⟨a, i * 4 + 1, none⟩ (.bool x.s)).setCell ⟨a, i * 4 + 2, none⟩ (.bool x.m)).setCell ⟨a, i * 4 + 3, none⟩ (.int .i64 x.a)

theorem grown_setSt (w : World) (a i : Nat) (x : St) : w.grownBy (setSt w a i x) (some a) := by
  have h0 := World.grownBy.refl w (some a)
  have h1 := only_setCell h0 (p := ⟨a, i * 4, none⟩) (.inl rfl) (.bool x.p)
  have h2 := only_setCell h1 (p := ⟨a, i * 4 + 1, none⟩) (.inl rfl) (.bool x.s)
  have h3 := only_setCell h2 (p := ⟨a, i * 4 + 2, none⟩) (.inl rfl) (.bool x.m)
  exact only_setCell h3 (p := ⟨a, i * 4 + 3, none⟩) (.inl rfl) (.int .i64 x.a)

theorem Tab.set (h : Tab w tt g a L) (ht : tt ≠ 44) {i : Nat} (hi : i < L.length) (x : St) : Tab (setSt w a i x) tt g a (L.set i x) := by
  have hne := h.ne ht
  constructor
  · rw [List.length_set]
    have hg := grown_setSt w a i x
    exact h.hd.grown hg (fun e : some g = some a => hne (Option.some.inj e))
  · rw [← cellsOf_set L i x hi]
    exact (((h.row.set_ _ _).set_ _ _).set_ _ _).set_ _ _

theorem Tab.set1 (h : Tab w tt g a L) (ht : tt ≠ 44) {i : Nat} (hi : i < L.length) (b : Bool) : Tab (w.setCell ⟨a, i * 4 + 1, none⟩ (.bool b)) tt g a (L.set i ⟨L[i].p, b, L[i].m, L[i].a⟩) := by
  have hne := h.ne ht
  constructor
  · rw [List.length_set]
    exact h.hd.far hne _
  · rw [← cellsOf_set L i _ hi]
    have k := h.row.set_ (i * 4 + 1) (.bool b)
    have e0 : (cellsOf L)[i * 4]? = some (.bool L[i].p) := cellsOf_at L i 0 hi (by omega)
    have e2 : (cellsOf L)[i * 4 + 2]? = some (.bool L[i].m) := cellsOf_at L i 2 hi (by omega)
    have e3 : (cellsOf L)[i * 4 + 3]? = some (.int .i64 L[i].a) := cellsOf_at L i 3 hi (by omega)
    have d2 : ((cellsOf L).setIfInBounds (i * 4 + 1) (.bool b)).setIfInBounds (i * 4 + 2) (.bool L[i].m) = (cellsOf L).setIfInBounds (i * 4 + 1) (.bool b) := setIfInBounds_self (by rw [Array.getElem?_setIfInBounds_ne (by omega)]; exact e2)
    have d3 : ((cellsOf L).setIfInBounds (i * 4 + 1) (.bool b)).setIfInBounds (i * 4 + 3) (.int .i64 L[i].a) = (cellsOf L).setIfInBounds (i * 4 + 1) (.bool b) := setIfInBounds_self (by rw [Array.getElem?_setIfInBounds_ne (by omega)]; exact e3)
    rw [setIfInBounds_self e0]
    simp only [d2, d3]
    exact k
theorem Tab.set2 (h : Tab w tt g a L) (ht : tt ≠ 44) {i : Nat} (hi : i < L.length) (b : Bool) : Tab (w.setCell ⟨a, i * 4 + 2, none⟩ (.bool b)) tt g a (L.set i ⟨L[i].p, L[i].s, b, L[i].a⟩) := by
  have hne := h.ne ht
  constructor
  · rw [List.length_set]
    exact h.hd.far hne _
  · rw [← cellsOf_set L i _ hi]
    have k := h.row.set_ (i * 4 + 2) (.bool b)
    have e0 : (cellsOf L)[i * 4]? = some (.bool L[i].p) := cellsOf_at L i 0 hi (by omega)
    have e1 : (cellsOf L)[i * 4 + 1]? = some (.bool L[i].s) := cellsOf_at L i 1 hi (by omega)
    have e3 : (cellsOf L)[i * 4 + 3]? = some (.int .i64 L[i].a) := cellsOf_at L i 3 hi (by omega)
    have d3 : ((cellsOf L).setIfInBounds (i * 4 + 2) (.bool b)).setIfInBounds (i * 4 + 3) (.int .i64 L[i].a) = (cellsOf L).setIfInBounds (i * 4 + 2) (.bool b) := setIfInBounds_self (by rw [Array.getElem?_setIfInBounds_ne (by omega)]; exact e3)
    rw [setIfInBounds_self e0, setIfInBounds_self e1]
    simp only [d3]
    exact k

theorem Tab.slice (h : Tab w tt g a L) : w.cell? ⟨g, 0, none⟩ = some (.slice (some ⟨a, 0, none⟩) L.length L.length) := by rw [h.hd.cell]; rfl
theorem Tab.c0 (h : Tab w tt g a L) {i : Nat} (hi : i < L.length) : w.cell? ⟨a, i * 4, none⟩ = some (.bool L[i].p) := by rw [h.row.cell]; exact cellsOf_at L i 0 hi (by omega)
theorem Tab.c1 (h : Tab w tt g a L) {i : Nat} (hi : i < L.length) : w.cell? ⟨a, i * 4 + 1, none⟩ = some (.bool L[i].s) := by rw [h.row.cell]; exact cellsOf_at L i 1 hi (by omega)
theorem Tab.c2 (h : Tab w tt g a L) {i : Nat} (hi : i < L.length) : w.cell? ⟨a, i * 4 + 2, none⟩ = some (.bool L[i].m) := by rw [h.row.cell]; exact cellsOf_at L i 2 hi (by omega)
theorem Tab.c3 (h : Tab w tt g a L) {i : Nat} (hi : i < L.length) : w.cell? ⟨a, i * 4 + 3, none⟩ = some (.int .i64 L[i].a) := by rw [h.row.cell]; exact cellsOf_at L i 3 hi (by omega)
theorem Tab.fr (h : Tab w tt g a L) (j : Nat) : w.frozen? ⟨a, j, none⟩ = false := h.row.frozen j
end

/-! ### What the functions compute -/
def hasL (L : List St) (i : Int) : Bool := decide (0 ≤ i) && (L[i.toNat]?.map St.p).getD false
def putOk (L : List St) (i : Int) : Bool := decide (0 ≤ i) && decide (i < L.length) && !hasL L i
def putL (L : List St) (i v : Int) : List St := if putOk L i then L.set i.toNat ⟨true, false, false, v⟩ else L
def getL (L : List St) (i : Int) : St := L[i.toNat]?.getD ⟨false, false, false, 0⟩
def beginL (L : List St) (i : Int) : List St := if hasL L i then L.set i.toNat ⟨(getL L i).p, true, (getL L i).m, (getL L i).a⟩ else L
def midL (L : List St) (i : Int) (b : Bool) : List St := if hasL L i then L.set i.toNat ⟨(getL L i).p, (getL L i).s, b, (getL L i).a⟩ else L
def dropL (L : List St) (i : Int) : List St := if hasL L i then L.set i.toNat ⟨false, false, false, 0⟩ else L
def stateL (L : List St) (i : Int) : St := if hasL L i then getL L i else ⟨false, false, false, 0⟩
def oldStep (r : Int × Bool) (x : St) : Int × Bool := if x.p && (!r.2 || decide (x.a < r.1)) then (x.a, true) else r
def oldL (L : List St) : Int × Bool := L.foldl oldStep (0, false)

theorem hasL_neg {L : List St} {i : Int} (h : i < 0) : hasL L i = false := by simp [hasL, show ¬ 0 ≤ i from by omega]
theorem hasL_ge {L : List St} {i : Int} (h : (L.length : Int) ≤ i) : hasL L i = false := by
  unfold hasL
  rw [List.getElem?_eq_none (by omega)]
  simp
theorem hasL_in {L : List St} {i : Nat} (h : i < L.length) : hasL L i = L[i].p := by simp [hasL, h]
theorem hasL_true {L : List St} {i : Int} (h : hasL L i = true) : ∃ (n : Nat) (_ : n < L.length), i = n ∧ L[n].p = true := by
  by_cases h0 : i < 0
  · rw [hasL_neg h0] at h; cases h
  · by_cases h1 : (L.length : Int) ≤ i
    · rw [hasL_ge h1] at h; cases h
    · obtain ⟨n, rfl⟩ := Int.eq_ofNat_of_zero_le (show 0 ≤ i by omega)
      exact ⟨n, by omega, rfl, by rw [← hasL_in (by omega)]; exact h⟩
theorem getL_in {L : List St} {i : Nat} (h : i < L.length) : getL L i = L[i] := by simp [getL, h]

end Go.Proofs.Ytmbbfakdcfhahaa
