/- Joined texts: Tbl, Cache, Kst. -/
import Derived.Test.YtdgfjpbjiccllaaGreatDoorJa01
import Derived.Test.YtdgfjpbjiccllaaGreatDoorJa04
import Derived.Test.YtdgfjpbjiccllaaGreatDoorJa12
import Derived.Test.YtdgfjpbjiccllaaGreatDoorJa10
/- What the functions of package table come to. -/
namespace Go.Proofs.YtdgfjpbjiccllaaGreatDoor.T
open Go.RowKit
set_option maxRecDepth 100000
structure St where
  p : Bool
  s : Bool
  m : Bool
  a : Int
deriving DecidableEq
def St.cells (x : St) : List Value := [.bool x.p, .bool x.s, .bool x.m, .int .i64 x.a]
def St.val (x : St) : Value := .agg #[.bool x.p, .bool x.s, .bool x.m, .int .i64 x.a]
def cellsOf (L : List St) : Array Value := (L.flatMap St.cells).toArray
/-- A table at block g: its slice is the whole of block a. -/
structure Tab (w : World) (tt : TypeId) (g a : Nat) (L : List St) : Prop where
  hd : Blk w g tt #[.slice (some ⟨a, 0, none⟩) L.length L.length]
  row : Blk w a 142 (cellsOf L)
theorem cellsOf_length (L : List St) : (L.flatMap St.cells).length = L.length * 4 := by
  induction L with
  | nil => rfl
  | cons x L ih => simp only [List.flatMap_cons, List.length_append, ih, List.length_cons]; show 4 + _ = _; omega
theorem cellsOf_at (L : List St) : ∀ (i j : Nat) (hi : i < L.length), j < 4 → (cellsOf L)[i * 4 + j]? = (L[i]'hi).cells[j]? := by
  unfold cellsOf
  induction L with
  | nil => intro i j hi; simp at hi
  | cons x L ih =>
    intro i j hi hj
    rcases i with _ | i
    · simp only [List.getElem?_toArray, List.flatMap_cons, Nat.zero_mul, Nat.zero_add, List.getElem_cons_zero]
      exact List.getElem?_append_left hj
    · have := ih i j (by simpa using hi) hj
      simp only [List.getElem?_toArray, List.flatMap_cons, List.getElem_cons_succ] at this ⊢
      rw [List.getElem?_append_right (by show 4 ≤ _; omega)]
      rw [show (i + 1) * 4 + j - x.cells.length = i * 4 + j from by show (i + 1) * 4 + j - 4 = _; omega]
      exact this
theorem cellsOf_set (L : List St) : ∀ (i : Nat) (x : St), i < L.length →
    ((((cellsOf L).setIfInBounds (i * 4) (.bool x.p)).setIfInBounds (i * 4 + 1) (.bool x.s)).setIfInBounds (i * 4 + 2) (.bool x.m)).setIfInBounds (i * 4 + 3) (.int .i64 x.a) = cellsOf (L.set i x) := by
  unfold cellsOf
  induction L with
  | nil => intro i x hi; simp at hi
  | cons y L ih =>
    intro i x hi
    rcases i with _ | i
    · simp [St.cells]
    · have := ih i x (by simpa using hi)
      simp only [List.setIfInBounds_toArray, Array.mk.injEq] at this ⊢
      simp only [List.set_cons_succ, List.flatMap_cons, ← this]
      have e : ∀ (l r : List Value) (k : Nat) (v : Value), l.length = 4 → (l ++ r).set (k + 4) v = l ++ r.set k v := by
        intro l r k v hl
        rw [List.set_append_right _ _ (by omega)]
        congr 2
        omega
      rw [show (i + 1) * 4 = i * 4 + 4 from by omega, e _ _ _ _ rfl, show i * 4 + 4 + 1 = (i * 4 + 1) + 4 from rfl, e _ _ _ _ rfl,
        show i * 4 + 4 + 2 = (i * 4 + 2) + 4 from rfl, e _ _ _ _ rfl, show i * 4 + 4 + 3 = (i * 4 + 3) + 4 from rfl, e _ _ _ _ rfl]
section
variable {w w' : World} {g a b : Nat} {tt : TypeId} {L : List St} {t : TypeId} {cs : Array Value}
theorem Tab.ne (h : Tab w tt g a L) (ht : tt ≠ 142) : g ≠ a := Blk.ne_ h.hd h.row ht
theorem Tab.keep {row : Option Nat} (h : Tab w tt g a L) (hg : w.grownBy w' row) (h1 : some g ≠ row) (h2 : some a ≠ row) : Tab w' tt g a L := ⟨h.hd.grown hg h1, h.row.grown hg h2⟩
/-- The world behind the store of a whole state. -/
def setSt (w : World) (a i : Nat) (x : St) : World :=
  (((w.setCell ⟨a, i * 4, none⟩ (.bool x.p)).setCell ⟨a, i * 4 + 1, none⟩ (.bool x.s)).setCell ⟨a, i * 4 + 2, none⟩ (.bool x.m)).setCell ⟨a, i * 4 + 3, none⟩ (.int .i64 x.a)
theorem grown_setSt (w : World) (a i : Nat) (x : St) : w.grownBy (setSt w a i x) (some a) := by
  have h0 := World.grownBy.refl w (some a)
  have h1 := only_setCell h0 (p := ⟨a, i * 4, none⟩) (.inl rfl) (.bool x.p)
  have h2 := only_setCell h1 (p := ⟨a, i * 4 + 1, none⟩) (.inl rfl) (.bool x.s)
  have h3 := only_setCell h2 (p := ⟨a, i * 4 + 2, none⟩) (.inl rfl) (.bool x.m)
  exact only_setCell h3 (p := ⟨a, i * 4 + 3, none⟩) (.inl rfl) (.int .i64 x.a)
theorem Tab.set (h : Tab w tt g a L) (ht : tt ≠ 142) {i : Nat} (hi : i < L.length) (x : St) : Tab (setSt w a i x) tt g a (L.set i x) := by
  have hne := h.ne ht
  constructor
  · rw [List.length_set]
    have hg := grown_setSt w a i x
    exact h.hd.grown hg (fun e : some g = some a => hne (Option.some.inj e))
  · rw [← cellsOf_set L i x hi]
    exact (((h.row.set_ _ _).set_ _ _).set_ _ _).set_ _ _
theorem Tab.set1 (h : Tab w tt g a L) (ht : tt ≠ 142) {i : Nat} (hi : i < L.length) (b : Bool) : Tab (w.setCell ⟨a, i * 4 + 1, none⟩ (.bool b)) tt g a (L.set i ⟨L[i].p, b, L[i].m, L[i].a⟩) := by
  have hne := h.ne ht
  constructor
  · rw [List.length_set]
    exact h.hd.far hne _
  · rw [← cellsOf_set L i _ hi]
    have k := h.row.set_ (i * 4 + 1) (.bool b)
    have e0 : (cellsOf L)[i * 4]? = some (.bool L[i].p) := cellsOf_at L i 0 hi (by omega)
    have e2 : (cellsOf L)[i * 4 + 2]? = some (.bool L[i].m) := cellsOf_at L i 2 hi (by omega)
    have e3 : (cellsOf L)[i * 4 + 3]? = some (.int .i64 L[i].a) := cellsOf_at L i 3 hi (by omega)
    have d2 : ((cellsOf L).setIfInBounds (i * 4 + 1) (.bool b)).setIfInBounds (i * 4 + 2) (.bool L[i].m) = (cellsOf L).setIfInBounds (i * 4 + 1) (.bool b) := setIfInBounds_self (by rw [Array.getElem?_setIfInBounds_ne (by omega)]; exact e2)
    have d3 : ((cellsOf L).setIfInBounds (i * 4 + 1) (.bool b)).setIfInBounds (i * 4 + 3) (.int .i64 L[i].a) = (cellsOf L).setIfInBounds (i * 4 + 1) (.bool b) := setIfInBounds_self (by rw [Array.getElem?_setIfInBounds_ne (by omega)]; exact e3)
    rw [setIfInBounds_self e0]
    simp only [d2, d3]
    exact k
theorem Tab.set2 (h : Tab w tt g a L) (ht : tt ≠ 142) {i : Nat} (hi : i < L.length) (b : Bool) : Tab (w.setCell ⟨a, i * 4 + 2, none⟩ (.bool b)) tt g a (L.set i ⟨L[i].p, L[i].s, b, L[i].a⟩) := by
  have hne := h.ne ht
  constructor
  · rw [List.length_set]
    exact h.hd.far hne _
  · rw [← cellsOf_set L i _ hi]
    have k := h.row.set_ (i * 4 + 2) (.bool b)
    have e0 : (cellsOf L)[i * 4]? = some (.bool L[i].p) := cellsOf_at L i 0 hi (by omega)
    have e1 : (cellsOf L)[i * 4 + 1]? = some (.bool L[i].s) := cellsOf_at L i 1 hi (by omega)
    have e3 : (cellsOf L)[i * 4 + 3]? = some (.int .i64 L[i].a) := cellsOf_at L i 3 hi (by omega)
    have d3 : ((cellsOf L).setIfInBounds (i * 4 + 2) (.bool b)).setIfInBounds (i * 4 + 3) (.int .i64 L[i].a) = (cellsOf L).setIfInBounds (i * 4 + 2) (.bool b) := setIfInBounds_self (by rw [Array.getElem?_setIfInBounds_ne (by omega)]; exact e3)
    rw [setIfInBounds_self e0, setIfInBounds_self e1]
    simp only [d3]
    exact k
theorem Tab.slice (h : Tab w tt g a L) : w.cell? ⟨g, 0, none⟩ = some (.slice (some ⟨a, 0, none⟩) L.length L.length) := by rw [h.hd.cell]; rfl
theorem Tab.c0 (h : Tab w tt g a L) {i : Nat} (hi : i < L.length) : w.cell? ⟨a, i * 4, none⟩ = some (.bool L[i].p) := by rw [h.row.cell]; exact cellsOf_at L i 0 hi (by omega)
theorem Tab.c1 (h : Tab w tt g a L) {i : Nat} (hi : i < L.length) : w.cell? ⟨a, i * 4 + 1, none⟩ = some (.bool L[i].s) := by rw [h.row.cell]; exact cellsOf_at L i 1 hi (by omega)
theorem Tab.c2 (h : Tab w tt g a L) {i : Nat} (hi : i < L.length) : w.cell? ⟨a, i * 4 + 2, none⟩ = some (.bool L[i].m) := by rw [h.row.cell]; exact cellsOf_at L i 2 hi (by omega)
theorem Tab.c3 (h : Tab w tt g a L) {i : Nat} (hi : i < L.length) : w.cell? ⟨a, i * 4 + 3, none⟩ = some (.int .i64 L[i].a) := by rw [h.row.cell]; exact cellsOf_at L i 3 hi (by omega)
theorem Tab.fr (h : Tab w tt g a L) (j : Nat) : w.frozen? ⟨a, j, none⟩ = false := h.row.frozen j
end
/-! ### What the functions compute -/
def hasL (L : List St) (i : Int) : Bool := decide (0 ≤ i) && (L[i.toNat]?.map St.p).getD false
def putOk (L : List St) (i : Int) : Bool := decide (0 ≤ i) && decide (i < L.length) && !hasL L i
def putL (L : List St) (i v : Int) : List St := if putOk L i then L.set i.toNat ⟨true, false, false, v⟩ else L
def getL (L : List St) (i : Int) : St := L[i.toNat]?.getD ⟨false, false, false, 0⟩
def beginL (L : List St) (i : Int) : List St := if hasL L i then L.set i.toNat ⟨(getL L i).p, true, (getL L i).m, (getL L i).a⟩ else L
def midL (L : List St) (i : Int) (b : Bool) : List St := if hasL L i then L.set i.toNat ⟨(getL L i).p, (getL L i).s, b, (getL L i).a⟩ else L
def dropL (L : List St) (i : Int) : List St := if hasL L i then L.set i.toNat ⟨false, false, false, 0⟩ else L
def stateL (L : List St) (i : Int) : St := if hasL L i then getL L i else ⟨false, false, false, 0⟩
theorem hasL_neg {L : List St} {i : Int} (h : i < 0) : hasL L i = false := by simp [hasL, show ¬ 0 ≤ i from by omega]
theorem hasL_ge {L : List St} {i : Int} (h : (L.length : Int) ≤ i) : hasL L i = false := by
  unfold hasL
  rw [List.getElem?_eq_none (by omega)]
  simp
theorem hasL_in {L : List St} {i : Nat} (h : i < L.length) : hasL L i = L[i].p := by simp [hasL, h]
theorem hasL_true {L : List St} {i : Int} (h : hasL L i = true) : ∃ (n : Nat) (_ : n < L.length), i = n ∧ L[n].p = true := by
  by_cases h0 : i < 0
  · rw [hasL_neg h0] at h; cases h
  · by_cases h1 : (L.length : Int) ≤ i
    · rw [hasL_ge h1] at h; cases h
    · obtain ⟨n, rfl⟩ := Int.eq_ofNat_of_zero_le (show 0 ≤ i by omega)
      exact ⟨n, by omega, rfl, by rw [← hasL_in (by omega)]; exact h⟩
theorem getL_in {L : List St} {i : Nat} (h : i < L.length) : getL L i = L[i] := by simp [getL, h]
theorem Tryz.info142 : (Tryz.prog.info? 142).map (fun i => (i.zero, i.size, i.bytes)) = some (some (.agg #[.bool false, .bool false, .bool false, .int .i64 0]), 4, 16) := by kernel_rfl
theorem made_zero (n : Nat) (h : n ≤ 8) : madeCells (Value.agg #[.bool false, .bool false, .bool false, .int .i64 0]).cells (n * 4) = cellsOf (List.replicate n ⟨false, false, false, 0⟩) := by
  obtain rfl | rfl | rfl | rfl | rfl | rfl | rfl | rfl | rfl : n = 0 ∨ n = 1 ∨ n = 2 ∨ n = 3 ∨ n = 4 ∨ n = 5 ∨ n = 6 ∨ n = 7 ∨ n = 8 := by omega
  all_goals kernel_rfl
def zeros (n : Nat) : List St := List.replicate n ⟨false, false, false, 0⟩
/-! ### type 133 -/
theorem tnew_yes (n : Nat) (h1 : 1 ≤ n) (h8 : n ≤ 8) (w : World) :
    Calls Tryz.prog 44 #[.int .i64 n] w fun e w' => e = .returned (.pointer (some ⟨w.heap.size + 1, 0, none⟩)) ∧ Tab w' 133 (w.heap.size + 1) w.heap.size (zeros n) ∧ Below w.heap.size w w' := by
  obtain ⟨i0, hi0, hz0, hz1, hz2⟩ := info_parts Tryz.info142
  have hmk : ∀ W : World, (Instr.makeSlice 101 (.int .i64 (n : Int)) (.int .i64 (n : Int))).run Tryz.prog W = .ok (.slice (some ⟨W.heap.size, 0, none⟩) n n) (W.alloc (.cells (cellsOf (zeros n)) 142)) := by
    intro W
    have hr := run_make (P := Tryz.prog) W 101 142 i0 _ Tryz.underlying101 hi0 hz0 .i64 .i64 n n (by omega) (by omega) (by rw [hz2]; omega) (by omega)
    rw [hr, hz1, Int.toNat_natCast, made_zero n h8]
    rfl
  have hlen : (zeros n).length = n := by simp [zeros]
  have H := Lib.hid hlen; clear hlen
  have Z1 := Lib.hid hz1; clear hz1
  have Z2 := Lib.hid hz2; clear hz2
  have Z0 := Lib.hid hz0; clear hz0
  have Zi := Lib.hid hi0; clear hi0
  have hb1 : (n : Int) < 1 ∨ (1 : Int) ≤ n := by omega
  have l1 : ¬ (n : Int) < 1 := by omega
  have l2 : ¬ (8 : Int) < n := by omega
  go_enter Tryz.func44, Tryz.ntmps44
  go_wp2
  go_ret
  refine ⟨by simp, ⟨?_, ?_⟩, ?_⟩
  · rw [H.out]
    have := Blk.new (w.alloc (.cells (cellsOf (zeros n)) 142)) 133 #[.slice (some ⟨w.heap.size, 0, none⟩) n n]
    simpa using this
  · exact (Blk.new w 142 _).alloc _
  · exact ((Below.refl _ _).alloc (Nat.le_refl _) _).alloc (by simp) _
theorem thas_any (g a : Nat) (L : List St) (i : Int) (w : World) (h : Tab w 133 g a L) :
    Calls Tryz.prog 118 #[.pointer (some ⟨g, 0, none⟩), .int .i64 i] w fun e w' => e = .returned (.bool (hasL L i)) ∧ w = w' := by
  have c := h.slice
  by_cases h0 : i < 0
  · rw [hasL_neg h0]
    go_enter Tryz.func118, Tryz.ntmps118
    go_wp2
    go_ret
    exact ⟨rfl, rfl⟩
  · obtain ⟨i, rfl⟩ := Int.eq_ofNat_of_zero_le (show 0 ≤ i by omega)
    by_cases h1 : i < L.length
    · rw [hasL_in h1]
      have c0 := h.c0 h1
      go_enter Tryz.func118, Tryz.ntmps118
      go_wp2
      go_ret
      exact ⟨rfl, rfl⟩
    · rw [hasL_ge (by omega)]
      go_enter Tryz.func118, Tryz.ntmps118
      go_wp2
      go_ret
      exact ⟨rfl, rfl⟩
theorem tput_any (g a : Nat) (L : List St) (i v : Int) (w : World) (h : Tab w 133 g a L) :
    Calls Tryz.prog 77 #[.pointer (some ⟨g, 0, none⟩), .int .i64 i, .int .i64 v] w fun e w' =>
      e = .returned (.bool (putOk L i)) ∧ Tab w' 133 g a (putL L i v) ∧ w.grownBy w' (some a) := by
  have c := h.slice
  by_cases h0 : i < 0
  · have e1 : putOk L i = false := by simp [putOk, show ¬ 0 ≤ i from by omega]
    have e2 : putL L i v = L := by simp [putL, e1]
    rw [e1, e2]; clear e1 e2
    go_enter Tryz.func77, Tryz.ntmps77
    go_wp2_with fail
    go_ret
    exact ⟨rfl, h, World.grownBy.refl _ _⟩
  · obtain ⟨i, rfl⟩ := Int.eq_ofNat_of_zero_le (show 0 ≤ i by omega)
    by_cases h1 : i < L.length
    · by_cases h2 : hasL L i = true
      · have e1 : putOk L i = false := by simp [putOk, h2]
        have e2 : putL L i v = L := by simp [putL, e1]
        rw [e1, e2]; clear e1 e2
        have H := Lib.hid h2; clear h2
        go_enter Tryz.func77, Tryz.ntmps77
        go_wp2_with (go_at_call 118; refine (thas_any g a L i w h).mono ?_; rintro e w' ⟨rfl, rfl⟩; rw [H.out])
        go_ret
        exact ⟨rfl, h, World.grownBy.refl _ _⟩
      · have h2 : hasL L i = false := by simpa using h2
        have e1 : putOk L i = true := by simp [putOk, h2, h1]
        have e2 : putL L i v = L.set i ⟨true, false, false, v⟩ := by simp [putL, e1]
        rw [e1, e2]; clear e1 e2
        have H := Lib.hid h2; clear h2
        have c0 := h.c0 h1
        have c1 := h.c1 h1
        have c2 := h.c2 h1
        have c3 := h.c3 h1
        have f0 := h.fr (i * 4)
        have f1 := h.fr (i * 4 + 1)
        have f2 := h.fr (i * 4 + 2)
        have f3 := h.fr (i * 4 + 3)
        go_enter Tryz.func77, Tryz.ntmps77
        go_wp2_with (go_at_call 118; refine (thas_any g a L i w h).mono ?_; rintro e w' ⟨rfl, rfl⟩; rw [H.out])
        go_ret
        exact ⟨rfl, h.set (by decide) h1 ⟨true, false, false, v⟩, grown_setSt w a i ⟨true, false, false, v⟩⟩
    · have e1 : putOk L i = false := by simp [putOk, h1]
      have e2 : putL L i v = L := by simp [putL, e1]
      rw [e1, e2]; clear e1 e2
      go_enter Tryz.func77, Tryz.ntmps77
      go_wp2_with fail
      go_ret
      exact ⟨rfl, h, World.grownBy.refl _ _⟩
theorem tbegin_any (g a : Nat) (L : List St) (i : Int) (w : World) (h : Tab w 133 g a L) :
    Calls Tryz.prog 85 #[.pointer (some ⟨g, 0, none⟩), .int .i64 i] w fun e w' =>
      e = .returned (.bool (hasL L i)) ∧ Tab w' 133 g a (beginL L i) ∧ w.grownBy w' (some a) := by
  have c := h.slice
  by_cases h2 : hasL L i = true
  · obtain ⟨n, h1, rfl, _⟩ := hasL_true h2
    have e2 : beginL L n = L.set n ⟨L[n].p, true, L[n].m, L[n].a⟩ := by simp [beginL, h2, getL_in h1]
    rw [e2, h2]; clear e2
    have H := Lib.hid h2; clear h2
    have c0 := h.c1 h1
    have f0 := h.fr (n * 4 + 1)
    have hs : Tab (w.setCell ⟨a, n * 4 + 1, none⟩ (.bool true)) 133 g a (L.set n ⟨L[n].p, true, L[n].m, L[n].a⟩) := h.set1 (by decide) h1 (true)
    go_enter Tryz.func85, Tryz.ntmps85
    go_wp2_with (go_at_call 118; refine (thas_any g a L n w h).mono ?_; rintro e w' ⟨rfl, rfl⟩; rw [H.out])
    go_ret
    exact ⟨rfl, hs, only_setCell (World.grownBy.refl w _) (.inl rfl) _⟩
  · have h2 : hasL L i = false := by simpa using h2
    have e2 : beginL L i = L := by simp [beginL, h2]
    rw [e2, h2]; clear e2
    have H := Lib.hid h2; clear h2
    go_enter Tryz.func85, Tryz.ntmps85
    go_wp2_with (go_at_call 118; refine (thas_any g a L i w h).mono ?_; rintro e w' ⟨rfl, rfl⟩; rw [H.out])
    go_ret
    exact ⟨rfl, h, World.grownBy.refl _ _⟩
theorem tmid_any (g a : Nat) (L : List St) (i : Int) (b : Bool) (w : World) (h : Tab w 133 g a L) :
    Calls Tryz.prog 89 #[.pointer (some ⟨g, 0, none⟩), .int .i64 i, .bool b] w fun e w' =>
      e = .returned (.bool (hasL L i)) ∧ Tab w' 133 g a (midL L i b) ∧ w.grownBy w' (some a) := by
  have c := h.slice
  by_cases h2 : hasL L i = true
  · obtain ⟨n, h1, rfl, _⟩ := hasL_true h2
    have e2 : midL L n b = L.set n ⟨L[n].p, L[n].s, b, L[n].a⟩ := by simp [midL, h2, getL_in h1]
    rw [e2, h2]; clear e2
    have H := Lib.hid h2; clear h2
    have c0 := h.c2 h1
    have f0 := h.fr (n * 4 + 2)
    have hs : Tab (w.setCell ⟨a, n * 4 + 2, none⟩ (.bool b)) 133 g a (L.set n ⟨L[n].p, L[n].s, b, L[n].a⟩) := h.set2 (by decide) h1 (b)
    go_enter Tryz.func89, Tryz.ntmps89
    go_wp2_with (go_at_call 118; refine (thas_any g a L n w h).mono ?_; rintro e w' ⟨rfl, rfl⟩; rw [H.out])
    go_ret
    exact ⟨rfl, hs, only_setCell (World.grownBy.refl w _) (.inl rfl) _⟩
  · have h2 : hasL L i = false := by simpa using h2
    have e2 : midL L i b = L := by simp [midL, h2]
    rw [e2, h2]; clear e2
    have H := Lib.hid h2; clear h2
    go_enter Tryz.func89, Tryz.ntmps89
    go_wp2_with (go_at_call 118; refine (thas_any g a L i w h).mono ?_; rintro e w' ⟨rfl, rfl⟩; rw [H.out])
    go_ret
    exact ⟨rfl, h, World.grownBy.refl _ _⟩
theorem tdrop_any (g a : Nat) (L : List St) (i : Int) (w : World) (h : Tab w 133 g a L) :
    Calls Tryz.prog 92 #[.pointer (some ⟨g, 0, none⟩), .int .i64 i] w fun e w' =>
      e = .returned (.bool (hasL L i)) ∧ Tab w' 133 g a (dropL L i) ∧ w.grownBy w' (some a) := by
  have c := h.slice
  by_cases h2 : hasL L i = true
  · obtain ⟨n, h1, rfl, _⟩ := hasL_true h2
    have e2 : dropL L n = L.set n ⟨false, false, false, 0⟩ := by simp [dropL, h2]
    rw [e2, h2]; clear e2
    have H := Lib.hid h2; clear h2
    have c0 := h.c0 h1
    have c1 := h.c1 h1
    have c2 := h.c2 h1
    have c3 := h.c3 h1
    have f0 := h.fr (n * 4)
    have f1 := h.fr (n * 4 + 1)
    have f2 := h.fr (n * 4 + 2)
    have f3 := h.fr (n * 4 + 3)
    go_enter Tryz.func92, Tryz.ntmps92
    go_wp2_with (go_at_call 118; refine (thas_any g a L n w h).mono ?_; rintro e w' ⟨rfl, rfl⟩; rw [H.out])
    go_ret
    exact ⟨rfl, h.set (by decide) h1 ⟨false, false, false, 0⟩, grown_setSt w a n ⟨false, false, false, 0⟩⟩
  · have h2 : hasL L i = false := by simpa using h2
    have e2 : dropL L i = L := by simp [dropL, h2]
    rw [e2, h2]; clear e2
    have H := Lib.hid h2; clear h2
    go_enter Tryz.func92, Tryz.ntmps92
    go_wp2_with (go_at_call 118; refine (thas_any g a L i w h).mono ?_; rintro e w' ⟨rfl, rfl⟩; rw [H.out])
    go_ret
    exact ⟨rfl, h, World.grownBy.refl _ _⟩
theorem tstate_any (g a : Nat) (L : List St) (i : Int) (w : World) (h : Tab w 133 g a L) :
    Calls Tryz.prog 74 #[.pointer (some ⟨g, 0, none⟩), .int .i64 i] w fun e w' =>
      e = .returned (stateL L i).val ∧ w.grownBy w' none := by
  have c := h.slice
  have hlt := h.hd.lt
  have hlt2 := h.row.lt
  have h' : ∀ o, Tab (w.alloc o) 133 g a L := fun o => ⟨h.hd.alloc o, h.row.alloc o⟩
  by_cases h2 : hasL L i = true
  · obtain ⟨n, h1, rfl, hp⟩ := hasL_true h2
    have e2 : stateL L n = L[n] := by simp [stateL, h2, getL_in h1]
    rw [e2]; clear e2
    have H := Lib.hid h2; clear h2
    have c0 := h.c0 h1
    have c1 := h.c1 h1
    have c2 := h.c2 h1
    have c3 := h.c3 h1
    go_enter Tryz.func74, Tryz.ntmps74
    go_wp2_with (go_at_call 118; refine (thas_any g a L n _ (h' _)).mono ?_; rintro e w' ⟨rfl, rfl⟩; rw [H.out])
    refine bodyPost_ret (v := L[n].val) (by simp [results, Tryz.results74, go_sem, St.val, hp]) rfl ⟨rfl, ?_⟩
    exact only_alloc (World.grownBy.refl _ _) _
  · have h2 : hasL L i = false := by simpa using h2
    have e2 : stateL L i = ⟨false, false, false, 0⟩ := by simp [stateL, h2]
    rw [e2]; clear e2
    have H := Lib.hid h2; clear h2
    go_enter Tryz.func74, Tryz.ntmps74
    go_wp2_with (go_at_call 118; refine (thas_any g a L i _ (h' _)).mono ?_; rintro e w' ⟨rfl, rfl⟩; rw [H.out])
    refine bodyPost_ret (v := (St.mk false false false 0).val) (by simp [results, Tryz.results74, go_sem, St.val]) rfl ⟨rfl, ?_⟩
    exact only_alloc (World.grownBy.refl _ _) _
theorem cells_one (L : List St) : ∀ u ∈ L.flatMap St.cells, u.oneCell' = true := by
  intro u hu
  obtain ⟨x, _, hx⟩ := List.mem_flatMap.1 hu
  simp [St.cells] at hx
  rcases hx with rfl | rfl | rfl | rfl <;> rfl
theorem blk_at {w : World} {a : Nat} {L : List St} (h : Blk w a 142 (cellsOf L)) : ∀ (j : Nat) (u : Value), (L.flatMap St.cells)[j]? = some u → w.cell? ((⟨a, 0, none⟩ : Addr).add j) = some u := by
  intro j u hu
  have e : (⟨a, 0, none⟩ : Addr).add j = ⟨a, j, none⟩ := by
    unfold Addr.add
    by_cases hj : j = 0 <;> simp [hj]
  rw [e, h.cell]
  simpa [cellsOf] using hu
set_option maxHeartbeats 400000 in
theorem clone_any (a : Nat) (L : List St) (w : World) (h : Blk w a 142 (cellsOf L)) (hl : L.length ≤ 8) :
    Calls Tryz.prog 83 #[.slice (some ⟨a, 0, none⟩) L.length L.length] w fun e w' => ∃ v, e = .returned v ∧ w'.ownsRow w.heap.size 142 4 v L.length (L.flatMap St.cells) ∧ Below w.heap.size w w' := by
  have hne := fun W => Lib.run_eql_slice_nil (P := Tryz.prog) W 101 142 (some ⟨a, 0, none⟩) L.length L.length 0 0 Tryz.underlying101
  obtain ⟨i0, hi0, hz0, hz1, hz2⟩ := info_parts Tryz.info142
  have Hz0 := Lib.hid hz0; clear hz0
  have Hz1 := Lib.hid hz1; clear hz1
  have Hz2 := Lib.hid hz2; clear hz2
  have Hi := Lib.hid hi0; clear hi0
  have hlt := h.lt
  have hm : L.length ≤ maxLen := by unfold maxLen; omega
  have hcl := cellsOf_length L
  have Hcl := Lib.hid hcl; clear hcl
  go_enter Tryz.func83, Tryz.ntmps83
  go_wp2_with (at_builtin; refine wpList_append_own _ rfl (.tmp 5) (.tmp 6) 101 rfl w.heap.size 142 i0 _ 4 16 Tryz.underlying101 Hi.out Hz0.out Hz1.out Hz2.out rfl (by decide) (.slice (some ⟨w.heap.size, 0, none⟩) 0 0) 0 [] rfl ?c1 ⟨a, 0, none⟩ L.length L.length (L.flatMap St.cells) rfl Hcl.out ?c2 (cells_one L) (by omega) (by omega) (by simp) ?c3)
  case c1 => exact World.ownsRow_made w #[] 0 (Nat.le_refl _) (by unfold maxLen; omega) (by simp)
  case c2 => exact blk_at (h.alloc _)
  case c3 =>
    intro v' w' hown hg _
    have hb : Below w.heap.size w w' := ((Below.refl _ _).alloc (Nat.le_refl _) _).grown hg (by simp) (fun k e => by simp [Value.ownBlock] at e; omega)
    go_wp2
    go_ret
    exact ⟨v', rfl, by simpa using hown, hb⟩
theorem tall_any (g a : Nat) (L : List St) (w : World) (h : Tab w 133 g a L) (hl : L.length ≤ 8) :
    Calls Tryz.prog 49 #[.pointer (some ⟨g, 0, none⟩)] w fun e w' => ∃ v, e = .returned v ∧ w'.ownsRow w.heap.size 142 4 v L.length (L.flatMap St.cells) ∧ Below w.heap.size w w' := by
  have c := h.slice
  go_enter Tryz.func49, Tryz.ntmps49
  go_wp2_with fail
  refine (clone_any a L w h.row hl).mono ?_
  rintro e w1 ⟨v, rfl, hown, hb⟩
  go_wp2
  go_ret
  exact ⟨v, rfl, hown, hb⟩
end Go.Proofs.YtdgfjpbjiccllaaGreatDoor.T
/- What the functions of package cache come to. -/
namespace Go.Proofs.YtdgfjpbjiccllaaGreatDoor
open Go.RowKit
set_option maxRecDepth 100000
def intsV (l : List Int) : List Value := l.map fun z => Value.int .i64 z
/-- A Cache: 64 owners. -/
structure CacheAt (w : World) (g : Nat) (L : List Int) : Prop where
  len : L.length = 64
  hd : Blk w g 131 (intsV L).toArray
theorem CacheAt.keep {w w' : World} {g : Nat} {L : List Int} {row : Option Nat} (h : CacheAt w g L) (hg : w.grownBy w' row) (h1 : some g ≠ row) : CacheAt w' g L := ⟨h.len, h.hd.grown hg h1⟩
theorem CacheAt.drewN {w : World} {g : Nat} {L : List Int} (h : CacheAt w g L) (n : Nat) : CacheAt (w.drewN n) g L := ⟨h.len, h.hd⟩
theorem cache_new (w : World) : Calls Tryz.prog 43 #[] w fun e w' => e = .returned (.pointer (some ⟨w.heap.size, 0, none⟩)) ∧ CacheAt w' w.heap.size (List.replicate 64 0) ∧ Below w.heap.size w w' := by
  go_enter Tryz.func43, Tryz.ntmps43
  go_wp2_with fail
  go_ret
  exact ⟨rfl, ⟨by decide, Blk.new w 131 _⟩, (Below.refl _ _).alloc (Nat.le_refl _) _⟩
/-- What a row of the call's own reads as. -/
theorem row_read {w : World} {base e n : Nat} {v : Value} {xs : List Value} (h : w.ownsRow base e 1 v n xs) :
    ∃ A c, v = .slice A n c ∧ n ≤ c ∧ (n = 0 ∨ ∃ b cs, A = some ⟨b, 0, none⟩ ∧ base ≤ b ∧ Blk w b e cs ∧ ∀ i, i < n → cs[i]? = xs[i]?) := by
  rcases h.2 with ⟨rfl, rfl⟩ | ⟨g, c, cur, rfl, hb, hh, hn, _, hs, ht⟩
  · exact ⟨none, 0, rfl, Nat.le_refl _, .inl rfl⟩
  · refine ⟨_, c, rfl, hn, .inr ⟨g, cur, rfl, hb, hh, fun i hi => ?_⟩⟩
    rw [← ht, Nat.mul_one, List.getElem?_take_of_lt hi]
    simp
def touchL (t : Int) (l : List Nat) (L : List Int) : List Int := l.foldl (fun L i => L.set i (t + 1)) L
theorem touchL_snoc (t : Int) (l : List Nat) (i : Nat) (L : List Int) : touchL t (l ++ [i]) L = (touchL t l L).set i (t + 1) := by
  unfold touchL
  rw [List.foldl_append]
  rfl
theorem nums_at (l : List Nat) (i : Nat) (h : i < l.length) : (nums l)[i]? = some (.int .i64 (l[i] : Int)) := by simp [nums, h]
set_option maxHeartbeats 4000000 in
theorem touch_any (g : Nat) (L : List Int) (t : Int) (s : Nat) (hs : s < 18446744073709551616) (ht : 0 ≤ t) (ht8 : t ≤ 8) (w : World) (h : CacheAt w g L) (hT : DeB w) (h0 : 0 < w.heap.size) :
    Calls Tryz.prog 88 #[.pointer (some ⟨g, 0, none⟩), .int .i64 t, .int .u64 s] w fun e w' => e = .returned (.bool true) ∧ CacheAt w' g (touchL t (bitsL s) L) ∧ w.grownBy w' (some g) := by
  have hL := list_any s hs w hT h0
  have d0 : decide (t < 0) = false := by simp; omega
  have hlt := bitsL_lt s hs
  have h64 : (bitsL s).length ≤ 64 := bitsF_len 64 s
  have hgl := h.hd.lt
  obtain ⟨l, hl⟩ : ∃ l, bitsL s = l := ⟨_, rfl⟩
  rw [hl] at hL hlt h64 ⊢
  have HLT := Lib.hid hlt
  clear hl hlt
  go_enter Tryz.func88, Tryz.ntmps88
  go_wp2_with fail
  refine hL.mono ?_
  rintro e w1 ⟨v, rfl, hown, hb⟩
  obtain ⟨A, c, rfl, hnc, hrd⟩ := row_read hown
  have h1 := h.keep (only_of_below hb none) (by simp)
  have hG := only_of_below hb (some g)
  clear hL hown hb
  have HR := Lib.hid hrd
  clear hrd
  go_wp2_with fail
  go_loopw [18] (fun z wr => ∃ k : Nat, k ≤ l.length ∧ z = .int .i64 k ∧ CacheAt wr g (touchL t (l.take k) L) ∧ w1.grownBy wr (some g)) (fun z _ => l.length - (intOf z).toNat)
  case atStart => exact ⟨0, Nat.zero_le _, rfl, by simpa [touchL] using h1, World.grownBy.refl _ _⟩
  case round =>
    obtain ⟨k, hk, rfl, hC, hW⟩ := hrel
    clear h1
    by_cases hlt : k < l.length
    · rcases HR.out with hz | ⟨b, cs, rfl, hb, hB, hcs⟩
      · omega
      have hbg : b ≠ g := by omega
      have hB2 := hB.grown hW (by simpa using hbg)
      have hi : (nums l)[k]? = some (.int .i64 (l[k] : Int)) := nums_at l k hlt
      have q0 : wr.cell? ⟨b, k, none⟩ = some (.int .i64 (l[k] : Int)) := (hB2.cell k).trans ((hcs k hlt).trans hi)
      have hi64 := HLT.out l[k] (List.getElem_mem hlt)
      have hnext : touchL t (l.take (k + 1)) L = (touchL t (l.take k) L).set l[k] (t + 1) := by
        rw [List.take_succ_eq_append_getElem hlt, touchL_snoc]
      obtain ⟨i, hie⟩ : ∃ i, l[k] = i := ⟨_, rfl⟩
      rw [hie] at q0 hi64 hnext
      have hlen := hC.len
      obtain ⟨L1, hL1⟩ : ∃ L1, touchL t (l.take k) L = L1 := ⟨_, rfl⟩
      rw [hL1] at hC hnext hlen
      obtain ⟨x, q1⟩ : ∃ x, wr.cell? ⟨g, i, none⟩ = some (.int .i64 x) := by
        refine ⟨L1[i]'(by omega), ?_⟩
        rw [hC.hd.cell]
        simp [intsV, show i < L1.length from by omega]
      have f1 := hC.hd.frozen i
      have i0 : (0 : Int) ≤ (i : Int) := by omega
      have i1 : (i : Int) < 64 := by omega
      have k0 : (0 : Int) ≤ (k : Int) := by omega
      have k1 : (k : Int) < (l.length : Int) := by omega
      have hC2 : CacheAt (wr.setCell ⟨g, i, none⟩ (.int .i64 (t + 1))) g (L1.set i (t + 1)) := by
        refine ⟨by rw [List.length_set]; exact hlen, ?_⟩
        have := hC.hd.set_ i (.int .i64 (t + 1))
        simpa [intsV, List.map_set] using this
      have hW2 : w1.grownBy (wr.setCell ⟨g, i, none⟩ (.int .i64 (t + 1))) (some g) := only_setCell hW (p := ⟨g, i, none⟩) (.inl rfl) _
      rw [← hnext] at hC2
      have HC2 := Lib.hid hC2
      have HW2 := Lib.hid hW2
      clear hC2 hW2 hC hW hnext hlen hL1 hie hi hB hB2 hcs
      go_wp2_with fail
      go_roundw
      case rel => exact ⟨k + 1, by omega, by go_num, HC2.out, HW2.out⟩
      case measure => simp [intOf]; omega
    · obtain rfl : k = l.length := by omega
      rw [List.take_length] at hC
      go_wp2_with fail
      go_ret
      exact ⟨rfl, hC, hG.trans hW⟩
end Go.Proofs.YtdgfjpbjiccllaaGreatDoor
/- A kernel in memory. -/
namespace Go.Proofs.YtdgfjpbjiccllaaGreatDoor
open Go.RowKit
open Go.Proofs.YtdgfjpbjiccllaaGreatDoorW.PrintWords Go.Proofs.YtdgfjpbjiccllaaGreatDoorW.PrintLast Go.Proofs.YtdgfjpbjiccllaaGreatDoorW.PrintMore
open Go.Proofs.YtdgfjpbjiccllaaGreatDoor.PTopLoads (S46 k46 z46 k46_mk S57 k57)
set_option maxRecDepth 100000
variable {E : Nat}
/-! ### Tasks -/
def tcells (x : S46) (r : Value) : List Value := [.string x.f0, .int .i64 x.f1, .int .i64 x.f2, .int .i64 x.f3, .int .i64 x.f4, .int .i64 x.f5, r, .int .u64 x.f7, .int .u64 x.f8]
def tcs : List S46 → List Value → List Value
  | x :: T, r :: R => tcells x r ++ tcs T R
  | _, _ => []
theorem tcs_snoc (x : S46) (r : Value) : ∀ (T : List S46) (R : List Value), R.length = T.length → tcs (T ++ [x]) (R ++ [r]) = tcs T R ++ tcells x r
  | [], R, h => by cases R <;> simp_all [tcs]
  | y :: T, [], h => by simp at h
  | y :: T, q :: R, h => by
    have := tcs_snoc x r T R (by simpa using h)
    simp [tcs, this]
theorem tcs_at : ∀ (T : List S46) (R : List Value) (h : R.length = T.length) (i j : Nat) (hi : i < T.length), j < 9 → (tcs T R)[i * 9 + j]? = (tcells T[i] (R[i]'(by omega)))[j]?
  | [], _, _, _, _, hi, _ => by simp at hi
  | x :: T, [], h, _, _, _, _ => by simp at h
  | x :: T, r :: R, h, i, j, hi, hj => by
    cases i with
    | zero =>
      simp only [tcs, Nat.zero_mul, Nat.zero_add, List.getElem_cons_zero]
      exact List.getElem?_append_left hj
    | succ i =>
      have := tcs_at T R (by simpa using h) i j (by simpa using hi) hj
      simp only [tcs, List.getElem_cons_succ]
      rw [List.getElem?_append_right (by show 9 ≤ _; omega)]
      rw [show (i + 1) * 9 + j - (tcells x r).length = i * 9 + j from by show (i + 1) * 9 + j - 9 = _; omega]
      exact this
/-- A row of tasks of the call's own, each with a row of regions of the call's own. -/
structure TasksAt (w : World) (B : Nat) (v : Value) (T : List S46) (R : List Value) : Prop where
  len : R.length = T.length
  row : w.ownsRow B 46 9 v T.length (tcs T R)
  regs : ∀ i (h : i < T.length), w.ownsRow B 2 1 (R[i]'(by omega)) T[i].f6.length (J.ints T[i].f6)
section
variable {w w' : World} {B : Nat} {v : Value} {T : List S46} {R : List Value} {ts : List Nat} {C : Nat}
theorem TasksAt.fr (h : TasksAt w B v T R) (hf : Fr E ts C w w') (h1 : 46 ∉ ts) (h2 : 2 ∉ ts) : TasksAt w' B v T R :=
  ⟨h.len, own_fr h.row hf h1, fun i hi => own_fr (h.regs i hi) hf h2⟩
/-- Where a task lies. -/
theorem TasksAt.at_ (h : TasksAt w B v T R) (h0 : 0 < T.length) : ∃ a c cs, v = .slice (some ⟨a, 0, none⟩) T.length c ∧ B ≤ a ∧ Blk w a 46 cs ∧ ∀ i j (hi : i < T.length), j < 9 → cs[i * 9 + j]? = (tcells T[i] (R[i]'(by rw [h.len]; exact hi)))[j]? := by
  rcases h.row.2 with ⟨_, h1⟩ | ⟨g, c, cur, rfl, hb, hh, hn, _, hs, ht⟩
  · omega
  · refine ⟨g, c, cur, rfl, hb, hh, fun i j hi hj => ?_⟩
    rw [← tcs_at T R h.len i j hi hj, ← ht, List.getElem?_take_of_lt (by omega)]
    simp
theorem TasksAt.cell (h : TasksAt w B v T R) {i : Nat} (hi : i < T.length) : ∃ a c, v = .slice (some ⟨a, 0, none⟩) T.length c ∧ B ≤ a ∧ ∀ j, j < 9 → w.cell? ⟨a, i * 9 + j, none⟩ = (tcells T[i] (R[i]'(by rw [h.len]; exact hi)))[j]? := by
  obtain ⟨a, c, cs, hv, hb, hB, hc⟩ := h.at_ (by omega)
  exact ⟨a, c, hv, hb, fun j hj => (hB.cell _).trans (hc i j hi hj)⟩
/-- One task's cells. -/
structure TaskCells (w : World) (a k : Nat) (x : S46) (ra : Option Addr) (rc : Nat) : Prop where
  g0 : w.cell? ⟨a, k * 9, none⟩ = some (.string x.f0)
  g1 : w.cell? ⟨a, k * 9 + 1, none⟩ = some (.int .i64 x.f1)
  g2 : w.cell? ⟨a, k * 9 + 2, none⟩ = some (.int .i64 x.f2)
  g3 : w.cell? ⟨a, k * 9 + 3, none⟩ = some (.int .i64 x.f3)
  g4 : w.cell? ⟨a, k * 9 + 4, none⟩ = some (.int .i64 x.f4)
  g5 : w.cell? ⟨a, k * 9 + 5, none⟩ = some (.int .i64 x.f5)
  g6 : w.cell? ⟨a, k * 9 + 6, none⟩ = some (.slice ra x.f6.length rc)
  g7 : w.cell? ⟨a, k * 9 + 7, none⟩ = some (.int .u64 x.f7)
  g8 : w.cell? ⟨a, k * 9 + 8, none⟩ = some (.int .u64 x.f8)
theorem TasksAt.task (h : TasksAt w B v T R) {k : Nat} {x : S46} (hk : T[k]? = some x) : ∃ a c ra rc, v = .slice (some ⟨a, 0, none⟩) T.length c ∧ a < w.heap.size ∧ TaskCells w a k x ra rc ∧ w.ownsRow B 2 1 (.slice ra x.f6.length rc) x.f6.length (J.ints x.f6) := by
  obtain ⟨hlt, rfl⟩ := List.getElem?_eq_some_iff.1 hk
  obtain ⟨a, c, cs, hv, hb, hB, hc⟩ := h.at_ (Nat.lt_of_le_of_lt (Nat.zero_le _) hlt)
  have hr := h.regs k hlt
  obtain ⟨ra, rc, hrv, _, _⟩ := row_read hr
  rw [hrv] at hr
  have g : ∀ j, j < 9 → w.cell? ⟨a, k * 9 + j, none⟩ = (tcells T[k] (.slice ra T[k].f6.length rc))[j]? := fun j hj => by
    rw [← hrv]
    exact (hB.cell _).trans (hc k j hlt hj)
  exact ⟨a, c, ra, rc, hv, hB.lt, ⟨g 0 (by decide), g 1 (by decide), g 2 (by decide), g 3 (by decide), g 4 (by decide), g 5 (by decide), g 6 (by decide), g 7 (by decide), g 8 (by decide)⟩, hr⟩
theorem TasksAt.slice (h : TasksAt w B v T R) (h0 : 0 < T.length) : ∃ a c, v = .slice (some ⟨a, 0, none⟩) T.length c := by
  obtain ⟨a, c, _, hv, _⟩ := h.at_ h0
  exact ⟨a, c, hv⟩
theorem ints_C {w : World} {B : Nat} {v : Value} {l : List Int} (h : w.ownsRow B 2 1 v l.length (J.ints l)) (hl : l.length ≤ 9223372036854775807) : ∃ A c, v = .slice A l.length c ∧ l.length ≤ c ∧ (Kd.int .i64).C w A l.length l ∧ Nums w A l := by
  obtain ⟨A, c, rfl, hc, hr⟩ := row_read h
  refine ⟨A, c, rfl, hc, ⟨rfl, by omega, fun h0 => ?_⟩, ?_⟩
  · rcases hr with hr | ⟨b, cs, rfl, hb, hB, hcs⟩
    · omega
    · refine ⟨_, rfl, fun j p hp => ⟨[.int .i64 p], rfl, rfl, fun i u hu => ?_⟩⟩
      have hj : j < l.length := (List.getElem?_eq_some_iff.1 hp).1
      match i, hu with
      | 0, hu =>
        simp at hu
        subst hu
        rw [add_none]
        show w.cell? ⟨b, 0 + (j * 1 + 0), none⟩ = _
        rw [show 0 + (j * 1 + 0) = j from by omega, hB.cell, hcs j hj]
        simp [J.ints, hp]
  · rcases hr with hr | ⟨b, cs, rfl, hb, hB, hcs⟩
    · exact .inl (List.length_eq_zero_iff.1 hr)
    · refine .inr ⟨b, 0, rfl, hB.lt, fun i hi => ?_⟩
      rw [Nat.zero_add, hB.cell, hcs i hi]
      simp [J.ints, hi]
theorem TasksAt.kd (h : TasksAt w B v T R) (hT : T.length ≤ 8) (hr : ∀ x ∈ T, x.f6.length ≤ 8) : ∃ A c, v = .slice A T.length c ∧ T.length ≤ c ∧ Kd.C k46 w A T.length T := by
  rcases Nat.eq_zero_or_pos T.length with h0 | h0
  · rcases h.row.2 with ⟨rfl, h1⟩ | ⟨g, c, cur, rfl, hb, hh, hn, _⟩
    · exact ⟨none, 0, by rw [h0], by omega, rfl, by omega, fun h => by omega⟩
    · exact ⟨_, c, rfl, hn, rfl, by omega, fun h => by omega⟩
  · obtain ⟨a, c, cs, hv, hb, hB, hc⟩ := h.at_ h0
    refine ⟨_, c, hv, ?_, rfl, by omega, fun _ => ⟨_, rfl, fun j p hp => ?_⟩⟩
    · rcases h.row.2 with ⟨h1, h2⟩ | ⟨g, c', cur, h1, _, _, hn, _⟩
      · omega
      · rw [hv] at h1; injection h1 with _ _ h1; omega
    · obtain ⟨hj, rfl⟩ := List.getElem?_eq_some_iff.1 hp
      obtain ⟨A, c', hrv, hcl, hC, _⟩ := ints_C (h.regs j hj) (by have := hr T[j] (List.getElem_mem hj); omega)
      refine ⟨tcells T[j] (R[j]'(by rw [h.len]; exact hj)), rfl, ?_, fun i u hu => ?_⟩
      · rw [hrv]
        exact k46_mk w T[j] hcl hC
      · have hi : i < 9 := by
          have := (List.getElem?_eq_some_iff.1 hu).1
          simpa [tcells] using this
        rw [add_none]
        show w.cell? ⟨a, 0 + (j * 9 + i), none⟩ = _
        rw [Nat.zero_add, hB.cell, hc j i hj hi, hu]
end
/-! ### The kernel -/
/-- What a kernel holds. -/
structure Kst where
  reload : Int
  tk : List S46
  tick : Int
  last : Int
  pol : List P.Wt
  cache : List Int
  tab : List T.St
  had : List Int
  loads : List Int
  job : List J.Jb
  ev : List Ev
def ocs : List Value → List Int → List Int → List Value
  | p :: P, h :: H, l :: L => p :: .int .u64 h :: .int .i64 l :: ocs P H L
  | _, _, _ => []
theorem ocs_at : ∀ (P : List Value) (H L : List Int) (_ : H.length = P.length) (_ : L.length = P.length) (i : Nat) (hi : i < P.length),
    (ocs P H L)[i * 3]? = some P[i] ∧ (ocs P H L)[i * 3 + 1]? = some (.int .u64 (H.getD i 0)) ∧ (ocs P H L)[i * 3 + 2]? = some (.int .i64 (L.getD i 0))
  | [], _, _, _, _, _, hi => by simp at hi
  | p :: P, [], _, h, _, _, _ => by simp at h
  | p :: P, _ :: _, [], _, h, _, _ => by simp at h
  | p :: P, h :: H, l :: L, h1, h2, i, hi => by
    cases i with
    | zero => simp [ocs]
    | succ i =>
      obtain ⟨a, b, c⟩ := ocs_at P H L (by simpa using h1) (by simpa using h2) i (by simpa using hi)
      refine ⟨?_, ?_, ?_⟩
      · rw [show (i + 1) * 3 = i * 3 + 3 from by omega]; simpa [ocs] using a
      · rw [show (i + 1) * 3 + 1 = (i * 3 + 1) + 3 from by omega]; simpa [ocs] using b
      · rw [show (i + 1) * 3 + 2 = (i * 3 + 2) + 3 from by omega]; simpa [ocs] using c
theorem ocs_set : ∀ (P : List Value) (H L : List Int) (_ : H.length = P.length) (_ : L.length = P.length) (i : Nat) (_ : i < P.length) (p : Value) (h l : Int),
    (((ocs P H L).set (i * 3) p).set (i * 3 + 1) (.int .u64 h)).set (i * 3 + 2) (.int .i64 l) = ocs (P.set i p) (H.set i h) (L.set i l)
  | [], _, _, _, _, _, hi, _, _, _ => by simp at hi
  | p :: P, [], _, h, _, _, _, _, _, _ => by simp at h
  | p :: P, _ :: _, [], _, h, _, _, _, _, _ => by simp at h
  | p :: P, h :: H, l :: L, h1, h2, i, hi, p', h', l' => by
    cases i with
    | zero => simp [ocs]
    | succ i =>
      have := ocs_set P H L (by simpa using h1) (by simpa using h2) i (by simpa using hi) p' h' l'
      rw [show (i + 1) * 3 = i * 3 + 3 from by omega, show i * 3 + 3 + 1 = (i * 3 + 1) + 3 from by omega, show i * 3 + 3 + 2 = (i * 3 + 2) + 3 from by omega]
      simp [ocs, this]
theorem ocs_set2 : ∀ (P : List Value) (H L : List Int) (_ : H.length = P.length) (_ : L.length = P.length) (i : Nat) (_ : i < P.length) (l : Int),
    (ocs P H L).set (i * 3 + 2) (.int .i64 l) = ocs P H (L.set i l)
  | [], _, _, _, _, _, hi, _ => by simp at hi
  | p :: P, [], _, h, _, _, _, _ => by simp at h
  | p :: P, _ :: _, [], _, h, _, _, _ => by simp at h
  | p :: P, h :: H, l :: L, h1, h2, i, hi, l' => by
    cases i with
    | zero => simp [ocs]
    | succ i =>
      have := ocs_set2 P H L (by simpa using h1) (by simpa using h2) i (by simpa using hi) l'
      rw [show (i + 1) * 3 + 2 = (i * 3 + 2) + 3 from by omega]
      simp [ocs, this]
/-- A job at an address. -/
def JobPt (w : World) (B : Nat) (v : Value) (j : J.Jb) : Prop := ∃ p a ca b cb, v = .pointer (some ⟨p, 0, none⟩) ∧ B ≤ p ∧ J.JobAt w B p a ca b cb j
/-- Where a kernel's parts lie. -/
structure Ad where
  tv : Value
  R : List Value
  pp : Nat
  pa : Nat
  pc : Nat
  cp : Nat
  tp : Nat
  ta : Nat
  oa : Nat
def kcells (A : Ad) (K : Kst) (ev : Value) : Array Value :=
  #[.int .i64 K.reload, A.tv, .int .i64 K.tick, .int .i64 K.last, .pointer (some ⟨A.pp, 0, none⟩), .pointer (some ⟨A.cp, 0, none⟩), .pointer (some ⟨A.tp, 0, none⟩), .slice (some ⟨A.oa, 0, none⟩) K.tk.length K.tk.length, ev]
structure KAt (E : Nat) (w : World) (B kp : Nat) (A : Ad) (jv : List Value) (ev : Value) (pd : Nat → Bool) (K : Kst) : Prop where
  hd : Blk w kp 97 (kcells A K ev)
  tasks : TasksAt w B A.tv K.tk A.R
  pol : P.PolAt w B A.pp A.pa A.pc K.pol
  cache : CacheAt w A.cp K.cache
  tab : T.Tab w 133 A.tp A.ta K.tab
  own : Blk w A.oa 148 (ocs jv K.had K.loads).toArray
  evs : w.ownsRow E 50 4 ev K.ev.length (evs K.ev)
  jobs : ∀ i (h : i < jv.length), pd i = true → JobPt w B jv[i] (K.job.getD i ⟨[], [], 0, 0, 0, 0⟩)
  apart : ∀ i j (hi : i < jv.length) (hj : j < jv.length), i ≠ j → pd i = true → pd j = true → jv[i] ≠ jv[j]
  n1 : 1 ≤ K.tk.length
  n8 : K.tk.length ≤ 8
  lp : K.pol.length = K.tk.length
  lt : K.tab.length = K.tk.length
  lh : K.had.length = K.tk.length
  ll : K.loads.length = K.tk.length
  lj : K.job.length = K.tk.length
  lv : jv.length = K.tk.length
  bk : B ≤ kp
  bp : B ≤ A.pp
  bc : B ≤ A.cp
  bt : B ≤ A.tp
  bta : B ≤ A.ta
  bo : B ≤ A.oa
  be : B ≤ E
  eh : E ≤ w.heap.size
section
variable {w w' : World} {B kp : Nat} {A : Ad} {jv : List Value} {ev : Value} {pd : Nat → Bool} {K : Kst}
theorem JobPt.fr {v : Value} {j : J.Jb} {ts : List Nat} {C : Nat} (h : JobPt w B v j) (hf : Fr E ts C w w') (h1 : 186 ∉ ts) (h2 : 2 ∉ ts) : JobPt w' B v j := by
  obtain ⟨p, a, ca, b, cb, hv, hb, hj⟩ := h
  exact ⟨p, a, ca, b, cb, hv, hb, hj.hd.fr hf h1, own_fr hj.rs hf h2, own_fr hj.ds hf h2, hj.same, hj.ap, hj.bp⟩
theorem pol_fr {p a c : Nat} {L : List P.Wt} {ts : List Nat} {C : Nat} (h : P.PolAt w B p a c L) (hf : Fr E ts C w w') (h1 : 138 ∉ ts) (h2 : 140 ∉ ts) : P.PolAt w' B p a c L :=
  ⟨⟨h.pol.hd.fr hf h1, own_fr h.pol.own hf h2⟩, h.ne⟩
/-- What of a kernel stands where none of its blocks has turned. -/
theorem KAt.fr {ts : List Nat} {C : Nat} (h : KAt E w B kp A jv ev pd K) (hf : Fr E ts C w w') (ht : ∀ t ∈ [97, 46, 2, 138, 140, 131, 133, 142, 148, 50, 186], t ∉ ts) : KAt E w' B kp A jv ev pd K := by
  have g : ∀ t, t ∈ [97, 46, 2, 138, 140, 131, 133, 142, 148, 50, 186] → t ∉ ts := ht
  exact ⟨h.hd.fr hf (g 97 (by decide)), h.tasks.fr hf (g 46 (by decide)) (g 2 (by decide)), pol_fr h.pol hf (g 138 (by decide)) (g 140 (by decide)), ⟨h.cache.len, h.cache.hd.fr hf (g 131 (by decide))⟩,
    ⟨h.tab.hd.fr hf (g 133 (by decide)), h.tab.row.fr hf (g 142 (by decide))⟩, h.own.fr hf (g 148 (by decide)), own_fr h.evs hf (g 50 (by decide)),
    fun i hi hp => (h.jobs i hi hp).fr hf (g 186 (by decide)) (g 2 (by decide)), h.apart, h.n1, h.n8, h.lp, h.lt, h.lh, h.ll, h.lj, h.lv, h.bk, h.bp, h.bc, h.bt, h.bta, h.bo, h.be, Nat.le_trans h.eh hf.size⟩
theorem KAt.drewN (h : KAt E w B kp A jv ev pd K) (n : Nat) : KAt E (w.drewN n) B kp A jv ev pd K := h.fr (Fr.drewN (Fr.refl [] 0 w) n) (by simp)
theorem KAt.drew (h : KAt E w B kp A jv ev pd K) : KAt E w.drew B kp A jv ev pd K := h.fr (Fr.drew (Fr.refl [] 0 w)) (by simp)
theorem KAt.alloc (h : KAt E w B kp A jv ev pd K) (o : Obj) : KAt E (w.alloc o) B kp A jv ev pd K := h.fr (Fr.of_none (ts := []) (B := 0) (only_alloc (World.grownBy.refl w none) o)) (by simp)
/-- An event is noted. -/
theorem KAt.note (h : KAt E w B kp A jv ev pd K) (kind task n : Int) (hL : K.ev.length ≤ 100000000) :
    Calls Tryz.prog 50 #[.pointer (some ⟨kp, 0, none⟩), .int .i64 kind, .int .i64 task, .int .i64 n] w fun e w' =>
      e = .returned (.tuple #[]) ∧ ∃ ev', KAt E w' B kp A jv ev' pd { K with ev := K.ev ++ [⟨K.tick, kind, task, n⟩] } ∧ Fr E [97, 50] B w w' := by
  refine (notes_any kind task n w h.hd rfl rfl h.evs h.bk h.be h.eh hL).mono ?_
  rintro e w' ⟨he, v', h1, h2, hf⟩
  refine ⟨he, v', ?_, hf⟩
  exact ⟨h1, h.tasks.fr hf (by decide) (by decide), pol_fr h.pol hf (by decide) (by decide), ⟨h.cache.len, h.cache.hd.fr hf (by decide)⟩,
    ⟨h.tab.hd.fr hf (by decide), h.tab.row.fr hf (by decide)⟩, h.own.fr hf (by decide), by simpa using h2,
    fun i hi hp => (h.jobs i hi hp).fr hf (by decide) (by decide), h.apart, h.n1, h.n8, h.lp, h.lt, h.lh, h.ll, h.lj, h.lv, h.bk, h.bp, h.bc, h.bt, h.bta, h.bo, h.be, Nat.le_trans h.eh hf.size⟩
end
end Go.Proofs.YtdgfjpbjiccllaaGreatDoor
