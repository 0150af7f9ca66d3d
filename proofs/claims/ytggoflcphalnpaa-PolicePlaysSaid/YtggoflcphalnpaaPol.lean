/- What the functions of package police come to; a Police lies in one block and in a row of its own. -/
import Derived.Test.YtggoflcphalnpaaMem
namespace Go.Proofs.Ytggoflcphalnpaa
open Go.RowKit

/-- A watch: its period, the last tick that was noted, whether there was one. -/
structure Wt where
  t : Int
  last : Int
  on : Bool

def Wt.cells (x : Wt) : List Value := [.int .i64 x.t, .int .i64 x.last, .bool x.on]
def flat (L : List Wt) : List Value := L.flatMap Wt.cells

theorem flat_length (L : List Wt) : (flat L).length = L.length * 3 := by
  unfold flat
  induction L with
  | nil => rfl
  | cons x L ih => simp only [List.flatMap_cons, List.length_append, ih, List.length_cons]; show 3 + _ = _; omega

theorem flat_at (L : List Wt) : ∀ (i j : Nat) (hi : i < L.length), j < 3 → (flat L)[i * 3 + j]? = (L[i]'hi).cells[j]? := by
  unfold flat
  induction L with
  | nil => intro i j hi; simp at hi
  | cons x L ih =>
    intro i j hi hj
    rcases i with _ | i
    · simp only [List.flatMap_cons, Nat.zero_mul, Nat.zero_add, List.getElem_cons_zero]
      exact List.getElem?_append_left hj
    · have := ih i j (by simpa using hi) hj
      simp only [List.flatMap_cons, List.getElem_cons_succ]
      rw [List.getElem?_append_right (by show 3 ≤ _; omega)]
      rw [show (i + 1) * 3 + j - x.cells.length = i * 3 + j from by show (i + 1) * 3 + j - 3 = _; omega]
      exact this

theorem flat_set (L : List Wt) : ∀ (i : Nat) (x : Wt), i < L.length → ∀ (h : i < L.length), x.t = L[i].t →
    ((flat L).set (i * 3 + 1) (.int .i64 x.last)).set (i * 3 + 2) (.bool x.on) = flat (L.set i x) := by
  unfold flat
  induction L with
  | nil => intro i x hi; simp at hi
  | cons y L ih =>
    intro i x hi h ht
    rcases i with _ | i
    · simp at ht
      simp [Wt.cells, ht]
    · have := ih i x (by simpa using hi) (by simpa using hi) (by simpa using ht)
      simp only [List.set_cons_succ, List.flatMap_cons, ← this]
      have e : ∀ (l r : List Value) (k : Nat) (v : Value), l.length = 3 → (l ++ r).set (k + 3) v = l ++ r.set k v := by
        intro l r k v hl
        rw [List.set_append_right _ _ (by omega)]
        congr 2
        omega
      rw [show (i + 1) * 3 + 1 = (i * 3 + 1) + 3 from by omega, e _ _ _ _ rfl, show (i + 1) * 3 + 2 = (i * 3 + 2) + 3 from by omega, e _ _ _ _ rfl]

/-- A Police at block p: its slice v is a row of the call's own. -/
structure Pol (w : World) (base p : Nat) (v : Value) (L : List Wt) : Prop where
  hd : Blk w p 39 #[v]
  own : w.ownsRow base 41 3 v L.length (flat L)

/-- The same with the row's block named. -/
structure PolAt (w : World) (base p a cap : Nat) (L : List Wt) : Prop where
  pol : Pol w base p (.slice (some ⟨a, 0, none⟩) L.length cap) L
  ne : a ≠ p

section
variable {w w' : World} {base p a cap : Nat} {v : Value} {L : List Wt}
theorem Pol.keep {row : Option Nat} (h : Pol w base p v L) (hg : w.grownBy w' row) (h1 : some p ≠ row) (h2 : v.ownBlock = none ∨ v.ownBlock ≠ row) : Pol w' base p v L := by
  refine ⟨h.hd.grown hg h1, h.own.1, ?_⟩
  rcases h.own.2 with h0 | ⟨g, c, cur, rfl, hb, hh, rest⟩
  · exact .inl h0
  · refine .inr ⟨g, c, cur, rfl, hb, ?_, rest⟩
    have hne : some g ≠ row := by
      rcases h2 with h2 | h2
      · simp [Value.ownBlock] at h2
      · exact h2
    exact Blk.grown hh hg hne
theorem Pol.nil (h : Pol w base p v []) : v = .slice none 0 0 ∨ ∃ a c, v = .slice (some ⟨a, 0, none⟩) 0 c := by
  rcases h.own.2 with ⟨h0, _⟩ | ⟨g, c, cur, h0, _⟩
  · exact .inl h0
  · exact .inr ⟨g, c, h0⟩
theorem PolAt.row (h : PolAt w base p a cap L) : ∃ cur, Blk w a 41 cur ∧ cur.size = cap * 3 ∧ L.length ≤ cap ∧ cur.toList.take (L.length * 3) = flat L := by
  rcases h.pol.own.2 with ⟨h0, _⟩ | ⟨g, c, cur, h0, hb, hh, hn, hm, hs, ht⟩
  · cases h0
  · injection h0 with h0 h1 h2
    injection h0 with h0
    injection h0 with h0
    subst h0 h2
    exact ⟨cur, hh, hs, hn, ht⟩
theorem PolAt.at_ (h : PolAt w base p a cap L) {i j : Nat} (hi : i < L.length) (hj : j < 3) : w.cell? ⟨a, i * 3 + j, none⟩ = L[i].cells[j]? := by
  obtain ⟨cur, hb, hs, hn, ht⟩ := h.row
  rw [hb.cell, ← flat_at L i j hi hj, ← ht, List.getElem?_take_of_lt (by omega)]
  simp
theorem PolAt.c0 (h : PolAt w base p a cap L) {i : Nat} (hi : i < L.length) : w.cell? ⟨a, i * 3, none⟩ = some (.int .i64 L[i].t) := h.at_ hi (j := 0) (by omega)
theorem PolAt.c1 (h : PolAt w base p a cap L) {i : Nat} (hi : i < L.length) : w.cell? ⟨a, i * 3 + 1, none⟩ = some (.int .i64 L[i].last) := h.at_ hi (j := 1) (by omega)
theorem PolAt.c2 (h : PolAt w base p a cap L) {i : Nat} (hi : i < L.length) : w.cell? ⟨a, i * 3 + 2, none⟩ = some (.bool L[i].on) := h.at_ hi (j := 2) (by omega)
theorem PolAt.fr (h : PolAt w base p a cap L) (i : Nat) : w.frozen? ⟨a, i, none⟩ = false := by
  obtain ⟨cur, hb, _⟩ := h.row
  exact hb.frozen i
theorem PolAt.slice (h : PolAt w base p a cap L) : w.cell? ⟨p, 0, none⟩ = some (.slice (some ⟨a, 0, none⟩) L.length cap) := by rw [h.pol.hd.cell]; rfl
theorem PolAt.keep {row : Option Nat} (h : PolAt w base p a cap L) (hg : w.grownBy w' row) (h1 : some p ≠ row) (h2 : some a ≠ row) : PolAt w' base p a cap L :=
  ⟨h.pol.keep hg h1 (.inr (by simpa [Value.ownBlock] using h2)), h.ne⟩
theorem PolAt.drew (h : PolAt w base p a cap L) : PolAt w.drew base p a cap L := ⟨⟨h.pol.hd, h.pol.own⟩, h.ne⟩
theorem PolAt.drewN (h : PolAt w base p a cap L) (n : Nat) : PolAt (w.drewN n) base p a cap L := ⟨⟨h.pol.hd, h.pol.own⟩, h.ne⟩
theorem PolAt.lt (h : PolAt w base p a cap L) : a < w.heap.size ∧ p < w.heap.size ∧ base ≤ a := by
  obtain ⟨cur, hb, _⟩ := h.row
  refine ⟨hb.lt, h.pol.hd.lt, ?_⟩
  rcases h.pol.own.2 with ⟨h0, _⟩ | ⟨g, c, cur, h0, hb, _⟩
  · cases h0
  · injection h0 with h0
    injection h0 with h0
    injection h0 with h0
    subst h0
    exact hb

theorem PolAt.set (h : PolAt w base p a cap L) {i : Nat} (hi : i < L.length) (t : Int) :
    PolAt ((w.setCell ⟨a, i * 3 + 1, none⟩ (.int .i64 t)).setCell ⟨a, i * 3 + 2, none⟩ (.bool true)) base p a cap (L.set i ⟨L[i].t, t, true⟩) := by
  refine ⟨⟨?_, ?_⟩, h.ne⟩
  · rw [List.length_set]
    exact (h.pol.hd.far (fun e => h.ne e.symm) _).far (fun e => h.ne e.symm) _
  · rw [List.length_set]
    refine ⟨by rw [flat_length, List.length_set], .inr ?_⟩
    rcases h.pol.own.2 with ⟨h0, _⟩ | ⟨g, c, cur, h0, hb, hh, hn, hm, hs, ht⟩
    · cases h0
    · injection h0 with h0 h1 h2
      injection h0 with h0
      injection h0 with h0
      subst h0 h2
      have hB : Blk w a 41 cur := hh
      refine ⟨a, cap, _, rfl, hb, (hB.set_ (i * 3 + 1) (.int .i64 t)).set_ (i * 3 + 2) (.bool true), hn, hm, by simpa using hs, ?_⟩
      rw [← flat_set L i ⟨L[i].t, t, true⟩ hi hi rfl, ← ht]
      simp only [Array.toList_setIfInBounds]
      rw [List.take_set, List.take_set]
end

end Go.Proofs.Ytggoflcphalnpaa
