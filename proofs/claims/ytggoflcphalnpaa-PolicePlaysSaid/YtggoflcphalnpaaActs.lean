/- The script that the laws PolicePlays and PoliceAlone take: a slice of acts, told cell by cell; no condition. -/
import Derived.Test.YtggoflcphalnpaaKnown
import Derived.Deep.Slices
import Derived.Deep.Fields
import Derived.ChangeSame
import Derived.OpenShut
namespace Go.Proofs.Ytggoflcphalnpaa
open Go.ChangeShapes Go.WideShapes Go.Deep Go.RowKit

section
variable {H : Type} {enc : TypeId × Value → H} {P : Program} {w : World} {base : Nat} {spare : Nat → Bool} {held : Bool}
theorem open_slice_fields {t e : TypeId} {fs : Array Field} {fuel : Nat} {cs : List Value} {x : DataW H × List MemPlace} (ht : P.underlying t = some (.slice e)) (he : P.underlying e = some (.struct fs))
    (hone : oneCellFields P fs = true) (hC : P.cellsOf e = fs.size) (h : DataW.trod enc P w base spare held fuel t cs = some x) :
    (cs = [.slice none 0 0] ∧ x = (.nil, [])) ∨
    ∃ (a : Addr) (len cap m : Nat) (D : Nat → DataW H) (Pl : Nat → List MemPlace), cs = [.slice (some a) len cap] ∧ base ≤ a.block ∧ len ≤ cap ∧ cap ≤ maxLen ∧ m = (if spare a.block then cap else len) ∧
      x = (.slice ((List.range len).map D) ((List.range (m - len)).map fun j => D (len + j)), MemPlace.row a (m * fs.size) ++ (List.range m).flatMap Pl) ∧
      ∀ i, i < m → ∃ (ys : List (DataW H × List MemPlace)) (n : Nat), D i = .agg (ys.map (·.1)) ∧ Pl i = ys.flatMap (·.2) ∧ ys.length = fs.size ∧
        ∀ (j : Nat) (f : Field), fs[j]? = some f → ∃ (v : Value) (y : DataW H × List MemPlace), w.cell? (a.add (i * fs.size + j)) = some v ∧ ys[j]? = some y ∧ DataW.trod enc P w base spare held n f.type [v] = some y := by
  rcases open_slice ht h with h0 | ⟨a, len, cap, m, n, D, Pl, hcs, hb, hl, hm, hmm, hx, hi⟩
  · exact .inl h0
  · refine .inr ⟨a, len, cap, m, D, Pl, hcs, hb, hl, hm, hmm, by rw [hC] at hx; exact hx, fun i him => ?_⟩
    obtain ⟨cs', hc, ht'⟩ := hi i him
    rw [hC] at hc
    obtain ⟨ys, n', hn', hy, hlen, hyl, hf⟩ := DataW.trod_struct he ht'
    obtain ⟨_, hcl, hat⟩ := World.cells?_some hc
    simp only [Prod.mk.injEq] at hy
    refine ⟨ys, n', hy.1, hy.2, hyl, fun j f hj => ?_⟩
    obtain ⟨ho, hk⟩ := hone_of hone j f hj
    have hjl : j < fs.size := (Array.getElem?_eq_some_iff.1 hj).1
    have hcell := hat j hjl
    have hv : cs'[j]? = some (cs'[j]'(by omega)) := List.getElem?_eq_getElem (by omega)
    have h1 := hf j f hj
    rw [ho, hk] at h1
    have hone' : (cs'.drop j).take 1 = [cs'[j]'(by omega)] := by
      rw [List.drop_eq_getElem_cons (by omega)]
      rfl
    rw [hone'] at h1
    have hys : ys[j]? = some (ys[j]'(by omega)) := List.getElem?_eq_getElem (by omega)
    refine ⟨_, _, ?_, hys, h1.trans hys⟩
    rw [← Go.Deep.add_add, hcell, hv]
end

structure Act where
  task : Int
  tick : Int
  note : Bool

def IsActs (w : World) (a : Option Addr) (len : Nat) (X : Nat → Act) : Prop :=
  len = 0 ∨ ∃ b off, a = some ⟨b, off, none⟩ ∧ b < w.heap.size ∧ ∀ i, i < len →
    (w.cell? ⟨b, off + i * 3, none⟩ = some (.int .i64 (X i).task) ∧ w.cell? ⟨b, off + (i * 3 + 1), none⟩ = some (.int .i64 (X i).tick) ∧
    w.cell? ⟨b, off + (i * 3 + 2), none⟩ = some (.bool (X i).note)) ∧ -9223372036854775808 ≤ (X i).tick ∧ (X i).tick ≤ 9223372036854775807

theorem open_acts {H : Type} {enc : TypeId × Value → H} {w : World} {base : Nat} {spare : Nat → Bool} {held : Bool} {fuel : Nat} {a : Option Addr} {len cap : Nat} {x : DataW H × List MemPlace}
    (h : DataW.trod enc Try.prog w base spare held fuel 23 [.slice a len cap] = some x) : ∃ X, IsActs w a len X := by
  rcases open_slice_fields Try.underlying23 Try.underlying29 (by kernel_rfl) (by kernel_rfl) h with ⟨hcs, _⟩ | ⟨ad, l, c, m, D, Pl, hcs, hb, hl, hm, hmm, hx, hi⟩
  · simp at hcs
    obtain ⟨rfl, rfl, rfl⟩ := hcs
    exact ⟨fun _ => ⟨0, 0, false⟩, .inl rfl⟩
  · simp at hcs
    obtain ⟨rfl, rfl, rfl⟩ := hcs
    by_cases h0 : len = 0
    · exact ⟨fun _ => ⟨0, 0, false⟩, .inl h0⟩
    · have hlm : len ≤ m := by rw [hmm]; split <;> omega
      have each : ∀ i, ∃ X : Act, i < len → (w.cell? (ad.add (i * 3)) = some (.int .i64 X.task) ∧ w.cell? (ad.add (i * 3 + 1)) = some (.int .i64 X.tick) ∧
          w.cell? (ad.add (i * 3 + 2)) = some (.bool X.note)) ∧ -9223372036854775808 ≤ X.tick ∧ X.tick ≤ 9223372036854775807 := by
        intro i
        by_cases hil : i < len
        · obtain ⟨ys, n, _, _, _, hf⟩ := hi i (by omega)
          obtain ⟨v0, y0, k0, _, t0⟩ := hf 0 _ rfl
          obtain ⟨v1, y1, k1, _, t1⟩ := hf 1 _ rfl
          obtain ⟨v2, y2, k2, _, t2⟩ := hf 2 _ rfl
          obtain ⟨n0, e0, _, _⟩ := DataW.trod_int Try.underlying3 t0
          obtain ⟨n1, e1, _, wf1⟩ := DataW.trod_int Try.underlying2 t1
          obtain ⟨n2, e2, _⟩ := DataW.trod_bool Try.underlying4 t2
          simp at e0 e1 e2
          subst e0 e1 e2
          have hb1 := bounds_i64 wf1
          exact ⟨⟨n0, n1, n2⟩, fun _ => ⟨⟨k0, k1, k2⟩, hb1.1, hb1.2⟩⟩
        · exact ⟨⟨0, 0, false⟩, fun h => absurd h hil⟩
      obtain ⟨X, hX⟩ := Classical.axiomOfChoice each
      obtain ⟨b, off, spot⟩ := ad
      have hc := (hX 0 (by omega)).1.1
      have hspot : spot = none := by simpa [Addr.add] using World.cell?_spot hc
      subst hspot
      have hb : b < w.heap.size := by
        have := World.block_lt_of_cell? w _ hc
        rwa [add_none] at this
      refine ⟨X, .inr ⟨b, off, rfl, hb, fun i hi => ?_⟩⟩
      have := hX i hi
      simp only [add_none] at this
      exact this

end Go.Proofs.Ytggoflcphalnpaa
