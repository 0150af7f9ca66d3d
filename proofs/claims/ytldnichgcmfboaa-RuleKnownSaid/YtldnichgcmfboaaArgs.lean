/- What the laws of rule take: a set and its states, told as lists; no condition. -/
import Derived.Test.YtldnichgcmfboaaPRuleTellsx0
import Derived.Deep.Slices
import Derived.Deep.Fields
import Derived.ChangeSame
import Derived.OpenShut
import Derived.Lib.SmallJoins
namespace Go.Proofs.Ytldnichgcmfboaa
open Go.ChangeShapes Go.WideShapes Go.Deep Go.RowKit Go.Joins
open Go.Proofs.YtldnichgcmfboaaW.PrintWords Go.Proofs.YtldnichgcmfboaaW.PrintLast Go.Proofs.YtldnichgcmfboaaW.PrintMore
open Go.Proofs.Ytldnichgcmfboaa.PRuleTells

section
variable {H : Type} {enc : TypeId × Value → H} {P : Program} {w : World} {base : Nat} {spare : Nat → Bool} {held : Bool}
theorem open_slice_fields {t e : TypeId} {fs : Array Field} {fuel : Nat} {cs : List Value} {x : DataW H × List MemPlace} (ht : P.underlying t = some (.slice e)) (he : P.underlying e = some (.struct fs))
    (hone : oneCellFields P fs = true) (hC : P.cellsOf e = fs.size) (h : DataW.trod enc P w base spare held fuel t cs = some x) :
    (cs = [.slice none 0 0] ∧ x = (.nil, [])) ∨
    ∃ (a : Addr) (len cap m : Nat) (D : Nat → DataW H) (Pl : Nat → List MemPlace), cs = [.slice (some a) len cap] ∧ base ≤ a.block ∧ len ≤ cap ∧ cap ≤ maxLen ∧ m = (if spare a.block then cap else len) ∧
      x = (.slice ((List.range len).map D) ((List.range (m - len)).map fun j => D (len + j)), MemPlace.row a (m * fs.size) ++ (List.range m).flatMap Pl) ∧
      ∀ i, i < m → ∃ (ys : List (DataW H × List MemPlace)) (n : Nat), D i = .agg (ys.map (·.1)) ∧ Pl i = ys.flatMap (·.2) ∧ ys.length = fs.size ∧
        ∀ (j : Nat) (f : Field), fs[j]? = some f → ∃ (v : Value) (y : DataW H × List MemPlace), w.cell? (a.add (i * fs.size + j)) = some v ∧ ys[j]? = some y ∧ DataW.trod enc P w base spare held n f.type [v] = some y := by
  rcases open_slice ht h with h0 | ⟨a, len, cap, m, n, D, Pl, hcs, hb, hl, hm, hmm, hx, hi⟩
  · exact .inl h0
  · refine .inr ⟨a, len, cap, m, D, Pl, hcs, hb, hl, hm, hmm, by rw [hC] at hx; exact hx, fun i him => ?_⟩
    obtain ⟨cs', hc, ht'⟩ := hi i him
    rw [hC] at hc
    obtain ⟨ys, n', hn', hy, hlen, hyl, hf⟩ := DataW.trod_struct he ht'
    obtain ⟨_, hcl, hat⟩ := World.cells?_some hc
    simp only [Prod.mk.injEq] at hy
    refine ⟨ys, n', hy.1, hy.2, hyl, fun j f hj => ?_⟩
    obtain ⟨ho, hk⟩ := hone_of hone j f hj
    have hjl : j < fs.size := (Array.getElem?_eq_some_iff.1 hj).1
    have hcell := hat j hjl
    have hv : cs'[j]? = some (cs'[j]'(by omega)) := List.getElem?_eq_getElem (by omega)
    have h1 := hf j f hj
    rw [ho, hk] at h1
    have hone' : (cs'.drop j).take 1 = [cs'[j]'(by omega)] := by
      rw [List.drop_eq_getElem_cons (by omega)]
      rfl
    rw [hone'] at h1
    have hys : ys[j]? = some (ys[j]'(by omega)) := List.getElem?_eq_getElem (by omega)
    refine ⟨_, _, ?_, hys, h1.trans hys⟩
    rw [← Go.Deep.add_add, hcell, hv]
end

section
variable {H : Type} {enc : TypeId × Value → H} {w : World} {base : Nat} {spare : Nat → Bool} {held : Bool} {fuel : Nat}

theorem list_of {α : Type} (X : Nat → α) (n : Nat) (j : Nat) (p : α) (h : ((List.range n).map X)[j]? = some p) : j < n ∧ p = X j := by
  have hl : j < n := by
    have := (List.getElem?_eq_some_iff.1 h).1
    simpa using this
  refine ⟨hl, ?_⟩
  simp [hl] at h
  exact h.symm

theorem open_states {a : Option Addr} {len cap : Nat} {x : DataW H × List MemPlace}
    (h : DataW.trod enc Try.prog w base spare held fuel 25 [.slice a len cap] = some x) : ∃ L : List S33, L.length = len ∧ len ≤ cap ∧ Kd.C k33 w a len L := by
  rcases open_slice_fields Try.underlying25 Try.underlying33 (by kernel_rfl) (by kernel_rfl) h with ⟨hcs, _⟩ | ⟨ad, l, c, m, D, Pl, hcs, hb, hl, hm, hmm, hx, hi⟩
  · simp at hcs
    obtain ⟨rfl, rfl, rfl⟩ := hcs
    exact ⟨[], rfl, Nat.le_refl _, rfl, by omega, fun h => by omega⟩
  · simp at hcs
    obtain ⟨rfl, rfl, rfl⟩ := hcs
    have hlm : len ≤ m := by rw [hmm]; split <;> omega
    have each : ∀ i, ∃ X : S33, i < len → w.cell? (ad.add (i * 4)) = some (.bool X.f0) ∧ w.cell? (ad.add (i * 4 + 1)) = some (.bool X.f1) ∧
        w.cell? (ad.add (i * 4 + 2)) = some (.bool X.f2) ∧ w.cell? (ad.add (i * 4 + 3)) = some (.int .i64 X.f3) := by
      intro i
      by_cases hil : i < len
      · obtain ⟨ys, n, _, _, _, hf⟩ := hi i (by omega)
        obtain ⟨v0, y0, k0, _, t0⟩ := hf 0 _ rfl
        obtain ⟨v1, y1, k1, _, t1⟩ := hf 1 _ rfl
        obtain ⟨v2, y2, k2, _, t2⟩ := hf 2 _ rfl
        obtain ⟨v3, y3, k3, _, t3⟩ := hf 3 _ rfl
        obtain ⟨n0, e0, _⟩ := DataW.trod_bool Try.underlying4 t0
        obtain ⟨n1, e1, _⟩ := DataW.trod_bool Try.underlying4 t1
        obtain ⟨n2, e2, _⟩ := DataW.trod_bool Try.underlying4 t2
        obtain ⟨n3, e3, _, _⟩ := DataW.trod_int Try.underlying2 t3
        simp at e0 e1 e2 e3
        subst e0 e1 e2 e3
        exact ⟨⟨n0, n1, n2, n3⟩, fun _ => ⟨k0, k1, k2, k3⟩⟩
      · exact ⟨z33, fun h => absurd h hil⟩
    obtain ⟨X, hX⟩ := Classical.axiomOfChoice each
    refine ⟨(List.range len).map X, by simp, hl, by simp, by unfold maxLen at hm; omega, fun _ => ⟨ad, rfl, fun j p hp => ?_⟩⟩
    obtain ⟨hj, rfl⟩ := list_of X len j p hp
    obtain ⟨q0, q1, q2, q3⟩ := hX j hj
    refine ⟨_, rfl, k33_mk w (X j), fun i u hu => ?_⟩
    match i, hu with
    | 0, hu => simp at hu; subst hu; exact q0
    | 1, hu => simp at hu; subst hu; exact q1
    | 2, hu => simp at hu; subst hu; exact q2
    | 3, hu => simp at hu; subst hu; exact q3

theorem ints_C {a : Option Addr} {len cap : Nat} {x : DataW H × List MemPlace}
    (h : DataW.trod enc Try.prog w base spare held fuel 34 [.slice a len cap] = some x) : ∃ l : List Int, l.length = len ∧ len ≤ cap ∧ (Kd.int .i64).C w a len l := by
  rcases open_ints Try.underlying34 Try.underlying2 (by kernel_rfl) h with ⟨hcs, _⟩ | ⟨ad, l, c, zs, hcs, hb, hl, hm, hz, hx, hcell, hwf⟩
  · simp at hcs
    obtain ⟨rfl, rfl, rfl⟩ := hcs
    exact ⟨[], rfl, Nat.le_refl _, rfl, by omega, fun h => by omega⟩
  · simp at hcs
    obtain ⟨rfl, rfl, rfl⟩ := hcs
    have hlm : len ≤ zs.length := by rw [hz]; split <;> omega
    refine ⟨zs.take len, by simp; omega, hl, by simp; omega, by unfold maxLen at hm; omega, fun _ => ⟨ad, rfl, fun j p hp => ?_⟩⟩
    have hj : j < len := by
      have := (List.getElem?_eq_some_iff.1 hp).1
      simp at this
      omega
    have hpz : zs.getD j 0 = p := by
      rw [List.getElem?_take_of_lt hj] at hp
      rw [List.getD_eq_getElem?_getD, hp]
      rfl
    refine ⟨[.int .i64 p], rfl, rfl, fun i u hu => ?_⟩
    match i, hu with
    | 0, hu =>
      simp at hu
      subst hu
      have := hcell j (by omega)
      rw [hpz] at this
      show w.cell? (ad.add (j * 1 + 0)) = _
      simpa using this

/-- The cells of a task in memory. -/
def TaskAt (w : World) (ad : Addr) (x : S37) : Prop := (x.f0.size : Int) ≤ 9223372036854775807 ∧ ∃ cs, k37.K w x cs ∧ ∀ i u, cs[i]? = some u → w.cell? (ad.add i) = some u

theorem form22 {v : Value} {x : DataW H × List MemPlace} (h : DataW.trod enc Try.prog w base spare held fuel 22 [v] = some x) : ∃ a len cap, v = .slice a len cap := by
  rcases open_slice_fields Try.underlying22 Try.underlying37 (by kernel_rfl) (by kernel_rfl) h with ⟨hcs, _⟩ | ⟨ad, l, c, m, D, Pl, hcs, _⟩
  · simp at hcs; exact ⟨_, _, _, hcs⟩
  · simp at hcs; exact ⟨_, _, _, hcs⟩

theorem open_tasks {a : Option Addr} {len cap : Nat} {x : DataW H × List MemPlace}
    (h : DataW.trod enc Try.prog w base spare held fuel 22 [.slice a len cap] = some x) :
    ∃ T : List S37, T.length = len ∧ len ≤ cap ∧ Kd.C k37 w a len T ∧ ∀ x ∈ T, (x.f0.size : Int) ≤ 9223372036854775807 := by
  rcases open_slice_fields Try.underlying22 Try.underlying37 (by kernel_rfl) (by kernel_rfl) h with ⟨hcs, _⟩ | ⟨ad, l, c, m, D, Pl, hcs, hb, hl, hm, hmm, hx, hi⟩
  · simp at hcs
    obtain ⟨rfl, rfl, rfl⟩ := hcs
    exact ⟨[], rfl, Nat.le_refl _, ⟨rfl, by omega, fun h => by omega⟩, fun _ h => by cases h⟩
  · simp at hcs
    obtain ⟨rfl, rfl, rfl⟩ := hcs
    have hlm : len ≤ m := by rw [hmm]; split <;> omega
    have each : ∀ i, ∃ X : S37, i < len → (X.f0.size : Int) ≤ 9223372036854775807 ∧ ∃ cs, k37.K w X cs ∧ cs.length = 9 ∧ ∀ j u, cs[j]? = some u → w.cell? (ad.add (i * 9 + j)) = some u := by
      intro i
      by_cases hil : i < len
      · obtain ⟨ys, n, _, _, _, hf⟩ := hi i (by omega)
        obtain ⟨v0, y0, k0, _, t0⟩ := hf 0 _ rfl
        obtain ⟨v1, y1, k1, _, t1⟩ := hf 1 _ rfl
        obtain ⟨v2, y2, k2, _, t2⟩ := hf 2 _ rfl
        obtain ⟨v3, y3, k3, _, t3⟩ := hf 3 _ rfl
        obtain ⟨v4, y4, k4, _, t4⟩ := hf 4 _ rfl
        obtain ⟨v5, y5, k5, _, t5⟩ := hf 5 _ rfl
        obtain ⟨v6, y6, k6, _, t6⟩ := hf 6 _ rfl
        obtain ⟨v7, y7, k7, _, t7⟩ := hf 7 _ rfl
        obtain ⟨v8, y8, k8, _, t8⟩ := hf 8 _ rfl
        obtain ⟨n0, e0, _, hs0⟩ := DataW.trod_string Try.underlying9 t0
        obtain ⟨n1, e1, _, _⟩ := DataW.trod_int Try.underlying2 t1
        obtain ⟨n2, e2, _, _⟩ := DataW.trod_int Try.underlying2 t2
        obtain ⟨n3, e3, _, _⟩ := DataW.trod_int Try.underlying3 t3
        obtain ⟨n4, e4, _, _⟩ := DataW.trod_int Try.underlying2 t4
        obtain ⟨n5, e5, _, _⟩ := DataW.trod_int Try.underlying3 t5
        obtain ⟨n7, e7, _, _⟩ := DataW.trod_int Try.underlying35 t7
        obtain ⟨n8, e8, _, _⟩ := DataW.trod_int Try.underlying35 t8
        obtain ⟨A6, l6, c6, e6⟩ : ∃ A6 l6 c6, v6 = .slice A6 l6 c6 := by
          rcases open_ints Try.underlying34 Try.underlying2 (by kernel_rfl) t6 with ⟨hcs, _⟩ | ⟨ad, l, c, zs, hcs, _⟩
          · simp at hcs; exact ⟨_, _, _, hcs⟩
          · simp at hcs; exact ⟨_, _, _, hcs⟩
        subst e6
        obtain ⟨f6, hl6, hc6, hC6⟩ := ints_C t6
        subst hl6
        simp at e0 e1 e2 e3 e4 e5 e7 e8
        subst e0 e1 e2 e3 e4 e5 e7 e8
        refine ⟨⟨n0, n1, n2, n3, n4, n5, f6, n7, n8⟩, fun _ => ⟨by unfold maxLen at hs0; simpa using (by omega : (n0.size : Int) ≤ 9223372036854775807), _, k37_mk w ⟨n0, n1, n2, n3, n4, n5, f6, n7, n8⟩ hc6 hC6, rfl, fun j u hu => ?_⟩⟩
        match j, hu with
        | 0, hu => simp at hu; subst hu; exact k0
        | 1, hu => simp at hu; subst hu; exact k1
        | 2, hu => simp at hu; subst hu; exact k2
        | 3, hu => simp at hu; subst hu; exact k3
        | 4, hu => simp at hu; subst hu; exact k4
        | 5, hu => simp at hu; subst hu; exact k5
        | 6, hu => simp at hu; subst hu; exact k6
        | 7, hu => simp at hu; subst hu; exact k7
        | 8, hu => simp at hu; subst hu; exact k8
      · exact ⟨z37, fun h => absurd h hil⟩
    obtain ⟨X, hX⟩ := Classical.axiomOfChoice each
    refine ⟨(List.range len).map X, by simp, hl, ⟨by simp, by unfold maxLen at hm; omega, fun _ => ⟨ad, rfl, fun j p hp => ?_⟩⟩, fun x hx => ?_⟩
    · obtain ⟨hj, rfl⟩ := list_of X len j p hp
      obtain ⟨_, cs, hK, hlen, hc⟩ := hX j hj
      exact ⟨cs, hlen, hK, hc⟩
    · obtain ⟨j, hj, rfl⟩ := List.mem_map.1 hx
      exact (hX j (by simpa using hj)).1
end

end Go.Proofs.Ytldnichgcmfboaa
