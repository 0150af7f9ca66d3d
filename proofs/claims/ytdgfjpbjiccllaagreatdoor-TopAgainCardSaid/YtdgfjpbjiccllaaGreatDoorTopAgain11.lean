/- Joined texts: Opn. -/
import Derived.Test.YtdgfjpbjiccllaaGreatDoorTopAgain03
import Derived.Deep.Slices
import Derived.Deep.Fields
import Derived.ChangeSame
import Derived.OpenShut
import Derived.Lib.SmallJoins
namespace Go.Proofs.YtdgfjpbjiccllaaGreatDoor.O
open Go.ChangeShapes Go.WideShapes Go.Deep Go.RowKit Go.Joins
open YtdgfjpbjiccllaaGreatDoorW.PrintWords YtdgfjpbjiccllaaGreatDoorW.PrintLast YtdgfjpbjiccllaaGreatDoorW.PrintMore
open PTopLoads
set_option maxRecDepth 100000
section
variable {H : Type} {enc : TypeId × Value → H} {P : Program} {w : World} {base : Nat} {spare : Nat → Bool} {held : Bool} {fuel : Nat}
theorem form {t e : TypeId} {v : Value} {x : DataW H × List MemPlace} (ht : P.underlying t = some (.slice e)) (h : DataW.trod enc P w base spare held fuel t [v] = some x) : ∃ a len cap, v = .slice a len cap := by
 rcases open_slice ht h with ⟨hcs, _⟩ | ⟨ad, l, c, m, n, D, Pl, hcs, _⟩
 ·simp at hcs; exact ⟨_, _, _, hcs⟩
 ·simp at hcs; exact ⟨_, _, _, hcs⟩
theorem open_list {α : Type} (d : Kd α) (z : α) (ok : α → Prop) {t e : TypeId} (ht : P.underlying t = some (.slice e)) (hsz : P.cellsOf e = d.sz)
  (each : ∀ (f : Nat) (cs : List Value) (x : DataW H × List MemPlace), cs.length = d.sz → DataW.trod enc P w base spare held f e cs = some x → ∃ y, d.K w y cs ∧ ok y)
  {a : Option Addr} {len cap : Nat} {x : DataW H × List MemPlace} (h : DataW.trod enc P w base spare held fuel t [.slice a len cap] = some x) :
  ∃ L : List α, L.length = len ∧ len ≤ cap ∧ Kd.C d w a len L ∧ ∀ y ∈ L, ok y := by
 rcases open_slice ht h with ⟨hcs, _⟩ | ⟨ad, l, c, m, n, D, Pl, hcs, hb, hl, hm, hmm, hx, hi⟩
 ·simp at hcs
  obtain ⟨rfl, rfl, rfl⟩ := hcs
  exact ⟨[], rfl, Nat.le_refl _, ⟨rfl, by omega, fun h => by omega⟩, fun _ h => by cases h⟩
 ·simp at hcs
  obtain ⟨rfl, rfl, rfl⟩ := hcs
  have hlm : len ≤ m := by rw [hmm]; split <;> omega
  have ev : ∀ i, ∃ X : α, i < len → ok X ∧ ∃ cs, cs.length = d.sz ∧ d.K w X cs ∧ ∀ j u, cs[j]? = some u → w.cell? (ad.add (i * d.sz + j)) = some u := by
   intro i
   by_cases hil : i < len
   ·obtain ⟨cs', hc, ht'⟩ := hi i (by omega)
    obtain ⟨_, hcl, hat⟩ := World.cells?_some hc
    rw [hsz] at hcl
    obtain ⟨y, hK, ho⟩ := each n cs' _ hcl ht'
    refine ⟨y, fun _ => ⟨ho, cs', hcl, hK, fun j u hu => ?_⟩⟩
    have hj : j < d.sz := by rw [← hcl]; exact (List.getElem?_eq_some_iff.1 hu).1
    rw [← Go.Deep.add_add, ← hsz, hat j (by omega), hu]
   ·exact ⟨z, fun h => absurd h hil⟩
  obtain ⟨X, hX⟩ := Classical.axiomOfChoice ev
  refine ⟨(List.range len).map X, by simp, hl, ⟨by simp, by unfold maxLen at hm; omega, fun _ => ⟨ad, rfl, fun j p hp => ?_⟩⟩, fun y hy => ?_⟩
  ·have hj : j < len := by
    have := (List.getElem?_eq_some_iff.1 hp).1
    simpa using this
   obtain rfl : X j = p := by simpa [hj] using hp
   exact (hX j hj).2
  ·obtain ⟨j, hj, rfl⟩ := List.mem_map.1 hy
   exact (hX j (by simpa using hj)).1
end
section
variable {H : Type} {enc : TypeId × Value → H} {P : Program} {w : World} {base : Nat} {spare : Nat → Bool} {held : Bool} {fuel : Nat}
theorem fields {e : TypeId} {fs : Array Field} {cs : List Value} {x : DataW H × List MemPlace} (he : P.underlying e = some (.struct fs)) (hone : oneCellFields P fs = true) (hl : cs.length = fs.size)
  (h : DataW.trod enc P w base spare held fuel e cs = some x) : ∃ n, ∀ (j : Nat) (f : Field), fs[j]? = some f → ∃ (v : Value) (y : DataW H × List MemPlace), cs[j]? = some v ∧ DataW.trod enc P w base spare held n f.type [v] = some y := by
 obtain ⟨ys, n', hn', hy, hlen, hyl, hf⟩ := DataW.trod_struct he h
 refine ⟨n', fun j f hj => ?_⟩
 obtain ⟨ho, hk⟩ := hone_of hone j f hj
 have hjl : j < fs.size := (Array.getElem?_eq_some_iff.1 hj).1
 have hv : cs[j]? = some (cs[j]'(by omega)) := List.getElem?_eq_getElem (by omega)
 have h1 := hf j f hj
 rw [ho, hk] at h1
 have hone' : (cs.drop j).take 1 = [cs[j]'(by omega)] := by
  rw [List.drop_eq_getElem_cons (by omega)]
  rfl
 rw [hone'] at h1
 have hys : ys[j]? = some (ys[j]'(by omega)) := List.getElem?_eq_getElem (by omega)
 exact ⟨_, _, hv, h1.trans hys⟩
end
section
variable {H : Type} {enc : TypeId × Value → H} {w : World} {base : Nat} {spare : Nat → Bool} {held : Bool} {fuel : Nat}
theorem open_nums {a : Option Addr} {len cap : Nat} {x : DataW H × List MemPlace} (h : DataW.trod enc Tryz.prog w base spare held fuel 32 [.slice a len cap] = some x) :
  ∃ L : List Int, L.length = len ∧ len ≤ cap ∧ Kd.C (Kd.int .i64) w a len L := by
 obtain ⟨L, h1, h2, h3, _⟩ := open_list (Kd.int .i64) 0 (fun _ => True) Tryz.underlying32 (by kernel_rfl) (fun f cs x _ ht => by
  obtain ⟨n, rfl, _, _⟩ := DataW.trod_int Tryz.underlying2 ht
  exact ⟨n, rfl, trivial⟩) h
 exact ⟨L, h1, h2, h3⟩
theorem nums_K {v : Value} {x : DataW H × List MemPlace} (h : DataW.trod enc Tryz.prog w base spare held fuel 32 [v] = some x) : ∃ (L : List Int) (a : Option Addr) (c : Nat), v = .slice a L.length c ∧ L.length ≤ c ∧ Kd.C (Kd.int .i64) w a L.length L := by
 obtain ⟨a, len, cap, rfl⟩ := form Tryz.underlying32 h
 obtain ⟨L, rfl, h2, h3⟩ := open_nums h
 exact ⟨L, a, cap, rfl, h2, h3⟩
theorem open_rows {a : Option Addr} {len cap : Nat} {x : DataW H × List MemPlace} (h : DataW.trod enc Tryz.prog w base spare held fuel 55 [.slice a len cap] = some x) :
  ∃ L : List (List Int), L.length = len ∧ len ≤ cap ∧ Kd.C (Kd.slice 2 (Kd.int .i64)) w a len L := by
 obtain ⟨L, h1, h2, h3, _⟩ := open_list (Kd.slice 2 (Kd.int .i64)) [] (fun _ => True) Tryz.underlying55 (by kernel_rfl) (fun f cs x hl ht => by
  have hl1 : cs.length = 1 := hl
  match cs, hl1 with
  | [v], _ =>
   obtain ⟨L, a, c, rfl, h2, h3⟩ := nums_K ht
   exact ⟨L, ⟨a, c, rfl, h2, h3⟩, trivial⟩) h
 exact ⟨L, h1, h2, h3⟩
def OkIn (u : S57) : Prop := (0 ≤ u.f0 ∧ u.f0 < 18446744073709551616) ∧ (0 ≤ u.f2 ∧ u.f2 < 18446744073709551616)
theorem open_ins {a : Option Addr} {len cap : Nat} {x : DataW H × List MemPlace} (h : DataW.trod enc Tryz.prog w base spare held fuel 25 [.slice a len cap] = some x) :
  ∃ L : List S57, L.length = len ∧ len ≤ cap ∧ Kd.C k57 w a len L ∧ ∀ u ∈ L, OkIn u :=
 open_list k57 z57 OkIn Tryz.underlying25 (by kernel_rfl) (fun f cs x hl ht => by
  have hl1 : cs.length = 3 := hl
  match cs, hl1 with
  | [c0, c1, c2], _ =>
   obtain ⟨n, hf⟩ := fields Tryz.underlying57 (by kernel_rfl) rfl ht
   obtain ⟨v0, y0, k0, t0⟩ := hf 0 _ rfl
   obtain ⟨v1, y1, k1, t1⟩ := hf 1 _ rfl
   obtain ⟨v2, y2, k2, t2⟩ := hf 2 _ rfl
   simp at k0 k1 k2; subst k0 k1 k2
   obtain ⟨n0, e0, _, b0⟩ := DataW.trod_int Tryz.underlying44 t0
   obtain ⟨n2, e2, _, b2⟩ := DataW.trod_int Tryz.underlying44 t2
   obtain ⟨A, l, c, rfl⟩ := form Tryz.underlying55 t1
   obtain ⟨L, rfl, hc, hC⟩ := open_rows t1
   simp at e0 e2; subst e0 e2
   have := bounds_u64 b0
   have := bounds_u64 b2
   exact ⟨⟨n0, L, n2⟩, k57_mk w ⟨n0, L, n2⟩ hc hC, (by constructor <;> simp only <;> omega)⟩) h
def OkTask (x : S46) : Prop := (x.f0.size : Int) ≤ 9223372036854775807 ∧ (0 ≤ x.f7 ∧ x.f7 < 18446744073709551616) ∧ (0 ≤ x.f8 ∧ x.f8 < 18446744073709551616)
theorem task_cells {cs : List Value} {x : DataW H × List MemPlace} (hl : cs.length = 9) (h : DataW.trod enc Tryz.prog w base spare held fuel 46 cs = some x) :
  ∃ (X : S46) (ra : Option Addr) (rc : Nat), cs = [.string X.f0, .int .i64 X.f1, .int .i64 X.f2, .int .i64 X.f3, .int .i64 X.f4, .int .i64 X.f5, .slice ra X.f6.length rc, .int .u64 X.f7, .int .u64 X.f8] ∧ X.f6.length ≤ rc ∧ Kd.C (Kd.int .i64) w ra X.f6.length X.f6 ∧ OkTask X := by
 match cs, hl with
 | [c0, c1, c2, c3, c4, c5, c6, c7, c8], _ =>
  obtain ⟨n, hf⟩ := fields Tryz.underlying46 (by kernel_rfl) rfl h
  obtain ⟨v0, y0, k0, t0⟩ := hf 0 _ rfl
  obtain ⟨v1, y1, k1, t1⟩ := hf 1 _ rfl
  obtain ⟨v2, y2, k2, t2⟩ := hf 2 _ rfl
  obtain ⟨v3, y3, k3, t3⟩ := hf 3 _ rfl
  obtain ⟨v4, y4, k4, t4⟩ := hf 4 _ rfl
  obtain ⟨v5, y5, k5, t5⟩ := hf 5 _ rfl
  obtain ⟨v6, y6, k6, t6⟩ := hf 6 _ rfl
  obtain ⟨v7, y7, k7, t7⟩ := hf 7 _ rfl
  obtain ⟨v8, y8, k8, t8⟩ := hf 8 _ rfl
  simp at k0 k1 k2 k3 k4 k5 k6 k7 k8; subst k0 k1 k2 k3 k4 k5 k6 k7 k8
  obtain ⟨n0, e0, _, b0⟩ := DataW.trod_string Tryz.underlying9 t0
  obtain ⟨n1, e1, _, _⟩ := DataW.trod_int Tryz.underlying2 t1
  obtain ⟨n2, e2, _, _⟩ := DataW.trod_int Tryz.underlying2 t2
  obtain ⟨n3, e3, _, _⟩ := DataW.trod_int Tryz.underlying3 t3
  obtain ⟨n4, e4, _, _⟩ := DataW.trod_int Tryz.underlying2 t4
  obtain ⟨n5, e5, _, _⟩ := DataW.trod_int Tryz.underlying3 t5
  obtain ⟨L, ra, rc, e6, hc, hC⟩ := nums_K t6
  obtain ⟨n7, e7, _, b7⟩ := DataW.trod_int Tryz.underlying44 t7
  obtain ⟨n8, e8, _, b8⟩ := DataW.trod_int Tryz.underlying44 t8
  simp at e0 e1 e2 e3 e4 e5 e6 e7 e8; subst e0 e1 e2 e3 e4 e5 e6 e7 e8
  have := bounds_u64 b7
  have := bounds_u64 b8
  refine ⟨⟨n0, n1, n2, n3, n4, n5, L, n7, n8⟩, ra, rc, rfl, hc, hC, ?_, ?_, ?_⟩
  ·unfold maxLen at b0; simp only; omega
  ·simp only; omega
  ·simp only; omega
theorem open_tasks {a : Option Addr} {len cap : Nat} {x : DataW H × List MemPlace} (h : DataW.trod enc Tryz.prog w base spare held fuel 22 [.slice a len cap] = some x) :
  ∃ L : List S46, L.length = len ∧ len ≤ cap ∧ Kd.C k46 w a len L ∧ ∀ u ∈ L, OkTask u :=
 open_list k46 z46 OkTask Tryz.underlying22 (by kernel_rfl) (fun f cs x hl ht => by
  obtain ⟨X, ra, rc, rfl, hc, hC, ho⟩ := task_cells hl ht
  exact ⟨X, k46_mk w X hc hC, ho⟩) h
end
theorem set_val {H : Type} {enc : TypeId × Value → H} {w : World} {base : Nat} {spare : Nat → Bool} {held : Bool} {r : Reach} {b0 : Nat} {v : Value} {d : DataW H} {p : List MemPlace}
  (hv : Value.okWide Tryz.prog w r b0 24 v) (h : DataW.Trod enc Tryz.prog w base spare held 24 v d p) :
  ∃ (rel : Int) (T : List S46) (TA : Option Addr) (tc : Nat), v = .agg #[.int .i64 rel, .slice TA T.length tc] ∧ T.length ≤ tc ∧ Kd.C k46 w TA T.length T ∧ (∀ x ∈ T, OkTask x) ∧ (-9223372036854775808 ≤ rel ∧ rel ≤ 9223372036854775807) := by
 obtain ⟨cs, rfl, hsz⟩ := okWide_struct Tryz.underlying24 hv
 obtain ⟨l⟩ := cs
 obtain ⟨fuel, hf⟩ := h
 have h9 : Tryz.prog.cellsOf 24 = 2 := by kernel_rfl
 rw [h9] at hsz
 have hf' : DataW.trod enc Tryz.prog w base spare held fuel 24 l = some (d, p) := by simpa [Value.cells] using hf
 match l, hsz with
 | [c0, c1], _ =>
  obtain ⟨n, hg⟩ := fields Tryz.underlying24 (by kernel_rfl) rfl hf'
  obtain ⟨v0, y0, k0, t0⟩ := hg 0 _ rfl
  obtain ⟨v1, y1, k1, t1⟩ := hg 1 _ rfl
  simp at k0 k1; subst k0 k1
  obtain ⟨n0, e0, _, b0⟩ := DataW.trod_int Tryz.underlying2 t0
  obtain ⟨A, len, c, rfl⟩ := form Tryz.underlying22 t1
  obtain ⟨L, rfl, hc, hC, ho⟩ := open_tasks t1
  simp at e0; subst e0
  exact ⟨n0, L, A, c, rfl, hc, hC, ho, bounds_i64 b0⟩
theorem ins_val {H : Type} {enc : TypeId × Value → H} {w : World} {base : Nat} {spare : Nat → Bool} {held : Bool} {r : Reach} {b0 : Nat} {v : Value} {d : DataW H} {p : List MemPlace}
  (hv : Value.okWide Tryz.prog w r b0 25 v) (h : DataW.Trod enc Tryz.prog w base spare held 25 v d p) :
  ∃ (l : List S57) (IA : Option Addr) (ic : Nat), v = .slice IA l.length ic ∧ l.length ≤ ic ∧ Kd.C k57 w IA l.length l ∧ ∀ u ∈ l, OkIn u := by
 obtain ⟨IA, len, ic, rfl⟩ := okWide_slice Tryz.underlying25 hv
 obtain ⟨fuel, hf⟩ := h
 obtain ⟨L, rfl, hc, hC, ho⟩ := open_ins (show DataW.trod enc Tryz.prog w base spare held fuel 25 [.slice IA len ic] = some (d, p) from by simpa [Value.cells] using hf)
 exact ⟨L, IA, ic, rfl, hc, hC, ho⟩
end Go.Proofs.YtdgfjpbjiccllaaGreatDoor.O
