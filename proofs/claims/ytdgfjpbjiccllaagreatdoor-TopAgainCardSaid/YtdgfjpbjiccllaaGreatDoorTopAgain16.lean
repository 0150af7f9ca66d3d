/- Joined texts: Runs, Args, One, One2, Lod, Lod2, Lod3. -/
import Derived.Test.YtdgfjpbjiccllaaGreatDoorTopAgain14
import Derived.Laws.AppendOwnNone
import Derived.Test.YtdgfjpbjiccllaaGreatDoorTopAgain10
import Derived.Test.YtdgfjpbjiccllaaGreatDoorTopAgain05
import Derived.Test.YtdgfjpbjiccllaaGreatDoorTopAgain15
namespace Go.Proofs.YtdgfjpbjiccllaaGreatDoor
open Go.RowKit
open YtdgfjpbjiccllaaGreatDoorW.PrintWords YtdgfjpbjiccllaaGreatDoorW.PrintLast YtdgfjpbjiccllaaGreatDoorW.PrintMore
open PTopLoads (S46 k46 z46 k46_mk S57 k57 z57)
set_option maxRecDepth 100000
variable {E : Nat}
def InsP (Pw : World → Prop) (A : Option Addr) (l : List S57) : Prop :=
 l = [] ∨ ∃ b off, A = some ⟨b, off, none⟩ ∧ ∀ i x, l[i]? = some x → ∃ DA dc, ∀ w', Pw w' → w'.cell? ⟨b, off + i * 3, none⟩ = some (.int .u64 x.f0) ∧ w'.cell? ⟨b, off + i * 3 + 1, none⟩ = some (.slice DA x.f1.length dc) ∧ w'.cell? ⟨b, off + i * 3 + 2, none⟩ = some (.int .u64 x.f2) ∧ Dem w' DA x.f1
theorem evs_app (L M : List Ev) : evs (L ++ M) = evs L ++ evs M := by simp [evs]
theorem evs_one (L : List Ev) : ∀ u ∈ evs L, u.oneCell' = true := by
 intro u hu
 simp only [evs, List.mem_flatMap] at hu
 obtain ⟨x, _, hu⟩ := hu
 simp [Ev.cells] at hu
 rcases hu with rfl | rfl | rfl | rfl <;> rfl
theorem evs_length (L : List Ev) : (evs L).length = L.length * 4 := by
 induction L with
 | nil => rfl
 | cons x L ih =>
  have : evs (x :: L) = x.cells ++ evs L := rfl
  rw [this, List.length_append, ih]
  simp only [Ev.cells, List.length_cons, List.length_nil]
  omega
section
variable {w w' : World} {B kp : Nat} {A : Ad} {jv : List Value} {ev : Value} {pd : Nat → Bool} {K : Kst}
theorem kat_other (h : KAt E w B kp A jv ev pd K) {v : Value} {L : List Ev} {m : Nat} (hv : w.ownsRow m 50 4 v L.length (evs L)) (hg : w.grownBy w' v.ownBlock) (hlt : ∀ g, v.ownBlock = some g → g < E) : KAt E w' B kp A jv ev pd K := by
 have hf : Fr (E := 0) [50] 0 w w' := Fr.of_own hg hv (Nat.zero_le _) (by simp) (fun _ => Nat.zero_le _)
 have hev : w'.ownsRow E 50 4 ev K.ev.length (evs K.ev) := by
  refine ⟨h.evs.1, ?_⟩
  rcases h.evs.2 with h0 | ⟨g, c, cur, e, hb, hh, rest⟩
  ·exact .inl h0
  ·have hB : Blk w g 50 cur := hh
   exact .inr ⟨g, c, cur, e, hb, hB.grown hg (fun e => by have := hlt g e.symm; omega), rest⟩
 exact ⟨h.hd.fr hf (by decide), h.tasks.fr hf (by decide) (by decide), pol_fr h.pol hf (by decide) (by decide), h.cache.fr hf (by decide),
  tab_fr h.tab hf (by decide) (by decide), h.own.fr hf (by decide), hev,
  fun i hi hp => (h.jobs i hi hp).fr hf (by decide) (by decide), h.apart, h.n1, h.n8, h.lp, h.lt, h.lh, h.ll, h.lj, h.lv, h.bk, h.bp, h.bc, h.bt, h.bta, h.bo, h.be, Nat.le_trans h.eh hf.size⟩
theorem own50_fr {base n C : Nat} {v : Value} {xs : List Value} {ts : List Nat} (h : w.ownsRow base 50 4 v n xs) (hf : Fr w.heap.size ts C w w') : w'.ownsRow base 50 4 v n xs := by
 refine ⟨h.1, ?_⟩
 rcases h.2 with h0 | ⟨g, c, cur, rfl, hb, hh, rest⟩
 ·exact .inl h0
 ·have hB : Blk w g 50 cur := hh
  exact .inr ⟨g, c, cur, rfl, hb, (hf.block g hB.lt (.inr (.inr ⟨hB.lt, cur, hB⟩))).trans hh, rest⟩
end
structure Steps (W : World) (B : Nat) (l : List S57) (stepF : Kst → S57 → Kst) (Inv : Nat → Kst → Prop) : Prop where
 next : ∀ i K x, l[i]? = some x → Inv i K → Inv (i + 1) (stepF K x) ∧ (stepF K x).ev.length ≤ 1000
 call : ∀ i K x, l[i]? = some x → Inv i K → ∀ (E0 E : Nat) (w : World) (kp : Nat) (A : Ad) (jv : List Value) (ev : Value) (DA : Option Addr) (dc : Nat), Below B W w → KAt E0 w B kp A jv ev (pdOf K) K → B ≤ E → E ≤ w.heap.size → (∀ w', Fr E [97, 50, 142, 140, 148, 131, 186] B w w' → Dem w' DA x.f1) →
  Calls Tryz.prog 31 #[.pointer (some ⟨kp, 0, none⟩), .agg #[.int .u64 x.f0, .slice DA x.f1.length dc, .int .u64 x.f2]] w (SPost E w B kp A (stepF K x))
def runK (stepF : Kst → S57 → Kst) (K : Kst) : List S57 → Kst
 | [] => K
 | x :: l => runK stepF (stepF K x) l
def runE (stepF : Kst → S57 → Kst) (K : Kst) : List S57 → List Ev
 | [] => []
 | x :: l => (stepF K x).ev ++ runE stepF (stepF K x) l
theorem runK_snoc (stepF : Kst → S57 → Kst) (x : S57) : ∀ (l : List S57) (K : Kst), runK stepF K (l ++ [x]) = stepF (runK stepF K l) x
 | [], _ => rfl
 | _ :: l, _ => runK_snoc stepF x l _
theorem runE_snoc (stepF : Kst → S57 → Kst) (x : S57) : ∀ (l : List S57) (K : Kst), runE stepF K (l ++ [x]) = runE stepF K l ++ (stepF (runK stepF K l) x).ev
 | [], K => by simp [runE, runK]
 | y :: l, K => by
  simp only [List.cons_append, runE, runK, List.append_assoc]
  rw [runE_snoc stepF x l]
end Go.Proofs.YtdgfjpbjiccllaaGreatDoor
namespace Go.Proofs.YtdgfjpbjiccllaaGreatDoor
open Go.RowKit
open YtdgfjpbjiccllaaGreatDoorW.PrintWords YtdgfjpbjiccllaaGreatDoorW.PrintLast YtdgfjpbjiccllaaGreatDoorW.PrintMore
open PTopLoads
set_option maxRecDepth 100000
theorem nums_of {w : World} {A : Option Addr} {xs : List Int} (h : (Kd.int .i64).C w A xs.length xs) : Nums w A xs := by
 rcases Nat.eq_zero_or_pos xs.length with h0 | h0
 ·exact .inl (List.length_eq_zero_iff.1 h0)
 ·obtain ⟨⟨b, off, spot⟩, rfl, hc⟩ := h.2.2 h0
  have g : ∀ i (hi : i < xs.length), w.cell? ((⟨b, off, spot⟩ : Addr).add i) = some (.int .i64 xs[i]) := fun i hi => by
   obtain ⟨c, _, hK, hu⟩ := hc i xs[i] (List.getElem?_eq_getElem hi)
   have hK' : c = [.int .i64 xs[i]] := hK
   subst hK'
   have := hu 0 _ rfl
   rwa [show i * (Kd.int .i64).sz + 0 = i from by simp [Kd.int, Kd.scalar]] at this
  have hspot : spot = none := by simpa [Addr.add] using World.cell?_spot (g 0 h0)
  subst hspot
  refine .inr ⟨b, off, rfl, wbl w _ (g 0 h0), fun i hi => ?_⟩
  rw [← add_none]
  exact g i hi
theorem dem_of {w : World} {A : Option Addr} {D : List (List Int)} (h : Kd.C (Kd.slice 2 (Kd.int .i64)) w A D.length D) : Dem w A D := by
 rcases Nat.eq_zero_or_pos D.length with h0 | h0
 ·exact .inl (List.length_eq_zero_iff.1 h0)
 ·have g : ∀ i (hi : i < D.length), ∃ ad A0 c0, A = some ad ∧ w.cell? (ad.add i) = some (.slice A0 D[i].length c0) ∧ Nums w A0 D[i] := fun i hi => by
   obtain ⟨ad, A0, c0, hA, hcell, _, hC⟩ := at_L2 h (i : Int) (by omega) (by omega)
   have er : rd_L2 D i = D[i] := by simp [rd_L2, List.getD_eq_getElem?_getD, hi]
   rw [er] at hcell hC
   exact ⟨ad, A0, c0, hA, hcell, nums_of hC⟩
  obtain ⟨⟨b, off, spot⟩, A0, c0, rfl, hcell, _⟩ := g 0 h0
  have hspot : spot = none := by simpa [Addr.add] using World.cell?_spot hcell
  subst hspot
  refine .inr ⟨b, off, rfl, fun i hi => ?_⟩
  obtain ⟨ad, A0, c0, hA, hcell, hN⟩ := g i hi
  injection hA with hA
  subst hA
  exact ⟨A0, c0, by rw [← add_none]; exact hcell, hN⟩
theorem ins_of {w : World} {A : Option Addr} {l : List S57} (h : Kd.C k57 w A l.length l) : InsP (Below w.heap.size w) A l := by
 rcases Nat.eq_zero_or_pos l.length with h0 | h0
 ·exact .inl (List.length_eq_zero_iff.1 h0)
 ·have g : ∀ i (hi : i < l.length), ∃ ad DA dc, A = some ad ∧ w.cell? (ad.add (i * 3)) = some (.int .u64 l[i].f0) ∧ w.cell? ⟨(ad.add (i * 3)).block, (ad.add (i * 3)).off + 1, none⟩ = some (.slice DA l[i].f1.length dc) ∧
    w.cell? ⟨(ad.add (i * 3)).block, (ad.add (i * 3)).off + 2, none⟩ = some (.int .u64 l[i].f2) ∧ (Kd.slice 2 (Kd.int .i64)).C w DA l[i].f1.length l[i].f1 := fun i hi => by
   obtain ⟨ad, DA, dc, hA, c0, c1, c2, _, hC⟩ := at_T57 h (i : Int) (by omega) (by omega)
   have er : rd_T57 l i = l[i] := by simp [rd_T57, List.getD_eq_getElem?_getD, hi]
   rw [er] at c0 c1 c2 hC
   exact ⟨ad, DA, dc, hA, c0, c1, c2, hC⟩
  obtain ⟨⟨b, off, spot⟩, _, _, rfl, hcell, _⟩ := g 0 h0
  have hspot : spot = none := by simpa [Addr.add] using World.cell?_spot hcell
  subst hspot
  have hb : b < w.heap.size := wbl w _ hcell
  refine .inr ⟨b, off, rfl, fun i x hx => ?_⟩
  obtain ⟨hi, rfl⟩ := List.getElem?_eq_some_iff.1 hx
  obtain ⟨ad, DA, dc, hA, c0, c1, c2, hC⟩ := g i hi
  injection hA with hA
  subst hA
  rw [add_none] at c0 c1 c2
  refine ⟨DA, dc, fun w' hb' => ⟨?_, ?_, ?_, dem_of (Kd.C_below hC hb')⟩⟩
  ·exact (hb'.cell (p := ⟨b, off + i * 3, none⟩) hb).trans c0
  ·exact (hb'.cell (p := ⟨b, off + i * 3 + 1, none⟩) hb).trans c1
  ·exact (hb'.cell (p := ⟨b, off + i * 3 + 2, none⟩) hb).trans c2
theorem choose_one (x : S46) (st : S142) (last tick : Int) (hl : last = -1 ∨ last = 0) : Q.choose [x] [st] last tick = if st.f0 then 0 else -1 := by
 have hb : Q.best [x] [st] 1 = if st.f0 then 0 else -1 := by
  rw [Q.best_succ]
  show Q.bestStep [x] [st] (-1) ((0 : Nat) : Int) = _
  unfold Q.bestStep Q.pend
  rcases st with ⟨p, s, m, a⟩
  cases p <;> rfl
 unfold Q.choose
 show (if Q.held [x] [st] last tick then last else Q.best [x] [st] 1) = _
 rw [hb]
 cases hh : Q.held [x] [st] last tick with
 | false => rfl
 | true =>
  obtain ⟨h1, _⟩ := Q.held_pend hh
  rcases hl with rfl | rfl
  ·obtain ⟨h3, _⟩ := Q.pend_in h1
   omega
  ·have : st.f0 = true := h1
   rw [this]
   rfl
structure JI (x : S46) (j : J.Jb) (el : Int) : Prop where
 rs : j.rs = x.f6
 how : j.how = 0
 k : j.k < x.f6.length
 h0 : 0 ≤ j.had
 h1 : j.had < x.f6.getD j.k 0
 al : j.all = el
 e0 : 0 ≤ el
 e1 : el ≤ (x.f6.take j.k).sum + j.had
structure TaskB (x : S46) : Prop where
 n1 : 1 ≤ x.f6.length
 n8 : x.f6.length ≤ 8
 r : ∀ i (h : i < x.f6.length), 1 ≤ x.f6[i] ∧ x.f6[i] ≤ 10000
 wd : x.f6.sum ≤ x.f2
 d : x.f2 ≤ 10000
 s7 : 0 ≤ x.f7 ∧ x.f7 < 18446744073709551616
 s8 : 0 ≤ x.f8 ∧ x.f8 < 18446744073709551616
theorem take_at {x : S46} {k : Nat} (h : k < x.f6.length) : (x.f6.take (k + 1)).sum = (x.f6.take k).sum + x.f6.getD k 0 := by
 rw [List.take_succ_eq_append_getElem h, List.sum_append]
 simp [List.getD_eq_getElem?_getD, h]
theorem take_le {x : S46} (hx : TaskB x) (k d : Nat) : (x.f6.take k).sum ≤ (x.f6.take (k + d)).sum := by
 induction d with
 | zero => exact Int.le_refl _
 | succ d ih =>
  by_cases h : k + d < x.f6.length
  ·have e := take_at (x := x) (k := k + d) h
   have := (hx.r (k + d) h).1
   have g : x.f6.getD (k + d) 0 = x.f6[k + d] := by simp [List.getD_eq_getElem?_getD, h]
   rw [show k + (d + 1) = k + d + 1 from rfl, e, g]
   omega
  ·have e : x.f6.take (k + (d + 1)) = x.f6.take (k + d) := by rw [List.take_of_length_le (by omega), List.take_of_length_le (by omega)]
   rw [e]
   exact ih
theorem take_all {x : S46} (hx : TaskB x) (k : Nat) (h : k ≤ x.f6.length) : (x.f6.take k).sum ≤ x.f6.sum := by
 have := take_le hx k (x.f6.length - k)
 rwa [show k + (x.f6.length - k) = x.f6.length from by omega, List.take_length] at this
theorem JI.lt {x : S46} {j : J.Jb} {el : Int} (hx : TaskB x) (h : JI x j el) : el < x.f6.sum := by
 have e := take_at h.k
 have := take_all hx (j.k + 1) h.k
 have := h.h1
 have := h.e1
 omega
theorem tick_JI {x : S46} {j : J.Jb} {el : Int} (hx : TaskB x) (h : JI x j el) :
  (((J.tick j).2.2 = 0 ∨ (J.tick j).2.2 = 1) ∧ JI x (J.tick j).1 (el + 1)) ∨ (((J.tick j).2.2 = 2 ∨ (J.tick j).2.2 = 3) ∧ el + 1 ≤ x.f6.sum) := by
 have hlt := h.lt hx
 have hk := h.k
 have hs := take_at h.k
 have h0 := h.h0
 have h1 := h.h1
 have e1 := h.e1
 have e0 := h.e0
 unfold J.tick
 rw [if_neg (by rw [h.how]; simp)]
 split
 ·split
  ·exact .inr ⟨.inl rfl, by omega⟩
  ·rename_i hn
   have hn' : j.k + 1 < x.f6.length := by rw [h.rs] at hn; omega
   have hg : x.f6.getD (j.k + 1) 0 = x.f6[j.k + 1] := by simp [List.getD_eq_getElem?_getD, hn']
   have := (hx.r _ hn').1
   exact .inl ⟨.inr rfl, h.rs, rfl, hn', Int.le_refl _, by rw [hg]; simp only; omega, by simp only; rw [h.al], by omega, by simp only; rw [hs]; omega⟩
 ·split
  ·exact .inr ⟨.inr rfl, by omega⟩
  ·rename_i hn
   rw [h.rs] at hn
   exact .inl ⟨.inl rfl, h.rs, rfl, hk, by simp only; omega, by simp only; omega, by simp only; rw [h.al], by omega, by simp only; omega⟩
theorem jb0_JI {x : S46} (hx : TaskB x) (dm : List Int) : JI x (J.jb0 x.f6 dm) 0 := by
 have h1 : 0 < x.f6.length := hx.n1
 have hg : x.f6.getD 0 0 = x.f6[0] := by simp [List.getD_eq_getElem?_getD, h1]
 exact ⟨rfl, rfl, h1, Int.le_refl _, by simp only [J.jb0]; rw [hg]; have := (hx.r 0 h1).1; omega, rfl, Int.le_refl _, by simp [J.jb0]⟩
theorem JI.ok {x : S46} {j : J.Jb} {el : Int} (hx : TaskB x) (h : JI x j el) : JobOk j := by
 have hlt := h.lt hx
 have := hx.wd
 have := hx.d
 have hg : x.f6.getD j.k 0 = x.f6[j.k]'h.k := by simp [List.getD_eq_getElem?_getD, h.k]
 have := (hx.r _ h.k).2
 have := h.h1
 exact ⟨fun _ => by rw [h.rs]; exact h.k, by rw [h.rs]; exact hx.n8, h.h0, by rw [hg] at this; omega, by rw [h.al]; exact h.e0, by rw [h.al]; omega⟩
def EvG (W : Int) (e : Ev) : Prop := e.kind ≠ 3 ∧ e.kind ≠ 5 ∧ (e.kind = 8 ∨ e.kind = 9 → e.n ≤ W)
theorem evg1 {W : Int} {a : Ev} (h : EvG W a) : ∀ e ∈ [a], EvG W e := by simpa using h
structure One (x : S46) (st : T.St) (K : Kst) : Prop where
 tk : K.tk = [x]
 t0 : 0 ≤ K.tick
 last : K.last = -1 ∨ K.last = 0
 pol : K.pol.length = 1 ∧ P.OkL K.pol
 loads : K.loads = [0]
 jl : K.job.length = 1
 tab : K.tab = [st]
 a0 : 0 ≤ st.a
 a1 : st.a ≤ K.tick
 pd : st.p = true → (st.s = true → K.last = 0) ∧ JI x (K.job1 0) (K.tick - st.a)
 ev : ∀ e ∈ K.ev, EvG x.f6.sum e
section
variable {x : S46} {st : T.St} {K : Kst}
theorem One.plus (h : One x st K) (l : List Ev) (hl : ∀ e ∈ l, EvG x.f6.sum e) : One x st (K.plus l) :=
 ⟨h.tk, h.t0, h.last, h.pol, h.loads, h.jl, h.tab, h.a0, h.a1, h.pd, fun e he => by
  rcases List.mem_append.1 he with he | he
  ·exact h.ev e he
  ·exact hl e he⟩
theorem One.kok (h : One x st K) (hx : TaskB x) (h1 : K.tick ≤ 1099511627776) : KOk K := by
 have htk := h.tk
 have htab := h.tab
 refine ⟨h.t0, h1, fun y hy => ?_, fun y hy => ?_, fun y hy => ?_, h.pol.2, fun y hy => ?_⟩
 ·rw [htk] at hy
  obtain rfl : y = x := by simpa using hy
  refine ⟨hx.n1, hx.n8, ?_⟩
  rw [List.any_eq_false]
  intro z hz
  obtain ⟨i, hi, rfl⟩ := List.getElem_of_mem hz
  have := hx.r i hi
  simp [J.odd]
  omega
 ·rw [htk] at hy
  obtain rfl : y = x := by simpa using hy
  have := take_all hx 0 (Nat.zero_le _)
  have := hx.wd
  have := hx.d
  simp at *
  omega
 ·rw [htab] at hy
  obtain rfl : y = st := by simpa using hy
  exact ⟨h.a0, h.a1⟩
 ·rw [htk] at hy
  obtain rfl : y = x := by simpa using hy
  exact ⟨hx.s7.1, hx.s7.2, hx.s8.1, hx.s8.2⟩
theorem note_len (L : List P.Wt) (i t : Int) : (P.noteL L i t).length = L.length := by
 unfold P.noteL
 split
 ·simp [P.noteAt]
 ·rfl
theorem one_arrive (hx : TaskB x) (h : One x st K) (h1 : K.tick ≤ 1099511627776) (D : List (List Int)) (i : Nat) : ∃ st', One x st' (arriveK D K i) := by
 have hok := ((h.kok hx h1).arrive D i).pol
 revert hok
 unfold arriveK
 split
 ·exact fun _ => ⟨st, h⟩
 ·rename_i hi
  rw [h.tk] at hi
  obtain rfl : i = 0 := by simp at hi; omega
  split
  ·exact fun _ => ⟨st, h.plus _ (evg1 (by simp [EvG]))⟩
  ·split
   ·rename_i _ hp
    intro hok
    have hj0 : 0 < K.job.length := by rw [h.jl]; exact Nat.zero_lt_one
    have e1 : T.putL K.tab (0 : Nat) K.tick = [⟨true, false, false, K.tick⟩] := by
     unfold T.putL
     rw [if_pos hp, h.tab]
     rfl
    refine ⟨⟨true, false, false, K.tick⟩, h.tk, h.t0, h.last, ⟨(note_len _ _ _).trans h.pol.1, hok⟩, ?_, ?_, e1, h.t0, Int.le_refl _, fun _ => ⟨fun h => by simp at h, ?_⟩, ?_⟩
    ·simp [admitK, h.loads]
    ·simp [admitK, h.jl]
    ·have e2 : (admitK K (D.getD 0 []) 0).job1 0 = J.jb0 x.f6 (D.getD 0 []) := by
      simp [admitK, Kst.job1, List.getD_eq_getElem?_getD, hj0, h.tk]
     rw [e2, show (admitK K (D.getD 0 []) 0).tick - K.tick = 0 from by simp [admitK]]
     exact jb0_JI hx _
    ·intro e he
     rcases List.mem_append.1 he with he | he
     ·exact h.ev e he
     ·exact evg1 (by simp [EvG]) e he
   ·exact fun _ => ⟨st, h.plus _ (evg1 (by simp [EvG]))⟩
theorem one_fold (hx : TaskB x) (D : List (List Int)) : ∀ (l : List Nat) {K : Kst} {st : T.St}, One x st K → K.tick ≤ 1099511627776 → ∃ st', One x st' (l.foldl (arriveK D) K)
 | [], _, st, h, _ => ⟨st, h⟩
 | i :: l, K, st, h, h1 => by
  obtain ⟨st', h'⟩ := one_arrive hx h h1 D i
  exact one_fold hx D l h' (by rw [(arriveK_tk D K i).2.1]; exact h1)
theorem one_late (hx : TaskB x) (h : One x st K) : lateL K K.tk.length = [] := by
 rw [h.tk]
 show lateL K 1 = []
 rw [lateL_succ]
 have e0 : lateL K 0 = [] := rfl
 rw [e0, List.nil_append]
 unfold lateAt
 rw [h.tab, h.tk]
 have e1 : T.getL [st] ((0 : Nat) : Int) = st := rfl
 rw [e1]
 split
 ·rename_i hc
  simp at hc
  have := (h.pd hc.1).2.lt hx
  have := hx.wd
  omega
 ·rfl
theorem one_came (hx : TaskB x) (h : One x st K) (h1 : K.tick ≤ 1099511627776) (D : List (List Int)) (arr : Nat) : ∃ st', One x st' (cameK K D arr) := by
 have h0 : One x st { K with ev := [] } := ⟨h.tk, h.t0, h.last, h.pol, h.loads, h.jl, h.tab, h.a0, h.a1, h.pd, fun e he => by simp at he⟩
 have hl := one_late hx h0
 unfold cameK
 rw [hl, Kst.plus_nil]
 exact one_fold hx D _ h0 h1
def whoOne (K2 : Kst) : Int := if pdOf K2 0 then 0 else -1
theorem one_choose (h : One x st K) : Q.choose K.tk (K.tab.map s142) K.last K.tick = whoOne K := by
 rw [h.tk, h.tab]
 show Q.choose [x] [s142 st] K.last K.tick = _
 rw [choose_one _ _ _ _ h.last]
 unfold whoOne pdOf
 rw [h.tab]
 rfl
theorem one_fit (hx : TaskB x) (h : One x st K) : whoOne K = -1 ∨ ∃ i : Nat, whoOne K = i ∧ Fit K i := by
 unfold whoOne
 have e : pdOf K 0 = st.p := by unfold pdOf; rw [h.tab]; rfl
 cases hp : pdOf K 0 with
 | false => exact .inl rfl
 | true =>
  refine .inr ⟨0, rfl, ?_⟩
  rw [e] at hp
  have hpd := h.pd hp
  have hst : T.stateL K.tab ((0 : Nat) : Int) = st := by
   rw [h.tab]
   unfold T.stateL
   rw [show T.hasL [st] ((0 : Nat) : Int) = st.p from by simp [T.hasL], hp]
   rfl
  refine ⟨by rw [h.tk]; exact Nat.zero_lt_one, by rw [e, hp], ?_, ?_, hpd.2.ok hx, by rw [h.loads]; simp, by rw [h.loads]; simp⟩
  ·rcases h.last with hl | hl
   ·right
    rw [hl]
    unfold T.stateL
    rw [T.hasL_neg (by omega)]
    rfl
   ·exact .inl hl
  ·rw [hst]
   cases hs : st.s with
   | false => exact .inl rfl
   | true => exact .inr (hpd.1 hs)
theorem drop_one {st : T.St} (hp : st.p = true) : T.dropL [st] ((0 : Nat) : Int) = [⟨false, false, false, 0⟩] := by
 unfold T.dropL
 rw [show T.hasL [st] ((0 : Nat) : Int) = st.p from by simp [T.hasL], hp]
 rfl
theorem mid_one {st : T.St} (hp : st.p = true) (b : Bool) : T.midL [st] ((0 : Nat) : Int) b = [⟨true, st.s, b, st.a⟩] := by
 unfold T.midL
 rw [show T.hasL [st] ((0 : Nat) : Int) = st.p from by simp [T.hasL], if_pos hp]
 rw [show T.getL [st] ((0 : Nat) : Int) = st from rfl, hp]
 rfl
theorem begin_one {st : T.St} (hp : st.p = true) : T.beginL [st] ((0 : Nat) : Int) = [⟨true, true, st.m, st.a⟩] := by
 unfold T.beginL
 rw [show T.hasL [st] ((0 : Nat) : Int) = st.p from by simp [T.hasL], if_pos hp]
 rw [show T.getL [st] ((0 : Nat) : Int) = st from rfl, hp]
 rfl
theorem state_one {st : T.St} (hp : st.p = true) : T.stateL [st] ((0 : Nat) : Int) = st := by
 unfold T.stateL
 rw [show T.hasL [st] ((0 : Nat) : Int) = st.p from by simp [T.hasL], if_pos hp]
 rfl
theorem ev_app {W : Int} {L M : List Ev} (h : ∀ e ∈ L, EvG W e) (h' : ∀ e ∈ M, EvG W e) : ∀ e ∈ L ++ M, EvG W e := by
 intro e he
 rcases List.mem_append.1 he with he | he
 ·exact h e he
 ·exact h' e he
theorem end_how {W : Int} {K3 : Kst} {how r : Int} (h : ∀ e ∈ K3.ev, EvG W e) : ∀ e ∈ (if how = 1 ∨ how = 2 then K3.plus [⟨K3.tick, 7, ((0 : Nat) : Int), r⟩] else K3).ev, EvG W e := by
 split
 ·exact ev_app h (evg1 (by simp [EvG]))
 ·exact h
theorem one_runs (hx : TaskB x) (htk : K.tk = [x]) (t0 : 0 ≤ K.tick) (hpol : K.pol.length = 1 ∧ P.OkL K.pol) (hloads : K.loads = [0]) (hjl : K.job.length = 1) (htab : K.tab = [st]) (hp : st.p = true) (hs : st.s = true) (a0 : 0 ≤ st.a) (a1 : st.a ≤ K.tick)
  (hj : JI x (K.job1 0) (K.tick - st.a)) (hev : ∀ e ∈ K.ev, EvG x.f6.sum e) (touch : Nat) : ∃ st', One x st' (nextK (runsK K 0 touch) 0) ∧ (st'.p = true → st'.s = true) := by
 have hj0 : 0 < K.job.length := by omega
 unfold runsK
 simp only
 rw [if_neg (by rw [hloads]; simp), htab, mid_one hp]
 generalize htt : (J.tick (K.job1 0)) = tt
 have hti := tick_JI hx hj
 rw [htt] at hti
 obtain ⟨j, r, how⟩ := tt
 simp only at hti ⊢
 unfold endK
 simp only
 rcases hti with ⟨hh, hji⟩ | ⟨hh, hle⟩
 ·rw [if_neg (by omega : ¬ how = 2), if_neg (by omega : ¬ how = 3)]
  refine ⟨⟨true, st.s, decide (0 < j.had), st.a⟩, ?_, fun _ => hs⟩
  have e : ∀ K3 : Kst, (if how = 1 ∨ how = 2 then K3.plus [⟨K3.tick, 7, ((0 : Nat) : Int), r⟩] else K3) = { K3 with ev := (if how = 1 ∨ how = 2 then K3.plus [⟨K3.tick, 7, ((0 : Nat) : Int), r⟩] else K3).ev } := by
   intro K3
   split <;> rfl
  rw [e]
  refine ⟨htk, by simp only [nextK]; omega, .inr rfl, hpol, hloads, by simp [nextK, hjl], rfl, a0, by simp only [nextK]; omega, fun _ => ⟨fun _ => rfl, ?_⟩, ?_⟩
  ·have e1 : K.tick + 1 - st.a = K.tick - st.a + 1 := by omega
   simp only [nextK, Kst.job1, e1]
   rw [show (K.job.set 0 j).getD 0 ⟨[], [], 0, 0, 0, 0⟩ = j from by simp [List.getD_eq_getElem?_getD, hj0]]
   exact hji
  ·exact end_how hev
 ·refine ⟨⟨false, false, false, 0⟩, ?_, fun h => by simp at h⟩
  have ht : K.tick + 1 - (T.stateL [(⟨true, st.s, decide (0 < j.had), st.a⟩ : T.St)] ((0 : Nat) : Int)).a ≤ x.f6.sum := by
   rw [state_one rfl]
   simp only
   omega
  have hE : ∀ (kd : Int), kd ≠ 3 → kd ≠ 5 → ∀ K3 : Kst, (∀ e ∈ K3.ev, EvG x.f6.sum e) → ∀ e ∈ (K3.plus [⟨K.tick, kd, ((0 : Nat) : Int), K.tick + 1 - (T.stateL [(⟨true, st.s, decide (0 < j.had), st.a⟩ : T.St)] ((0 : Nat) : Int)).a⟩]).ev, EvG x.f6.sum e := by
   intro kd h3 h5 K3 h
   exact ev_app h (evg1 ⟨h3, h5, fun _ => ht⟩)
  rcases hh with rfl | rfl
  ·rw [if_pos (show (2 : Int) = 1 ∨ (2 : Int) = 2 from .inr rfl), if_pos (rfl : (2 : Int) = 2)]
   exact ⟨htk, by simp only [nextK, Kst.plus]; omega, .inr rfl, hpol, hloads, by simp [nextK, Kst.plus, hjl], drop_one (st := ⟨true, st.s, decide (0 < j.had), st.a⟩) rfl, Int.le_refl _, by simp only [nextK, Kst.plus]; omega, fun h => by simp at h, hE 8 (by decide) (by decide) _ (ev_app hev (evg1 (by simp [EvG])))⟩
  ·rw [if_neg (show ¬ ((3 : Int) = 1 ∨ (3 : Int) = 2) by decide), if_neg (show ¬ (3 : Int) = 2 by decide), if_pos (rfl : (3 : Int) = 3)]
   exact ⟨htk, by simp only [nextK, Kst.plus]; omega, .inr rfl, hpol, hloads, by simp [nextK, Kst.plus, hjl], drop_one (st := ⟨true, st.s, decide (0 < j.had), st.a⟩) rfl, Int.le_refl _, by simp only [nextK, Kst.plus]; omega, fun h => by simp at h, hE 9 (by decide) (by decide) _ hev⟩
theorem one_ran (hx : TaskB x) (h : One x st K) (touch : Nat) : ∃ st', One x st' (nextK (ranK K (whoOne K) touch) (whoOne K)) ∧ (st'.p = true → st'.s = true) := by
 have e : pdOf K 0 = st.p := by unfold pdOf; rw [h.tab]; rfl
 unfold whoOne
 cases hp : pdOf K 0 with
 | false =>
  rw [e] at hp
  rw [if_neg (by simp)]
  unfold ranK
  rw [if_pos rfl]
  have ht := h.t0
  have ha := h.a1
  have h2 := h.plus [⟨K.tick, 10, -1, 0⟩] (evg1 (by simp [EvG]))
  refine ⟨st, ⟨h2.tk, by simp only [nextK, Kst.plus]; omega, .inl rfl, h2.pol, h2.loads, h2.jl, h2.tab, h2.a0, by simp only [nextK, Kst.plus]; omega, fun h => by rw [hp] at h; simp at h, h2.ev⟩, fun h => by rw [hp] at h; simp at h⟩
 | true =>
  rw [e] at hp
  rw [if_pos rfl]
  unfold ranK
  rw [if_neg (by decide)]
  have hpd := h.pd hp
  show ∃ st', One x st' (nextK (runsK (turnsA K 0) 0 touch) 0) ∧ _
  cases hs : st.s with
  | true =>
   have e2 : turnsA K 0 = K := by
    unfold turnsA
    rw [h.tab, state_one hp, hs]
    rfl
   rw [e2]
   exact one_runs hx h.tk h.t0 h.pol h.loads h.jl h.tab hp hs h.a0 h.a1 hpd.2 h.ev touch
  | false =>
   have e2 : turnsA K 0 = { K.plus [⟨K.tick, 4, ((0 : Nat) : Int), 0⟩] with tab := [⟨true, true, st.m, st.a⟩] } := by
    unfold turnsA
    rw [h.tab, state_one hp, hs, begin_one hp]
    rfl
   rw [e2]
   exact one_runs (K := { K.plus [⟨K.tick, 4, ((0 : Nat) : Int), 0⟩] with tab := [⟨true, true, st.m, st.a⟩] }) (st := ⟨true, true, st.m, st.a⟩) hx h.tk h.t0 h.pol h.loads h.jl rfl rfl rfl h.a0 h.a1 hpd.2 (ev_app h.ev (evg1 (by simp [EvG]))) touch
end
def oneF (K : Kst) (i : S57) : Kst := nextK (ranK (cameK K i.f1 i.f0.toNat) (whoOne (cameK K i.f1 i.f0.toNat)) i.f2.toNat) (whoOne (cameK K i.f1 i.f0.toNat))
structure InB (i : S57) : Prop where
 a : 0 ≤ i.f0 ∧ i.f0 < 18446744073709551616
 t : 0 ≤ i.f2 ∧ i.f2 < 18446744073709551616
 d : i.f1.length ≤ 20
structure InvO (x : S46) (i : Nat) (K : Kst) : Prop where
 one : ∃ st, One x st K ∧ (st.p = true → st.s = true)
 tick : K.tick = i
theorem run_len (K : Kst) (i touch : Nat) : (runsK K i touch).ev.length ≤ K.ev.length + 2 := by
 unfold runsK
 simp only
 split
 ·simp only; omega
 ·unfold endK
  simp only
  split <;> split <;> (try split) <;> simp only [Kst.plus, List.length_append, List.length_cons, List.length_nil] <;> omega
theorem one_next {x : S46} (hx : TaskB x) {i : Nat} {K : Kst} (h : InvO x i K) (hi : i ≤ 1000) (u : S57) : InvO x (i + 1) (oneF K u) ∧ (oneF K u).ev.length ≤ 1000 := by
 obtain ⟨st, h1, h2⟩ := h.one
 have ht := h.tick
 obtain ⟨st2, hc⟩ := one_came hx h1 (by omega) u.f1 u.f0.toNat
 obtain ⟨st3, h3, h4⟩ := one_ran hx hc u.f2.toNat
 have htk : (cameK K u.f1 u.f0.toNat).tick = K.tick := (fold_tk u.f1 _ _).2.1
 have hl : (cameK K u.f1 u.f0.toNat).ev.length ≤ 65 := by
  have h0 : One x st { K with ev := [] } := ⟨h1.tk, h1.t0, h1.last, h1.pol, h1.loads, h1.jl, h1.tab, h1.a0, h1.a1, h1.pd, fun e he => by simp at he⟩
  have := fold_len u.f1 (bitsL u.f0.toNat) (({ K with ev := [] } : Kst).plus (lateL { K with ev := [] } K.tk.length))
  have h64 : (bitsL u.f0.toNat).length ≤ 64 := bitsF_len 64 _
  have e := one_late hx h0
  unfold cameK
  rw [e, Kst.plus_nil] at this ⊢
  simp only [List.length_nil] at this
  omega
 refine ⟨⟨⟨st3, h3, h4⟩, ?_⟩, ?_⟩
 ·unfold oneF nextK ranK
  simp only
  split
  ·simp only [Kst.plus]; rw [htk, ht]; omega
  ·rw [runs_tick, (turns_tk _ _).2.2.1, htk, ht]; omega
 ·unfold oneF nextK ranK
  simp only
  split
  ·simp only [Kst.plus, List.length_append, List.length_cons, List.length_nil]; omega
  ·have a := run_len (turnsA (cameK K u.f1 u.f0.toNat) (whoOne (cameK K u.f1 u.f0.toNat)).toNat) (whoOne (cameK K u.f1 u.f0.toNat)).toNat u.f2.toNat
   have b := (turns_tk (cameK K u.f1 u.f0.toNat) (whoOne (cameK K u.f1 u.f0.toNat)).toNat).2.2.2
   omega
theorem one_steps {x : S46} (hx : TaskB x) {W : World} {B : Nat} {l : List S57} (hl : l.length ≤ 1000) (hin : ∀ u ∈ l, InB u) (hBW : B ≤ W.heap.size) (hB0 : 0 < B) (hT : DeB W) : Steps W B l oneF (InvO x) := by
 refine ⟨fun i K u hu h => one_next hx h ?_ u, fun i K u hu h E0 E w kp A jv ev DA dc hb hk hBE hEw hD => ?_⟩
 ·have := (List.getElem?_eq_some_iff.1 hu).1
  omega
 ·have hil := (List.getElem?_eq_some_iff.1 hu).1
  obtain ⟨st, h1, _⟩ := h.one
  have ht := h.tick
  have hub := hin u (List.mem_of_getElem? hu)
  obtain ⟨st2, hc⟩ := one_came hx h1 (by omega) u.f1 u.f0.toNat
  have ea : ((u.f0.toNat : Nat) : Int) = u.f0 := Int.toNat_of_nonneg hub.a.1
  have et : ((u.f2.toNat : Nat) : Int) = u.f2 := Int.toNat_of_nonneg hub.t.1
  have := step_post (E := E) (D := u.f1) (dc := dc) u.f0.toNat u.f2.toNat (by have := hub.a.2; omega) (by have := hub.t.2; omega) hb hBW hB0 hT hD hub.d hk hBE hEw (h1.kok hx (by omega)) (by omega) (whoOne (cameK K u.f1 u.f0.toNat)) (one_choose hc) (one_fit hx hc)
  rw [ea, et] at this
  exact this
theorem one_begin {x : S46} (rel : Int) (z : Int) : InvO x 0 ⟨rel, [x], 0, -1, [P.mkW z], List.replicate 64 0, T.zeros 1, zs 1, zs 1, List.replicate 1 ⟨[], [], 0, 0, 0, 0⟩, []⟩ := by
 refine ⟨⟨⟨false, false, false, 0⟩, ⟨rfl, Int.le_refl _, .inl rfl, ⟨rfl, ?_⟩, rfl, rfl, rfl, Int.le_refl _, Int.le_refl _, fun h => by simp at h, fun e he => by simp at he⟩, fun h => by simp at h⟩, rfl⟩
 intro y hy
 obtain rfl : y = P.mkW z := by simpa using hy
 exact ⟨Int.le_refl _, by simp [P.mkW]⟩
end Go.Proofs.YtdgfjpbjiccllaaGreatDoor
namespace Go.Proofs.YtdgfjpbjiccllaaGreatDoor.V
open Go.RowKit
open YtdgfjpbjiccllaaGreatDoorW.PrintWords YtdgfjpbjiccllaaGreatDoorW.PrintLast YtdgfjpbjiccllaaGreatDoorW.PrintMore
open PTopLoads
set_option maxRecDepth 100000
theorem getL_out {L : List T.St} {i : Nat} (h : L.length ≤ i) : T.getL L (i : Int) = ⟨false, false, false, 0⟩ := by
 simp [T.getL, h]
theorem has_get (L : List T.St) (i : Nat) : T.hasL L (i : Int) = (T.getL L (i : Int)).p := by
 by_cases h : i < L.length
 ·rw [T.hasL_in h, T.getL_in h]
 ·rw [T.hasL_ge (by omega), getL_out (by omega)]
theorem state_s (L : List T.St) (i : Nat) : (T.stateL L (i : Int)).s = ((T.getL L (i : Int)).p && (T.getL L (i : Int)).s) := by
 unfold T.stateL
 rw [has_get]
 cases (T.getL L (i : Int)).p <;> simp
theorem set_get {L : List T.St} {i : Nat} {x : T.St} (h : i < L.length) (k : Nat) : T.getL (L.set i x) (k : Int) = if k = i then x else T.getL L (k : Int) := getL_set h
theorem get_put {L : List T.St} {i : Nat} {t : Int} (h : i < L.length) (hp : T.putOk L (i : Int) = true) (k : Nat) : T.getL (T.putL L (i : Int) t) (k : Int) = if k = i then ⟨true, false, false, t⟩ else T.getL L (k : Int) := by
 unfold T.putL
 rw [if_pos hp, Int.toNat_natCast]
 exact set_get h k
theorem put_free {L : List T.St} {i : Nat} (hp : T.putOk L (i : Int) = true) : (T.getL L (i : Int)).p = false := by
 unfold T.putOk at hp
 rw [← has_get]
 rw [Bool.and_eq_true] at hp
 simpa using hp.2
theorem lt_of_p {L : List T.St} {i : Nat} (h : (T.getL L (i : Int)).p = true) : i < L.length := by
 apply Nat.lt_of_not_le
 intro hl
 rw [getL_out hl] at h
 cases h
theorem get_begin {L : List T.St} {i : Nat} (hp : (T.getL L (i : Int)).p = true) (k : Nat) : T.getL (T.beginL L (i : Int)) (k : Int) = if k = i then ⟨true, true, (T.getL L (i : Int)).m, (T.getL L (i : Int)).a⟩ else T.getL L (k : Int) := by
 unfold T.beginL
 rw [if_pos (by rw [has_get]; exact hp), Int.toNat_natCast, set_get (lt_of_p hp), hp]
theorem get_mid {L : List T.St} {i : Nat} {b : Bool} (hp : (T.getL L (i : Int)).p = true) (k : Nat) : T.getL (T.midL L (i : Int) b) (k : Int) = if k = i then ⟨true, (T.getL L (i : Int)).s, b, (T.getL L (i : Int)).a⟩ else T.getL L (k : Int) := by
 unfold T.midL
 rw [if_pos (by rw [has_get]; exact hp), Int.toNat_natCast, set_get (lt_of_p hp), hp]
theorem get_drop {L : List T.St} {i : Nat} (hp : (T.getL L (i : Int)).p = true) (k : Nat) : T.getL (T.dropL L (i : Int)) (k : Int) = if k = i then ⟨false, false, false, 0⟩ else T.getL L (k : Int) := by
 unfold T.dropL
 rw [if_pos (by rw [has_get]; exact hp), Int.toNat_natCast, set_get (lt_of_p hp)]
theorem touch_get (t : Int) : ∀ (l : List Nat) (L : List Int) (c : Nat), c < L.length → (touchL t l L).getD c 0 = if c ∈ l then t + 1 else L.getD c 0
 | [], L, c, _ => by simp [touchL]
 | i :: l, L, c, hc => by
  have ih := touch_get t l (L.set i (t + 1)) c (by rw [List.length_set]; exact hc)
  show (touchL t l (L.set i (t + 1))).getD c 0 = _
  rw [ih]
  by_cases h1 : c ∈ l
  ·rw [if_pos h1, if_pos (List.mem_cons_of_mem _ h1)]
  ·rw [if_neg h1]
   by_cases h2 : c = i
   ·subst h2
    rw [if_pos (List.mem_cons_self ..)]
    simp [List.getD_eq_getElem?_getD, hc]
   ·rw [if_neg (by simp [h1, h2])]
    simp [List.getD_eq_getElem?_getD, Ne.symm h2]
def vw (K : Kst) : Vw := ⟨pdOf K, fun y => (T.stateL K.tab (y : Int)).s, fun c => K.cache.getD c 0, fun x => (K.had.getD x 0).toNat⟩
theorem vw_s (K : Kst) (y : Nat) : (vw K).s y = ((T.getL K.tab (y : Int)).p && (T.getL K.tab (y : Int)).s) := state_s K.tab y
theorem vw_p (K : Kst) (y : Nat) : (vw K).p y = (T.getL K.tab (y : Int)).p := rfl
structure Tks (X : List S46) (rel : Int) : Prop where
 b : ∀ x ∈ X, TaskB x
 th : Th X
 sub : ∀ y, y < X.length → (ucb X y) &&& (ecb X y) = ucb X y
 n1 : 1 ≤ X.length
 n8 : X.length ≤ 8
 r0 : 0 ≤ rel
 r1 : rel ≤ 10000
theorem Tks.u64 {X : List S46} {rel : Int} (h : Tks X rel) : U64 X := fun x hx => ⟨(h.b x hx).s7, (h.b x hx).s8⟩
structure Bs (X : List S46) (rel : Int) (K : Kst) : Prop where
 tk : K.tk = X
 re : K.reload = rel
 t0 : 0 ≤ K.tick
 pol : P.OkL K.pol
 lt : K.tab.length = X.length
 lh : K.had.length = X.length
 ll : K.loads.length = X.length
 lj : K.job.length = X.length
 lc : K.cache.length = 64
 ar : ∀ x ∈ K.tab, 0 ≤ x.a ∧ x.a ≤ K.tick
 job : ∀ i, i < X.length → pdOf K i = true → ∃ el, JI (X.getD i z46) (K.job1 i) el
 lo : ∀ i, 0 ≤ K.loads.getD i 0 ∧ K.loads.getD i 0 ≤ 1000000
 hb : ∀ i, 0 ≤ K.had.getD i 0 ∧ K.had.getD i 0 < 18446744073709551616
def evR (e : Ev) : Int := if e.kind = 6 then e.n else 0
def evA (X : List S46) (rel : Int) (e : Ev) : Int := if e.kind = 1 then rel * (cnt (fullN X e.task.toNat) : Int) else 0
def sumR (L : List Ev) : Int := (L.map evR).sum
def sumA (X : List S46) (rel : Int) (L : List Ev) : Int := (L.map (evA X rel)).sum
def EvB (X : List S46) (e : Ev) : Prop := (e.kind = 1 → ∃ j : Nat, j < X.length ∧ e.task = j) ∧ (e.kind = 6 → 0 ≤ e.n ∧ e.n ≤ 640000)
structure Sm (X : List S46) (rel s m : Int) (K : Kst) : Prop where
 pre : ∀ p, p ≤ K.ev.length → s + sumR (K.ev.take p) ≤ m + sumA X rel (K.ev.take p)
 tot : s + sumR K.ev + rel * (Phi X (vw K) : Int) ≤ m + sumA X rel K.ev
 ev : ∀ e ∈ K.ev, EvB X e
section
variable {X : List S46} {rel s m : Int} {K K' : Kst}
theorem mulPhi (hr : 0 ≤ rel) {a b : Nat} (h : a ≤ b) : rel * (a : Int) ≤ rel * (b : Int) := Int.mul_le_mul_of_nonneg_left (by omega) hr
theorem Sm.keep (h : Sm X rel s m K) (hr : 0 ≤ rel) (he : K'.ev = K.ev) (hp : Phi X (vw K') ≤ Phi X (vw K)) : Sm X rel s m K' := by
 refine ⟨by rw [he]; exact h.pre, ?_, by rw [he]; exact h.ev⟩
 have := h.tot
 have := mulPhi hr hp
 rw [he]
 omega
theorem Sm.note (h : Sm X rel s m K) (hr : 0 ≤ rel) (e : Ev) (hb : EvB X e) (he : K'.ev = K.ev ++ [e]) (hp : evR e + rel * (Phi X (vw K') : Int) ≤ evA X rel e + rel * (Phi X (vw K) : Int)) : Sm X rel s m K' := by
 have ht := h.tot
 have e1 : sumR (K.ev ++ [e]) = sumR K.ev + evR e := by simp [sumR]
 have e2 : sumA X rel (K.ev ++ [e]) = sumA X rel K.ev + evA X rel e := by simp [sumA]
 have hn : 0 ≤ rel * (Phi X (vw K') : Int) := Int.mul_nonneg hr (by omega)
 refine ⟨fun p hpl => ?_, ?_, fun d hd => ?_⟩
 rotate_right
 ·rw [he] at hd
  rcases List.mem_append.1 hd with hd | hd
  ·exact h.ev d hd
  ·rw [List.mem_singleton.1 hd]
   exact hb
 ·rw [he] at hpl ⊢
  by_cases hpk : p ≤ K.ev.length
  ·rw [List.take_append_of_le_length hpk]
   exact h.pre p hpk
  ·have : p = (K.ev ++ [e]).length := by simp at hpl ⊢; omega
   rw [this, List.take_length, e1, e2]
   omega
 ·rw [he, e1, e2]
  omega
def Pl (e : Ev) : Prop := e.kind ≠ 1 ∧ e.kind ≠ 6
theorem Sm.plain (h : Sm X rel s m K) (hr : 0 ≤ rel) (e : Ev) (hpl : Pl e) (he : K'.ev = K.ev ++ [e]) (hp : Phi X (vw K') ≤ Phi X (vw K)) : Sm X rel s m K' := by
 refine h.note hr e ⟨fun h => absurd h hpl.1, fun h => absurd h hpl.2⟩ he ?_
 have := mulPhi hr hp
 unfold evR evA
 rw [if_neg hpl.2, if_neg hpl.1]
 omega
theorem Sm.plus (h : Sm X rel s m K) (hr : 0 ≤ rel) : ∀ l : List Ev, (∀ e ∈ l, Pl e) → Sm X rel s m (K.plus l) := by
 intro l
 induction l generalizing K with
 | nil => intro _; rw [Kst.plus_nil]; exact h
 | cons e l ih =>
  intro hl
  have h1 : Sm X rel s m (K.plus [e]) := h.plain hr e (hl e (List.mem_cons_self ..)) rfl (Nat.le_refl _)
  have := ih h1 (fun d hd => hl d (List.mem_cons_of_mem _ hd))
  have e2 : (K.plus [e]).plus l = K.plus (e :: l) := by simp [Kst.plus]
  rwa [e2] at this
theorem Bs.plus (h : Bs X rel K) (l : List Ev) : Bs X rel (K.plus l) := ⟨h.tk, h.re, h.t0, h.pol, h.lt, h.lh, h.ll, h.lj, h.lc, h.ar, h.job, h.lo, h.hb⟩
theorem Bs.tok (h : Bs X rel K) (hT : Tks X rel) : TnOk K := ⟨by rw [h.re]; exact hT.r0, by rw [h.re]; exact hT.r1, h.hb, by rw [h.tk]; exact hT.u64⟩
theorem Bs.kok (h : Bs X rel K) (hT : Tks X rel) (h1 : K.tick ≤ 1099511627776) : KOk K := by
 have htk := h.tk
 refine ⟨h.t0, h1, fun y hy => ?_, fun y hy => ?_, h.ar, h.pol, fun y hy => ?_⟩
 ·rw [htk] at hy
  have hx := hT.b y hy
  refine ⟨hx.n1, hx.n8, ?_⟩
  rw [List.any_eq_false]
  intro z hz
  obtain ⟨i, hi, rfl⟩ := List.getElem_of_mem hz
  have := hx.r i hi
  simp [J.odd]
  omega
 ·rw [htk] at hy
  have hx := hT.b y hy
  have := take_all hx 0 (Nat.zero_le _)
  have := hx.wd
  have := hx.d
  simp at *
  omega
 ·rw [htk] at hy
  have hx := hT.b y hy
  exact ⟨hx.s7.1, hx.s7.2, hx.s8.1, hx.s8.2⟩
structure Mny (X : List S46) (rel s m : Int) (K : Kst) : Prop where
 b : Bs X rel K
 v : VI X K.last (vw K)
 s : Sm X rel s m K
theorem set_int (L : List Int) (i k : Nat) (z : Int) : (L.set i z).getD k 0 = L.getD k 0 ∨ (L.set i z).getD k 0 = z := set_getD L i k z
theorem Mny.arrive (h : Mny X rel s m K) (hT : Tks X rel) (h1 : K.tick ≤ 1099511627776) (D : List (List Int)) (i : Nat) : Mny X rel s m (arriveK D K i) := by
 have hok := ((h.b.kok hT h1).arrive D i)
 have hop := hok.pol
 have hoa := hok.ar
 clear hok
 revert hop hoa
 unfold arriveK
 split
 ·exact fun _ _ => h
 ·rename_i hi
  rw [h.b.tk] at hi
  have hi : i < X.length := by omega
  split
  ·exact fun _ _ => ⟨h.b.plus _, h.v, h.s.plain hT.r0 _ ⟨by simp, by simp⟩ rfl (Nat.le_refl _)⟩
  ·split
   ·rename_i _ hp
    intro hop hoa
    have hit : i < K.tab.length := by rw [h.b.lt]; exact hi
    have hg := fun k => get_put (t := K.tick) hit hp k
    have hfree := put_free hp
    have hv := h.v.adm (v' := vw (admitK K (D.getD i []) i)) hi (by rw [vw_p]; exact hfree) (fun y => by
      rw [vw_p]
      show (T.getL (T.putL K.tab i K.tick) (y : Int)).p = _
      rw [hg]
      split
      ·rfl
      ·rfl) (fun y => by
      rw [vw_s, vw_s]
      show ((T.getL (T.putL K.tab i K.tick) (y : Int)).p && (T.getL (T.putL K.tab i K.tick) (y : Int)).s) = _
      rw [hg]
      split
      ·rename_i e; subst e; rw [hfree]; rfl
      ·rfl) (fun c => rfl) (fun y => by
      show ((K.had.set i 0).getD y 0).toNat = (K.had.getD y 0).toNat ∨ ((K.had.set i 0).getD y 0).toNat = 0
      rcases set_int K.had i y 0 with e | e
      ·rw [e]; exact .inl rfl
      ·rw [e]; exact .inr rfl)
    refine ⟨⟨h.b.tk, h.b.re, h.b.t0, hop, ?_, by simp [admitK, h.b.lh], by simp [admitK, h.b.ll], by simp [admitK, h.b.lj], h.b.lc, hoa, fun j hj hpj => ?_, fun j => ?_, fun j => ?_⟩, hv.1, ?_⟩
    ·show (T.putL K.tab i K.tick).length = _
     unfold T.putL
     split <;> simp [h.b.lt]
    ·by_cases hji : j = i
     ·subst hji
      have hjl : j < K.job.length := by rw [h.b.lj]; exact hj
      have e : (admitK K (D.getD j []) j).job1 j = J.jb0 (X.getD j z46).f6 (D.getD j []) := by
       simp [admitK, Kst.job1, List.getD_eq_getElem?_getD, hjl, h.b.tk]
      rw [e]
      have hb := hT.b (X.getD j z46) (by simp [List.getD_eq_getElem?_getD, hj])
      exact ⟨0, jb0_JI hb _⟩
     ·have e : (admitK K (D.getD i []) i).job1 j = K.job1 j := by
       simp [admitK, Kst.job1, List.getD_eq_getElem?_getD, Ne.symm hji]
      rw [e]
      refine h.b.job j hj ?_
      have : (T.getL (T.putL K.tab i K.tick) (j : Int)).p = true := hpj
      rw [hg, if_neg hji] at this
      exact this
    ·rcases set_int K.loads i j 0 with e | e
     ·show 0 ≤ (K.loads.set i 0).getD j 0 ∧ (K.loads.set i 0).getD j 0 ≤ 1000000
      rw [e]; exact h.b.lo j
     ·show 0 ≤ (K.loads.set i 0).getD j 0 ∧ (K.loads.set i 0).getD j 0 ≤ 1000000
      rw [e]; decide
    ·rcases set_int K.had i j 0 with e | e
     ·show 0 ≤ (K.had.set i 0).getD j 0 ∧ (K.had.set i 0).getD j 0 < 18446744073709551616
      rw [e]; exact h.b.hb j
     ·show 0 ≤ (K.had.set i 0).getD j 0 ∧ (K.had.set i 0).getD j 0 < 18446744073709551616
      rw [e]; decide
    ·refine h.s.note hT.r0 ⟨K.tick, 1, i, 0⟩ ⟨fun _ => ⟨i, hi, rfl⟩, fun h => by simp at h⟩ rfl ?_
     have := mulPhi hT.r0 hv.2
     unfold evR evA
     rw [if_neg (by simp), if_pos rfl]
     simp only [Int.toNat_natCast]
     rw [Int.natCast_add, Int.mul_add] at this
     omega
   ·exact fun _ _ => ⟨h.b.plus _, h.v, h.s.plain hT.r0 _ ⟨by simp, by simp⟩ rfl (Nat.le_refl _)⟩
theorem Mny.fold (hT : Tks X rel) (D : List (List Int)) : ∀ (l : List Nat) {K : Kst}, Mny X rel s m K → K.tick ≤ 1099511627776 → Mny X rel s m (l.foldl (arriveK D) K)
 | [], _, h, _ => h
 | i :: l, K, h, h1 => by
  exact Mny.fold hT D l (h.arrive hT h1 D i) (by rw [(arriveK_tk D K i).2.1]; exact h1)
theorem late_plain (K : Kst) : ∀ n, ∀ e ∈ lateL K n, Pl e
 | 0, e, he => by simp [lateL] at he
 | n + 1, e, he => by
  rw [lateL_succ] at he
  rcases List.mem_append.1 he with he | he
  ·exact late_plain K n e he
  ·unfold lateAt at he
   split at he
   ·obtain rfl := List.mem_singleton.1 he
    exact ⟨by simp, by simp⟩
   ·simp at he
theorem Mny.came (h : Mny X rel s m { K with ev := [] }) (hT : Tks X rel) (h1 : K.tick ≤ 1099511627776) (D : List (List Int)) (arr : Nat) : Mny X rel s m (cameK K D arr) := by
 unfold cameK
 refine Mny.fold hT D _ ⟨h.b.plus _, h.v, h.s.plus hT.r0 _ (late_plain _ _)⟩ h1
end
end Go.Proofs.YtdgfjpbjiccllaaGreatDoor.V
namespace Go.Proofs.YtdgfjpbjiccllaaGreatDoor.V
open Go.RowKit
open YtdgfjpbjiccllaaGreatDoorW.PrintWords YtdgfjpbjiccllaaGreatDoorW.PrintLast YtdgfjpbjiccllaaGreatDoorW.PrintMore
open PTopLoads
open Q (pend rank held best bestStep best_succ best_spec best_in held_pend pend_in)
set_option maxRecDepth 100000
theorem best_strict (T : List S46) (L : List S142) : ∀ n, ∀ j : Nat, best T L n < j → j < n → pend L j = true → best T L n = -1 ∨ rank T L (best T L n) < rank T L j
 | 0, j, _, hj, _ => by omega
 | n + 1, j, hb, hj, hp => by
  rw [best_succ] at hb ⊢
  unfold bestStep at hb ⊢
  split at hb
  ·omega
  ·rename_i hc
   rw [if_neg hc]
   by_cases hjn : j = n
   ·subst hjn
    rw [hp, Bool.true_and, Bool.or_eq_true, decide_eq_true_eq, decide_eq_true_eq] at hc
    right
    omega
   ·exact best_strict T L n j hb (by omega) hp
theorem pend_vw (K : Kst) (j : Nat) : pend (K.tab.map s142) (j : Int) = (vw K).p j := by
 rw [vw_p]
 unfold pend T.getL
 have h0 : decide ((0 : Int) ≤ (j : Int)) = true := by simp
 rw [h0, Bool.true_and, Int.toNat_natCast, List.getElem?_map]
 cases K.tab[j]? <;> rfl
theorem rd_vw (K : Kst) (j : Nat) : (rd_T142 (K.tab.map s142) (j : Int)).f1 = (T.getL K.tab (j : Int)).s := by
 unfold rd_T142 T.getL
 rw [Int.toNat_natCast, List.getD_eq_getElem?_getD, List.getElem?_map]
 cases K.tab[j]? <;> rfl
def whoK (K : Kst) : Int := Q.choose K.tk (K.tab.map s142) K.last K.tick
section
variable {X : List S46} {rel s m : Int} {K : Kst}
theorem rank_vw (h : Bs X rel K) (j : Nat) (hp : (vw K).p j = true) : rank K.tk (K.tab.map s142) (j : Int) = if (X.getD j z46).f3 = 2 ∧ (vw K).s j = true then (X.getD j z46).f5 else (j : Int) := by
 unfold rank
 rw [pend_vw, hp, if_pos rfl, rd_vw, h.tk]
 have e : rd_T46 X (j : Int) = X.getD j z46 := by simp [rd_T46]
 have e2 : (vw K).s j = (T.getL K.tab (j : Int)).s := by rw [vw_s, ← vw_p, hp, Bool.true_and]
 rw [e, e2]
theorem who_spec (h : Bs X rel K) (hv : VI X K.last (vw K)) : (whoK K = -1 ∧ ∀ y, (vw K).p y = false) ∨ ∃ i : Nat, whoK K = i ∧ Turn X K.last (vw K) i := by
 unfold whoK Q.choose
 split
 ·rename_i hh
  obtain ⟨h1, h2⟩ := held_pend hh
  obtain ⟨h3, h4⟩ := pend_in h1
  obtain ⟨i, hi⟩ := Int.eq_ofNat_of_zero_le h3
  rw [hi] at h1 h2 ⊢
  have h1' : pend (K.tab.map s142) (i : Int) = true := h1
  have h2' : (rd_T142 (K.tab.map s142) (i : Int)).f1 = true := h2
  rw [pend_vw] at h1'
  rw [rd_vw] at h2'
  refine .inr ⟨i, rfl, h1', .inl ⟨rfl, ?_⟩⟩
  rw [vw_s, ← vw_p, h1', h2']
  rfl
 ·have hl : (K.tab.map s142).length = X.length := by rw [List.length_map, h.lt]
  rcases best_spec K.tk (K.tab.map s142) (K.tab.map s142).length (Nat.le_refl _) with ⟨h1, h2⟩ | ⟨h1, h2⟩
  ·refine .inl ⟨h1, fun y => ?_⟩
   by_cases hy : y < X.length
   ·have := h2 y (by omega)
    rwa [pend_vw] at this
   ·cases hp : (vw K).p y with
    | false => rfl
    | true => exact absurd (hv.pn y hp) hy
  ·rcases best_in K.tk (K.tab.map s142) (K.tab.map s142).length with hb | ⟨i, hi, hb⟩
   ·rw [hb] at h1
    obtain ⟨h3, _⟩ := pend_in h1
    omega
   ·have hs := best_strict K.tk (K.tab.map s142) (K.tab.map s142).length
    rw [hb] at h1 h2 hs ⊢
    rw [pend_vw] at h1
    refine .inr ⟨i, rfl, h1, .inr fun j hj => ?_⟩
    have hjl := hv.pn j hj
    rw [← rank_vw h i h1, ← rank_vw h j hj]
    refine ⟨h2 j (by omega) (by rw [pend_vw]; exact hj), fun hij => ?_⟩
    rcases hs j (by omega) (by omega) (by rw [pend_vw]; exact hj) with e | e
    ·omega
    ·exact e
structure Wk (X : List S46) (rel s m : Int) (i : Nat) (K : Kst) : Prop where
 b : Bs X rel K
 a : At X i (vw K)
 s : Sm X rel s m K
theorem pre_wk (h : Mny X rel s m K) (hT : Tks X rel) {i : Nat} (ht : Turn X K.last (vw K) i) :
  Wk X rel s m i (preK K i) ∧ (K.last ≠ i → ∀ c, (vw K).s i = true → c < 64 → ((vw (preK K i)).h i).testBit c = true → ∃ y : Nat, y ≤ i ∧ (vw (preK K i)).o c = y + 1) := by
 have hp := pre_same K i
 have hO := (h.b.tok hT).pre i
 have hv := h.v.pre (v' := vw (preK K i)) hT.th ht (fun y => by rw [vw_p, vw_p, hp.tab]) (fun y => by rw [vw_s, vw_s, hp.tab]) (fun c => by show (preK K i).cache.getD c 0 = _; rw [hp.cache]; rfl) (fun y c hb => by
  have hb' : (((preK K i).had.getD y 0).toNat).testBit c = true := hb
  unfold preK at hb'
  split at hb'
  ·rename_i hc
   obtain ⟨l, hl, hll⟩ := started_lt hc.2
   have hll' : l < K.had.length := by rw [h.b.lh, ← h.b.lt]; exact hll
   rw [hl, Int.toNat_natCast] at hb'
   by_cases hyl : y = l
   ·subst hyl
    right
    have e : ((K.had.set y (((K.tk.getD y z46).f8.toNat &&& heldF (y : Int) K.cache 64 : Nat) : Int)).getD y 0) = (((K.tk.getD y z46).f8.toNat &&& heldF (y : Int) K.cache 64 : Nat) : Int) := by simp [List.getD_eq_getElem?_getD, hll']
    simp only at hb'
    rw [e, Int.toNat_natCast, Nat.testBit_and, Bool.and_eq_true] at hb'
    refine ⟨?_, fun _ => ((heldF_bit (y : Int) K.cache c 64).1 hb'.2).2⟩
    have := hb'.1
    rwa [h.b.tk] at this
   ·left
    have e : ((K.had.set l (((K.tk.getD l z46).f8.toNat &&& heldF (l : Int) K.cache 64 : Nat) : Int)).getD y 0) = K.had.getD y 0 := by simp [List.getD_eq_getElem?_getD, Ne.symm hyl]
    simp only at hb'
    rw [e] at hb'
    exact ⟨hb', fun hyl' => by omega⟩
  ·rename_i hc
   refine .inl ⟨hb', fun hyl hs => ?_⟩
   apply Classical.byContradiction
   intro hne
   apply hc
   refine ⟨hne, ?_⟩
   rw [← hyl]
   exact hs)
 refine ⟨⟨⟨by rw [hp.tk]; exact h.b.tk, by rw [hp.reload]; exact h.b.re, by rw [hp.tick]; exact h.b.t0, by rw [hp.pol]; exact h.b.pol, by rw [hp.tab]; exact h.b.lt, ?_, by rw [hp.loads]; exact h.b.ll, by rw [hp.job]; exact h.b.lj, by rw [hp.cache]; exact h.b.lc, by rw [hp.tab, hp.tick]; exact h.b.ar, fun j hj hpj => ?_, by rw [hp.loads]; exact h.b.lo, hO.had⟩, hv.1, ?_⟩, hv.2.2⟩
 ·unfold preK
  split
  ·simp [h.b.lh]
  ·exact h.b.lh
 ·have e : (preK K i).job1 j = K.job1 j := by unfold Kst.job1; rw [hp.job]
  rw [e]
  refine h.b.job j hj ?_
  unfold pdOf at hpj ⊢
  rwa [hp.tab] at hpj
 ·have hph := hv.2.1
  revert hph
  unfold preK
  split
  ·intro hph
   exact h.s.plain hT.r0 ⟨K.tick, 5, K.last, 0⟩ ⟨by simp, by simp⟩ rfl (Nat.le_of_eq hph)
  ·intro _
   exact h.s
theorem turn_wk (h : Mny X rel s m K) (hT : Tks X rel) {i : Nat} (ht : Turn X K.last (vw K) i) : Wk X rel s m i (turnsK K i) ∧ (vw (turnsK K i)).s i = true := by
 obtain ⟨hw, hall⟩ := pre_wk h hT ht
 have hp := pre_same K i
 have hi : i < X.length := h.v.pn i ht.p
 have hpi : (T.getL K.tab (i : Int)).p = true := ht.p
 unfold turnsK
 split
 ·rename_i hc
  have hsi : (vw K).s i = true := hc.1
  have hsi' : (vw (preK K i)).s i = true := by rw [vw_s, hp.tab, ← vw_s]; exact hsi
  have hcl : ∀ c, c < 64 → c < (preK K i).cache.length := fun c hc => by rw [hp.cache, h.b.lc]; exact hc
  have hlt := andN_lt ((preK K i).had.getD i 0).toNat (heldF i (preK K i).cache 64)
  have hr := hw.a.resume (v' := vw (resK (preK K i) i)) hi hsi' (hT.sub i hi) (lostN (preK K i) i) (fun c hc => by
    unfold lostN
    rw [andN_bit _ _ _ hc, Bool.and_eq_true]
    refine and_congr Iff.rfl ?_
    have hb := heldF_bit (i : Int) (preK K i).cache c 64
    show _ ↔ (preK K i).cache.getD c 0 ≠ (i : Int) + 1
    cases hx : (heldF (i : Int) (preK K i).cache 64).testBit c with
    | true => exact ⟨fun h => by simp at h, fun h => absurd (hb.1 hx).2 h⟩
    | false =>
     simp only [Bool.not_false, true_iff]
     intro e
     have := hb.2 ⟨hc, e⟩
     rw [hx] at this
     cases this) (fun c hc64 hb => hall hc.2 c hsi hc64 hb) (fun y => rfl) (fun y => rfl) (fun c hc => by
    show (touchL (i : Int) (bitsL (lostN (preK K i) i)) (preK K i).cache).getD c 0 = _
    rw [touch_get _ _ _ _ (hcl c hc)]
    have hm := mem_bits (x := lostN (preK K i) i) hlt c
    by_cases hb : (lostN (preK K i) i).testBit c = true
    ·rw [if_pos hb, if_pos (hm.2 hb)]
    ·rw [if_neg hb, if_neg (fun hx => hb (hm.1 hx))]
     rfl) (fun y => rfl)
  refine ⟨⟨⟨hw.b.tk, hw.b.re, hw.b.t0, hw.b.pol, hw.b.lt, hw.b.lh, by simp [resK, hw.b.ll], hw.b.lj, by rw [← hw.b.lc]; exact touchL_len _ _ _, hw.b.ar, hw.b.job, fun j => ?_, hw.b.hb⟩, hr.1, ?_⟩, hsi'⟩
  ·have hcn := cnt_le (lostN (preK K i) i)
   have h1 : 0 ≤ (preK K i).reload * (cnt (lostN (preK K i) i) : Int) := Int.mul_nonneg (by rw [hw.b.re]; exact hT.r0) (by omega)
   have h2 : (preK K i).reload * (cnt (lostN (preK K i) i) : Int) ≤ 10000 * 64 := Int.mul_le_mul (by rw [hw.b.re]; exact hT.r1) (by omega) (by omega) (by omega)
   show 0 ≤ ((preK K i).loads.set i _).getD j 0 ∧ ((preK K i).loads.set i _).getD j 0 ≤ 1000000
   rcases set_int (preK K i).loads i j ((preK K i).reload * (cnt (lostN (preK K i) i) : Int)) with e | e
   ·rw [e]; exact hw.b.lo j
   ·rw [e]; omega
  ·have hcn := cnt_le (lostN (preK K i) i)
   have b1 : 0 ≤ (preK K i).reload * (cnt (lostN (preK K i) i) : Int) := Int.mul_nonneg (by rw [hw.b.re]; exact hT.r0) (by omega)
   have b2 : (preK K i).reload * (cnt (lostN (preK K i) i) : Int) ≤ 10000 * 64 := Int.mul_le_mul (by rw [hw.b.re]; exact hT.r1) (by omega) (by omega) (by omega)
   refine hw.s.note hT.r0 ⟨(preK K i).tick, 6, i, (preK K i).reload * (cnt (lostN (preK K i) i) : Int)⟩ ⟨fun h => by simp at h, fun _ => ⟨b1, by simp only; omega⟩⟩ rfl ?_
   have h1 := mulPhi hT.r0 hr.2
   unfold evR evA
   rw [if_pos rfl, if_neg (by simp)]
   simp only [hw.b.re]
   rw [Int.natCast_add, Int.mul_add] at h1
   omega
 ·rename_i hc
  unfold turnsA
  split
  ·rename_i hs
   exact ⟨hw, hs⟩
  ·rename_i hs
   have hs0 : (T.stateL (preK K i).tab (i : Int)).s = false := by simpa using hs
   have hs' : (vw (preK K i)).s i = false := hs0
   have hsK : (vw K).s i = false := by rw [vw_s, ← hp.tab, ← vw_s]; exact hs'
   have hpi' : (T.getL (preK K i).tab (i : Int)).p = true := by rw [hp.tab]; exact hpi
   have hg := fun k => get_begin hpi' k
   have hsg : (T.getL (preK K i).tab (i : Int)).s = false := by
    have := hs'
    rw [vw_s, hpi', Bool.true_and] at this
    exact this
   have hst := hw.a.start (v' := vw { (preK K i).plus [⟨(preK K i).tick, 4, i, 0⟩] with tab := T.beginL (preK K i).tab i }) hpi' hs' (fun x hx hm => turn_new h.v hT.th ht hsK x (by rw [vw_s, ← hp.tab, ← vw_s]; exact hx) hm) (fun y => by
     rw [vw_p, vw_p]
     show (T.getL (T.beginL (preK K i).tab i) (y : Int)).p = _
     rw [hg]
     split
     ·rename_i e; subst e; exact hpi'.symm
     ·rfl) (fun y => by
     rw [vw_s, vw_s]
     show ((T.getL (T.beginL (preK K i).tab i) (y : Int)).p && (T.getL (T.beginL (preK K i).tab i) (y : Int)).s) = _
     rw [hg]
     split
     ·rfl
     ·rfl) (fun c => rfl) (fun y => rfl)
   refine ⟨⟨⟨hw.b.tk, hw.b.re, hw.b.t0, hw.b.pol, ?_, hw.b.lh, hw.b.ll, hw.b.lj, hw.b.lc, fun x hx => ?_, fun j hj hpj => ?_, hw.b.lo, hw.b.hb⟩, hst.1, hw.s.plain hT.r0 ⟨(preK K i).tick, 4, i, 0⟩ ⟨by simp, by simp⟩ rfl hst.2⟩, ?_⟩
   ·show (T.beginL (preK K i).tab i).length = _
    rw [beginL_len]
    exact hw.b.lt
   ·obtain ⟨y, hy, e⟩ := begin_mem hx
    rw [e]
    exact hw.b.ar y hy
   ·refine hw.b.job j hj ?_
    have : (T.getL (T.beginL (preK K i).tab i) (j : Int)).p = true := hpj
    rw [begin_p] at this
    exact this
   ·rw [vw_s]
    show ((T.getL (T.beginL (preK K i).tab i) (i : Int)).p && (T.getL (T.beginL (preK K i).tab i) (i : Int)).s) = true
    rw [hg, if_pos rfl]
    rfl
end
end Go.Proofs.YtdgfjpbjiccllaaGreatDoor.V
namespace Go.Proofs.YtdgfjpbjiccllaaGreatDoor.V
open Go.RowKit
open YtdgfjpbjiccllaaGreatDoorW.PrintWords YtdgfjpbjiccllaaGreatDoorW.PrintLast YtdgfjpbjiccllaaGreatDoorW.PrintMore
open PTopLoads
set_option maxRecDepth 100000
section
variable {X : List S46} {rel s m : Int} {K : Kst} {i : Nat}
theorem Wk.plain (h : Wk X rel s m i K) (hT : Tks X rel) (e : Ev) (he : Pl e) : Wk X rel s m i (K.plus [e]) := ⟨h.b.plus _, h.a, h.s.plain hT.r0 e he rfl (Nat.le_refl _)⟩
theorem mid_vw (K : Kst) (hp : (vw K).p i = true) (b : Bool) (K' : Kst) (ht : K'.tab = T.midL K.tab i b) (hc : K'.cache = K.cache) (hh : K'.had = K.had) : vw K' = vw K := by
 have hpi : (T.getL K.tab (i : Int)).p = true := hp
 have hg := fun k => get_mid (b := b) hpi k
 unfold vw
 rw [hc, hh, ht]
 congr 1
 ·funext y
  unfold pdOf
  rw [ht, hg]
  split
  ·rename_i e; subst e; exact hpi.symm
  ·rfl
 ·funext y
  rw [state_s, state_s, hg]
  split
  ·rename_i e; subst e; rw [hpi]
  ·rfl
theorem mid_ar {K : Kst} (h : ∀ x ∈ K.tab, 0 ≤ x.a ∧ x.a ≤ K.tick) (b : Bool) : ∀ x ∈ T.midL K.tab i b, 0 ≤ x.a ∧ x.a ≤ K.tick := by
 intro x hx
 unfold T.midL at hx
 split at hx
 ·rename_i hh
  rcases List.mem_or_eq_of_mem_set hx with hx | rfl
  ·exact h x hx
  ·obtain ⟨n, hn, e, _⟩ := T.hasL_true hh
   have : n = i := by omega
   subst this
   have := h (T.getL K.tab (n : Int)) (getL_mem hn)
   exact this
 ·exact h x hx
theorem runs_wk (h : Wk X rel s m i K) (hT : Tks X rel) (hi : i < X.length) (hs : (vw K).s i = true) (touch : Nat) (ht : touch < 18446744073709551616) : Wk X rel s m i (runsK K i touch) := by
 have hp : (vw K).p i = true := h.a.sp i hs
 have hx := hT.b (X.getD i z46) (by simp [List.getD_eq_getElem?_getD, hi])
 have hec : (K.tk.getD i z46).f7.toNat = ecb X i := by rw [h.b.tk]; rfl
 have hsl : touch &&& ecb X i < 18446744073709551616 := Nat.lt_of_le_of_lt Nat.and_le_left ht
 have h1 : Wk X rel s m i { K with cache := touchL i (bitsL (touch &&& (K.tk.getD i z46).f7.toNat)) K.cache } := by
  rw [hec]
  have hcl : ∀ c, c < 64 → c < K.cache.length := fun c hc => by rw [h.b.lc]; exact hc
  have hto := h.a.touch (v' := vw { K with cache := touchL i (bitsL (touch &&& ecb X i)) K.cache }) hi hs (fun c => (touch &&& ecb X i).testBit c) (fun c _ hb => by
    rw [Nat.testBit_and, Bool.and_eq_true] at hb
    exact hb.2) (fun y => rfl) (fun y => rfl) (fun c hc => by
    show (touchL (i : Int) (bitsL (touch &&& ecb X i)) K.cache).getD c 0 = _
    rw [touch_get _ _ _ _ (hcl c hc)]
    have hm := mem_bits hsl c
    by_cases hb : (touch &&& ecb X i).testBit c = true
    ·rw [if_pos hb, if_pos (hm.2 hb)]
    ·rw [if_neg hb, if_neg (fun hx => hb (hm.1 hx))]
     rfl) (fun y => rfl)
  exact ⟨⟨h.b.tk, h.b.re, h.b.t0, h.b.pol, h.b.lt, h.b.lh, h.b.ll, h.b.lj, by rw [← h.b.lc]; exact touchL_len _ _ _, h.b.ar, h.b.job, h.b.lo, h.b.hb⟩, hto.1, h.s.keep hT.r0 rfl hto.2⟩
 unfold runsK
 simp only
 generalize touchL i (bitsL (touch &&& (K.tk.getD i z46).f7.toNat)) K.cache = C at h1
 have hp1 : (vw { K with cache := C }).p i = true := hp
 split
 ·rename_i hl
  have hv := mid_vw (i := i) { K with cache := C } hp1 true { K with cache := C, loads := K.loads.set i (K.loads.getD i 0 - 1), tab := T.midL K.tab i true } rfl rfl rfl
  refine ⟨⟨h.b.tk, h.b.re, h.b.t0, h.b.pol, by show (T.midL K.tab i true).length = _; rw [midL_len]; exact h.b.lt, h.b.lh, by simp [h.b.ll], h.b.lj, h1.b.lc, mid_ar h.b.ar true, fun j hj hpj => ?_, fun j => ?_, h.b.hb⟩, by rw [hv]; exact h1.a, h1.s.keep hT.r0 rfl (by rw [hv]; exact Nat.le_refl _)⟩
  ·have : (T.getL (T.midL K.tab i true) (j : Int)).p = true := hpj
   rw [mid_p] at this
   exact h.b.job j hj this
  ·rcases set_int K.loads i j (K.loads.getD i 0 - 1) with e | e
   ·show 0 ≤ (K.loads.set i _).getD j 0 ∧ (K.loads.set i _).getD j 0 ≤ 1000000
    rw [e]; exact h.b.lo j
   ·show 0 ≤ (K.loads.set i _).getD j 0 ∧ (K.loads.set i _).getD j 0 ≤ 1000000
    rw [e]
    have := h.b.lo i
    omega
 ·obtain ⟨el, hj⟩ := h.b.job i hi hp
  have hti := tick_JI hx hj
  have hjl : i < K.job.length := by rw [h.b.lj]; exact hi
  generalize htt : J.tick (K.job1 i) = tt at hti
  obtain ⟨j1, r, how⟩ := tt
  simp only at hti ⊢
  have hv := mid_vw (i := i) { K with cache := C } hp1 (decide (0 < j1.had)) { K with cache := C, job := K.job.set i j1, tab := T.midL K.tab i (decide (0 < j1.had)) } rfl rfl rfl
  have hoth : ∀ j, j < X.length → j ≠ i → (T.getL (T.midL K.tab i (decide (0 < j1.had))) (j : Int)).p = true → ∃ el, JI (X.getD j z46) ((K.job.set i j1).getD j ⟨[], [], 0, 0, 0, 0⟩) el := fun j hjX hji hpj => by
   rw [mid_p] at hpj
   obtain ⟨el, he⟩ := h.b.job j hjX hpj
   refine ⟨el, ?_⟩
   rw [show (K.job.set i j1).getD j ⟨[], [], 0, 0, 0, 0⟩ = K.job1 j from by simp [Kst.job1, List.getD_eq_getElem?_getD, Ne.symm hji]]
   exact he
  have hown : (K.job.set i j1).getD i ⟨[], [], 0, 0, 0, 0⟩ = j1 := by simp [List.getD_eq_getElem?_getD, hjl]
  unfold endK
  simp only
  rcases hti with ⟨hh, hji⟩ | ⟨hh, _⟩
  ·rw [if_neg (by omega : ¬ how = 2), if_neg (by omega : ¬ how = 3)]
   have hb : Wk X rel s m i { K with cache := C, job := K.job.set i j1, tab := T.midL K.tab i (decide (0 < j1.had)) } := by
    refine ⟨⟨h.b.tk, h.b.re, h.b.t0, h.b.pol, by show (T.midL K.tab i _).length = _; rw [midL_len]; exact h.b.lt, h.b.lh, h.b.ll, by simp [h.b.lj], h1.b.lc, mid_ar h.b.ar _, fun j hjX hpj => ?_, h.b.lo, h.b.hb⟩, by rw [hv]; exact h1.a, h1.s.keep hT.r0 rfl (by rw [hv]; exact Nat.le_refl _)⟩
    by_cases hji' : j = i
    ·subst hji'
     refine ⟨el + 1, ?_⟩
     show JI _ ((K.job.set j j1).getD j ⟨[], [], 0, 0, 0, 0⟩) _
     rw [hown]
     exact hji
    ·exact hoth j hjX hji' hpj
   split
   ·exact hb.plain hT _ ⟨by simp, by simp⟩
   ·exact hb
  ·-- done, or cut
   have key : ∀ (L : List Ev) (e : Ev), (∀ d ∈ L, Pl d) → Pl e → Wk X rel s m i { ({ K with cache := C, job := K.job.set i j1, tab := T.midL K.tab i (decide (0 < j1.had)) } : Kst).plus L |>.plus [e] with tab := T.dropL (T.midL K.tab i (decide (0 < j1.had))) i } := by
    intro L e hL he
    have hpm : (T.getL (T.midL K.tab i (decide (0 < j1.had))) (i : Int)).p = true := by rw [mid_p]; exact hp
    have hg := fun k => get_drop hpm k
    have hd := h1.a.drop (v' := vw { ({ K with cache := C, job := K.job.set i j1, tab := T.midL K.tab i (decide (0 < j1.had)) } : Kst).plus L |>.plus [e] with tab := T.dropL (T.midL K.tab i (decide (0 < j1.had))) i }) hp1 (fun y => by
      rw [vw_p]
      show (T.getL (T.dropL (T.midL K.tab i (decide (0 < j1.had))) i) (y : Int)).p = _
      rw [hg]
      split
      ·rfl
      ·rw [mid_p]; rfl) (fun y => by
      rw [vw_s, vw_s]
      show ((T.getL (T.dropL (T.midL K.tab i (decide (0 < j1.had))) i) (y : Int)).p && (T.getL (T.dropL (T.midL K.tab i (decide (0 < j1.had))) i) (y : Int)).s) = _
      rw [hg]
      split
      ·rfl
      ·rename_i hne
       rw [get_mid (b := decide (0 < j1.had)) hp y, if_neg hne]) (fun c => rfl) (fun y => rfl)
    have hs2 : Sm X rel s m ({ K with cache := C, job := K.job.set i j1, tab := T.midL K.tab i (decide (0 < j1.had)) } : Kst) := h1.s.keep hT.r0 rfl (by rw [hv]; exact Nat.le_refl _)
    have hs3 := hs2.plus hT.r0 L hL
    have hle : Phi X (vw { ({ K with cache := C, job := K.job.set i j1, tab := T.midL K.tab i (decide (0 < j1.had)) } : Kst).plus L |>.plus [e] with tab := T.dropL (T.midL K.tab i (decide (0 < j1.had))) i }) ≤ Phi X (vw (({ K with cache := C, job := K.job.set i j1, tab := T.midL K.tab i (decide (0 < j1.had)) } : Kst).plus L)) := by
     have e1 : vw (({ K with cache := C, job := K.job.set i j1, tab := T.midL K.tab i (decide (0 < j1.had)) } : Kst).plus L) = vw { K with cache := C } := hv
     rw [e1]
     exact hd.2
    refine ⟨⟨h.b.tk, h.b.re, h.b.t0, h.b.pol, by show (T.dropL (T.midL K.tab i _) i).length = _; rw [dropL_len, midL_len]; exact h.b.lt, h.b.lh, h.b.ll, by simp [Kst.plus, h.b.lj], h1.b.lc, fun x hx => ?_, fun j hjX hpj => ?_, h.b.lo, h.b.hb⟩, hd.1, hs3.plain hT.r0 e he rfl hle⟩
    ·have hx' : x ∈ T.dropL (T.midL K.tab i (decide (0 < j1.had))) i := hx
     unfold T.dropL at hx'
     split at hx'
     ·rcases List.mem_or_eq_of_mem_set hx' with hx' | rfl
      ·exact mid_ar h.b.ar _ x hx'
      ·exact ⟨Int.le_refl _, h.b.t0⟩
     ·exact mid_ar h.b.ar _ x hx'
    ·have hpj' : (T.getL (T.dropL (T.midL K.tab i (decide (0 < j1.had))) i) (j : Int)).p = true := hpj
     rw [hg] at hpj'
     split at hpj'
     ·cases hpj'
     ·exact hoth j hjX (by assumption) hpj'
   rcases hh with rfl | rfl
   ·rw [if_pos (show (2 : Int) = 1 ∨ (2 : Int) = 2 from .inr rfl), if_pos (rfl : (2 : Int) = 2)]
    exact key [⟨K.tick, 7, i, r⟩] _ (by simp [Pl]) ⟨by simp, by simp⟩
   ·rw [if_neg (show ¬ ((3 : Int) = 1 ∨ (3 : Int) = 2) by decide), if_neg (show ¬ (3 : Int) = 2 by decide), if_pos (rfl : (3 : Int) = 3)]
    have := key [] ⟨K.tick, 9, i, tookK { K with cache := C, job := K.job.set i j1, tab := T.midL K.tab i (decide (0 < j1.had)) } i⟩ (by simp) ⟨by simp, by simp⟩
    rw [Kst.plus_nil] at this
    exact this
def manF (K : Kst) (u : S57) : Kst := nextK (ranG (cameK K u.f1 u.f0.toNat) (whoK (cameK K u.f1 u.f0.toNat)) u.f2.toNat) (whoK (cameK K u.f1 u.f0.toNat))
theorem tick_mny (h : Mny X rel s m { K with ev := [] }) (hT : Tks X rel) (h1 : K.tick ≤ 1099511627776) (u : S57) (hu : InB u) : Mny X rel s m (manF K u) := by
 have hc := h.came hT h1 u.f1 u.f0.toNat
 unfold manF
 generalize cameK K u.f1 u.f0.toNat = M at hc
 rcases who_spec hc.b hc.v with ⟨hw, hn⟩ | ⟨i, hw, ht⟩
 ·rw [hw]
  unfold ranG
  rw [if_pos rfl]
  have hp := hc.s.plain (K' := M.plus [⟨M.tick, 10, -1, 0⟩]) hT.r0 ⟨M.tick, 10, -1, 0⟩ ⟨by simp, by simp⟩ rfl (Nat.le_refl _)
  refine ⟨⟨hc.b.tk, hc.b.re, ?_, hc.b.pol, hc.b.lt, hc.b.lh, hc.b.ll, hc.b.lj, hc.b.lc, fun x hx => ?_, hc.b.job, hc.b.lo, hc.b.hb⟩, hc.v.idle hn, ⟨hp.pre, hp.tot, hp.ev⟩⟩
  ·have := hc.b.t0
   show 0 ≤ M.tick + 1
   omega
  ·have := hc.b.ar x hx
   show 0 ≤ x.a ∧ x.a ≤ M.tick + 1
   omega
 ·rw [hw]
  unfold ranG
  rw [if_neg (by omega), Int.toNat_natCast]
  obtain ⟨hwk, hs⟩ := turn_wk hc hT ht
  have hr := runs_wk hwk hT (hc.v.pn i ht.p) hs u.f2.toNat (by have := hu.t; omega)
  refine ⟨⟨hr.b.tk, hr.b.re, ?_, hr.b.pol, hr.b.lt, hr.b.lh, hr.b.ll, hr.b.lj, hr.b.lc, fun x hx => ?_, hr.b.job, hr.b.lo, hr.b.hb⟩, hr.a.vi, ⟨hr.s.pre, hr.s.tot, hr.s.ev⟩⟩
  ·have := hr.b.t0
   show 0 ≤ (runsK (turnsK M i) i u.f2.toNat).tick + 1
   omega
  ·have := hr.b.ar x hx
   show 0 ≤ x.a ∧ x.a ≤ (runsK (turnsK M i) i u.f2.toNat).tick + 1
   omega
theorem man_tick (K : Kst) (u : S57) : (manF K u).tick = K.tick + 1 := by
 unfold manF nextK ranG
 have htk : (cameK K u.f1 u.f0.toNat).tick = K.tick := (fold_tk u.f1 _ _).2.1
 simp only
 split
 ·simp only [Kst.plus]; rw [htk]
 ·rw [runs_tick, (turnsK_tk _ _).2.1, htk]
theorem man_len (h8 : K.tk.length ≤ 8) (u : S57) : (manF K u).ev.length ≤ 1000 := by
 have hl : (cameK K u.f1 u.f0.toNat).ev.length ≤ 72 := by
  have := fold_len u.f1 (bitsL u.f0.toNat) (({ K with ev := [] } : Kst).plus (lateL { K with ev := [] } K.tk.length))
  have h64 : (bitsL u.f0.toNat).length ≤ 64 := bitsF_len 64 _
  have e := lateL_len { K with ev := [] } K.tk.length
  unfold cameK
  simp only [Kst.plus, List.length_append, List.length_nil] at this ⊢
  omega
 unfold manF nextK ranG
 simp only
 split
 ·simp only [Kst.plus, List.length_append, List.length_cons, List.length_nil]; omega
 ·have a := run_len (turnsK (cameK K u.f1 u.f0.toNat) (whoK (cameK K u.f1 u.f0.toNat)).toNat) (whoK (cameK K u.f1 u.f0.toNat)).toNat u.f2.toNat
  have b := (turnsK_tk (cameK K u.f1 u.f0.toNat) (whoK (cameK K u.f1 u.f0.toNat)).toNat).2.2
  omega
theorem Mny.told (h : Mny X rel s m K) (hT : Tks X rel) : Mny X rel (s + sumR K.ev) (m + sumA X rel K.ev) { K with ev := [] } := by
 have hn : 0 ≤ rel * (Phi X (vw K) : Int) := Int.mul_nonneg hT.r0 (by omega)
 have ht := h.s.tot
 refine ⟨⟨h.b.tk, h.b.re, h.b.t0, h.b.pol, h.b.lt, h.b.lh, h.b.ll, h.b.lj, h.b.lc, h.b.ar, h.b.job, h.b.lo, h.b.hb⟩, h.v, ⟨fun p hp => ?_, ?_, fun e he => by simp at he⟩⟩
 ·have : p = 0 := by simpa using hp
  subst this
  simp [sumR, sumA]
  unfold sumR sumA at ht
  omega
 ·have e : vw { K with ev := [] } = vw K := rfl
  rw [e]
  simp only [sumR, sumA, List.map_nil, List.sum_nil] at ht ⊢
  omega
structure InvM (X : List S46) (rel : Int) (i : Nat) (K : Kst) : Prop where
 m : ∃ s m, Mny X rel s m { K with ev := [] }
 tick : K.tick = i
theorem man_next (hT : Tks X rel) {n : Nat} (h : InvM X rel n K) (hn : n ≤ 1000) (u : S57) (hu : InB u) : InvM X rel (n + 1) (manF K u) ∧ (manF K u).ev.length ≤ 1000 := by
 obtain ⟨s, m, hm⟩ := h.m
 have ht := h.tick
 have h2 := tick_mny hm hT (by omega) u hu
 refine ⟨⟨⟨_, _, h2.told hT⟩, by rw [man_tick, ht]; omega⟩, man_len ?_ u⟩
 have := hm.b.tk
 have e : K.tk = X := this
 rw [e]
 exact hT.n8
theorem man_fit (hT : Tks X rel) {M : Kst} (h : Mny X rel s m M) : whoK M = -1 ∨ ∃ i : Nat, whoK M = i ∧ Fit2 M i := by
 rcases who_spec h.b h.v with ⟨hw, _⟩ | ⟨i, hw, ht⟩
 ·exact .inl hw
 ·have hi := h.v.pn i ht.p
  obtain ⟨el, hj⟩ := h.b.job i hi ht.p
  have hx := hT.b (X.getD i z46) (by simp [List.getD_eq_getElem?_getD, hi])
  have hl := h.b.lo i
  exact .inr ⟨i, hw, by rw [h.b.tk]; exact hi, ht.p, hj.ok hx, by rw [h.b.ll, h.b.tk], hl.1, by omega, h.b.tok hT⟩
theorem man_steps (hT : Tks X rel) {W : World} {B : Nat} {l : List S57} (hl : l.length ≤ 1000) (hin : ∀ u ∈ l, InB u) (hBW : B ≤ W.heap.size) (hB0 : 0 < B) (hD : DeB W) : Steps W B l manF (InvM X rel) := by
 refine ⟨fun n K u hu h => man_next hT h ?_ u (hin u (List.mem_of_getElem? hu)), fun n K u hu h E0 E w kp A jv ev DA dc hb hk hBE hEw hDD => ?_⟩
 ·have := (List.getElem?_eq_some_iff.1 hu).1
  omega
 ·have hil := (List.getElem?_eq_some_iff.1 hu).1
  obtain ⟨s, m, hm⟩ := h.m
  have ht := h.tick
  have hub := hin u (List.mem_of_getElem? hu)
  have hc := hm.came hT (by show K.tick ≤ _; omega) u.f1 u.f0.toNat
  have hc' : Mny X rel s m (cameK K u.f1 u.f0.toNat) := hc
  have ea : ((u.f0.toNat : Nat) : Int) = u.f0 := Int.toNat_of_nonneg hub.a.1
  have et : ((u.f2.toNat : Nat) : Int) = u.f2 := Int.toNat_of_nonneg hub.t.1
  have hkok : KOk K := by
   have := hm.b.kok hT (by show K.tick ≤ _; omega)
   exact ⟨this.t0, this.t1, this.regs, this.dl, this.ar, this.pol, this.sets⟩
  have := step_all (E := E) (D := u.f1) (dc := dc) u.f0.toNat u.f2.toNat (by have := hub.a.2; omega) (by have := hub.t.2; omega) hb hBW hB0 hD hDD hub.d hk hBE hEw hkok (by omega) (whoK (cameK K u.f1 u.f0.toNat)) rfl (man_fit hT hc')
  rw [ea, et] at this
  exact this
theorem man_count (hT : Tks X rel) : ∀ (l : List S57) (n : Nat) (K : Kst), InvM X rel n K → n + l.length ≤ 1000 → (∀ u ∈ l, InB u) → (runE manF K l).length ≤ l.length * 1000
 | [], _, _, _, _, _ => by simp [runE]
 | u :: l, n, K, h, hn, hin => by
  simp only [List.length_cons] at hn
  have h3 := man_next hT h (by omega) u (hin u (List.mem_cons_self ..))
  have := man_count hT l (n + 1) _ h3.1 (by omega) (fun v hv => hin v (List.mem_cons_of_mem _ hv))
  simp only [runE, List.length_append, List.length_cons]
  omega
def k0 (X : List S46) (rel : Int) : Kst := ⟨rel, X, 0, -1, X.map fun x => P.mkW x.f1, List.replicate 64 0, T.zeros X.length, zs X.length, zs X.length, List.replicate X.length ⟨[], [], 0, 0, 0, 0⟩, []⟩
theorem k0_get (X : List S46) (rel : Int) (k : Nat) : T.getL (k0 X rel).tab (k : Int) = ⟨false, false, false, 0⟩ := by
 unfold k0 T.zeros
 by_cases hk : k < X.length
 ·rw [T.getL_in (by simpa using hk)]; simp
 ·exact getL_out (by simp; omega)
theorem k0_pd (X : List S46) (rel : Int) (k : Nat) : pdOf (k0 X rel) k = false := by
 unfold pdOf
 rw [k0_get]
theorem zs_get (n k : Nat) : (zs n).getD k 0 = 0 := by
 unfold zs
 rw [List.getD_eq_getElem?_getD]
 by_cases hk : k < n
 ·rw [List.getElem?_replicate]; simp [hk]
 ·rw [List.getElem?_eq_none (by simp; omega)]; rfl
theorem k0_mny (hT : Tks X rel) : Mny X rel 0 0 { k0 X rel with ev := [] } := by
 have hs : ∀ y, (vw { k0 X rel with ev := [] }).s y = false := fun y => by
  rw [vw_s]
  have : T.getL ({ k0 X rel with ev := [] } : Kst).tab (y : Int) = ⟨false, false, false, 0⟩ := k0_get X rel y
  rw [this]
  rfl
 have hp : ∀ y, (vw { k0 X rel with ev := [] }).p y = false := fun y => k0_pd X rel y
 have ho : ∀ c, (vw { k0 X rel with ev := [] }).o c = 0 := fun c => by
  show (List.replicate 64 (0 : Int)).getD c 0 = 0
  exact zs_get 64 c
 refine ⟨⟨rfl, rfl, Int.le_refl _, fun w hw => ?_, by simp [k0, T.zeros], by simp [k0, zs], by simp [k0, zs], by simp [k0], by simp [k0], fun x hx => ?_, fun i _ h => ?_, fun i => ?_, fun i => ?_⟩, ⟨fun y h => ?_, fun y h => ?_, fun c _ => .inl (ho c), fun x c _ h => ?_, fun x c h => ?_, fun x y _ h => ?_⟩, ⟨fun p hp => ?_, ?_, fun e he => by simp at he⟩⟩
 ·obtain ⟨x, _, rfl⟩ := List.mem_map.1 hw
  exact ⟨Int.le_refl _, by simp [P.mkW]⟩
 ·have := List.eq_of_mem_replicate (show x ∈ List.replicate X.length (⟨false, false, false, 0⟩ : T.St) from hx)
  subst this
  exact ⟨Int.le_refl _, Int.le_refl _⟩
 ·have := k0_pd X rel i
  have h' : pdOf (k0 X rel) i = true := h
  rw [this] at h'
  cases h'
 ·show 0 ≤ (zs X.length).getD i 0 ∧ (zs X.length).getD i 0 ≤ 1000000
  rw [zs_get]
  decide
 ·show 0 ≤ (zs X.length).getD i 0 ∧ (zs X.length).getD i 0 < 18446744073709551616
  rw [zs_get]
  decide
 ·rw [hs] at h; cases h
 ·rw [hp] at h; cases h
 ·have : ((zs X.length).getD x 0).toNat.testBit c = true := h
  rw [zs_get] at this
  simp at this
 ·rw [hs] at h; cases h
 ·rw [hs] at h; cases h
 ·have : p = 0 := by simpa using hp
  subst this
  simp [sumR, sumA]
 ·have hz : Phi X (vw { k0 X rel with ev := [] }) = 0 := by
   have := sumN_le (f := phi X (vw { k0 X rel with ev := [] })) (g := fun _ => 0) X.length (fun y _ => by
    unfold phi
    rw [hp, hs]
    have : ownC X (vw { k0 X rel with ev := [] }) y = 0 := by
     unfold ownC
     rw [List.countP_eq_zero]
     intro c _ hb
     rw [Bool.and_eq_true, decide_eq_true_eq, ho] at hb
     omega
    rw [this]
    simp)
   have z : ∀ n, sumN n (fun _ => 0) = 0 := fun n => by
    induction n with
    | zero => rfl
    | succ n ih => rw [sumN_succ, ih]
   rw [z] at this
   unfold Phi
   omega
  rw [hz]
  simp [sumR, sumA]
theorem k0_inv (hT : Tks X rel) : InvM X rel 0 (k0 X rel) := ⟨⟨0, 0, k0_mny hT⟩, rfl⟩
end
end Go.Proofs.YtdgfjpbjiccllaaGreatDoor.V
