/- Joined texts: Kst, Late, Arr, Arr2, Run, Run2. -/
import Derived.Test.YtdgfjpbjiccllaaGreatDoorTopAgain03
import Derived.Test.YtdgfjpbjiccllaaGreatDoorTopAgain06
import Derived.Test.YtdgfjpbjiccllaaGreatDoorTopAgain09
import Derived.Test.YtdgfjpbjiccllaaGreatDoorTopAgain07
namespace Go.Proofs.YtdgfjpbjiccllaaGreatDoor
open Go.RowKit
open YtdgfjpbjiccllaaGreatDoorW.PrintWords YtdgfjpbjiccllaaGreatDoorW.PrintLast YtdgfjpbjiccllaaGreatDoorW.PrintMore
open PTopLoads (S46 k46 z46 k46_mk S57 k57)
set_option maxRecDepth 100000
variable {E : Nat}
def tcells (x : S46) (r : Value) : List Value := [.string x.f0, .int .i64 x.f1, .int .i64 x.f2, .int .i64 x.f3, .int .i64 x.f4, .int .i64 x.f5, r, .int .u64 x.f7, .int .u64 x.f8]
def tcs : List S46 → List Value → List Value
 | x :: T, r :: R => tcells x r ++ tcs T R
 | _, _ => []
theorem tcs_snoc (x : S46) (r : Value) : ∀ (T : List S46) (R : List Value), R.length = T.length → tcs (T ++ [x]) (R ++ [r]) = tcs T R ++ tcells x r
 | [], R, h => by cases R <;> simp_all [tcs]
 | y :: T, [], h => by simp at h
 | y :: T, q :: R, h => by
  have := tcs_snoc x r T R (by simpa using h)
  simp [tcs, this]
theorem tcs_at : ∀ (T : List S46) (R : List Value) (h : R.length = T.length) (i j : Nat) (hi : i < T.length), j < 9 → (tcs T R)[i * 9 + j]? = (tcells T[i] (R[i]'(by omega)))[j]?
 | [], _, _, _, _, hi, _ => by simp at hi
 | x :: T, [], h, _, _, _, _ => by simp at h
 | x :: T, r :: R, h, i, j, hi, hj => by
  cases i with
  | zero =>
   simp only [tcs, Nat.zero_mul, Nat.zero_add, List.getElem_cons_zero]
   exact List.getElem?_append_left hj
  | succ i =>
   have := tcs_at T R (by simpa using h) i j (by simpa using hi) hj
   simp only [tcs, List.getElem_cons_succ]
   rw [List.getElem?_append_right (by show 9 ≤ _; omega)]
   rw [show (i + 1) * 9 + j - (tcells x r).length = i * 9 + j from by show (i + 1) * 9 + j - 9 = _; omega]
   exact this
structure TasksAt (w : World) (B : Nat) (v : Value) (T : List S46) (R : List Value) : Prop where
 len : R.length = T.length
 row : w.ownsRow B 46 9 v T.length (tcs T R)
 regs : ∀ i (h : i < T.length), w.ownsRow B 2 1 (R[i]'(by omega)) T[i].f6.length (J.ints T[i].f6)
section
variable {w w' : World} {B : Nat} {v : Value} {T : List S46} {R : List Value} {ts : List Nat} {C : Nat}
theorem TasksAt.fr (h : TasksAt w B v T R) (hf : Fr E ts C w w') (h1 : 46 ∉ ts) (h2 : 2 ∉ ts) : TasksAt w' B v T R :=
 ⟨h.len, own_fr h.row hf h1, fun i hi => own_fr (h.regs i hi) hf h2⟩
theorem TasksAt.at_ (h : TasksAt w B v T R) (h0 : 0 < T.length) : ∃ a c cs, v = .slice (some ⟨a, 0, none⟩) T.length c ∧ B ≤ a ∧ Blk w a 46 cs ∧ ∀ i j (hi : i < T.length), j < 9 → cs[i * 9 + j]? = (tcells T[i] (R[i]'(by rw [h.len]; exact hi)))[j]? := by
 rcases h.row.2 with ⟨_, h1⟩ | ⟨g, c, cur, rfl, hb, hh, hn, _, hs, ht⟩
 ·omega
 ·refine ⟨g, c, cur, rfl, hb, hh, fun i j hi hj => ?_⟩
  rw [← tcs_at T R h.len i j hi hj, ← ht, List.getElem?_take_of_lt (by omega)]
  simp
theorem TasksAt.cell (h : TasksAt w B v T R) {i : Nat} (hi : i < T.length) : ∃ a c, v = .slice (some ⟨a, 0, none⟩) T.length c ∧ B ≤ a ∧ ∀ j, j < 9 → w.cell? ⟨a, i * 9 + j, none⟩ = (tcells T[i] (R[i]'(by rw [h.len]; exact hi)))[j]? := by
 obtain ⟨a, c, cs, hv, hb, hB, hc⟩ := h.at_ (by omega)
 exact ⟨a, c, hv, hb, fun j hj => (hB.cell _).trans (hc i j hi hj)⟩
structure TaskCells (w : World) (a k : Nat) (x : S46) (ra : Option Addr) (rc : Nat) : Prop where
 g0 : w.cell? ⟨a, k * 9, none⟩ = some (.string x.f0)
 g1 : w.cell? ⟨a, k * 9 + 1, none⟩ = some (.int .i64 x.f1)
 g2 : w.cell? ⟨a, k * 9 + 2, none⟩ = some (.int .i64 x.f2)
 g3 : w.cell? ⟨a, k * 9 + 3, none⟩ = some (.int .i64 x.f3)
 g4 : w.cell? ⟨a, k * 9 + 4, none⟩ = some (.int .i64 x.f4)
 g5 : w.cell? ⟨a, k * 9 + 5, none⟩ = some (.int .i64 x.f5)
 g6 : w.cell? ⟨a, k * 9 + 6, none⟩ = some (.slice ra x.f6.length rc)
 g7 : w.cell? ⟨a, k * 9 + 7, none⟩ = some (.int .u64 x.f7)
 g8 : w.cell? ⟨a, k * 9 + 8, none⟩ = some (.int .u64 x.f8)
theorem TasksAt.task (h : TasksAt w B v T R) {k : Nat} {x : S46} (hk : T[k]? = some x) : ∃ a c ra rc, v = .slice (some ⟨a, 0, none⟩) T.length c ∧ a < w.heap.size ∧ TaskCells w a k x ra rc ∧ w.ownsRow B 2 1 (.slice ra x.f6.length rc) x.f6.length (J.ints x.f6) := by
 obtain ⟨hlt, rfl⟩ := List.getElem?_eq_some_iff.1 hk
 obtain ⟨a, c, cs, hv, hb, hB, hc⟩ := h.at_ (Nat.lt_of_le_of_lt (Nat.zero_le _) hlt)
 have hr := h.regs k hlt
 obtain ⟨ra, rc, hrv, _, _⟩ := row_read hr
 rw [hrv] at hr
 have g : ∀ j, j < 9 → w.cell? ⟨a, k * 9 + j, none⟩ = (tcells T[k] (.slice ra T[k].f6.length rc))[j]? := fun j hj => by
  rw [← hrv]
  exact (hB.cell _).trans (hc k j hlt hj)
 exact ⟨a, c, ra, rc, hv, hB.lt, ⟨g 0 (by decide), g 1 (by decide), g 2 (by decide), g 3 (by decide), g 4 (by decide), g 5 (by decide), g 6 (by decide), g 7 (by decide), g 8 (by decide)⟩, hr⟩
theorem TasksAt.slice (h : TasksAt w B v T R) (h0 : 0 < T.length) : ∃ a c, v = .slice (some ⟨a, 0, none⟩) T.length c := by
 obtain ⟨a, c, _, hv, _⟩ := h.at_ h0
 exact ⟨a, c, hv⟩
theorem ints_C {w : World} {B : Nat} {v : Value} {l : List Int} (h : w.ownsRow B 2 1 v l.length (J.ints l)) (hl : l.length ≤ 9223372036854775807) : ∃ A c, v = .slice A l.length c ∧ l.length ≤ c ∧ (Kd.int .i64).C w A l.length l ∧ Nums w A l := by
 obtain ⟨A, c, rfl, hc, hr⟩ := row_read h
 refine ⟨A, c, rfl, hc, ⟨rfl, by omega, fun h0 => ?_⟩, ?_⟩
 ·rcases hr with hr | ⟨b, cs, rfl, hb, hB, hcs⟩
  ·omega
  ·refine ⟨_, rfl, fun j p hp => ⟨[.int .i64 p], rfl, rfl, fun i u hu => ?_⟩⟩
   have hj : j < l.length := (List.getElem?_eq_some_iff.1 hp).1
   match i, hu with
   | 0, hu =>
    simp at hu; subst hu
    rw [add_none]
    show w.cell? ⟨b, 0 + (j * 1 + 0), none⟩ = _
    rw [show 0 + (j * 1 + 0) = j from by omega, hB.cell, hcs j hj]
    simp [J.ints, hp]
 ·rcases hr with hr | ⟨b, cs, rfl, hb, hB, hcs⟩
  ·exact .inl (List.length_eq_zero_iff.1 hr)
  ·refine .inr ⟨b, 0, rfl, hB.lt, fun i hi => ?_⟩
   rw [Nat.zero_add, hB.cell, hcs i hi]
   simp [J.ints, hi]
theorem TasksAt.kd (h : TasksAt w B v T R) (hT : T.length ≤ 8) (hr : ∀ x ∈ T, x.f6.length ≤ 8) : ∃ A c, v = .slice A T.length c ∧ T.length ≤ c ∧ Kd.C k46 w A T.length T := by
 rcases Nat.eq_zero_or_pos T.length with h0 | h0
 ·rcases h.row.2 with ⟨rfl, h1⟩ | ⟨g, c, cur, rfl, hb, hh, hn, _⟩
  ·exact ⟨none, 0, by rw [h0], by omega, rfl, by omega, fun h => by omega⟩
  ·exact ⟨_, c, rfl, hn, rfl, by omega, fun h => by omega⟩
 ·obtain ⟨a, c, cs, hv, hb, hB, hc⟩ := h.at_ h0
  refine ⟨_, c, hv, ?_, rfl, by omega, fun _ => ⟨_, rfl, fun j p hp => ?_⟩⟩
  ·rcases h.row.2 with ⟨h1, h2⟩ | ⟨g, c', cur, h1, _, _, hn, _⟩
   ·omega
   ·rw [hv] at h1; injection h1 with _ _ h1; omega
  ·obtain ⟨hj, rfl⟩ := List.getElem?_eq_some_iff.1 hp
   obtain ⟨A, c', hrv, hcl, hC, _⟩ := ints_C (h.regs j hj) (by have := hr T[j] (List.getElem_mem hj); omega)
   refine ⟨tcells T[j] (R[j]'(by rw [h.len]; exact hj)), rfl, ?_, fun i u hu => ?_⟩
   ·rw [hrv]
    exact k46_mk w T[j] hcl hC
   ·have hi : i < 9 := by
     have := (List.getElem?_eq_some_iff.1 hu).1
     simpa [tcells] using this
    rw [add_none]
    show w.cell? ⟨a, 0 + (j * 9 + i), none⟩ = _
    rw [Nat.zero_add, hB.cell, hc j i hj hi, hu]
end
structure Kst where
 reload : Int
 tk : List S46
 tick : Int
 last : Int
 pol : List P.Wt
 cache : List Int
 tab : List T.St
 had : List Int
 loads : List Int
 job : List J.Jb
 ev : List Ev
def ocs : List Value → List Int → List Int → List Value
 | p :: P, h :: H, l :: L => p :: .int .u64 h :: .int .i64 l :: ocs P H L
 | _, _, _ => []
theorem ocs_at : ∀ (P : List Value) (H L : List Int) (_ : H.length = P.length) (_ : L.length = P.length) (i : Nat) (hi : i < P.length),
  (ocs P H L)[i * 3]? = some P[i] ∧ (ocs P H L)[i * 3 + 1]? = some (.int .u64 (H.getD i 0)) ∧ (ocs P H L)[i * 3 + 2]? = some (.int .i64 (L.getD i 0))
 | [], _, _, _, _, _, hi => by simp at hi
 | p :: P, [], _, h, _, _, _ => by simp at h
 | p :: P, _ :: _, [], _, h, _, _ => by simp at h
 | p :: P, h :: H, l :: L, h1, h2, i, hi => by
  cases i with
  | zero => simp [ocs]
  | succ i =>
   obtain ⟨a, b, c⟩ := ocs_at P H L (by simpa using h1) (by simpa using h2) i (by simpa using hi)
   refine ⟨?_, ?_, ?_⟩
   ·rw [show (i + 1) * 3 = i * 3 + 3 from by omega]; simpa [ocs] using a
   ·rw [show (i + 1) * 3 + 1 = (i * 3 + 1) + 3 from by omega]; simpa [ocs] using b
   ·rw [show (i + 1) * 3 + 2 = (i * 3 + 2) + 3 from by omega]; simpa [ocs] using c
theorem ocs_set : ∀ (P : List Value) (H L : List Int) (_ : H.length = P.length) (_ : L.length = P.length) (i : Nat) (_ : i < P.length) (p : Value) (h l : Int),
  (((ocs P H L).set (i * 3) p).set (i * 3 + 1) (.int .u64 h)).set (i * 3 + 2) (.int .i64 l) = ocs (P.set i p) (H.set i h) (L.set i l)
 | [], _, _, _, _, _, hi, _, _, _ => by simp at hi
 | p :: P, [], _, h, _, _, _, _, _, _ => by simp at h
 | p :: P, _ :: _, [], _, h, _, _, _, _, _ => by simp at h
 | p :: P, h :: H, l :: L, h1, h2, i, hi, p', h', l' => by
  cases i with
  | zero => simp [ocs]
  | succ i =>
   have := ocs_set P H L (by simpa using h1) (by simpa using h2) i (by simpa using hi) p' h' l'
   rw [show (i + 1) * 3 = i * 3 + 3 from by omega, show i * 3 + 3 + 1 = (i * 3 + 1) + 3 from by omega, show i * 3 + 3 + 2 = (i * 3 + 2) + 3 from by omega]
   simp [ocs, this]
theorem ocs_set2 : ∀ (P : List Value) (H L : List Int) (_ : H.length = P.length) (_ : L.length = P.length) (i : Nat) (_ : i < P.length) (l : Int),
  (ocs P H L).set (i * 3 + 2) (.int .i64 l) = ocs P H (L.set i l)
 | [], _, _, _, _, _, hi, _ => by simp at hi
 | p :: P, [], _, h, _, _, _, _ => by simp at h
 | p :: P, _ :: _, [], _, h, _, _, _ => by simp at h
 | p :: P, h :: H, l :: L, h1, h2, i, hi, l' => by
  cases i with
  | zero => simp [ocs]
  | succ i =>
   have := ocs_set2 P H L (by simpa using h1) (by simpa using h2) i (by simpa using hi) l'
   rw [show (i + 1) * 3 + 2 = (i * 3 + 2) + 3 from by omega]
   simp [ocs, this]
def JobPt (w : World) (B : Nat) (v : Value) (j : J.Jb) : Prop := ∃ p a ca b cb, v = .pointer (some ⟨p, 0, none⟩) ∧ B ≤ p ∧ J.JobAt w B p a ca b cb j
structure Ad where
 tv : Value
 R : List Value
 pp : Nat
 pa : Nat
 pc : Nat
 cp : Nat
 tp : Nat
 ta : Nat
 oa : Nat
def kcells (A : Ad) (K : Kst) (ev : Value) : Array Value :=
 #[.int .i64 K.reload, A.tv, .int .i64 K.tick, .int .i64 K.last, .pointer (some ⟨A.pp, 0, none⟩), .pointer (some ⟨A.cp, 0, none⟩), .pointer (some ⟨A.tp, 0, none⟩), .slice (some ⟨A.oa, 0, none⟩) K.tk.length K.tk.length, ev]
structure KAt (E : Nat) (w : World) (B kp : Nat) (A : Ad) (jv : List Value) (ev : Value) (pd : Nat → Bool) (K : Kst) : Prop where
 hd : Blk w kp 97 (kcells A K ev)
 tasks : TasksAt w B A.tv K.tk A.R
 pol : P.PolAt w B A.pp A.pa A.pc K.pol
 cache : CacheAt w A.cp K.cache
 tab : T.Tab w 133 A.tp A.ta K.tab
 own : Blk w A.oa 148 (ocs jv K.had K.loads).toArray
 evs : w.ownsRow E 50 4 ev K.ev.length (evs K.ev)
 jobs : ∀ i (h : i < jv.length), pd i = true → JobPt w B jv[i] (K.job.getD i ⟨[], [], 0, 0, 0, 0⟩)
 apart : ∀ i j (hi : i < jv.length) (hj : j < jv.length), i ≠ j → pd i = true → pd j = true → jv[i] ≠ jv[j]
 n1 : 1 ≤ K.tk.length
 n8 : K.tk.length ≤ 8
 lp : K.pol.length = K.tk.length
 lt : K.tab.length = K.tk.length
 lh : K.had.length = K.tk.length
 ll : K.loads.length = K.tk.length
 lj : K.job.length = K.tk.length
 lv : jv.length = K.tk.length
 bk : B ≤ kp
 bp : B ≤ A.pp
 bc : B ≤ A.cp
 bt : B ≤ A.tp
 bta : B ≤ A.ta
 bo : B ≤ A.oa
 be : B ≤ E
 eh : E ≤ w.heap.size
section
variable {w w' : World} {B kp : Nat} {A : Ad} {jv : List Value} {ev : Value} {pd : Nat → Bool} {K : Kst}
theorem JobPt.fr {v : Value} {j : J.Jb} {ts : List Nat} {C : Nat} (h : JobPt w B v j) (hf : Fr E ts C w w') (h1 : 186 ∉ ts) (h2 : 2 ∉ ts) : JobPt w' B v j := by
 obtain ⟨p, a, ca, b, cb, hv, hb, hj⟩ := h
 exact ⟨p, a, ca, b, cb, hv, hb, hj.hd.fr hf h1, own_fr hj.rs hf h2, own_fr hj.ds hf h2, hj.same, hj.ap, hj.bp⟩
theorem pol_fr {p a c : Nat} {L : List P.Wt} {ts : List Nat} {C : Nat} (h : P.PolAt w B p a c L) (hf : Fr E ts C w w') (h1 : 138 ∉ ts) (h2 : 140 ∉ ts) : P.PolAt w' B p a c L :=
 ⟨⟨h.pol.hd.fr hf h1, own_fr h.pol.own hf h2⟩, h.ne⟩
theorem KAt.fr {ts : List Nat} {C : Nat} (h : KAt E w B kp A jv ev pd K) (hf : Fr E ts C w w') (ht : ∀ t ∈ [97, 46, 2, 138, 140, 131, 133, 142, 148, 50, 186], t ∉ ts) : KAt E w' B kp A jv ev pd K := by
 have g : ∀ t, t ∈ [97, 46, 2, 138, 140, 131, 133, 142, 148, 50, 186] → t ∉ ts := ht
 exact ⟨h.hd.fr hf (g 97 (by decide)), h.tasks.fr hf (g 46 (by decide)) (g 2 (by decide)), pol_fr h.pol hf (g 138 (by decide)) (g 140 (by decide)), ⟨h.cache.len, h.cache.hd.fr hf (g 131 (by decide))⟩,
  ⟨h.tab.hd.fr hf (g 133 (by decide)), h.tab.row.fr hf (g 142 (by decide))⟩, h.own.fr hf (g 148 (by decide)), own_fr h.evs hf (g 50 (by decide)),
  fun i hi hp => (h.jobs i hi hp).fr hf (g 186 (by decide)) (g 2 (by decide)), h.apart, h.n1, h.n8, h.lp, h.lt, h.lh, h.ll, h.lj, h.lv, h.bk, h.bp, h.bc, h.bt, h.bta, h.bo, h.be, Nat.le_trans h.eh hf.size⟩
theorem KAt.drewN (h : KAt E w B kp A jv ev pd K) (n : Nat) : KAt E (w.drewN n) B kp A jv ev pd K := h.fr (Fr.drewN (Fr.refl [] 0 w) n) (by simp)
theorem KAt.drew (h : KAt E w B kp A jv ev pd K) : KAt E w.drew B kp A jv ev pd K := h.fr (Fr.drew (Fr.refl [] 0 w)) (by simp)
theorem KAt.alloc (h : KAt E w B kp A jv ev pd K) (o : Obj) : KAt E (w.alloc o) B kp A jv ev pd K := h.fr (Fr.of_none (ts := []) (B := 0) (only_alloc (World.grownBy.refl w none) o)) (by simp)
theorem KAt.note (h : KAt E w B kp A jv ev pd K) (kind task n : Int) (hL : K.ev.length ≤ 100000000) :
  Calls Tryz.prog 50 #[.pointer (some ⟨kp, 0, none⟩), .int .i64 kind, .int .i64 task, .int .i64 n] w fun e w' =>
   e = .returned (.tuple #[]) ∧ ∃ ev', KAt E w' B kp A jv ev' pd { K with ev := K.ev ++ [⟨K.tick, kind, task, n⟩] } ∧ Fr E [97, 50] B w w' := by
 refine (notes_any kind task n w h.hd rfl rfl h.evs h.bk h.be h.eh hL).mono ?_
 rintro e w' ⟨he, v', h1, h2, hf⟩
 refine ⟨he, v', ?_, hf⟩
 exact ⟨h1, h.tasks.fr hf (by decide) (by decide), pol_fr h.pol hf (by decide) (by decide), ⟨h.cache.len, h.cache.hd.fr hf (by decide)⟩,
  ⟨h.tab.hd.fr hf (by decide), h.tab.row.fr hf (by decide)⟩, h.own.fr hf (by decide), by simpa using h2,
  fun i hi hp => (h.jobs i hi hp).fr hf (by decide) (by decide), h.apart, h.n1, h.n8, h.lp, h.lt, h.lh, h.ll, h.lj, h.lv, h.bk, h.bp, h.bc, h.bt, h.bta, h.bo, h.be, Nat.le_trans h.eh hf.size⟩
end
structure KOk (K : Kst) : Prop where
 t0 : 0 ≤ K.tick
 t1 : K.tick ≤ 1099511627776
 regs : ∀ x ∈ K.tk, 1 ≤ x.f6.length ∧ x.f6.length ≤ 8 ∧ x.f6.any J.odd = false
 dl : ∀ x ∈ K.tk, 0 ≤ x.f2 ∧ x.f2 ≤ 10000
 ar : ∀ x ∈ K.tab, 0 ≤ x.a ∧ x.a ≤ K.tick
 pol : P.OkL K.pol
 sets : ∀ x ∈ K.tk, 0 ≤ x.f7 ∧ x.f7 < 18446744073709551616 ∧ 0 ≤ x.f8 ∧ x.f8 < 18446744073709551616
def lateAt (K : Kst) (i : Nat) : List Ev := if (T.getL K.tab i).p && decide ((T.getL K.tab i).a + (K.tk.getD i z46).f2 = K.tick) then [⟨K.tick, 3, i, 0⟩] else []
def lateL (K : Kst) (k : Nat) : List Ev := (List.range k).flatMap (lateAt K)
theorem lateL_succ (K : Kst) (k : Nat) : lateL K (k + 1) = lateL K k ++ lateAt K k := by simp [lateL, List.range_succ]
theorem lateL_len (K : Kst) (k : Nat) : (lateL K k).length ≤ k := by
 induction k with
 | zero => simp [lateL]
 | succ k ih =>
  rw [lateL_succ, List.length_append]
  have : (lateAt K k).length ≤ 1 := by unfold lateAt; split <;> simp
  omega
def Kst.plus (K : Kst) (l : List Ev) : Kst := { K with ev := K.ev ++ l }
theorem Kst.plus_nil (K : Kst) : K.plus [] = K := by simp [Kst.plus]
theorem Kst.plus_plus (K : Kst) (a b : List Ev) : (K.plus a).plus b = K.plus (a ++ b) := by simp [Kst.plus]
def KPost (E : Nat) (w : World) (B kp : Nat) (A : Ad) (jv : List Value) (pd : Nat → Bool) (ts : List Nat) (K : Kst) (e : Ending) (w' : World) : Prop :=
 e = .returned (.tuple #[]) ∧ ∃ ev', KAt E w' B kp A jv ev' pd K ∧ Fr E ts B w w'
theorem note_post {w : World} {B kp : Nat} {A : Ad} {jv : List Value} {ev : Value} {pd : Nat → Bool} {K : Kst} (h : KAt E w B kp A jv ev pd K) (kind task n : Int) (hL : K.ev.length ≤ 100000000) :
  Calls Tryz.prog 50 #[.pointer (some ⟨kp, 0, none⟩), .int .i64 kind, .int .i64 task, .int .i64 n] w (KPost E w B kp A jv pd [97, 50] (K.plus [⟨K.tick, kind, task, n⟩])) := h.note kind task n hL
theorem getL_mem {L : List T.St} {i : Nat} (h : i < L.length) : T.getL L i ∈ L := by rw [T.getL_in h]; exact List.getElem_mem h
set_option maxHeartbeats 8000000 in
theorem late_any {w : World} {B kp : Nat} {A : Ad} {jv : List Value} {ev : Value} {pd : Nat → Bool} {K : Kst} (h : KAt E w B kp A jv ev pd K) (hK : KOk K) (hL : K.ev.length ≤ 1000000) :
  Calls Tryz.prog 46 #[.pointer (some ⟨kp, 0, none⟩)] w (KPost E w B kp A jv pd [97, 50] (K.plus (lateL K K.tk.length))) := by
 obtain ⟨a, c, hv⟩ := h.tasks.slice h.n1
 have q1 : w.cell? ⟨kp, 1, none⟩ = some (.slice (some ⟨a, 0, none⟩) K.tk.length c) := by rw [h.hd.cell]; simp [kcells, hv]
 have n8 := h.n8
 have n1 := h.n1
 have HL0 := Lib.hid hL
 obtain ⟨n, hn⟩ : ∃ n, K.tk.length = n := ⟨_, rfl⟩
 have HN := Lib.hid hn
 rw [hn] at q1 n8 n1 ⊢
 have HV := Lib.hid hv
 clear hn hv
 go_enter Tryz.func46, Tryz.ntmps46
 go_wp2_with fail
 go_loopw [11] (fun z wr => ∃ (k : Nat) (ev' : Value), k ≤ n ∧ z = .int .i64 k ∧ KAt E wr B kp A jv ev' pd (K.plus (lateL K k)) ∧ Fr E [97, 50] B w wr) (fun z _ => n - (intOf z).toNat)
 case atStart => exact ⟨0, ev, Nat.zero_le _, rfl, by rw [show lateL K 0 = [] from rfl, Kst.plus_nil]; exact h, Fr.refl _ _ _⟩
 case round =>
  obtain ⟨k, ev', hk, rfl, hA, hF⟩ := hrel
  clear h
  by_cases hlt : k < n
  ·have hlk : k < K.tk.length := by rw [HN.out]; exact hlt
   obtain ⟨x, hx⟩ : ∃ x, K.tk[k]? = some x := ⟨_, List.getElem?_eq_getElem hlk⟩
   obtain ⟨a', c', ra, rc, hv', hal, hC, hrg⟩ := hA.tasks.task (T := K.tk) hx
   obtain ⟨rfl, rfl⟩ : a' = a ∧ c' = c := by
    rw [HV.out] at hv'
    injection hv' with h1 h2 h3
    injection h1 with h1
    injection h1 with h1
    exact ⟨h1.symm, h3.symm⟩
   obtain ⟨g0, g1, g2, g3, g4, g5, g6, g7, g8⟩ := hC
   have qt : wr.cell? ⟨kp, 6, none⟩ = some (.pointer (some ⟨A.tp, 0, none⟩)) := hA.hd.cell 6
   have hkl := hA.hd.lt
   have hxD : (K.tk.getD k z46).f2 = x.f2 := by rw [List.getD_eq_getElem?_getD, hx]; rfl
   have hD := hK.dl x (List.mem_of_getElem? hx)
   have hst : k < K.tab.length := by have := hA.lt; rw [show (K.plus (lateL K k)).tk = K.tk from rfl, show (K.plus (lateL K k)).tab = K.tab from rfl] at this; omega
   have hA2 := hK.ar _ (getL_mem hst)
   have hsl : T.stateL K.tab (k : Int) = if (T.getL K.tab k).p then T.getL K.tab k else ⟨false, false, false, 0⟩ := by
    unfold T.stateL
    rw [T.hasL_in hst, ← T.getL_in hst]
   have hla : lateAt K k = if (T.getL K.tab k).p && decide ((T.getL K.tab k).a + x.f2 = K.tick) then [⟨K.tick, 3, k, 0⟩] else [] := by unfold lateAt; rw [hxD]
   have hT := fun w1 (h1 : KAt E w1 B kp A jv ev' pd (K.plus (lateL K k))) => T.tstate_any A.tp A.ta K.tab (k : Int) w1 h1.tab
   obtain ⟨st, hs⟩ : ∃ st, T.getL K.tab k = st := ⟨_, rfl⟩
   rw [hs] at hA2 hsl hla
   obtain ⟨sp, ss, sm, sa⟩ := st
   simp only at hA2 hsl hla
   have HLA := Lib.hid hla
   have HSL := Lib.hid hsl
   have HA := Lib.hid hA
   have HT := Lib.hid hT
   have HF := Lib.hid hF
   clear hv' hrg hx hxD hst hs hsl hla hA hT hF
   have HB := Lib.hid (Blk.new wr 46 #[.string x.f0, .int .i64 x.f1, .int .i64 x.f2, .int .i64 x.f3, .int .i64 x.f4, .int .i64 x.f5, .slice ra x.f6.length rc, .int .u64 x.f7, .int .u64 x.f8])
   cases sp with
   | false =>
    have HE : Hid ((T.stateL K.tab (k : Int)).val = .agg #[.bool false, .bool false, .bool false, .int .i64 0]) := by unfold Hid; rw [HSL.out]; rfl
    have HN2 : Hid (lateL K (k + 1) = lateL K k) := by unfold Hid; rw [lateL_succ, HLA.out]; simp
    go_wp2_with fail
    refine (HT.out _ (HA.out.alloc _)).mono ?_
    rintro e w2 ⟨rfl, g⟩
    rw [HE.out]
    have K2 := (HA.out.alloc (.cells #[.string x.f0, .int .i64 x.f1, .int .i64 x.f2, .int .i64 x.f3, .int .i64 x.f4, .int .i64 x.f5, .slice ra x.f6.length rc, .int .u64 x.f7, .int .u64 x.f8] 46)).fr (Fr.of_none (ts := []) (B := 0) g) (by simp)
    have F2 := (HF.out.trans (Fr.of_none (only_alloc (World.grownBy.refl wr none) (.cells #[.string x.f0, .int .i64 x.f1, .int .i64 x.f2, .int .i64 x.f3, .int .i64 x.f4, .int .i64 x.f5, .slice ra x.f6.length rc, .int .u64 x.f7, .int .u64 x.f8] 46)))).trans (Fr.of_none g)
    have HK2 := Lib.hid K2
    have HF2 := Lib.hid F2
    clear K2 F2 HT HA HF HE HSL HB g g0 g1 g2 g3 g4 g5 g6 g7 g8 qt q1
    go_wp2_with fail
    go_quiet (fail)
    go_wp2_with fail
    go_roundw
    case rel => exact ⟨k + 1, _, by omega, by go_num, by rw [HN2.out]; exact (HK2.out.alloc _).drewN _, (HF2.out.trans (Fr.of_none (only_alloc (World.grownBy.refl w2 none) _))).drewN _⟩
    case measure => simp [intOf]; omega
   | true =>
    have HE : Hid ((T.stateL K.tab (k : Int)).val = .agg #[.bool true, .bool ss, .bool sm, .int .i64 sa]) := by unfold Hid; rw [HSL.out]; rfl
    have t0 := hK.t0
    have t1 := hK.t1
    have hs1 : IntKind.i64.wrap (sa + x.f2) = sa + x.f2 := IntWalk.i64_in _ (by omega)
    go_wp2_with fail
    refine (HT.out _ (HA.out.alloc _)).mono ?_
    rintro e w2 ⟨rfl, g⟩
    rw [HE.out]
    have K2 := (HA.out.alloc (.cells #[.string x.f0, .int .i64 x.f1, .int .i64 x.f2, .int .i64 x.f3, .int .i64 x.f4, .int .i64 x.f5, .slice ra x.f6.length rc, .int .u64 x.f7, .int .u64 x.f8] 46)).fr (Fr.of_none (ts := []) (B := 0) g) (by simp)
    have F2 := (HF.out.trans (Fr.of_none (only_alloc (World.grownBy.refl wr none) (.cells #[.string x.f0, .int .i64 x.f1, .int .i64 x.f2, .int .i64 x.f3, .int .i64 x.f4, .int .i64 x.f5, .slice ra x.f6.length rc, .int .u64 x.f7, .int .u64 x.f8] 46)))).trans (Fr.of_none g)
    have B2 := HB.out.grown g (by simp)
    have r2 : w2.cell? ⟨wr.heap.size, 2, none⟩ = some (.int .i64 x.f2) := B2.cell 2
    have rt : w2.cell? ⟨kp, 2, none⟩ = some (.int .i64 K.tick) := K2.hd.cell 2
    have hb2 := B2.lt
    have hk2 := K2.hd.lt
    have HK2 := Lib.hid K2
    have HF2 := Lib.hid F2
    clear K2 F2 HT HA HF HE HSL HB B2 g g0 g1 g2 g3 g4 g5 g6 g7 g8 qt q1
    by_cases hlate : sa + x.f2 = K.tick
    ·have hd1 : (sa + x.f2 == K.tick) = true := by simpa using hlate
     have HN2 : Hid (lateL K (k + 1) = lateL K k ++ [⟨K.tick, 3, k, 0⟩]) := by unfold Hid; rw [lateL_succ, HLA.out]; simp [hlate]
     have HL2 : Hid ((K.plus (lateL K k)).ev.length ≤ 100000000) := by
      unfold Hid
      have := lateL_len K k
      have := HL0.out
      simp only [Kst.plus, List.length_append]
      omega
     have HLT := Lib.hid hlate
     clear hlate
     go_wp2_with fail
     go_quiet (fail)
     go_wp2_with fail
     refine (note_post ((HK2.out.alloc (.cells #[.bool true, .bool ss, .bool sm, .int .i64 sa] 142)).drewN _) 3 k 0 HL2.out).mono ?_
     rintro e w3 ⟨rfl, ev2, K3, F3⟩
     have HK3 := Lib.hid K3
     have F4 := ((HF2.out.trans (Fr.of_none (only_alloc (World.grownBy.refl w2 none) (.cells #[.bool true, .bool ss, .bool sm, .int .i64 sa] 142)))).drewN _).trans F3
     have HF4 := Lib.hid F4
     clear K3 F3 F4 HK2 HF2 HL2 hs1 hd1 r2 rt
     go_wp2_with fail
     go_roundw
     case rel => exact ⟨k + 1, _, by omega, by go_num, by rw [HN2.out, ← Kst.plus_plus]; exact HK3.out, HF4.out⟩
     case measure => simp [intOf]; omega
    ·have hd1 : (sa + x.f2 == K.tick) = false := by simpa using hlate
     have HN2 : Hid (lateL K (k + 1) = lateL K k) := by unfold Hid; rw [lateL_succ, HLA.out]; simp [hlate]
     have HLT := Lib.hid hlate
     clear hlate
     go_wp2_with fail
     go_quiet (fail)
     clear hs1 hd1 r2 rt
     go_wp2_with fail
     go_roundw
     case rel => exact ⟨k + 1, _, by omega, by go_num, by rw [HN2.out]; exact (HK2.out.alloc _).drewN _, (HF2.out.trans (Fr.of_none (only_alloc (World.grownBy.refl w2 none) _))).drewN _⟩
     case measure => simp [intOf]; omega
  ·obtain rfl : k = n := by omega
   have HA := Lib.hid hA
   go_wp2_with fail
   go_end0
   exact ⟨rfl, _, HA.out, hF⟩
section
variable {w w' : World} {B kp : Nat} {A : Ad} {jv : List Value} {ev : Value} {pd : Nat → Bool} {K : Kst}
theorem KAt.putTab (h : KAt E w B kp A jv ev pd K) {L : List T.St} (hT : T.Tab w' 133 A.tp A.ta L) (hg : w.grownBy w' (some A.ta)) (hl : L.length = K.tab.length) :
  KAt E w' B kp A jv ev pd { K with tab := L } ∧ Fr E [142] B w w' := by
 have hf : Fr E [142] B w w' := Fr.of_blk hg h.tab.row h.bta (by simp)
 exact ⟨⟨h.hd.fr hf (by decide), h.tasks.fr hf (by decide) (by decide), pol_fr h.pol hf (by decide) (by decide), ⟨h.cache.len, h.cache.hd.fr hf (by decide)⟩, hT, h.own.fr hf (by decide), own_fr h.evs hf (by decide),
  fun i hi hp => (h.jobs i hi hp).fr hf (by decide) (by decide), h.apart, h.n1, h.n8, h.lp, by simp only; rw [hl]; exact h.lt, h.lh, h.ll, h.lj, h.lv, h.bk, h.bp, h.bc, h.bt, h.bta, h.bo, h.be, Nat.le_trans h.eh hf.size⟩, hf⟩
theorem KAt.putPol (h : KAt E w B kp A jv ev pd K) {L : List P.Wt} (hT : P.PolAt w' B A.pp A.pa A.pc L) (hg : w.grownBy w' (some A.pa)) (hl : L.length = K.pol.length) :
  KAt E w' B kp A jv ev pd { K with pol := L } ∧ Fr E [140] B w w' := by
 have hf : Fr E [140] B w w' := Fr.of_own (v := .slice (some ⟨A.pa, 0, none⟩) K.pol.length A.pc) (by simpa [Value.ownBlock] using hg) h.pol.pol.own (Nat.le_refl _) (by simp)
 exact ⟨⟨h.hd.fr hf (by decide), h.tasks.fr hf (by decide) (by decide), hT, ⟨h.cache.len, h.cache.hd.fr hf (by decide)⟩, ⟨h.tab.hd.fr hf (by decide), h.tab.row.fr hf (by decide)⟩, h.own.fr hf (by decide), own_fr h.evs hf (by decide),
  fun i hi hp => (h.jobs i hi hp).fr hf (by decide) (by decide), h.apart, h.n1, h.n8, by simp only; rw [hl]; exact h.lp, h.lt, h.lh, h.ll, h.lj, h.lv, h.bk, h.bp, h.bc, h.bt, h.bta, h.bo, h.be, Nat.le_trans h.eh hf.size⟩, hf⟩
theorem own_lower {base base' e size n : Nat} {v : Value} {xs : List Value} (h : w.ownsRow base e size v n xs) (hb : base' ≤ base) : w.ownsRow base' e size v n xs := by
 refine ⟨h.1, ?_⟩
 rcases h.2 with h0 | ⟨g, c, cur, hv, hg, rest⟩
 ·exact .inl h0
 ·exact .inr ⟨g, c, cur, hv, Nat.le_trans hb hg, rest⟩
theorem job_lower {base base' p a ca b cb : Nat} {j : J.Jb} (h : J.JobAt w base p a ca b cb j) (hb : base' ≤ base) : J.JobAt w base' p a ca b cb j := ⟨h.hd, own_lower h.rs hb, own_lower h.ds hb, h.same, h.ap, h.bp⟩
theorem JobPt.lt {v : Value} {j : J.Jb} (h : JobPt w B v j) : ∃ p, v = .pointer (some ⟨p, 0, none⟩) ∧ p < w.heap.size := by
 obtain ⟨p, a, ca, b, cb, hv, _, hj⟩ := h
 exact ⟨p, hv, hj.hd.lt⟩
def ownSet (w : World) (oa i : Nat) (p : Value) (h l : Int) : World := ((w.setCell ⟨oa, i * 3, none⟩ p).setCell ⟨oa, i * 3 + 1, none⟩ (.int .u64 h)).setCell ⟨oa, i * 3 + 2, none⟩ (.int .i64 l)
theorem grown_ownSet (w : World) (oa i : Nat) (p : Value) (h l : Int) : w.grownBy (ownSet w oa i p h l) (some oa) :=
 only_setCell (only_setCell (only_setCell (World.grownBy.refl w (some oa)) (p := ⟨oa, i * 3, none⟩) (.inl rfl) _) (p := ⟨oa, i * 3 + 1, none⟩) (.inl rfl) _) (p := ⟨oa, i * 3 + 2, none⟩) (.inl rfl) _
theorem KAt.setOwn (h : KAt E w B kp A jv ev pd K) {i : Nat} (hi : i < K.tk.length) {p a ca b cb : Nat} {j : J.Jb} (hj : J.JobAt w B p a ca b cb j) (hp : B ≤ p) (hnew : ∀ k (hk : k < jv.length), pd k = true → jv[k] ≠ .pointer (some ⟨p, 0, none⟩)) (hd l : Int) :
  KAt E (ownSet w A.oa i (.pointer (some ⟨p, 0, none⟩)) hd l) B kp A (jv.set i (.pointer (some ⟨p, 0, none⟩))) ev (fun k => k == i || pd k) { K with job := K.job.set i j, had := K.had.set i hd, loads := K.loads.set i l } ∧
   Fr E [148] B w (ownSet w A.oa i (.pointer (some ⟨p, 0, none⟩)) hd l) := by
 have hf : Fr E [148] B w (ownSet w A.oa i (.pointer (some ⟨p, 0, none⟩)) hd l) := Fr.of_blk (grown_ownSet _ _ _ _ _ _) h.own h.bo (by simp)
 have hlv := h.lv
 have hown : Blk (ownSet w A.oa i (.pointer (some ⟨p, 0, none⟩)) hd l) A.oa 148 (ocs (jv.set i (.pointer (some ⟨p, 0, none⟩))) (K.had.set i hd) (K.loads.set i l)).toArray := by
  have := ((h.own.set_ (i * 3) (.pointer (some ⟨p, 0, none⟩))).set_ (i * 3 + 1) (.int .u64 hd)).set_ (i * 3 + 2) (.int .i64 l)
  rw [← ocs_set jv K.had K.loads (by rw [h.lh, h.lv]) (by rw [h.ll, h.lv]) i (by rw [h.lv]; exact hi)]
  simpa [ownSet] using this
 refine ⟨⟨h.hd.fr hf (by decide), h.tasks.fr hf (by decide) (by decide), pol_fr h.pol hf (by decide) (by decide), ⟨h.cache.len, h.cache.hd.fr hf (by decide)⟩, ⟨h.tab.hd.fr hf (by decide), h.tab.row.fr hf (by decide)⟩, hown, own_fr h.evs hf (by decide),
  fun k hk hpk => ?_, fun k k' hk hk' hne hpk hpk' => ?_, h.n1, h.n8, h.lp, h.lt, by simp [h.lh], by simp [h.ll], by simp [h.lj], by simp [h.lv], h.bk, h.bp, h.bc, h.bt, h.bta, h.bo, h.be, Nat.le_trans h.eh hf.size⟩, hf⟩
 ·by_cases hki : k = i
  ·subst hki
   have hkj : k < K.job.length := by rw [h.lj]; exact hi
   have e : (K.job.set k j).getD k ⟨[], [], 0, 0, 0, 0⟩ = j := by simp [List.getD, hkj]
   simp only [e, List.getElem_set_self]
   exact (show JobPt w B _ j from ⟨p, a, ca, b, cb, rfl, hp, hj⟩).fr hf (by decide) (by decide)
  ·have e : (K.job.set i j).getD k ⟨[], [], 0, 0, 0, 0⟩ = K.job.getD k ⟨[], [], 0, 0, 0, 0⟩ := by simp [List.getD, Ne.symm hki]
   simp only [e, List.getElem_set_ne (Ne.symm hki)]
   exact (h.jobs k (by simpa using hk) (by simpa [hki] using hpk)).fr hf (by decide) (by decide)
 ·by_cases hki : k = i
  ·subst hki
   have hne2 : k ≠ k' := hne
   simp only [List.getElem_set_self, List.getElem_set_ne hne2]
   exact (hnew k' (by simpa using hk') (by simpa [Ne.symm hne2] using hpk')).symm
  ·by_cases hki' : k' = i
   ·subst hki'
    simp only [List.getElem_set_self, List.getElem_set_ne (Ne.symm hki)]
    exact hnew k (by simpa using hk) (by simpa [hki] using hpk)
   ·simp only [List.getElem_set_ne (Ne.symm hki), List.getElem_set_ne (Ne.symm hki')]
    exact h.apart k k' (by simpa using hk) (by simpa using hk') hne (by simpa [hki] using hpk) (by simpa [hki'] using hpk')
end
def admitK (K : Kst) (dm : List Int) (i : Nat) : Kst :=
 { K with tab := T.putL K.tab i K.tick, ev := K.ev ++ [⟨K.tick, 1, i, 0⟩], pol := P.noteL K.pol i K.tick, job := K.job.set i (J.jb0 (K.tk.getD i z46).f6 dm), had := K.had.set i 0, loads := K.loads.set i 0 }
def arriveK (D : List (List Int)) (K : Kst) (i : Nat) : Kst :=
 if K.tk.length ≤ i then K
 else if P.earlyL K.pol i K.tick then K.plus [⟨K.tick, 2, i, 1⟩]
 else if T.putOk K.tab i then admitK K (D.getD i []) i
 else K.plus [⟨K.tick, 2, i, 2⟩]
def pdOf (K : Kst) (i : Nat) : Bool := (T.getL K.tab i).p
def Dem (w : World) (A : Option Addr) (D : List (List Int)) : Prop :=
 D = [] ∨ ∃ b off, A = some ⟨b, off, none⟩ ∧ ∀ i (h : i < D.length), ∃ A0 c0, w.cell? ⟨b, off + i, none⟩ = some (.slice A0 D[i].length c0) ∧ Nums w A0 D[i]
theorem arriveK_tk (D : List (List Int)) (K : Kst) (i : Nat) : (arriveK D K i).tk = K.tk ∧ (arriveK D K i).tick = K.tick ∧ (arriveK D K i).last = K.last ∧ (arriveK D K i).reload = K.reload ∧ (arriveK D K i).cache = K.cache := by
 unfold arriveK
 split
 ·exact ⟨rfl, rfl, rfl, rfl, rfl⟩
 ·split
  ·exact ⟨rfl, rfl, rfl, rfl, rfl⟩
  ·split <;> exact ⟨rfl, rfl, rfl, rfl, rfl⟩
theorem arriveK_len (D : List (List Int)) (K : Kst) (i : Nat) : (arriveK D K i).ev.length ≤ K.ev.length + 1 := by
 unfold arriveK
 split
 ·omega
 ·split
  ·simp [Kst.plus]
  ·split <;> simp [Kst.plus, admitK]
theorem putL_mem {L : List T.St} {i v : Int} {x : T.St} (h : x ∈ T.putL L i v) : x ∈ L ∨ x = ⟨true, false, false, v⟩ := by
 unfold T.putL at h
 split at h
 ·rcases List.mem_or_eq_of_mem_set h with h | h
  ·exact .inl h
  ·exact .inr h
 ·exact .inl h
theorem putL_len (L : List T.St) (i v : Int) : (T.putL L i v).length = L.length := by
 unfold T.putL
 split <;> simp
theorem KOk.arrive {K : Kst} (h : KOk K) (D : List (List Int)) (i : Nat) : KOk (arriveK D K i) := by
 unfold arriveK
 split
 ·exact h
 ·split
  ·exact ⟨h.t0, h.t1, h.regs, h.dl, h.ar, h.pol, h.sets⟩
  ·split
   ·refine ⟨h.t0, h.t1, h.regs, h.dl, fun x hx => ?_, P.OkL.note h.pol i K.tick (by have := h.t1; omega), h.sets⟩
    rcases putL_mem hx with hx | rfl
    ·exact h.ar x hx
    ·exact ⟨h.t0, Int.le_refl _⟩
   ·exact ⟨h.t0, h.t1, h.regs, h.dl, h.ar, h.pol, h.sets⟩
def JPost (E : Nat) (w : World) (B kp : Nat) (A : Ad) (ts : List Nat) (K : Kst) (e : Ending) (w' : World) : Prop :=
 e = .returned (.tuple #[]) ∧ ∃ jv' ev', KAt E w' B kp A jv' ev' (pdOf K) K ∧ Fr E ts B w w'
theorem early_quiet {B p a cap : Nat} {L : List P.Wt} (n : Nat) (t : Int) (hn : n < L.length) (hL : P.OkL L) (h0 : -9223372036854775808 ≤ t) (h1 : t ≤ 9223372036854775807) {w : World} (h : P.PolAt w B p a cap L) (m : Nat) :
  Calls Tryz.prog 76 #[.pointer (some ⟨p, 0, none⟩), .int .i64 n, .int .i64 t] (w.drewN m) fun e w' => e = .returned (.bool (P.earlyL L n t)) ∧ ∃ k, w' = (w.drewN m).drewN k :=
 (P.early_yes n t hn hL h0 h1 (w.drewN m) (pol_fr h (Fr.drewN (Fr.refl (E := 0) [] 0 w) m) (by simp) (by simp))).mono fun _ _ ⟨he, k, hk⟩ => ⟨he, k, hk.symm⟩
theorem Fr.below0 {B : Nat} {w w' : World} (h : Fr E [] B w w') : Below w.heap.size w w' := ⟨h.os, h.tape, h.output, h.size, fun i hi => h.block i hi (.inr (by simp))⟩
theorem KAt.ocell {w : World} {B kp : Nat} {A : Ad} {jv : List Value} {ev : Value} {pd : Nat → Bool} {K : Kst} (h : KAt E w B kp A jv ev pd K) {i : Nat} (hi : i < jv.length) :
  w.cell? ⟨A.oa, i * 3, none⟩ = some jv[i] ∧ w.cell? ⟨A.oa, i * 3 + 1, none⟩ = some (.int .u64 (K.had.getD i 0)) ∧ w.cell? ⟨A.oa, i * 3 + 2, none⟩ = some (.int .i64 (K.loads.getD i 0)) := by
 obtain ⟨a, b, c⟩ := ocs_at jv K.had K.loads (by rw [h.lh, h.lv]) (by rw [h.ll, h.lv]) i hi
 exact ⟨(h.own.cell _).trans (by simpa using a), (h.own.cell _).trans (by simpa using b), (h.own.cell _).trans (by simpa using c)⟩
theorem pd_admit {K : Kst} {i : Nat} (hi : i < K.tab.length) (hp : T.putOk K.tab i = true) (K' : Kst) (hK' : K'.tab = T.putL K.tab i K.tick) : (fun k => k == i || pdOf K k) = pdOf K' := by
 funext k
 unfold pdOf
 rw [hK']
 have e : T.putL K.tab i K.tick = K.tab.set i ⟨true, false, false, K.tick⟩ := by unfold T.putL; rw [if_pos hp]; simp
 rw [e]
 by_cases hk : k = i
 ·subst hk
  simp [T.getL, hi]
 ·have : (k == i) = false := by simpa using hk
  rw [this]
  simp [T.getL, List.getElem?_set_ne (Ne.symm hk)]
set_option maxHeartbeats 16000000 in
theorem arrive_any {W w : World} {B kp : Nat} {A : Ad} {jv : List Value} {ev : Value} {K : Kst} {DA : Option Addr} {D : List (List Int)} {dc : Nat} {touch : Int} (arr : Nat) (harr : arr < 18446744073709551616)
  (hb : Below B W w) (hBW : B ≤ W.heap.size) (hB0 : 0 < B) (hT : DeB W) (hD : ∀ w', Fr E [97, 50, 142, 140, 148, 131, 186] B w w' → Dem w' DA D) (_ : D.length ≤ 20)
  (h : KAt E w B kp A jv ev (pdOf K) K) (hK : KOk K) (hL : K.ev.length ≤ 1000000) :
  Calls Tryz.prog 47 #[.pointer (some ⟨kp, 0, none⟩), .agg #[.int .u64 arr, .slice DA D.length dc, .int .u64 touch]] w (JPost E w B kp A [97, 50, 142, 140, 148] ((bitsL arr).foldl (arriveK D) K)) := by
 have hsz := hb.size
 have hlist := fun w1 (h1 : Below B W w1) => list_any arr harr w1 (hT.cellB hB0 h1) (Nat.lt_of_lt_of_le hB0 (Nat.le_trans hBW h1.size))
 have hlt := bitsL_lt arr harr
 have h64 : (bitsL arr).length ≤ 64 := bitsF_len 64 arr
 obtain ⟨l, hl⟩ : ∃ l, bitsL arr = l := ⟨_, rfl⟩
 rw [hl] at hlt h64 ⊢
 simp only [hl] at hlist
 have HLT := Lib.hid hlt
 have HT := Lib.hid hT
 have HD := Lib.hid hD
 have HLI := Lib.hid hlist
 clear hlt hl hT hD hlist
 have hB1 : Below B W (w.alloc (.cells #[.int .u64 arr, .slice DA D.length dc, .int .u64 touch] 57)) := hb.alloc (Nat.le_trans hBW hsz) _
 have hTb := Blk.new w 57 #[.int .u64 arr, .slice DA D.length dc, .int .u64 touch]
 have hA1 := h.alloc (.cells #[.int .u64 arr, .slice DA D.length dc, .int .u64 touch] 57)
 have hF1 : Fr E [97, 50, 142, 140, 148] B w (w.alloc (.cells #[.int .u64 arr, .slice DA D.length dc, .int .u64 touch] 57)) := Fr.of_none (only_alloc (World.grownBy.refl w none) _)
 have HB1 := Lib.hid hB1
 have HTb := Lib.hid hTb
 have HA1 := Lib.hid hA1
 have HF1 := Lib.hid hF1
 clear hB1 hTb hA1 hF1 h
 go_enter Tryz.func47, Tryz.ntmps47
 go_wp2_with fail
 obtain ⟨wa, hwa⟩ : ∃ wa, w.alloc (.cells #[.int .u64 arr, .slice DA D.length dc, .int .u64 touch] 57) = wa := ⟨_, rfl⟩
 obtain ⟨tb, htb⟩ : ∃ tb, w.heap.size = tb := ⟨_, rfl⟩
 have hB1 := HB1.out
 have hTb := HTb.out
 have hA1 := HA1.out
 have hF1 := HF1.out
 rw [hwa] at hB1 hTb hA1 hF1 ⊢
 rw [htb] at hTb ⊢
 clear hwa HB1 HTb HA1 HF1
 refine (HLI.out wa hB1).mono ?_
 rintro e w1 ⟨v, rfl, hown, hbl⟩
 obtain ⟨ra, rc, rfl, hnc, hrd⟩ := row_read hown
 have hA2 := hA1.fr (Fr.of_below (ts := []) (B := B) hbl) (by simp)
 have hF2 := hF1.trans (Fr.of_below (ts := [97, 50, 142, 140, 148]) (B := B) hbl)
 have hTb2 := hTb.below hbl hTb.lt
 have HR := Lib.hid hrd
 have HA2 := Lib.hid hA2
 have HF2 := Lib.hid hF2
 have HTb2 := Lib.hid hTb2
 clear hown hrd hA1 hF1 hTb hA2 hF2 hTb2 hbl hB1 HLI
 go_wp2_with fail
 go_loopw [11] (fun z wr => ∃ (k : Nat) (M : Kst) (jv' : List Value) (ev' : Value), k ≤ l.length ∧ z = .int .i64 k ∧ (l.take k).foldl (arriveK D) K = M ∧ KAt E wr B kp A jv' ev' (pdOf M) M ∧ KOk M ∧ M.tk = K.tk ∧ M.tick = K.tick ∧ M.ev.length ≤ K.ev.length + k ∧ Fr E [97, 50, 142, 140, 148] B w wr ∧ Fr E [97, 50, 142, 140, 148] B w1 wr) (fun z _ => l.length - (intOf z).toNat)
 case atStart => exact ⟨0, K, jv, ev, Nat.zero_le _, rfl, rfl, HA2.out, hK, rfl, rfl, by omega, HF2.out, Fr.refl _ _ _⟩
 case round =>
  obtain ⟨k, M, jv', ev', hk, rfl, hM, hA, hOK, htk, htick, hlen, hF, hF1⟩ := hrel
  by_cases hlt : k < l.length
  ·rcases HR.out with hz | ⟨b, cs, rfl, hb3, hB3, hcs⟩
   ·omega
   have hB4 := hB3.fr hF1 (by decide)
   have hi : (nums l)[k]? = some (.int .i64 (l[k] : Int)) := nums_at l k hlt
   have q0 : wr.cell? ⟨b, k, none⟩ = some (.int .i64 (l[k] : Int)) := (hB4.cell k).trans ((hcs k hlt).trans hi)
   have hi64 := HLT.out l[k] (List.getElem_mem hlt)
   have hnext : (l.take (k + 1)).foldl (arriveK D) K = arriveK D M l[k] := by
    rw [List.take_succ_eq_append_getElem hlt, List.foldl_append, hM]
    rfl
   obtain ⟨i, hie⟩ : ∃ i, l[k] = i := ⟨_, rfl⟩
   rw [hie] at q0 hi64 hnext
   obtain ⟨a, c, hv⟩ := hA.tasks.slice hA.n1
   have q1 : wr.cell? ⟨kp, 1, none⟩ = some (.slice (some ⟨a, 0, none⟩) M.tk.length c) := by rw [hA.hd.cell]; simp [kcells, hv]
   have n8 := hA.n8
   have hTr := HTb2.out.fr hF1 (by decide)
   have HTR := Lib.hid hTr
   have HDW : Hid (∀ w2, Fr E [97, 50, 142, 140, 148] B wr w2 → Dem w2 DA D) := fun w2 h2 => HD.out w2 ((hF.trans h2).mono (by simp))
   have HBW : Hid (∀ w2, Fr E [97, 50, 142, 140, 148] B wr w2 → Below B W w2) := fun w2 h2 => hb.trans ((hF.trans h2).below (Nat.le_refl _) (Nat.le_trans hBW hsz))
   obtain ⟨n, hn⟩ : ∃ n, M.tk.length = n := ⟨_, rfl⟩
   have hlen2 := arriveK_len D M i
   have htk2 := arriveK_tk D M i
   have hOK2 := hOK.arrive D i
   have HNX := Lib.hid hnext
   have HKK : Hid (∀ (jv2 : List Value) (ev2 : Value) (w2 : World), KAt E w2 B kp A jv2 ev2 (pdOf (arriveK D M i)) (arriveK D M i) → Fr E [97, 50, 142, 140, 148] B wr w2 →
     ∃ (k' : Nat) (M' : Kst) (jv' : List Value) (ev' : Value), k' ≤ l.length ∧ Value.int .i64 ((k + 1 : Nat) : Int) = .int .i64 k' ∧ (l.take k').foldl (arriveK D) K = M' ∧ KAt E w2 B kp A jv' ev' (pdOf M') M' ∧ KOk M' ∧ M'.tk = K.tk ∧ M'.tick = K.tick ∧ M'.ev.length ≤ K.ev.length + k' ∧ Fr E [97, 50, 142, 140, 148] B w w2 ∧ Fr E [97, 50, 142, 140, 148] B w1 w2) :=
    fun jv2 ev2 w2 hk2 hf2 => ⟨k + 1, _, jv2, ev2, by omega, rfl, hnext, hk2, hOK2, htk2.1.trans htk, htk2.2.1.trans htick, by omega, hF.trans hf2, hF1.trans hf2⟩
   have HN := Lib.hid hn
   rw [hn] at q1 n8
   have k0 : (0 : Int) ≤ (k : Int) := by omega
   have k1 : (k : Int) < (l.length : Int) := by omega
   clear hTr hM hie hi hcs hB3 hB4 hnext htk2 hlen2 hn htk htick
   by_cases hin : n ≤ i
   ·have e : arriveK D M i = M := by unfold arriveK; rw [if_pos (by rw [HN.out]; exact hin)]
    have HE := Lib.hid e
    have HA := Lib.hid hA
    clear e hA hF hF1 hOK hOK2
    go_wp2_with fail
    go_roundw
    case rel => exact HKK.out jv' ev' wr (by rw [HE.out]; exact HA.out) (Fr.refl _ _ _)
    case measure => simp [intOf]; omega
   ·have hip : i < M.pol.length := by rw [hA.lp, HN.out]; omega
    have hit : i < M.tab.length := by rw [hA.lt, HN.out]; omega
    have hik : i < M.tk.length := by rw [HN.out]; omega
    have t0 := hOK.t0
    have t1 := hOK.t1
    have HQ : Hid (∀ m, Calls Tryz.prog 76 #[.pointer (some ⟨A.pp, 0, none⟩), .int .i64 i, .int .i64 M.tick] (wr.drewN m) fun e w' => e = .returned (.bool (P.earlyL M.pol i M.tick)) ∧ ∃ k, w' = (wr.drewN m).drewN k) :=
     fun m => early_quiet i M.tick hip hOK.pol (by omega) (by omega) hA.pol m
    have r2 : wr.cell? ⟨kp, 2, none⟩ = some (.int .i64 M.tick) := hA.hd.cell 2
    have r4 : wr.cell? ⟨kp, 4, none⟩ = some (.pointer (some ⟨A.pp, 0, none⟩)) := hA.hd.cell 4
    have hML : M.ev.length ≤ 100000000 := by omega
    have HML := Lib.hid hML
    cases he : P.earlyL M.pol i M.tick with
    | true =>
     have e : arriveK D M i = M.plus [⟨M.tick, 2, i, 1⟩] := by unfold arriveK; rw [if_neg (by rw [HN.out]; exact hin), if_pos he]
     have HE := Lib.hid e
     have HEE := Lib.hid he
     have HA := Lib.hid hA
     clear e he hA hF hF1 hOK hOK2
     go_wp2_with fail
     go_quiet ((go_at_call 76; exact Calls.quiet_of (HQ.out _)))
     rw [HEE.out]
     go_wp2_with fail
     refine (note_post (HA.out.drewN _) 2 i 1 HML.out).mono ?_
     rintro e w3 ⟨rfl, ev2, K3, F3⟩
     rw [← HE.out] at K3
     have HK3 := Lib.hid K3
     have F4 := (Fr.drewN (Fr.refl [97, 50] B wr) _).trans F3
     have HF4 := Lib.hid (F4.mono (ts' := [97, 50, 142, 140, 148]) (by simp))
     clear K3 F3 F4 HA
     go_wp2_with fail
     go_roundw
     case rel =>
      have hpd : pdOf M = pdOf (arriveK D M i) := by rw [HE.out]; rfl
      exact HKK.out jv' ev2 w3 (by rw [← hpd]; exact HK3.out) HF4.out
     case measure => simp [intOf]; omega
    | false =>
     have HEE := Lib.hid he
     have r6 : wr.cell? ⟨kp, 6, none⟩ = some (.pointer (some ⟨A.tp, 0, none⟩)) := hA.hd.cell 6
     have hpt : ∀ w2, KAt E w2 B kp A jv' ev' (pdOf M) M → Calls Tryz.prog 77 #[.pointer (some ⟨A.tp, 0, none⟩), .int .i64 i, .int .i64 M.tick] w2 fun e w3 => e = .returned (.bool (T.putOk M.tab i)) ∧ KAt E w3 B kp A jv' ev' (pdOf M) { M with tab := T.putL M.tab i M.tick } ∧ Fr E [142] B w2 w3 := by
      intro w2 h2
      refine (T.tput_any A.tp A.ta M.tab i M.tick w2 h2.tab).mono ?_
      rintro e w3 ⟨he, hT, hg⟩
      exact ⟨he, (h2.putTab hT hg (putL_len _ _ _)).1, (h2.putTab hT hg (putL_len _ _ _)).2⟩
     have HPT := Lib.hid hpt
     have HA := Lib.hid hA
     have hkl := hA.hd.lt
     clear he hpt hA
     cases hp : T.putOk M.tab i with
     | false =>
      have e : arriveK D M i = M.plus [⟨M.tick, 2, i, 2⟩] := by unfold arriveK; rw [if_neg (by rw [HN.out]; exact hin), if_neg (by rw [HEE.out]; simp), if_neg (by rw [hp]; simp)]
      have e2 : T.putL M.tab i M.tick = M.tab := by unfold T.putL; rw [hp]; rfl
      have HE := Lib.hid e
      have HE2 := Lib.hid e2
      have HP := Lib.hid hp
      clear e e2 hp hF hF1 hOK hOK2
      go_wp2_with fail
      go_quiet ((go_at_call 76; exact Calls.quiet_of (HQ.out _)))
      rw [HEE.out]
      go_wp2_with fail
      obtain ⟨wq, hwq⟩ : ∃ wq, wr.drewN nq = wq := ⟨_, rfl⟩
      have KQ := HA.out.drewN nq
      have FQ := Fr.drewN (Fr.refl (E := E) [97, 50, 142, 140, 148] B wr) nq
      have u2 : wq.cell? ⟨kp, 2, none⟩ = some (.int .i64 M.tick) := by rw [← hwq]; exact r2
      have u6 : wq.cell? ⟨kp, 6, none⟩ = some (.pointer (some ⟨A.tp, 0, none⟩)) := by rw [← hwq]; exact r6
      rw [hwq] at KQ FQ ⊢
      have HKQ := Lib.hid KQ
      have HFQ := Lib.hid FQ
      clear hwq KQ FQ HA r2 r4 r6 q0 q1
      go_region_held3 (fun w' => w'.cell? ⟨kp, 6, none⟩ = some (.pointer (some ⟨A.tp, 0, none⟩)) ∧ w'.cell? ⟨kp, 2, none⟩ = some (.int .i64 M.tick)) (go_keep) ((go_at_call 77; refine (HPT.out _ HKQ.out.drew).mono ?_; rintro e w3 ⟨rfl, K3, F3⟩; rw [HP.out]; have u62 : w3.cell? ⟨kp, 6, none⟩ = some (.pointer (some ⟨A.tp, 0, none⟩)) := K3.hd.cell 6; have u22 : w3.cell? ⟨kp, 2, none⟩ = some (.int .i64 M.tick) := K3.hd.cell 2))
      rw [HE2.out] at K3
      have HK3 := Lib.hid K3
      have HF3 := Lib.hid F3
      clear K3 F3 u2 u6 u62 u22
      go_wp2_with fail
      refine (note_post (K := M) HK3.out 2 i 2 HML.out).mono ?_
      rintro e w4 ⟨rfl, ev2, K4, F4⟩
      rw [← HE.out] at K4
      have HK4 := Lib.hid K4
      have F5 := ((HFQ.out.trans (Fr.drew (Fr.refl _ B wq))).trans (HF3.out.mono (by simp))).trans (F4.mono (by simp))
      have HF5 := Lib.hid F5
      clear K4 F4 F5
      go_wp2_with fail
      go_roundw
      case rel =>
       have hpd : pdOf M = pdOf (arriveK D M i) := by rw [HE.out]; rfl
       exact HKK.out jv' ev2 w4 (by rw [← hpd]; exact HK4.out) HF5.out
      case measure => simp [intOf]; omega
     | true =>
      obtain ⟨x, hx⟩ : ∃ x, M.tk[i]? = some x := ⟨_, List.getElem?_eq_getElem hik⟩
      have HX := Lib.hid hx
      have HRG := Lib.hid (hOK.regs x (List.mem_of_getElem? hx))
      have hgx : M.tk.getD i z46 = x := by rw [List.getD_eq_getElem?_getD, hx]; rfl
      have HADM : Hid (∀ dm, admitK M dm i = { (({ M with tab := T.putL M.tab i M.tick } : Kst).plus [⟨M.tick, 1, i, 0⟩]) with pol := P.noteL M.pol i M.tick, job := M.job.set i (J.jb0 x.f6 dm), had := M.had.set i 0, loads := M.loads.set i 0 }) := by
       intro dm
       unfold admitK
       rw [hgx]
       rfl
      have hnt : ∀ w2 ev2 (M2 : Kst), KAt E w2 B kp A jv' ev2 (pdOf M) M2 → M2.pol = M.pol → Calls Tryz.prog 78 #[.pointer (some ⟨A.pp, 0, none⟩), .int .i64 i, .int .i64 M.tick] w2 fun e w3 => e = .returned (.bool (P.noteOk M.pol i M.tick)) ∧ KAt E w3 B kp A jv' ev2 (pdOf M) { M2 with pol := P.noteL M.pol i M.tick } ∧ Fr E [140] B w2 w3 := by
       intro w2 ev2 M2 h2 e2
       have hpp := h2.pol
       rw [e2] at hpp
       refine (P.note_yes i M.tick hip hOK.pol (by omega) (by omega) w2 hpp).mono ?_
       rintro e w3 ⟨he, hT, hg⟩
       exact ⟨he, (h2.putPol hT hg (by rw [e2, P.noteL_length])).1, (h2.putPol hT hg (by rw [e2, P.noteL_length])).2⟩
      have HNT := Lib.hid hnt
      have HP := Lib.hid hp
      clear hp hnt hx hgx hF hF1 hOK hOK2
      go_wp2_with fail
      go_quiet ((go_at_call 76; exact Calls.quiet_of (HQ.out _)))
      rw [HEE.out]
      go_wp2_with fail
      obtain ⟨wq, hwq⟩ : ∃ wq, wr.drewN nq = wq := ⟨_, rfl⟩
      have KQ := HA.out.drewN nq
      have FQ := Fr.drewN (Fr.refl (E := E) [97, 50, 142, 140, 148] B wr) nq
      have u2 : wq.cell? ⟨kp, 2, none⟩ = some (.int .i64 M.tick) := by rw [← hwq]; exact r2
      have u6 : wq.cell? ⟨kp, 6, none⟩ = some (.pointer (some ⟨A.tp, 0, none⟩)) := by rw [← hwq]; exact r6
      rw [hwq] at KQ FQ ⊢
      have HKQ := Lib.hid KQ
      have HFQ := Lib.hid FQ
      clear hwq KQ FQ HA r2 r4 r6 q0 q1
      go_region_held3 (fun w' => w'.cell? ⟨kp, 6, none⟩ = some (.pointer (some ⟨A.tp, 0, none⟩)) ∧ w'.cell? ⟨kp, 2, none⟩ = some (.int .i64 M.tick)) (go_keep) ((go_at_call 77; refine (HPT.out _ HKQ.out.drew).mono ?_; rintro e w3 ⟨rfl, K3, F3⟩; rw [HP.out]; have u62 : w3.cell? ⟨kp, 6, none⟩ = some (.pointer (some ⟨A.tp, 0, none⟩)) := K3.hd.cell 6; have u22 : w3.cell? ⟨kp, 2, none⟩ = some (.int .i64 M.tick) := K3.hd.cell 2))
      have HK3 := Lib.hid K3
      have HF3 := Lib.hid ((HFQ.out.trans (Fr.drew (Fr.refl _ B wq))).trans (F3.mono (ts' := [97, 50, 142, 140, 148]) (by simp)))
      clear K3 F3 u2 u6 u62 u22 HFQ HKQ
      go_wp2_with fail
      refine (note_post HK3.out 1 i 0 HML.out).mono ?_
      rintro e w4 ⟨rfl, ev2, K4, F4⟩
      have u4 : w4.cell? ⟨kp, 4, none⟩ = some (.pointer (some ⟨A.pp, 0, none⟩)) := K4.hd.cell 4
      have u2 : w4.cell? ⟨kp, 2, none⟩ = some (.int .i64 M.tick) := K4.hd.cell 2
      have HK4 := Lib.hid K4
      have HF4 := Lib.hid (HF3.out.trans (F4.mono (ts' := [97, 50, 142, 140, 148]) (by simp)))
      clear K4 F4 HF3 HK3
      go_wp2_with fail
      go_region_held3 (fun w' => w'.cell? ⟨kp, 4, none⟩ = some (.pointer (some ⟨A.pp, 0, none⟩)) ∧ w'.cell? ⟨kp, 2, none⟩ = some (.int .i64 M.tick)) (go_keep) ((go_at_call 78; refine (HNT.out _ _ _ HK4.out.drew rfl).mono ?_; rintro e w5 ⟨rfl, K5, F5⟩; have u42 : w5.cell? ⟨kp, 4, none⟩ = some (.pointer (some ⟨A.pp, 0, none⟩)) := K5.hd.cell 4; have u22 : w5.cell? ⟨kp, 2, none⟩ = some (.int .i64 M.tick) := K5.hd.cell 2))
      have F6 := (HF4.out.trans (Fr.drew (Fr.refl _ B w4))).trans (F5.mono (ts' := [97, 50, 142, 140, 148]) (by simp))
      have T6 := HTR.out.fr F6 (by decide)
      have v1 : w5.cell? ⟨tb, 1, none⟩ = some (.slice DA D.length dc) := T6.cell 1
      have v7 : w5.cell? ⟨kp, 7, none⟩ = some (.slice (some ⟨A.oa, 0, none⟩) M.tk.length M.tk.length) := K5.hd.cell 7
      obtain ⟨a5, c5, ra5, rc5, hv5, hal5, hC5, hrg5⟩ := K5.tasks.task (T := M.tk) HX.out
      have w1c : w5.cell? ⟨kp, 1, none⟩ = some (.slice (some ⟨a5, 0, none⟩) M.tk.length c5) := by rw [K5.hd.cell]; simp [kcells, hv5]
      have g6 := hC5.g6
      obtain ⟨hg1, hg2, hg3⟩ := HRG.out
      obtain ⟨A5, c5', hsl, _, _, hnums⟩ := ints_C hrg5 (by omega)
      obtain ⟨rfl, rfl⟩ : A5 = ra5 ∧ c5' = rc5 := by injection hsl with h1 _ h3; exact ⟨h1.symm, h3.symm⟩
      rw [HN.out] at v7 w1c
      have ne1 : kp ≠ A.oa := K5.hd.ne_ K5.own (by decide)
      have ne2 : a5 ≠ A.oa := by
       obtain ⟨a6, c6, cs6, hv6, _, hB6, _⟩ := K5.tasks.at_ K5.n1
       rw [hv5] at hv6
       injection hv6 with h1 _ _
       injection h1 with h1
       injection h1 with h1
       rw [h1]
       exact hB6.ne_ K5.own (by decide)
      have ne3 := ne1.symm
      have ne4 := ne2.symm
      have hkl5 := K5.hd.lt
      have HDM5 := Lib.hid (HDW.out w5 F6)
      have HK5 := Lib.hid K5
      have HF6 := Lib.hid F6
      have HNU := Lib.hid hnums
      have HHG := Lib.hid hg3
      clear K5 F5 F6 T6 hv5 hC5 hrg5 hsl hnums hg3 HF4 HK4 HTR HBW HDW u4 u2 u42 u22
      have jlt : i < jv'.length := by have := HK5.out.lv; rw [this]; exact hik
      have hio : (i : Int) < (n : Int) := by omega
      have i0 : (0 : Int) ≤ (i : Int) := by omega
      by_cases hdl : i < D.length
      ·have hdm := HDM5.out
       rcases hdm with hdm | ⟨bd, offd, rfl, hcd⟩
       ·rw [hdm] at hdl; simp at hdl
       obtain ⟨Ad, cd, hcell, hnd⟩ := hcd i hdl
       have hgd : D.getD i [] = D[i] := by rw [List.getD_eq_getElem?_getD, List.getElem?_eq_getElem hdl]; rfl
       have e : arriveK D M i = admitK M D[i] i := by unfold arriveK; rw [if_neg (by rw [HN.out]; exact hin), if_neg (by rw [HEE.out]; simp), if_pos HP.out, hgd]
       have HE := Lib.hid (e.trans (HADM.out D[i]))
       have HNEW : Hid (∀ w6, Fr E [] B w5 w6 → Calls Tryz.prog 79 #[.slice A5 x.f6.length c5', .slice Ad D[i].length cd] w6 fun e w7 => ∃ p a ca b cb, e = .returned (.pointer (some ⟨p, 0, none⟩)) ∧ J.JobAt w7 w6.heap.size p a ca b cb (J.jb0 x.f6 D[i]) ∧ Below w6.heap.size w6 w7 ∧ w6.heap.size ≤ p) :=
        fun w6 h6 => J.new_yes A5 Ad c5' cd x.f6 D[i] w6 (HNU.out.below (h6.below0)) (hnd.below (h6.below0)) (by omega) hg2 HHG.out
       obtain ⟨dl, hdle⟩ : ∃ dl, D[i].length = dl := ⟨_, rfl⟩
       rw [hdle] at hcell HNEW
       clear hgd e hcd hnd hdle
       go_wp2_with fail
       go_region_held3 (fun w' => w'.cell? ⟨kp, 7, none⟩ = some (.slice (some ⟨A.oa, 0, none⟩) n n) ∧ w'.cell? ⟨kp, 1, none⟩ = some (.slice (some ⟨a5, 0, none⟩) n c5) ∧ w'.cell? ⟨a5, i * 9 + 6, none⟩ = some (.slice A5 x.f6.length c5')) (go_keep) ((go_at_call 79; refine (HNEW.out _ (Fr.drew (Fr.refl [] B w5))).mono ?_; rintro e w7 ⟨p, ja, jca, jb, jcb, rfl, hJ, hJb, hJp⟩; have K7 := HK5.out.fr ((Fr.drew (Fr.refl [] B w5)).trans (Fr.of_below hJb)) (by simp); obtain ⟨o0, o1, o2⟩ := KAt.ocell K7 jlt; have s7 : w7.cell? ⟨kp, 7, none⟩ = some (.slice (some ⟨A.oa, 0, none⟩) n n) := (hJb.cell hkl5).trans v7; have s1 : w7.cell? ⟨kp, 1, none⟩ = some (.slice (some ⟨a5, 0, none⟩) n c5) := (hJb.cell hkl5).trans w1c; have s6 : w7.cell? ⟨a5, i * 9 + 6, none⟩ = some (.slice A5 x.f6.length c5') := (hJb.cell hal5).trans g6; have fo := fun j => K7.own.frozen j; have fo0 := fo (i * 3); have fo1 := fo (i * 3 + 1); have fo2 := fo (i * 3 + 2); clear fo))
       have hnew : ∀ k (hk : k < jv'.length), pdOf M k = true → jv'[k] ≠ .pointer (some ⟨p, 0, none⟩) := by
        intro k hk hpk e
        obtain ⟨p', hv', hlt'⟩ := (HK5.out.jobs k hk hpk).lt
        rw [hv'] at e
        injection e with e
        injection e with e
        injection e with e
        subst e
        have : w5.heap.size ≤ p' := hJp
        omega
       have hB5 : B ≤ w5.heap.size := by have := HK5.out.bk; omega
       obtain ⟨K8, F8⟩ := K7.setOwn hik (job_lower hJ (show B ≤ w5.heap.size from hB5)) (Nat.le_trans hB5 hJp) hnew 0 0
       have hpd := pd_admit hit HP.out (arriveK D M i) (by rw [HE.out]; rfl)
       rw [hpd] at K8
       have F9 := ((HF6.out.trans (Fr.drew (Fr.refl _ B w5))).trans (Fr.of_below hJb)).trans (F8.mono (ts' := [97, 50, 142, 140, 148]) (by simp))
       obtain ⟨w8, hw8⟩ : ∃ w8, ownSet w7 A.oa i (.pointer (some ⟨p, 0, none⟩)) 0 0 = w8 := ⟨_, rfl⟩
       have hw9 := hw8
       unfold ownSet at hw9
       rw [hw8] at K8 F9
       rw [hw9]
       have HK8 := Lib.hid K8
       have HF9 := Lib.hid F9
       clear hw8 hw9 K7 K8 F8 F9 hJ hJb hJp o0 o1 o2 s7 s1 s6 fo0 fo1 fo2 hnew hpd v7 w1c g6 v1
       go_wp2_with fail
       go_roundw
       case rel => exact HKK.out _ _ w8 (Eq.mp (congrArg (fun Z => KAt E w8 B kp A _ ev2 (pdOf (arriveK D M i)) Z) HE.out.symm) HK8.out) HF9.out
       case measure => simp [intOf]; omega
      ·have hgd : D.getD i [] = [] := by rw [List.getD_eq_getElem?_getD, List.getElem?_eq_none (by omega)]; rfl
       have e : arriveK D M i = admitK M [] i := by unfold arriveK; rw [if_neg (by rw [HN.out]; exact hin), if_neg (by rw [HEE.out]; simp), if_pos HP.out, hgd]
       have HE := Lib.hid (e.trans (HADM.out []))
       have HNEW : Hid (∀ w6, Fr E [] B w5 w6 → Calls Tryz.prog 79 #[.slice A5 x.f6.length c5', .slice none 0 0] w6 fun e w7 => ∃ p a ca b cb, e = .returned (.pointer (some ⟨p, 0, none⟩)) ∧ J.JobAt w7 w6.heap.size p a ca b cb (J.jb0 x.f6 []) ∧ Below w6.heap.size w6 w7 ∧ w6.heap.size ≤ p) :=
        fun w6 h6 => J.new_yes A5 none c5' 0 x.f6 [] w6 (HNU.out.below (h6.below0)) (.inl rfl) (by omega) hg2 HHG.out
       clear hgd e
       go_wp2_with fail
       go_region_held3 (fun w' => w'.cell? ⟨kp, 7, none⟩ = some (.slice (some ⟨A.oa, 0, none⟩) n n) ∧ w'.cell? ⟨kp, 1, none⟩ = some (.slice (some ⟨a5, 0, none⟩) n c5) ∧ w'.cell? ⟨a5, i * 9 + 6, none⟩ = some (.slice A5 x.f6.length c5')) (go_keep) ((go_at_call 79; refine (HNEW.out _ (Fr.drew (Fr.refl [] B w5))).mono ?_; rintro e w7 ⟨p, ja, jca, jb, jcb, rfl, hJ, hJb, hJp⟩; have K7 := HK5.out.fr ((Fr.drew (Fr.refl [] B w5)).trans (Fr.of_below hJb)) (by simp); obtain ⟨o0, o1, o2⟩ := KAt.ocell K7 jlt; have s7 : w7.cell? ⟨kp, 7, none⟩ = some (.slice (some ⟨A.oa, 0, none⟩) n n) := (hJb.cell hkl5).trans v7; have s1 : w7.cell? ⟨kp, 1, none⟩ = some (.slice (some ⟨a5, 0, none⟩) n c5) := (hJb.cell hkl5).trans w1c; have s6 : w7.cell? ⟨a5, i * 9 + 6, none⟩ = some (.slice A5 x.f6.length c5') := (hJb.cell hal5).trans g6; have fo := fun j => K7.own.frozen j; have fo0 := fo (i * 3); have fo1 := fo (i * 3 + 1); have fo2 := fo (i * 3 + 2); clear fo))
       have hnew : ∀ k (hk : k < jv'.length), pdOf M k = true → jv'[k] ≠ .pointer (some ⟨p, 0, none⟩) := by
        intro k hk hpk e
        obtain ⟨p', hv', hlt'⟩ := (HK5.out.jobs k hk hpk).lt
        rw [hv'] at e
        injection e with e
        injection e with e
        injection e with e
        subst e
        have : w5.heap.size ≤ p' := hJp
        omega
       have hB5 : B ≤ w5.heap.size := by have := HK5.out.bk; omega
       obtain ⟨K8, F8⟩ := K7.setOwn hik (job_lower hJ (show B ≤ w5.heap.size from hB5)) (Nat.le_trans hB5 hJp) hnew 0 0
       have hpd := pd_admit hit HP.out (arriveK D M i) (by rw [HE.out]; rfl)
       rw [hpd] at K8
       have F9 := ((HF6.out.trans (Fr.drew (Fr.refl _ B w5))).trans (Fr.of_below hJb)).trans (F8.mono (ts' := [97, 50, 142, 140, 148]) (by simp))
       obtain ⟨w8, hw8⟩ : ∃ w8, ownSet w7 A.oa i (.pointer (some ⟨p, 0, none⟩)) 0 0 = w8 := ⟨_, rfl⟩
       have hw9 := hw8
       unfold ownSet at hw9
       rw [hw8] at K8 F9
       rw [hw9]
       have HK8 := Lib.hid K8
       have HF9 := Lib.hid F9
       clear hw8 hw9 K7 K8 F8 F9 hJ hJb hJp o0 o1 o2 s7 s1 s6 fo0 fo1 fo2 hnew hpd v7 w1c g6 v1
       go_wp2_with fail
       go_roundw
       case rel => exact HKK.out _ _ w8 (Eq.mp (congrArg (fun Z => KAt E w8 B kp A _ ev2 (pdOf (arriveK D M i)) Z) HE.out.symm) HK8.out) HF9.out
       case measure => simp [intOf]; omega
  ·obtain rfl : k = l.length := by omega
   rw [List.take_length] at hM
   have HM := Lib.hid hM
   have HA := Lib.hid hA
   clear hA hM
   go_wp2_with fail
   go_end0
   exact ⟨rfl, jv', ev', by rw [HM.out]; exact HA.out, hF⟩
section
variable {w w' : World} {B kp : Nat} {A : Ad} {jv : List Value} {ev : Value} {pd : Nat → Bool} {K : Kst}
theorem KAt.putCache (h : KAt E w B kp A jv ev pd K) {L : List Int} (hT : CacheAt w' A.cp L) (hg : w.grownBy w' (some A.cp)) :
  KAt E w' B kp A jv ev pd { K with cache := L } ∧ Fr E [131] B w w' := by
 have hf : Fr E [131] B w w' := Fr.of_blk hg h.cache.hd h.bc (by simp)
 exact ⟨⟨h.hd.fr hf (by decide), h.tasks.fr hf (by decide) (by decide), pol_fr h.pol hf (by decide) (by decide), hT, ⟨h.tab.hd.fr hf (by decide), h.tab.row.fr hf (by decide)⟩, h.own.fr hf (by decide), own_fr h.evs hf (by decide),
  fun i hi hp => (h.jobs i hi hp).fr hf (by decide) (by decide), h.apart, h.n1, h.n8, h.lp, h.lt, h.lh, h.ll, h.lj, h.lv, h.bk, h.bp, h.bc, h.bt, h.bta, h.bo, h.be, Nat.le_trans h.eh hf.size⟩, hf⟩
theorem KAt.putLoads (h : KAt E w B kp A jv ev pd K) {i : Nat} (hi : i < K.tk.length) (l : Int) :
  KAt E (w.setCell ⟨A.oa, i * 3 + 2, none⟩ (.int .i64 l)) B kp A jv ev pd { K with loads := K.loads.set i l } ∧ Fr E [148] B w (w.setCell ⟨A.oa, i * 3 + 2, none⟩ (.int .i64 l)) := by
 have hf : Fr E [148] B w (w.setCell ⟨A.oa, i * 3 + 2, none⟩ (.int .i64 l)) := Fr.of_blk (only_setCell (World.grownBy.refl w (some A.oa)) (p := ⟨A.oa, i * 3 + 2, none⟩) (.inl rfl) _) h.own h.bo (by simp)
 have hown := h.own.set_ (i * 3 + 2) (.int .i64 l)
 have e := ocs_set2 jv K.had K.loads (by rw [h.lh, h.lv]) (by rw [h.ll, h.lv]) i (by rw [h.lv]; exact hi) l
 rw [List.setIfInBounds_toArray, e] at hown
 exact ⟨⟨h.hd.fr hf (by decide), h.tasks.fr hf (by decide) (by decide), pol_fr h.pol hf (by decide) (by decide), ⟨h.cache.len, h.cache.hd.fr hf (by decide)⟩, ⟨h.tab.hd.fr hf (by decide), h.tab.row.fr hf (by decide)⟩, hown, own_fr h.evs hf (by decide),
  fun i hi hp => (h.jobs i hi hp).fr hf (by decide) (by decide), h.apart, h.n1, h.n8, h.lp, h.lt, h.lh, by simp [h.ll], h.lj, h.lv, h.bk, h.bp, h.bc, h.bt, h.bta, h.bo, h.be, Nat.le_trans h.eh hf.size⟩, hf⟩
theorem KAt.putJob (h : KAt E w B kp A jv ev pd K) {i p a ca b cb : Nat} (hi : i < jv.length) (hpi : pd i = true) (hv : jv[i] = .pointer (some ⟨p, 0, none⟩)) (hp : B ≤ p) {j : J.Jb} (hJ0 : ∃ cs, Blk w p 186 cs) (hJ : J.JobAt w' B p a ca b cb j) (hg : w.grownBy w' (some p)) :
  KAt E w' B kp A jv ev pd { K with job := K.job.set i j } ∧ Fr E [186] B w w' := by
 obtain ⟨cs0, hb0⟩ := hJ0
 have hf : Fr E [186] B w w' := Fr.of_blk hg hb0 hp (by simp)
 refine ⟨⟨h.hd.fr hf (by decide), h.tasks.fr hf (by decide) (by decide), pol_fr h.pol hf (by decide) (by decide), ⟨h.cache.len, h.cache.hd.fr hf (by decide)⟩, ⟨h.tab.hd.fr hf (by decide), h.tab.row.fr hf (by decide)⟩, h.own.fr hf (by decide), own_fr h.evs hf (by decide),
  fun k hk hpk => ?_, h.apart, h.n1, h.n8, h.lp, h.lt, h.lh, h.ll, by simp [h.lj], h.lv, h.bk, h.bp, h.bc, h.bt, h.bta, h.bo, h.be, Nat.le_trans h.eh hf.size⟩, hf⟩
 by_cases hki : k = i
 ·subst hki
  have hkj : k < K.job.length := by rw [h.lj, ← h.lv]; exact hk
  have e : (K.job.set k j).getD k ⟨[], [], 0, 0, 0, 0⟩ = j := by simp [List.getD, hkj]
  simp only [e]
  exact ⟨p, a, ca, b, cb, hv, hp, hJ⟩
 ·have e : (K.job.set i j).getD k ⟨[], [], 0, 0, 0, 0⟩ = K.job.getD k ⟨[], [], 0, 0, 0, 0⟩ := by simp [List.getD, Ne.symm hki]
  simp only [e]
  obtain ⟨p', a', ca', b', cb', hv', hb', hj'⟩ := h.jobs k hk hpk
  have hne : p' ≠ p := by
   intro e2
   subst e2
   exact h.apart k i hk hi hki hpk hpi (by rw [hv', hv])
  refine ⟨p', a', ca', b', cb', hv', hb', hj'.hd.grown hg (by simpa using hne), own_fr hj'.rs hf (by decide), own_fr hj'.ds hf (by decide), hj'.same, hj'.ap, hj'.bp⟩
theorem KAt.less (h : KAt E w B kp A jv ev pd K) {pd' : Nat → Bool} (hp : ∀ k, pd' k = true → pd k = true) : KAt E w B kp A jv ev pd' K :=
 ⟨h.hd, h.tasks, h.pol, h.cache, h.tab, h.own, h.evs, fun i hi hpi => h.jobs i hi (hp i hpi), fun i j hi hj hne h1 h2 => h.apart i j hi hj hne (hp i h1) (hp j h2), h.n1, h.n8, h.lp, h.lt, h.lh, h.ll, h.lj, h.lv, h.bk, h.bp, h.bc, h.bt, h.bta, h.bo, h.be, h.eh⟩
end
theorem midL_len (L : List T.St) (i : Int) (b : Bool) : (T.midL L i b).length = L.length := by unfold T.midL; split <;> simp
theorem dropL_len (L : List T.St) (i : Int) : (T.dropL L i).length = L.length := by unfold T.dropL; split <;> simp
theorem beginL_len (L : List T.St) (i : Int) : (T.beginL L i).length = L.length := by unfold T.beginL; split <;> simp
theorem getL_set {L : List T.St} {i k : Nat} {x : T.St} (hi : i < L.length) : T.getL (L.set i x) k = if k = i then x else T.getL L k := by
 by_cases hk : k = i
 ·subst hk; simp [T.getL, hi]
 ·rw [if_neg hk]; simp [T.getL, List.getElem?_set_ne (Ne.symm hk)]
theorem mid_p (L : List T.St) (i k : Nat) (b : Bool) : (T.getL (T.midL L i b) k).p = (T.getL L k).p := by
 unfold T.midL
 split
 ·rename_i h
  obtain ⟨n, hn, e, hp⟩ := T.hasL_true h
  obtain rfl : i = n := by omega
  rw [Int.toNat_natCast, getL_set hn]
  split
  ·rename_i hk; subst hk; rfl
  ·rfl
 ·rfl
theorem begin_p (L : List T.St) (i k : Nat) : (T.getL (T.beginL L i) k).p = (T.getL L k).p := by
 unfold T.beginL
 split
 ·rename_i h
  obtain ⟨n, hn, e, hp⟩ := T.hasL_true h
  obtain rfl : i = n := by omega
  rw [Int.toNat_natCast, getL_set hn]
  split
  ·rename_i hk; subst hk; rfl
  ·rfl
 ·rfl
theorem drop_p (L : List T.St) (i k : Nat) : (T.getL (T.dropL L i) k).p = true → (T.getL L k).p = true := by
 unfold T.dropL
 split
 ·rename_i h
  obtain ⟨n, hn, e, hp⟩ := T.hasL_true h
  obtain rfl : i = n := by omega
  rw [Int.toNat_natCast, getL_set hn]
  split
  ·simp
  ·exact id
 ·exact id
def Kst.job1 (K : Kst) (i : Nat) : J.Jb := K.job.getD i ⟨[], [], 0, 0, 0, 0⟩
def tookK (K : Kst) (i : Nat) : Int := K.tick + 1 - (T.stateL K.tab i).a
def endK (K : Kst) (i : Nat) (r how : Int) : Kst :=
 let K3 := if how = 1 ∨ how = 2 then K.plus [⟨K.tick, 7, i, r⟩] else K
 if how = 2 then { K3.plus [⟨K.tick, 8, i, tookK K i⟩] with tab := T.dropL K.tab i }
 else if how = 3 then { K3.plus [⟨K.tick, 9, i, tookK K i⟩] with tab := T.dropL K.tab i }
 else K3
def runsK (K : Kst) (i touch : Nat) : Kst :=
 let K1 := { K with cache := touchL i (bitsL (touch &&& (K.tk.getD i z46).f7.toNat)) K.cache }
 if 0 < K.loads.getD i 0 then { K1 with loads := K.loads.set i (K.loads.getD i 0 - 1), tab := T.midL K.tab i true }
 else
  let t := J.tick (K.job1 i)
  endK { K1 with job := K.job.set i t.1, tab := T.midL K.tab i (decide (0 < t.1.had)) } i t.2.1 t.2.2
structure JobOk (j : J.Jb) : Prop where
 k : j.how = 0 → j.k < j.rs.length
 n : j.rs.length ≤ 8
 h0 : 0 ≤ j.had
 h1 : j.had ≤ 1000000
 a0 : 0 ≤ j.all
 a1 : j.all ≤ 1000000
theorem state_val {L : List T.St} {i : Nat} (hi : i < L.length) (hp : (T.getL L i).p = true) : (T.stateL L i).val = .agg #[.bool true, .bool (T.getL L i).s, .bool (T.getL L i).m, .int .i64 (T.stateL L i).a] := by
 have e : T.stateL L i = T.getL L i := by unfold T.stateL; rw [T.hasL_in hi, ← T.getL_in hi, hp]; rfl
 rw [e]
 cases hg : T.getL L i with
 | mk p s m a =>
  rw [hg] at hp
  simp only at hp
  subst hp
  rfl
theorem mid_a (L : List T.St) (i : Nat) (b : Bool) : (T.getL (T.midL L i b) i).a = (T.getL L i).a := by
 unfold T.midL
 split
 ·rename_i h
  obtain ⟨n, hn, e, hp⟩ := T.hasL_true h
  obtain rfl : i = n := by omega
  rw [Int.toNat_natCast, getL_set hn, if_pos rfl]
 ·rfl
theorem state_a {L : List T.St} {i : Nat} (hi : i < L.length) (hp : (T.getL L i).p = true) : (T.stateL L i).a = (T.getL L i).a := by
 unfold T.stateL
 rw [T.hasL_in hi, ← T.getL_in hi, hp]
 rfl
theorem field1 (W : World) (b1 b2 b3 : Bool) (z : Int) : (Instr.field 142 (.agg #[.bool b1, .bool b2, .bool b3, .int .i64 z]) 1).run Tryz.prog W = .ok (.bool b2) W := by kernel_rfl
theorem field3 (W : World) (b1 b2 b3 : Bool) (z : Int) : (Instr.field 142 (.agg #[.bool b1, .bool b2, .bool b3, .int .i64 z]) 3).run Tryz.prog W = .ok (.int .i64 z) W := by kernel_rfl
theorem mid_post {w : World} {B kp : Nat} {A : Ad} {jv : List Value} {ev : Value} {pd : Nat → Bool} {K : Kst} (h : KAt E w B kp A jv ev pd K) (i : Nat) (b : Bool) :
  Calls Tryz.prog 89 #[.pointer (some ⟨A.tp, 0, none⟩), .int .i64 i, .bool b] w fun e w' => e = .returned (.bool (T.hasL K.tab i)) ∧ KAt E w' B kp A jv ev pd { K with tab := T.midL K.tab i b } ∧ Fr E [142] B w w' := by
 refine (T.tmid_any A.tp A.ta K.tab i b w h.tab).mono ?_
 rintro e w3 ⟨he, hT, hg⟩
 exact ⟨he, (h.putTab hT hg (midL_len _ _ _)).1, (h.putTab hT hg (midL_len _ _ _)).2⟩
theorem drop_post {w : World} {B kp : Nat} {A : Ad} {jv : List Value} {ev : Value} {pd : Nat → Bool} {K : Kst} (h : KAt E w B kp A jv ev pd K) (i : Nat) :
  Calls Tryz.prog 92 #[.pointer (some ⟨A.tp, 0, none⟩), .int .i64 i] w fun e w' => e = .returned (.bool (T.hasL K.tab i)) ∧ KAt E w' B kp A jv ev pd { K with tab := T.dropL K.tab i } ∧ Fr E [142] B w w' := by
 refine (T.tdrop_any A.tp A.ta K.tab i w h.tab).mono ?_
 rintro e w3 ⟨he, hT, hg⟩
 exact ⟨he, (h.putTab hT hg (dropL_len _ _)).1, (h.putTab hT hg (dropL_len _ _)).2⟩
theorem begin_post {w : World} {B kp : Nat} {A : Ad} {jv : List Value} {ev : Value} {pd : Nat → Bool} {K : Kst} (h : KAt E w B kp A jv ev pd K) (i : Nat) :
  Calls Tryz.prog 85 #[.pointer (some ⟨A.tp, 0, none⟩), .int .i64 i] w fun e w' => e = .returned (.bool (T.hasL K.tab i)) ∧ KAt E w' B kp A jv ev pd { K with tab := T.beginL K.tab i } ∧ Fr E [142] B w w' := by
 refine (T.tbegin_any A.tp A.ta K.tab i w h.tab).mono ?_
 rintro e w3 ⟨he, hT, hg⟩
 exact ⟨he, (h.putTab hT hg (beginL_len _ _)).1, (h.putTab hT hg (beginL_len _ _)).2⟩
theorem touch_post {W w : World} {B kp : Nat} {A : Ad} {jv : List Value} {ev : Value} {pd : Nat → Bool} {K : Kst} (h : KAt E w B kp A jv ev pd K) (hb : Below B W w) (hB0 : 0 < B) (hT : DeB W) (i s : Nat) (hs : s < 18446744073709551616) (hi : i ≤ 8) :
  Calls Tryz.prog 88 #[.pointer (some ⟨A.cp, 0, none⟩), .int .i64 i, .int .u64 s] w fun e w' => e = .returned (.bool true) ∧ KAt E w' B kp A jv ev pd { K with cache := touchL i (bitsL s) K.cache } ∧ Fr E [131] B w w' := by
 refine (touch_any A.cp K.cache i s hs (by omega) (by omega) w h.cache (hT.cellB hB0 hb) (by have := h.hd.lt; omega)).mono ?_
 rintro e w3 ⟨he, hT, hg⟩
 exact ⟨he, (h.putCache hT hg).1, (h.putCache hT hg).2⟩
set_option maxHeartbeats 16000000 in
theorem runs_any {W w : World} {B kp : Nat} {A : Ad} {jv : List Value} {ev : Value} {K : Kst} (touch : Nat) (ht : touch < 18446744073709551616)
  (hb : Below B W w) (hB0 : 0 < B) (hT : DeB W) (h : KAt E w B kp A jv ev (pdOf K) K) (hK : KOk K) (hL : K.ev.length ≤ 10000000)
  (i : Nat) (hi : i < K.tk.length) (hpi : pdOf K i = true) (hj : JobOk (K.job1 i)) (hl0 : 0 ≤ K.loads.getD i 0) (hl1 : K.loads.getD i 0 ≤ 1000000000) :
  Calls Tryz.prog 52 #[.pointer (some ⟨kp, 0, none⟩), .int .i64 i, .int .u64 touch] w (JPost E w B kp A [97, 50, 131, 142, 148, 186] (runsK K i touch)) := by
 have n8 := h.n8
 have ilv : i < jv.length := by rw [h.lv]; exact hi
 have itb : i < K.tab.length := by rw [h.lt]; exact hi
 have t0 := hK.t0
 have t1 := hK.t1
 obtain ⟨x, hx⟩ : ∃ x, K.tk[i]? = some x := ⟨_, List.getElem?_eq_getElem hi⟩
 have hsx := hK.sets x (List.mem_of_getElem? hx)
 obtain ⟨ecb, hecb⟩ : ∃ ecb : Nat, x.f7 = ecb := ⟨x.f7.toNat, by omega⟩
 have hel : ecb < 18446744073709551616 := by omega
 have hgx : (K.tk.getD i z46).f7.toNat = ecb := by rw [List.getD_eq_getElem?_getD, hx]; simp [hecb]
 obtain ⟨a, c, ra, rc, hv, hal, hC, _⟩ := h.tasks.task (T := K.tk) hx
 have g7 := hC.g7
 rw [hecb] at g7
 have hand : bits BinOp.and IntKind.u64 (touch : Int) (ecb : Int) = ((touch &&& ecb : Nat) : Int) := bits_and_u64_nat touch ecb ht hel
 have hsl : touch &&& ecb < 18446744073709551616 := Nat.lt_of_le_of_lt Nat.and_le_left ht
 have HTP : Hid (∀ w2, Fr E [] B w w2 → KAt E w2 B kp A jv ev (pdOf K) K → Calls Tryz.prog 88 #[.pointer (some ⟨A.cp, 0, none⟩), .int .i64 i, .int .u64 (touch &&& ecb : Nat)] w2 fun e w' => e = .returned (.bool true) ∧ KAt E w' B kp A jv ev (pdOf K) { K with cache := touchL i (bitsL (touch &&& ecb)) K.cache } ∧ Fr E [131] B w2 w') :=
  fun w2 f2 h2 => touch_post h2 (hb.trans (f2.below (Nat.le_refl _) (by have := h.hd.lt; have := h.bk; omega))) hB0 hT i (touch &&& ecb) hsl (by omega)
 have hrk : runsK K i touch = if 0 < K.loads.getD i 0 then { K with cache := touchL i (bitsL (touch &&& ecb)) K.cache, loads := K.loads.set i (K.loads.getD i 0 - 1), tab := T.midL K.tab i true }
   else endK { K with cache := touchL i (bitsL (touch &&& ecb)) K.cache, job := K.job.set i (J.tick (K.job1 i)).1, tab := T.midL K.tab i (decide (0 < (J.tick (K.job1 i)).1.had)) } i (J.tick (K.job1 i)).2.1 (J.tick (K.job1 i)).2.2 := by
  unfold runsK
  rw [hgx]
 have HG7 : Hid (∀ w2, Fr E [131] B w w2 → w2.cell? ⟨a, i * 9 + 7, none⟩ = some (.int .u64 (ecb : Int))) := by
  intro w2 f2
  obtain ⟨a2, c2, ra2, rc2, hv2, _, hC2, _⟩ := (h.tasks.fr f2 (by decide) (by decide)).task (T := K.tk) hx
  rw [hv] at hv2
  injection hv2 with h1 _ _
  injection h1 with h1
  injection h1 with h1
  subst h1
  rw [← hecb]
  exact hC2.g7
 have HPDM : Hid (∀ (b : Bool) (k : Nat), (T.getL (T.midL K.tab i b) k).p = true → pdOf K k = true) := fun b k hk => by rw [mid_p] at hk; exact hk
 obtain ⟨s, hs⟩ : ∃ s, touch &&& ecb = s := ⟨_, rfl⟩
 rw [hs] at hand hsl hrk HTP
 obtain ⟨lv, hlv⟩ : ∃ lv, K.loads.getD i 0 = lv := ⟨_, rfl⟩
 rw [hlv] at hl0 hl1 hrk
 obtain ⟨n, hn⟩ : ∃ n, K.tk.length = n := ⟨_, rfl⟩
 have HN := Lib.hid hn
 have q7 : w.cell? ⟨kp, 7, none⟩ = some (.slice (some ⟨A.oa, 0, none⟩) n n) := by rw [← hn]; exact h.hd.cell 7
 have q5 : w.cell? ⟨kp, 5, none⟩ = some (.pointer (some ⟨A.cp, 0, none⟩)) := h.hd.cell 5
 have q1 : w.cell? ⟨kp, 1, none⟩ = some (.slice (some ⟨a, 0, none⟩) n c) := by rw [h.hd.cell]; simp [kcells, hv, hn]
 have i0 : (0 : Int) ≤ (i : Int) := by omega
 have i1 : (i : Int) < (n : Int) := by omega
 have hkl := h.hd.lt
 have HH := Lib.hid h
 have HX := Lib.hid hx
 have HJ := Lib.hid hj
 have HLV := Lib.hid hlv
 have HPI := Lib.hid hpi
 have HAB := Lib.hid (hK.ar _ (getL_mem itb))
 have HR0 := Lib.hid hrk
 have hB1 : B ≤ w.heap.size := by have := h.bk; omega
 clear h hx hsx hecb hgx hv hC hs hn hj hlv hpi hrk hT hb hK
 go_enter Tryz.func52, Tryz.ntmps52
 go_wp2_with fail
 go_region_held3 (fun w' => w'.cell? ⟨kp, 5, none⟩ = some (.pointer (some ⟨A.cp, 0, none⟩)) ∧ w'.cell? ⟨kp, 1, none⟩ = some (.slice (some ⟨a, 0, none⟩) n c) ∧ w'.cell? ⟨a, i * 9 + 7, none⟩ = some (.int .u64 (ecb : Int))) (go_keep) ((go_at_call 88; refine (HTP.out _ (Fr.drew (Fr.refl _ B w)) HH.out.drew).mono ?_; rintro e w2 ⟨rfl, K2, F2⟩; have u5 : w2.cell? ⟨kp, 5, none⟩ = some (.pointer (some ⟨A.cp, 0, none⟩)) := K2.hd.cell 5; have F2d := (Fr.drew (Fr.refl [131] B w)).trans F2; have u1 : w2.cell? ⟨kp, 1, none⟩ = some (.slice (some ⟨a, 0, none⟩) n c) := (HH.out.hd.fr F2d (by decide)).cell 1 |>.trans ((HH.out.hd.cell 1).symm.trans q1); have u7 : w2.cell? ⟨a, i * 9 + 7, none⟩ = some (.int .u64 (ecb : Int)) := HG7.out w2 F2d))
 have HK2 := Lib.hid K2
 have HF2 := Lib.hid (F2d.mono (ts' := [97, 50, 131, 142, 148, 186]) (by simp))
 obtain ⟨o0, o1, o2⟩ := KAt.ocell K2 ilv
 rw [HLV.out] at o2
 have p7 : w2.cell? ⟨kp, 7, none⟩ = some (.slice (some ⟨A.oa, 0, none⟩) n n) := by rw [← HN.out]; exact K2.hd.cell 7
 have p6 : w2.cell? ⟨kp, 6, none⟩ = some (.pointer (some ⟨A.tp, 0, none⟩)) := K2.hd.cell 6
 have hol := K2.own.lt
 have hofr := K2.own.frozen (i * 3 + 2)
 clear K2 F2 F2d u5 u1 u7 q7 q5 q1 g7 HTP HG7
 by_cases hlp : 0 < lv
 ·have HRK := Lib.hid (HR0.out.trans (if_pos hlp))
  have hmid := fun w3 (K3 : KAt E w3 B kp A jv ev (pdOf K) { K with cache := touchL i (bitsL s) K.cache, loads := K.loads.set i (lv - 1) }) => mid_post K3 i true
  have HMID := Lib.hid hmid
  have hput := HK2.out.putLoads (i := i) (by exact hi) (lv - 1)
  obtain ⟨w3, hw3⟩ : ∃ w3, w2.setCell ⟨A.oa, i * 3 + 2, none⟩ (.int .i64 (lv - 1)) = w3 := ⟨_, rfl⟩
  rw [hw3] at hput
  obtain ⟨K3, F3⟩ := hput
  have y6 : w3.cell? ⟨kp, 6, none⟩ = some (.pointer (some ⟨A.tp, 0, none⟩)) := K3.hd.cell 6
  have HW3 := Lib.hid hw3
  have HK3 := Lib.hid K3
  have HF3 := Lib.hid (HF2.out.trans (F3.mono (ts' := [97, 50, 131, 142, 148, 186]) (by simp)))
  clear hmid hw3 K3 F3 HR0 HK2 HF2
  go_wp2_with fail
  rw [HW3.out]
  refine (HMID.out w3 HK3.out).mono ?_
  rintro e w4 ⟨rfl, K4, F4⟩
  have HK4 := Lib.hid K4
  have HF4 := Lib.hid (HF3.out.trans (F4.mono (ts' := [97, 50, 131, 142, 148, 186]) (by simp)))
  clear K4 F4 HK3 HF3 o0 o1 o2 p7 p6
  go_wp2_with fail
  go_end0
  refine ⟨rfl, jv, ev, ?_, HF4.out⟩
  refine KAt.less (K := runsK K i touch) (Eq.mp (congrArg (fun Z => KAt E w4 B kp A jv ev (pdOf K) Z) HRK.out.symm) HK4.out) ?_
  intro k hk
  rw [HRK.out] at hk
  exact HPDM.out true k hk
 ·have hlp0 : ¬ 0 < lv := hlp
  obtain ⟨p, ja, jca, jb, jcb, hjv, hjB, hjat⟩ := HK2.out.jobs i ilv HPI.out
  have hjok := HJ.out
  have hst := J.step_any w2 hjat hjok.k hjok.n hjok.h0 hjok.h1 hjok.a0 hjok.a1
  have hpj := fun w3 (j : J.Jb) (hJ : J.JobAt w3 B p ja jca jb jcb j) (hg : w2.grownBy w3 (some p)) => HK2.out.putJob ilv HPI.out hjv hjB ⟨_, hjat.hd⟩ hJ hg
  have HRK := Lib.hid (HR0.out.trans (if_neg hlp))
  have hjb : ({ K with cache := touchL i (bitsL s) K.cache } : Kst).job.getD i ⟨[], [], 0, 0, 0, 0⟩ = K.job1 i := rfl
  rw [hjb] at hst
  obtain ⟨j', rg, hw, htk⟩ : ∃ j' rg hw, J.tick (K.job1 i) = (j', rg, hw) := ⟨_, _, _, rfl⟩
  rw [htk] at hst HRK
  have o0' : w2.cell? ⟨A.oa, i * 3, none⟩ = some (.pointer (some ⟨p, 0, none⟩)) := by rw [o0, hjv]
  have HST := Lib.hid hst
  have HPJ := Lib.hid hpj
  clear hst hpj hjb htk hjok hjat hjv o0 HR0 HJ
  go_wp2_with fail
  refine HST.out.mono ?_
  rintro e w3 ⟨rfl, hJ3, hg3⟩
  obtain ⟨K3, F3⟩ := HPJ.out w3 j' hJ3 hg3
  have z6 : w3.cell? ⟨kp, 6, none⟩ = some (.pointer (some ⟨A.tp, 0, none⟩)) := K3.hd.cell 6
  have z0 : w3.cell? ⟨A.oa, i * 3, none⟩ = some (.pointer (some ⟨p, 0, none⟩)) := by
   have := (KAt.ocell K3 ilv).1
   rw [this]
   exact (KAt.ocell HK2.out ilv).1.symm.trans o0'
  have HZ0 : Hid (∀ w4, Fr E [142] B w3.drew w4 → w4.cell? ⟨A.oa, i * 3, none⟩ = some (.pointer (some ⟨p, 0, none⟩))) := fun w4 f4 => ((K3.drew.own.fr f4 (by decide)).cell _).trans ((K3.drew.own.cell _).symm.trans z0)
  have HM3 : Hid (∀ w4, Fr E [] B w3 w4 → Calls Tryz.prog 91 #[.pointer (some ⟨p, 0, none⟩)] w4 fun e w' => e = .returned (.bool (decide (0 < j'.had))) ∧ w4 = w') := fun w4 f4 => J.mid_any w4 ⟨hJ3.hd.fr f4 (by simp), own_fr hJ3.rs f4 (by simp), own_fr hJ3.ds f4 (by simp), hJ3.same, hJ3.ap, hJ3.bp⟩
  have HM4 : Hid (∀ w4, Fr E [] B w3 w4 → Calls Tryz.prog 89 #[.pointer (some ⟨A.tp, 0, none⟩), .int .i64 i, .bool (decide (0 < j'.had))] w4 fun e w' => e = .returned (.bool (T.hasL K.tab i)) ∧ KAt E w' B kp A jv ev (pdOf K) { K with cache := touchL i (bitsL s) K.cache, job := K.job.set i j', tab := T.midL K.tab i (decide (0 < j'.had)) } ∧ Fr E [142] B w4 w') :=
   fun w4 f4 => mid_post (K3.fr f4 (by simp)) i (decide (0 < j'.had))
  have HK3 := Lib.hid K3
  have HF3 := Lib.hid (HF2.out.trans (F3.mono (ts' := [97, 50, 131, 142, 148, 186]) (by simp)))
  clear K3 F3 hJ3 hg3 HPJ HST HK2 HF2 o0' o1 o2 p7 p6 hofr hol
  go_wp2_with fail
  go_region_held3 (fun w' => w'.cell? ⟨kp, 6, none⟩ = some (.pointer (some ⟨A.tp, 0, none⟩)) ∧ w'.cell? ⟨A.oa, i * 3, none⟩ = some (.pointer (some ⟨p, 0, none⟩))) (go_keep) (first | (go_at_call 91; refine (HM3.out _ (Fr.drew (Fr.refl _ B w3))).mono ?_; rintro e w4 ⟨rfl, rfl⟩) | (go_at_call 89; refine (HM4.out _ (Fr.drew (Fr.refl _ B w3))).mono ?_; rintro e w4 ⟨rfl, K4, F4⟩; have x6 : w4.cell? ⟨kp, 6, none⟩ = some (.pointer (some ⟨A.tp, 0, none⟩)) := K4.hd.cell 6; have x0 : w4.cell? ⟨A.oa, i * 3, none⟩ = some (.pointer (some ⟨p, 0, none⟩)) := HZ0.out w4 F4))
  have HF4 := Lib.hid ((HF3.out.trans (Fr.drew (Fr.refl _ B w3))).trans (F4.mono (ts' := [97, 50, 131, 142, 148, 186]) (by simp)))
  have x2 : w4.cell? ⟨kp, 2, none⟩ = some (.int .i64 K.tick) := K4.hd.cell 2
  have HST4 : Hid (∀ w5, Fr E [] B w4 w5 → Calls Tryz.prog 74 #[.pointer (some ⟨A.tp, 0, none⟩), .int .i64 i] w5 fun e w' => e = .returned (T.stateL (T.midL K.tab i (decide (0 < j'.had))) i).val ∧ KAt E w' B kp A jv ev (pdOf K) { K with cache := touchL i (bitsL s) K.cache, job := K.job.set i j', tab := T.midL K.tab i (decide (0 < j'.had)) } ∧ Fr E [] B w5 w') := by
   intro w5 f5
   have K5 := K4.fr f5 (by simp)
   refine (T.tstate_any A.tp A.ta _ i w5 K5.tab).mono ?_
   rintro e w6 ⟨he, hg⟩
   exact ⟨he, K5.fr (Fr.of_none (ts := []) (B := B) hg) (by simp), Fr.of_none hg⟩
  have HK4 := Lib.hid K4
  obtain ⟨mb, hmb⟩ : ∃ mb, decide (0 < j'.had) = mb := ⟨_, rfl⟩
  have HPM : Hid ((T.getL (T.midL K.tab i mb) i).p = true) := by unfold Hid; rw [mid_p]; exact HPI.out
  have hml : i < (T.midL K.tab i mb).length := by rw [midL_len]; exact itb
  have HVAL := Lib.hid (state_val hml HPM.out)
  have har : (T.stateL (T.midL K.tab i mb) i).a = (T.getL K.tab i).a := by rw [state_a hml HPM.out, mid_a]
  have hab := HAB.out
  rw [hmb] at HST4 HRK
  have HPDD : Hid (∀ (k : Nat), (T.getL (T.dropL (T.midL K.tab i mb) i) k).p = true → pdOf K k = true) := fun k hk => HPDM.out mb k (drop_p _ i k hk)
  obtain ⟨ar, hare⟩ : ∃ ar, (T.stateL (T.midL K.tab i mb) i).a = ar := ⟨_, rfl⟩
  obtain ⟨sb, hsb⟩ : ∃ sb, (T.getL (T.midL K.tab i mb) i).s = sb := ⟨_, rfl⟩
  obtain ⟨smb, hsmb⟩ : ∃ smb, (T.getL (T.midL K.tab i mb) i).m = smb := ⟨_, rfl⟩
  rw [hare, hsb, hsmb] at HVAL
  rw [hare] at har
  rw [← har] at hab
  have hs1 : IntKind.i64.wrap (K.tick + 1) = K.tick + 1 := IntWalk.i64_in _ (by omega)
  have hs2 : IntKind.i64.wrap (K.tick + 1 - ar) = K.tick + 1 - ar := IntWalk.i64_in _ (by omega)
  have HARE := Lib.hid hare
  have hfld := fun W => field3 W true sb smb ar
  have HMB := Lib.hid hmb
  clear K4 F4 HM3 HM4 HK3 HF3 HZ0 z6 z0 x0 har hare hsb hsmb hmb hml
  rw [HMB.out] at HK4
  go_wp2_with fail
  go_region_held3 (fun w' => w'.cell? ⟨kp, 6, none⟩ = some (.pointer (some ⟨A.tp, 0, none⟩)) ∧ w'.cell? ⟨kp, 2, none⟩ = some (.int .i64 K.tick)) (go_keep) ((go_at_call 74; refine (HST4.out _ (Fr.drew (Fr.refl _ B w4))).mono ?_; rintro e w5 ⟨rfl, K5, F5⟩; rw [HVAL.out]; have y6 : w5.cell? ⟨kp, 6, none⟩ = some (.pointer (some ⟨A.tp, 0, none⟩)) := K5.hd.cell 6; have y2 : w5.cell? ⟨kp, 2, none⟩ = some (.int .i64 K.tick) := K5.hd.cell 2))
  have HF5 := Lib.hid ((HF4.out.trans (Fr.drew (Fr.refl _ B w4))).trans (F5.mono (ts' := [97, 50, 131, 142, 148, 186]) (by simp)))
  have HK5 := Lib.hid K5
  obtain ⟨tk, htk⟩ : ∃ tk, K.tick + 1 - ar = tk := ⟨_, rfl⟩
  have HTK : Hid (tk = tookK { K with cache := touchL i (bitsL s) K.cache, job := K.job.set i j', tab := T.midL K.tab i mb } i) := by
   unfold Hid tookK
   rw [HARE.out, ← htk]
  have HL5 : Hid (({ K with cache := touchL i (bitsL s) K.cache, job := K.job.set i j', tab := T.midL K.tab i mb } : Kst).ev.length ≤ 100000000) := by unfold Hid; simp only; omega
  have HL6 : Hid ((({ K with cache := touchL i (bitsL s) K.cache, job := K.job.set i j', tab := T.midL K.tab i mb } : Kst).plus [⟨K.tick, 7, i, rg⟩]).ev.length ≤ 100000000) := by unfold Hid; simp only [Kst.plus, List.length_append, List.length_cons, List.length_nil]; omega
  rw [htk]
  clear hfld htk hs1 hs2 K5 F5 HF4 HK4 HST4 HVAL hab x6 x2 y6 y2 HARE
  by_cases e1 : hw = 1
  ·have HE1 := Lib.hid e1
   obtain ⟨d1, d2⟩ : hw = 1 ∧ True := ⟨e1, trivial⟩
   subst d1; clear e1 d2
   go_wp2_with fail
   refine (note_post HK5.out 7 i rg HL5.out).mono ?_
   rintro e w6 ⟨rfl, ev6, K6, F6⟩
   have HK6 := Lib.hid K6
   have HF6 := Lib.hid (HF5.out.trans (F6.mono (ts' := [97, 50, 131, 142, 148, 186]) (by simp)))
   clear K6 F6 HK5 HF5
   go_wp2_with fail
   go_end0
   refine ⟨rfl, jv, ev6, ?_, HF6.out⟩
   refine KAt.less (K := runsK K i touch) (Eq.mp (congrArg (fun Z => KAt E w6 B kp A jv ev6 (pdOf K) Z) ?_) HK6.out) ?_
   ·rw [HRK.out]; simp [endK, Kst.plus]
   ·intro k hk
    rw [HRK.out] at hk
    exact HPDM.out _ k (by simpa [endK, pdOf, Kst.plus] using hk)
  ·by_cases e2 : hw = 2
   ·have HE1 := Lib.hid e1
    have HE2 := Lib.hid e2
    obtain ⟨d1, d2⟩ : hw = 2 ∧ True := ⟨e2, trivial⟩
    subst d1; clear e1 e2 d2
    go_wp2_with fail
    refine (note_post HK5.out 7 i rg HL5.out).mono ?_
    rintro e w6 ⟨rfl, ev6, K6, F6⟩
    have HK6 := Lib.hid K6
    have HF6 := Lib.hid (HF5.out.trans (F6.mono (ts' := [97, 50, 131, 142, 148, 186]) (by simp)))
    clear K6 F6 HK5 HF5
    go_wp2_with fail
    refine (note_post HK6.out 8 i tk HL6.out).mono ?_
    rintro e w7 ⟨rfl, ev7, K7, F7⟩
    have z6 : w7.cell? ⟨kp, 6, none⟩ = some (.pointer (some ⟨A.tp, 0, none⟩)) := K7.hd.cell 6
    have HK7 := Lib.hid K7
    have HF7 := Lib.hid (HF6.out.trans (F7.mono (ts' := [97, 50, 131, 142, 148, 186]) (by simp)))
    clear K7 F7 HK6 HF6
    go_wp2_with fail
    refine (drop_post HK7.out i).mono ?_
    rintro e w8 ⟨rfl, K8, F8⟩
    have HK8 := Lib.hid K8
    have HF8 := Lib.hid (HF7.out.trans (F8.mono (ts' := [97, 50, 131, 142, 148, 186]) (by simp)))
    clear K8 F8 HK7 HF7 z6
    go_wp2_with fail
    go_end0
    refine ⟨rfl, jv, ev7, ?_, HF8.out⟩
    refine KAt.less (K := runsK K i touch) (Eq.mp (congrArg (fun Z => KAt E w8 B kp A jv ev7 (pdOf K) Z) ?_) HK8.out) ?_
    ·rw [HRK.out]; simp [endK, Kst.plus, HTK.out]
    ·intro k hk
     rw [HRK.out] at hk
     exact HPDD.out k (by simpa [endK, pdOf, Kst.plus] using hk)
   ·have d1 : (hw == 1) = false := by simpa using e1
    have d2 : (hw == 2) = false := by simpa using e2
    by_cases e3 : hw = 3
    ·have HE1 := Lib.hid e1
     have HE2 := Lib.hid e2
     obtain ⟨d3, d4⟩ : hw = 3 ∧ True := ⟨e3, trivial⟩
     subst d3; clear e1 e2 e3 d4
     go_wp2_with fail
     refine (note_post HK5.out 9 i tk HL5.out).mono ?_
     rintro e w7 ⟨rfl, ev7, K7, F7⟩
     have z6 : w7.cell? ⟨kp, 6, none⟩ = some (.pointer (some ⟨A.tp, 0, none⟩)) := K7.hd.cell 6
     have HK7 := Lib.hid K7
     have HF7 := Lib.hid (HF5.out.trans (F7.mono (ts' := [97, 50, 131, 142, 148, 186]) (by simp)))
     clear K7 F7 HK5 HF5
     go_wp2_with fail
     refine (drop_post HK7.out i).mono ?_
     rintro e w8 ⟨rfl, K8, F8⟩
     have HK8 := Lib.hid K8
     have HF8 := Lib.hid (HF7.out.trans (F8.mono (ts' := [97, 50, 131, 142, 148, 186]) (by simp)))
     clear K8 F8 HK7 HF7 z6
     go_wp2_with fail
     go_end0
     refine ⟨rfl, jv, ev7, ?_, HF8.out⟩
     refine KAt.less (K := runsK K i touch) (Eq.mp (congrArg (fun Z => KAt E w8 B kp A jv ev7 (pdOf K) Z) ?_) HK8.out) ?_
     ·rw [HRK.out]; simp [endK, Kst.plus, HTK.out]
     ·intro k hk
      rw [HRK.out] at hk
      exact HPDD.out k (by simpa [endK, pdOf, Kst.plus] using hk)
    ·have d3 : (hw == 3) = false := by simpa using e3
     have HE1 := Lib.hid e1
     have HE2 := Lib.hid e2
     have HE3 := Lib.hid e3
     clear e1 e2 e3
     go_wp2_with fail
     go_end0
     refine ⟨rfl, jv, ev, ?_, HF5.out⟩
     refine KAt.less (K := runsK K i touch) (Eq.mp (congrArg (fun Z => KAt E w5 B kp A jv ev (pdOf K) Z) ?_) HK5.out) ?_
     ·rw [HRK.out]; simp [endK, HE1.out, HE2.out, HE3.out]
     ·intro k hk
      rw [HRK.out] at hk
      exact HPDM.out _ k (by simpa [endK, pdOf, HE1.out, HE2.out, HE3.out] using hk)
end Go.Proofs.YtdgfjpbjiccllaaGreatDoor
