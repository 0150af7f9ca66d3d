/- Joined texts: Turn, Step, Step2, New, Fix. -/
import Derived.Test.YtdgfjpbjiccllaaGreatDoorJa14
import Derived.Test.YtdgfjpbjiccllaaGreatDoorJa08
import Derived.Deep.DeepCutAuto
import Derived.Test.YtdgfjpbjiccllaaGreatDoorJa09
/- Whose turn it is: where nobody loses the processor. -/
namespace Go.Proofs.YtdgfjpbjiccllaaGreatDoor
open Go.RowKit
open Go.Proofs.YtdgfjpbjiccllaaGreatDoorW.PrintWords Go.Proofs.YtdgfjpbjiccllaaGreatDoorW.PrintLast Go.Proofs.YtdgfjpbjiccllaaGreatDoorW.PrintMore
open Go.Proofs.YtdgfjpbjiccllaaGreatDoor.PTopLoads (S46 k46 z46 k46_mk S57 k57)
set_option maxRecDepth 100000
variable {E : Nat}
/-- A task's turn where nobody loses the processor. -/
def turnsA (K : Kst) (i : Nat) : Kst := if (T.stateL K.tab i).s then K else { K.plus [⟨K.tick, 4, i, 0⟩] with tab := T.beginL K.tab i }
theorem state_post {w : World} {B kp : Nat} {A : Ad} {jv : List Value} {ev : Value} {pd : Nat → Bool} {K : Kst} (h : KAt E w B kp A jv ev pd K) (i : Int) :
    Calls Tryz.prog 74 #[.pointer (some ⟨A.tp, 0, none⟩), .int .i64 i] w fun e w' => e = .returned (T.stateL K.tab i).val ∧ KAt E w' B kp A jv ev pd K ∧ Fr E [] B w w' := by
  refine (T.tstate_any A.tp A.ta K.tab i w h.tab).mono ?_
  rintro e w3 ⟨he, hg⟩
  exact ⟨he, h.fr (Fr.of_none (ts := []) (B := B) hg) (by simp), Fr.of_none hg⟩
set_option maxHeartbeats 8000000 in
theorem turns_any {w : World} {B kp : Nat} {A : Ad} {jv : List Value} {ev : Value} {K : Kst} (h : KAt E w B kp A jv ev (pdOf K) K) (hL : K.ev.length ≤ 10000000)
    (i : Nat) (hi : i < K.tk.length) (hpre : K.last = i ∨ (T.stateL K.tab K.last).s = false) (hst : (T.stateL K.tab i).s = false ∨ K.last = i) :
    Calls Tryz.prog 51 #[.pointer (some ⟨kp, 0, none⟩), .int .i64 i] w (JPost E w B kp A [97, 50, 142] (turnsA K i)) := by
  have n8 := h.n8
  have ilv : i < jv.length := by rw [h.lv]; exact hi
  obtain ⟨n, hn⟩ : ∃ n, K.tk.length = n := ⟨_, rfl⟩
  have q3 : w.cell? ⟨kp, 3, none⟩ = some (.int .i64 K.last) := h.hd.cell 3
  have q6 : w.cell? ⟨kp, 6, none⟩ = some (.pointer (some ⟨A.tp, 0, none⟩)) := h.hd.cell 6
  have q7 : w.cell? ⟨kp, 7, none⟩ = some (.slice (some ⟨A.oa, 0, none⟩) n n) := by rw [← hn]; exact h.hd.cell 7
  have i0 : (0 : Int) ≤ (i : Int) := by omega
  have i1 : (i : Int) < (n : Int) := by omega
  have hkl := h.hd.lt
  have HP : Hid (∀ (w2 : World) (j : Int), KAt E w2 B kp A jv ev (pdOf K) K → Calls Tryz.prog 74 #[.pointer (some ⟨A.tp, 0, none⟩), .int .i64 j] w2 fun e w' => e = .returned (T.stateL K.tab j).val ∧ KAt E w' B kp A jv ev (pdOf K) K ∧ Fr E [] B w2 w') := fun w2 j h2 => state_post h2 j
  have HH := Lib.hid h
  have HL := Lib.hid (show K.ev.length ≤ 100000000 by omega)
  have hta : turnsA K i = if (T.stateL K.tab i).s then K else { K.plus [⟨K.tick, 4, i, 0⟩] with tab := T.beginL K.tab i } := rfl
  obtain ⟨⟨sp, ss, sm, sa⟩, hs⟩ : ∃ z, T.stateL K.tab (i : Int) = z := ⟨_, rfl⟩
  have hval : (T.stateL K.tab (i : Int)).val = .agg #[.bool sp, .bool ss, .bool sm, .int .i64 sa] := by rw [hs]; rfl
  rw [hs] at hta hst
  simp only at hta hst
  have HV := Lib.hid hval
  have HTA := Lib.hid hta
  have HN := Lib.hid hn
  have hfs := fun W => field1 W sp ss sm sa
  obtain ⟨⟨lp, ls, lm, la⟩, hl⟩ : ∃ z, T.stateL K.tab K.last = z := ⟨_, rfl⟩
  have hval2 : (T.stateL K.tab K.last).val = .agg #[.bool lp, .bool ls, .bool lm, .int .i64 la] := by rw [hl]; rfl
  rw [hl] at hpre
  simp only at hpre
  have HV2 := Lib.hid hval2
  have hfl := fun W => field1 W lp ls lm la
  obtain ⟨last, hlast⟩ : ∃ last, K.last = last := ⟨_, rfl⟩
  rw [hlast] at q3 hpre hst HV2
  clear h hs hl hval hval2 hta hlast hn
  by_cases hli : last = i
  · have hb : ((last : Int) != (i : Int)) = false := by simpa using hli
    have HLI := Lib.hid hli
    clear hli hpre hst
    cases ss with
    | true =>
      go_enter Tryz.func51, Tryz.ntmps51
      go_wp2_with fail
      go_quiet (fail)
      have KQ := HH.out.drewN nq
      have FQ := Fr.drewN (Fr.refl (E := E) [97, 50, 142] B w) nq
      obtain ⟨wq, hwq⟩ : ∃ wq, w.drewN nq = wq := ⟨_, rfl⟩
      have u3 : wq.cell? ⟨kp, 3, none⟩ = some (.int .i64 last) := by rw [← hwq]; exact q3
      have u6 : wq.cell? ⟨kp, 6, none⟩ = some (.pointer (some ⟨A.tp, 0, none⟩)) := by rw [← hwq]; exact q6
      have u7 : wq.cell? ⟨kp, 7, none⟩ = some (.slice (some ⟨A.oa, 0, none⟩) n n) := by rw [← hwq]; exact q7
      rw [hwq] at KQ FQ ⊢
      have HKQ := Lib.hid KQ
      have HFQ := Lib.hid FQ
      clear hwq KQ FQ q3 q6 q7 HH
      go_wp2_with fail
      refine (HP.out wq i HKQ.out).mono ?_
      rintro e w2 ⟨rfl, K2, F2⟩
      rw [HV.out]
      have x3 : w2.cell? ⟨kp, 3, none⟩ = some (.int .i64 last) := (K2.hd.cell 3).trans ((HKQ.out.hd.cell 3).symm.trans u3)
      have HK2 := Lib.hid K2
      have HF2 := Lib.hid (HFQ.out.trans (F2.mono (ts' := [97, 50, 142]) (by simp)))
      clear K2 F2 HKQ HFQ u3 u6 u7
      go_wp2_with fail
      go_end0
      exact ⟨rfl, jv, ev, by rw [HTA.out]; exact HK2.out, HF2.out⟩
    | false =>
      go_enter Tryz.func51, Tryz.ntmps51
      go_wp2_with fail
      go_quiet (fail)
      have KQ := HH.out.drewN nq
      have FQ := Fr.drewN (Fr.refl (E := E) [97, 50, 142] B w) nq
      obtain ⟨wq, hwq⟩ : ∃ wq, w.drewN nq = wq := ⟨_, rfl⟩
      have u3 : wq.cell? ⟨kp, 3, none⟩ = some (.int .i64 last) := by rw [← hwq]; exact q3
      have u6 : wq.cell? ⟨kp, 6, none⟩ = some (.pointer (some ⟨A.tp, 0, none⟩)) := by rw [← hwq]; exact q6
      have u7 : wq.cell? ⟨kp, 7, none⟩ = some (.slice (some ⟨A.oa, 0, none⟩) n n) := by rw [← hwq]; exact q7
      rw [hwq] at KQ FQ ⊢
      have HKQ := Lib.hid KQ
      have HFQ := Lib.hid FQ
      clear hwq KQ FQ q3 q6 q7 HH
      go_wp2_with fail
      refine (HP.out wq i HKQ.out).mono ?_
      rintro e w2 ⟨rfl, K2, F2⟩
      rw [HV.out]
      have HK2 := Lib.hid K2
      have HF2 := Lib.hid (HFQ.out.trans (F2.mono (ts' := [97, 50, 142]) (by simp)))
      clear K2 F2 HKQ HFQ u3 u6 u7
      go_wp2_with fail
      refine (note_post HK2.out 4 i 0 HL.out).mono ?_
      rintro e w3 ⟨rfl, ev3, K3, F3⟩
      have y6 : w3.cell? ⟨kp, 6, none⟩ = some (.pointer (some ⟨A.tp, 0, none⟩)) := K3.hd.cell 6
      have HK3 := Lib.hid K3
      have HF3 := Lib.hid (HF2.out.trans (F3.mono (ts' := [97, 50, 142]) (by simp)))
      clear K3 F3 HK2 HF2
      go_wp2_with fail
      refine (begin_post HK3.out i).mono ?_
      rintro e w4 ⟨rfl, K4, F4⟩
      have HK4 := Lib.hid K4
      have HF4 := Lib.hid (HF3.out.trans (F4.mono (ts' := [97, 50, 142]) (by simp)))
      clear K4 F4 HK3 HF3 y6
      go_wp2_with fail
      go_end0
      refine ⟨rfl, jv, ev3, ?_, HF4.out⟩
      refine KAt.less (K := turnsA K i) (Eq.mp (congrArg (fun Z => KAt E w4 B kp A jv ev3 (pdOf K) Z) HTA.out.symm) HK4.out) ?_
      intro k hk
      rw [HTA.out] at hk
      have hk' : (T.getL (T.beginL K.tab i) k).p = true := hk
      rw [begin_p] at hk'
      exact hk'
  · have hb : ((last : Int) != (i : Int)) = true := by simpa using hli
    have hls : ls = false := hpre.resolve_left hli
    have hss : ss = false := hst.resolve_right hli
    subst hls hss
    have HLI := Lib.hid hli
    clear hli hpre hst
    go_enter Tryz.func51, Tryz.ntmps51
    go_wp2_with fail
    go_region_held3 (fun w' => w'.cell? ⟨kp, 6, none⟩ = some (.pointer (some ⟨A.tp, 0, none⟩)) ∧ w'.cell? ⟨kp, 3, none⟩ = some (.int .i64 last)) (go_keep) ((go_at_call 74; refine (HP.out _ last HH.out.drew).mono ?_; rintro e wq ⟨rfl, KQ, FQ⟩; rw [HV2.out]; have x6 : wq.cell? ⟨kp, 6, none⟩ = some (.pointer (some ⟨A.tp, 0, none⟩)) := KQ.hd.cell 6; have x3 : wq.cell? ⟨kp, 3, none⟩ = some (.int .i64 last) := (KQ.hd.cell 3).trans ((HH.out.hd.cell 3).symm.trans q3)))
    have u3 := x3
    have u6 := x6
    have u7 : wq.cell? ⟨kp, 7, none⟩ = some (.slice (some ⟨A.oa, 0, none⟩) n n) := (KQ.hd.cell 7).trans ((HH.out.hd.cell 7).symm.trans q7)
    have HKQ := Lib.hid KQ
    have HFQ := Lib.hid ((Fr.drew (Fr.refl [97, 50, 142] B w)).trans (FQ.mono (ts' := [97, 50, 142]) (by simp)))
    clear KQ FQ q3 q6 q7 HH x3 x6
    go_wp2_with fail
    refine (HP.out wq i HKQ.out).mono ?_
    rintro e w2 ⟨rfl, K2, F2⟩
    rw [HV.out]
    have HK2 := Lib.hid K2
    have HF2 := Lib.hid (HFQ.out.trans (F2.mono (ts' := [97, 50, 142]) (by simp)))
    clear K2 F2 HKQ HFQ u3 u6 u7
    go_wp2_with fail
    refine (note_post HK2.out 4 i 0 HL.out).mono ?_
    rintro e w3 ⟨rfl, ev3, K3, F3⟩
    have y6 : w3.cell? ⟨kp, 6, none⟩ = some (.pointer (some ⟨A.tp, 0, none⟩)) := K3.hd.cell 6
    have HK3 := Lib.hid K3
    have HF3 := Lib.hid (HF2.out.trans (F3.mono (ts' := [97, 50, 142]) (by simp)))
    clear K3 F3 HK2 HF2
    go_wp2_with fail
    refine (begin_post HK3.out i).mono ?_
    rintro e w4 ⟨rfl, K4, F4⟩
    have HK4 := Lib.hid K4
    have HF4 := Lib.hid (HF3.out.trans (F4.mono (ts' := [97, 50, 142]) (by simp)))
    clear K4 F4 HK3 HF3 y6
    go_wp2_with fail
    go_end0
    refine ⟨rfl, jv, ev3, ?_, HF4.out⟩
    refine KAt.less (K := turnsA K i) (Eq.mp (congrArg (fun Z => KAt E w4 B kp A jv ev3 (pdOf K) Z) HTA.out.symm) HK4.out) ?_
    intro k hk
    rw [HTA.out] at hk
    have hk' : (T.getL (T.beginL K.tab i) k).p = true := hk
    rw [begin_p] at hk'
    exact hk'
end Go.Proofs.YtdgfjpbjiccllaaGreatDoor
/- A tick of a kernel in which nobody loses the processor. -/
namespace Go.Proofs.YtdgfjpbjiccllaaGreatDoor
open Go.RowKit
open Go.Proofs.YtdgfjpbjiccllaaGreatDoorW.PrintWords Go.Proofs.YtdgfjpbjiccllaaGreatDoorW.PrintLast Go.Proofs.YtdgfjpbjiccllaaGreatDoorW.PrintMore
open Go.Proofs.YtdgfjpbjiccllaaGreatDoor.PTopLoads (S46 k46 z46 k46_mk S57 k57 S142 k142 k142_mk rule_Choose.f rule_Choose.calls)
set_option maxRecDepth 100000
variable {E : Nat}
def s142 (x : T.St) : S142 := ⟨x.p, x.s, x.m, x.a⟩
theorem states_kd {w : World} {B : Nat} {v : Value} {L : List T.St} (h : w.ownsRow B 142 4 v L.length (L.flatMap T.St.cells)) (hl : L.length ≤ 8) :
    ∃ A c, v = .slice A L.length c ∧ L.length ≤ c ∧ Kd.C k142 w A (L.map s142).length (L.map s142) := by
  rcases h.2 with ⟨rfl, h0⟩ | ⟨g, c, cur, rfl, hb, hh, hn, _, hs, ht⟩
  · refine ⟨none, 0, by rw [h0], by omega, rfl, by simp; omega, fun h => by simp at h; omega⟩
  · refine ⟨_, c, rfl, hn, rfl, by simp; omega, fun h0 => ⟨_, rfl, fun j p hp => ?_⟩⟩
    obtain ⟨hj, rfl⟩ := List.getElem?_eq_some_iff.1 hp
    have hj' : j < L.length := by simpa using hj
    refine ⟨L[j].cells, rfl, ?_, fun i u hu => ?_⟩
    · have := k142_mk w (s142 L[j])
      simpa [T.St.cells, s142] using this
    · have hi : i < 4 := by
        have := (List.getElem?_eq_some_iff.1 hu).1
        simpa [T.St.cells] using this
      rw [add_none]
      show w.cell? ⟨g, 0 + (j * 4 + i), none⟩ = _
      have hB : Blk w g 142 cur := hh
      rw [Nat.zero_add, hB.cell]
      have h1 : (L.flatMap T.St.cells)[j * 4 + i]? = some u := by
        have := T.cellsOf_at L j i hj' hi
        simp only [T.cellsOf, List.getElem?_toArray] at this
        rw [this, hu]
      rw [← ht, List.getElem?_take_of_lt (by omega)] at h1
      simpa using h1
theorem KOk.plus {K : Kst} (h : KOk K) (l : List Ev) : KOk (K.plus l) := ⟨h.t0, h.t1, h.regs, h.dl, h.ar, h.pol, h.sets⟩
theorem KOk.fold {K : Kst} (D : List (List Int)) : ∀ (l : List Nat), KOk K → KOk (l.foldl (arriveK D) K) := by
  intro l
  induction l generalizing K with
  | nil => intro h; exact h
  | cons i l ih => intro h; exact ih (h.arrive D i)
theorem fold_len (D : List (List Int)) : ∀ (l : List Nat) (K : Kst), (l.foldl (arriveK D) K).ev.length ≤ K.ev.length + l.length
  | [], K => by simp
  | i :: l, K => by
    have := fold_len D l (arriveK D K i)
    have := arriveK_len D K i
    simp only [List.foldl_cons, List.length_cons]
    omega
theorem fold_tk (D : List (List Int)) : ∀ (l : List Nat) (K : Kst), (l.foldl (arriveK D) K).tk = K.tk ∧ (l.foldl (arriveK D) K).tick = K.tick ∧ (l.foldl (arriveK D) K).last = K.last ∧ (l.foldl (arriveK D) K).reload = K.reload
  | [], K => ⟨rfl, rfl, rfl, rfl⟩
  | i :: l, K => by
    obtain ⟨a, b, c, d⟩ := fold_tk D l (arriveK D K i)
    obtain ⟨a', b', c', d', _⟩ := arriveK_tk D K i
    exact ⟨a.trans a', b.trans b', c.trans c', d.trans d'⟩
theorem begin_mem {L : List T.St} {i : Nat} {x : T.St} (h : x ∈ T.beginL L i) : ∃ y ∈ L, x.a = y.a := by
  unfold T.beginL at h
  split at h
  · rename_i hh
    obtain ⟨n, hn, e, hp⟩ := T.hasL_true hh
    obtain rfl : i = n := by omega
    rcases List.mem_or_eq_of_mem_set h with h | h
    · exact ⟨x, h, rfl⟩
    · exact ⟨T.getL L i, getL_mem hn, by rw [h]⟩
  · exact ⟨x, h, rfl⟩
theorem KOk.turns {K : Kst} (h : KOk K) (i : Nat) : KOk (turnsA K i) := by
  unfold turnsA
  split
  · exact h
  · refine ⟨h.t0, h.t1, h.regs, h.dl, fun x hx => ?_, h.pol, h.sets⟩
    obtain ⟨y, hy, e⟩ := begin_mem hx
    have := h.ar y hy
    rw [e]
    exact this
/-- What is there when all have come. -/
def cameK (K : Kst) (D : List (List Int)) (arr : Nat) : Kst := (bitsL arr).foldl (arriveK D) (({ K with ev := [] } : Kst).plus (lateL { K with ev := [] } K.tk.length))
def ranK (K2 : Kst) (who : Int) (touch : Nat) : Kst := if who = -1 then K2.plus [⟨K2.tick, 10, -1, 0⟩] else runsK (turnsA K2 who.toNat) who.toNat touch
def nextK (K3 : Kst) (who : Int) : Kst := { K3 with last := who, tick := K3.tick + 1 }
/-- Whose turn it can be. -/
structure Fit (K2 : Kst) (i : Nat) : Prop where
  lt : i < K2.tk.length
  p : pdOf K2 i = true
  pre : K2.last = i ∨ (T.stateL K2.tab K2.last).s = false
  st : (T.stateL K2.tab i).s = false ∨ K2.last = i
  job : JobOk (K2.job1 i)
  l0 : 0 ≤ K2.loads.getD i 0
  l1 : K2.loads.getD i 0 ≤ 1000000000
section
variable {w w' : World} {B kp : Nat} {A : Ad} {jv : List Value} {ev : Value} {pd : Nat → Bool} {K : Kst}
theorem hd_set {E' : Nat} (h : KAt E w B kp A jv ev pd K) (w' : World) (hf : Fr E' [97] B w w') {K' : Kst} {ev' : Value} (hd : Blk w' kp 97 (kcells A K' ev')) (he : w'.ownsRow E' 50 4 ev' K'.ev.length (evs K'.ev)) (hbe : B ≤ E') (heh : E' ≤ w'.heap.size)
    (h1 : K'.tk = K.tk) (h2 : K'.pol = K.pol) (h3 : K'.cache = K.cache) (h4 : K'.tab = K.tab) (h5 : K'.had = K.had) (h6 : K'.loads = K.loads) (h7 : K'.job = K.job) : KAt E' w' B kp A jv ev' pd K' := by
  obtain ⟨r, tk, ti, la, po, ca, ta, ha, lo, jo, e⟩ := K'
  simp only at h1 h2 h3 h4 h5 h6 h7
  subst h1 h2 h3 h4 h5 h6 h7
  exact ⟨hd, h.tasks.fr hf (by decide) (by decide), pol_fr h.pol hf (by decide) (by decide), ⟨h.cache.len, h.cache.hd.fr hf (by decide)⟩, ⟨h.tab.hd.fr hf (by decide), h.tab.row.fr hf (by decide)⟩, h.own.fr hf (by decide), he,
    fun i hi hp => (h.jobs i hi hp).fr hf (by decide) (by decide), h.apart, h.n1, h.n8, h.lp, h.lt, h.lh, h.ll, h.lj, h.lv, h.bk, h.bp, h.bc, h.bt, h.bta, h.bo, hbe, heh⟩
theorem KAt.clearEv (h : KAt E w B kp A jv ev pd K) (E' : Nat) (hbe : B ≤ E') (heh : E' ≤ w.heap.size) : KAt E' (w.setCell ⟨kp, 8, none⟩ (.slice none 0 0)) B kp A jv (.slice none 0 0) pd { K with ev := [] } ∧ Fr E' [97] B w (w.setCell ⟨kp, 8, none⟩ (.slice none 0 0)) := by
  have hf : Fr E' [97] B w (w.setCell ⟨kp, 8, none⟩ (.slice none 0 0)) := Fr.of_blk (only_setCell (World.grownBy.refl w (some kp)) (p := ⟨kp, 8, none⟩) (.inl rfl) _) h.hd h.bk (by simp)
  exact ⟨hd_set h _ hf (h.hd.set_ 8 _) (by simpa [Go.Proofs.YtdgfjpbjiccllaaGreatDoor.evs] using World.ownsRow_nil _ _ _ _) hbe (Nat.le_trans heh hf.size) rfl rfl rfl rfl rfl rfl rfl, hf⟩
theorem KAt.next (h : KAt E w B kp A jv ev pd K) (who : Int) : KAt E ((w.setCell ⟨kp, 3, none⟩ (.int .i64 who)).setCell ⟨kp, 2, none⟩ (.int .i64 (K.tick + 1))) B kp A jv ev pd (nextK K who) ∧ Fr E [97] B w ((w.setCell ⟨kp, 3, none⟩ (.int .i64 who)).setCell ⟨kp, 2, none⟩ (.int .i64 (K.tick + 1))) := by
  have hf : Fr E [97] B w ((w.setCell ⟨kp, 3, none⟩ (.int .i64 who)).setCell ⟨kp, 2, none⟩ (.int .i64 (K.tick + 1))) := Fr.of_blk (only_setCell (only_setCell (World.grownBy.refl w (some kp)) (p := ⟨kp, 3, none⟩) (.inl rfl) _) (p := ⟨kp, 2, none⟩) (.inl rfl) _) h.hd h.bk (by simp)
  have hne := own_blk_ne h.evs h.hd (by decide)
  exact ⟨hd_set h _ hf ((h.hd.set_ 3 _).set_ 2 _) (own_far (o := 2) (own_far (o := 3) h.evs hne _) hne _) h.be (Nat.le_trans h.eh hf.size) rfl rfl rfl rfl rfl rfl rfl, hf⟩
end
end Go.Proofs.YtdgfjpbjiccllaaGreatDoor
/- A tick of a kernel in which nobody loses the processor: the walk. -/
namespace Go.Proofs.YtdgfjpbjiccllaaGreatDoor
open Go.RowKit
open Go.Proofs.YtdgfjpbjiccllaaGreatDoorW.PrintWords Go.Proofs.YtdgfjpbjiccllaaGreatDoorW.PrintLast Go.Proofs.YtdgfjpbjiccllaaGreatDoorW.PrintMore
open Go.Proofs.YtdgfjpbjiccllaaGreatDoor.PTopLoads (S46 k46 z46 k46_mk S57 k57 S142 k142 k142_mk rule_Choose.f rule_Choose.calls)
set_option maxRecDepth 100000
variable {E : Nat}
theorem states_kd' {w : World} {B : Nat} {v : Value} {L : List T.St} {SL : List S142} (h : w.ownsRow B 142 4 v L.length (L.flatMap T.St.cells)) (hl : L.length ≤ 8) (hs : L.map s142 = SL) :
    ∃ A c, v = .slice A SL.length c ∧ SL.length ≤ c ∧ Kd.C k142 w A SL.length SL := by
  obtain ⟨A, c, hv, hc, hk⟩ := states_kd h hl
  subst hs
  exact ⟨A, c, by simpa using hv, by simpa using hc, hk⟩
/-- The post of a tick. -/
def SPost (E : Nat) (w : World) (B kp : Nat) (A : Ad) (K : Kst) (e : Ending) (w' : World) : Prop :=
  ∃ jv' ev', e = .returned ev' ∧ KAt E w' B kp A jv' ev' (pdOf K) K ∧ Fr E [97, 50, 142, 140, 148, 131, 186] B w w'
theorem JobOk.same {K : Kst} {i : Nat} (h : JobOk (K.job1 i)) : JobOk ((turnsA K i).job1 i) := by
  unfold turnsA
  split <;> exact h
theorem turns_tk (K : Kst) (i : Nat) : (turnsA K i).tk = K.tk ∧ (turnsA K i).loads = K.loads ∧ (turnsA K i).tick = K.tick ∧ (turnsA K i).ev.length ≤ K.ev.length + 1 := by
  unfold turnsA
  split
  · exact ⟨rfl, rfl, rfl, by omega⟩
  · exact ⟨rfl, rfl, rfl, by simp [Kst.plus]⟩
theorem turns_pd (K : Kst) (i k : Nat) : pdOf (turnsA K i) k = pdOf K k := by
  unfold turnsA
  split
  · rfl
  · exact begin_p K.tab i k
theorem runs_tick (K : Kst) (i touch : Nat) : (runsK K i touch).tick = K.tick := by
  unfold runsK
  simp only
  split
  · rfl
  · unfold endK
    simp only
    split <;> split <;> (try split) <;> rfl
set_option maxHeartbeats 16000000 in
theorem step_post {W w : World} {B kp : Nat} {A : Ad} {jv : List Value} {ev : Value} {K : Kst} {DA : Option Addr} {D : List (List Int)} {dc : Nat} (arr touch : Nat) (harr : arr < 18446744073709551616) (ht : touch < 18446744073709551616)
    (hb : Below B W w) (hBW : B ≤ W.heap.size) (hB0 : 0 < B) (hT : DeB W) (hD : ∀ w', Fr E [97, 50, 142, 140, 148, 131, 186] B w w' → Dem w' DA D) (hd64 : D.length ≤ 20)
    {E0 : Nat} (h : KAt E0 w B kp A jv ev (pdOf K) K) (hBE : B ≤ E) (hEw : E ≤ w.heap.size) (hK : KOk K) (htk : K.tick < 1099511627776) (who : Int)
    (hch : ∃ k, rule_Choose.f k (cameK K D arr).reload (cameK K D arr).tk ((cameK K D arr).tab.map s142) (cameK K D arr).last (cameK K D arr).tick = some who)
    (hw : who = -1 ∨ ∃ i : Nat, who = i ∧ Fit (cameK K D arr) i) :
    Calls Tryz.prog 31 #[.pointer (some ⟨kp, 0, none⟩), .agg #[.int .u64 arr, .slice DA D.length dc, .int .u64 touch]] w (SPost E w B kp A (nextK (ranK (cameK K D arr) who touch) who)) := by
  have hsz := hb.size
  have n8 := h.n8
  have q2 : w.cell? ⟨kp, 2, none⟩ = some (.int .i64 K.tick) := h.hd.cell 2
  have q8 : w.cell? ⟨kp, 8, none⟩ = some ev := h.hd.cell 8
  have f8 := h.hd.frozen 8
  have hkl := h.hd.lt
  obtain ⟨hA1, hF1⟩ := h.clearEv E hBE hEw
  obtain ⟨wa, hwa⟩ : ∃ wa, w.setCell ⟨kp, 8, none⟩ (.slice none 0 0) = wa := ⟨_, rfl⟩
  have hwas : wa.heap.size = w.heap.size := by rw [← hwa]; simp [World.setCell]
  rw [hwa] at hA1 hF1
  have hA2 := hA1.alloc (.cells #[.int .u64 arr, .slice DA D.length dc, .int .u64 touch] 57)
  have hTb2 := Blk.new wa 57 #[.int .u64 arr, .slice DA D.length dc, .int .u64 touch]
  rw [hwas] at hTb2
  have hF3 : Fr E [97, 50, 142, 140, 148, 131, 186] B w (wa.alloc (.cells #[.int .u64 arr, .slice DA D.length dc, .int .u64 touch] 57)) := (hF1.mono (by simp)).trans (Fr.of_none (only_alloc (World.grownBy.refl wa none) _))
  obtain ⟨tb, htb⟩ : ∃ tb, w.heap.size = tb := ⟨_, rfl⟩
  have hHS : B ≤ w.heap.size := Nat.le_trans hBW hsz
  rw [htb] at hTb2
  have HWA := Lib.hid hwa
  have HTB := Lib.hid htb
  obtain ⟨wb, hwb⟩ : ∃ wb, wa.alloc (.cells #[.int .u64 arr, .slice DA D.length dc, .int .u64 touch] 57) = wb := ⟨_, rfl⟩
  rw [hwb] at hA2 hTb2 hF3
  have HWB := Lib.hid hwb
  have hl3 := late_any hA2 ⟨hK.t0, hK.t1, hK.regs, hK.dl, hK.ar, hK.pol, hK.sets⟩ (by simp)
  have HLT := Lib.hid hl3
  have HTb := Lib.hid hTb2
  have HF3 := Lib.hid hF3
  have HH := Lib.hid h
  have HFB : Hid (∀ w2, Fr E [97, 50, 142, 140, 148, 131, 186] B w w2 → Below B W w2) := fun w2 f2 => hb.trans (f2.below (Nat.le_refl _) hHS)
  have HD := Lib.hid hD
  have HT := Lib.hid hT
  have HK := Lib.hid hK
  have HCH := Lib.hid hch
  have HWH := Lib.hid hw
  have hca : cameK K D arr = (bitsL arr).foldl (arriveK D) (({ K with ev := [] } : Kst).plus (lateL { K with ev := [] } ({ K with ev := [] } : Kst).tk.length)) := rfl
  have HCA := Lib.hid hca
  clear hwa hwas htb hwb hA1 hF1 hA2 hTb2 hF3 hl3 hch hw hD hT hb h hca
  go_enter Tryz.func31, Tryz.ntmps31
  go_wp2_with fail
  rw [HWA.out, HWB.out, HTB.out]
  refine HLT.out.mono ?_
  rintro e wc ⟨rfl, ev2, K2, F2⟩
  have Tc := HTb.out.fr F2 (by decide)
  have c0 : wc.cell? ⟨tb, 0, none⟩ = some (.int .u64 (arr : Int)) := Tc.cell 0
  have c1 : wc.cell? ⟨tb, 1, none⟩ = some (.slice DA D.length dc) := Tc.cell 1
  have c2 : wc.cell? ⟨tb, 2, none⟩ = some (.int .u64 (touch : Int)) := Tc.cell 2
  have F2' := HF3.out.trans (F2.mono (ts' := [97, 50, 142, 140, 148, 131, 186]) (by simp))
  have hKa : KOk (({ K with ev := [] } : Kst).plus (lateL { K with ev := [] } ({ K with ev := [] } : Kst).tk.length)) := KOk.plus (K := { K with ev := [] }) ⟨HK.out.t0, HK.out.t1, HK.out.regs, HK.out.dl, HK.out.ar, HK.out.pol, HK.out.sets⟩ _
  have hLa : (({ K with ev := [] } : Kst).plus (lateL { K with ev := [] } ({ K with ev := [] } : Kst).tk.length)).ev.length ≤ 8 := by
    have := lateL_len { K with ev := [] } ({ K with ev := [] } : Kst).tk.length
    simp only [Kst.plus, List.length_append, List.length_nil]
    simp only at this
    omega
  have harr2 := arrive_any (W := W) (touch := (touch : Int)) (dc := dc) arr harr (HFB.out wc F2') hBW hB0 HT.out (fun w' f => HD.out w' (F2'.trans f)) hd64 K2 hKa (by omega)
  rw [← HCA.out] at harr2
  have hMK : KOk (cameK K D arr) := by rw [HCA.out]; exact KOk.fold D _ hKa
  have hML : (cameK K D arr).ev.length ≤ 72 := by
    rw [HCA.out]
    have := fold_len D (bitsL arr) (({ K with ev := [] } : Kst).plus (lateL { K with ev := [] } ({ K with ev := [] } : Kst).tk.length))
    have := bitsF_len 64 arr
    simp only [bitsL] at *
    omega
  have hMt := fold_tk D (bitsL arr) (({ K with ev := [] } : Kst).plus (lateL { K with ev := [] } ({ K with ev := [] } : Kst).tk.length))
  rw [← HCA.out] at hMt
  have HMT := Lib.hid hMt.2.1
  have HAR := Lib.hid harr2
  have HTc := Lib.hid Tc
  have HF2 := Lib.hid F2'
  clear hMt Tc F2 F2' harr2 K2 hKa hLa
  obtain ⟨M, hM⟩ : ∃ M, cameK K D arr = M := ⟨_, rfl⟩
  rw [hM] at hMK hML HAR HMT HCH HWH ⊢
  have HMK := Lib.hid hMK
  have HM := Lib.hid hM
  clear hM hMK HCA
  go_wp2_with fail
  refine HAR.out.mono ?_
  rintro e wd ⟨rfl, jv3, ev3, K3, F3⟩
  have Td := HTc.out.fr F3 (by decide)
  have F3' := HF2.out.trans (F3.mono (ts' := [97, 50, 142, 140, 148, 131, 186]) (by simp))
  have m8 := K3.n8
  have hregs : ∀ x ∈ M.tk, x.f6.length ≤ 8 := fun x hx => (HMK.out.regs x hx).2.1
  obtain ⟨TA, tc, hvA, hcA, _⟩ := K3.tasks.kd m8 hregs
  have HKD : Hid (∀ w2, KAt E w2 B kp A jv3 ev3 (pdOf M) M → Kd.C k46 w2 TA M.tk.length M.tk) := by
    intro w2 h2
    obtain ⟨TA', tc', hv', _, hk⟩ := h2.tasks.kd m8 hregs
    rw [hvA] at hv'
    injection hv' with h1 _ _
    rw [h1]
    exact hk
  obtain ⟨SL, hSL⟩ : ∃ SL, M.tab.map s142 = SL := ⟨_, rfl⟩
  have htl : M.tab.length ≤ 8 := by rw [K3.lt]; exact m8
  have r0 : wd.cell? ⟨kp, 0, none⟩ = some (.int .i64 M.reload) := K3.hd.cell 0
  have r1 : wd.cell? ⟨kp, 1, none⟩ = some (.slice TA M.tk.length tc) := by rw [K3.hd.cell]; simp [kcells, hvA]
  have r2 : wd.cell? ⟨kp, 2, none⟩ = some (.int .i64 M.tick) := K3.hd.cell 2
  have r3 : wd.cell? ⟨kp, 3, none⟩ = some (.int .i64 M.last) := K3.hd.cell 3
  have r6 : wd.cell? ⟨kp, 6, none⟩ = some (.pointer (some ⟨A.tp, 0, none⟩)) := K3.hd.cell 6
  have hkd := K3.hd.lt
  rw [hSL] at HCH
  obtain ⟨kk, hkk⟩ := HCH.out
  have HSL := Lib.hid hSL
  have HKK := Lib.hid hkk
  have HTd := Lib.hid Td
  have HF3' := Lib.hid F3'
  have HK3 := Lib.hid K3
  have HTA : Hid (∀ w2, Fr E [] B wd w2 → Calls Tryz.prog 49 #[.pointer (some ⟨A.tp, 0, none⟩)] w2 fun e w' => ∃ v, e = .returned v ∧ w'.ownsRow w2.heap.size 142 4 v M.tab.length (M.tab.flatMap T.St.cells) ∧ Below w2.heap.size w2 w') :=
    fun w2 f2 => T.tall_any A.tp A.ta M.tab w2 (K3.fr f2 (by simp)).tab htl
  have HCP : Hid (∀ w2 As cs, KAt E w2 B kp A jv3 ev3 (pdOf M) M → Kd.C k142 w2 As SL.length SL → SL.length ≤ cs → Calls Tryz.prog 48 #[.agg #[.int .i64 M.reload, .slice TA M.tk.length tc], .slice As SL.length cs, .int .i64 M.last, .int .i64 M.tick] w2 fun e w' => e = .returned (.int .i64 who) ∧ Below w2.heap.size w2 w') :=
    fun w2 As cs h2 hk hc => rule_Choose.calls kk M.reload TA tc M.tk As cs SL M.last M.tick who w2 (HKD.out w2 h2) hcA hk hc HKK.out
  obtain ⟨mn, hmn⟩ : ∃ mn, M.tk.length = mn := ⟨_, rfl⟩
  rw [hmn] at HCP r1 m8
  have HMN := Lib.hid hmn
  obtain ⟨sl, hsl⟩ : ∃ sl, SL.length = sl := ⟨_, rfl⟩
  have HSLL := Lib.hid hsl
  clear K3 F3 F3' Td hSL hkk hvA hcA hregs hmn hsl HAR HTc HF2 c0 c1 c2
  go_wp2_with fail
  go_region_held3 (fun w' => w'.cell? ⟨kp, 0, none⟩ = some (.int .i64 M.reload) ∧ w'.cell? ⟨kp, 1, none⟩ = some (.slice TA mn tc) ∧ w'.cell? ⟨kp, 2, none⟩ = some (.int .i64 M.tick) ∧ w'.cell? ⟨kp, 3, none⟩ = some (.int .i64 M.last) ∧ w'.cell? ⟨kp, 6, none⟩ = some (.pointer (some ⟨A.tp, 0, none⟩))) (go_keep) (first | (go_at_call 49; refine (HTA.out _ (Fr.drew (Fr.refl (E := E) _ B wd))).mono ?_; rintro e w4 ⟨v, rfl, hown, hbl⟩; obtain ⟨As, cs, rfl, hcs, hkd4⟩ := states_kd' hown htl HSL.out; have K4 := HK3.out.fr ((Fr.drew (Fr.refl (E := E) [] B wd)).trans (Fr.of_below hbl)) (by simp); have x0 : w4.cell? ⟨kp, 0, none⟩ = some (.int .i64 M.reload) := K4.hd.cell 0; have x1 : w4.cell? ⟨kp, 1, none⟩ = some (.slice TA mn tc) := (hbl.cell hkd).trans r1; have x2 : w4.cell? ⟨kp, 2, none⟩ = some (.int .i64 M.tick) := K4.hd.cell 2; have x3 : w4.cell? ⟨kp, 3, none⟩ = some (.int .i64 M.last) := K4.hd.cell 3; have x6 : w4.cell? ⟨kp, 6, none⟩ = some (.pointer (some ⟨A.tp, 0, none⟩)) := K4.hd.cell 6; have F4 := (Fr.drew (Fr.refl (E := E) [97, 50, 142, 140, 148, 131, 186] B wd)).trans (Fr.of_below hbl); have HK4 := Lib.hid K4; have HF4 := Lib.hid F4; have HKD4 := Lib.hid hkd4; have HCS := Lib.hid hcs; clear hown hbl K4 F4 hkd4 hcs) | (go_at_call 48; refine (HCP.out _ _ _ HK4.out HKD4.out HCS.out).mono ?_; rintro e w5 ⟨rfl, hbl5⟩; have K5 := HK4.out.fr (Fr.of_below (ts := []) (B := B) hbl5) (by simp); have y0 : w5.cell? ⟨kp, 0, none⟩ = some (.int .i64 M.reload) := K5.hd.cell 0; have y1 : w5.cell? ⟨kp, 1, none⟩ = some (.slice TA mn tc) := (K5.hd.cell 1).trans ((HK4.out.hd.cell 1).symm.trans x1); have y2 : w5.cell? ⟨kp, 2, none⟩ = some (.int .i64 M.tick) := K5.hd.cell 2; have y3 : w5.cell? ⟨kp, 3, none⟩ = some (.int .i64 M.last) := K5.hd.cell 3; have y6 : w5.cell? ⟨kp, 6, none⟩ = some (.pointer (some ⟨A.tp, 0, none⟩)) := K5.hd.cell 6))
  have HK5 := Lib.hid K5
  have HF5 := Lib.hid ((HF3'.out.trans HF4.out).trans (Fr.of_below hbl5))
  have HTe := Lib.hid (HTd.out.fr (HF4.out.trans (Fr.of_below hbl5)) (by decide))
  have hMt := HMT.out
  have t0 := HMK.out.t0
  have htk2 : M.tick < 1099511627776 := by rw [hMt]; exact htk
  clear K5 hbl5 x0 x1 x2 x3 x6 y0 y1 y2 y3 y6 r0 r1 r2 r3 r6 HK4 HF4 HKD4 HCS HK3 HF3' HTd HTA HCP HKD hMt
  rcases HWH.out with hwho | ⟨i, hwho, hfit⟩
  · subst hwho
    have HML : Hid (M.ev.length ≤ 100000000) := by unfold Hid; omega
    have hrk : ranK (cameK K D arr) (-1) touch = M.plus [⟨M.tick, 10, -1, 0⟩] := by rw [HM.out]; unfold ranK; rw [if_pos rfl]
    have HRK := Lib.hid hrk
    clear hrk
    go_wp2_with fail
    refine (note_post HK5.out 10 (-1) 0 HML.out).mono ?_
    rintro e w6 ⟨rfl, ev6, K6, F6⟩
    have HK6 := Lib.hid K6
    have HF6 := Lib.hid (HF5.out.trans (F6.mono (ts' := [97, 50, 142, 140, 148, 131, 186]) (by simp)))
    have HTI : Hid ((M.plus [⟨M.tick, 10, -1, 0⟩]).tick = M.tick) := rfl
    clear K6 F6 HK5 HF5
    have b2 : w6.cell? ⟨kp, 2, none⟩ = some (.int .i64 M.tick) := (HK6.out.hd.cell 2).trans (by show some (Value.int .i64 (M.plus [⟨M.tick, 10, -1, 0⟩]).tick) = _; rw [HTI.out])
    obtain ⟨la, hla⟩ : ∃ la, (M.plus [⟨M.tick, 10, -1, 0⟩]).last = la := ⟨_, rfl⟩
    have b3 : w6.cell? ⟨kp, 3, none⟩ = some (.int .i64 la) := (HK6.out.hd.cell 3).trans (by show some (Value.int .i64 (M.plus [⟨M.tick, 10, -1, 0⟩]).last) = _; rw [hla])
    have b8 : w6.cell? ⟨kp, 8, none⟩ = some ev6 := HK6.out.hd.cell 8
    have g2 := HK6.out.hd.frozen 2
    have g3 := HK6.out.hd.frozen 3
    have hn9 := HK6.out.next (-1)
    rw [HTI.out] at hn9
    obtain ⟨w9, hw9⟩ : ∃ w9, (w6.setCell ⟨kp, 3, none⟩ (.int .i64 (-1))).setCell ⟨kp, 2, none⟩ (.int .i64 (M.tick + 1)) = w9 := ⟨_, rfl⟩
    rw [hw9] at hn9
    have HW9 := Lib.hid hw9
    have HK9 := Lib.hid hn9.1
    have HF9 := Lib.hid (HF6.out.trans (hn9.2.mono (ts' := [97, 50, 142, 140, 148, 131, 186]) (by simp)))
    clear hla hn9 hw9
    go_wp2_with fail
    rw [HW9.out]
    go_ret
    exact ⟨jv3, ev6, rfl, by rw [HRK.out]; exact HK9.out, HF9.out⟩
  · subst hwho
    have hrk : ranK (cameK K D arr) (i : Int) touch = runsK (turnsA M i) i touch := by rw [HM.out]; unfold ranK; rw [if_neg (by omega), Int.toNat_natCast]
    have HRK := Lib.hid hrk
    have h10 : M.ev.length ≤ 10000000 := by omega
    obtain ⟨tt1, tt2, tt3, tt4⟩ := turns_tk M i
    have hjs := hfit.job.same
    have hwi : ((i : Int) == -1) = false := by rw [beq_eq_false_iff_ne]; omega
    have hz2 := HTe.out.cell 2
    have HTU := Lib.hid (turns_any HK5.out h10 i hfit.lt hfit.pre hfit.st)
    have hft : pdOf (turnsA M i) i = true := by rw [turns_pd]; exact hfit.p
    have hld : 0 ≤ (turnsA M i).loads.getD i 0 ∧ (turnsA M i).loads.getD i 0 ≤ 1000000000 := by rw [tt2]; exact ⟨hfit.l0, hfit.l1⟩
    have HRU : Hid (∀ w2 jv2 ev2, Fr E [97, 50, 142, 140, 148, 131, 186] B w w2 → KAt E w2 B kp A jv2 ev2 (pdOf (turnsA M i)) (turnsA M i) → Calls Tryz.prog 52 #[.pointer (some ⟨kp, 0, none⟩), .int .i64 i, .int .u64 touch] w2 (JPost E w2 B kp A [97, 50, 131, 142, 148, 186] (runsK (turnsA M i) i touch))) :=
      fun w2 jv2 ev2 f2 h2 => runs_any touch ht (HFB.out w2 f2) hB0 HT.out h2 (HMK.out.turns i) (by omega) i (by rw [tt1]; exact hfit.lt) hft hjs hld.1 hld.2
    have HTI : Hid ((runsK (turnsA M i) i touch).tick = M.tick) := by unfold Hid; rw [runs_tick]; exact tt3
    clear hrk hz2 hjs hft hld tt1 tt2 tt3 tt4 hfit
    go_wp2_with fail
    refine HTU.out.mono ?_
    rintro e w6 ⟨rfl, jv6, ev6, K6, F6⟩
    have F6' := HF5.out.trans (F6.mono (ts' := [97, 50, 142, 140, 148, 131, 186]) (by simp))
    have z2 : w6.cell? ⟨tb, 2, none⟩ = some (.int .u64 (touch : Int)) := (HTe.out.fr F6 (by decide)).cell 2
    have HRU2 := Lib.hid (HRU.out w6 jv6 ev6 F6' K6)
    have HF6 := Lib.hid F6'
    clear K6 F6 F6' HK5 HF5 HTU HRU
    go_wp2_with fail
    refine HRU2.out.mono ?_
    rintro e w7 ⟨rfl, jv7, ev7, K7, F7⟩
    have HK7 := Lib.hid K7
    have HF7 := Lib.hid (HF6.out.trans (F7.mono (ts' := [97, 50, 142, 140, 148, 131, 186]) (by simp)))
    clear K7 F7 HRU2 HF6 z2
    have b2 : w7.cell? ⟨kp, 2, none⟩ = some (.int .i64 M.tick) := (HK7.out.hd.cell 2).trans (by show some (Value.int .i64 (runsK (turnsA M i) i touch).tick) = _; rw [HTI.out])
    obtain ⟨la, hla⟩ : ∃ la, (runsK (turnsA M i) i touch).last = la := ⟨_, rfl⟩
    have b3 : w7.cell? ⟨kp, 3, none⟩ = some (.int .i64 la) := (HK7.out.hd.cell 3).trans (by show some (Value.int .i64 (runsK (turnsA M i) i touch).last) = _; rw [hla])
    have b8 : w7.cell? ⟨kp, 8, none⟩ = some ev7 := HK7.out.hd.cell 8
    have g2 := HK7.out.hd.frozen 2
    have g3 := HK7.out.hd.frozen 3
    have hn9 := HK7.out.next (i : Int)
    rw [HTI.out] at hn9
    obtain ⟨w9, hw9⟩ : ∃ w9, (w7.setCell ⟨kp, 3, none⟩ (.int .i64 (i : Int))).setCell ⟨kp, 2, none⟩ (.int .i64 (M.tick + 1)) = w9 := ⟨_, rfl⟩
    rw [hw9] at hn9
    have HW9 := Lib.hid hw9
    have HK9 := Lib.hid hn9.1
    have HF9 := Lib.hid (HF7.out.trans (hn9.2.mono (ts' := [97, 50, 142, 140, 148, 131, 186]) (by simp)))
    clear hla hn9 hw9
    go_wp2_with fail
    rw [HW9.out]
    go_ret
    exact ⟨jv7, ev7, rfl, by rw [HRK.out]; exact HK9.out, HF9.out⟩
end Go.Proofs.YtdgfjpbjiccllaaGreatDoor
/- A new kernel. -/
namespace Go.Proofs.YtdgfjpbjiccllaaGreatDoor
open Go.RowKit
open Go.Proofs.YtdgfjpbjiccllaaGreatDoorW.PrintWords Go.Proofs.YtdgfjpbjiccllaaGreatDoorW.PrintLast Go.Proofs.YtdgfjpbjiccllaaGreatDoorW.PrintMore
open Go.Proofs.YtdgfjpbjiccllaaGreatDoor.PTopLoads (S46 k46 z46 k46_mk S57 k57)
set_option maxRecDepth 100000
variable {E : Nat}
theorem Tryz.info148 : (Tryz.prog.info? 148).map (fun i => (i.zero, i.size, i.bytes)) = some (some (.agg #[.pointer none, .int .u64 0, .int .i64 0]), 3, 24) := by kernel_rfl
theorem Tryz.info46 : (Tryz.prog.info? 46).map (fun i => (i.zero, i.size, i.bytes)) = some (some (.agg #[.string ⟨#[]⟩, .int .i64 0, .int .i64 0, .int .i64 0, .int .i64 0, .int .i64 0, .slice none 0 0, .int .u64 0, .int .u64 0]), 9, 96) := by kernel_rfl
/-- Tasks that are read. -/
def Src (w : World) (A : Option Addr) (L : List S46) : Prop :=
  L = [] ∨ ∃ b off, A = some ⟨b, off, none⟩ ∧ b < w.heap.size ∧ ∀ i x, L[i]? = some x → ∃ ra rc, w.cell? ⟨b, off + i * 9, none⟩ = some (.string x.f0) ∧ w.cell? ⟨b, off + i * 9 + 1, none⟩ = some (.int .i64 x.f1) ∧
    w.cell? ⟨b, off + i * 9 + 2, none⟩ = some (.int .i64 x.f2) ∧ w.cell? ⟨b, off + i * 9 + 3, none⟩ = some (.int .i64 x.f3) ∧ w.cell? ⟨b, off + i * 9 + 4, none⟩ = some (.int .i64 x.f4) ∧ w.cell? ⟨b, off + i * 9 + 5, none⟩ = some (.int .i64 x.f5) ∧
    w.cell? ⟨b, off + i * 9 + 6, none⟩ = some (.slice ra x.f6.length rc) ∧ w.cell? ⟨b, off + i * 9 + 7, none⟩ = some (.int .u64 x.f7) ∧ w.cell? ⟨b, off + i * 9 + 8, none⟩ = some (.int .u64 x.f8) ∧ Nums w ra x.f6 ∧ x.f6.length ≤ rc
def nones (n : Nat) : List Value := List.replicate n (.pointer none)
def zs (n : Nat) : List Int := List.replicate n 0
/-- A kernel that is being made. -/
structure KMk (w : World) (B kp cp tp ta oa n : Nat) (rel : Int) (tv : Value) (L : List S46) (R : List Value) : Prop where
  hd : Blk w kp 97 #[.int .i64 rel, tv, .int .i64 0, .int .i64 (-1), .pointer none, .pointer (some ⟨cp, 0, none⟩), .pointer (some ⟨tp, 0, none⟩), .slice (some ⟨oa, 0, none⟩) n n, .slice none 0 0]
  tasks : TasksAt w B tv L R
  cache : CacheAt w cp (List.replicate 64 0)
  tab : T.Tab w 133 tp ta (T.zeros n)
  own : Blk w oa 148 (ocs (nones n) (zs n) (zs n)).toArray
  bk : B ≤ kp
  bc : B ≤ cp
  bt : B ≤ tp
  bta : B ≤ ta
  bo : B ≤ oa
theorem made_own (n : Nat) (h : n ≤ 8) : madeCells (Value.agg #[.pointer none, .int .u64 0, .int .i64 0]).cells (n * 3) = (ocs (nones n) (zs n) (zs n)).toArray := by
  obtain rfl | rfl | rfl | rfl | rfl | rfl | rfl | rfl | rfl : n = 0 ∨ n = 1 ∨ n = 2 ∨ n = 3 ∨ n = 4 ∨ n = 5 ∨ n = 6 ∨ n = 7 ∨ n = 8 := by omega
  all_goals kernel_rfl
theorem make_own (n : Nat) (h : n ≤ 8) (W : World) : (Instr.makeSlice 94 (.int .i64 (n : Int)) (.int .i64 (n : Int))).run Tryz.prog W = .ok (.slice (some ⟨W.heap.size, 0, none⟩) n n) (W.alloc (.cells (ocs (nones n) (zs n) (zs n)).toArray 148)) := by
  obtain ⟨i0, hi0, hz0, hz1, hz2⟩ := info_parts Tryz.info148
  have hr := run_make (P := Tryz.prog) W 94 148 i0 _ Tryz.underlying94 hi0 hz0 .i64 .i64 n n (by omega) (by omega) (by rw [hz2]; omega) (by omega)
  rw [hr, hz1, Int.toNat_natCast, made_own n h]
section
variable {w w' : World} {B kp cp tp ta oa n : Nat} {rel : Int} {tv : Value} {L : List S46} {R : List Value}
theorem KMk.fr {ts : List Nat} {C : Nat} (h : KMk w B kp cp tp ta oa n rel tv L R) (hf : Fr E ts C w w') (ht : ∀ t ∈ [97, 46, 2, 131, 133, 142, 148], t ∉ ts) : KMk w' B kp cp tp ta oa n rel tv L R := by
  have g : ∀ t, t ∈ [97, 46, 2, 131, 133, 142, 148] → t ∉ ts := ht
  exact ⟨h.hd.fr hf (g 97 (by decide)), h.tasks.fr hf (g 46 (by decide)) (g 2 (by decide)), ⟨h.cache.len, h.cache.hd.fr hf (g 131 (by decide))⟩, ⟨h.tab.hd.fr hf (g 133 (by decide)), h.tab.row.fr hf (g 142 (by decide))⟩, h.own.fr hf (g 148 (by decide)), h.bk, h.bc, h.bt, h.bta, h.bo⟩
end
theorem CacheAt.fr {w w' : World} {g : Nat} {X : List Int} {ts : List Nat} {C : Nat} (h : CacheAt w g X) (hf : Fr E ts C w w') (ht : 131 ∉ ts) : CacheAt w' g X := ⟨h.len, h.hd.fr hf ht⟩
theorem CacheAt.alloc {w : World} {g : Nat} {X : List Int} (h : CacheAt w g X) (o : Obj) : CacheAt (w.alloc o) g X := ⟨h.len, h.hd.alloc o⟩
theorem tab_alloc {w : World} {g a : Nat} {X : List T.St} (h : T.Tab w 133 g a X) (o : Obj) : T.Tab (w.alloc o) 133 g a X := ⟨h.hd.alloc o, h.row.alloc o⟩
theorem tab_fr {w w' : World} {g a : Nat} {X : List T.St} {ts : List Nat} {C : Nat} (h : T.Tab w 133 g a X) (hf : Fr E ts C w w') (h1 : 133 ∉ ts) (h2 : 142 ∉ ts) : T.Tab w' 133 g a X := ⟨h.hd.fr hf h1, h.row.fr hf h2⟩
theorem heap_size_alloc' (w : World) (o : Obj) : (w.alloc o).heap.size = w.heap.size + 1 := by simp
theorem drew_size' (w : World) : w.drew.heap.size = w.heap.size := rfl
theorem drew_cell' (w : World) (p : Addr) : w.drew.cell? p = w.cell? p := rfl
/-- The kernel's box is laid. -/
theorem KMk.mk_ {w wx : World} {B kp cp tp ta oa n : Nat} (hk : wx.heap.size = kp) (hC : CacheAt wx cp (List.replicate 64 0)) (hT : T.Tab wx 133 tp ta (T.zeros n)) (hO : Blk wx oa 148 (ocs (nones n) (zs n) (zs n)).toArray)
    (b : Below B w wx) (hB : B ≤ wx.heap.size) (bc : B ≤ cp) (bt : B ≤ tp) (ba : B ≤ ta) (bo : B ≤ oa) :
    KMk (wx.alloc (.cells #[.int .i64 0, .slice none 0 0, .int .i64 0, .int .i64 (-1), .pointer none, .pointer (some ⟨cp, 0, none⟩), .pointer (some ⟨tp, 0, none⟩), .slice (some ⟨oa, 0, none⟩) n n, .slice none 0 0] 97)) B kp cp tp ta oa n 0 (.slice none 0 0) [] [] ∧
      Below B w (wx.alloc (.cells #[.int .i64 0, .slice none 0 0, .int .i64 0, .int .i64 (-1), .pointer none, .pointer (some ⟨cp, 0, none⟩), .pointer (some ⟨tp, 0, none⟩), .slice (some ⟨oa, 0, none⟩) n n, .slice none 0 0] 97)) := by
  subst hk
  exact ⟨⟨Blk.new wx 97 _, ⟨rfl, World.ownsRow_nil _ _ _ _, fun i hi => absurd hi (by simp)⟩, ⟨hC.len, hC.hd.alloc _⟩, ⟨hT.hd.alloc _, hT.row.alloc _⟩, hO.alloc _, hB, bc, bt, ba, bo⟩, b.alloc hB _⟩
theorem KMk.rel {w : World} {B kp cp tp ta oa n : Nat} {r0 : Int} (h : KMk w B kp cp tp ta oa n r0 (.slice none 0 0) [] []) (r : Int) :
    KMk ((w.setCell ⟨kp, 0, none⟩ (.int .i64 r)).setCell ⟨kp, 1, none⟩ (.slice none 0 0)) B kp cp tp ta oa n r (.slice none 0 0) [] [] := by
  have hf : Fr 0 [97] B w ((w.setCell ⟨kp, 0, none⟩ (.int .i64 r)).setCell ⟨kp, 1, none⟩ (.slice none 0 0)) :=
    Fr.of_blk (only_setCell (only_setCell (World.grownBy.refl w (some kp)) (p := ⟨kp, 0, none⟩) (.inl rfl) _) (p := ⟨kp, 1, none⟩) (.inl rfl) _) h.hd h.bk (by simp)
  exact ⟨(h.hd.set_ 0 _).set_ 1 _, h.tasks.fr hf (by decide) (by decide), h.cache.fr hf (by decide), tab_fr h.tab hf (by decide) (by decide), h.own.fr hf (by decide), h.bk, h.bc, h.bt, h.bta, h.bo⟩
def tcell (x : S46) (v : Value) : Array Value := #[.string x.f0, .int .i64 x.f1, .int .i64 x.f2, .int .i64 x.f3, .int .i64 x.f4, .int .i64 x.f5, v, .int .u64 x.f7, .int .u64 x.f8]
/-- A row of numbers grows that is none of the regions' rows. -/
theorem KMk.per {w w2 : World} {B kp cp tp ta oa n m : Nat} {r : Int} {tv z : Value} {L : List S46} {R : List Value} {xs : List Value} (h : KMk w B kp cp tp ta oa n r tv L R)
    (hz : w.ownsRow B 2 1 z m xs) (gr : w.grownBy w2 z.ownBlock) (ha : ∀ v ∈ R, v.ownBlock ≠ z.ownBlock) : KMk w2 B kp cp tp ta oa n r tv L R := by
  have hf : Fr 0 [2] B w w2 := fr_grown gr hz (Nat.le_refl _) (by simp)
  exact ⟨h.hd.fr hf (by decide), ⟨h.tasks.len, own_fr h.tasks.row hf (by decide), fun i hi => J.own_keep (h.tasks.regs i hi) gr (.inr (ha _ (List.getElem_mem _)))⟩, h.cache.fr hf (by decide), tab_fr h.tab hf (by decide) (by decide), h.own.fr hf (by decide), h.bk, h.bc, h.bt, h.bta, h.bo⟩
theorem KMk.alloc {w : World} {B kp cp tp ta oa n : Nat} {r : Int} {tv : Value} {L : List S46} {R : List Value} (h : KMk w B kp cp tp ta oa n r tv L R) (o : Obj) : KMk (w.alloc o) B kp cp tp ta oa n r tv L R :=
  h.fr (E := 0) (ts := []) (C := 0) (Fr.of_none (only_alloc (World.grownBy.refl w none) o)) (by simp)
theorem own_mono {w : World} {B B' e size n : Nat} {v : Value} {xs : List Value} (h : w.ownsRow B' e size v n xs) (hB : B ≤ B') : w.ownsRow B e size v n xs := by
  refine ⟨h.1, ?_⟩
  rcases h.2 with h0 | ⟨g, c, cur, rfl, hb, rest⟩
  · exact .inl h0
  · exact .inr ⟨g, c, cur, rfl, Nat.le_trans hB hb, rest⟩
theorem own_block_lt {w : World} {B e size n g : Nat} {v : Value} {xs : List Value} (h : w.ownsRow B e size v n xs) (hg : v.ownBlock = some g) : g < w.heap.size := (h.lt g hg).2
/-- A task is appended. -/
theorem KMk.app {w w2 : World} {B kp cp tp ta oa n : Nat} {r : Int} {tv v sl : Value} {L : List S46} {R : List Value} {x : S46} {o : Obj} (h : KMk w B kp cp tp ta oa n r tv L R)
    (hs : w.ownsRow B 2 1 sl x.f6.length (J.ints x.f6)) (gr : (w.alloc o).grownBy w2 tv.ownBlock) (own : w2.ownsRow B 46 9 v (L.length + 1) (tcs L R ++ tcells x sl)) (D : Blk w2 kp 97 #[.int .i64 r, tv, .int .i64 0, .int .i64 (-1), .pointer none, .pointer (some ⟨cp, 0, none⟩), .pointer (some ⟨tp, 0, none⟩), .slice (some ⟨oa, 0, none⟩) n n, .slice none 0 0]) :
    KMk (w2.setCell ⟨kp, 1, none⟩ v) B kp cp tp ta oa n r v (L ++ [x]) (R ++ [sl]) ∧ Fr 0 [97, 46] B w (w2.setCell ⟨kp, 1, none⟩ v) := by
  have f1 : Fr 0 [97, 46] B w (w.alloc o) := Fr.of_none (only_alloc (World.grownBy.refl w none) o)
  have f2 : Fr 0 [97, 46] B (w.alloc o) w2 := fr_grown gr (h.tasks.row.alloc o) (Nat.le_refl _) (by simp)
  have f3 : Fr 0 [97, 46] B w2 (w2.setCell ⟨kp, 1, none⟩ v) := Fr.of_blk (only_setCell (World.grownBy.refl w2 (some kp)) (p := ⟨kp, 1, none⟩) (.inl rfl) _) D h.bk (by simp)
  have hf := (f1.trans f2).trans f3
  refine ⟨⟨D.set_ 1 v, ⟨by simp [h.tasks.len], ?_, ?_⟩, h.cache.fr hf (by decide), tab_fr h.tab hf (by decide) (by decide), h.own.fr hf (by decide), h.bk, h.bc, h.bt, h.bta, h.bo⟩, hf⟩
  · rw [tcs_snoc x sl L R h.tasks.len, List.length_append]
    exact own_far own (own_blk_ne own D (by decide)) _
  · intro i hi
    rcases Nat.lt_or_ge i L.length with h1 | h1
    · rw [List.getElem_append_left (by rw [h.tasks.len]; exact h1)]
      simp only [List.getElem_append_left h1]
      exact own_fr (h.tasks.regs i h1) hf (by decide)
    · have e : i = L.length := by simp at hi; omega
      subst e
      have q1 : (R ++ [sl])[L.length]'(by simp [h.tasks.len]) = sl := by
        rw [List.getElem_append_right (by rw [h.tasks.len]; exact Nat.le_refl _)]
        simp [h.tasks.len]
      rw [q1]
      simp only [List.getElem_append_right (Nat.le_refl _), Nat.sub_self, List.getElem_cons_zero]
      exact own_fr hs hf (by decide)
theorem grown_undrew {w w2 : World} {row : Option Nat} (h : w.drew.grownBy w2 row) : w.grownBy w2 row := ⟨h.os, h.tape, h.output, h.size, h.block⟩
set_option maxHeartbeats 16000000 in
theorem new_any {w : World} {A : Option Addr} {L : List S46} {c : Nat} {rel : Int} (h1 : 1 ≤ L.length) (h8 : L.length ≤ 8) (hS : ∀ w', Below w.heap.size w w' → Src w' A L)
    (hall : ∀ w', Below w.heap.size w w' → Calls Tryz.prog 42 #[.agg #[.int .i64 rel, .slice A L.length c]] w' fun e w2 => e = .returned (.bool true) ∧ Below w'.heap.size w' w2)
    (hok : ∀ x ∈ L, 1 ≤ x.f6.length ∧ x.f6.length ≤ 8 ∧ P.odd x.f1 = false) :
    Calls Tryz.prog 30 #[.agg #[.int .i64 rel, .slice A L.length c]] w fun e w' => ∃ kp A' jv ev, e = .returned (.tuple #[.pointer (some ⟨kp, 0, none⟩), .int .i64 0]) ∧
      KAt w.heap.size w' w.heap.size kp A' jv ev (fun _ => false) ⟨rel, L, 0, -1, L.map fun x => P.mkW x.f1, List.replicate 64 0, T.zeros L.length, zs L.length, zs L.length, List.replicate L.length ⟨[], [], 0, 0, 0, 0⟩, []⟩ ∧ Below w.heap.size w w' := by
  have HS := Lib.hid hS
  have HALL := Lib.hid hall
  have HOK := Lib.hid hok
  obtain ⟨n, hn⟩ : ∃ n, L.length = n := ⟨_, rfl⟩
  have HN := Lib.hid hn
  rw [hn] at h1 h8
  have hb1 := (Below.refl w.heap.size w).alloc (Nat.le_refl _) (.cells #[.int .i64 rel, .slice A L.length c] 24)
  have hB1 := Blk.new w 24 #[.int .i64 rel, .slice A L.length c]
  rw [hn] at hb1 hB1 HALL ⊢
  have HB1 := Lib.hid hb1
  have HBB := Lib.hid hB1
  have hmk := make_own n h8
  have hc1 := cache_new
  have ht1 := T.tnew_yes n h1 h8
  have HC1 := Lib.hid hc1
  have HT1 := Lib.hid ht1
  have hmx : ¬ (n : Int) < 0 := by omega
  clear hS hall hok hn hb1 hB1 hc1 ht1
  go_enter Tryz.func30, Tryz.ntmps30
  go_wp2_with fail
  obtain ⟨wa, hwa⟩ : ∃ wa, w.alloc (.cells #[.int .i64 rel, .slice A n c] 24) = wa := ⟨_, rfl⟩
  obtain ⟨sb, hsb⟩ : ∃ sb, w.heap.size = sb := ⟨_, rfl⟩
  have b1 := HB1.out
  have bb := HBB.out
  rw [hwa] at b1 bb ⊢
  rw [hsb] at bb b1
  rw [hsb]
  have HSB := Lib.hid hsb
  refine (HALL.out wa (by rw [hsb]; exact b1)).mono ?_
  rintro e wb ⟨rfl, hbl⟩
  have b2 : Below sb w wb := b1.trans (hbl.mono (by have := bb.lt; omega))
  have bb2 := bb.below hbl bb.lt
  have c1 : wb.cell? ⟨sb, 1, none⟩ = some (.slice A n c) := bb2.cell 1
  have c0 : wb.cell? ⟨sb, 0, none⟩ = some (.int .i64 rel) := bb2.cell 0
  have hsl := bb2.lt
  have HB2 := Lib.hid b2
  have HBB2 := Lib.hid bb2
  clear hwa hsb b1 bb hbl b2 bb2 HB1 HBB HALL
  go_upto_region 3 with fail
  go_cut [4] (fun s4 wx => ∃ kp cp tp ta oa, s4 = .pointer (some ⟨kp, 0, none⟩) ∧ (KMk wx sb kp cp tp ta oa n 0 (.slice none 0 0) [] [] ∧ Below sb w wx) ∧ sb < kp ∧ wx.cell? ⟨sb, 0, none⟩ = some (.int .i64 rel) ∧ wx.cell? ⟨sb, 1, none⟩ = some (.slice A n c))
  case first =>
    go_region_held3 (fun w' => w'.cell? ⟨sb, 1, none⟩ = some (.slice A n c)) (go_keep) (first | (go_at_call 43; refine (HC1.out _).mono ?_; rintro e wc ⟨rfl, hC, hCb⟩; have d1 : wc.cell? ⟨sb, 1, none⟩ = some (.slice A n c) := (hCb.cell (by first | exact hsl | (simp; omega))).trans (by simp [*])) | (go_at_call 44; refine (HT1.out _).mono ?_; rintro e wt ⟨rfl, hTt, hTb⟩; have d2 : wt.cell? ⟨sb, 1, none⟩ = some (.slice A n c) := (hTb.cell (by first | exact hsl | (have := hCb.size; simp at *; omega))).trans (by simp [*])))
    all_goals (go_wp2_with fail)
    all_goals (have hb2 := HB2.out; have s1 := hb2.size; have s0 := hCb.size; have s2 := hTb.size; simp only [heap_size_alloc', drew_size'] at s0 s2; simp only [heap_size_alloc', drew_size'] at hC hTt)
    all_goals go_meet
    · have bC : Below sb w wc := hb2.drew.trans (Below.mono hCb (by first | omega | (simp only [drew_size'] at *; omega) | (simp only [drew_size', heap_size_alloc'] at *; omega)))
      have bT : Below sb w wt := bC.trans (Below.mono hTb (by first | omega | (simp only [drew_size'] at *; omega) | (simp only [drew_size', heap_size_alloc'] at *; omega)))
      have hk := KMk.mk_ (w := w) (B := sb) (kp := wt.heap.size + 1) (heap_size_alloc' _ _) (CacheAt.alloc (CacheAt.fr (E := 0) (ts := []) (C := 0) hC (Fr.of_below hTb) (by simp)) _) (tab_alloc hTt _) (Blk.new wt 148 _) (bT.alloc (by first | omega | (simp only [drew_size'] at *; omega) | (simp only [drew_size', heap_size_alloc'] at *; omega)) _) (by first | omega | (simp only [drew_size'] at *; omega) | (simp only [drew_size', heap_size_alloc'] at *; omega)) (by first | omega | (simp only [drew_size'] at *; omega) | (simp only [drew_size', heap_size_alloc'] at *; omega)) (by first | omega | (simp only [drew_size'] at *; omega) | (simp only [drew_size', heap_size_alloc'] at *; omega)) (by first | omega | (simp only [drew_size'] at *; omega) | (simp only [drew_size', heap_size_alloc'] at *; omega)) (by first | omega | (simp only [drew_size'] at *; omega) | (simp only [drew_size', heap_size_alloc'] at *; omega))
      exact ⟨_, _, _, _, _, rfl, hk, (by first | omega | (simp only [drew_size'] at *; omega) | (simp only [drew_size', heap_size_alloc'] at *; omega)), by rw [World.cell?_alloc_past _ _ _ (by first | omega | (simp only [drew_size'] at *; omega) | (simp only [drew_size', heap_size_alloc'] at *; omega)), World.cell?_alloc_past _ _ _ (by first | omega | (simp only [drew_size'] at *; omega) | (simp only [drew_size', heap_size_alloc'] at *; omega)), hTb.cell (by first | omega | (simp only [drew_size'] at *; omega) | (simp only [drew_size', heap_size_alloc'] at *; omega)), hCb.cell (by first | omega | (simp only [drew_size'] at *; omega) | (simp only [drew_size', heap_size_alloc'] at *; omega)), drew_cell', c0], by rw [World.cell?_alloc_past _ _ _ (by first | omega | (simp only [drew_size'] at *; omega) | (simp only [drew_size', heap_size_alloc'] at *; omega)), World.cell?_alloc_past _ _ _ (by first | omega | (simp only [drew_size'] at *; omega) | (simp only [drew_size', heap_size_alloc'] at *; omega)), hTb.cell (by first | omega | (simp only [drew_size'] at *; omega) | (simp only [drew_size', heap_size_alloc'] at *; omega)), hCb.cell (by first | omega | (simp only [drew_size'] at *; omega) | (simp only [drew_size', heap_size_alloc'] at *; omega)), drew_cell', c1]⟩
    · have bC : Below sb w wc := hb2.drew.trans (Below.mono hCb (by first | omega | (simp only [drew_size'] at *; omega) | (simp only [drew_size', heap_size_alloc'] at *; omega)))
      have bT : Below sb w wt := (bC.alloc (by first | omega | (simp only [drew_size'] at *; omega) | (simp only [drew_size', heap_size_alloc'] at *; omega)) _).trans (Below.mono hTb (by first | omega | (simp only [drew_size'] at *; omega) | (simp only [drew_size', heap_size_alloc'] at *; omega)))
      have hk := KMk.mk_ (w := w) (B := sb) (kp := wt.heap.size) rfl (CacheAt.fr (E := 0) (ts := []) (C := 0) (CacheAt.alloc hC _) (Fr.of_below hTb) (by simp)) hTt ((Blk.new wc 148 _).below hTb (by first | omega | (simp only [drew_size'] at *; omega) | (simp only [drew_size', heap_size_alloc'] at *; omega))) bT (by first | omega | (simp only [drew_size'] at *; omega) | (simp only [drew_size', heap_size_alloc'] at *; omega)) (by first | omega | (simp only [drew_size'] at *; omega) | (simp only [drew_size', heap_size_alloc'] at *; omega)) (by first | omega | (simp only [drew_size'] at *; omega) | (simp only [drew_size', heap_size_alloc'] at *; omega)) (by first | omega | (simp only [drew_size'] at *; omega) | (simp only [drew_size', heap_size_alloc'] at *; omega)) (by first | omega | (simp only [drew_size'] at *; omega) | (simp only [drew_size', heap_size_alloc'] at *; omega))
      exact ⟨_, _, _, _, _, rfl, hk, (by first | omega | (simp only [drew_size'] at *; omega) | (simp only [drew_size', heap_size_alloc'] at *; omega)), by rw [World.cell?_alloc_past _ _ _ (by first | omega | (simp only [drew_size'] at *; omega) | (simp only [drew_size', heap_size_alloc'] at *; omega)), hTb.cell (by first | omega | (simp only [drew_size'] at *; omega) | (simp only [drew_size', heap_size_alloc'] at *; omega)), World.cell?_alloc_past _ _ _ (by first | omega | (simp only [drew_size'] at *; omega) | (simp only [drew_size', heap_size_alloc'] at *; omega)), hCb.cell (by first | omega | (simp only [drew_size'] at *; omega) | (simp only [drew_size', heap_size_alloc'] at *; omega)), drew_cell', c0], by rw [World.cell?_alloc_past _ _ _ (by first | omega | (simp only [drew_size'] at *; omega) | (simp only [drew_size', heap_size_alloc'] at *; omega)), hTb.cell (by first | omega | (simp only [drew_size'] at *; omega) | (simp only [drew_size', heap_size_alloc'] at *; omega)), World.cell?_alloc_past _ _ _ (by first | omega | (simp only [drew_size'] at *; omega) | (simp only [drew_size', heap_size_alloc'] at *; omega)), hCb.cell (by first | omega | (simp only [drew_size'] at *; omega) | (simp only [drew_size', heap_size_alloc'] at *; omega)), drew_cell', c1]⟩
    · have bC : Below sb w wc := ((hb2.alloc (by first | omega | (simp only [drew_size'] at *; omega) | (simp only [drew_size', heap_size_alloc'] at *; omega)) _).drew).trans (Below.mono hCb (by first | omega | (simp only [drew_size'] at *; omega) | (simp only [drew_size', heap_size_alloc'] at *; omega)))
      have bT : Below sb w wt := bC.trans (Below.mono hTb (by first | omega | (simp only [drew_size'] at *; omega) | (simp only [drew_size', heap_size_alloc'] at *; omega)))
      have hk := KMk.mk_ (w := w) (B := sb) (kp := wt.heap.size) rfl (CacheAt.fr (E := 0) (ts := []) (C := 0) hC (Fr.of_below hTb) (by simp)) hTt ((((Blk.new wb 148 _).drew).below hCb (by first | omega | (simp only [drew_size'] at *; omega) | (simp only [drew_size', heap_size_alloc'] at *; omega))).below hTb (by first | omega | (simp only [drew_size'] at *; omega) | (simp only [drew_size', heap_size_alloc'] at *; omega))) bT (by first | omega | (simp only [drew_size'] at *; omega) | (simp only [drew_size', heap_size_alloc'] at *; omega)) (by first | omega | (simp only [drew_size'] at *; omega) | (simp only [drew_size', heap_size_alloc'] at *; omega)) (by first | omega | (simp only [drew_size'] at *; omega) | (simp only [drew_size', heap_size_alloc'] at *; omega)) (by first | omega | (simp only [drew_size'] at *; omega) | (simp only [drew_size', heap_size_alloc'] at *; omega)) (by first | omega | (simp only [drew_size'] at *; omega) | (simp only [drew_size', heap_size_alloc'] at *; omega))
      exact ⟨_, _, _, _, _, rfl, hk, (by first | omega | (simp only [drew_size'] at *; omega) | (simp only [drew_size', heap_size_alloc'] at *; omega)), by rw [World.cell?_alloc_past _ _ _ (by first | omega | (simp only [drew_size'] at *; omega) | (simp only [drew_size', heap_size_alloc'] at *; omega)), hTb.cell (by first | omega | (simp only [drew_size'] at *; omega) | (simp only [drew_size', heap_size_alloc'] at *; omega)), hCb.cell (by first | omega | (simp only [drew_size'] at *; omega) | (simp only [drew_size', heap_size_alloc'] at *; omega)), drew_cell', World.cell?_alloc_past _ _ _ (by first | omega | (simp only [drew_size'] at *; omega) | (simp only [drew_size', heap_size_alloc'] at *; omega)), c0], by rw [World.cell?_alloc_past _ _ _ (by first | omega | (simp only [drew_size'] at *; omega) | (simp only [drew_size', heap_size_alloc'] at *; omega)), hTb.cell (by first | omega | (simp only [drew_size'] at *; omega) | (simp only [drew_size', heap_size_alloc'] at *; omega)), hCb.cell (by first | omega | (simp only [drew_size'] at *; omega) | (simp only [drew_size', heap_size_alloc'] at *; omega)), drew_cell', World.cell?_alloc_past _ _ _ (by first | omega | (simp only [drew_size'] at *; omega) | (simp only [drew_size', heap_size_alloc'] at *; omega)), c1]⟩
  case rest =>
    obtain ⟨kp, cp, tp, ta, oa, rfl, ⟨hM, hMb⟩, hsk, e0, e1⟩ := hcut
    have k0 := hM.hd.cell 0
    have k1 := hM.hd.cell 1
    have f0 := hM.hd.frozen 0
    have f1 := hM.hd.frozen 1
    have hklt := hM.hd.lt
    have hne : sb ≠ kp := by omega
    have hM2 := hM.rel rel
    have hMb2 : Below sb w ((wc.setCell ⟨kp, 0, none⟩ (.int .i64 rel)).setCell ⟨kp, 1, none⟩ (.slice none 0 0)) := (hMb.setCell hM.bk _).setCell hM.bk _
    clear c0 c1 hsl
    go_wp2_with fail
    clear k0 k1 f0 f1 hklt hne e0 e1
    obtain ⟨i2, hi2, hz20, hz21, hz22⟩ := info_parts J.Tryz.info2
    have Hz0 := Lib.hid hz20
    have Hz1 := Lib.hid hz21
    have Hz2 := Lib.hid hz22
    have Hi := Lib.hid hi2
    obtain ⟨i46, hi46, hz460, hz461, hz462⟩ := info_parts Tryz.info46
    have Hy0 := Lib.hid hz460
    have Hy1 := Lib.hid hz461
    have Hy2 := Lib.hid hz462
    have Hy := Lib.hid hi46
    clear hi2 hz20 hz21 hz22 hi46 hz460 hz461 hz462
    go_loopw [5, 31] (fun z5 z31 wr => ∃ (k : Nat) (tv : Value) (R : List Value), k ≤ n ∧ z31 = .int .i64 k ∧ KMk wr sb kp cp tp ta oa n rel tv (L.take k) R ∧ wr.ownsRow sb 2 1 z5 k (J.ints ((L.map S46.f1).take k)) ∧ (∀ v ∈ R, v.ownBlock ≠ z5.ownBlock) ∧ Below sb w wr) (fun _ z31 _ => n - (intOf z31).toNat)
    case atStart => exact ⟨0, _, [], Nat.zero_le _, rfl, by simpa using hM2, by simpa [J.ints] using World.ownsRow_nil _ _ _ _, by simp, hMb2⟩
    case round =>
      obtain ⟨k, tv, R, hk, rfl, hR, hO, hAp, hRb⟩ := hrel
      clear hM hMb hM2 hMb2
      by_cases hlt : k < n
      · have hSr := HS.out _ (by rw [HSB.out]; exact hRb)
        rcases hSr with h0 | ⟨b, off, rfl, hbl, hcs⟩
        · have := HN.out; rw [h0] at this; simp at this; omega
        obtain ⟨x, hx⟩ : ∃ x, L[k]? = some x := ⟨_, List.getElem?_eq_getElem (by rw [HN.out]; exact hlt)⟩
        obtain ⟨ra, rc, g0, g1, g2, g3, g4, g5, g6, g7, g8, hNu, _⟩ := hcs k x hx
        obtain ⟨o1, o8, ov⟩ := HOK.out x (List.mem_of_getElem? hx)
        have HX := Lib.hid hx
        have HR := Lib.hid hR
        have HO := Lib.hid hO
        have HRB := Lib.hid hRb
        have HAP := Lib.hid hAp
        clear hx hR hO hRb hcs hAp
        rcases hNu with h0 | ⟨rb, roff, rfl, hrb, hrc⟩
        · rw [h0] at o1; simp at o1
        have HRC := Lib.hid hrc
        have HXT : Hid (wr.heap.size = wr.heap.size) := rfl
        have hsw : sb ≤ wr.heap.size := by have := HR.out.hd.lt; have := HR.out.bk; omega
        clear hrc hbl
        go_wp2_with (at_builtin; refine wpList_append_own _ rfl (.tmp 35) (.tmp 37) 32 rfl wr.heap.size 2 i2 _ 1 8 Tryz.underlying32 Hi.out Hz0.out Hz1.out Hz2.out rfl (by decide) (.slice (some ⟨wr.heap.size + 1, 0, none⟩) 0 0) 0 [] rfl ?c1 ⟨rb, roff, none⟩ x.f6.length rc (J.ints x.f6) rfl (by simp [J.ints]) ?c2 (J.ints_one x.f6) (by unfold maxLen; omega) (by omega) (by simp; omega) ?c3)
        case c1 =>
          have h := World.ownsRow_made (wr.alloc (.cells (tcell x (.slice (some ⟨rb, roff, none⟩) x.f6.length rc)) 46)) #[] 0 (e := 2) (size := 1) (base := wr.heap.size) (by simp) (by unfold maxLen; omega) (by simp)
          simpa [tcell] using h
        case c2 =>
          intro j u hj
          have hjl : j < x.f6.length := by
            have := (List.getElem?_eq_some_iff.1 hj).1
            simpa [J.ints] using this
          rw [HRC.out j hjl]
          simpa [J.ints, hjl] using hj
        case c3 =>
          intro v' w' hown hg _
          obtain ⟨g, c', rfl⟩ : ∃ g c', v' = .slice (some ⟨g, 0, none⟩) x.f6.length c' := by
            rcases hown.2 with ⟨_, h⟩ | ⟨g, c', _, h, _⟩
            · omega
            · exact ⟨g, c', by simpa using h⟩
          have hgb : Below wr.heap.size wr w' := (((Below.refl _ _).alloc (Nat.le_refl _) _).alloc (by simp) _).grown hg (by simp <;> omega) (fun k e => by simp [Value.ownBlock] at e; omega)
          have hxb : Blk w' wr.heap.size 46 (tcell x (.slice (some ⟨rb, roff, none⟩) x.f6.length rc)) := ((Blk.new wr 46 _).alloc _).grown hg (by simp [Value.ownBlock])
          have hown' : w'.ownsRow wr.heap.size 2 1 (.slice (some ⟨g, 0, none⟩) x.f6.length c') x.f6.length (J.ints x.f6) := by simpa using hown
          have fx6 := hxb.frozen 6
          have cx6 : w'.cell? ⟨wr.heap.size, 6, none⟩ = some (.slice (some ⟨rb, roff, none⟩) x.f6.length rc) := hxb.cell 6
          have hgl := own_block_lt hown' rfl
          have hgg : wr.heap.size ≤ g := by
            rcases hown'.2 with ⟨h, _⟩ | ⟨g1, c1, cur, h1, h2, _⟩
            · cases h
            · injection h1 with h1
              injection h1 with h1
              injection h1 with h1
              omega
          have hbq : Below wr.heap.size wr (w'.setCell ⟨wr.heap.size, 6, none⟩ (.slice (some ⟨g, 0, none⟩) x.f6.length c')) := hgb.setCell (Nat.le_refl _) _
          have KQ := HR.out.fr (E := 0) (ts := []) (C := 0) (Fr.of_below hbq) (by simp)
          have OQ := own_fr HO.out (E := 0) (ts := []) (B := 0) (Fr.of_below hbq) (by simp)
          have BQ : Below sb w (w'.setCell ⟨wr.heap.size, 6, none⟩ (.slice (some ⟨g, 0, none⟩) x.f6.length c')) := HRB.out.trans (hbq.mono hsw)
          have XQ : Blk (w'.setCell ⟨wr.heap.size, 6, none⟩ (.slice (some ⟨g, 0, none⟩) x.f6.length c')) wr.heap.size 46 (tcell x (.slice (some ⟨g, 0, none⟩) x.f6.length c')) := hxb.set_ 6 _
          have SQ := own_far (own_mono hown' hsw) (own_blk_ne hown' hxb (by decide)) (o := 6) (.slice (some ⟨g, 0, none⟩) x.f6.length c')
          have hsz : (w'.setCell ⟨wr.heap.size, 6, none⟩ (.slice (some ⟨g, 0, none⟩) x.f6.length c')).heap.size = w'.heap.size := by simp [World.setCell]
          clear hown hg g0 g1 g2 g3 g4 g5 g6 g7 g8
          go_wp2_with fail
          have hxn : tv.ownBlock ≠ some wr.heap.size := fun e => Nat.lt_irrefl _ (own_block_lt HR.out.tasks.row e)
          have hun : u5.ownBlock ≠ some g := fun e => by have := own_block_lt HO.out e; omega
          have hTl : (L.take k).length = k := by rw [List.length_take, HN.out]; omega
          obtain ⟨xb, hxb2⟩ : ∃ xb, wr.heap.size = xb := ⟨_, rfl⟩
          rw [hxb2] at KQ OQ BQ XQ SQ hxn hsz hgg ⊢
          obtain ⟨wq, hwq⟩ : ∃ wq, w'.setCell ⟨xb, 6, none⟩ (.slice (some ⟨g, 0, none⟩) x.f6.length c') = wq := ⟨_, rfl⟩
          rw [hwq] at KQ OQ BQ XQ SQ hsz ⊢
          rw [← hsz] at hgl
          have q1 : wq.cell? ⟨kp, 1, none⟩ = some tv := KQ.hd.cell 1
          have x0 : wq.cell? ⟨xb, 0, none⟩ = some (.string x.f0) := XQ.cell 0
          have x1 : wq.cell? ⟨xb, 1, none⟩ = some (.int .i64 x.f1) := XQ.cell 1
          have x2 : wq.cell? ⟨xb, 2, none⟩ = some (.int .i64 x.f2) := XQ.cell 2
          have x3 : wq.cell? ⟨xb, 3, none⟩ = some (.int .i64 x.f3) := XQ.cell 3
          have x4 : wq.cell? ⟨xb, 4, none⟩ = some (.int .i64 x.f4) := XQ.cell 4
          have x5 : wq.cell? ⟨xb, 5, none⟩ = some (.int .i64 x.f5) := XQ.cell 5
          have x6 : wq.cell? ⟨xb, 6, none⟩ = some (.slice (some ⟨g, 0, none⟩) x.f6.length c') := XQ.cell 6
          have x7 : wq.cell? ⟨xb, 7, none⟩ = some (.int .u64 x.f7) := XQ.cell 7
          have x8 : wq.cell? ⟨xb, 8, none⟩ = some (.int .u64 x.f8) := XQ.cell 8
          have hxl := XQ.lt
          have hkl := KQ.hd.lt
          have hbs : sb ≤ wq.heap.size := by have := KQ.bk; omega
          have hrow := KQ.tasks.row
          rw [hTl] at hrow
          have HV := Lib.hid (hrow.alloc (.cells #[.string x.f0, .int .i64 x.f1, .int .i64 x.f2, .int .i64 x.f3, .int .i64 x.f4, .int .i64 x.f5, .slice (some ⟨g, 0, none⟩) x.f6.length c', .int .u64 x.f7, .int .u64 x.f8] 46))
          have HD := Lib.hid (KQ.hd.alloc (.cells #[.string x.f0, .int .i64 x.f1, .int .i64 x.f2, .int .i64 x.f3, .int .i64 x.f4, .int .i64 x.f5, .slice (some ⟨g, 0, none⟩) x.f6.length c', .int .u64 x.f7, .int .u64 x.f8] 46))
          have HXB := Lib.hid (XQ.alloc (.cells #[.string x.f0, .int .i64 x.f1, .int .i64 x.f2, .int .i64 x.f3, .int .i64 x.f4, .int .i64 x.f5, .slice (some ⟨g, 0, none⟩) x.f6.length c', .int .u64 x.f7, .int .u64 x.f8] 46))
          have HNE := Lib.hid (own_blk_ne hrow KQ.hd (by decide))
          have HXN := Lib.hid hxn
          have H1 : Hid (∀ j u, (tcells x (.slice (some ⟨g, 0, none⟩) x.f6.length c'))[j]? = some u → (wq.alloc (.cells #[.string x.f0, .int .i64 x.f1, .int .i64 x.f2, .int .i64 x.f3, .int .i64 x.f4, .int .i64 x.f5, .slice (some ⟨g, 0, none⟩) x.f6.length c', .int .u64 x.f7, .int .u64 x.f8] 46)).cell? ((⟨wq.heap.size, 0, none⟩ : Addr).add j) = some u) :=
            cells_new (l := tcells x (.slice (some ⟨g, 0, none⟩) x.f6.length c'))
          have H2 : Hid (∀ u ∈ tcells x (.slice (some ⟨g, 0, none⟩) x.f6.length c'), u.oneCell' = true) := by
            intro u hu
            simp [tcells] at hu
            rcases hu with rfl | rfl | rfl | rfl | rfl | rfl | rfl | rfl | rfl <;> rfl
          have H3 : Hid (k + 1 ≤ maxLen) := by unfold Hid maxLen; omega
          have H4 : Hid ((k + 1) * 96 ≤ 140737488355328) := by unfold Hid; omega
          have H5 : Hid (sb ≤ (wq.alloc (.cells #[.string x.f0, .int .i64 x.f1, .int .i64 x.f2, .int .i64 x.f3, .int .i64 x.f4, .int .i64 x.f5, .slice (some ⟨g, 0, none⟩) x.f6.length c', .int .u64 x.f7, .int .u64 x.f8] 46)).heap.size) := by unfold Hid; simp; omega
          have HKQ := Lib.hid KQ
          have HOQ := Lib.hid OQ
          have HBQ := Lib.hid BQ
          have HSQ := Lib.hid SQ
          clear KQ OQ BQ XQ SQ hwq hxb2 hbq hgb hxb hown' hrow fx6 cx6 hsz hxn
          go_region_law ((refine step_append_own_at rfl (.tmp 45) (.tmp 47) 22 rfl sb 46 i46 _ 9 96 Tryz.underlying22 Hy.out Hy0.out Hy1.out Hy2.out rfl (Nat.succ_pos 8) tv k (tcs (L.take k) R) rfl HV.out ⟨wq.heap.size, 0, none⟩ 1 1 (tcells x (.slice (some ⟨g, 0, none⟩) x.f6.length c')) rfl rfl H1.out H2.out H3.out H4.out H5.out ?_; intro v' w2 own gr _ wh; obtain ⟨g', m', rfl⟩ := own_shape own; have D := blk_grown gr HD.out (fun e => HNE.out e.symm); have XD := blk_grown gr HXB.out (fun e => HXN.out e.symm); have c1 : w2.cell? ⟨kp, 1, none⟩ = some tv := D.cell 1; have f1 := D.frozen 1))
          all_goals
            have hTs : L.take k ++ [x] = L.take (k + 1) := by rw [List.take_add_one, HX.out]; rfl
            have hKA := HKQ.out.app (x := x) (sl := .slice (some ⟨g, 0, none⟩) x.f6.length c') HSQ.out (grown_undrew gr) (by rw [hTl]; exact own) D
            rw [hTs] at hKA
            have hPv := own_fr HOQ.out hKA.2 (by decide)
            have hX3 := XD.far (p := ⟨kp, 1, none⟩) (XD.ne_ D (by decide)) (.slice (some ⟨g', 0, none⟩) (k + 1) m')
            have hB3 : Below sb w _ := HBQ.out.trans (hKA.2.below (Nat.le_refl _) hbs)
            have hws := hKA.2.size
            obtain ⟨w3, hw3⟩ : ∃ w3, w2.setCell ⟨kp, 1, none⟩ (.slice (some ⟨g', 0, none⟩) (k + 1) m') = w3 := ⟨_, rfl⟩
            rw [hw3] at hKA hPv hX3 hB3 hws ⊢
            have y1 : w3.cell? ⟨xb, 1, none⟩ = some (.int .i64 x.f1) := hX3.cell 1
            have hxl3 := hX3.lt
            have hK3 := hKA.1
            have HK3 := Lib.hid hK3
            have HPV := Lib.hid hPv
            have HB3 := Lib.hid hB3
            have HUN := Lib.hid hun
            have hs3 : sb ≤ w3.heap.size := by omega
            have hg3 : g < w3.heap.size := by omega
            clear hKA hPv hX3 hB3 hw3 own gr D XD c1 f1 q1 x0 x1 x2 x3 x4 x5 x6 x7 x8 hK3 hun
            go_wp2_with (at_builtin; refine wpList_append_own_at _ rfl (.tmp 52) (.tmp 55) 32 rfl sb 2 i2 _ 1 8 Tryz.underlying32 Hi.out Hz0.out Hz1.out Hz2.out rfl (by decide) u5 k (J.ints ((L.map S46.f1).take k)) rfl (HPV.out.alloc _) ⟨w3.heap.size, 0, none⟩ 1 1 [.int .i64 x.f1] rfl rfl (cell_one_new _ _ _) (by simp [Value.oneCell']) (by unfold maxLen; omega) (by omega) (by simp; omega) ?_)
            intro v2 w4 own2 gr2 _ wh2
            obtain ⟨g2, m2, rfl⟩ := own_shape own2
            go_wp2_with fail
            have hap0 : ∀ v ∈ R ++ [Value.slice (some ⟨g, 0, none⟩) x.f6.length c'], v.ownBlock ≠ u5.ownBlock := by
              intro v hv
              rcases List.mem_append.1 hv with hv | hv
              · exact HAP.out v hv
              · rw [List.mem_singleton.1 hv]
                exact fun e => HUN.out e.symm
            have hK4 := (HK3.out.alloc (.cells #[.int .i64 x.f1] 2)).per (HPV.out.alloc _) gr2 hap0
            refine ⟨⟨k + 1, _, _, hlt, rfl, hK4, ?_, ?_, ((HB3.out.alloc hs3 _).grown gr2 (by simp <;> omega) fun q e => (HPV.out.lt q e).1)⟩, ?_⟩
            · rw [List.take_add_one, List.getElem?_map, HX.out]
              simpa [J.ints] using own2
            · intro v hv
              rcases wh2 with e | e
              · rw [e]; exact hap0 v hv
              · rw [e]
                intro e2
                obtain ⟨i, hi, rfl⟩ := List.getElem_of_mem hv
                have := own_block_lt (HK3.out.tasks.regs i (by rw [← HK3.out.tasks.len]; exact hi)) e2
                omega
            · simp [intOf]
              omega
      · have hkn : k = n := by omega
        subst hkn
        have hTk : L.take k = L := List.take_of_length_le (by rw [HN.out]; exact Nat.le_refl _)
        have hTm : (L.map S46.f1).take k = L.map S46.f1 := List.take_of_length_le (by rw [List.length_map, HN.out]; exact Nat.le_refl _)
        rw [hTk] at hR
        rw [hTm] at hO
        obtain ⟨A5, m5, rfl, _, hrow⟩ := row_read hO
        have hml : (L.map S46.f1).length = k := by rw [List.length_map, HN.out]
        have hNu : Nums wr A5 (L.map S46.f1) := by
          rcases hrow with h | ⟨b, cs, rfl, _, hb, hcs⟩
          · omega
          · refine .inr ⟨b, 0, rfl, hb.lt, fun i hi => ?_⟩
            rw [Nat.zero_add, hb.cell, hcs i (by rw [← hml]; exact hi)]
            simp only [J.ints, List.getElem?_map, List.getElem?_eq_getElem (show i < L.length by simpa using hi), Option.map_some, List.getElem_map]
        have hodd : (L.map S46.f1).any P.odd = false := by
          rw [List.any_eq_false]
          intro z hz
          obtain ⟨y, hy, rfl⟩ := List.mem_map.1 hz
          rw [(HOK.out y hy).2.2]
          decide
        have hcall := fun W (h : Below wr.heap.size wr W) => P.new_yes A5 m5 (L.map S46.f1) W (hNu.below h) (by rw [hml]; exact h8) hodd
        rw [hml] at hcall
        have HCALL := Lib.hid hcall
        have HR := Lib.hid hR
        have HRB := Lib.hid hRb
        have hkl := hR.hd.lt
        clear hcall hNu hodd hrow hO hR hRb hAp hTk hTm
        go_wp2_with (go_at_call 45; refine (HCALL.out _ (Below.refl _ _)).mono ?_; rintro e w5 ⟨v5, rfl, hP, hPb⟩; have hK5 := HR.out.fr (E := 0) (ts := []) (C := 0) (Fr.of_below hPb) (by simp); have c4 : w5.cell? ⟨kp, 4, none⟩ = some (.pointer none) := hK5.hd.cell 4; have f4 := hK5.hd.frozen 4)
        go_ret2
        have hn := HN.out
        subst hn
        obtain ⟨pa, pc, rfl, hPA⟩ := hP.at_ (by simp; omega)
        have hf6 : Fr 0 [97] sb w5 (w5.setCell ⟨kp, 4, none⟩ (.pointer (some ⟨wr.heap.size, 0, none⟩))) :=
          Fr.of_blk (only_setCell (World.grownBy.refl w5 (some kp)) (p := ⟨kp, 4, none⟩) (.inl rfl) _) hK5.hd hK5.bk (by simp)
        have hsw : sb ≤ wr.heap.size := by have := hK5.bk; omega
        have hPA2 : P.PolAt w5 sb wr.heap.size pa pc (L.map fun x => P.mkW x.f1) := by
          have h := hPA
          rw [List.map_map] at h
          exact ⟨⟨h.pol.hd, own_mono h.pol.own (by omega)⟩, h.ne⟩
        rw [HSB.out]
        refine ⟨kp, ⟨tv, R, wr.heap.size, pa, pc, cp, tp, ta, oa⟩, nones L.length, .slice none 0 0, rfl, ?_, (HRB.out.trans (hPb.mono hsw)).setCell hK5.bk _⟩
        exact ⟨hK5.hd.set_ 4 _, hK5.tasks.fr hf6 (by decide) (by decide), pol_fr hPA2 hf6 (by decide) (by decide), hK5.cache.fr hf6 (by decide), tab_fr hK5.tab hf6 (by decide) (by decide), hK5.own.fr hf6 (by decide),
          World.ownsRow_nil _ _ _ _, fun i hi h => (by cases h), fun i j hi hj _ h => (by cases h), h1, h8, by simp, by simp [T.zeros], by simp [zs], by simp [zs], by simp, by simp [nones], hK5.bk, hsw, hK5.bc, hK5.bt, hK5.bta, hK5.bo, Nat.le_refl _, Nat.le_trans hK5.bk (Nat.le_of_lt (Nat.lt_of_lt_of_le hK5.hd.lt hf6.size))⟩
end Go.Proofs.YtdgfjpbjiccllaaGreatDoor
/- What package fix comes to: is, Sum. -/
namespace Go.Proofs.YtdgfjpbjiccllaaGreatDoor.F
open Go.RowKit
open Go.Proofs.YtdgfjpbjiccllaaGreatDoorW.PrintWords Go.Proofs.YtdgfjpbjiccllaaGreatDoorW.PrintLast Go.Proofs.YtdgfjpbjiccllaaGreatDoorW.PrintMore
open Go.Proofs.YtdgfjpbjiccllaaGreatDoor.PTopLoads (S212 k212 z212 k212_mk fix_sum.f fix_sum.l0 fix_sum.calls num_Ceil.f num_Floor.f num_Is.f rd_T212)
set_option maxRecDepth 100000
def topL (n least : Int) : Bool := decide (least ≤ n) && decide (n ≤ 1000000)
def badLoad (x : S212) : Bool := !(topL x.f0 1) || !(topL x.f1 0)
def isL (base : Int) (ls : List S212) : Bool := topL base 0 && decide ((ls.length : Int) ≤ 64) && !(ls.any badLoad)
/-- Loads that are read. -/
def Lds (w : World) (A : Option Addr) (ls : List S212) : Prop :=
  ls = [] ∨ ∃ b off, A = some ⟨b, off, none⟩ ∧ b < w.heap.size ∧ ∀ i x, ls[i]? = some x → w.cell? ⟨b, off + i * 2, none⟩ = some (.int .i64 x.f0) ∧ w.cell? ⟨b, off + i * 2 + 1, none⟩ = some (.int .i64 x.f1)
theorem Lds.below {w w' : World} {A : Option Addr} {ls : List S212} (h : Lds w A ls) (hb : Below w.heap.size w w') : Lds w' A ls := by
  rcases h with h | ⟨b, off, rfl, hlt, hc⟩
  · exact .inl h
  · refine .inr ⟨b, off, rfl, Nat.lt_of_lt_of_le hlt hb.size, fun i x hx => ?_⟩
    obtain ⟨h1, h2⟩ := hc i x hx
    exact ⟨(hb.cell (p := ⟨b, _, none⟩) hlt).trans h1, (hb.cell (p := ⟨b, _, none⟩) hlt).trans h2⟩
theorem Lds.kd {w : World} {A : Option Addr} {ls : List S212} (h : Lds w A ls) (hl : ls.length ≤ 1000) : Kd.C k212 w A ls.length ls := by
  refine ⟨rfl, by omega, fun h0 => ?_⟩
  rcases h with rfl | ⟨b, off, rfl, hlt, hc⟩
  · simp at h0
  · refine ⟨_, rfl, fun j p hp => ⟨_, rfl, k212_mk w p, fun i u hu => ?_⟩⟩
    obtain ⟨h1, h2⟩ := hc j p hp
    rw [add_none]
    match i, hu with
    | 0, hu =>
      simp at hu
      subst hu
      exact h1
    | 1, hu =>
      simp at hu
      subst hu
      exact h2
theorem isTop_any (n least : Int) (w : World) : Calls Tryz.prog 171 #[.int .i64 n, .int .i64 least] w fun e w' => e = .returned (.bool (topL n least)) ∧ w = w' := by
  unfold topL
  cases h : decide (least ≤ n) with
  | false =>
    go_enter Tryz.func171, Tryz.ntmps171
    go_wp2
    go_ret
    exact ⟨rfl, rfl⟩
  | true =>
    go_enter Tryz.func171, Tryz.ntmps171
    go_wp2
    go_ret
    exact ⟨rfl, rfl⟩
theorem bad_any (x : S212) (w : World) : Calls Tryz.prog 182 #[.agg #[.int .i64 x.f0, .int .i64 x.f1]] w fun e w' => e = .returned (.bool (badLoad x)) ∧ Below w.heap.size w w' := by
  unfold badLoad
  cases h : topL x.f0 1 with
  | false =>
    have H := Lib.hid h
    clear h
    go_enter Tryz.func182, Tryz.ntmps182
    go_wp2_with (go_at_call 171; refine (isTop_any _ _ _).mono ?_; rintro e w' ⟨rfl, rfl⟩; rw [H.out])
    go_ret
    exact ⟨rfl, (Below.refl _ _).alloc (Nat.le_refl _) _⟩
  | true =>
    have H := Lib.hid h
    clear h
    go_enter Tryz.func182, Tryz.ntmps182
    go_wp2_with (go_at_call 171; refine (isTop_any _ _ _).mono ?_; rintro e w' ⟨rfl, rfl⟩; first | rw [H.out] | skip)
    go_ret
    exact ⟨rfl, (Below.refl _ _).alloc (Nat.le_refl _) _⟩
theorem any_take (ls : List S212) (p : S212 → Bool) (k : Nat) (x : S212) (hx : ls[k]? = some x) : (ls.take (k + 1)).any p = ((ls.take k).any p || p x) := by
  obtain ⟨h, rfl⟩ := List.getElem?_eq_some_iff.1 hx
  rw [List.take_succ_eq_append_getElem h, List.any_append]
  simp
theorem any_of_take (ls : List S212) (p : S212 → Bool) (k : Nat) (h : (ls.take k).any p = true) : ls.any p = true := by
  rw [List.any_eq_true] at h ⊢
  obtain ⟨x, hx, hp⟩ := h
  exact ⟨x, List.mem_of_mem_take hx, hp⟩
set_option maxHeartbeats 1000000 in
theorem index_any (A : Option Addr) (c : Nat) (ls : List S212) (w : World) (h : Lds w A ls) (hl : ls.length ≤ 1000) :
    Calls Tryz.prog 189 #[.slice A ls.length c, .func (.func 182) #[] #[]] w fun e w' => ∃ r : Int, e = .returned (.int .i64 r) ∧ decide (0 ≤ r) = ls.any badLoad ∧ Below w.heap.size w w' := by
  have HL := Lib.hid h
  clear h
  obtain ⟨n, hn⟩ : ∃ n, ls.length = n := ⟨_, rfl⟩
  have HN := Lib.hid hn
  rw [hn] at hl ⊢
  clear hn
  go_enter Tryz.func189, Tryz.ntmps189
  go_wp2_with fail
  go_loopw [8] (fun z wr => ∃ k : Nat, k ≤ n ∧ z = .int .i64 k ∧ (ls.take k).any badLoad = false ∧ Below w.heap.size w wr) (fun z _ => n - (intOf z).toNat)
  case atStart => exact ⟨0, Nat.zero_le _, rfl, rfl, Below.refl _ _⟩
  case round =>
    obtain ⟨k, hk, rfl, hno, hb⟩ := hrel
    by_cases hlt : k < n
    · obtain ⟨x, hx⟩ : ∃ x, ls[k]? = some x := ⟨_, List.getElem?_eq_getElem (by rw [HN.out]; exact hlt)⟩
      rcases HL.out.below hb with h0 | ⟨b, off, rfl, hbl, hc⟩
      · have := HN.out; rw [h0] at this; simp at this; omega
      obtain ⟨c0, c1⟩ := hc k x hx
      have HT := Lib.hid (any_take ls badLoad k x hx)
      have HNO := Lib.hid hno
      have HB := Lib.hid hb
      have hk0 : ¬ ((k : Int) < 0) := by omega
      cases hbad : badLoad x with
      | false =>
        have HBAD := Lib.hid hbad
        clear hc hx hno hb hbad
        go_wp2_with (go_at_call 182; refine (bad_any x _).mono ?_; rintro e w' ⟨rfl, hb⟩; have HB2 := Lib.hid hb; clear hb; rw [HBAD.out])
        go_roundw
        case rel => exact ⟨k + 1, by omega, by go_num, by rw [HT.out, HNO.out, HBAD.out]; rfl, HB.out.trans (HB2.out.mono HB.out.size)⟩
        case measure => simp [intOf]; omega
      | true =>
        have HBAD := Lib.hid hbad
        clear hc hx hno hb hbad
        go_wp2_with (go_at_call 182; refine (bad_any x _).mono ?_; rintro e w' ⟨rfl, hb⟩; have HB2 := Lib.hid hb; clear hb; rw [HBAD.out])
        go_ret
        refine ⟨k, rfl, ?_, HB.out.trans (HB2.out.mono HB.out.size)⟩
        rw [any_of_take ls badLoad (k + 1) (by rw [HT.out, HBAD.out]; simp)]
        simp
    · have e : k = n := by omega
      subst e
      have HB := Lib.hid hb
      have HNO := Lib.hid hno
      clear hb hno
      go_wp2
      go_ret
      refine ⟨-1, rfl, ?_, HB.out⟩
      have := HNO.out
      rw [← HN.out, List.take_length] at this
      rw [this]
      rfl
theorem contains_any (A : Option Addr) (c : Nat) (ls : List S212) (w : World) (h : Lds w A ls) (hl : ls.length ≤ 1000) :
    Calls Tryz.prog 181 #[.slice A ls.length c, .func (.func 182) #[] #[]] w fun e w' => e = .returned (.bool (ls.any badLoad)) ∧ Below w.heap.size w w' := by
  have HI := Lib.hid (index_any A c ls w h hl)
  clear h
  go_enter Tryz.func181, Tryz.ntmps181
  go_wp2_with (go_at_call 189; refine (HI.out).mono ?_; rintro e w' ⟨r, rfl, hr, hb⟩; have HB := Lib.hid hb; have HR := Lib.hid hr; clear hb hr)
  go_ret
  exact ⟨by rw [← HR.out]; rfl, HB.out⟩
theorem is_any (base : Int) (A : Option Addr) (c : Nat) (ls : List S212) (w : World) (h : Lds w A ls) (hl : ls.length ≤ 1000) :
    Calls Tryz.prog 165 #[.int .i64 base, .slice A ls.length c] w fun e w' => e = .returned (.bool (isL base ls)) ∧ Below w.heap.size w w' := by
  have HC := Lib.hid (contains_any A c ls w h hl)
  clear h
  unfold isL
  cases h1 : topL base 0 with
  | false =>
    have H := Lib.hid h1
    clear h1
    go_enter Tryz.func165, Tryz.ntmps165
    go_wp2_with (go_at_call 171; refine (isTop_any _ _ _).mono ?_; rintro e w' ⟨rfl, rfl⟩; rw [H.out])
    go_ret
    exact ⟨rfl, Below.refl _ _⟩
  | true =>
    have H := Lib.hid h1
    clear h1
    cases h2 : decide ((ls.length : Int) ≤ 64) with
    | false =>
      go_enter Tryz.func165, Tryz.ntmps165
      go_wp2_with (go_at_call 171; refine (isTop_any _ _ _).mono ?_; rintro e w' ⟨rfl, rfl⟩; rw [H.out])
      go_ret
      exact ⟨rfl, Below.refl _ _⟩
    | true =>
      go_enter Tryz.func165, Tryz.ntmps165
      go_wp2_with (first | (go_at_call 171; refine (isTop_any _ _ _).mono ?_; rintro e w' ⟨rfl, rfl⟩; rw [H.out]) | (go_at_call 181; refine (HC.out).mono ?_; rintro e w' ⟨rfl, hb⟩; have HB := Lib.hid hb; clear hb))
      go_ret
      exact ⟨rfl, HB.out⟩
/-! ### sums -/
def ceilV (w t : Int) : Int := ((num_Ceil.f w t).getD (0, false)).1
theorem ceil_some (w t : Int) : ∃ b, num_Ceil.f w t = some (ceilV w t, b) := by
  have hF : ∃ r, num_Floor.f w t = some r := by
    unfold num_Floor.f num_Is.f
    split
    · simp only [Option.bind_some]
      split
      · split
        · simp only [Option.bind_some]
          split
          · split <;> exact ⟨_, rfl⟩
          · exact ⟨_, rfl⟩
        · exact ⟨_, rfl⟩
      · exact ⟨_, rfl⟩
    · exact ⟨_, rfl⟩
  obtain ⟨r, hr⟩ := hF
  have hC : ∃ r, num_Ceil.f w t = some r := by
    unfold num_Ceil.f
    rw [hr]
    simp only [Option.bind_some]
    split
    · split <;> exact ⟨_, rfl⟩
    · exact ⟨_, rfl⟩
  obtain ⟨⟨a, b⟩, hc⟩ := hC
  exact ⟨b, by unfold ceilV; rw [hc]; rfl⟩
def sumStep (w : Int) (b : Int) (x : S212) : Int := wrap64 (b + wrap64 (x.f1 * ceilV w x.f0))
def sumL (base : Int) (ls : List S212) (w : Int) : Int := ls.foldl (sumStep w) base
theorem sum_round (ls : List S212) (k d : Nat) (hlt : k < ls.length) (hl : ls.length ≤ 1000) (base w cv : Int) (b : Bool) (hb : num_Ceil.f w (ls[k]).f0 = some (cv, b)) :
    fix_sum.l0 (d + 1) base w ls (ls.length : Int) (k : Int) = fix_sum.l0 d (wrap64 (base + wrap64 (ls[k].f1 * cv))) w ls (ls.length : Int) ((k + 1 : Nat) : Int) := by
  have e1 : rd_T212 ls (k : Int) = ls[k] := by simp [rd_T212, hlt]
  have e2 : wrap64 ((k : Int) + 1) = ((k + 1 : Nat) : Int) := by unfold wrap64; omega
  have h1 : (k : Int) < (ls.length : Int) := by omega
  have h2 : (0 : Int) ≤ (k : Int) := by omega
  rw [fix_sum.l0, if_pos h1, if_pos h2, if_pos h1, e1, hb, Option.bind_some, e2]
theorem sum_from (ls : List S212) (hl : ls.length ≤ 1000) (w : Int) (d : Nat) : ∀ (k : Nat) (base : Int), k + d = ls.length → fix_sum.l0 (d + 1) base w ls (ls.length : Int) (k : Int) = some ((ls.drop k).foldl (sumStep w) base) := by
  induction d with
  | zero =>
    intro k base h
    have h1 : ¬ (k : Int) < (ls.length : Int) := by omega
    rw [fix_sum.l0, if_neg h1, List.drop_eq_nil_of_le (by omega), List.foldl_nil]
  | succ d ih =>
    intro k base h
    have hlt : k < ls.length := by omega
    obtain ⟨b, hb⟩ := ceil_some w (ls[k]).f0
    rw [sum_round ls k (d + 1) hlt hl base w _ b hb, ih (k + 1) _ (by omega), List.drop_eq_getElem_cons hlt, List.foldl_cons, sumStep]
theorem sum_f (base : Int) (ls : List S212) (hl : ls.length ≤ 1000) (w : Int) : fix_sum.f (ls.length + 1) base ls w = some (sumL base ls w) := by
  have := sum_from ls hl w ls.length 0 base (by omega)
  simpa [fix_sum.f, sumL] using this
theorem sum_any (base : Int) (A : Option Addr) (c : Nat) (ls : List S212) (v : Int) (w : World) (h : Lds w A ls) (hl : ls.length ≤ 1000) (hc : ls.length ≤ c) :
    Calls Tryz.prog 166 #[.int .i64 base, .slice A ls.length c, .int .i64 v] w fun e w' => e = .returned (.int .i64 (sumL base ls v)) ∧ Below w.heap.size w w' :=
  fix_sum.calls (ls.length + 1) base A c ls v _ w (h.kd hl) hc (sum_f base ls hl v)
/-- What Sum gives. -/
def SumL (base : Int) (ls : List S212) (v : Int) : Int × Bool := if isL base ls && topL v 0 then (sumL base ls v, true) else (0, false)
theorem Sum_any (base : Int) (A : Option Addr) (c : Nat) (ls : List S212) (v : Int) (w : World) (h : Lds w A ls) (hl : ls.length ≤ 1000) (hc : ls.length ≤ c) :
    Calls Tryz.prog 155 #[.int .i64 base, .slice A ls.length c, .int .i64 v] w fun e w' => e = .returned (.tuple #[.int .i64 (SumL base ls v).1, .bool (SumL base ls v).2]) ∧ Below w.heap.size w w' := by
  have HI := Lib.hid (is_any base A c ls w h hl)
  have HS := Lib.hid (fun w' hb => sum_any base A c ls v w' (h.below hb) hl hc)
  clear h hc
  unfold SumL
  cases h1 : isL base ls with
  | false =>
    have H := Lib.hid h1
    rw [h1] at HI
    clear h1
    go_enter Tryz.func155, Tryz.ntmps155
    go_wp2_with (go_at_call 165; refine (HI.out).mono ?_; rintro e w' ⟨rfl, hb⟩; have HB := Lib.hid hb; clear hb)
    go_ret2
    exact ⟨rfl, HB.out⟩
  | true =>
    have H := Lib.hid h1
    rw [h1] at HI
    clear h1
    cases h2 : topL v 0 with
    | false =>
      have H2 := Lib.hid h2
      clear h2
      go_enter Tryz.func155, Tryz.ntmps155
      go_wp2_with (first | (go_at_call 165; refine (HI.out).mono ?_; rintro e w' ⟨rfl, hb⟩; have HB := Lib.hid hb; clear hb) | (go_at_call 171; refine (isTop_any _ _ _).mono ?_; rintro e w' ⟨rfl, rfl⟩; rw [H2.out]))
      go_ret2
      exact ⟨rfl, HB.out⟩
    | true =>
      have H2 := Lib.hid h2
      clear h2
      go_enter Tryz.func155, Tryz.ntmps155
      go_wp2_with (first | (go_at_call 165; refine (HI.out).mono ?_; rintro e w' ⟨rfl, hb⟩; have HB := Lib.hid hb; clear hb) | (go_at_call 171; refine (isTop_any _ _ _).mono ?_; rintro e w' ⟨rfl, rfl⟩; rw [H2.out]) | (go_at_call 166; refine (HS.out _ HB.out).mono ?_; rintro e w' ⟨rfl, hb⟩; have HB2 := Lib.hid hb; clear hb))
      go_ret2
      exact ⟨rfl, HB.out.trans (HB2.out.mono HB.out.size)⟩
end Go.Proofs.YtdgfjpbjiccllaaGreatDoor.F
