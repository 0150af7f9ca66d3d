/- Joined texts: Step, Step2. -/
import Derived.Test.YtdgfjpbjiccllaaGreatDoorJa17
import Derived.Test.YtdgfjpbjiccllaaGreatDoorJa19
/- A tick of a kernel in which nobody loses the processor. -/
namespace Go.Proofs.YtdgfjpbjiccllaaGreatDoor
open Go.RowKit
open Go.Proofs.YtdgfjpbjiccllaaGreatDoorW.PrintWords Go.Proofs.YtdgfjpbjiccllaaGreatDoorW.PrintLast Go.Proofs.YtdgfjpbjiccllaaGreatDoorW.PrintMore
open Go.Proofs.YtdgfjpbjiccllaaGreatDoor.PTopLoads (S46 k46 z46 k46_mk S57 k57 S142 k142 k142_mk rule_Choose.f rule_Choose.calls)
set_option maxRecDepth 100000
variable {E : Nat}
def s142 (x : T.St) : S142 := ⟨x.p, x.s, x.m, x.a⟩
theorem states_kd {w : World} {B : Nat} {v : Value} {L : List T.St} (h : w.ownsRow B 142 4 v L.length (L.flatMap T.St.cells)) (hl : L.length ≤ 8) :
    ∃ A c, v = .slice A L.length c ∧ L.length ≤ c ∧ Kd.C k142 w A (L.map s142).length (L.map s142) := by
  rcases h.2 with ⟨rfl, h0⟩ | ⟨g, c, cur, rfl, hb, hh, hn, _, hs, ht⟩
  · refine ⟨none, 0, by rw [h0], by omega, rfl, by simp; omega, fun h => by simp at h; omega⟩
  · refine ⟨_, c, rfl, hn, rfl, by simp; omega, fun h0 => ⟨_, rfl, fun j p hp => ?_⟩⟩
    obtain ⟨hj, rfl⟩ := List.getElem?_eq_some_iff.1 hp
    have hj' : j < L.length := by simpa using hj
    refine ⟨L[j].cells, rfl, ?_, fun i u hu => ?_⟩
    · have := k142_mk w (s142 L[j])
      simpa [T.St.cells, s142] using this
    · have hi : i < 4 := by
        have := (List.getElem?_eq_some_iff.1 hu).1
        simpa [T.St.cells] using this
      rw [add_none]
      show w.cell? ⟨g, 0 + (j * 4 + i), none⟩ = _
      have hB : Blk w g 142 cur := hh
      rw [Nat.zero_add, hB.cell]
      have h1 : (L.flatMap T.St.cells)[j * 4 + i]? = some u := by
        have := T.cellsOf_at L j i hj' hi
        simp only [T.cellsOf, List.getElem?_toArray] at this
        rw [this, hu]
      rw [← ht, List.getElem?_take_of_lt (by omega)] at h1
      simpa using h1
theorem KOk.plus {K : Kst} (h : KOk K) (l : List Ev) : KOk (K.plus l) := ⟨h.t0, h.t1, h.regs, h.dl, h.ar, h.pol, h.sets⟩
theorem KOk.fold {K : Kst} (D : List (List Int)) : ∀ (l : List Nat), KOk K → KOk (l.foldl (arriveK D) K) := by
  intro l
  induction l generalizing K with
  | nil => intro h; exact h
  | cons i l ih => intro h; exact ih (h.arrive D i)
theorem fold_len (D : List (List Int)) : ∀ (l : List Nat) (K : Kst), (l.foldl (arriveK D) K).ev.length ≤ K.ev.length + l.length
  | [], K => by simp
  | i :: l, K => by
    have := fold_len D l (arriveK D K i)
    have := arriveK_len D K i
    simp only [List.foldl_cons, List.length_cons]
    omega
theorem fold_tk (D : List (List Int)) : ∀ (l : List Nat) (K : Kst), (l.foldl (arriveK D) K).tk = K.tk ∧ (l.foldl (arriveK D) K).tick = K.tick ∧ (l.foldl (arriveK D) K).last = K.last ∧ (l.foldl (arriveK D) K).reload = K.reload
  | [], K => ⟨rfl, rfl, rfl, rfl⟩
  | i :: l, K => by
    obtain ⟨a, b, c, d⟩ := fold_tk D l (arriveK D K i)
    obtain ⟨a', b', c', d', _⟩ := arriveK_tk D K i
    exact ⟨a.trans a', b.trans b', c.trans c', d.trans d'⟩
theorem begin_mem {L : List T.St} {i : Nat} {x : T.St} (h : x ∈ T.beginL L i) : ∃ y ∈ L, x.a = y.a := by
  unfold T.beginL at h
  split at h
  · rename_i hh
    obtain ⟨n, hn, e, hp⟩ := T.hasL_true hh
    obtain rfl : i = n := by omega
    rcases List.mem_or_eq_of_mem_set h with h | h
    · exact ⟨x, h, rfl⟩
    · exact ⟨T.getL L i, getL_mem hn, by rw [h]⟩
  · exact ⟨x, h, rfl⟩
theorem KOk.turns {K : Kst} (h : KOk K) (i : Nat) : KOk (turnsA K i) := by
  unfold turnsA
  split
  · exact h
  · refine ⟨h.t0, h.t1, h.regs, h.dl, fun x hx => ?_, h.pol, h.sets⟩
    obtain ⟨y, hy, e⟩ := begin_mem hx
    have := h.ar y hy
    rw [e]
    exact this
/-- What is there when all have come. -/
def cameK (K : Kst) (D : List (List Int)) (arr : Nat) : Kst := (bitsL arr).foldl (arriveK D) (({ K with ev := [] } : Kst).plus (lateL { K with ev := [] } K.tk.length))
def ranK (K2 : Kst) (who : Int) (touch : Nat) : Kst := if who = -1 then K2.plus [⟨K2.tick, 10, -1, 0⟩] else runsK (turnsA K2 who.toNat) who.toNat touch
def nextK (K3 : Kst) (who : Int) : Kst := { K3 with last := who, tick := K3.tick + 1 }
/-- Whose turn it can be. -/
structure Fit (K2 : Kst) (i : Nat) : Prop where
  lt : i < K2.tk.length
  p : pdOf K2 i = true
  pre : K2.last = i ∨ (T.stateL K2.tab K2.last).s = false
  st : (T.stateL K2.tab i).s = false ∨ K2.last = i
  job : JobOk (K2.job1 i)
  l0 : 0 ≤ K2.loads.getD i 0
  l1 : K2.loads.getD i 0 ≤ 1000000000
section
variable {w w' : World} {B kp : Nat} {A : Ad} {jv : List Value} {ev : Value} {pd : Nat → Bool} {K : Kst}
theorem hd_set {E' : Nat} (h : KAt E w B kp A jv ev pd K) (w' : World) (hf : Fr E' [97] B w w') {K' : Kst} {ev' : Value} (hd : Blk w' kp 97 (kcells A K' ev')) (he : w'.ownsRow E' 50 4 ev' K'.ev.length (evs K'.ev)) (hbe : B ≤ E') (heh : E' ≤ w'.heap.size)
    (h1 : K'.tk = K.tk) (h2 : K'.pol = K.pol) (h3 : K'.cache = K.cache) (h4 : K'.tab = K.tab) (h5 : K'.had = K.had) (h6 : K'.loads = K.loads) (h7 : K'.job = K.job) : KAt E' w' B kp A jv ev' pd K' := by
  obtain ⟨r, tk, ti, la, po, ca, ta, ha, lo, jo, e⟩ := K'
  simp only at h1 h2 h3 h4 h5 h6 h7
  subst h1 h2 h3 h4 h5 h6 h7
  exact ⟨hd, h.tasks.fr hf (by decide) (by decide), pol_fr h.pol hf (by decide) (by decide), ⟨h.cache.len, h.cache.hd.fr hf (by decide)⟩, ⟨h.tab.hd.fr hf (by decide), h.tab.row.fr hf (by decide)⟩, h.own.fr hf (by decide), he,
    fun i hi hp => (h.jobs i hi hp).fr hf (by decide) (by decide), h.apart, h.n1, h.n8, h.lp, h.lt, h.lh, h.ll, h.lj, h.lv, h.bk, h.bp, h.bc, h.bt, h.bta, h.bo, hbe, heh⟩
theorem KAt.clearEv (h : KAt E w B kp A jv ev pd K) (E' : Nat) (hbe : B ≤ E') (heh : E' ≤ w.heap.size) : KAt E' (w.setCell ⟨kp, 8, none⟩ (.slice none 0 0)) B kp A jv (.slice none 0 0) pd { K with ev := [] } ∧ Fr E' [97] B w (w.setCell ⟨kp, 8, none⟩ (.slice none 0 0)) := by
  have hf : Fr E' [97] B w (w.setCell ⟨kp, 8, none⟩ (.slice none 0 0)) := Fr.of_blk (only_setCell (World.grownBy.refl w (some kp)) (p := ⟨kp, 8, none⟩) (.inl rfl) _) h.hd h.bk (by simp)
  exact ⟨hd_set h _ hf (h.hd.set_ 8 _) (by simpa [Go.Proofs.YtdgfjpbjiccllaaGreatDoor.evs] using World.ownsRow_nil _ _ _ _) hbe (Nat.le_trans heh hf.size) rfl rfl rfl rfl rfl rfl rfl, hf⟩
theorem KAt.next (h : KAt E w B kp A jv ev pd K) (who : Int) : KAt E ((w.setCell ⟨kp, 3, none⟩ (.int .i64 who)).setCell ⟨kp, 2, none⟩ (.int .i64 (K.tick + 1))) B kp A jv ev pd (nextK K who) ∧ Fr E [97] B w ((w.setCell ⟨kp, 3, none⟩ (.int .i64 who)).setCell ⟨kp, 2, none⟩ (.int .i64 (K.tick + 1))) := by
  have hf : Fr E [97] B w ((w.setCell ⟨kp, 3, none⟩ (.int .i64 who)).setCell ⟨kp, 2, none⟩ (.int .i64 (K.tick + 1))) := Fr.of_blk (only_setCell (only_setCell (World.grownBy.refl w (some kp)) (p := ⟨kp, 3, none⟩) (.inl rfl) _) (p := ⟨kp, 2, none⟩) (.inl rfl) _) h.hd h.bk (by simp)
  have hne := own_blk_ne h.evs h.hd (by decide)
  exact ⟨hd_set h _ hf ((h.hd.set_ 3 _).set_ 2 _) (own_far (o := 2) (own_far (o := 3) h.evs hne _) hne _) h.be (Nat.le_trans h.eh hf.size) rfl rfl rfl rfl rfl rfl rfl, hf⟩
end
end Go.Proofs.YtdgfjpbjiccllaaGreatDoor
/- A tick of a kernel in which nobody loses the processor: the walk. -/
namespace Go.Proofs.YtdgfjpbjiccllaaGreatDoor
open Go.RowKit
open Go.Proofs.YtdgfjpbjiccllaaGreatDoorW.PrintWords Go.Proofs.YtdgfjpbjiccllaaGreatDoorW.PrintLast Go.Proofs.YtdgfjpbjiccllaaGreatDoorW.PrintMore
open Go.Proofs.YtdgfjpbjiccllaaGreatDoor.PTopLoads (S46 k46 z46 k46_mk S57 k57 S142 k142 k142_mk rule_Choose.f rule_Choose.calls)
set_option maxRecDepth 100000
variable {E : Nat}
theorem states_kd' {w : World} {B : Nat} {v : Value} {L : List T.St} {SL : List S142} (h : w.ownsRow B 142 4 v L.length (L.flatMap T.St.cells)) (hl : L.length ≤ 8) (hs : L.map s142 = SL) :
    ∃ A c, v = .slice A SL.length c ∧ SL.length ≤ c ∧ Kd.C k142 w A SL.length SL := by
  obtain ⟨A, c, hv, hc, hk⟩ := states_kd h hl
  subst hs
  exact ⟨A, c, by simpa using hv, by simpa using hc, hk⟩
/-- The post of a tick. -/
def SPost (E : Nat) (w : World) (B kp : Nat) (A : Ad) (K : Kst) (e : Ending) (w' : World) : Prop :=
  ∃ jv' ev', e = .returned ev' ∧ KAt E w' B kp A jv' ev' (pdOf K) K ∧ Fr E [97, 50, 142, 140, 148, 131, 186] B w w'
theorem JobOk.same {K : Kst} {i : Nat} (h : JobOk (K.job1 i)) : JobOk ((turnsA K i).job1 i) := by
  unfold turnsA
  split <;> exact h
theorem turns_tk (K : Kst) (i : Nat) : (turnsA K i).tk = K.tk ∧ (turnsA K i).loads = K.loads ∧ (turnsA K i).tick = K.tick ∧ (turnsA K i).ev.length ≤ K.ev.length + 1 := by
  unfold turnsA
  split
  · exact ⟨rfl, rfl, rfl, by omega⟩
  · exact ⟨rfl, rfl, rfl, by simp [Kst.plus]⟩
theorem turns_pd (K : Kst) (i k : Nat) : pdOf (turnsA K i) k = pdOf K k := by
  unfold turnsA
  split
  · rfl
  · exact begin_p K.tab i k
theorem runs_tick (K : Kst) (i touch : Nat) : (runsK K i touch).tick = K.tick := by
  unfold runsK
  simp only
  split
  · rfl
  · unfold endK
    simp only
    split <;> split <;> (try split) <;> rfl
set_option maxHeartbeats 16000000 in
theorem step_post {W w : World} {B kp : Nat} {A : Ad} {jv : List Value} {ev : Value} {K : Kst} {DA : Option Addr} {D : List (List Int)} {dc : Nat} (arr touch : Nat) (harr : arr < 18446744073709551616) (ht : touch < 18446744073709551616)
    (hb : Below B W w) (hBW : B ≤ W.heap.size) (hB0 : 0 < B) (hT : DeB W) (hD : ∀ w', Fr E [97, 50, 142, 140, 148, 131, 186] B w w' → Dem w' DA D) (hd64 : D.length ≤ 20)
    {E0 : Nat} (h : KAt E0 w B kp A jv ev (pdOf K) K) (hBE : B ≤ E) (hEw : E ≤ w.heap.size) (hK : KOk K) (htk : K.tick < 1099511627776) (who : Int)
    (hch : ∃ k, rule_Choose.f k (cameK K D arr).reload (cameK K D arr).tk ((cameK K D arr).tab.map s142) (cameK K D arr).last (cameK K D arr).tick = some who)
    (hw : who = -1 ∨ ∃ i : Nat, who = i ∧ Fit (cameK K D arr) i) :
    Calls Tryz.prog 31 #[.pointer (some ⟨kp, 0, none⟩), .agg #[.int .u64 arr, .slice DA D.length dc, .int .u64 touch]] w (SPost E w B kp A (nextK (ranK (cameK K D arr) who touch) who)) := by
  have hsz := hb.size
  have n8 := h.n8
  have q2 : w.cell? ⟨kp, 2, none⟩ = some (.int .i64 K.tick) := h.hd.cell 2
  have q8 : w.cell? ⟨kp, 8, none⟩ = some ev := h.hd.cell 8
  have f8 := h.hd.frozen 8
  have hkl := h.hd.lt
  obtain ⟨hA1, hF1⟩ := h.clearEv E hBE hEw
  obtain ⟨wa, hwa⟩ : ∃ wa, w.setCell ⟨kp, 8, none⟩ (.slice none 0 0) = wa := ⟨_, rfl⟩
  have hwas : wa.heap.size = w.heap.size := by rw [← hwa]; simp [World.setCell]
  rw [hwa] at hA1 hF1
  have hA2 := hA1.alloc (.cells #[.int .u64 arr, .slice DA D.length dc, .int .u64 touch] 57)
  have hTb2 := Blk.new wa 57 #[.int .u64 arr, .slice DA D.length dc, .int .u64 touch]
  rw [hwas] at hTb2
  have hF3 : Fr E [97, 50, 142, 140, 148, 131, 186] B w (wa.alloc (.cells #[.int .u64 arr, .slice DA D.length dc, .int .u64 touch] 57)) := (hF1.mono (by simp)).trans (Fr.of_none (only_alloc (World.grownBy.refl wa none) _))
  obtain ⟨tb, htb⟩ : ∃ tb, w.heap.size = tb := ⟨_, rfl⟩
  have hHS : B ≤ w.heap.size := Nat.le_trans hBW hsz
  rw [htb] at hTb2
  have HWA := Lib.hid hwa
  have HTB := Lib.hid htb
  obtain ⟨wb, hwb⟩ : ∃ wb, wa.alloc (.cells #[.int .u64 arr, .slice DA D.length dc, .int .u64 touch] 57) = wb := ⟨_, rfl⟩
  rw [hwb] at hA2 hTb2 hF3
  have HWB := Lib.hid hwb
  have hl3 := late_any hA2 ⟨hK.t0, hK.t1, hK.regs, hK.dl, hK.ar, hK.pol, hK.sets⟩ (by simp)
  have HLT := Lib.hid hl3
  have HTb := Lib.hid hTb2
  have HF3 := Lib.hid hF3
  have HH := Lib.hid h
  have HFB : Hid (∀ w2, Fr E [97, 50, 142, 140, 148, 131, 186] B w w2 → Below B W w2) := fun w2 f2 => hb.trans (f2.below (Nat.le_refl _) hHS)
  have HD := Lib.hid hD
  have HT := Lib.hid hT
  have HK := Lib.hid hK
  have HCH := Lib.hid hch
  have HWH := Lib.hid hw
  have hca : cameK K D arr = (bitsL arr).foldl (arriveK D) (({ K with ev := [] } : Kst).plus (lateL { K with ev := [] } ({ K with ev := [] } : Kst).tk.length)) := rfl
  have HCA := Lib.hid hca
  clear hwa hwas htb hwb hA1 hF1 hA2 hTb2 hF3 hl3 hch hw hD hT hb h hca
  go_enter Tryz.func31, Tryz.ntmps31
  go_wp2_with fail
  rw [HWA.out, HWB.out, HTB.out]
  refine HLT.out.mono ?_
  rintro e wc ⟨rfl, ev2, K2, F2⟩
  have Tc := HTb.out.fr F2 (by decide)
  have c0 : wc.cell? ⟨tb, 0, none⟩ = some (.int .u64 (arr : Int)) := Tc.cell 0
  have c1 : wc.cell? ⟨tb, 1, none⟩ = some (.slice DA D.length dc) := Tc.cell 1
  have c2 : wc.cell? ⟨tb, 2, none⟩ = some (.int .u64 (touch : Int)) := Tc.cell 2
  have F2' := HF3.out.trans (F2.mono (ts' := [97, 50, 142, 140, 148, 131, 186]) (by simp))
  have hKa : KOk (({ K with ev := [] } : Kst).plus (lateL { K with ev := [] } ({ K with ev := [] } : Kst).tk.length)) := KOk.plus (K := { K with ev := [] }) ⟨HK.out.t0, HK.out.t1, HK.out.regs, HK.out.dl, HK.out.ar, HK.out.pol, HK.out.sets⟩ _
  have hLa : (({ K with ev := [] } : Kst).plus (lateL { K with ev := [] } ({ K with ev := [] } : Kst).tk.length)).ev.length ≤ 8 := by
    have := lateL_len { K with ev := [] } ({ K with ev := [] } : Kst).tk.length
    simp only [Kst.plus, List.length_append, List.length_nil]
    simp only at this
    omega
  have harr2 := arrive_any (W := W) (touch := (touch : Int)) (dc := dc) arr harr (HFB.out wc F2') hBW hB0 HT.out (fun w' f => HD.out w' (F2'.trans f)) hd64 K2 hKa (by omega)
  rw [← HCA.out] at harr2
  have hMK : KOk (cameK K D arr) := by rw [HCA.out]; exact KOk.fold D _ hKa
  have hML : (cameK K D arr).ev.length ≤ 72 := by
    rw [HCA.out]
    have := fold_len D (bitsL arr) (({ K with ev := [] } : Kst).plus (lateL { K with ev := [] } ({ K with ev := [] } : Kst).tk.length))
    have := bitsF_len 64 arr
    simp only [bitsL] at *
    omega
  have hMt := fold_tk D (bitsL arr) (({ K with ev := [] } : Kst).plus (lateL { K with ev := [] } ({ K with ev := [] } : Kst).tk.length))
  rw [← HCA.out] at hMt
  have HMT := Lib.hid hMt.2.1
  have HAR := Lib.hid harr2
  have HTc := Lib.hid Tc
  have HF2 := Lib.hid F2'
  clear hMt Tc F2 F2' harr2 K2 hKa hLa
  obtain ⟨M, hM⟩ : ∃ M, cameK K D arr = M := ⟨_, rfl⟩
  rw [hM] at hMK hML HAR HMT HCH HWH ⊢
  have HMK := Lib.hid hMK
  have HM := Lib.hid hM
  clear hM hMK HCA
  go_wp2_with fail
  refine HAR.out.mono ?_
  rintro e wd ⟨rfl, jv3, ev3, K3, F3⟩
  have Td := HTc.out.fr F3 (by decide)
  have F3' := HF2.out.trans (F3.mono (ts' := [97, 50, 142, 140, 148, 131, 186]) (by simp))
  have m8 := K3.n8
  have hregs : ∀ x ∈ M.tk, x.f6.length ≤ 8 := fun x hx => (HMK.out.regs x hx).2.1
  obtain ⟨TA, tc, hvA, hcA, _⟩ := K3.tasks.kd m8 hregs
  have HKD : Hid (∀ w2, KAt E w2 B kp A jv3 ev3 (pdOf M) M → Kd.C k46 w2 TA M.tk.length M.tk) := by
    intro w2 h2
    obtain ⟨TA', tc', hv', _, hk⟩ := h2.tasks.kd m8 hregs
    rw [hvA] at hv'
    injection hv' with h1 _ _
    rw [h1]
    exact hk
  obtain ⟨SL, hSL⟩ : ∃ SL, M.tab.map s142 = SL := ⟨_, rfl⟩
  have htl : M.tab.length ≤ 8 := by rw [K3.lt]; exact m8
  have r0 : wd.cell? ⟨kp, 0, none⟩ = some (.int .i64 M.reload) := K3.hd.cell 0
  have r1 : wd.cell? ⟨kp, 1, none⟩ = some (.slice TA M.tk.length tc) := by rw [K3.hd.cell]; simp [kcells, hvA]
  have r2 : wd.cell? ⟨kp, 2, none⟩ = some (.int .i64 M.tick) := K3.hd.cell 2
  have r3 : wd.cell? ⟨kp, 3, none⟩ = some (.int .i64 M.last) := K3.hd.cell 3
  have r6 : wd.cell? ⟨kp, 6, none⟩ = some (.pointer (some ⟨A.tp, 0, none⟩)) := K3.hd.cell 6
  have hkd := K3.hd.lt
  rw [hSL] at HCH
  obtain ⟨kk, hkk⟩ := HCH.out
  have HSL := Lib.hid hSL
  have HKK := Lib.hid hkk
  have HTd := Lib.hid Td
  have HF3' := Lib.hid F3'
  have HK3 := Lib.hid K3
  have HTA : Hid (∀ w2, Fr E [] B wd w2 → Calls Tryz.prog 49 #[.pointer (some ⟨A.tp, 0, none⟩)] w2 fun e w' => ∃ v, e = .returned v ∧ w'.ownsRow w2.heap.size 142 4 v M.tab.length (M.tab.flatMap T.St.cells) ∧ Below w2.heap.size w2 w') :=
    fun w2 f2 => T.tall_any A.tp A.ta M.tab w2 (K3.fr f2 (by simp)).tab htl
  have HCP : Hid (∀ w2 As cs, KAt E w2 B kp A jv3 ev3 (pdOf M) M → Kd.C k142 w2 As SL.length SL → SL.length ≤ cs → Calls Tryz.prog 48 #[.agg #[.int .i64 M.reload, .slice TA M.tk.length tc], .slice As SL.length cs, .int .i64 M.last, .int .i64 M.tick] w2 fun e w' => e = .returned (.int .i64 who) ∧ Below w2.heap.size w2 w') :=
    fun w2 As cs h2 hk hc => rule_Choose.calls kk M.reload TA tc M.tk As cs SL M.last M.tick who w2 (HKD.out w2 h2) hcA hk hc HKK.out
  obtain ⟨mn, hmn⟩ : ∃ mn, M.tk.length = mn := ⟨_, rfl⟩
  rw [hmn] at HCP r1 m8
  have HMN := Lib.hid hmn
  obtain ⟨sl, hsl⟩ : ∃ sl, SL.length = sl := ⟨_, rfl⟩
  have HSLL := Lib.hid hsl
  clear K3 F3 F3' Td hSL hkk hvA hcA hregs hmn hsl HAR HTc HF2 c0 c1 c2
  go_wp2_with fail
  go_region_held3 (fun w' => w'.cell? ⟨kp, 0, none⟩ = some (.int .i64 M.reload) ∧ w'.cell? ⟨kp, 1, none⟩ = some (.slice TA mn tc) ∧ w'.cell? ⟨kp, 2, none⟩ = some (.int .i64 M.tick) ∧ w'.cell? ⟨kp, 3, none⟩ = some (.int .i64 M.last) ∧ w'.cell? ⟨kp, 6, none⟩ = some (.pointer (some ⟨A.tp, 0, none⟩))) (go_keep) (first | (go_at_call 49; refine (HTA.out _ (Fr.drew (Fr.refl (E := E) _ B wd))).mono ?_; rintro e w4 ⟨v, rfl, hown, hbl⟩; obtain ⟨As, cs, rfl, hcs, hkd4⟩ := states_kd' hown htl HSL.out; have K4 := HK3.out.fr ((Fr.drew (Fr.refl (E := E) [] B wd)).trans (Fr.of_below hbl)) (by simp); have x0 : w4.cell? ⟨kp, 0, none⟩ = some (.int .i64 M.reload) := K4.hd.cell 0; have x1 : w4.cell? ⟨kp, 1, none⟩ = some (.slice TA mn tc) := (hbl.cell hkd).trans r1; have x2 : w4.cell? ⟨kp, 2, none⟩ = some (.int .i64 M.tick) := K4.hd.cell 2; have x3 : w4.cell? ⟨kp, 3, none⟩ = some (.int .i64 M.last) := K4.hd.cell 3; have x6 : w4.cell? ⟨kp, 6, none⟩ = some (.pointer (some ⟨A.tp, 0, none⟩)) := K4.hd.cell 6; have F4 := (Fr.drew (Fr.refl (E := E) [97, 50, 142, 140, 148, 131, 186] B wd)).trans (Fr.of_below hbl); have HK4 := Lib.hid K4; have HF4 := Lib.hid F4; have HKD4 := Lib.hid hkd4; have HCS := Lib.hid hcs; clear hown hbl K4 F4 hkd4 hcs) | (go_at_call 48; refine (HCP.out _ _ _ HK4.out HKD4.out HCS.out).mono ?_; rintro e w5 ⟨rfl, hbl5⟩; have K5 := HK4.out.fr (Fr.of_below (ts := []) (B := B) hbl5) (by simp); have y0 : w5.cell? ⟨kp, 0, none⟩ = some (.int .i64 M.reload) := K5.hd.cell 0; have y1 : w5.cell? ⟨kp, 1, none⟩ = some (.slice TA mn tc) := (K5.hd.cell 1).trans ((HK4.out.hd.cell 1).symm.trans x1); have y2 : w5.cell? ⟨kp, 2, none⟩ = some (.int .i64 M.tick) := K5.hd.cell 2; have y3 : w5.cell? ⟨kp, 3, none⟩ = some (.int .i64 M.last) := K5.hd.cell 3; have y6 : w5.cell? ⟨kp, 6, none⟩ = some (.pointer (some ⟨A.tp, 0, none⟩)) := K5.hd.cell 6))
  have HK5 := Lib.hid K5
  have HF5 := Lib.hid ((HF3'.out.trans HF4.out).trans (Fr.of_below hbl5))
  have HTe := Lib.hid (HTd.out.fr (HF4.out.trans (Fr.of_below hbl5)) (by decide))
  have hMt := HMT.out
  have t0 := HMK.out.t0
  have htk2 : M.tick < 1099511627776 := by rw [hMt]; exact htk
  clear K5 hbl5 x0 x1 x2 x3 x6 y0 y1 y2 y3 y6 r0 r1 r2 r3 r6 HK4 HF4 HKD4 HCS HK3 HF3' HTd HTA HCP HKD hMt
  rcases HWH.out with hwho | ⟨i, hwho, hfit⟩
  · subst hwho
    have HML : Hid (M.ev.length ≤ 100000000) := by unfold Hid; omega
    have hrk : ranK (cameK K D arr) (-1) touch = M.plus [⟨M.tick, 10, -1, 0⟩] := by rw [HM.out]; unfold ranK; rw [if_pos rfl]
    have HRK := Lib.hid hrk
    clear hrk
    go_wp2_with fail
    refine (note_post HK5.out 10 (-1) 0 HML.out).mono ?_
    rintro e w6 ⟨rfl, ev6, K6, F6⟩
    have HK6 := Lib.hid K6
    have HF6 := Lib.hid (HF5.out.trans (F6.mono (ts' := [97, 50, 142, 140, 148, 131, 186]) (by simp)))
    have HTI : Hid ((M.plus [⟨M.tick, 10, -1, 0⟩]).tick = M.tick) := rfl
    clear K6 F6 HK5 HF5
    have b2 : w6.cell? ⟨kp, 2, none⟩ = some (.int .i64 M.tick) := (HK6.out.hd.cell 2).trans (by show some (Value.int .i64 (M.plus [⟨M.tick, 10, -1, 0⟩]).tick) = _; rw [HTI.out])
    obtain ⟨la, hla⟩ : ∃ la, (M.plus [⟨M.tick, 10, -1, 0⟩]).last = la := ⟨_, rfl⟩
    have b3 : w6.cell? ⟨kp, 3, none⟩ = some (.int .i64 la) := (HK6.out.hd.cell 3).trans (by show some (Value.int .i64 (M.plus [⟨M.tick, 10, -1, 0⟩]).last) = _; rw [hla])
    have b8 : w6.cell? ⟨kp, 8, none⟩ = some ev6 := HK6.out.hd.cell 8
    have g2 := HK6.out.hd.frozen 2
    have g3 := HK6.out.hd.frozen 3
    have hn9 := HK6.out.next (-1)
    rw [HTI.out] at hn9
    obtain ⟨w9, hw9⟩ : ∃ w9, (w6.setCell ⟨kp, 3, none⟩ (.int .i64 (-1))).setCell ⟨kp, 2, none⟩ (.int .i64 (M.tick + 1)) = w9 := ⟨_, rfl⟩
    rw [hw9] at hn9
    have HW9 := Lib.hid hw9
    have HK9 := Lib.hid hn9.1
    have HF9 := Lib.hid (HF6.out.trans (hn9.2.mono (ts' := [97, 50, 142, 140, 148, 131, 186]) (by simp)))
    clear hla hn9 hw9
    go_wp2_with fail
    rw [HW9.out]
    go_ret
    exact ⟨jv3, ev6, rfl, by rw [HRK.out]; exact HK9.out, HF9.out⟩
  · subst hwho
    have hrk : ranK (cameK K D arr) (i : Int) touch = runsK (turnsA M i) i touch := by rw [HM.out]; unfold ranK; rw [if_neg (by omega), Int.toNat_natCast]
    have HRK := Lib.hid hrk
    have h10 : M.ev.length ≤ 10000000 := by omega
    obtain ⟨tt1, tt2, tt3, tt4⟩ := turns_tk M i
    have hjs := hfit.job.same
    have hwi : ((i : Int) == -1) = false := by rw [beq_eq_false_iff_ne]; omega
    have hz2 := HTe.out.cell 2
    have HTU := Lib.hid (turns_any HK5.out h10 i hfit.lt hfit.pre hfit.st)
    have hft : pdOf (turnsA M i) i = true := by rw [turns_pd]; exact hfit.p
    have hld : 0 ≤ (turnsA M i).loads.getD i 0 ∧ (turnsA M i).loads.getD i 0 ≤ 1000000000 := by rw [tt2]; exact ⟨hfit.l0, hfit.l1⟩
    have HRU : Hid (∀ w2 jv2 ev2, Fr E [97, 50, 142, 140, 148, 131, 186] B w w2 → KAt E w2 B kp A jv2 ev2 (pdOf (turnsA M i)) (turnsA M i) → Calls Tryz.prog 52 #[.pointer (some ⟨kp, 0, none⟩), .int .i64 i, .int .u64 touch] w2 (JPost E w2 B kp A [97, 50, 131, 142, 148, 186] (runsK (turnsA M i) i touch))) :=
      fun w2 jv2 ev2 f2 h2 => runs_any touch ht (HFB.out w2 f2) hB0 HT.out h2 (HMK.out.turns i) (by omega) i (by rw [tt1]; exact hfit.lt) hft hjs hld.1 hld.2
    have HTI : Hid ((runsK (turnsA M i) i touch).tick = M.tick) := by unfold Hid; rw [runs_tick]; exact tt3
    clear hrk hz2 hjs hft hld tt1 tt2 tt3 tt4 hfit
    go_wp2_with fail
    refine HTU.out.mono ?_
    rintro e w6 ⟨rfl, jv6, ev6, K6, F6⟩
    have F6' := HF5.out.trans (F6.mono (ts' := [97, 50, 142, 140, 148, 131, 186]) (by simp))
    have z2 : w6.cell? ⟨tb, 2, none⟩ = some (.int .u64 (touch : Int)) := (HTe.out.fr F6 (by decide)).cell 2
    have HRU2 := Lib.hid (HRU.out w6 jv6 ev6 F6' K6)
    have HF6 := Lib.hid F6'
    clear K6 F6 F6' HK5 HF5 HTU HRU
    go_wp2_with fail
    refine HRU2.out.mono ?_
    rintro e w7 ⟨rfl, jv7, ev7, K7, F7⟩
    have HK7 := Lib.hid K7
    have HF7 := Lib.hid (HF6.out.trans (F7.mono (ts' := [97, 50, 142, 140, 148, 131, 186]) (by simp)))
    clear K7 F7 HRU2 HF6 z2
    have b2 : w7.cell? ⟨kp, 2, none⟩ = some (.int .i64 M.tick) := (HK7.out.hd.cell 2).trans (by show some (Value.int .i64 (runsK (turnsA M i) i touch).tick) = _; rw [HTI.out])
    obtain ⟨la, hla⟩ : ∃ la, (runsK (turnsA M i) i touch).last = la := ⟨_, rfl⟩
    have b3 : w7.cell? ⟨kp, 3, none⟩ = some (.int .i64 la) := (HK7.out.hd.cell 3).trans (by show some (Value.int .i64 (runsK (turnsA M i) i touch).last) = _; rw [hla])
    have b8 : w7.cell? ⟨kp, 8, none⟩ = some ev7 := HK7.out.hd.cell 8
    have g2 := HK7.out.hd.frozen 2
    have g3 := HK7.out.hd.frozen 3
    have hn9 := HK7.out.next (i : Int)
    rw [HTI.out] at hn9
    obtain ⟨w9, hw9⟩ : ∃ w9, (w7.setCell ⟨kp, 3, none⟩ (.int .i64 (i : Int))).setCell ⟨kp, 2, none⟩ (.int .i64 (M.tick + 1)) = w9 := ⟨_, rfl⟩
    rw [hw9] at hn9
    have HW9 := Lib.hid hw9
    have HK9 := Lib.hid hn9.1
    have HF9 := Lib.hid (HF7.out.trans (hn9.2.mono (ts' := [97, 50, 142, 140, 148, 131, 186]) (by simp)))
    clear hla hn9 hw9
    go_wp2_with fail
    rw [HW9.out]
    go_ret
    exact ⟨jv7, ev7, rfl, by rw [HRK.out]; exact HK9.out, HF9.out⟩
end Go.Proofs.YtdgfjpbjiccllaaGreatDoor
