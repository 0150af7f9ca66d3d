/- Joined texts: Step3. -/
import Derived.Test.YtdgfjpbjiccllaaGreatDoorTopAgain13
import Derived.Test.YtdgfjpbjiccllaaGreatDoorTopAgain14
namespace Go.Proofs.YtdgfjpbjiccllaaGreatDoor
open Go.RowKit
open YtdgfjpbjiccllaaGreatDoorW.PrintWords YtdgfjpbjiccllaaGreatDoorW.PrintLast YtdgfjpbjiccllaaGreatDoorW.PrintMore
open PTopLoads (S46 k46 z46 k46_mk S57 k57 S142 k142 k142_mk)
open V
set_option maxRecDepth 100000
variable {E : Nat}
theorem JPost.wide {w w' : World} {B kp : Nat} {A : Ad} {ts ts' : List Nat} {K : Kst} {e : Ending} (h : JPost E w B kp A ts K e w') (hs : ∀ t ∈ ts, t ∈ ts') : JPost E w B kp A ts' K e w' := by
 obtain ⟨he, jv, ev, hK, hf⟩ := h
 exact ⟨he, jv, ev, hK, hf.mono hs⟩
theorem turnsK_new {K : Kst} {i : Nat} (h : K.last = i ∨ (T.stateL K.tab K.last).s = false) (h2 : (T.stateL K.tab i).s = false ∨ K.last = i) : turnsK K i = turnsA K i := by
 have hp : preK K i = K := by
  unfold preK
  rw [if_neg]
  rintro ⟨h3, h4⟩
  rcases h with h | h
  ·exact h3 h
  ·rw [h] at h4; cases h4
 unfold turnsK
 rw [hp, if_neg]
 rintro ⟨h3, h4⟩
 rcases h2 with h2 | h2
 ·rw [h2] at h3; cases h3
 ·exact h4 h2
theorem turns_all {W w : World} {B kp : Nat} {A : Ad} {jv : List Value} {ev : Value} {K : Kst} (hb : Below B W w) (hB0 : 0 < B) (hT : DeB W) (h : KAt E w B kp A jv ev (pdOf K) K) (hO : TnOk K) (hL : K.ev.length ≤ 10000000)
  (i : Nat) (hi : i < K.tk.length) :
  Calls Tryz.prog 51 #[.pointer (some ⟨kp, 0, none⟩), .int .i64 i] w (JPost E w B kp A [97, 50, 131, 142, 148] (turnsK K i)) := by
 by_cases hli : K.last = i
 ·rw [turnsK_new (.inl hli) (.inr hli)]
  exact (turns_any h hL i hi (.inl hli) (.inr hli)).mono fun e w' hp => hp.wide (by simp)
 ·by_cases hls : (T.stateL K.tab K.last).s = true
  ·by_cases hss : (T.stateL K.tab i).s = true
   ·exact turns_pre_res hb hB0 hT h hO hL i hi hli hls hss
   ·exact turns_pre_new hb hB0 hT h hO hL i hi hli hls (by simpa using hss)
  ·have hls : (T.stateL K.tab K.last).s = false := by simpa using hls
   by_cases hss : (T.stateL K.tab i).s = true
   ·exact turns_res hb hB0 hT h hO hL i hi hli hls hss
   ·have hss : (T.stateL K.tab i).s = false := by simpa using hss
    rw [turnsK_new (.inr hls) (.inl hss)]
    exact (turns_any h hL i hi (.inr hls) (.inl hss)).mono fun e w' hp => hp.wide (by simp)
theorem turnsK_tk (K : Kst) (i : Nat) : (turnsK K i).tk = K.tk ∧ (turnsK K i).tick = K.tick ∧ (turnsK K i).ev.length ≤ K.ev.length + 2 := by
 have hp := pre_same K i
 unfold turnsK
 split
 ·refine ⟨hp.tk, hp.tick, ?_⟩
  have := hp.len
  simp only [resK, Kst.plus, List.length_append, List.length_cons, List.length_nil]
  omega
 ·obtain ⟨a, _, c, d⟩ := turns_tk (preK K i) i
  exact ⟨a.trans hp.tk, c.trans hp.tick, by have := hp.len; omega⟩
theorem turnsK_job (K : Kst) (i : Nat) : (turnsK K i).job1 i = K.job1 i := by
 have hp := pre_same K i
 unfold turnsK Kst.job1
 split
 ·show (preK K i).job.getD i _ = _
  rw [hp.job]
 ·unfold turnsA
  split
  ·rw [hp.job]
  ·show (preK K i).job.getD i _ = _
   rw [hp.job]
theorem turnsK_pd (K : Kst) (i k : Nat) : pdOf (turnsK K i) k = pdOf K k := by
 have hp := pre_same K i
 unfold turnsK
 split
 ·show (T.getL (preK K i).tab k).p = _
  rw [hp.tab]
  rfl
 ·rw [turns_pd]
  show (T.getL (preK K i).tab k).p = _
  rw [hp.tab]
  rfl
theorem turnsK_loads {K : Kst} (hO : TnOk K) (i : Nat) (hi : i < K.tk.length) (hll : K.loads.length = K.tk.length) (l0 : 0 ≤ K.loads.getD i 0) (l1 : K.loads.getD i 0 ≤ 1000000000) :
  0 ≤ (turnsK K i).loads.getD i 0 ∧ (turnsK K i).loads.getD i 0 ≤ 1000000000 := by
 have hp := pre_same K i
 have hO1 := hO.pre i
 unfold turnsK
 split
 ·have hl : i < (preK K i).loads.length := by rw [hp.loads, hll]; exact hi
  have e : (resK (preK K i) i).loads.getD i 0 = (preK K i).reload * (cnt (lostN (preK K i) i) : Int) := by
   show ((preK K i).loads.set i _).getD i 0 = _
   simp [List.getD_eq_getElem?_getD, hl]
  rw [e]
  have hc := cnt_le (lostN (preK K i) i)
  have h1 : 0 ≤ (preK K i).reload * (cnt (lostN (preK K i) i) : Int) := Int.mul_nonneg hO1.r0 (by omega)
  have h2 : (preK K i).reload * (cnt (lostN (preK K i) i) : Int) ≤ 10000 * 64 := Int.mul_le_mul hO1.r1 (by omega) (by omega) (by omega)
  omega
 ·rw [(turns_tk (preK K i) i).2.1, hp.loads]
  exact ⟨l0, l1⟩
theorem KOk.preG {K : Kst} (h : KOk K) (i : Nat) : KOk (preK K i) := by
 have hp := pre_same K i
 exact ⟨by rw [hp.tick]; exact h.t0, by rw [hp.tick]; exact h.t1, by rw [hp.tk]; exact h.regs, by rw [hp.tk]; exact h.dl, by rw [hp.tab, hp.tick]; exact h.ar, by rw [hp.pol]; exact h.pol, by rw [hp.tk]; exact h.sets⟩
theorem KOk.turnsG {K : Kst} (h : KOk K) (i : Nat) : KOk (turnsK K i) := by
 have hp := h.preG i
 unfold turnsK
 split
 ·exact ⟨hp.t0, hp.t1, hp.regs, hp.dl, hp.ar, hp.pol, hp.sets⟩
 ·exact hp.turns i
def ranG (K2 : Kst) (who : Int) (touch : Nat) : Kst := if who = -1 then K2.plus [⟨K2.tick, 10, -1, 0⟩] else runsK (turnsK K2 who.toNat) who.toNat touch
structure Fit2 (K2 : Kst) (i : Nat) : Prop where
 lt : i < K2.tk.length
 p : pdOf K2 i = true
 job : JobOk (K2.job1 i)
 ll : K2.loads.length = K2.tk.length
 l0 : 0 ≤ K2.loads.getD i 0
 l1 : K2.loads.getD i 0 ≤ 1000000000
 ok : TnOk K2
set_option maxHeartbeats 16000000 in
theorem step_all {W w : World} {B kp : Nat} {A : Ad} {jv : List Value} {ev : Value} {K : Kst} {DA : Option Addr} {D : List (List Int)} {dc : Nat} (arr touch : Nat) (harr : arr < 18446744073709551616) (ht : touch < 18446744073709551616)
  (hb : Below B W w) (hBW : B ≤ W.heap.size) (hB0 : 0 < B) (hT : DeB W) (hD : ∀ w', Fr E [97, 50, 142, 140, 148, 131, 186] B w w' → Dem w' DA D) (hd64 : D.length ≤ 20)
  {E0 : Nat} (h : KAt E0 w B kp A jv ev (pdOf K) K) (hBE : B ≤ E) (hEw : E ≤ w.heap.size) (hK : KOk K) (htk : K.tick < 1099511627776) (who : Int)
  (hch : Q.choose (cameK K D arr).tk ((cameK K D arr).tab.map s142) (cameK K D arr).last (cameK K D arr).tick = who)
  (hw : who = -1 ∨ ∃ i : Nat, who = i ∧ Fit2 (cameK K D arr) i) :
  Calls Tryz.prog 31 #[.pointer (some ⟨kp, 0, none⟩), .agg #[.int .u64 arr, .slice DA D.length dc, .int .u64 touch]] w (SPost E w B kp A (nextK (ranG (cameK K D arr) who touch) who)) := by
 have hsz := hb.size
 have n8 := h.n8
 have q2 : w.cell? ⟨kp, 2, none⟩ = some (.int .i64 K.tick) := h.hd.cell 2
 have q8 : w.cell? ⟨kp, 8, none⟩ = some ev := h.hd.cell 8
 have f8 := h.hd.frozen 8
 have hkl := h.hd.lt
 obtain ⟨hA1, hF1⟩ := h.clearEv E hBE hEw
 obtain ⟨wa, hwa⟩ : ∃ wa, w.setCell ⟨kp, 8, none⟩ (.slice none 0 0) = wa := ⟨_, rfl⟩
 have hwas : wa.heap.size = w.heap.size := by rw [← hwa]; simp [World.setCell]
 rw [hwa] at hA1 hF1
 have hA2 := hA1.alloc (.cells #[.int .u64 arr, .slice DA D.length dc, .int .u64 touch] 57)
 have hTb2 := Blk.new wa 57 #[.int .u64 arr, .slice DA D.length dc, .int .u64 touch]
 rw [hwas] at hTb2
 have hF3 : Fr E [97, 50, 142, 140, 148, 131, 186] B w (wa.alloc (.cells #[.int .u64 arr, .slice DA D.length dc, .int .u64 touch] 57)) := (hF1.mono (by simp)).trans (Fr.of_none (only_alloc (World.grownBy.refl wa none) _))
 obtain ⟨tb, htb⟩ : ∃ tb, w.heap.size = tb := ⟨_, rfl⟩
 have hHS : B ≤ w.heap.size := Nat.le_trans hBW hsz
 rw [htb] at hTb2
 have HWA := Lib.hid hwa
 have HTB := Lib.hid htb
 obtain ⟨wb, hwb⟩ : ∃ wb, wa.alloc (.cells #[.int .u64 arr, .slice DA D.length dc, .int .u64 touch] 57) = wb := ⟨_, rfl⟩
 rw [hwb] at hA2 hTb2 hF3
 have HWB := Lib.hid hwb
 have hl3 := late_any hA2 ⟨hK.t0, hK.t1, hK.regs, hK.dl, hK.ar, hK.pol, hK.sets⟩ (by simp)
 have HLT := Lib.hid hl3
 have HTb := Lib.hid hTb2
 have HF3 := Lib.hid hF3
 have HH := Lib.hid h
 have HFB : Hid (∀ w2, Fr E [97, 50, 142, 140, 148, 131, 186] B w w2 → Below B W w2) := fun w2 f2 => hb.trans (f2.below (Nat.le_refl _) hHS)
 have HD := Lib.hid hD
 have HT := Lib.hid hT
 have HK := Lib.hid hK
 have HCH := Lib.hid hch
 have HWH := Lib.hid hw
 have hca : cameK K D arr = (bitsL arr).foldl (arriveK D) (({ K with ev := [] } : Kst).plus (lateL { K with ev := [] } ({ K with ev := [] } : Kst).tk.length)) := rfl
 have HCA := Lib.hid hca
 clear hwa hwas htb hwb hA1 hF1 hA2 hTb2 hF3 hl3 hch hw hD hT hb h hca
 go_enter Tryz.func31, Tryz.ntmps31
 go_wp2_with fail
 rw [HWA.out, HWB.out, HTB.out]
 refine HLT.out.mono ?_
 rintro e wc ⟨rfl, ev2, K2, F2⟩
 have Tc := HTb.out.fr F2 (by decide)
 have c0 : wc.cell? ⟨tb, 0, none⟩ = some (.int .u64 (arr : Int)) := Tc.cell 0
 have c1 : wc.cell? ⟨tb, 1, none⟩ = some (.slice DA D.length dc) := Tc.cell 1
 have c2 : wc.cell? ⟨tb, 2, none⟩ = some (.int .u64 (touch : Int)) := Tc.cell 2
 have F2' := HF3.out.trans (F2.mono (ts' := [97, 50, 142, 140, 148, 131, 186]) (by simp))
 have hKa : KOk (({ K with ev := [] } : Kst).plus (lateL { K with ev := [] } ({ K with ev := [] } : Kst).tk.length)) := KOk.plus (K := { K with ev := [] }) ⟨HK.out.t0, HK.out.t1, HK.out.regs, HK.out.dl, HK.out.ar, HK.out.pol, HK.out.sets⟩ _
 have hLa : (({ K with ev := [] } : Kst).plus (lateL { K with ev := [] } ({ K with ev := [] } : Kst).tk.length)).ev.length ≤ 8 := by
  have := lateL_len { K with ev := [] } ({ K with ev := [] } : Kst).tk.length
  simp only [Kst.plus, List.length_append, List.length_nil]
  simp only at this
  omega
 have harr2 := arrive_any (W := W) (touch := (touch : Int)) (dc := dc) arr harr (HFB.out wc F2') hBW hB0 HT.out (fun w' f => HD.out w' (F2'.trans f)) hd64 K2 hKa (by omega)
 rw [← HCA.out] at harr2
 have hMK : KOk (cameK K D arr) := by rw [HCA.out]; exact KOk.fold D _ hKa
 have hML : (cameK K D arr).ev.length ≤ 72 := by
  rw [HCA.out]
  have := fold_len D (bitsL arr) (({ K with ev := [] } : Kst).plus (lateL { K with ev := [] } ({ K with ev := [] } : Kst).tk.length))
  have := bitsF_len 64 arr
  simp only [bitsL] at *
  omega
 have hMt := fold_tk D (bitsL arr) (({ K with ev := [] } : Kst).plus (lateL { K with ev := [] } ({ K with ev := [] } : Kst).tk.length))
 rw [← HCA.out] at hMt
 have HMT := Lib.hid hMt.2.1
 have HAR := Lib.hid harr2
 have HTc := Lib.hid Tc
 have HF2 := Lib.hid F2'
 clear hMt Tc F2 F2' harr2 K2 hKa hLa
 obtain ⟨M, hM⟩ : ∃ M, cameK K D arr = M := ⟨_, rfl⟩
 rw [hM] at hMK hML HAR HMT HCH HWH ⊢
 have HMK := Lib.hid hMK
 have HM := Lib.hid hM
 clear hM hMK HCA
 go_wp2_with fail
 refine HAR.out.mono ?_
 rintro e wd ⟨rfl, jv3, ev3, K3, F3⟩
 have Td := HTc.out.fr F3 (by decide)
 have F3' := HF2.out.trans (F3.mono (ts' := [97, 50, 142, 140, 148, 131, 186]) (by simp))
 have m8 := K3.n8
 have hregs : ∀ x ∈ M.tk, x.f6.length ≤ 8 := fun x hx => (HMK.out.regs x hx).2.1
 obtain ⟨TA, tc, hvA, hcA, _⟩ := K3.tasks.kd m8 hregs
 have HKD : Hid (∀ w2, KAt E w2 B kp A jv3 ev3 (pdOf M) M → Kd.C k46 w2 TA M.tk.length M.tk) := by
  intro w2 h2
  obtain ⟨TA', tc', hv', _, hk⟩ := h2.tasks.kd m8 hregs
  rw [hvA] at hv'
  injection hv' with h1 _ _
  rw [h1]
  exact hk
 obtain ⟨SL, hSL⟩ : ∃ SL, M.tab.map s142 = SL := ⟨_, rfl⟩
 have htl : M.tab.length ≤ 8 := by rw [K3.lt]; exact m8
 have r0 : wd.cell? ⟨kp, 0, none⟩ = some (.int .i64 M.reload) := K3.hd.cell 0
 have r1 : wd.cell? ⟨kp, 1, none⟩ = some (.slice TA M.tk.length tc) := by rw [K3.hd.cell]; simp [kcells, hvA]
 have r2 : wd.cell? ⟨kp, 2, none⟩ = some (.int .i64 M.tick) := K3.hd.cell 2
 have r3 : wd.cell? ⟨kp, 3, none⟩ = some (.int .i64 M.last) := K3.hd.cell 3
 have r6 : wd.cell? ⟨kp, 6, none⟩ = some (.pointer (some ⟨A.tp, 0, none⟩)) := K3.hd.cell 6
 have hkd := K3.hd.lt
 rw [hSL] at HCH
 have hkk := HCH.out
 have hml : M.tab.length = M.tk.length := K3.lt
 have hm1 := K3.n1
 have HSL := Lib.hid hSL
 have HKK := Lib.hid hkk
 have HML2 := Lib.hid hml
 have HM1 := Lib.hid hm1
 have HM8 := Lib.hid m8
 clear hml hm1
 have HTd := Lib.hid Td
 have HF3' := Lib.hid F3'
 have HK3 := Lib.hid K3
 have HTA : Hid (∀ w2, Fr E [] B wd w2 → Calls Tryz.prog 49 #[.pointer (some ⟨A.tp, 0, none⟩)] w2 fun e w' => ∃ v, e = .returned v ∧ w'.ownsRow w2.heap.size 142 4 v M.tab.length (M.tab.flatMap T.St.cells) ∧ Below w2.heap.size w2 w') :=
  fun w2 f2 => T.tall_any A.tp A.ta M.tab w2 (K3.fr f2 (by simp)).tab htl
 have HCP : Hid (∀ w2 As cs, KAt E w2 B kp A jv3 ev3 (pdOf M) M → Kd.C k142 w2 As SL.length SL → SL.length ≤ cs → Calls Tryz.prog 48 #[.agg #[.int .i64 M.reload, .slice TA M.tk.length tc], .slice As SL.length cs, .int .i64 M.last, .int .i64 M.tick] w2 fun e w' => e = .returned (.int .i64 who) ∧ Below w2.heap.size w2 w') :=
  fun w2 As cs h2 hk hc => by
   have hsl8 : SL.length = M.tk.length := by rw [← HSL.out, List.length_map]; exact HML2.out
   have := Q.choose_kd (rel := M.reload) (HKD.out w2 h2) hcA hk hc hsl8 HM1.out HM8.out M.last M.tick
   rw [HKK.out] at this
   exact this
 obtain ⟨mn, hmn⟩ : ∃ mn, M.tk.length = mn := ⟨_, rfl⟩
 rw [hmn] at HCP r1 m8
 have HMN := Lib.hid hmn
 obtain ⟨sl, hsl⟩ : ∃ sl, SL.length = sl := ⟨_, rfl⟩
 have HSLL := Lib.hid hsl
 clear K3 F3 F3' Td hSL hkk hvA hcA hregs hmn hsl HAR HTc HF2 c0 c1 c2
 go_wp2_with fail
 go_region_held3 (fun w' => w'.cell? ⟨kp, 0, none⟩ = some (.int .i64 M.reload) ∧ w'.cell? ⟨kp, 1, none⟩ = some (.slice TA mn tc) ∧ w'.cell? ⟨kp, 2, none⟩ = some (.int .i64 M.tick) ∧ w'.cell? ⟨kp, 3, none⟩ = some (.int .i64 M.last) ∧ w'.cell? ⟨kp, 6, none⟩ = some (.pointer (some ⟨A.tp, 0, none⟩))) (go_keep) (first | (go_at_call 49; refine (HTA.out _ (Fr.drew (Fr.refl (E := E) _ B wd))).mono ?_; rintro e w4 ⟨v, rfl, hown, hbl⟩; obtain ⟨As, cs, rfl, hcs, hkd4⟩ := states_kd' hown htl HSL.out; have K4 := HK3.out.fr ((Fr.drew (Fr.refl (E := E) [] B wd)).trans (Fr.of_below hbl)) (by simp); have x0 : w4.cell? ⟨kp, 0, none⟩ = some (.int .i64 M.reload) := K4.hd.cell 0; have x1 : w4.cell? ⟨kp, 1, none⟩ = some (.slice TA mn tc) := (hbl.cell hkd).trans r1; have x2 : w4.cell? ⟨kp, 2, none⟩ = some (.int .i64 M.tick) := K4.hd.cell 2; have x3 : w4.cell? ⟨kp, 3, none⟩ = some (.int .i64 M.last) := K4.hd.cell 3; have x6 : w4.cell? ⟨kp, 6, none⟩ = some (.pointer (some ⟨A.tp, 0, none⟩)) := K4.hd.cell 6; have F4 := (Fr.drew (Fr.refl (E := E) [97, 50, 142, 140, 148, 131, 186] B wd)).trans (Fr.of_below hbl); have HK4 := Lib.hid K4; have HF4 := Lib.hid F4; have HKD4 := Lib.hid hkd4; have HCS := Lib.hid hcs; clear hown hbl K4 F4 hkd4 hcs) | (go_at_call 48; refine (HCP.out _ _ _ HK4.out HKD4.out HCS.out).mono ?_; rintro e w5 ⟨rfl, hbl5⟩; have K5 := HK4.out.fr (Fr.of_below (ts := []) (B := B) hbl5) (by simp); have y0 : w5.cell? ⟨kp, 0, none⟩ = some (.int .i64 M.reload) := K5.hd.cell 0; have y1 : w5.cell? ⟨kp, 1, none⟩ = some (.slice TA mn tc) := (K5.hd.cell 1).trans ((HK4.out.hd.cell 1).symm.trans x1); have y2 : w5.cell? ⟨kp, 2, none⟩ = some (.int .i64 M.tick) := K5.hd.cell 2; have y3 : w5.cell? ⟨kp, 3, none⟩ = some (.int .i64 M.last) := K5.hd.cell 3; have y6 : w5.cell? ⟨kp, 6, none⟩ = some (.pointer (some ⟨A.tp, 0, none⟩)) := K5.hd.cell 6))
 have HK5 := Lib.hid K5
 have HF5 := Lib.hid ((HF3'.out.trans HF4.out).trans (Fr.of_below hbl5))
 have HTe := Lib.hid (HTd.out.fr (HF4.out.trans (Fr.of_below hbl5)) (by decide))
 have hMt := HMT.out
 have t0 := HMK.out.t0
 have htk2 : M.tick < 1099511627776 := by rw [hMt]; exact htk
 clear K5 hbl5 x0 x1 x2 x3 x6 y0 y1 y2 y3 y6 r0 r1 r2 r3 r6 HK4 HF4 HKD4 HCS HK3 HF3' HTd HTA HCP HKD hMt
 rcases HWH.out with hwho | ⟨i, hwho, hfit⟩
 ·subst hwho
  have HML : Hid (M.ev.length ≤ 100000000) := by unfold Hid; omega
  have hrk : ranG (cameK K D arr) (-1) touch = M.plus [⟨M.tick, 10, -1, 0⟩] := by rw [HM.out]; unfold ranG; rw [if_pos rfl]
  have HRK := Lib.hid hrk
  clear hrk
  go_wp2_with fail
  refine (note_post HK5.out 10 (-1) 0 HML.out).mono ?_
  rintro e w6 ⟨rfl, ev6, K6, F6⟩
  have HK6 := Lib.hid K6
  have HF6 := Lib.hid (HF5.out.trans (F6.mono (ts' := [97, 50, 142, 140, 148, 131, 186]) (by simp)))
  have HTI : Hid ((M.plus [⟨M.tick, 10, -1, 0⟩]).tick = M.tick) := rfl
  clear K6 F6 HK5 HF5
  have b2 : w6.cell? ⟨kp, 2, none⟩ = some (.int .i64 M.tick) := (HK6.out.hd.cell 2).trans (by show some (Value.int .i64 (M.plus [⟨M.tick, 10, -1, 0⟩]).tick) = _; rw [HTI.out])
  obtain ⟨la, hla⟩ : ∃ la, (M.plus [⟨M.tick, 10, -1, 0⟩]).last = la := ⟨_, rfl⟩
  have b3 : w6.cell? ⟨kp, 3, none⟩ = some (.int .i64 la) := (HK6.out.hd.cell 3).trans (by show some (Value.int .i64 (M.plus [⟨M.tick, 10, -1, 0⟩]).last) = _; rw [hla])
  have b8 : w6.cell? ⟨kp, 8, none⟩ = some ev6 := HK6.out.hd.cell 8
  have g2 := HK6.out.hd.frozen 2
  have g3 := HK6.out.hd.frozen 3
  have hn9 := HK6.out.next (-1)
  rw [HTI.out] at hn9
  obtain ⟨w9, hw9⟩ : ∃ w9, (w6.setCell ⟨kp, 3, none⟩ (.int .i64 (-1))).setCell ⟨kp, 2, none⟩ (.int .i64 (M.tick + 1)) = w9 := ⟨_, rfl⟩
  rw [hw9] at hn9
  have HW9 := Lib.hid hw9
  have HK9 := Lib.hid hn9.1
  have HF9 := Lib.hid (HF6.out.trans (hn9.2.mono (ts' := [97, 50, 142, 140, 148, 131, 186]) (by simp)))
  clear hla hn9 hw9
  go_wp2_with fail
  rw [HW9.out]
  go_ret
  exact ⟨jv3, ev6, rfl, by rw [HRK.out]; exact HK9.out, HF9.out⟩
 ·subst hwho
  have hrk : ranG (cameK K D arr) (i : Int) touch = runsK (turnsK M i) i touch := by rw [HM.out]; unfold ranG; rw [if_neg (by omega), Int.toNat_natCast]
  have HRK := Lib.hid hrk
  have h10 : M.ev.length ≤ 10000000 := by omega
  obtain ⟨tt1, tt3, tt4⟩ := turnsK_tk M i
  have hjs : JobOk ((turnsK M i).job1 i) := by rw [turnsK_job]; exact hfit.job
  have hwi : ((i : Int) == -1) = false := by rw [beq_eq_false_iff_ne]; omega
  have hz2 := HTe.out.cell 2
  have HTU := Lib.hid (turns_all (HFB.out _ HF5.out) hB0 HT.out HK5.out hfit.ok h10 i hfit.lt)
  have hft : pdOf (turnsK M i) i = true := by rw [turnsK_pd]; exact hfit.p
  have hld : 0 ≤ (turnsK M i).loads.getD i 0 ∧ (turnsK M i).loads.getD i 0 ≤ 1000000000 := turnsK_loads hfit.ok i hfit.lt hfit.ll hfit.l0 hfit.l1
  have HRU : Hid (∀ w2 jv2 ev2, Fr E [97, 50, 142, 140, 148, 131, 186] B w w2 → KAt E w2 B kp A jv2 ev2 (pdOf (turnsK M i)) (turnsK M i) → Calls Tryz.prog 52 #[.pointer (some ⟨kp, 0, none⟩), .int .i64 i, .int .u64 touch] w2 (JPost E w2 B kp A [97, 50, 131, 142, 148, 186] (runsK (turnsK M i) i touch))) :=
   fun w2 jv2 ev2 f2 h2 => runs_any touch ht (HFB.out w2 f2) hB0 HT.out h2 (HMK.out.turnsG i) (by omega) i (by rw [tt1]; exact hfit.lt) hft hjs hld.1 hld.2
  have HTI : Hid ((runsK (turnsK M i) i touch).tick = M.tick) := by unfold Hid; rw [runs_tick]; exact tt3
  clear hrk hz2 hjs hft hld tt1 tt3 tt4 hfit
  go_wp2_with fail
  refine HTU.out.mono ?_
  rintro e w6 ⟨rfl, jv6, ev6, K6, F6⟩
  have F6' := HF5.out.trans (F6.mono (ts' := [97, 50, 142, 140, 148, 131, 186]) (by simp))
  have z2 : w6.cell? ⟨tb, 2, none⟩ = some (.int .u64 (touch : Int)) := (HTe.out.fr F6 (by decide)).cell 2
  have HRU2 := Lib.hid (HRU.out w6 jv6 ev6 F6' K6)
  have HF6 := Lib.hid F6'
  clear K6 F6 F6' HK5 HF5 HTU HRU
  go_wp2_with fail
  refine HRU2.out.mono ?_
  rintro e w7 ⟨rfl, jv7, ev7, K7, F7⟩
  have HK7 := Lib.hid K7
  have HF7 := Lib.hid (HF6.out.trans (F7.mono (ts' := [97, 50, 142, 140, 148, 131, 186]) (by simp)))
  clear K7 F7 HRU2 HF6 z2
  have b2 : w7.cell? ⟨kp, 2, none⟩ = some (.int .i64 M.tick) := (HK7.out.hd.cell 2).trans (by show some (Value.int .i64 (runsK (turnsK M i) i touch).tick) = _; rw [HTI.out])
  obtain ⟨la, hla⟩ : ∃ la, (runsK (turnsK M i) i touch).last = la := ⟨_, rfl⟩
  have b3 : w7.cell? ⟨kp, 3, none⟩ = some (.int .i64 la) := (HK7.out.hd.cell 3).trans (by show some (Value.int .i64 (runsK (turnsK M i) i touch).last) = _; rw [hla])
  have b8 : w7.cell? ⟨kp, 8, none⟩ = some ev7 := HK7.out.hd.cell 8
  have g2 := HK7.out.hd.frozen 2
  have g3 := HK7.out.hd.frozen 3
  have hn9 := HK7.out.next (i : Int)
  rw [HTI.out] at hn9
  obtain ⟨w9, hw9⟩ : ∃ w9, (w7.setCell ⟨kp, 3, none⟩ (.int .i64 (i : Int))).setCell ⟨kp, 2, none⟩ (.int .i64 (M.tick + 1)) = w9 := ⟨_, rfl⟩
  rw [hw9] at hn9
  have HW9 := Lib.hid hw9
  have HK9 := Lib.hid hn9.1
  have HF9 := Lib.hid (HF7.out.trans (hn9.2.mono (ts' := [97, 50, 142, 140, 148, 131, 186]) (by simp)))
  clear hla hn9 hw9
  go_wp2_with fail
  rw [HW9.out]
  go_ret
  exact ⟨jv7, ev7, rfl, by rw [HRK.out]; exact HK9.out, HF9.out⟩
end Go.Proofs.YtdgfjpbjiccllaaGreatDoor
