/- Whose turn it is: where nobody loses the processor. -/
import Derived.Test.YtdgfjpbjiccllaaGreatDoorJa16
namespace Go.Proofs.YtdgfjpbjiccllaaGreatDoor
open Go.RowKit
open Go.Proofs.YtdgfjpbjiccllaaGreatDoorW.PrintWords Go.Proofs.YtdgfjpbjiccllaaGreatDoorW.PrintLast Go.Proofs.YtdgfjpbjiccllaaGreatDoorW.PrintMore
open Go.Proofs.YtdgfjpbjiccllaaGreatDoor.PTopLoads (S46 k46 z46 k46_mk S57 k57)
set_option maxRecDepth 100000
variable {E : Nat}
/-- A task's turn where nobody loses the processor. -/
def turnsA (K : Kst) (i : Nat) : Kst := if (T.stateL K.tab i).s then K else { K.plus [⟨K.tick, 4, i, 0⟩] with tab := T.beginL K.tab i }
theorem state_post {w : World} {B kp : Nat} {A : Ad} {jv : List Value} {ev : Value} {pd : Nat → Bool} {K : Kst} (h : KAt E w B kp A jv ev pd K) (i : Int) :
    Calls Tryz.prog 74 #[.pointer (some ⟨A.tp, 0, none⟩), .int .i64 i] w fun e w' => e = .returned (T.stateL K.tab i).val ∧ KAt E w' B kp A jv ev pd K ∧ Fr E [] B w w' := by
  refine (T.tstate_any A.tp A.ta K.tab i w h.tab).mono ?_
  rintro e w3 ⟨he, hg⟩
  exact ⟨he, h.fr (Fr.of_none (ts := []) (B := B) hg) (by simp), Fr.of_none hg⟩
set_option maxHeartbeats 8000000 in
theorem turns_any {w : World} {B kp : Nat} {A : Ad} {jv : List Value} {ev : Value} {K : Kst} (h : KAt E w B kp A jv ev (pdOf K) K) (hL : K.ev.length ≤ 10000000)
    (i : Nat) (hi : i < K.tk.length) (hpre : K.last = i ∨ (T.stateL K.tab K.last).s = false) (hst : (T.stateL K.tab i).s = false ∨ K.last = i) :
    Calls Tryz.prog 51 #[.pointer (some ⟨kp, 0, none⟩), .int .i64 i] w (JPost E w B kp A [97, 50, 142] (turnsA K i)) := by
  have n8 := h.n8
  have ilv : i < jv.length := by rw [h.lv]; exact hi
  obtain ⟨n, hn⟩ : ∃ n, K.tk.length = n := ⟨_, rfl⟩
  have q3 : w.cell? ⟨kp, 3, none⟩ = some (.int .i64 K.last) := h.hd.cell 3
  have q6 : w.cell? ⟨kp, 6, none⟩ = some (.pointer (some ⟨A.tp, 0, none⟩)) := h.hd.cell 6
  have q7 : w.cell? ⟨kp, 7, none⟩ = some (.slice (some ⟨A.oa, 0, none⟩) n n) := by rw [← hn]; exact h.hd.cell 7
  have i0 : (0 : Int) ≤ (i : Int) := by omega
  have i1 : (i : Int) < (n : Int) := by omega
  have hkl := h.hd.lt
  have HP : Hid (∀ (w2 : World) (j : Int), KAt E w2 B kp A jv ev (pdOf K) K → Calls Tryz.prog 74 #[.pointer (some ⟨A.tp, 0, none⟩), .int .i64 j] w2 fun e w' => e = .returned (T.stateL K.tab j).val ∧ KAt E w' B kp A jv ev (pdOf K) K ∧ Fr E [] B w2 w') := fun w2 j h2 => state_post h2 j
  have HH := Lib.hid h
  have HL := Lib.hid (show K.ev.length ≤ 100000000 by omega)
  have hta : turnsA K i = if (T.stateL K.tab i).s then K else { K.plus [⟨K.tick, 4, i, 0⟩] with tab := T.beginL K.tab i } := rfl
  obtain ⟨⟨sp, ss, sm, sa⟩, hs⟩ : ∃ z, T.stateL K.tab (i : Int) = z := ⟨_, rfl⟩
  have hval : (T.stateL K.tab (i : Int)).val = .agg #[.bool sp, .bool ss, .bool sm, .int .i64 sa] := by rw [hs]; rfl
  rw [hs] at hta hst
  simp only at hta hst
  have HV := Lib.hid hval
  have HTA := Lib.hid hta
  have HN := Lib.hid hn
  have hfs := fun W => field1 W sp ss sm sa
  obtain ⟨⟨lp, ls, lm, la⟩, hl⟩ : ∃ z, T.stateL K.tab K.last = z := ⟨_, rfl⟩
  have hval2 : (T.stateL K.tab K.last).val = .agg #[.bool lp, .bool ls, .bool lm, .int .i64 la] := by rw [hl]; rfl
  rw [hl] at hpre
  simp only at hpre
  have HV2 := Lib.hid hval2
  have hfl := fun W => field1 W lp ls lm la
  obtain ⟨last, hlast⟩ : ∃ last, K.last = last := ⟨_, rfl⟩
  rw [hlast] at q3 hpre hst HV2
  clear h hs hl hval hval2 hta hlast hn
  by_cases hli : last = i
  · have hb : ((last : Int) != (i : Int)) = false := by simpa using hli
    have HLI := Lib.hid hli
    clear hli hpre hst
    cases ss with
    | true =>
      go_enter Tryz.func51, Tryz.ntmps51
      go_wp2_with fail
      go_quiet (fail)
      have KQ := HH.out.drewN nq
      have FQ := Fr.drewN (Fr.refl (E := E) [97, 50, 142] B w) nq
      obtain ⟨wq, hwq⟩ : ∃ wq, w.drewN nq = wq := ⟨_, rfl⟩
      have u3 : wq.cell? ⟨kp, 3, none⟩ = some (.int .i64 last) := by rw [← hwq]; exact q3
      have u6 : wq.cell? ⟨kp, 6, none⟩ = some (.pointer (some ⟨A.tp, 0, none⟩)) := by rw [← hwq]; exact q6
      have u7 : wq.cell? ⟨kp, 7, none⟩ = some (.slice (some ⟨A.oa, 0, none⟩) n n) := by rw [← hwq]; exact q7
      rw [hwq] at KQ FQ ⊢
      have HKQ := Lib.hid KQ
      have HFQ := Lib.hid FQ
      clear hwq KQ FQ q3 q6 q7 HH
      go_wp2_with fail
      refine (HP.out wq i HKQ.out).mono ?_
      rintro e w2 ⟨rfl, K2, F2⟩
      rw [HV.out]
      have x3 : w2.cell? ⟨kp, 3, none⟩ = some (.int .i64 last) := (K2.hd.cell 3).trans ((HKQ.out.hd.cell 3).symm.trans u3)
      have HK2 := Lib.hid K2
      have HF2 := Lib.hid (HFQ.out.trans (F2.mono (ts' := [97, 50, 142]) (by simp)))
      clear K2 F2 HKQ HFQ u3 u6 u7
      go_wp2_with fail
      go_end0
      exact ⟨rfl, jv, ev, by rw [HTA.out]; exact HK2.out, HF2.out⟩
    | false =>
      go_enter Tryz.func51, Tryz.ntmps51
      go_wp2_with fail
      go_quiet (fail)
      have KQ := HH.out.drewN nq
      have FQ := Fr.drewN (Fr.refl (E := E) [97, 50, 142] B w) nq
      obtain ⟨wq, hwq⟩ : ∃ wq, w.drewN nq = wq := ⟨_, rfl⟩
      have u3 : wq.cell? ⟨kp, 3, none⟩ = some (.int .i64 last) := by rw [← hwq]; exact q3
      have u6 : wq.cell? ⟨kp, 6, none⟩ = some (.pointer (some ⟨A.tp, 0, none⟩)) := by rw [← hwq]; exact q6
      have u7 : wq.cell? ⟨kp, 7, none⟩ = some (.slice (some ⟨A.oa, 0, none⟩) n n) := by rw [← hwq]; exact q7
      rw [hwq] at KQ FQ ⊢
      have HKQ := Lib.hid KQ
      have HFQ := Lib.hid FQ
      clear hwq KQ FQ q3 q6 q7 HH
      go_wp2_with fail
      refine (HP.out wq i HKQ.out).mono ?_
      rintro e w2 ⟨rfl, K2, F2⟩
      rw [HV.out]
      have HK2 := Lib.hid K2
      have HF2 := Lib.hid (HFQ.out.trans (F2.mono (ts' := [97, 50, 142]) (by simp)))
      clear K2 F2 HKQ HFQ u3 u6 u7
      go_wp2_with fail
      refine (note_post HK2.out 4 i 0 HL.out).mono ?_
      rintro e w3 ⟨rfl, ev3, K3, F3⟩
      have y6 : w3.cell? ⟨kp, 6, none⟩ = some (.pointer (some ⟨A.tp, 0, none⟩)) := K3.hd.cell 6
      have HK3 := Lib.hid K3
      have HF3 := Lib.hid (HF2.out.trans (F3.mono (ts' := [97, 50, 142]) (by simp)))
      clear K3 F3 HK2 HF2
      go_wp2_with fail
      refine (begin_post HK3.out i).mono ?_
      rintro e w4 ⟨rfl, K4, F4⟩
      have HK4 := Lib.hid K4
      have HF4 := Lib.hid (HF3.out.trans (F4.mono (ts' := [97, 50, 142]) (by simp)))
      clear K4 F4 HK3 HF3 y6
      go_wp2_with fail
      go_end0
      refine ⟨rfl, jv, ev3, ?_, HF4.out⟩
      refine KAt.less (K := turnsA K i) (Eq.mp (congrArg (fun Z => KAt E w4 B kp A jv ev3 (pdOf K) Z) HTA.out.symm) HK4.out) ?_
      intro k hk
      rw [HTA.out] at hk
      have hk' : (T.getL (T.beginL K.tab i) k).p = true := hk
      rw [begin_p] at hk'
      exact hk'
  · have hb : ((last : Int) != (i : Int)) = true := by simpa using hli
    have hls : ls = false := hpre.resolve_left hli
    have hss : ss = false := hst.resolve_right hli
    subst hls hss
    have HLI := Lib.hid hli
    clear hli hpre hst
    go_enter Tryz.func51, Tryz.ntmps51
    go_wp2_with fail
    go_region_held3 (fun w' => w'.cell? ⟨kp, 6, none⟩ = some (.pointer (some ⟨A.tp, 0, none⟩)) ∧ w'.cell? ⟨kp, 3, none⟩ = some (.int .i64 last)) (go_keep) ((go_at_call 74; refine (HP.out _ last HH.out.drew).mono ?_; rintro e wq ⟨rfl, KQ, FQ⟩; rw [HV2.out]; have x6 : wq.cell? ⟨kp, 6, none⟩ = some (.pointer (some ⟨A.tp, 0, none⟩)) := KQ.hd.cell 6; have x3 : wq.cell? ⟨kp, 3, none⟩ = some (.int .i64 last) := (KQ.hd.cell 3).trans ((HH.out.hd.cell 3).symm.trans q3)))
    have u3 := x3
    have u6 := x6
    have u7 : wq.cell? ⟨kp, 7, none⟩ = some (.slice (some ⟨A.oa, 0, none⟩) n n) := (KQ.hd.cell 7).trans ((HH.out.hd.cell 7).symm.trans q7)
    have HKQ := Lib.hid KQ
    have HFQ := Lib.hid ((Fr.drew (Fr.refl [97, 50, 142] B w)).trans (FQ.mono (ts' := [97, 50, 142]) (by simp)))
    clear KQ FQ q3 q6 q7 HH x3 x6
    go_wp2_with fail
    refine (HP.out wq i HKQ.out).mono ?_
    rintro e w2 ⟨rfl, K2, F2⟩
    rw [HV.out]
    have HK2 := Lib.hid K2
    have HF2 := Lib.hid (HFQ.out.trans (F2.mono (ts' := [97, 50, 142]) (by simp)))
    clear K2 F2 HKQ HFQ u3 u6 u7
    go_wp2_with fail
    refine (note_post HK2.out 4 i 0 HL.out).mono ?_
    rintro e w3 ⟨rfl, ev3, K3, F3⟩
    have y6 : w3.cell? ⟨kp, 6, none⟩ = some (.pointer (some ⟨A.tp, 0, none⟩)) := K3.hd.cell 6
    have HK3 := Lib.hid K3
    have HF3 := Lib.hid (HF2.out.trans (F3.mono (ts' := [97, 50, 142]) (by simp)))
    clear K3 F3 HK2 HF2
    go_wp2_with fail
    refine (begin_post HK3.out i).mono ?_
    rintro e w4 ⟨rfl, K4, F4⟩
    have HK4 := Lib.hid K4
    have HF4 := Lib.hid (HF3.out.trans (F4.mono (ts' := [97, 50, 142]) (by simp)))
    clear K4 F4 HK3 HF3 y6
    go_wp2_with fail
    go_end0
    refine ⟨rfl, jv, ev3, ?_, HF4.out⟩
    refine KAt.less (K := turnsA K i) (Eq.mp (congrArg (fun Z => KAt E w4 B kp A jv ev3 (pdOf K) Z) HTA.out.symm) HK4.out) ?_
    intro k hk
    rw [HTA.out] at hk
    have hk' : (T.getL (T.beginL K.tab i) k).p = true := hk
    rw [begin_p] at hk'
    exact hk'
end Go.Proofs.YtdgfjpbjiccllaaGreatDoor
