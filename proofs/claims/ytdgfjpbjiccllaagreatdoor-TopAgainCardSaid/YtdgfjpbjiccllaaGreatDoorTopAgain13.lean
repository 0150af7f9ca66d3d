/- Joined texts: Turn, Rlw, Step, Step2. -/
import Derived.Test.YtdgfjpbjiccllaaGreatDoorTopAgain12
import Derived.Test.YtdgfjpbjiccllaaGreatDoorTopAgain05
namespace Go.Proofs.YtdgfjpbjiccllaaGreatDoor
open Go.RowKit
open YtdgfjpbjiccllaaGreatDoorW.PrintWords YtdgfjpbjiccllaaGreatDoorW.PrintLast YtdgfjpbjiccllaaGreatDoorW.PrintMore
open PTopLoads (S46 k46 z46 k46_mk S57 k57)
set_option maxRecDepth 100000
variable {E : Nat}
def turnsA (K : Kst) (i : Nat) : Kst := if (T.stateL K.tab i).s then K else { K.plus [⟨K.tick, 4, i, 0⟩] with tab := T.beginL K.tab i }
theorem state_post {w : World} {B kp : Nat} {A : Ad} {jv : List Value} {ev : Value} {pd : Nat → Bool} {K : Kst} (h : KAt E w B kp A jv ev pd K) (i : Int) :
  Calls Tryz.prog 74 #[.pointer (some ⟨A.tp, 0, none⟩), .int .i64 i] w fun e w' => e = .returned (T.stateL K.tab i).val ∧ KAt E w' B kp A jv ev pd K ∧ Fr E [] B w w' := by
 refine (T.tstate_any A.tp A.ta K.tab i w h.tab).mono ?_
 rintro e w3 ⟨he, hg⟩
 exact ⟨he, h.fr (Fr.of_none (ts := []) (B := B) hg) (by simp), Fr.of_none hg⟩
set_option maxHeartbeats 8000000 in
theorem turns_any {w : World} {B kp : Nat} {A : Ad} {jv : List Value} {ev : Value} {K : Kst} (h : KAt E w B kp A jv ev (pdOf K) K) (hL : K.ev.length ≤ 10000000)
  (i : Nat) (hi : i < K.tk.length) (hpre : K.last = i ∨ (T.stateL K.tab K.last).s = false) (hst : (T.stateL K.tab i).s = false ∨ K.last = i) :
  Calls Tryz.prog 51 #[.pointer (some ⟨kp, 0, none⟩), .int .i64 i] w (JPost E w B kp A [97, 50, 142] (turnsA K i)) := by
 have n8 := h.n8
 have ilv : i < jv.length := by rw [h.lv]; exact hi
 obtain ⟨n, hn⟩ : ∃ n, K.tk.length = n := ⟨_, rfl⟩
 have q3 : w.cell? ⟨kp, 3, none⟩ = some (.int .i64 K.last) := h.hd.cell 3
 have q6 : w.cell? ⟨kp, 6, none⟩ = some (.pointer (some ⟨A.tp, 0, none⟩)) := h.hd.cell 6
 have q7 : w.cell? ⟨kp, 7, none⟩ = some (.slice (some ⟨A.oa, 0, none⟩) n n) := by rw [← hn]; exact h.hd.cell 7
 have i0 : (0 : Int) ≤ (i : Int) := by omega
 have i1 : (i : Int) < (n : Int) := by omega
 have hkl := h.hd.lt
 have HP : Hid (∀ (w2 : World) (j : Int), KAt E w2 B kp A jv ev (pdOf K) K → Calls Tryz.prog 74 #[.pointer (some ⟨A.tp, 0, none⟩), .int .i64 j] w2 fun e w' => e = .returned (T.stateL K.tab j).val ∧ KAt E w' B kp A jv ev (pdOf K) K ∧ Fr E [] B w2 w') := fun w2 j h2 => state_post h2 j
 have HH := Lib.hid h
 have HL := Lib.hid (show K.ev.length ≤ 100000000 by omega)
 have hta : turnsA K i = if (T.stateL K.tab i).s then K else { K.plus [⟨K.tick, 4, i, 0⟩] with tab := T.beginL K.tab i } := rfl
 obtain ⟨⟨sp, ss, sm, sa⟩, hs⟩ : ∃ z, T.stateL K.tab (i : Int) = z := ⟨_, rfl⟩
 have hval : (T.stateL K.tab (i : Int)).val = .agg #[.bool sp, .bool ss, .bool sm, .int .i64 sa] := by rw [hs]; rfl
 rw [hs] at hta hst
 simp only at hta hst
 have HV := Lib.hid hval
 have HTA := Lib.hid hta
 have HN := Lib.hid hn
 have hfs := fun W => field1 W sp ss sm sa
 obtain ⟨⟨lp, ls, lm, la⟩, hl⟩ : ∃ z, T.stateL K.tab K.last = z := ⟨_, rfl⟩
 have hval2 : (T.stateL K.tab K.last).val = .agg #[.bool lp, .bool ls, .bool lm, .int .i64 la] := by rw [hl]; rfl
 rw [hl] at hpre
 simp only at hpre
 have HV2 := Lib.hid hval2
 have hfl := fun W => field1 W lp ls lm la
 obtain ⟨last, hlast⟩ : ∃ last, K.last = last := ⟨_, rfl⟩
 rw [hlast] at q3 hpre hst HV2
 clear h hs hl hval hval2 hta hlast hn
 by_cases hli : last = i
 ·have hb : ((last : Int) != (i : Int)) = false := by simpa using hli
  have HLI := Lib.hid hli
  clear hli hpre hst
  cases ss with
  | true =>
   go_enter Tryz.func51, Tryz.ntmps51
   go_wp2_with fail
   go_quiet (fail)
   have KQ := HH.out.drewN nq
   have FQ := Fr.drewN (Fr.refl (E := E) [97, 50, 142] B w) nq
   obtain ⟨wq, hwq⟩ : ∃ wq, w.drewN nq = wq := ⟨_, rfl⟩
   have u3 : wq.cell? ⟨kp, 3, none⟩ = some (.int .i64 last) := by rw [← hwq]; exact q3
   have u6 : wq.cell? ⟨kp, 6, none⟩ = some (.pointer (some ⟨A.tp, 0, none⟩)) := by rw [← hwq]; exact q6
   have u7 : wq.cell? ⟨kp, 7, none⟩ = some (.slice (some ⟨A.oa, 0, none⟩) n n) := by rw [← hwq]; exact q7
   rw [hwq] at KQ FQ ⊢
   have HKQ := Lib.hid KQ
   have HFQ := Lib.hid FQ
   clear hwq KQ FQ q3 q6 q7 HH
   go_wp2_with fail
   refine (HP.out wq i HKQ.out).mono ?_
   rintro e w2 ⟨rfl, K2, F2⟩
   rw [HV.out]
   have x3 : w2.cell? ⟨kp, 3, none⟩ = some (.int .i64 last) := (K2.hd.cell 3).trans ((HKQ.out.hd.cell 3).symm.trans u3)
   have HK2 := Lib.hid K2
   have HF2 := Lib.hid (HFQ.out.trans (F2.mono (ts' := [97, 50, 142]) (by simp)))
   clear K2 F2 HKQ HFQ u3 u6 u7
   go_wp2_with fail
   go_end0
   exact ⟨rfl, jv, ev, by rw [HTA.out]; exact HK2.out, HF2.out⟩
  | false =>
   go_enter Tryz.func51, Tryz.ntmps51
   go_wp2_with fail
   go_quiet (fail)
   have KQ := HH.out.drewN nq
   have FQ := Fr.drewN (Fr.refl (E := E) [97, 50, 142] B w) nq
   obtain ⟨wq, hwq⟩ : ∃ wq, w.drewN nq = wq := ⟨_, rfl⟩
   have u3 : wq.cell? ⟨kp, 3, none⟩ = some (.int .i64 last) := by rw [← hwq]; exact q3
   have u6 : wq.cell? ⟨kp, 6, none⟩ = some (.pointer (some ⟨A.tp, 0, none⟩)) := by rw [← hwq]; exact q6
   have u7 : wq.cell? ⟨kp, 7, none⟩ = some (.slice (some ⟨A.oa, 0, none⟩) n n) := by rw [← hwq]; exact q7
   rw [hwq] at KQ FQ ⊢
   have HKQ := Lib.hid KQ
   have HFQ := Lib.hid FQ
   clear hwq KQ FQ q3 q6 q7 HH
   go_wp2_with fail
   refine (HP.out wq i HKQ.out).mono ?_
   rintro e w2 ⟨rfl, K2, F2⟩
   rw [HV.out]
   have HK2 := Lib.hid K2
   have HF2 := Lib.hid (HFQ.out.trans (F2.mono (ts' := [97, 50, 142]) (by simp)))
   clear K2 F2 HKQ HFQ u3 u6 u7
   go_wp2_with fail
   refine (note_post HK2.out 4 i 0 HL.out).mono ?_
   rintro e w3 ⟨rfl, ev3, K3, F3⟩
   have y6 : w3.cell? ⟨kp, 6, none⟩ = some (.pointer (some ⟨A.tp, 0, none⟩)) := K3.hd.cell 6
   have HK3 := Lib.hid K3
   have HF3 := Lib.hid (HF2.out.trans (F3.mono (ts' := [97, 50, 142]) (by simp)))
   clear K3 F3 HK2 HF2
   go_wp2_with fail
   refine (begin_post HK3.out i).mono ?_
   rintro e w4 ⟨rfl, K4, F4⟩
   have HK4 := Lib.hid K4
   have HF4 := Lib.hid (HF3.out.trans (F4.mono (ts' := [97, 50, 142]) (by simp)))
   clear K4 F4 HK3 HF3 y6
   go_wp2_with fail
   go_end0
   refine ⟨rfl, jv, ev3, ?_, HF4.out⟩
   refine KAt.less (K := turnsA K i) (Eq.mp (congrArg (fun Z => KAt E w4 B kp A jv ev3 (pdOf K) Z) HTA.out.symm) HK4.out) ?_
   intro k hk
   rw [HTA.out] at hk
   have hk' : (T.getL (T.beginL K.tab i) k).p = true := hk
   rw [begin_p] at hk'
   exact hk'
 ·have hb : ((last : Int) != (i : Int)) = true := by simpa using hli
  have hls : ls = false := hpre.resolve_left hli
  have hss : ss = false := hst.resolve_right hli
  subst hls hss
  have HLI := Lib.hid hli
  clear hli hpre hst
  go_enter Tryz.func51, Tryz.ntmps51
  go_wp2_with fail
  go_region_held3 (fun w' => w'.cell? ⟨kp, 6, none⟩ = some (.pointer (some ⟨A.tp, 0, none⟩)) ∧ w'.cell? ⟨kp, 3, none⟩ = some (.int .i64 last)) (go_keep) ((go_at_call 74; refine (HP.out _ last HH.out.drew).mono ?_; rintro e wq ⟨rfl, KQ, FQ⟩; rw [HV2.out]; have x6 : wq.cell? ⟨kp, 6, none⟩ = some (.pointer (some ⟨A.tp, 0, none⟩)) := KQ.hd.cell 6; have x3 : wq.cell? ⟨kp, 3, none⟩ = some (.int .i64 last) := (KQ.hd.cell 3).trans ((HH.out.hd.cell 3).symm.trans q3)))
  have u3 := x3
  have u6 := x6
  have u7 : wq.cell? ⟨kp, 7, none⟩ = some (.slice (some ⟨A.oa, 0, none⟩) n n) := (KQ.hd.cell 7).trans ((HH.out.hd.cell 7).symm.trans q7)
  have HKQ := Lib.hid KQ
  have HFQ := Lib.hid ((Fr.drew (Fr.refl [97, 50, 142] B w)).trans (FQ.mono (ts' := [97, 50, 142]) (by simp)))
  clear KQ FQ q3 q6 q7 HH x3 x6
  go_wp2_with fail
  refine (HP.out wq i HKQ.out).mono ?_
  rintro e w2 ⟨rfl, K2, F2⟩
  rw [HV.out]
  have HK2 := Lib.hid K2
  have HF2 := Lib.hid (HFQ.out.trans (F2.mono (ts' := [97, 50, 142]) (by simp)))
  clear K2 F2 HKQ HFQ u3 u6 u7
  go_wp2_with fail
  refine (note_post HK2.out 4 i 0 HL.out).mono ?_
  rintro e w3 ⟨rfl, ev3, K3, F3⟩
  have y6 : w3.cell? ⟨kp, 6, none⟩ = some (.pointer (some ⟨A.tp, 0, none⟩)) := K3.hd.cell 6
  have HK3 := Lib.hid K3
  have HF3 := Lib.hid (HF2.out.trans (F3.mono (ts' := [97, 50, 142]) (by simp)))
  clear K3 F3 HK2 HF2
  go_wp2_with fail
  refine (begin_post HK3.out i).mono ?_
  rintro e w4 ⟨rfl, K4, F4⟩
  have HK4 := Lib.hid K4
  have HF4 := Lib.hid (HF3.out.trans (F4.mono (ts' := [97, 50, 142]) (by simp)))
  clear K4 F4 HK3 HF3 y6
  go_wp2_with fail
  go_end0
  refine ⟨rfl, jv, ev3, ?_, HF4.out⟩
  refine KAt.less (K := turnsA K i) (Eq.mp (congrArg (fun Z => KAt E w4 B kp A jv ev3 (pdOf K) Z) HTA.out.symm) HK4.out) ?_
  intro k hk
  rw [HTA.out] at hk
  have hk' : (T.getL (T.beginL K.tab i) k).p = true := hk
  rw [begin_p] at hk'
  exact hk'
end Go.Proofs.YtdgfjpbjiccllaaGreatDoor
namespace Go.Proofs.YtdgfjpbjiccllaaGreatDoor.Q
open Go.RowKit
open YtdgfjpbjiccllaaGreatDoorW.PrintWords YtdgfjpbjiccllaaGreatDoorW.PrintLast YtdgfjpbjiccllaaGreatDoorW.PrintMore
open PTopLoads
set_option maxRecDepth 100000
theorem best_in (T : List S46) (L : List S142) : ∀ n, best T L n = -1 ∨ ∃ j : Nat, j < n ∧ best T L n = j
 | 0 => .inl rfl
 | n + 1 => by
  rw [best_succ]
  unfold bestStep
  split
  ·exact .inr ⟨n, by omega, rfl⟩
  ·rcases best_in T L n with h | ⟨j, hj, h⟩
   ·exact .inl h
   ·exact .inr ⟨j, by omega, h⟩
structure RIn (w : World) (X : List S46) (L : List S142) (n tb tf sb sf : Nat) : Prop where
 lt : X.length = n
 ll : L.length = n
 n8 : n ≤ 8
 tbl : tb < w.heap.size
 sbl : sb < w.heap.size
 t3 : ∀ j, j < n → w.cell? ⟨tb, tf + j * 9 + 3, none⟩ = some (.int .i64 (X.getD j z46).f3)
 t4 : ∀ j, j < n → w.cell? ⟨tb, tf + j * 9 + 4, none⟩ = some (.int .i64 (X.getD j z46).f4)
 t5 : ∀ j, j < n → w.cell? ⟨tb, tf + j * 9 + 5, none⟩ = some (.int .i64 (X.getD j z46).f5)
 s0 : ∀ j, j < n → w.cell? ⟨sb, sf + j * 4, none⟩ = some (.bool (L.getD j z142).f0)
 s1 : ∀ j, j < n → w.cell? ⟨sb, sf + j * 4 + 1, none⟩ = some (.bool (L.getD j z142).f1)
 s2 : ∀ j, j < n → w.cell? ⟨sb, sf + j * 4 + 2, none⟩ = some (.bool (L.getD j z142).f2)
 s3 : ∀ j, j < n → w.cell? ⟨sb, sf + j * 4 + 3, none⟩ = some (.int .i64 (L.getD j z142).f3)
section
variable {w w' : World} {X : List S46} {L : List S142} {n tb tf sb sf tc cs : Nat} {rel : Int}
theorem RIn.below (h : RIn w X L n tb tf sb sf) (hb : Below w.heap.size w w') : RIn w' X L n tb tf sb sf := by
 have k : ∀ {p : Addr} {v : Value}, w.cell? p = some v → w'.cell? p = some v := fun {p v} hc => (hb.cell (wbl w p hc)).trans hc
 exact ⟨h.lt, h.ll, h.n8, Nat.lt_of_lt_of_le h.tbl hb.size, Nat.lt_of_lt_of_le h.sbl hb.size, fun j hj => k (h.t3 j hj), fun j hj => k (h.t4 j hj), fun j hj => k (h.t5 j hj), fun j hj => k (h.s0 j hj), fun j hj => k (h.s1 j hj), fun j hj => k (h.s2 j hj), fun j hj => k (h.s3 j hj)⟩
theorem rd_nat (L : List S142) (j : Nat) : rd_T142 L (j : Int) = L.getD j z142 := by simp [rd_T142]
theorem rt_nat (X : List S46) (j : Nat) : rd_T46 X (j : Int) = X.getD j z46 := by simp [rd_T46]
set_option maxHeartbeats 4000000 in
theorem is_any (h : RIn w X L n tb tf sb sf) (i : Int) :
  Calls Tryz.prog 81 #[.agg #[.int .i64 rel, .slice (some ⟨tb, tf, none⟩) n tc], .slice (some ⟨sb, sf, none⟩) n cs, .int .i64 i] w fun e w' => e = .returned (.bool (pend L i)) ∧ Below w.heap.size w w' := by
 have hal := (Below.refl w.heap.size w).alloc (Nat.le_refl _) (.cells #[.int .i64 rel, .slice (some ⟨tb, tf, none⟩) n tc] 24)
 have h1 := h.below hal
 have HAL := Lib.hid hal
 clear hal
 by_cases h0 : i < 0
 ·have hp := pend_out (L := L) (.inl h0)
  have d0 : decide ((0 : Int) ≤ i) = false := by simp; omega
  rw [hp]
  clear h h1 hp
  go_enter Tryz.func81, Tryz.ntmps81
  go_wp2_with fail
  go_ret
  exact ⟨rfl, HAL.out⟩
 ·obtain ⟨j, rfl⟩ := Int.eq_ofNat_of_zero_le (show 0 ≤ i by omega)
  have d0 : decide ((0 : Int) ≤ (j : Int)) = true := by simp
  by_cases hn : j < n
  ·have hp : pend L (j : Int) = (L.getD j z142).f0 := by rw [← pend_rd (by omega) (by have := h.ll; omega), rd_nat]
   have c0 := h1.s0 j hn
   have hsl := h1.sbl
   rw [hp]
   obtain ⟨b, hb⟩ : ∃ b, (L.getD j z142).f0 = b := ⟨_, rfl⟩
   rw [hb] at c0
   rw [hb]
   have d1 : decide ((j : Int) < (n : Int)) = true := by simp; omega
   have j0 : (0 : Int) ≤ (j : Int) := by omega
   have j1 : (j : Int) < (n : Int) := by omega
   clear h h1 hp hb
   go_enter Tryz.func81, Tryz.ntmps81
   go_wp2_with fail
   go_ret
   exact ⟨rfl, HAL.out⟩
  ·have hp := pend_out (L := L) (i := (j : Int)) (.inr (by have := h.ll; omega))
   have d1 : decide ((j : Int) < (n : Int)) = false := by simp; omega
   rw [hp]
   clear h h1 hp
   go_enter Tryz.func81, Tryz.ntmps81
   go_wp2_with fail
   go_ret
   exact ⟨rfl, HAL.out⟩
set_option maxHeartbeats 4000000 in
theorem rank_any (h : RIn w X L n tb tf sb sf) (i : Int) :
  Calls Tryz.prog 82 #[.agg #[.int .i64 rel, .slice (some ⟨tb, tf, none⟩) n tc], .slice (some ⟨sb, sf, none⟩) n cs, .int .i64 i] w fun e w' => e = .returned (.int .i64 (rank X L i)) ∧ Below w.heap.size w w' := by
 obtain ⟨wa, hwa⟩ : ∃ wa, w.alloc (.cells #[.int .i64 rel, .slice (some ⟨tb, tf, none⟩) n tc] 24) = wa := ⟨_, rfl⟩
 have hal := (Below.refl w.heap.size w).alloc (Nat.le_refl _) (.cells #[.int .i64 rel, .slice (some ⟨tb, tf, none⟩) n tc] 24)
 have hbk := Blk.new w 24 #[.int .i64 rel, .slice (some ⟨tb, tf, none⟩) n tc]
 rw [hwa] at hal hbk
 have hi := is_any (rel := rel) (tc := tc) (cs := cs) (h.below hal) i
 have HAL := Lib.hid hal
 have HWA := Lib.hid hwa
 have HI := Lib.hid hi
 have HB := Lib.hid hbk
 have q0 := hbk.cell 0
 have q1 := hbk.cell 1
 simp at q0 q1
 have hsl := hbk.lt
 have HH := Lib.hid h
 clear hal hwa hi hbk h
 cases hp : pend L i with
 | false =>
  have hr : rank X L i = -1 := by unfold rank; rw [hp]; rfl
  rw [hr]
  rw [hp] at HI
  clear hr hp
  go_enter Tryz.func82, Tryz.ntmps82
  go_upto_region 1 with fail
  rw [HWA.out]
  go_wp2_with (go_at_call 81; refine (HI.out).mono ?_; rintro e w2 ⟨rfl, hb2⟩; have HB2 := Lib.hid hb2; clear hb2)
  go_ret
  exact ⟨rfl, HAL.out.trans (HB2.out.mono HAL.out.size)⟩
 | true =>
  obtain ⟨g0, g1⟩ := pend_in hp
  obtain ⟨j, hj⟩ : ∃ j : Nat, i = j := ⟨i.toNat, by omega⟩
  subst hj
  have hn : j < n := by have := HH.out.ll; omega
  have j1 : (j : Int) < (n : Int) := by omega
  have j0 : (0 : Int) ≤ (j : Int) := by omega
  have hr : rank X L (j : Int) = if (X.getD j z46).f3 = 2 ∧ (L.getD j z142).f1 = true then (X.getD j z46).f5 else (j : Int) := by
   unfold rank
   rw [hp, if_pos rfl, rd_nat, rt_nat]
  rw [hr]
  have HI2 : Hid (Calls Tryz.prog 81 #[.agg #[.int .i64 rel, .slice (some ⟨tb, tf, none⟩) n tc], .slice (some ⟨sb, sf, none⟩) n cs, .int .i64 (j : Int)] wa fun e w' => e = .returned (.bool true) ∧ Below wa.heap.size wa w') := by
   have := HI.out
   rw [hp] at this
   exact this
  clear hr hp HI g0 g1
  obtain ⟨x3, hx3⟩ : ∃ x3, (X.getD j z46).f3 = x3 := ⟨_, rfl⟩
  obtain ⟨x5, hx5⟩ : ∃ x5, (X.getD j z46).f5 = x5 := ⟨_, rfl⟩
  obtain ⟨b, hb⟩ : ∃ b, (L.getD j z142).f1 = b := ⟨_, rfl⟩
  have HX3 := Lib.hid hx3
  have HX5 := Lib.hid hx5
  have HBB := Lib.hid hb
  rw [hx3, hx5, hb]
  clear hx3 hx5 hb
  obtain ⟨rv, hrv⟩ : ∃ rv, (if x3 = 2 ∧ b = true then x5 else (j : Int)) = rv := ⟨_, rfl⟩
  have HRV := Lib.hid hrv
  rw [hrv]
  clear hrv
  go_enter Tryz.func82, Tryz.ntmps82
  go_upto_region 1 with fail
  rw [HWA.out]
  go_upto_region 3 with (go_at_call 81; refine (HI2.out).mono ?_; rintro e w2 ⟨rfl, hb2⟩; have HB2 := Lib.hid (HAL.out.trans (hb2.mono HAL.out.size)); have HBK := Lib.hid (HB.out.below hb2 hsl); clear hb2)
  obtain ⟨bx, hbx⟩ : ∃ bx, w.heap.size = bx := ⟨_, rfl⟩
  have c1 := HBK.out.cell 1
  rw [hbx] at c1
  simp at c1
  have hr2 := HH.out.below HB2.out
  have u3 := hr2.t3 j hn
  have u5 := hr2.t5 j hn
  have v1 := hr2.s1 j hn
  rw [HX3.out] at u3
  rw [HX5.out] at u5
  rw [HBB.out] at v1
  have hl2 := hr2.tbl
  have hl3 := hr2.sbl
  have hl4 := HBK.out.lt
  rw [hbx] at hl4
  have HBX := Lib.hid hbx
  rw [hbx]
  clear hr2 hbx hsl q0 q1
  by_cases h2 : x3 = 2
  ·subst h2
   cases b with
   | true =>
    go_wp2_with fail
    go_ret
    obtain rfl : x5 = rv := by rw [← HRV.out, if_pos (by simp)]
    exact ⟨rfl, HB2.out⟩
   | false =>
    go_wp2_with fail
    go_ret
    obtain rfl : (j : Int) = rv := by rw [← HRV.out, if_neg (by simp)]
    exact ⟨rfl, HB2.out⟩
  ·have h2b : (x3 == 2) = false := by simpa using h2
   have H2 := Lib.hid h2
   clear h2
   go_wp2_with fail
   go_ret
   obtain rfl : (j : Int) = rv := by rw [← HRV.out, if_neg (fun h => H2.out h.1)]
   exact ⟨rfl, HB2.out⟩
theorem keep3 {wr W W2 : World} {p1 p2 : Addr} {v1 v2 : Value} (h : Below wr.heap.size wr W ∧ W.cell? p1 = some v1 ∧ W.cell? p2 = some v2) (hb : Below W.heap.size W W2) :
  Below wr.heap.size wr W2 ∧ W2.cell? p1 = some v1 ∧ W2.cell? p2 = some v2 := by
 have k : ∀ {p : Addr} {v : Value}, W.cell? p = some v → W2.cell? p = some v := fun {p v} hc => (hb.cell (wbl W p hc)).trans hc
 exact ⟨h.1.trans (hb.mono h.1.size), k h.2.1, k h.2.2⟩
set_option maxHeartbeats 4000000 in
theorem waits_any {l : List S142} (hl : l.length ≤ 8) (hs : sb < w.heap.size) (h0 : ∀ j, j < l.length → w.cell? ⟨sb, sf + j * 4, none⟩ = some (.bool (l.getD j z142).f0) ∧ w.cell? ⟨sb, sf + j * 4 + 1, none⟩ = some (.bool (l.getD j z142).f1) ∧ w.cell? ⟨sb, sf + j * 4 + 2, none⟩ = some (.bool (l.getD j z142).f2) ∧ w.cell? ⟨sb, sf + j * 4 + 3, none⟩ = some (.int .i64 (l.getD j z142).f3)) (q t : Int) :
  Calls Tryz.prog 122 #[.slice (some ⟨sb, sf, none⟩) l.length cs, .int .i64 q, .int .i64 t] w fun e w' => e = .returned (.bool ((old l).2 && decide (t < wrap64 (q + (old l).1)))) ∧ Below w.heap.size w w' := by
 have H0 := Lib.hid h0
 have hold : ∀ k, k < l.length → old (l.take (k + 1)) = oldStep (old (l.take k)) (l.getD k z142) := fun k hk => by
  rw [old_snoc l k hk, rd_nat]
 have HO := Lib.hid hold
 have HE : Hid (l.take l.length = l) := List.take_length
 obtain ⟨n, hn⟩ : ∃ n, l.length = n := ⟨_, rfl⟩
 have HN := Lib.hid hn
 have hl0 : Hid (old (l.take 0) = (0, false)) := rfl
 rw [hn] at hl
 rw [hn] at H0 HO HE
 rw [hn]
 clear h0 hold hn
 obtain ⟨rv, hrv⟩ : ∃ rv, ((old l).2 && decide (t < wrap64 (q + (old l).1))) = rv := ⟨_, rfl⟩
 have HRV := Lib.hid hrv
 rw [hrv]
 clear hrv
 go_enter Tryz.func122, Tryz.ntmps122
 go_wp2_with fail
 go_loopw [7, 8, 13] (fun z7 z8 z13 wr => ∃ k : Nat, k ≤ n ∧ z13 = .int .i64 k ∧ z7 = .int .i64 (old (l.take k)).1 ∧ z8 = .bool (old (l.take k)).2 ∧ Below w.heap.size w wr) (fun _ _ z13 _ => n - (intOf z13).toNat)
 case atStart => exact ⟨0, Nat.zero_le _, rfl, by rw [hl0], by rw [hl0], Below.refl _ _⟩
 case round =>
  obtain ⟨k, hk, rfl, rfl, rfl, hb⟩ := hrel
  have HB := Lib.hid hb
  by_cases hlt : k < n
  ·obtain ⟨a0, a1, a2, a3⟩ := H0.out k hlt
   have kk : ∀ {p : Addr} {v : Value}, w.cell? p = some v → wr.cell? p = some v := fun {p v} hc => (hb.cell (wbl w p hc)).trans hc
   have b0 := kk a0
   have b1 := kk a1
   have b2 := kk a2
   have b3 := kk a3
   have hnx := HO.out k hlt
   have hsr : sb < wr.heap.size := Nat.lt_of_lt_of_le hs hb.size
   obtain ⟨⟨p, s, m, a⟩, hx⟩ : ∃ x, l.getD k z142 = x := ⟨_, rfl⟩
   rw [hx] at b0 b1 b2 b3 hnx
   obtain ⟨⟨o, ob⟩, ho⟩ : ∃ o, old (l.take k) = o := ⟨_, rfl⟩
   rw [ho] at hnx ⊢
   unfold oldStep at hnx
   simp only at b0 b1 b2 b3 hnx ⊢
   have HNX := Lib.hid hnx
   have hal := HB.out.alloc HB.out.size (.cells #[.bool p, .bool s, .bool m, .int .i64 a] 142)
   have HAL := Lib.hid hal
   have k0 : (0 : Int) ≤ (k : Int) := by omega
   have k1 : (k : Int) < (n : Int) := by omega
   clear a0 a1 a2 a3 kk hnx hx ho hal hb
   cases p with
   | false =>
    go_wp2_with fail
    go_roundw
    case rel => exact ⟨k + 1, by omega, by go_num, by rw [HNX.out]; rfl, by rw [HNX.out]; rfl, HAL.out⟩
    case measure => simp [intOf]; omega
   | true =>
    cases ob with
    | false =>
     go_wp2_with fail
     go_roundw
     case rel => exact ⟨k + 1, by omega, by go_num, by rw [HNX.out]; rfl, by rw [HNX.out]; rfl, HAL.out⟩
     case measure => simp [intOf]; omega
    | true =>
     by_cases hao : a < o
     ·have hd : decide (a < o) = true := by simpa using hao
      have HD := Lib.hid hd
      go_wp2_with fail
      go_roundw
      case rel => exact ⟨k + 1, by omega, by go_num, by rw [HNX.out, HD.out]; rfl, by rw [HNX.out, HD.out]; rfl, HAL.out⟩
      case measure => simp [intOf]; omega
     ·have hd : decide (a < o) = false := by simpa using hao
      have HD := Lib.hid hd
      go_wp2_with fail
      go_roundw
      case rel => exact ⟨k + 1, by omega, by go_num, by rw [HNX.out, HD.out]; rfl, by rw [HNX.out, HD.out]; rfl, HAL.out⟩
      case measure => simp [intOf]; omega
  ·obtain rfl : k = n := by omega
   rw [HE.out]
   obtain ⟨⟨o, ob⟩, ho⟩ : ∃ o, old l = o := ⟨_, rfl⟩
   have HRW : Hid ((ob && decide (t < wrap64 (q + o))) = rv) := by
    have := HRV.out
    rw [ho] at this
    exact this
   rw [ho]
   simp only
   clear ho
   cases ob with
   | false =>
    go_wp2_with fail
    go_ret
    obtain rfl : false = rv := HRW.out
    exact ⟨rfl, HB.out⟩
   | true =>
    go_wp2_with fail
    go_ret
    obtain rfl : decide (t < wrap64 (q + o)) = rv := HRW.out
    exact ⟨rfl, HB.out⟩
set_option maxHeartbeats 4000000 in
theorem held_any (h : RIn w X L n tb tf sb sf) (hcs : n ≤ cs) (last tick : Int) :
  Calls Tryz.prog 80 #[.agg #[.int .i64 rel, .slice (some ⟨tb, tf, none⟩) n tc], .slice (some ⟨sb, sf, none⟩) n cs, .int .i64 last, .int .i64 tick] w fun e w' => e = .returned (.bool (held X L last tick)) ∧ Below w.heap.size w w' := by
 obtain ⟨wa, hwa⟩ : ∃ wa, w.alloc (.cells #[.int .i64 rel, .slice (some ⟨tb, tf, none⟩) n tc] 24) = wa := ⟨_, rfl⟩
 have hal := (Below.refl w.heap.size w).alloc (Nat.le_refl _) (.cells #[.int .i64 rel, .slice (some ⟨tb, tf, none⟩) n tc] 24)
 have hbk := Blk.new w 24 #[.int .i64 rel, .slice (some ⟨tb, tf, none⟩) n tc]
 rw [hwa] at hal hbk
 have hi := is_any (rel := rel) (tc := tc) (cs := cs) (h.below hal) last
 have HAL := Lib.hid hal
 have HWA := Lib.hid hwa
 have HI := Lib.hid hi
 have HB := Lib.hid hbk
 have q0 := hbk.cell 0
 have q1 := hbk.cell 1
 simp at q0 q1
 have hsl := hbk.lt
 have HH := Lib.hid h
 clear hal hwa hi hbk h
 cases hp : pend L last with
 | false =>
  have hr : held X L last tick = false := by unfold held; rw [hp]; rfl
  rw [hr]
  rw [hp] at HI
  clear hr hp
  go_enter Tryz.func80, Tryz.ntmps80
  go_upto_region 1 with fail
  rw [HWA.out]
  go_wp2_with (go_at_call 81; refine (HI.out).mono ?_; rintro e w2 ⟨rfl, hb2⟩; have HB2 := Lib.hid hb2; clear hb2)
  go_ret
  exact ⟨rfl, HAL.out.trans (HB2.out.mono HAL.out.size)⟩
 | true =>
  obtain ⟨g0, g1⟩ := pend_in hp
  obtain ⟨j, hj⟩ : ∃ j : Nat, last = j := ⟨last.toNat, by omega⟩
  subst hj
  have hn : j < n := by have := HH.out.ll; omega
  have j1 : (j : Int) < (n : Int) := by omega
  have j0 : (0 : Int) ≤ (j : Int) := by omega
  have jc : (j : Int) ≤ (cs : Int) := by omega
  have hr : held X L (j : Int) tick = ((L.getD j z142).f1 && (if (X.getD j z46).f3 = 0 then (L.getD j z142).f2 else if (X.getD j z46).f3 = 1 then (old (L.take j)).2 && decide (tick < wrap64 ((X.getD j z46).f4 + (old (L.take j)).1)) else false)) := by
   unfold held
   rw [hp, rd_nat, rt_nat, Int.toNat_natCast, Bool.true_and]
  rw [hr]
  rw [hp] at HI
  clear hr hp g0 g1
  obtain ⟨x3, hx3⟩ : ∃ x3, (X.getD j z46).f3 = x3 := ⟨_, rfl⟩
  obtain ⟨x4, hx4⟩ : ∃ x4, (X.getD j z46).f4 = x4 := ⟨_, rfl⟩
  obtain ⟨b, hb⟩ : ∃ b, (L.getD j z142).f1 = b := ⟨_, rfl⟩
  obtain ⟨m, hm⟩ : ∃ m, (L.getD j z142).f2 = m := ⟨_, rfl⟩
  have hlk : (L.take j).length = j := by rw [List.length_take]; have := HH.out.ll; omega
  have HWT : Hid (∀ w2, Below w.heap.size w w2 → Calls Tryz.prog 122 #[.slice (some ⟨sb, sf, none⟩) j cs, .int .i64 x4, .int .i64 tick] w2 fun e w' => e = .returned (.bool ((old (L.take j)).2 && decide (tick < wrap64 (x4 + (old (L.take j)).1)))) ∧ Below w2.heap.size w2 w') := fun w2 hb2 => by
   have hr2 := HH.out.below hb2
   have := waits_any (w := w2) (cs := cs) (sb := sb) (sf := sf) (l := L.take j) (by have := HH.out.n8; omega) hr2.sbl (fun k hk => by
    have hk' : k < n := by omega
    have e : (L.take j).getD k z142 = L.getD k z142 := by
     simp only [List.getD_eq_getElem?_getD]
     rw [List.getElem?_take_of_lt (by omega)]
    rw [e]
    exact ⟨hr2.s0 k hk', hr2.s1 k hk', hr2.s2 k hk', hr2.s3 k hk'⟩) x4 tick
   rw [hlk] at this
   exact this
  have HX3 := Lib.hid hx3
  have HX4 := Lib.hid hx4
  have HBB := Lib.hid hb
  have HMM := Lib.hid hm
  rw [hx3, hx4, hb, hm]
  clear hx3 hx4 hb hm hlk
  obtain ⟨ow, how⟩ : ∃ ow, ((old (L.take j)).2 && decide (tick < wrap64 (x4 + (old (L.take j)).1))) = ow := ⟨_, rfl⟩
  rw [how] at HWT ⊢
  clear how
  obtain ⟨rv, hrv⟩ : ∃ rv, (b && (if x3 = 0 then m else if x3 = 1 then ow else false)) = rv := ⟨_, rfl⟩
  have HRV := Lib.hid hrv
  rw [hrv]
  clear hrv
  go_enter Tryz.func80, Tryz.ntmps80
  go_upto_region 1 with fail
  rw [HWA.out]
  obtain ⟨bx, hbx⟩ : ∃ bx, w.heap.size = bx := ⟨_, rfl⟩
  have HBX := Lib.hid hbx
  rw [hbx] at q0 q1 hsl
  rw [hbx]
  clear hbx
  have HF : Hid (∀ w2, Below wa.heap.size wa w2 → Below w.heap.size w w2 ∧ RIn w2 X L n tb tf sb sf ∧ Blk w2 bx 24 #[.int .i64 rel, .slice (some ⟨tb, tf, none⟩) n tc]) := fun w2 hb2 =>
   ⟨HAL.out.trans (hb2.mono HAL.out.size), HH.out.below (HAL.out.trans (hb2.mono HAL.out.size)), by rw [← HBX.out]; exact HB.out.below hb2 (by rw [HBX.out]; exact hsl)⟩
  cases b with
  | false =>
   go_wp2_with (go_at_call 81; refine (HI.out).mono ?_; rintro e w2 ⟨rfl, hb2⟩; obtain ⟨f1, f2, f3⟩ := HF.out w2 hb2; have HB2 := Lib.hid f1; have v1 := f2.s1 j hn; rw [HBB.out] at v1; have hl2 := f2.sbl; clear f1 f2 f3 hb2)
   go_ret
   obtain rfl : false = rv := by rw [← HRV.out]; rfl
   exact ⟨rfl, HB2.out⟩
  | true =>
   go_upto_region 3 with (go_at_call 81; refine (HI.out).mono ?_; rintro e w2 ⟨rfl, hb2⟩; obtain ⟨f1, f2, f3⟩ := HF.out w2 hb2; have HB2 := Lib.hid f1; have v1 := f2.s1 j hn; rw [HBB.out] at v1; have v2 := f2.s2 j hn; rw [HMM.out] at v2; have u3 := f2.t3 j hn; rw [HX3.out] at u3; have u4 := f2.t4 j hn; rw [HX4.out] at u4; have hl2 := f2.sbl; have hl3 := f2.tbl; have c1 := f3.cell 1; simp at c1; have hl4 := f3.lt; clear f1 f2 f3 hb2)
   by_cases h30 : x3 = 0
   ·subst h30
    go_wp2_with fail
    go_ret
    obtain rfl : m = rv := by rw [← HRV.out]; rfl
    exact ⟨rfl, HB2.out⟩
   ·have k0 : (x3 == 0) = false := by simpa using h30
    by_cases h31 : x3 = 1
    ·subst h31
     have HW2 := Lib.hid (fun w3 (hb3 : Below w2.heap.size w2 w3) => HWT.out w3 (HB2.out.trans (hb3.mono HB2.out.size)))
     have hS0 : Below w2.heap.size w2 w2 := Below.refl _ _
     go_upto_region 7 with fail
     go_region_held3 (fun W => Below w2.heap.size w2 W ∧ W.cell? ⟨bx, 1, none⟩ = some (.slice (some ⟨tb, tf, none⟩) n tc) ∧ W.cell? ⟨tb, tf + j * 9 + 4, none⟩ = some (.int .i64 x4)) (first | (with_reducible assumption) | exact ⟨hS0.drew, c1, u4⟩) ((go_at_call 122; refine (HW2.out _ (And.left (‹Below w2.heap.size w2 _ ∧ _›))).mono ?_; rintro e' w6 ⟨rfl, hb6⟩; have hS6 := keep3 (by with_reducible assumption) hb6; clear hb6))
     all_goals
      go_wp2_with fail
      go_ret
      obtain rfl : ow = rv := by rw [← HRV.out]; rfl
      exact ⟨rfl, HB2.out.trans ((And.left hS6).mono HB2.out.size)⟩
    ·have k1 : (x3 == 1) = false := by simpa using h31
     have H30 := Lib.hid h30
     have H31 := Lib.hid h31
     clear h30 h31
     go_wp2_with fail
     go_ret
     obtain rfl : false = rv := by rw [← HRV.out, if_neg H30.out, if_neg H31.out]; rfl
     exact ⟨rfl, HB2.out⟩
set_option maxHeartbeats 8000000 in
theorem choose_any (h : RIn w X L n tb tf sb sf) (hcs : n ≤ cs) (last tick : Int) :
  Calls Tryz.prog 48 #[.agg #[.int .i64 rel, .slice (some ⟨tb, tf, none⟩) n tc], .slice (some ⟨sb, sf, none⟩) n cs, .int .i64 last, .int .i64 tick] w fun e w' => e = .returned (.int .i64 (choose X L last tick)) ∧ Below w.heap.size w w' := by
 obtain ⟨wa, hwa⟩ : ∃ wa, w.alloc (.cells #[.int .i64 rel, .slice (some ⟨tb, tf, none⟩) n tc] 24) = wa := ⟨_, rfl⟩
 have hal := (Below.refl w.heap.size w).alloc (Nat.le_refl _) (.cells #[.int .i64 rel, .slice (some ⟨tb, tf, none⟩) n tc] 24)
 have hbk := Blk.new w 24 #[.int .i64 rel, .slice (some ⟨tb, tf, none⟩) n tc]
 rw [hwa] at hal hbk
 have hi := held_any (rel := rel) (tc := tc) (cs := cs) (h.below hal) hcs last tick
 have HAL := Lib.hid hal
 have HWA := Lib.hid hwa
 have HI := Lib.hid hi
 have HB := Lib.hid hbk
 have q0 := hbk.cell 0
 have q1 := hbk.cell 1
 simp at q0 q1
 have hsl := hbk.lt
 have HH := Lib.hid h
 have hll := h.ll
 have n8 := h.n8
 obtain ⟨rv, hrv⟩ : ∃ rv, choose X L last tick = rv := ⟨_, rfl⟩
 have hch : (if held X L last tick then last else best X L n) = rv := by rw [← hrv]; unfold choose; rw [h.ll]
 rw [hrv]
 clear hal hwa hi hbk h hrv
 cases hp : held X L last tick with
 | true =>
  rw [hp, if_pos rfl] at hch
  subst hch
  rw [hp] at HI
  clear hp
  go_enter Tryz.func48, Tryz.ntmps48
  go_upto_region 1 with fail
  rw [HWA.out]
  go_wp2_with (go_at_call 80; refine (HI.out).mono ?_; rintro e w2 ⟨rfl, hb2⟩; have HB2 := Lib.hid hb2; clear hb2)
  go_ret
  exact ⟨rfl, HAL.out.trans (HB2.out.mono HAL.out.size)⟩
 | false =>
  rw [hp, if_neg (by simp)] at hch
  rw [hp] at HI
  have HCH := Lib.hid hch
  clear hp hch
  have hb0 : best X L 0 = -1 := rfl
  have HBS : Hid (∀ k : Nat, best X L (k + 1) = bestStep X L (best X L k) k) := best_succ X L
  have HBI : Hid (∀ k : Nat, best X L k = -1 ∨ ∃ j : Nat, j < k ∧ best X L k = j) := best_in X L
  have HB0 := Lib.hid hb0
  clear hb0
  go_enter Tryz.func48, Tryz.ntmps48
  go_upto_region 1 with fail
  rw [HWA.out]
  obtain ⟨bx, hbx⟩ : ∃ bx, w.heap.size = bx := ⟨_, rfl⟩
  have HBX := Lib.hid hbx
  rw [hbx] at q0 q1 hsl
  rw [hbx]
  clear hbx
  go_upto_region 4 with (go_at_call 80; refine (HI.out).mono ?_; rintro e wq ⟨rfl, hb2⟩; have HB2 := Lib.hid (HAL.out.trans (hb2.mono HAL.out.size)); have HBQ : Hid (Blk wq bx 24 #[.int .i64 rel, .slice (some ⟨tb, tf, none⟩) n tc]) := (by rw [← HBX.out]; exact HB.out.below hb2 (by rw [HBX.out]; exact hsl)); clear hb2)
  have p1 := HBQ.out.cell 1
  simp at p1
  have hlq := HBQ.out.lt
  go_wp2_with fail
  go_loopw [9, 20] (fun z9 z20 wr => ∃ i : Nat, i ≤ n ∧ z20 = .int .i64 i ∧ z9 = .int .i64 (best X L i) ∧ Below wq.heap.size wq wr) (fun _ z20 _ => n - (intOf z20).toNat)
  case atStart => exact ⟨0, Nat.zero_le _, rfl, by rw [HB0.out], Below.refl _ _⟩
  case round =>
   obtain ⟨i, hi, rfl, rfl, hbw⟩ := hrel
   have HBW := Lib.hid hbw
   by_cases hlt : i < n
   ·have hbr := HBQ.out.below hbw hlq
    have r0 := hbr.cell 0
    have r1 := hbr.cell 1
    simp at r0 r1
    have hlr := hbr.lt
    have hS0 : Below wq.heap.size wq wr ∧ wr.cell? ⟨bx, 0, none⟩ = some (.int .i64 rel) ∧ wr.cell? ⟨bx, 1, none⟩ = some (.slice (some ⟨tb, tf, none⟩) n tc) := ⟨hbw, r0, r1⟩
    have HRI : Hid (∀ W, Below wq.heap.size wq W → RIn W X L n tb tf sb sf) := fun W hb => HH.out.below (HB2.out.trans (hb.mono HB2.out.size))
    have i0 : (0 : Int) ≤ (i : Int) := by omega
    have i1 : (i : Int) < (n : Int) := by omega
    have hnx := HBS.out i
    have hbi := HBI.out i
    obtain ⟨bo, hbo⟩ : ∃ bo, best X L i = bo := ⟨_, rfl⟩
    rw [hbo] at hnx hbi ⊢
    clear hbr hbw hbo
    unfold bestStep at hnx
    cases hp : pend L (i : Int) with
    | false =>
     have HIS : Hid (∀ W, Below wq.heap.size wq W → Calls Tryz.prog 81 #[.agg #[.int .i64 rel, .slice (some ⟨tb, tf, none⟩) n tc], .slice (some ⟨sb, sf, none⟩) n cs, .int .i64 (i : Int)] W fun e w' => e = .returned (.bool false) ∧ Below W.heap.size W w') := fun W hb => by
      have := is_any (rel := rel) (tc := tc) (cs := cs) (HRI.out W hb) (i : Int)
      rw [hp] at this
      exact this
     rw [hp, Bool.false_and, if_neg (by simp)] at hnx
     have HNX := Lib.hid hnx
     clear hnx hp hbi r0 r1
     go_upto_region 7 with fail
     refine wp_region_held_drew (S := (fun W => Below wq.heap.size wq W ∧ W.cell? ⟨bx, 0, none⟩ = some (.int .i64 rel) ∧ W.cell? ⟨bx, 1, none⟩ = some (.slice (some ⟨tb, tf, none⟩) n tc))) (by kernel_rfl) ⟨hS0.1.drew, hS0.2.1, hS0.2.2⟩ (fun hHeld => ?_)
     refine wpAnyH_take (i := 0) (oi := ⟨some 23, _, _, _, _, _⟩) (v := ?va0) rfl (by kernel_rfl) (by kernel_rfl) (by kernel_rfl) (fun _ _ _ h => h) (Or.inl ⟨by rfl, ?ha0⟩) (by assumption) ?ra0
     case ha0 => (intro W hSw; (try dsimp only at hSw); go_simp; all_goals (with_reducible rfl))
     try simp only [Act.put, List.setIfInBounds_toArray, List.set_cons_zero, List.set_cons_succ]
     refine wpAnyH_take (i := 1) (oi := ⟨some 24, _, _, _, _, _⟩) (v := ?va1) rfl (by kernel_rfl) (by kernel_rfl) (by kernel_rfl) (fun _ _ _ h => h) (Or.inl ⟨by rfl, ?ha1⟩) (by assumption) ?ra1
     case ha1 => (intro W hSw; (try dsimp only at hSw); go_simp; all_goals (with_reducible rfl))
     try simp only [Act.put, List.setIfInBounds_toArray, List.set_cons_zero, List.set_cons_succ]
     refine wpAnyH_take (i := 2) (oi := ⟨some 25, _, _, _, _, _⟩) (v := ?va2) rfl (by kernel_rfl) (by kernel_rfl) (by kernel_rfl) (fun _ _ _ h => h) (Or.inl ⟨by rfl, ?ha2⟩) (by assumption) ?ra2
     case ha2 => (intro W hSw; (try dsimp only at hSw); go_simp; all_goals (with_reducible rfl))
     try simp only [Act.put, List.setIfInBounds_toArray, List.set_cons_zero, List.set_cons_succ]
     refine wpAnyH_ready (rs := [3]) (by kernel_rfl) (by simp) ?_
     refine AllReadyH.cons (o := ⟨some 26, _, _, _, _, _⟩) rfl (fun K hK => ?_) AllReadyH.nil
     go_simp
     go_at_call 81
     refine (HIS.out _ (And.left hHeld)).mono ?_
     rintro e' w6 ⟨rfl, hb6⟩
     have hS6 := keep3 hHeld hb6
     clear hb6 hHeld
     refine hK.out _ _ hS6 (fun hHeld => ?_)
     clear hK K
     try simp only [Act.put, List.setIfInBounds_toArray, List.set_cons_zero, List.set_cons_succ]
     refine wpAnyH_take (i := 4) (oi := ⟨some 27, _, _, _, _, _⟩) (v := ?va4) rfl (by kernel_rfl) (by kernel_rfl) (by kernel_rfl) (fun _ _ _ h => h) (Or.inl ⟨by rfl, ?ha4⟩) (by assumption) ?ra4
     case ha4 => (intro W hSw; (try dsimp only at hSw); go_simp; all_goals (with_reducible rfl))
     try simp only [Act.put, List.setIfInBounds_toArray, List.set_cons_zero, List.set_cons_succ]
     refine wpAnyH_take (i := 5) (oi := ⟨some 28, _, _, _, _, _⟩) (v := undef) rfl (by kernel_rfl) (by kernel_rfl) (by kernel_rfl) (fun _ _ _ h => h) (Or.inr ⟨by rfl, rfl⟩) (by assumption) ?_
     try simp only [Act.put, List.setIfInBounds_toArray, List.set_cons_zero, List.set_cons_succ]
     refine wpAnyH_take (i := 6) (oi := ⟨some 29, _, _, _, _, _⟩) (v := undef) rfl (by kernel_rfl) (by kernel_rfl) (by kernel_rfl) (fun _ _ _ h => h) (Or.inr ⟨by rfl, rfl⟩) (by assumption) ?_
     try simp only [Act.put, List.setIfInBounds_toArray, List.set_cons_zero, List.set_cons_succ]
     refine wpAnyH_take (i := 7) (oi := ⟨some 30, _, _, _, _, _⟩) (v := undef) rfl (by kernel_rfl) (by kernel_rfl) (by kernel_rfl) (fun _ _ _ h => h) (Or.inr ⟨by rfl, rfl⟩) (by assumption) ?_
     try simp only [Act.put, List.setIfInBounds_toArray, List.set_cons_zero, List.set_cons_succ]
     refine wpAnyH_take (i := 8) (oi := ⟨some 31, _, _, _, _, _⟩) (v := undef) rfl (by kernel_rfl) (by kernel_rfl) (by kernel_rfl) (fun _ _ _ h => h) (Or.inr ⟨by rfl, rfl⟩) (by assumption) ?_
     try simp only [Act.put, List.setIfInBounds_toArray, List.set_cons_zero, List.set_cons_succ]
     refine wpAnyH_take (i := 9) (oi := ⟨some 32, _, _, _, _, _⟩) (v := undef) rfl (by kernel_rfl) (by kernel_rfl) (by kernel_rfl) (fun _ _ _ h => h) (Or.inr ⟨by rfl, rfl⟩) (by assumption) ?_
     try simp only [Act.put, List.setIfInBounds_toArray, List.set_cons_zero, List.set_cons_succ]
     refine wpAnyH_take (i := 10) (oi := ⟨some 33, _, _, _, _, _⟩) (v := undef) rfl (by kernel_rfl) (by kernel_rfl) (by kernel_rfl) (fun _ _ _ h => h) (Or.inr ⟨by rfl, rfl⟩) (by assumption) ?_
     try simp only [Act.put, List.setIfInBounds_toArray, List.set_cons_zero, List.set_cons_succ]
     refine wpAnyH_take (i := 11) (oi := ⟨some 34, _, _, _, _, _⟩) (v := undef) rfl (by kernel_rfl) (by kernel_rfl) (by kernel_rfl) (fun _ _ _ h => h) (Or.inr ⟨by rfl, rfl⟩) (by assumption) ?_
     try simp only [Act.put, List.setIfInBounds_toArray, List.set_cons_zero, List.set_cons_succ]
     refine wpAnyH_take (i := 12) (oi := ⟨some 35, _, _, _, _, _⟩) (v := undef) rfl (by kernel_rfl) (by kernel_rfl) (by kernel_rfl) (fun _ _ _ h => h) (Or.inr ⟨by rfl, rfl⟩) (by assumption) ?_
     try simp only [Act.put, List.setIfInBounds_toArray, List.set_cons_zero, List.set_cons_succ]
     refine wpAnyH_take (i := 13) (oi := ⟨some 36, _, _, _, _, _⟩) (v := undef) rfl (by kernel_rfl) (by kernel_rfl) (by kernel_rfl) (fun _ _ _ h => h) (Or.inr ⟨by rfl, rfl⟩) (by assumption) ?_
     try simp only [Act.put, List.setIfInBounds_toArray, List.set_cons_zero, List.set_cons_succ]
     refine wpAnyH_take (i := 14) (oi := ⟨some 37, _, _, _, _, _⟩) (v := undef) rfl (by kernel_rfl) (by kernel_rfl) (by kernel_rfl) (fun _ _ _ h => h) (Or.inr ⟨by rfl, rfl⟩) (by assumption) ?_
     try simp only [Act.put, List.setIfInBounds_toArray, List.set_cons_zero, List.set_cons_succ]
     refine wpAnyH_take (i := 15) (oi := ⟨some 38, _, _, _, _, _⟩) (v := undef) rfl (by kernel_rfl) (by kernel_rfl) (by kernel_rfl) (fun _ _ _ h => h) (Or.inr ⟨by rfl, rfl⟩) (by assumption) ?_
     try simp only [Act.put, List.setIfInBounds_toArray, List.set_cons_zero, List.set_cons_succ]
     refine wpAnyH_take (i := 16) (oi := ⟨some 39, _, _, _, _, _⟩) (v := undef) rfl (by kernel_rfl) (by kernel_rfl) (by kernel_rfl) (fun _ _ _ h => h) (Or.inr ⟨by rfl, rfl⟩) (by assumption) ?_
     try simp only [Act.put, List.setIfInBounds_toArray, List.set_cons_zero, List.set_cons_succ]
     refine wpAnyH_take (i := 17) (oi := ⟨some 40, _, _, _, _, _⟩) (v := undef) rfl (by kernel_rfl) (by kernel_rfl) (by kernel_rfl) (fun _ _ _ h => h) (Or.inr ⟨by rfl, rfl⟩) (by assumption) ?_
     try simp only [Act.put, List.setIfInBounds_toArray, List.set_cons_zero, List.set_cons_succ]
     refine wpAnyH_take (i := 18) (oi := ⟨some 41, _, _, _, _, _⟩) (v := ?va18) rfl (by kernel_rfl) (by kernel_rfl) (by kernel_rfl) (fun _ _ _ h => h) (Or.inl ⟨by rfl, ?ha18⟩) (by assumption) ?ra18
     case ha18 => (intro W hSw; (try dsimp only at hSw); go_simp; all_goals (with_reducible rfl))
     try simp only [Act.put, List.setIfInBounds_toArray, List.set_cons_zero, List.set_cons_succ]
     refine wpAnyH_done (by kernel_rfl) ?_ _
     have HS6 := Lib.hid (And.left hHeld)
     go_wp2_with fail
     go_roundw
     case rel => exact ⟨i + 1, by omega, by go_num, by rw [HNX.out], HS6.out⟩
     case measure => simp [intOf]; omega
    | true =>
     have HIS : Hid (∀ W, Below wq.heap.size wq W → Calls Tryz.prog 81 #[.agg #[.int .i64 rel, .slice (some ⟨tb, tf, none⟩) n tc], .slice (some ⟨sb, sf, none⟩) n cs, .int .i64 (i : Int)] W fun e w' => e = .returned (.bool true) ∧ Below W.heap.size W w') := fun W hb => by
      have := is_any (rel := rel) (tc := tc) (cs := cs) (HRI.out W hb) (i : Int)
      rw [hp] at this
      exact this
     rw [hp, Bool.true_and] at hnx
     by_cases hb1 : bo = -1
     ·subst hb1
      rw [if_pos (by simp)] at hnx
      have HNX := Lib.hid hnx
      clear hnx hp hbi r0 r1
      go_upto_region 7 with fail
      refine wp_region_held_drew (S := (fun W => Below wq.heap.size wq W ∧ W.cell? ⟨bx, 0, none⟩ = some (.int .i64 rel) ∧ W.cell? ⟨bx, 1, none⟩ = some (.slice (some ⟨tb, tf, none⟩) n tc))) (by kernel_rfl) ⟨hS0.1.drew, hS0.2.1, hS0.2.2⟩ (fun hHeld => ?_)
      refine wpAnyH_take (i := 0) (oi := ⟨some 23, _, _, _, _, _⟩) (v := ?vb0) rfl (by kernel_rfl) (by kernel_rfl) (by kernel_rfl) (fun _ _ _ h => h) (Or.inl ⟨by rfl, ?hb0⟩) (by assumption) ?rb0
      case hb0 => (intro W hSw; (try dsimp only at hSw); go_simp; all_goals (with_reducible rfl))
      try simp only [Act.put, List.setIfInBounds_toArray, List.set_cons_zero, List.set_cons_succ]
      refine wpAnyH_take (i := 1) (oi := ⟨some 24, _, _, _, _, _⟩) (v := ?vb1) rfl (by kernel_rfl) (by kernel_rfl) (by kernel_rfl) (fun _ _ _ h => h) (Or.inl ⟨by rfl, ?hb1⟩) (by assumption) ?rb1
      case hb1 => (intro W hSw; (try dsimp only at hSw); go_simp; all_goals (with_reducible rfl))
      try simp only [Act.put, List.setIfInBounds_toArray, List.set_cons_zero, List.set_cons_succ]
      refine wpAnyH_take (i := 2) (oi := ⟨some 25, _, _, _, _, _⟩) (v := ?vb2) rfl (by kernel_rfl) (by kernel_rfl) (by kernel_rfl) (fun _ _ _ h => h) (Or.inl ⟨by rfl, ?hb2⟩) (by assumption) ?rb2
      case hb2 => (intro W hSw; (try dsimp only at hSw); go_simp; all_goals (with_reducible rfl))
      try simp only [Act.put, List.setIfInBounds_toArray, List.set_cons_zero, List.set_cons_succ]
      refine wpAnyH_ready (rs := [3]) (by kernel_rfl) (by simp) ?_
      refine AllReadyH.cons (o := ⟨some 26, _, _, _, _, _⟩) rfl (fun K hK => ?_) AllReadyH.nil
      go_simp
      go_at_call 81
      refine (HIS.out _ (And.left hHeld)).mono ?_
      rintro e' w6 ⟨rfl, hb6⟩
      have hS6 := keep3 hHeld hb6
      clear hb6 hHeld
      refine hK.out _ _ hS6 (fun hHeld => ?_)
      clear hK K
      try simp only [Act.put, List.setIfInBounds_toArray, List.set_cons_zero, List.set_cons_succ]
      refine wpAnyH_take (i := 4) (oi := ⟨some 27, _, _, _, _, _⟩) (v := ?vb4) rfl (by kernel_rfl) (by kernel_rfl) (by kernel_rfl) (fun _ _ _ h => h) (Or.inl ⟨by rfl, ?hb4⟩) (by assumption) ?rb4
      case hb4 => (intro W hSw; (try dsimp only at hSw); go_simp; all_goals (with_reducible rfl))
      try simp only [Act.put, List.setIfInBounds_toArray, List.set_cons_zero, List.set_cons_succ]
      refine wpAnyH_take (i := 5) (oi := ⟨some 28, _, _, _, _, _⟩) (v := ?vb5) rfl (by kernel_rfl) (by kernel_rfl) (by kernel_rfl) (fun _ _ _ h => h) (Or.inl ⟨by rfl, ?hb5⟩) (by assumption) ?rb5
      case hb5 => (intro W hSw; (try dsimp only at hSw); go_simp; all_goals (with_reducible rfl))
      try simp only [Act.put, List.setIfInBounds_toArray, List.set_cons_zero, List.set_cons_succ]
      refine wpAnyH_take (i := 6) (oi := ⟨some 29, _, _, _, _, _⟩) (v := ?vb6) rfl (by kernel_rfl) (by kernel_rfl) (by kernel_rfl) (fun _ _ _ h => h) (Or.inl ⟨by rfl, ?hb6⟩) (by assumption) ?rb6
      case hb6 => (intro W hSw; (try dsimp only at hSw); go_simp; all_goals (with_reducible rfl))
      try simp only [Act.put, List.setIfInBounds_toArray, List.set_cons_zero, List.set_cons_succ]
      refine wpAnyH_take (i := 7) (oi := ⟨some 30, _, _, _, _, _⟩) (v := ?vb7) rfl (by kernel_rfl) (by kernel_rfl) (by kernel_rfl) (fun _ _ _ h => h) (Or.inl ⟨by rfl, ?hb7⟩) (by assumption) ?rb7
      case hb7 => (intro W hSw; (try dsimp only at hSw); go_simp; all_goals (with_reducible rfl))
      try simp only [Act.put, List.setIfInBounds_toArray, List.set_cons_zero, List.set_cons_succ]
      refine wpAnyH_take (i := 8) (oi := ⟨some 31, _, _, _, _, _⟩) (v := undef) rfl (by kernel_rfl) (by kernel_rfl) (by kernel_rfl) (fun _ _ _ h => h) (Or.inr ⟨by rfl, rfl⟩) (by assumption) ?_
      try simp only [Act.put, List.setIfInBounds_toArray, List.set_cons_zero, List.set_cons_succ]
      refine wpAnyH_take (i := 9) (oi := ⟨some 32, _, _, _, _, _⟩) (v := undef) rfl (by kernel_rfl) (by kernel_rfl) (by kernel_rfl) (fun _ _ _ h => h) (Or.inr ⟨by rfl, rfl⟩) (by assumption) ?_
      try simp only [Act.put, List.setIfInBounds_toArray, List.set_cons_zero, List.set_cons_succ]
      refine wpAnyH_take (i := 10) (oi := ⟨some 33, _, _, _, _, _⟩) (v := undef) rfl (by kernel_rfl) (by kernel_rfl) (by kernel_rfl) (fun _ _ _ h => h) (Or.inr ⟨by rfl, rfl⟩) (by assumption) ?_
      try simp only [Act.put, List.setIfInBounds_toArray, List.set_cons_zero, List.set_cons_succ]
      refine wpAnyH_take (i := 11) (oi := ⟨some 34, _, _, _, _, _⟩) (v := undef) rfl (by kernel_rfl) (by kernel_rfl) (by kernel_rfl) (fun _ _ _ h => h) (Or.inr ⟨by rfl, rfl⟩) (by assumption) ?_
      try simp only [Act.put, List.setIfInBounds_toArray, List.set_cons_zero, List.set_cons_succ]
      refine wpAnyH_take (i := 12) (oi := ⟨some 35, _, _, _, _, _⟩) (v := undef) rfl (by kernel_rfl) (by kernel_rfl) (by kernel_rfl) (fun _ _ _ h => h) (Or.inr ⟨by rfl, rfl⟩) (by assumption) ?_
      try simp only [Act.put, List.setIfInBounds_toArray, List.set_cons_zero, List.set_cons_succ]
      refine wpAnyH_take (i := 13) (oi := ⟨some 36, _, _, _, _, _⟩) (v := undef) rfl (by kernel_rfl) (by kernel_rfl) (by kernel_rfl) (fun _ _ _ h => h) (Or.inr ⟨by rfl, rfl⟩) (by assumption) ?_
      try simp only [Act.put, List.setIfInBounds_toArray, List.set_cons_zero, List.set_cons_succ]
      refine wpAnyH_take (i := 14) (oi := ⟨some 37, _, _, _, _, _⟩) (v := undef) rfl (by kernel_rfl) (by kernel_rfl) (by kernel_rfl) (fun _ _ _ h => h) (Or.inr ⟨by rfl, rfl⟩) (by assumption) ?_
      try simp only [Act.put, List.setIfInBounds_toArray, List.set_cons_zero, List.set_cons_succ]
      refine wpAnyH_take (i := 15) (oi := ⟨some 38, _, _, _, _, _⟩) (v := undef) rfl (by kernel_rfl) (by kernel_rfl) (by kernel_rfl) (fun _ _ _ h => h) (Or.inr ⟨by rfl, rfl⟩) (by assumption) ?_
      try simp only [Act.put, List.setIfInBounds_toArray, List.set_cons_zero, List.set_cons_succ]
      refine wpAnyH_take (i := 16) (oi := ⟨some 39, _, _, _, _, _⟩) (v := undef) rfl (by kernel_rfl) (by kernel_rfl) (by kernel_rfl) (fun _ _ _ h => h) (Or.inr ⟨by rfl, rfl⟩) (by assumption) ?_
      try simp only [Act.put, List.setIfInBounds_toArray, List.set_cons_zero, List.set_cons_succ]
      refine wpAnyH_take (i := 17) (oi := ⟨some 40, _, _, _, _, _⟩) (v := ?vb17) rfl (by kernel_rfl) (by kernel_rfl) (by kernel_rfl) (fun _ _ _ h => h) (Or.inl ⟨by rfl, ?hb17⟩) (by assumption) ?rb17
      case hb17 => (intro W hSw; (try dsimp only at hSw); go_simp; all_goals (with_reducible rfl))
      try simp only [Act.put, List.setIfInBounds_toArray, List.set_cons_zero, List.set_cons_succ]
      refine wpAnyH_take (i := 18) (oi := ⟨some 41, _, _, _, _, _⟩) (v := ?vb18) rfl (by kernel_rfl) (by kernel_rfl) (by kernel_rfl) (fun _ _ _ h => h) (Or.inl ⟨by rfl, ?hb18⟩) (by assumption) ?rb18
      case hb18 => (intro W hSw; (try dsimp only at hSw); go_simp; all_goals (with_reducible rfl))
      try simp only [Act.put, List.setIfInBounds_toArray, List.set_cons_zero, List.set_cons_succ]
      refine wpAnyH_done (by kernel_rfl) ?_ _
      have HS6 := Lib.hid (And.left hHeld)
      go_wp2_with fail
      go_roundw
      case rel => exact ⟨i + 1, by omega, by go_num, by rw [HNX.out], HS6.out⟩
      case measure => simp [intOf]; omega
     ·have hb1b : (bo == -1) = false := by simpa using hb1
      have HRK : Hid (∀ W k, Below wq.heap.size wq W → Calls Tryz.prog 82 #[.agg #[.int .i64 rel, .slice (some ⟨tb, tf, none⟩) n tc], .slice (some ⟨sb, sf, none⟩) n cs, .int .i64 k] W fun e w' => e = .returned (.int .i64 (rank X L k)) ∧ Below W.heap.size W w') := fun W k hb => rank_any (rel := rel) (tc := tc) (cs := cs) (HRI.out W hb) k
      have hd1 : decide (bo = -1) = false := by simpa using hb1
      rw [hd1, Bool.false_or] at hnx
      have hlo : best X L (i + 1) = if rank X L (i : Int) ≤ rank X L bo then (i : Int) else bo := by
       rw [hnx]
       by_cases h : rank X L (i : Int) ≤ rank X L bo
       ·rw [if_pos h, if_pos (by simpa using h)]
       ·rw [if_neg h, if_neg (by simpa using h)]
      have HNX := Lib.hid hlo
      clear hnx hlo hp hbi r0 r1 hd1
      by_cases hle : rank X L (i : Int) ≤ rank X L bo
      ·have hdl : decide (rank X L (i : Int) ≤ rank X L bo) = true := by simpa using hle
       have HLE := Lib.hid hle
       clear hle
       go_upto_region 7 with fail
       go_region_held3 (fun W => Below wq.heap.size wq W ∧ W.cell? ⟨bx, 0, none⟩ = some (.int .i64 rel) ∧ W.cell? ⟨bx, 1, none⟩ = some (.slice (some ⟨tb, tf, none⟩) n tc)) (first | (with_reducible assumption) | exact ⟨hS0.1.drew, hS0.2.1, hS0.2.2⟩) (first | (go_at_call 81; refine (HIS.out _ (And.left (‹Below wq.heap.size wq _ ∧ _›))).mono ?_; rintro e' w6 ⟨rfl, hb6⟩; have hS6 := keep3 (by with_reducible assumption) hb6; clear hb6) | (go_at_call 82; refine (HRK.out _ _ (And.left (‹Below wq.heap.size wq _ ∧ _›))).mono ?_; rintro e' w6 ⟨rfl, hb6⟩; have hS6 := keep3 (by with_reducible assumption) hb6; clear hb6))
       all_goals
        have HS6 := Lib.hid (And.left ‹Below wq.heap.size wq _ ∧ _›)
        go_wp2_with fail
        go_roundw
        case rel => exact ⟨i + 1, by omega, by go_num, by rw [HNX.out, if_pos HLE.out], HS6.out⟩
        case measure => simp [intOf]; omega
      ·have hdl : decide (rank X L (i : Int) ≤ rank X L bo) = false := by simpa using hle
       have HLE := Lib.hid hle
       clear hle
       go_upto_region 7 with fail
       go_region_held3 (fun W => Below wq.heap.size wq W ∧ W.cell? ⟨bx, 0, none⟩ = some (.int .i64 rel) ∧ W.cell? ⟨bx, 1, none⟩ = some (.slice (some ⟨tb, tf, none⟩) n tc)) (first | (with_reducible assumption) | exact ⟨hS0.1.drew, hS0.2.1, hS0.2.2⟩) (first | (go_at_call 81; refine (HIS.out _ (And.left (‹Below wq.heap.size wq _ ∧ _›))).mono ?_; rintro e' w6 ⟨rfl, hb6⟩; have hS6 := keep3 (by with_reducible assumption) hb6; clear hb6) | (go_at_call 82; refine (HRK.out _ _ (And.left (‹Below wq.heap.size wq _ ∧ _›))).mono ?_; rintro e' w6 ⟨rfl, hb6⟩; have hS6 := keep3 (by with_reducible assumption) hb6; clear hb6))
       all_goals
        have HS6 := Lib.hid (And.left ‹Below wq.heap.size wq _ ∧ _›)
        go_wp2_with fail
        go_roundw
        case rel => exact ⟨i + 1, by omega, by go_num, by rw [HNX.out, if_neg (by have := HLE.out; omega)], HS6.out⟩
        case measure => simp [intOf]; omega
   ·obtain rfl : i = n := by omega
    go_wp2_with fail
    go_ret
    obtain rfl := HCH.out
    exact ⟨rfl, HB2.out.trans (HBW.out.mono HB2.out.size)⟩
theorem rin_of {TA As : Option Addr} (hT : Kd.C k46 w TA X.length X) (hL : Kd.C k142 w As L.length L) (hl : L.length = X.length) (h1 : 1 ≤ X.length) (h8 : X.length ≤ 8) :
  ∃ tb tf sb sf, TA = some ⟨tb, tf, none⟩ ∧ As = some ⟨sb, sf, none⟩ ∧ RIn w X L X.length tb tf sb sf := by
 have g := fun (i : Nat) (hi : i < X.length) => at_T46 hT (i : Int) (by omega) (by omega)
 have g' := fun (i : Nat) (hi : i < L.length) => at_T142 hL (i : Int) (by omega) (by omega)
 obtain ⟨⟨tb, tf, spot⟩, _, _, rfl, hc, _⟩ := g 0 (by omega)
 obtain ⟨⟨sb, sf, spot'⟩, rfl, hc', _⟩ := g' 0 (by omega)
 have hs : spot = none := by simpa [Addr.add] using World.cell?_spot hc
 have hs' : spot' = none := by simpa [Addr.add] using World.cell?_spot hc'
 subst hs hs'
 have gT : ∀ j, j < X.length → w.cell? ⟨tb, tf + j * 9 + 3, none⟩ = some (.int .i64 (X.getD j z46).f3) ∧ w.cell? ⟨tb, tf + j * 9 + 4, none⟩ = some (.int .i64 (X.getD j z46).f4) ∧ w.cell? ⟨tb, tf + j * 9 + 5, none⟩ = some (.int .i64 (X.getD j z46).f5) := fun j hj => by
  obtain ⟨ad, ra, rc, hA, c0, c1, c2, c3, c4, c5, c6, c7, c8, hl, hC⟩ := g j hj
  injection hA with hA
  subst hA
  rw [add_none, Int.toNat_natCast, rt_nat] at c3 c4 c5
  exact ⟨c3, c4, c5⟩
 have gL : ∀ j, j < L.length → w.cell? ⟨sb, sf + j * 4, none⟩ = some (.bool (L.getD j z142).f0) ∧ w.cell? ⟨sb, sf + j * 4 + 1, none⟩ = some (.bool (L.getD j z142).f1) ∧ w.cell? ⟨sb, sf + j * 4 + 2, none⟩ = some (.bool (L.getD j z142).f2) ∧ w.cell? ⟨sb, sf + j * 4 + 3, none⟩ = some (.int .i64 (L.getD j z142).f3) := fun j hj => by
  obtain ⟨ad, hA, c0, c1, c2, c3⟩ := g' j hj
  injection hA with hA
  subst hA
  rw [add_none, Int.toNat_natCast, rd_nat] at c0 c1 c2 c3
  exact ⟨c0, c1, c2, c3⟩
 have b1 : tb < w.heap.size := wbl w _ hc
 have b2 : sb < w.heap.size := wbl w _ hc'
 exact ⟨tb, tf, sb, sf, rfl, rfl, rfl, hl, h8, b1, b2, fun j hj => (gT j hj).1, fun j hj => (gT j hj).2.1, fun j hj => (gT j hj).2.2, fun j hj => (gL j (by omega)).1, fun j hj => (gL j (by omega)).2.1, fun j hj => (gL j (by omega)).2.2.1, fun j hj => (gL j (by omega)).2.2.2⟩
theorem choose_kd {TA As : Option Addr} (hT : Kd.C k46 w TA X.length X) (_ : X.length ≤ tc) (hL : Kd.C k142 w As L.length L) (hcs : L.length ≤ cs) (hl : L.length = X.length) (h1 : 1 ≤ X.length) (h8 : X.length ≤ 8) (last tick : Int) :
  Calls Tryz.prog 48 #[.agg #[.int .i64 rel, .slice TA X.length tc], .slice As L.length cs, .int .i64 last, .int .i64 tick] w fun e w' => e = .returned (.int .i64 (choose X L last tick)) ∧ Below w.heap.size w w' := by
 obtain ⟨tb, tf, sb, sf, rfl, rfl, hR⟩ := rin_of hT hL hl h1 h8
 have := choose_any (rel := rel) (tc := tc) (cs := cs) hR (by omega) last tick
 rw [hl]
 exact this
end
end Go.Proofs.YtdgfjpbjiccllaaGreatDoor.Q
namespace Go.Proofs.YtdgfjpbjiccllaaGreatDoor
open Go.RowKit
open YtdgfjpbjiccllaaGreatDoorW.PrintWords YtdgfjpbjiccllaaGreatDoorW.PrintLast YtdgfjpbjiccllaaGreatDoorW.PrintMore
open PTopLoads (S46 k46 z46 k46_mk S57 k57 S142 k142 k142_mk)
set_option maxRecDepth 100000
variable {E : Nat}
def s142 (x : T.St) : S142 := ⟨x.p, x.s, x.m, x.a⟩
theorem states_kd {w : World} {B : Nat} {v : Value} {L : List T.St} (h : w.ownsRow B 142 4 v L.length (L.flatMap T.St.cells)) (hl : L.length ≤ 8) :
  ∃ A c, v = .slice A L.length c ∧ L.length ≤ c ∧ Kd.C k142 w A (L.map s142).length (L.map s142) := by
 rcases h.2 with ⟨rfl, h0⟩ | ⟨g, c, cur, rfl, hb, hh, hn, _, hs, ht⟩
 ·refine ⟨none, 0, by rw [h0], by omega, rfl, by simp; omega, fun h => by simp at h; omega⟩
 ·refine ⟨_, c, rfl, hn, rfl, by simp; omega, fun h0 => ⟨_, rfl, fun j p hp => ?_⟩⟩
  obtain ⟨hj, rfl⟩ := List.getElem?_eq_some_iff.1 hp
  have hj' : j < L.length := by simpa using hj
  refine ⟨L[j].cells, rfl, ?_, fun i u hu => ?_⟩
  ·have := k142_mk w (s142 L[j])
   simpa [T.St.cells, s142] using this
  ·have hi : i < 4 := by
    have := (List.getElem?_eq_some_iff.1 hu).1
    simpa [T.St.cells] using this
   rw [add_none]
   show w.cell? ⟨g, 0 + (j * 4 + i), none⟩ = _
   have hB : Blk w g 142 cur := hh
   rw [Nat.zero_add, hB.cell]
   have h1 : (L.flatMap T.St.cells)[j * 4 + i]? = some u := by
    have := T.cellsOf_at L j i hj' hi
    simp only [T.cellsOf, List.getElem?_toArray] at this
    rw [this, hu]
   rw [← ht, List.getElem?_take_of_lt (by omega)] at h1
   simpa using h1
theorem KOk.plus {K : Kst} (h : KOk K) (l : List Ev) : KOk (K.plus l) := ⟨h.t0, h.t1, h.regs, h.dl, h.ar, h.pol, h.sets⟩
theorem KOk.fold {K : Kst} (D : List (List Int)) : ∀ (l : List Nat), KOk K → KOk (l.foldl (arriveK D) K) := by
 intro l
 induction l generalizing K with
 | nil => intro h; exact h
 | cons i l ih => intro h; exact ih (h.arrive D i)
theorem fold_len (D : List (List Int)) : ∀ (l : List Nat) (K : Kst), (l.foldl (arriveK D) K).ev.length ≤ K.ev.length + l.length
 | [], K => by simp
 | i :: l, K => by
  have := fold_len D l (arriveK D K i)
  have := arriveK_len D K i
  simp only [List.foldl_cons, List.length_cons]
  omega
theorem fold_tk (D : List (List Int)) : ∀ (l : List Nat) (K : Kst), (l.foldl (arriveK D) K).tk = K.tk ∧ (l.foldl (arriveK D) K).tick = K.tick ∧ (l.foldl (arriveK D) K).last = K.last ∧ (l.foldl (arriveK D) K).reload = K.reload
 | [], K => ⟨rfl, rfl, rfl, rfl⟩
 | i :: l, K => by
  obtain ⟨a, b, c, d⟩ := fold_tk D l (arriveK D K i)
  obtain ⟨a', b', c', d', _⟩ := arriveK_tk D K i
  exact ⟨a.trans a', b.trans b', c.trans c', d.trans d'⟩
theorem begin_mem {L : List T.St} {i : Nat} {x : T.St} (h : x ∈ T.beginL L i) : ∃ y ∈ L, x.a = y.a := by
 unfold T.beginL at h
 split at h
 ·rename_i hh
  obtain ⟨n, hn, e, hp⟩ := T.hasL_true hh
  obtain rfl : i = n := by omega
  rcases List.mem_or_eq_of_mem_set h with h | h
  ·exact ⟨x, h, rfl⟩
  ·exact ⟨T.getL L i, getL_mem hn, by rw [h]⟩
 ·exact ⟨x, h, rfl⟩
theorem KOk.turns {K : Kst} (h : KOk K) (i : Nat) : KOk (turnsA K i) := by
 unfold turnsA
 split
 ·exact h
 ·refine ⟨h.t0, h.t1, h.regs, h.dl, fun x hx => ?_, h.pol, h.sets⟩
  obtain ⟨y, hy, e⟩ := begin_mem hx
  have := h.ar y hy
  rw [e]
  exact this
def cameK (K : Kst) (D : List (List Int)) (arr : Nat) : Kst := (bitsL arr).foldl (arriveK D) (({ K with ev := [] } : Kst).plus (lateL { K with ev := [] } K.tk.length))
def ranK (K2 : Kst) (who : Int) (touch : Nat) : Kst := if who = -1 then K2.plus [⟨K2.tick, 10, -1, 0⟩] else runsK (turnsA K2 who.toNat) who.toNat touch
def nextK (K3 : Kst) (who : Int) : Kst := { K3 with last := who, tick := K3.tick + 1 }
structure Fit (K2 : Kst) (i : Nat) : Prop where
 lt : i < K2.tk.length
 p : pdOf K2 i = true
 pre : K2.last = i ∨ (T.stateL K2.tab K2.last).s = false
 st : (T.stateL K2.tab i).s = false ∨ K2.last = i
 job : JobOk (K2.job1 i)
 l0 : 0 ≤ K2.loads.getD i 0
 l1 : K2.loads.getD i 0 ≤ 1000000000
section
variable {w w' : World} {B kp : Nat} {A : Ad} {jv : List Value} {ev : Value} {pd : Nat → Bool} {K : Kst}
theorem hd_set {E' : Nat} (h : KAt E w B kp A jv ev pd K) (w' : World) (hf : Fr E' [97] B w w') {K' : Kst} {ev' : Value} (hd : Blk w' kp 97 (kcells A K' ev')) (he : w'.ownsRow E' 50 4 ev' K'.ev.length (evs K'.ev)) (hbe : B ≤ E') (heh : E' ≤ w'.heap.size)
  (h1 : K'.tk = K.tk) (h2 : K'.pol = K.pol) (h3 : K'.cache = K.cache) (h4 : K'.tab = K.tab) (h5 : K'.had = K.had) (h6 : K'.loads = K.loads) (h7 : K'.job = K.job) : KAt E' w' B kp A jv ev' pd K' := by
 obtain ⟨r, tk, ti, la, po, ca, ta, ha, lo, jo, e⟩ := K'
 simp only at h1 h2 h3 h4 h5 h6 h7
 subst h1 h2 h3 h4 h5 h6 h7
 exact ⟨hd, h.tasks.fr hf (by decide) (by decide), pol_fr h.pol hf (by decide) (by decide), ⟨h.cache.len, h.cache.hd.fr hf (by decide)⟩, ⟨h.tab.hd.fr hf (by decide), h.tab.row.fr hf (by decide)⟩, h.own.fr hf (by decide), he,
  fun i hi hp => (h.jobs i hi hp).fr hf (by decide) (by decide), h.apart, h.n1, h.n8, h.lp, h.lt, h.lh, h.ll, h.lj, h.lv, h.bk, h.bp, h.bc, h.bt, h.bta, h.bo, hbe, heh⟩
theorem KAt.clearEv (h : KAt E w B kp A jv ev pd K) (E' : Nat) (hbe : B ≤ E') (heh : E' ≤ w.heap.size) : KAt E' (w.setCell ⟨kp, 8, none⟩ (.slice none 0 0)) B kp A jv (.slice none 0 0) pd { K with ev := [] } ∧ Fr E' [97] B w (w.setCell ⟨kp, 8, none⟩ (.slice none 0 0)) := by
 have hf : Fr E' [97] B w (w.setCell ⟨kp, 8, none⟩ (.slice none 0 0)) := Fr.of_blk (only_setCell (World.grownBy.refl w (some kp)) (p := ⟨kp, 8, none⟩) (.inl rfl) _) h.hd h.bk (by simp)
 exact ⟨hd_set h _ hf (h.hd.set_ 8 _) (by simpa [Go.Proofs.YtdgfjpbjiccllaaGreatDoor.evs] using World.ownsRow_nil _ _ _ _) hbe (Nat.le_trans heh hf.size) rfl rfl rfl rfl rfl rfl rfl, hf⟩
theorem KAt.next (h : KAt E w B kp A jv ev pd K) (who : Int) : KAt E ((w.setCell ⟨kp, 3, none⟩ (.int .i64 who)).setCell ⟨kp, 2, none⟩ (.int .i64 (K.tick + 1))) B kp A jv ev pd (nextK K who) ∧ Fr E [97] B w ((w.setCell ⟨kp, 3, none⟩ (.int .i64 who)).setCell ⟨kp, 2, none⟩ (.int .i64 (K.tick + 1))) := by
 have hf : Fr E [97] B w ((w.setCell ⟨kp, 3, none⟩ (.int .i64 who)).setCell ⟨kp, 2, none⟩ (.int .i64 (K.tick + 1))) := Fr.of_blk (only_setCell (only_setCell (World.grownBy.refl w (some kp)) (p := ⟨kp, 3, none⟩) (.inl rfl) _) (p := ⟨kp, 2, none⟩) (.inl rfl) _) h.hd h.bk (by simp)
 have hne := own_blk_ne h.evs h.hd (by decide)
 exact ⟨hd_set h _ hf ((h.hd.set_ 3 _).set_ 2 _) (own_far (o := 2) (own_far (o := 3) h.evs hne _) hne _) h.be (Nat.le_trans h.eh hf.size) rfl rfl rfl rfl rfl rfl rfl, hf⟩
end
theorem states_kd' {w : World} {B : Nat} {v : Value} {L : List T.St} {SL : List S142} (h : w.ownsRow B 142 4 v L.length (L.flatMap T.St.cells)) (hl : L.length ≤ 8) (hs : L.map s142 = SL) :
  ∃ A c, v = .slice A SL.length c ∧ SL.length ≤ c ∧ Kd.C k142 w A SL.length SL := by
 obtain ⟨A, c, hv, hc, hk⟩ := states_kd h hl
 subst hs
 exact ⟨A, c, by simpa using hv, by simpa using hc, hk⟩
def SPost (E : Nat) (w : World) (B kp : Nat) (A : Ad) (K : Kst) (e : Ending) (w' : World) : Prop :=
 ∃ jv' ev', e = .returned ev' ∧ KAt E w' B kp A jv' ev' (pdOf K) K ∧ Fr E [97, 50, 142, 140, 148, 131, 186] B w w'
theorem JobOk.same {K : Kst} {i : Nat} (h : JobOk (K.job1 i)) : JobOk ((turnsA K i).job1 i) := by
 unfold turnsA
 split <;> exact h
theorem turns_tk (K : Kst) (i : Nat) : (turnsA K i).tk = K.tk ∧ (turnsA K i).loads = K.loads ∧ (turnsA K i).tick = K.tick ∧ (turnsA K i).ev.length ≤ K.ev.length + 1 := by
 unfold turnsA
 split
 ·exact ⟨rfl, rfl, rfl, by omega⟩
 ·exact ⟨rfl, rfl, rfl, by simp [Kst.plus]⟩
theorem turns_pd (K : Kst) (i k : Nat) : pdOf (turnsA K i) k = pdOf K k := by
 unfold turnsA
 split
 ·rfl
 ·exact begin_p K.tab i k
theorem runs_tick (K : Kst) (i touch : Nat) : (runsK K i touch).tick = K.tick := by
 unfold runsK
 simp only
 split
 ·rfl
 ·unfold endK
  simp only
  split <;> split <;> (try split) <;> rfl
set_option maxHeartbeats 16000000 in
theorem step_post {W w : World} {B kp : Nat} {A : Ad} {jv : List Value} {ev : Value} {K : Kst} {DA : Option Addr} {D : List (List Int)} {dc : Nat} (arr touch : Nat) (harr : arr < 18446744073709551616) (ht : touch < 18446744073709551616)
  (hb : Below B W w) (hBW : B ≤ W.heap.size) (hB0 : 0 < B) (hT : DeB W) (hD : ∀ w', Fr E [97, 50, 142, 140, 148, 131, 186] B w w' → Dem w' DA D) (hd64 : D.length ≤ 20)
  {E0 : Nat} (h : KAt E0 w B kp A jv ev (pdOf K) K) (hBE : B ≤ E) (hEw : E ≤ w.heap.size) (hK : KOk K) (htk : K.tick < 1099511627776) (who : Int)
  (hch : Q.choose (cameK K D arr).tk ((cameK K D arr).tab.map s142) (cameK K D arr).last (cameK K D arr).tick = who)
  (hw : who = -1 ∨ ∃ i : Nat, who = i ∧ Fit (cameK K D arr) i) :
  Calls Tryz.prog 31 #[.pointer (some ⟨kp, 0, none⟩), .agg #[.int .u64 arr, .slice DA D.length dc, .int .u64 touch]] w (SPost E w B kp A (nextK (ranK (cameK K D arr) who touch) who)) := by
 have hsz := hb.size
 have n8 := h.n8
 have q2 : w.cell? ⟨kp, 2, none⟩ = some (.int .i64 K.tick) := h.hd.cell 2
 have q8 : w.cell? ⟨kp, 8, none⟩ = some ev := h.hd.cell 8
 have f8 := h.hd.frozen 8
 have hkl := h.hd.lt
 obtain ⟨hA1, hF1⟩ := h.clearEv E hBE hEw
 obtain ⟨wa, hwa⟩ : ∃ wa, w.setCell ⟨kp, 8, none⟩ (.slice none 0 0) = wa := ⟨_, rfl⟩
 have hwas : wa.heap.size = w.heap.size := by rw [← hwa]; simp [World.setCell]
 rw [hwa] at hA1 hF1
 have hA2 := hA1.alloc (.cells #[.int .u64 arr, .slice DA D.length dc, .int .u64 touch] 57)
 have hTb2 := Blk.new wa 57 #[.int .u64 arr, .slice DA D.length dc, .int .u64 touch]
 rw [hwas] at hTb2
 have hF3 : Fr E [97, 50, 142, 140, 148, 131, 186] B w (wa.alloc (.cells #[.int .u64 arr, .slice DA D.length dc, .int .u64 touch] 57)) := (hF1.mono (by simp)).trans (Fr.of_none (only_alloc (World.grownBy.refl wa none) _))
 obtain ⟨tb, htb⟩ : ∃ tb, w.heap.size = tb := ⟨_, rfl⟩
 have hHS : B ≤ w.heap.size := Nat.le_trans hBW hsz
 rw [htb] at hTb2
 have HWA := Lib.hid hwa
 have HTB := Lib.hid htb
 obtain ⟨wb, hwb⟩ : ∃ wb, wa.alloc (.cells #[.int .u64 arr, .slice DA D.length dc, .int .u64 touch] 57) = wb := ⟨_, rfl⟩
 rw [hwb] at hA2 hTb2 hF3
 have HWB := Lib.hid hwb
 have hl3 := late_any hA2 ⟨hK.t0, hK.t1, hK.regs, hK.dl, hK.ar, hK.pol, hK.sets⟩ (by simp)
 have HLT := Lib.hid hl3
 have HTb := Lib.hid hTb2
 have HF3 := Lib.hid hF3
 have HH := Lib.hid h
 have HFB : Hid (∀ w2, Fr E [97, 50, 142, 140, 148, 131, 186] B w w2 → Below B W w2) := fun w2 f2 => hb.trans (f2.below (Nat.le_refl _) hHS)
 have HD := Lib.hid hD
 have HT := Lib.hid hT
 have HK := Lib.hid hK
 have HCH := Lib.hid hch
 have HWH := Lib.hid hw
 have hca : cameK K D arr = (bitsL arr).foldl (arriveK D) (({ K with ev := [] } : Kst).plus (lateL { K with ev := [] } ({ K with ev := [] } : Kst).tk.length)) := rfl
 have HCA := Lib.hid hca
 clear hwa hwas htb hwb hA1 hF1 hA2 hTb2 hF3 hl3 hch hw hD hT hb h hca
 go_enter Tryz.func31, Tryz.ntmps31
 go_wp2_with fail
 rw [HWA.out, HWB.out, HTB.out]
 refine HLT.out.mono ?_
 rintro e wc ⟨rfl, ev2, K2, F2⟩
 have Tc := HTb.out.fr F2 (by decide)
 have c0 : wc.cell? ⟨tb, 0, none⟩ = some (.int .u64 (arr : Int)) := Tc.cell 0
 have c1 : wc.cell? ⟨tb, 1, none⟩ = some (.slice DA D.length dc) := Tc.cell 1
 have c2 : wc.cell? ⟨tb, 2, none⟩ = some (.int .u64 (touch : Int)) := Tc.cell 2
 have F2' := HF3.out.trans (F2.mono (ts' := [97, 50, 142, 140, 148, 131, 186]) (by simp))
 have hKa : KOk (({ K with ev := [] } : Kst).plus (lateL { K with ev := [] } ({ K with ev := [] } : Kst).tk.length)) := KOk.plus (K := { K with ev := [] }) ⟨HK.out.t0, HK.out.t1, HK.out.regs, HK.out.dl, HK.out.ar, HK.out.pol, HK.out.sets⟩ _
 have hLa : (({ K with ev := [] } : Kst).plus (lateL { K with ev := [] } ({ K with ev := [] } : Kst).tk.length)).ev.length ≤ 8 := by
  have := lateL_len { K with ev := [] } ({ K with ev := [] } : Kst).tk.length
  simp only [Kst.plus, List.length_append, List.length_nil]
  simp only at this
  omega
 have harr2 := arrive_any (W := W) (touch := (touch : Int)) (dc := dc) arr harr (HFB.out wc F2') hBW hB0 HT.out (fun w' f => HD.out w' (F2'.trans f)) hd64 K2 hKa (by omega)
 rw [← HCA.out] at harr2
 have hMK : KOk (cameK K D arr) := by rw [HCA.out]; exact KOk.fold D _ hKa
 have hML : (cameK K D arr).ev.length ≤ 72 := by
  rw [HCA.out]
  have := fold_len D (bitsL arr) (({ K with ev := [] } : Kst).plus (lateL { K with ev := [] } ({ K with ev := [] } : Kst).tk.length))
  have := bitsF_len 64 arr
  simp only [bitsL] at *
  omega
 have hMt := fold_tk D (bitsL arr) (({ K with ev := [] } : Kst).plus (lateL { K with ev := [] } ({ K with ev := [] } : Kst).tk.length))
 rw [← HCA.out] at hMt
 have HMT := Lib.hid hMt.2.1
 have HAR := Lib.hid harr2
 have HTc := Lib.hid Tc
 have HF2 := Lib.hid F2'
 clear hMt Tc F2 F2' harr2 K2 hKa hLa
 obtain ⟨M, hM⟩ : ∃ M, cameK K D arr = M := ⟨_, rfl⟩
 rw [hM] at hMK hML HAR HMT HCH HWH ⊢
 have HMK := Lib.hid hMK
 have HM := Lib.hid hM
 clear hM hMK HCA
 go_wp2_with fail
 refine HAR.out.mono ?_
 rintro e wd ⟨rfl, jv3, ev3, K3, F3⟩
 have Td := HTc.out.fr F3 (by decide)
 have F3' := HF2.out.trans (F3.mono (ts' := [97, 50, 142, 140, 148, 131, 186]) (by simp))
 have m8 := K3.n8
 have hregs : ∀ x ∈ M.tk, x.f6.length ≤ 8 := fun x hx => (HMK.out.regs x hx).2.1
 obtain ⟨TA, tc, hvA, hcA, _⟩ := K3.tasks.kd m8 hregs
 have HKD : Hid (∀ w2, KAt E w2 B kp A jv3 ev3 (pdOf M) M → Kd.C k46 w2 TA M.tk.length M.tk) := by
  intro w2 h2
  obtain ⟨TA', tc', hv', _, hk⟩ := h2.tasks.kd m8 hregs
  rw [hvA] at hv'
  injection hv' with h1 _ _
  rw [h1]
  exact hk
 obtain ⟨SL, hSL⟩ : ∃ SL, M.tab.map s142 = SL := ⟨_, rfl⟩
 have htl : M.tab.length ≤ 8 := by rw [K3.lt]; exact m8
 have r0 : wd.cell? ⟨kp, 0, none⟩ = some (.int .i64 M.reload) := K3.hd.cell 0
 have r1 : wd.cell? ⟨kp, 1, none⟩ = some (.slice TA M.tk.length tc) := by rw [K3.hd.cell]; simp [kcells, hvA]
 have r2 : wd.cell? ⟨kp, 2, none⟩ = some (.int .i64 M.tick) := K3.hd.cell 2
 have r3 : wd.cell? ⟨kp, 3, none⟩ = some (.int .i64 M.last) := K3.hd.cell 3
 have r6 : wd.cell? ⟨kp, 6, none⟩ = some (.pointer (some ⟨A.tp, 0, none⟩)) := K3.hd.cell 6
 have hkd := K3.hd.lt
 rw [hSL] at HCH
 have hkk := HCH.out
 have hml : M.tab.length = M.tk.length := K3.lt
 have hm1 := K3.n1
 have HSL := Lib.hid hSL
 have HKK := Lib.hid hkk
 have HML2 := Lib.hid hml
 have HM1 := Lib.hid hm1
 have HM8 := Lib.hid m8
 clear hml hm1
 have HTd := Lib.hid Td
 have HF3' := Lib.hid F3'
 have HK3 := Lib.hid K3
 have HTA : Hid (∀ w2, Fr E [] B wd w2 → Calls Tryz.prog 49 #[.pointer (some ⟨A.tp, 0, none⟩)] w2 fun e w' => ∃ v, e = .returned v ∧ w'.ownsRow w2.heap.size 142 4 v M.tab.length (M.tab.flatMap T.St.cells) ∧ Below w2.heap.size w2 w') :=
  fun w2 f2 => T.tall_any A.tp A.ta M.tab w2 (K3.fr f2 (by simp)).tab htl
 have HCP : Hid (∀ w2 As cs, KAt E w2 B kp A jv3 ev3 (pdOf M) M → Kd.C k142 w2 As SL.length SL → SL.length ≤ cs → Calls Tryz.prog 48 #[.agg #[.int .i64 M.reload, .slice TA M.tk.length tc], .slice As SL.length cs, .int .i64 M.last, .int .i64 M.tick] w2 fun e w' => e = .returned (.int .i64 who) ∧ Below w2.heap.size w2 w') :=
  fun w2 As cs h2 hk hc => by
   have hsl8 : SL.length = M.tk.length := by rw [← HSL.out, List.length_map]; exact HML2.out
   have := Q.choose_kd (rel := M.reload) (HKD.out w2 h2) hcA hk hc hsl8 HM1.out HM8.out M.last M.tick
   rw [HKK.out] at this
   exact this
 obtain ⟨mn, hmn⟩ : ∃ mn, M.tk.length = mn := ⟨_, rfl⟩
 rw [hmn] at HCP r1 m8
 have HMN := Lib.hid hmn
 obtain ⟨sl, hsl⟩ : ∃ sl, SL.length = sl := ⟨_, rfl⟩
 have HSLL := Lib.hid hsl
 clear K3 F3 F3' Td hSL hkk hvA hcA hregs hmn hsl HAR HTc HF2 c0 c1 c2
 go_wp2_with fail
 go_region_held3 (fun w' => w'.cell? ⟨kp, 0, none⟩ = some (.int .i64 M.reload) ∧ w'.cell? ⟨kp, 1, none⟩ = some (.slice TA mn tc) ∧ w'.cell? ⟨kp, 2, none⟩ = some (.int .i64 M.tick) ∧ w'.cell? ⟨kp, 3, none⟩ = some (.int .i64 M.last) ∧ w'.cell? ⟨kp, 6, none⟩ = some (.pointer (some ⟨A.tp, 0, none⟩))) (go_keep) (first | (go_at_call 49; refine (HTA.out _ (Fr.drew (Fr.refl (E := E) _ B wd))).mono ?_; rintro e w4 ⟨v, rfl, hown, hbl⟩; obtain ⟨As, cs, rfl, hcs, hkd4⟩ := states_kd' hown htl HSL.out; have K4 := HK3.out.fr ((Fr.drew (Fr.refl (E := E) [] B wd)).trans (Fr.of_below hbl)) (by simp); have x0 : w4.cell? ⟨kp, 0, none⟩ = some (.int .i64 M.reload) := K4.hd.cell 0; have x1 : w4.cell? ⟨kp, 1, none⟩ = some (.slice TA mn tc) := (hbl.cell hkd).trans r1; have x2 : w4.cell? ⟨kp, 2, none⟩ = some (.int .i64 M.tick) := K4.hd.cell 2; have x3 : w4.cell? ⟨kp, 3, none⟩ = some (.int .i64 M.last) := K4.hd.cell 3; have x6 : w4.cell? ⟨kp, 6, none⟩ = some (.pointer (some ⟨A.tp, 0, none⟩)) := K4.hd.cell 6; have F4 := (Fr.drew (Fr.refl (E := E) [97, 50, 142, 140, 148, 131, 186] B wd)).trans (Fr.of_below hbl); have HK4 := Lib.hid K4; have HF4 := Lib.hid F4; have HKD4 := Lib.hid hkd4; have HCS := Lib.hid hcs; clear hown hbl K4 F4 hkd4 hcs) | (go_at_call 48; refine (HCP.out _ _ _ HK4.out HKD4.out HCS.out).mono ?_; rintro e w5 ⟨rfl, hbl5⟩; have K5 := HK4.out.fr (Fr.of_below (ts := []) (B := B) hbl5) (by simp); have y0 : w5.cell? ⟨kp, 0, none⟩ = some (.int .i64 M.reload) := K5.hd.cell 0; have y1 : w5.cell? ⟨kp, 1, none⟩ = some (.slice TA mn tc) := (K5.hd.cell 1).trans ((HK4.out.hd.cell 1).symm.trans x1); have y2 : w5.cell? ⟨kp, 2, none⟩ = some (.int .i64 M.tick) := K5.hd.cell 2; have y3 : w5.cell? ⟨kp, 3, none⟩ = some (.int .i64 M.last) := K5.hd.cell 3; have y6 : w5.cell? ⟨kp, 6, none⟩ = some (.pointer (some ⟨A.tp, 0, none⟩)) := K5.hd.cell 6))
 have HK5 := Lib.hid K5
 have HF5 := Lib.hid ((HF3'.out.trans HF4.out).trans (Fr.of_below hbl5))
 have HTe := Lib.hid (HTd.out.fr (HF4.out.trans (Fr.of_below hbl5)) (by decide))
 have hMt := HMT.out
 have t0 := HMK.out.t0
 have htk2 : M.tick < 1099511627776 := by rw [hMt]; exact htk
 clear K5 hbl5 x0 x1 x2 x3 x6 y0 y1 y2 y3 y6 r0 r1 r2 r3 r6 HK4 HF4 HKD4 HCS HK3 HF3' HTd HTA HCP HKD hMt
 rcases HWH.out with hwho | ⟨i, hwho, hfit⟩
 ·subst hwho
  have HML : Hid (M.ev.length ≤ 100000000) := by unfold Hid; omega
  have hrk : ranK (cameK K D arr) (-1) touch = M.plus [⟨M.tick, 10, -1, 0⟩] := by rw [HM.out]; unfold ranK; rw [if_pos rfl]
  have HRK := Lib.hid hrk
  clear hrk
  go_wp2_with fail
  refine (note_post HK5.out 10 (-1) 0 HML.out).mono ?_
  rintro e w6 ⟨rfl, ev6, K6, F6⟩
  have HK6 := Lib.hid K6
  have HF6 := Lib.hid (HF5.out.trans (F6.mono (ts' := [97, 50, 142, 140, 148, 131, 186]) (by simp)))
  have HTI : Hid ((M.plus [⟨M.tick, 10, -1, 0⟩]).tick = M.tick) := rfl
  clear K6 F6 HK5 HF5
  have b2 : w6.cell? ⟨kp, 2, none⟩ = some (.int .i64 M.tick) := (HK6.out.hd.cell 2).trans (by show some (Value.int .i64 (M.plus [⟨M.tick, 10, -1, 0⟩]).tick) = _; rw [HTI.out])
  obtain ⟨la, hla⟩ : ∃ la, (M.plus [⟨M.tick, 10, -1, 0⟩]).last = la := ⟨_, rfl⟩
  have b3 : w6.cell? ⟨kp, 3, none⟩ = some (.int .i64 la) := (HK6.out.hd.cell 3).trans (by show some (Value.int .i64 (M.plus [⟨M.tick, 10, -1, 0⟩]).last) = _; rw [hla])
  have b8 : w6.cell? ⟨kp, 8, none⟩ = some ev6 := HK6.out.hd.cell 8
  have g2 := HK6.out.hd.frozen 2
  have g3 := HK6.out.hd.frozen 3
  have hn9 := HK6.out.next (-1)
  rw [HTI.out] at hn9
  obtain ⟨w9, hw9⟩ : ∃ w9, (w6.setCell ⟨kp, 3, none⟩ (.int .i64 (-1))).setCell ⟨kp, 2, none⟩ (.int .i64 (M.tick + 1)) = w9 := ⟨_, rfl⟩
  rw [hw9] at hn9
  have HW9 := Lib.hid hw9
  have HK9 := Lib.hid hn9.1
  have HF9 := Lib.hid (HF6.out.trans (hn9.2.mono (ts' := [97, 50, 142, 140, 148, 131, 186]) (by simp)))
  clear hla hn9 hw9
  go_wp2_with fail
  rw [HW9.out]
  go_ret
  exact ⟨jv3, ev6, rfl, by rw [HRK.out]; exact HK9.out, HF9.out⟩
 ·subst hwho
  have hrk : ranK (cameK K D arr) (i : Int) touch = runsK (turnsA M i) i touch := by rw [HM.out]; unfold ranK; rw [if_neg (by omega), Int.toNat_natCast]
  have HRK := Lib.hid hrk
  have h10 : M.ev.length ≤ 10000000 := by omega
  obtain ⟨tt1, tt2, tt3, tt4⟩ := turns_tk M i
  have hjs := hfit.job.same
  have hwi : ((i : Int) == -1) = false := by rw [beq_eq_false_iff_ne]; omega
  have hz2 := HTe.out.cell 2
  have HTU := Lib.hid (turns_any HK5.out h10 i hfit.lt hfit.pre hfit.st)
  have hft : pdOf (turnsA M i) i = true := by rw [turns_pd]; exact hfit.p
  have hld : 0 ≤ (turnsA M i).loads.getD i 0 ∧ (turnsA M i).loads.getD i 0 ≤ 1000000000 := by rw [tt2]; exact ⟨hfit.l0, hfit.l1⟩
  have HRU : Hid (∀ w2 jv2 ev2, Fr E [97, 50, 142, 140, 148, 131, 186] B w w2 → KAt E w2 B kp A jv2 ev2 (pdOf (turnsA M i)) (turnsA M i) → Calls Tryz.prog 52 #[.pointer (some ⟨kp, 0, none⟩), .int .i64 i, .int .u64 touch] w2 (JPost E w2 B kp A [97, 50, 131, 142, 148, 186] (runsK (turnsA M i) i touch))) :=
   fun w2 jv2 ev2 f2 h2 => runs_any touch ht (HFB.out w2 f2) hB0 HT.out h2 (HMK.out.turns i) (by omega) i (by rw [tt1]; exact hfit.lt) hft hjs hld.1 hld.2
  have HTI : Hid ((runsK (turnsA M i) i touch).tick = M.tick) := by unfold Hid; rw [runs_tick]; exact tt3
  clear hrk hz2 hjs hft hld tt1 tt2 tt3 tt4 hfit
  go_wp2_with fail
  refine HTU.out.mono ?_
  rintro e w6 ⟨rfl, jv6, ev6, K6, F6⟩
  have F6' := HF5.out.trans (F6.mono (ts' := [97, 50, 142, 140, 148, 131, 186]) (by simp))
  have z2 : w6.cell? ⟨tb, 2, none⟩ = some (.int .u64 (touch : Int)) := (HTe.out.fr F6 (by decide)).cell 2
  have HRU2 := Lib.hid (HRU.out w6 jv6 ev6 F6' K6)
  have HF6 := Lib.hid F6'
  clear K6 F6 F6' HK5 HF5 HTU HRU
  go_wp2_with fail
  refine HRU2.out.mono ?_
  rintro e w7 ⟨rfl, jv7, ev7, K7, F7⟩
  have HK7 := Lib.hid K7
  have HF7 := Lib.hid (HF6.out.trans (F7.mono (ts' := [97, 50, 142, 140, 148, 131, 186]) (by simp)))
  clear K7 F7 HRU2 HF6 z2
  have b2 : w7.cell? ⟨kp, 2, none⟩ = some (.int .i64 M.tick) := (HK7.out.hd.cell 2).trans (by show some (Value.int .i64 (runsK (turnsA M i) i touch).tick) = _; rw [HTI.out])
  obtain ⟨la, hla⟩ : ∃ la, (runsK (turnsA M i) i touch).last = la := ⟨_, rfl⟩
  have b3 : w7.cell? ⟨kp, 3, none⟩ = some (.int .i64 la) := (HK7.out.hd.cell 3).trans (by show some (Value.int .i64 (runsK (turnsA M i) i touch).last) = _; rw [hla])
  have b8 : w7.cell? ⟨kp, 8, none⟩ = some ev7 := HK7.out.hd.cell 8
  have g2 := HK7.out.hd.frozen 2
  have g3 := HK7.out.hd.frozen 3
  have hn9 := HK7.out.next (i : Int)
  rw [HTI.out] at hn9
  obtain ⟨w9, hw9⟩ : ∃ w9, (w7.setCell ⟨kp, 3, none⟩ (.int .i64 (i : Int))).setCell ⟨kp, 2, none⟩ (.int .i64 (M.tick + 1)) = w9 := ⟨_, rfl⟩
  rw [hw9] at hn9
  have HW9 := Lib.hid hw9
  have HK9 := Lib.hid hn9.1
  have HF9 := Lib.hid (HF7.out.trans (hn9.2.mono (ts' := [97, 50, 142, 140, 148, 131, 186]) (by simp)))
  clear hla hn9 hw9
  go_wp2_with fail
  rw [HW9.out]
  go_ret
  exact ⟨jv7, ev7, rfl, by rw [HRK.out]; exact HK9.out, HF9.out⟩
end Go.Proofs.YtdgfjpbjiccllaaGreatDoor
