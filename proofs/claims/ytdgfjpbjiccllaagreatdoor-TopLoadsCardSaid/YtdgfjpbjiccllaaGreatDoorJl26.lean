/- Joined texts: Loads. -/
import Derived.Test.YtdgfjpbjiccllaaGreatDoorJl22
import Derived.Test.YtdgfjpbjiccllaaGreatDoorJl07
import Derived.Test.YtdgfjpbjiccllaaGreatDoorJl17
import Derived.Test.YtdgfjpbjiccllaaGreatDoorJl25
import Derived.Test.YtdgfjpbjiccllaaGreatDoorJl12
namespace Go.Proofs.YtdgfjpbjiccllaaGreatDoor.M
open Go.RowKit
open YtdgfjpbjiccllaaGreatDoorW.PrintWords YtdgfjpbjiccllaaGreatDoorW.PrintLast YtdgfjpbjiccllaaGreatDoorW.PrintMore
open PTopLoads
open F A V
open O (OkTask OkIn)
set_option maxRecDepth 100000
structure In2 (w : World) (rel : Int) (L : List S46) (TA : Option Addr) (tc : Nat) (l : List S57) (IA : Option Addr) (ic : Nat) : Prop where
  t : Kd.C k46 w TA L.length L
  tc_ : L.length ≤ tc
  tk : ∀ x ∈ L, OkTask x
  i : Kd.C k57 w IA l.length l
  ic_ : l.length ≤ ic
  ins : ∀ u ∈ l, OkIn u
theorem In2.small {w : World} {rel : Int} {L : List S46} {TA : Option Addr} {tc : Nat} {l : List S57} {IA : Option Addr} {ic : Nat} (h : In2 w rel L TA tc l IA ic) : SmallI l := by
  have hl := h.i.2.1
  refine ⟨by omega, fun u hu => ?_⟩
  obtain ⟨j, hj, rfl⟩ := List.getElem_of_mem hu
  obtain ⟨_, _, _, _, _, _, _, _, hC⟩ := at_T57 h.i (j : Int) (by omega) (by omega)
  have er : rd_T57 l j = l[j] := by simp [rd_T57, List.getD_eq_getElem?_getD, hj]
  rw [er] at hC
  have := hC.2.1
  omega
theorem src_kd {w : World} {A : Option Addr} {L : List S46} (h : Kd.C k46 w A L.length L) : Src w A L := by
  rcases Nat.eq_zero_or_pos L.length with h0 | h0
  · exact .inl (List.length_eq_zero_iff.1 h0)
  · have g : ∀ i (hi : i < L.length), ∃ ad ra rc, A = some ad ∧ w.cell? (ad.add (i * 9)) = some (.string L[i].f0) ∧ w.cell? ⟨(ad.add (i * 9)).block, (ad.add (i * 9)).off + 1, none⟩ = some (.int .i64 L[i].f1) ∧ w.cell? ⟨(ad.add (i * 9)).block, (ad.add (i * 9)).off + 2, none⟩ = some (.int .i64 L[i].f2) ∧ w.cell? ⟨(ad.add (i * 9)).block, (ad.add (i * 9)).off + 3, none⟩ = some (.int .i64 L[i].f3) ∧ w.cell? ⟨(ad.add (i * 9)).block, (ad.add (i * 9)).off + 4, none⟩ = some (.int .i64 L[i].f4) ∧ w.cell? ⟨(ad.add (i * 9)).block, (ad.add (i * 9)).off + 5, none⟩ = some (.int .i64 L[i].f5) ∧ w.cell? ⟨(ad.add (i * 9)).block, (ad.add (i * 9)).off + 6, none⟩ = some (.slice ra L[i].f6.length rc) ∧ w.cell? ⟨(ad.add (i * 9)).block, (ad.add (i * 9)).off + 7, none⟩ = some (.int .u64 L[i].f7) ∧ w.cell? ⟨(ad.add (i * 9)).block, (ad.add (i * 9)).off + 8, none⟩ = some (.int .u64 L[i].f8) ∧ L[i].f6.length ≤ rc ∧ (Kd.int .i64).C w ra L[i].f6.length L[i].f6 := fun i hi => by
      obtain ⟨ad, ra, rc, hA, c0, c1, c2, c3, c4, c5, c6, c7, c8, hl, hC⟩ := at_T46 h (i : Int) (by omega) (by omega)
      have er : rd_T46 L i = L[i] := by simp [rd_T46, List.getD_eq_getElem?_getD, hi]
      rw [er] at c0 c1 c2 c3 c4 c5 c6 c7 c8 hl hC
      exact ⟨ad, ra, rc, hA, c0, c1, c2, c3, c4, c5, c6, c7, c8, hl, hC⟩
    obtain ⟨⟨b, off, spot⟩, _, _, rfl, hcell, _⟩ := g 0 h0
    have hspot : spot = none := by simpa [Addr.add] using World.cell?_spot hcell
    subst hspot
    have hb : b < w.heap.size := wbl w _ hcell
    refine .inr ⟨b, off, rfl, hb, fun i x hx => ?_⟩
    obtain ⟨hi, rfl⟩ := List.getElem?_eq_some_iff.1 hx
    obtain ⟨ad, ra, rc, hA, c0, c1, c2, c3, c4, c5, c6, c7, c8, hl, hC⟩ := g i hi
    injection hA with hA
    subst hA
    rw [add_none] at c0 c1 c2 c3 c4 c5 c6 c7 c8
    exact ⟨ra, rc, c0, c1, c2, c3, c4, c5, c6, c7, c8, nums_of hC, hl⟩
theorem sub_of {x : S46} (h7 : 0 ≤ x.f7 ∧ x.f7 < 18446744073709551616) (h8 : 0 ≤ x.f8 ∧ x.f8 < 18446744073709551616) (h : Go.bits .andNot .u64 x.f8 x.f7 = 0) : x.f8.toNat &&& x.f7.toNat = x.f8.toNat := by
  have e := bits_andNot_nat x.f8.toNat x.f7.toNat
  rw [Int.toNat_of_nonneg h8.1, Int.toNat_of_nonneg h7.1, h] at e
  have e0 : andN x.f8.toNat x.f7.toNat = 0 := by omega
  apply Nat.eq_of_testBit_eq
  intro i
  rw [Nat.testBit_and]
  by_cases hi : i < 64
  · have hb := andN_bit x.f8.toNat x.f7.toNat i hi
    rw [e0, Nat.zero_testBit] at hb
    cases h1 : x.f8.toNat.testBit i with
    | false => rw [Bool.false_and]
    | true =>
      cases h2 : x.f7.toNat.testBit i with
      | false => rw [h1, h2] at hb; cases hb
      | true => rfl
  · have : x.f8.toNat.testBit i = false := by
      apply Nat.testBit_lt_two_pow
      have h1 : x.f8.toNat < 2 ^ 64 := by omega
      exact Nat.lt_of_lt_of_le h1 (Nat.pow_le_pow_right (by decide) (by omega))
    rw [this]
    rfl
theorem tks_of {rel : Int} {L : List S46} (h : AllB rel L) (hk : ∀ x ∈ L, OkTask x) : Tks L rel := by
  refine ⟨fun x hx => ?_, fun y hy hm => ?_, fun y hy => ?_, h.n1, h.n8, h.a0, h.a1⟩
  · obtain ⟨j, hj, rfl⟩ := List.getElem_of_mem hx
    have hB := (h.is j hj).1
    have ho := hk _ hx
    exact ⟨hB.r1, hB.r8, hB.rr, hB.wd, by have := hB.dt; have := hB.t1; omega, ho.2.1, ho.2.2⟩
  · have e : L.getD y z46 = L[y] := by simp [List.getD_eq_getElem?_getD, hy]
    rw [e] at hm ⊢
    rcases (h.is y hy).1.md with h1 | h1 | h1
    · have := h1.1; omega
    · have := h1.1; omega
    · exact h1.2.2.2
  · have e : L.getD y z46 = L[y] := by simp [List.getD_eq_getElem?_getD, hy]
    unfold ucb ecb
    rw [e]
    have ho := hk _ (List.getElem_mem hy)
    exact sub_of ho.2.1 ho.2.2 (h.is y hy).1.uc
structure S2 (w wr : World) (rel : Int) (TA : Option Addr) (n tc sb : Nat) : Prop where
  bl : Below w.heap.size w wr
  s : Blk wr sb 24 #[.int .i64 rel, .slice TA n tc]
theorem S2.below {w wr w' : World} {rel : Int} {TA : Option Addr} {n tc sb : Nat} (h : S2 w wr rel TA n tc sb) (hb : Below wr.heap.size wr w') : S2 w w' rel TA n tc sb :=
  ⟨h.bl.trans (hb.mono h.bl.size), h.s.below hb h.s.lt⟩
theorem run_man {w wr : World} {rel : Int} {L : List S46} {TA : Option Addr} {tc : Nat} {l : List S57} {IA : Option Addr} {ic : Nat} (hbl : Below w.heap.size w wr) (h0 : 0 < w.heap.size) (h : In2 w rel L TA tc l IA ic) (hA : AllB rel L) (hl : l.length ≤ 250) (hd : ∀ u ∈ l, u.f1.length ≤ 20)
    (htab : Lib.TabIs Tryz.prog wr "strings.asciiSpace" .u8 Lib.asciiSpaceTab) (hT : DeB wr) :
    Calls Tryz.prog 14 #[.agg #[.int .i64 rel, .slice TA L.length tc], .slice IA l.length ic] wr fun e w2 => ∃ v, e = .returned (.tuple #[v, .bool true]) ∧ w2.ownsRow wr.heap.size 50 4 v (runE manF (k0 L rel) l).length (evs (runE manF (k0 L rel) l)) ∧ Below wr.heap.size wr w2 := by
  have h0 : 0 < wr.heap.size := Nat.lt_of_lt_of_le h0 hbl.size
  have hK := tks_of hA h.tk
  refine run_any (L := L) (K0 := k0 L rel) (stepF := manF) (Inv := InvM L rel) (by omega) (ins_of (Kd.C_below h.i hbl)) (fun w' hb => ?_) (k0_inv hK) (fun w' hb => ?_)
  · refine (new_any (L := L) (c := tc) (rel := rel) hA.n1 hA.n8 (fun w'' hb' => src_kd (Kd.C_below (Kd.C_below (Kd.C_below h.t hbl) hb) hb')) (fun w'' hb' => ?_) ?_).mono ?_
    · refine X.all_yes (L := L) (rel := rel) hA.n1 hA.n8 hA.a0 hA.a1 (fun w3 hb3 => src_kd (Kd.C_below (Kd.C_below (Kd.C_below (Kd.C_below h.t hbl) hb) hb') hb3)) (fun i y hy => ?_) (fun i j y z hij hy hz => ?_) (Lib.tabBelow_of_tabIs htab _ (hb.trans (hb'.mono hb.size)))
      · obtain ⟨hi, rfl⟩ := List.getElem?_eq_some_iff.1 hy
        have hB := (hA.is i hi).1
        obtain ⟨k, hk⟩ := hB.nm
        exact ⟨X.name_inv (h.tk _ (List.getElem_mem hi)).1 hk, hB.r1, hB.r8, hB.rr, hB.wd, hB.dt, hB.t1, hB.md, hB.uc⟩
      · obtain ⟨hi, rfl⟩ := List.getElem?_eq_some_iff.1 hy
        obtain ⟨hj, rfl⟩ := List.getElem?_eq_some_iff.1 hz
        exact (hA.is j hj).2 i hij
    · intro y hy
      obtain ⟨j, hj, rfl⟩ := List.getElem_of_mem hy
      have hB := (hA.is j hj).1
      refine ⟨hB.r1, hB.r8, ?_⟩
      have hx := hK.b _ (List.getElem_mem hj)
      have := take_all hx 0 (Nat.zero_le _)
      have := hB.wd
      have := hB.dt
      have := hB.t1
      have hp : 1 ≤ L[j].f6.sum := by
        have h1 := take_all hx 1 hx.n1
        have e := take_at (x := L[j]) (k := 0) hx.n1
        have hp0 : 0 < L[j].f6.length := hx.n1
        have g : L[j].f6.getD 0 0 = L[j].f6[0]'hp0 := by simp [List.getD_eq_getElem?_getD, hp0]
        have := (hx.r 0 hx.n1).1
        rw [g] at e
        simp at e h1
        omega
      unfold P.odd
      simp
      omega
    · rintro e w2 ⟨kp, A', jv, ev, he, hk, hb2⟩
      exact ⟨kp, A', jv, ev, he, hk.less (fun k h => by rw [k0_pd] at h; simp at h), hb2⟩
  · exact man_steps hK (by omega) (fun u hu => ⟨(h.ins u hu).1, (h.ins u hu).2, hd u hu⟩) (Nat.le_refl _) (by have := hb.size; omega) (hT.below h0 hb)
theorem made_any {w w' : World} {rel : Int} {L : List S46} {TA : Option Addr} {tc : Nat} {l : List S57} {IA : Option Addr} {ic : Nat} (hb : Below w.heap.size w w') (h : In2 w rel L TA tc l IA ic) (hK : Tks L rel) (j : Nat) (hj : j < L.length) :
    Calls Tryz.prog 16 #[.agg #[.int .i64 rel, .slice TA L.length tc], .int .i64 (j : Int)] w' fun e w2 => e = .returned (.int .i64 (rel * (cnt (fullN L j) : Int))) ∧ Below w'.heap.size w' w2 :=
  taskmasterref8_Made.calls 100 rel TA tc L j _ w' (Kd.C_below h.t hb) h.tc_ (made_f L hK.u64 hK.n8 rel ⟨hK.r0, hK.r1⟩ j hj 100 (Nat.le_refl _))
theorem sum_next {X : List S46} {rel : Int} {L : List Ev} {i : Nat} (hi : i < L.length) : sumR (L.take (i + 1)) = sumR (L.take i) + evR L[i] ∧ sumA X rel (L.take (i + 1)) = sumA X rel (L.take i) + evA X rel L[i] := by
  rw [List.take_succ_eq_append_getElem hi, sumR_app, sumA_app]
  simp [sumR, sumA]
theorem evs_at : ∀ (L : List Ev) (i j : Nat) (h : i < L.length), j < 4 → (evs L)[i * 4 + j]? = (L[i]).cells[j]?
  | [], i, j, h, _ => by simp at h
  | e :: L, 0, j, h, hj => by
    show (e.cells ++ evs L)[0 * 4 + j]? = _
    rw [Nat.zero_mul, Nat.zero_add, List.getElem?_append_left (by simp [Ev.cells]; omega)]
    rfl
  | e :: L, i + 1, j, h, hj => by
    show (e.cells ++ evs L)[(i + 1) * 4 + j]? = _
    rw [List.getElem?_append_right (by simp [Ev.cells]; omega)]
    have := evs_at L i j (by simpa using h) hj
    rw [← show (i + 1) * 4 + j - e.cells.length = i * 4 + j from by simp [Ev.cells]; omega] at this
    simpa using this
theorem keep4 {wr W W2 : World} {p1 p2 p3 : Addr} {v1 v2 v3 : Value} (h : Below wr.heap.size wr W ∧ W.cell? p1 = some v1 ∧ W.cell? p2 = some v2 ∧ W.cell? p3 = some v3) (hb : Below W.heap.size W W2) :
    Below wr.heap.size wr W2 ∧ W2.cell? p1 = some v1 ∧ W2.cell? p2 = some v2 ∧ W2.cell? p3 = some v3 := by
  have k : ∀ {p : Addr} {v : Value}, W.cell? p = some v → W2.cell? p = some v := fun {p v} hc => (hb.cell (wbl W p hc)).trans hc
  exact ⟨h.1.trans (hb.mono h.1.size), k h.2.1, k h.2.2.1, k h.2.2.2⟩
set_option maxHeartbeats 16000000 in
theorem loads_any {w : World} {rel : Int} {L : List S46} {TA : Option Addr} {tc : Nat} {l : List S57} {IA : Option Addr} {ic : Nat} (h : In2 w rel L TA tc l IA ic) (htab : Lib.TabIs Tryz.prog w "strings.asciiSpace" .u8 Lib.asciiSpaceTab) (hT : DeB w) (h0 : 0 < w.heap.size) :
    Calls Tryz.prog 5 #[.agg #[.int .i64 rel, .slice TA L.length tc], .slice IA l.length ic] w fun e w' => e = .returned (.bool true) ∧ Below w.heap.size w w' := by
  obtain ⟨bA, KA, hA⟩ := All_tot rel L (fun y hy => (h.tk y hy).1)
  obtain ⟨bL, KL, hL⟩ := long_tot h.small
  have hA := hA KA (Nat.le_refl _)
  have hL := hL KL (Nat.le_refl _)
  have s1 : S2 w (w.alloc (.cells #[.int .i64 rel, .slice TA L.length tc] 24)) rel TA L.length tc w.heap.size := ⟨(Below.refl w.heap.size w).alloc (Nat.le_refl _) _, Blk.new w 24 _⟩
  have HIN := Lib.hid h
  have HTB := Lib.hid (Lib.tabBelow_of_tabIs htab)
  have HDB := Lib.hid (fun (w' : World) (hb : Below w.heap.size w w') => hT.below h0 hb)
  have hnn := h.t.2.1
  obtain ⟨n, hn⟩ : ∃ n, l.length = n := ⟨_, rfl⟩
  obtain ⟨m, hm⟩ : ∃ m, L.length = m := ⟨_, rfl⟩
  have HN := Lib.hid hn
  have HM := Lib.hid hm
  rw [hn, hm]
  rw [hm] at s1 hnn
  have HA := Lib.hid hA
  have HL := Lib.hid hL
  clear hA hL h htab hT hn hm
  go_enter Tryz.func5, Tryz.ntmps5
  go_upto_region 1 with fail
  obtain ⟨w1, hw1⟩ : ∃ w1, w.alloc (.cells #[.int .i64 rel, .slice TA m tc] 24) = w1 := ⟨_, rfl⟩
  obtain ⟨sb, hsb⟩ : ∃ sb, w.heap.size = sb := ⟨_, rfl⟩
  rw [hw1, hsb] at s1
  rw [hw1, hsb]
  have HSB := Lib.hid hsb
  clear hw1 hsb
  have c0 : w1.cell? ⟨sb, 0, none⟩ = some (.int .i64 rel) := s1.s.cell 0
  have c1 : w1.cell? ⟨sb, 1, none⟩ = some (.slice TA m tc) := s1.s.cell 1
  have hsl := s1.s.lt
  have HC13 : Hid (Calls Tryz.prog 13 #[.agg #[.int .i64 rel, .slice TA m tc]] w1 fun e w' => e = .returned (.bool bA) ∧ Below w1.heap.size w1 w') := by
    have := taskmasterref5_All.calls KA rel TA tc L bA w1 (Kd.C_below HIN.out.t s1.bl) HIN.out.tc_ HA.out
    rw [HM.out] at this
    exact this
  have HC7 : Hid (∀ w2, Below w1.heap.size w1 w2 → Calls Tryz.prog 7 #[.slice IA n ic] w2 fun e w' => e = .returned (.bool bL) ∧ Below w2.heap.size w2 w') := fun w2 hb => by
    have := taskmastertop_long.calls KL IA ic l bL w2 (Kd.C_below (Kd.C_below HIN.out.i s1.bl) hb) HIN.out.ic_ HL.out
    rw [HN.out] at this
    exact this.mono fun e w' ⟨he, hd⟩ => ⟨he, hd.below⟩
  have HS1 := Lib.hid s1
  clear s1
  by_cases h10 : 10 < m
  · have hd : decide ((10 : Int) < (m : Int)) = true := by simp; omega
    go_wp2_with fail
    go_ret
    exact ⟨rfl, HS1.out.bl⟩
  have hd : decide ((10 : Int) < (m : Int)) = false := by simp; omega
  cases bA with
  | false =>
    go_wp2_with (go_at_call 13; refine (HC13.out).mono ?_; rintro e w2 ⟨rfl, hb⟩; have HB2 := Lib.hid hb; clear hb)
    go_ret
    exact ⟨rfl, HS1.out.bl.trans (HB2.out.mono HS1.out.bl.size)⟩
  | true =>
    cases bL with
    | true =>
      go_wp2_with (first | (go_at_call 13; refine (HC13.out).mono ?_; rintro e w2 ⟨rfl, hb⟩; have HB2 := Lib.hid hb; clear hb HC13) | (go_at_call 7; refine (HC7.out _ HB2.out).mono ?_; rintro e w3 ⟨rfl, hb⟩; have HB3 := Lib.hid (HB2.out.trans (hb.mono HB2.out.size)); clear hb))
      go_ret
      exact ⟨rfl, HS1.out.bl.trans (HB3.out.mono HS1.out.bl.size)⟩
    | false =>
      have hAB := All_inv HA.out
      obtain ⟨hl250, hl20⟩ := long_no (by have := HIN.out.i.2.1; omega) HL.out
      have hK := tks_of hAB HIN.out.tk
      have HR := Lib.hid (fun (w3 : World) (hb : Below w1.heap.size w1 w3) => run_man (HS1.out.bl.trans (hb.mono HS1.out.bl.size)) h0 HIN.out hAB hl250 hl20 (HTB.out w3 (HS1.out.bl.trans (hb.mono HS1.out.bl.size))) (HDB.out w3 (HS1.out.bl.trans (hb.mono HS1.out.bl.size))))
      have hub : ∀ u ∈ l, InB u := fun u hu => ⟨(HIN.out.ins u hu).1, (HIN.out.ins u hu).2, hl20 u hu⟩
      have HEB := Lib.hid (man_evb hK l 0 (k0 L rel) (k0_inv hK) (by omega) hub)
      have HEC := Lib.hid (man_count hK l 0 (k0 L rel) (k0_inv hK) (by omega) hub)
      have HLAW := Lib.hid (man_law hK l 0 (k0 L rel) 0 0 (k0_mny hK) rfl (by omega) hub)
      have HKK := Lib.hid hK
      have HL250 := Lib.hid hl250
      rw [HN.out, HM.out] at HR
      clear hAB hl250 hl20 hK hub
      go_upto_region 5 with (first | (go_at_call 13; refine (HC13.out).mono ?_; rintro e w2 ⟨rfl, hb⟩; have HB2 := Lib.hid hb; clear hb HC13) | (go_at_call 7; refine (HC7.out _ HB2.out).mono ?_; rintro e w3 ⟨rfl, hb⟩; have HB3 := Lib.hid (HB2.out.trans (hb.mono HB2.out.size)); have HS3 := Lib.hid (HS1.out.below HB3.out); have d0 := HS3.out.s.cell 0; have d1 := HS3.out.s.cell 1; have hsl3 := HS3.out.s.lt; simp at d0 d1; clear hb HC7) | (go_at_call 14; refine (HR.out _ HB3.out).mono ?_; rintro e w4 ⟨v, rfl, hown, hb⟩; have HO := Lib.hid hown; have HB4 := Lib.hid hb; have HS4 := Lib.hid (HS3.out.below hb); clear hown hb HR))
      obtain ⟨VA, vc, rfl⟩ := own_slice HO.out
      have HKN := Lib.hid (fun (w' : World) (hb : Below w.heap.size w w') => known_any w' (HTB.out w' hb) (HDB.out w' hb) (Nat.lt_of_lt_of_le h0 hb.size))
      obtain ⟨LE, hLE⟩ : ∃ LE, runE manF (k0 L rel) l = LE := ⟨_, rfl⟩
      rw [hLE] at HO HEB HEC HLAW
      rw [hLE]
      clear hLE
      obtain ⟨q, hq⟩ : ∃ q, LE.length = q := ⟨_, rfl⟩
      rw [hq] at HO HEC HLAW
      rw [hq]
      have HQ := Lib.hid hq
      have hq63 : q ≤ 250000 := by
        have := HEC.out
        have := HL250.out
        omega
      clear hq
      have HMD := Lib.hid (fun (w' : World) (hb : Below w.heap.size w w') (j : Nat) (hj : j < L.length) => made_any hb HIN.out HKK.out j hj)
      rw [HM.out] at HMD
      go_wp2_with fail
      go_loopw [7, 8, 9] (fun z7 z8 z9 wr => ∃ i : Nat, i ≤ q ∧ z9 = .int .i64 i ∧ z7 = .int .i64 (sumR (LE.take i)) ∧ z8 = .int .i64 (sumA L rel (LE.take i)) ∧ Below w4.heap.size w4 wr) (fun _ _ z9 _ => q - (intOf z9).toNat)
      case atStart => exact ⟨0, Nat.zero_le _, rfl, by simp [sumR], by simp [sumA], Below.refl _ _⟩
      case round =>
        obtain ⟨i, hi, rfl, rfl, rfl, hbw⟩ := hrel
        have HBW := Lib.hid hbw
        have HSR := Lib.hid (HS4.out.below hbw)
        clear hbw
        by_cases hlt : i < q
        · have hlt' : i < LE.length := by rw [HQ.out]; exact hlt
          obtain ⟨e, he⟩ : ∃ e, LE[i] = e := ⟨_, rfl⟩
          have hE : EvB L e := he ▸ HEB.out _ (List.getElem_mem hlt')
          obtain ⟨g, c, cs, hv, _, _, hG, hC⟩ := X.own_cells' HO.out (by omega)
          injection hv with hv1 hv2 hv3
          subst hv1 hv3
          have hC' : ∀ j, j < 4 → wr.cell? ⟨g, i * 4 + j, none⟩ = e.cells[j]? := fun j hj => by
            rw [(hG.below HBW.out hG.lt).cell, hC _ (by rw [evs_length, HQ.out]; omega), evs_at LE i j hlt' hj, he]
          have r1 : wr.cell? ⟨g, i * 4 + 1, none⟩ = some (.int .i64 e.kind) := hC' 1 (by decide)
          have r2 : wr.cell? ⟨g, i * 4 + 2, none⟩ = some (.int .i64 e.task) := hC' 2 (by decide)
          have r3 : wr.cell? ⟨g, i * 4 + 3, none⟩ = some (.int .i64 e.n) := hC' 3 (by decide)
          have hgl := (hG.below HBW.out hG.lt).lt
          obtain ⟨x1, x2⟩ := sum_next (X := L) (rel := rel) hlt'
          rw [he] at x1 x2
          have hb0 := sumR_b (X := L) (LE.take i) (fun d hd => HEB.out d (List.mem_of_mem_take hd))
          have hb1 := sumR_b (X := L) (LE.take (i + 1)) (fun d hd => HEB.out d (List.mem_of_mem_take hd))
          have hb2 := sumA_b HKK.out (LE.take i)
          have hb3 := sumA_b HKK.out (LE.take (i + 1))
          have hlaw := HLAW.out (i + 1) (by omega)
          have l0 : ((LE.take i).length : Int) ≤ 250000 := by rw [List.length_take]; omega
          have l1 : ((LE.take (i + 1)).length : Int) ≤ 250000 := by rw [List.length_take]; omega
          have hnext : ∀ (wz : World), Below w4.heap.size w4 wz → (∃ i' : Nat, i' ≤ q ∧ Value.int .i64 ((i : Int) + 1) = .int .i64 i' ∧ Value.int .i64 (sumR (LE.take (i + 1))) = .int .i64 (sumR (LE.take i')) ∧ Value.int .i64 (sumA L rel (LE.take (i + 1))) = .int .i64 (sumA L rel (LE.take i')) ∧ Below w4.heap.size w4 wz) := fun wz hz => ⟨i + 1, by omega, by go_num, rfl, rfl, hz⟩
          have HNX := Lib.hid hnext
          obtain ⟨sa, hsa⟩ : ∃ sa, sumR (LE.take i) = sa := ⟨_, rfl⟩
          obtain ⟨ma, hma⟩ : ∃ ma, sumA L rel (LE.take i) = ma := ⟨_, rfl⟩
          obtain ⟨sa2, hsa2⟩ : ∃ sa2, sumR (LE.take (i + 1)) = sa2 := ⟨_, rfl⟩
          obtain ⟨ma2, hma2⟩ : ∃ ma2, sumA L rel (LE.take (i + 1)) = ma2 := ⟨_, rfl⟩
          rw [hsa, hsa2] at x1
          rw [hma, hma2] at x2
          rw [hsa] at hb0
          rw [hsa2] at hb1 hlaw
          rw [hma] at hb2
          rw [hma2] at hb3 hlaw
          rw [hsa2, hma2] at HNX
          rw [hsa, hma]
          have hgt : ¬ ma2 < sa2 := by omega
          have hsb : -9223372036854775808 ≤ sa2 ∧ sa2 ≤ 9223372036854775807 := ⟨by omega, by omega⟩
          have hmb : -9223372036854775808 ≤ ma2 ∧ ma2 ≤ 9223372036854775807 := ⟨by omega, by omega⟩
          unfold evR at x1
          unfold evA at x2
          unfold EvB at hE
          obtain ⟨ek, hek⟩ : ∃ ek, e.kind = ek := ⟨_, rfl⟩
          obtain ⟨et, het⟩ : ∃ et, e.task = et := ⟨_, rfl⟩
          obtain ⟨en, hen⟩ : ∃ en, e.n = en := ⟨_, rfl⟩
          rw [hek, hen] at x1
          rw [hek, het] at x2
          rw [hek, het, hen] at hE
          rw [hek] at r1
          rw [het] at r2
          rw [hen] at r3
          clear hek het hen he hlt' hv2 hC hC' hG hnext hsa hma hsa2 hma2 hb0 hb1 hb2 hb3 l0 l1 hlaw
          by_cases h6 : ek = 6
          · subst h6
            have e1 : IntKind.i64.wrap (sa + en) = sa2 := by
              rw [if_pos rfl] at x1
              rw [← x1]
              exact IntWalk.i64_in _ hsb
            have e2 : ma = ma2 := by rw [if_neg (by decide)] at x2; omega
            subst e2; clear x1 x2 hE r2
            go_wp2_with fail
            go_roundw
            case rel => exact HNX.out _ HBW.out
            case measure => simp [intOf]; omega
          · have k6 : (ek == 6) = false := by simpa using h6
            have e1 : sa = sa2 := by rw [if_neg h6] at x1; omega
            subst e1
            by_cases hk1 : ek = 1
            · subst hk1
              obtain ⟨j, hj, hje⟩ := hE.1 rfl
              subst hje
              rw [HM.out] at hj
              have hmd := HMD.out
              obtain ⟨md, hmde⟩ : ∃ md, rel * (cnt (fullN L j) : Int) = md := ⟨_, rfl⟩
              have HMJ := Lib.hid (fun (w' : World) (hb : Below w.heap.size w w') => HMD.out w' hb j hj)
              rw [hmde] at HMJ
              have e2 : IntKind.i64.wrap (ma + md) = ma2 := by
                rw [if_pos rfl, Int.toNat_natCast, hmde] at x2
                rw [← x2]
                exact IntWalk.i64_in _ hmb
              have t0 := HSR.out.s.cell 0
              have t1 := HSR.out.s.cell 1
              simp at t0 t1
              have hsl4 := HSR.out.s.lt
              clear x1 x2 hE r3 hmd hmde
              have HW4 : Hid (∀ W, Below wr.heap.size wr W → Below w.heap.size w W) := fun W hb => HSR.out.bl.trans (hb.mono HSR.out.bl.size)
              have hS0 : Below wr.heap.size wr wr := Below.refl _ _
              go_upto_region 11 with fail
              go_region_held3 (fun W => Below wr.heap.size wr W ∧ W.cell? ⟨g, i * 4 + 2, none⟩ = some (.int .i64 (j : Int)) ∧ W.cell? ⟨sb, 0, none⟩ = some (.int .i64 rel) ∧ W.cell? ⟨sb, 1, none⟩ = some (.slice TA m tc)) (first | (with_reducible assumption) | exact ⟨hS0.drew, r2, t0, t1⟩) ((go_at_call 16; refine (HMJ.out _ (HW4.out _ (And.left (‹Below wr.heap.size wr _ ∧ _›)))).mono ?_; rintro e' w6 ⟨rfl, hb6⟩; have hS6 := keep4 (by with_reducible assumption) hb6; clear hb6))
              all_goals
                have HB6 := Lib.hid (HBW.out.trans ((And.left hS6).mono HBW.out.size))
                go_wp2_with fail
                go_roundw
                case rel => exact HNX.out _ HB6.out
                case measure => simp [intOf]; omega
            · have k1 : (ek == 1) = false := by simpa using hk1
              have e2 : ma = ma2 := by rw [if_neg hk1] at x2; omega
              subst e2; clear x1 x2 hE r2 r3
              go_wp2_with fail
              go_roundw
              case rel => exact HNX.out _ HBW.out
              case measure => simp [intOf]; omega
        · have e : i = q := by omega
          subst e
          have HKW := Lib.hid (HKN.out wr HSR.out.bl)
          go_wp2_with (go_at_call 12; refine (HKW.out).mono ?_; rintro e w6 ⟨rfl, hb6⟩; have HB6 := Lib.hid hb6; clear hb6)
          go_ret
          exact ⟨rfl, HSR.out.bl.trans (HB6.out.mono HSR.out.bl.size)⟩
end Go.Proofs.YtdgfjpbjiccllaaGreatDoor.M
