/- Joined texts: Loads, Sam, Agn, Agn2. -/
import Derived.Test.YtdgfjpbjiccllaaGreatDoorTopAgain21
import Derived.Test.YtdgfjpbjiccllaaGreatDoorTopAgain05
import Derived.Test.YtdgfjpbjiccllaaGreatDoorTopAgain16
import Derived.Test.YtdgfjpbjiccllaaGreatDoorTopAgain25
import Derived.Test.YtdgfjpbjiccllaaGreatDoorTopAgain11
import Derived.Test.YtdgfjpbjiccllaaGreatDoorTopAgain23
import Derived.Laws.StructEq
import Derived.Test.YtdgfjpbjiccllaaGreatDoorTopAgain26
import Derived.Test.YtdgfjpbjiccllaaGreatDoorTopAgain28
namespace Go.Proofs.YtdgfjpbjiccllaaGreatDoor.M
open Go.RowKit
open YtdgfjpbjiccllaaGreatDoorW.PrintWords YtdgfjpbjiccllaaGreatDoorW.PrintLast YtdgfjpbjiccllaaGreatDoorW.PrintMore
open PTopLoads
open F A V
open O (OkTask OkIn)
set_option maxRecDepth 100000
structure In2 (w : World) (rel : Int) (L : List S46) (TA : Option Addr) (tc : Nat) (l : List S57) (IA : Option Addr) (ic : Nat) : Prop where
 t : Kd.C k46 w TA L.length L
 tc_ : L.length ≤ tc
 tk : ∀ x ∈ L, OkTask x
 i : Kd.C k57 w IA l.length l
 ic_ : l.length ≤ ic
 ins : ∀ u ∈ l, OkIn u
theorem In2.small {w : World} {rel : Int} {L : List S46} {TA : Option Addr} {tc : Nat} {l : List S57} {IA : Option Addr} {ic : Nat} (h : In2 w rel L TA tc l IA ic) : SmallI l := by
 have hl := h.i.2.1
 refine ⟨by omega, fun u hu => ?_⟩
 obtain ⟨j, hj, rfl⟩ := List.getElem_of_mem hu
 obtain ⟨_, _, _, _, _, _, _, _, hC⟩ := at_T57 h.i (j : Int) (by omega) (by omega)
 have er : rd_T57 l j = l[j] := by simp [rd_T57, List.getD_eq_getElem?_getD, hj]
 rw [er] at hC
 have := hC.2.1
 omega
theorem src_kd {w : World} {A : Option Addr} {L : List S46} (h : Kd.C k46 w A L.length L) : Src w A L := by
 rcases Nat.eq_zero_or_pos L.length with h0 | h0
 ·exact .inl (List.length_eq_zero_iff.1 h0)
 ·have g : ∀ i (hi : i < L.length), ∃ ad ra rc, A = some ad ∧ w.cell? (ad.add (i * 9)) = some (.string L[i].f0) ∧ w.cell? ⟨(ad.add (i * 9)).block, (ad.add (i * 9)).off + 1, none⟩ = some (.int .i64 L[i].f1) ∧ w.cell? ⟨(ad.add (i * 9)).block, (ad.add (i * 9)).off + 2, none⟩ = some (.int .i64 L[i].f2) ∧ w.cell? ⟨(ad.add (i * 9)).block, (ad.add (i * 9)).off + 3, none⟩ = some (.int .i64 L[i].f3) ∧ w.cell? ⟨(ad.add (i * 9)).block, (ad.add (i * 9)).off + 4, none⟩ = some (.int .i64 L[i].f4) ∧ w.cell? ⟨(ad.add (i * 9)).block, (ad.add (i * 9)).off + 5, none⟩ = some (.int .i64 L[i].f5) ∧ w.cell? ⟨(ad.add (i * 9)).block, (ad.add (i * 9)).off + 6, none⟩ = some (.slice ra L[i].f6.length rc) ∧ w.cell? ⟨(ad.add (i * 9)).block, (ad.add (i * 9)).off + 7, none⟩ = some (.int .u64 L[i].f7) ∧ w.cell? ⟨(ad.add (i * 9)).block, (ad.add (i * 9)).off + 8, none⟩ = some (.int .u64 L[i].f8) ∧ L[i].f6.length ≤ rc ∧ (Kd.int .i64).C w ra L[i].f6.length L[i].f6 := fun i hi => by
   obtain ⟨ad, ra, rc, hA, c0, c1, c2, c3, c4, c5, c6, c7, c8, hl, hC⟩ := at_T46 h (i : Int) (by omega) (by omega)
   have er : rd_T46 L i = L[i] := by simp [rd_T46, List.getD_eq_getElem?_getD, hi]
   rw [er] at c0 c1 c2 c3 c4 c5 c6 c7 c8 hl hC
   exact ⟨ad, ra, rc, hA, c0, c1, c2, c3, c4, c5, c6, c7, c8, hl, hC⟩
  obtain ⟨⟨b, off, spot⟩, _, _, rfl, hcell, _⟩ := g 0 h0
  have hspot : spot = none := by simpa [Addr.add] using World.cell?_spot hcell
  subst hspot
  have hb : b < w.heap.size := wbl w _ hcell
  refine .inr ⟨b, off, rfl, hb, fun i x hx => ?_⟩
  obtain ⟨hi, rfl⟩ := List.getElem?_eq_some_iff.1 hx
  obtain ⟨ad, ra, rc, hA, c0, c1, c2, c3, c4, c5, c6, c7, c8, hl, hC⟩ := g i hi
  injection hA with hA
  subst hA
  rw [add_none] at c0 c1 c2 c3 c4 c5 c6 c7 c8
  exact ⟨ra, rc, c0, c1, c2, c3, c4, c5, c6, c7, c8, nums_of hC, hl⟩
theorem sub_of {x : S46} (h7 : 0 ≤ x.f7 ∧ x.f7 < 18446744073709551616) (h8 : 0 ≤ x.f8 ∧ x.f8 < 18446744073709551616) (h : Go.bits .andNot .u64 x.f8 x.f7 = 0) : x.f8.toNat &&& x.f7.toNat = x.f8.toNat := by
 have e := bits_andNot_nat x.f8.toNat x.f7.toNat
 rw [Int.toNat_of_nonneg h8.1, Int.toNat_of_nonneg h7.1, h] at e
 have e0 : andN x.f8.toNat x.f7.toNat = 0 := by omega
 apply Nat.eq_of_testBit_eq
 intro i
 rw [Nat.testBit_and]
 by_cases hi : i < 64
 ·have hb := andN_bit x.f8.toNat x.f7.toNat i hi
  rw [e0, Nat.zero_testBit] at hb
  cases h1 : x.f8.toNat.testBit i with
  | false => rw [Bool.false_and]
  | true =>
   cases h2 : x.f7.toNat.testBit i with
   | false => rw [h1, h2] at hb; cases hb
   | true => rfl
 ·have : x.f8.toNat.testBit i = false := by
   apply Nat.testBit_lt_two_pow
   have h1 : x.f8.toNat < 2 ^ 64 := by omega
   exact Nat.lt_of_lt_of_le h1 (Nat.pow_le_pow_right (by decide) (by omega))
  rw [this]
  rfl
structure S2 (w wr : World) (rel : Int) (TA : Option Addr) (n tc sb : Nat) : Prop where
 bl : Below w.heap.size w wr
 s : Blk wr sb 24 #[.int .i64 rel, .slice TA n tc]
theorem S2.below {w wr w' : World} {rel : Int} {TA : Option Addr} {n tc sb : Nat} (h : S2 w wr rel TA n tc sb) (hb : Below wr.heap.size wr w') : S2 w w' rel TA n tc sb :=
 ⟨h.bl.trans (hb.mono h.bl.size), h.s.below hb h.s.lt⟩
theorem evs_at : ∀ (L : List Ev) (i j : Nat) (h : i < L.length), j < 4 → (evs L)[i * 4 + j]? = (L[i]).cells[j]?
 | [], i, j, h, _ => by simp at h
 | e :: L, 0, j, h, hj => by
  show (e.cells ++ evs L)[0 * 4 + j]? = _
  rw [Nat.zero_mul, Nat.zero_add, List.getElem?_append_left (by simp [Ev.cells]; omega)]
  rfl
 | e :: L, i + 1, j, h, hj => by
  show (e.cells ++ evs L)[(i + 1) * 4 + j]? = _
  rw [List.getElem?_append_right (by simp [Ev.cells]; omega)]
  have := evs_at L i j (by simpa using h) hj
  rw [← show (i + 1) * 4 + j - e.cells.length = i * 4 + j from by simp [Ev.cells]; omega] at this
  simpa using this
theorem eqi (d : Nat) (t : TypeId) (hu : Tryz.prog.underlying t = some (.int .i64)) (a : Int) (w : World) : (Op.equalIn (d + 1) t (.int .i64 a) (.int .i64 a)).run Tryz.prog w = .ok true w := by
 simp [Op.equalIn, run_underlying hu]
theorem neq50 (a b c d : Int) (w : World) : (binOp .neq 50 (.agg #[.int .i64 a, .int .i64 b, .int .i64 c, .int .i64 d]) (.agg #[.int .i64 a, .int .i64 b, .int .i64 c, .int .i64 d])).run Tryz.prog w = .ok (.bool false) w := by
 have hu := Tryz.underlying50
 have hf : Tryz.prog.fieldsOf 50 = #[{ name := "Tick", type := 2, offset := 0, embedded := false, tag := "", pkgPath := "", byteOffset := 0 },
     { name := "Kind", type := 3, offset := 1, embedded := false, tag := "", pkgPath := "", byteOffset := 8 },
     { name := "Task", type := 3, offset := 2, embedded := false, tag := "", pkgPath := "", byteOffset := 16 },
     { name := "N", type := 2, offset := 3, embedded := false, tag := "", pkgPath := "", byteOffset := 24 }] := by
  unfold Program.fieldsOf
  rw [hu]
 have p0 : (part 2 #[.int .i64 a, .int .i64 b, .int .i64 c, .int .i64 d] 0).run Tryz.prog w = .ok (.int .i64 a) w := by kernel_rfl
 have p1 : (part 3 #[.int .i64 a, .int .i64 b, .int .i64 c, .int .i64 d] 1).run Tryz.prog w = .ok (.int .i64 b) w := by kernel_rfl
 have p2 : (part 3 #[.int .i64 a, .int .i64 b, .int .i64 c, .int .i64 d] 2).run Tryz.prog w = .ok (.int .i64 c) w := by kernel_rfl
 have p3 : (part 2 #[.int .i64 a, .int .i64 b, .int .i64 c, .int .i64 d] 3).run Tryz.prog w = .ok (.int .i64 d) w := by kernel_rfl
 have q0 := fun z => eqi 9998 2 Tryz.underlying2 z w
 have q1 := fun z => eqi 9998 3 Tryz.underlying3 z w
 have h : (Op.equalIn (9999 + 1) 50 (.agg #[.int .i64 a, .int .i64 b, .int .i64 c, .int .i64 d]) (.agg #[.int .i64 a, .int .i64 b, .int .i64 c, .int .i64 d])).run Tryz.prog w = .ok true w := by
  rw [run_equalIn_struct w 9999 50 _ _ (by rw [hf]; exact hu) (by kernel_rfl), hf]
  simp [Op.eqFields, p0, p1, p2, p3, q0, q1]
 have h2 : (Op.equal 50 (.agg #[.int .i64 a, .int .i64 b, .int .i64 c, .int .i64 d]) (.agg #[.int .i64 a, .int .i64 b, .int .i64 c, .int .i64 d])).run Tryz.prog w = .ok true w := h
 simp [binOp, h2]
set_option maxHeartbeats 4000000 in
theorem same_any {E : List Ev} {BA BB : Nat} {va vb : Value} (w : World) (hA : w.ownsRow BA 50 4 va E.length (evs E)) (hB : w.ownsRow BB 50 4 vb E.length (evs E)) (hl : E.length ≤ 1000000) :
  Calls Tryz.prog 11 #[va, vb] w fun e w' => e = .returned (.bool true) ∧ Below w.heap.size w w' := by
 obtain ⟨VA, ca, rfl⟩ := own_slice hA
 obtain ⟨VB, cb, rfl⟩ := own_slice hB
 have HA := Lib.hid hA
 have HB := Lib.hid hB
 obtain ⟨n, hn⟩ : ∃ n, E.length = n := ⟨_, rfl⟩
 have HN := Lib.hid hn
 have h50 := neq50
 rw [hn] at HA HB hl ⊢
 clear hA hB hn
 go_enter Tryz.func11, Tryz.ntmps11
 go_wp2_with fail
 go_loopw [5] (fun z wr => ∃ k : Nat, k ≤ n ∧ z = .int .i64 k ∧ Below w.heap.size w wr) (fun z _ => n - (intOf z).toNat)
 case atStart => exact ⟨0, Nat.zero_le _, rfl, Below.refl _ _⟩
 case round =>
  obtain ⟨k, hk, rfl, hb⟩ := hrel
  have HW := Lib.hid hb
  by_cases hlt : k < n
  ·obtain ⟨ga, _, csa, hva, _, _, hGA, hCA⟩ := X.own_cells' HA.out (by omega)
   obtain ⟨gb, _, csb, hvb, _, _, hGB, hCB⟩ := X.own_cells' HB.out (by omega)
   injection hva with hva1 hva2 hva3
   injection hvb with hvb1 hvb2 hvb3
   subst hva1 hva3 hvb1 hvb3
   have hke : k < E.length := by rw [HN.out]; exact hlt
   obtain ⟨e, he⟩ : ∃ e, E[k] = e := ⟨_, rfl⟩
   have ra : ∀ j, j < 4 → wr.cell? ⟨ga, k * 4 + j, none⟩ = e.cells[j]? := fun j hj => by
    rw [(hGA.below hb hGA.lt).cell, hCA _ (by rw [evs_length, HN.out]; omega), evs_at E k j hke hj, he]
   have rb : ∀ j, j < 4 → wr.cell? ⟨gb, k * 4 + j, none⟩ = e.cells[j]? := fun j hj => by
    rw [(hGB.below hb hGB.lt).cell, hCB _ (by rw [evs_length, HN.out]; omega), evs_at E k j hke hj, he]
   have a0 : wr.cell? ⟨ga, k * 4, none⟩ = some (.int .i64 e.tick) := ra 0 (by decide)
   have a1 : wr.cell? ⟨ga, k * 4 + 1, none⟩ = some (.int .i64 e.kind) := ra 1 (by decide)
   have a2 : wr.cell? ⟨ga, k * 4 + 2, none⟩ = some (.int .i64 e.task) := ra 2 (by decide)
   have a3 : wr.cell? ⟨ga, k * 4 + 3, none⟩ = some (.int .i64 e.n) := ra 3 (by decide)
   have b0 : wr.cell? ⟨gb, k * 4, none⟩ = some (.int .i64 e.tick) := rb 0 (by decide)
   have b1 : wr.cell? ⟨gb, k * 4 + 1, none⟩ = some (.int .i64 e.kind) := rb 1 (by decide)
   have b2 : wr.cell? ⟨gb, k * 4 + 2, none⟩ = some (.int .i64 e.task) := rb 2 (by decide)
   have b3 : wr.cell? ⟨gb, k * 4 + 3, none⟩ = some (.int .i64 e.n) := rb 3 (by decide)
   have hga := (hGA.below hb hGA.lt).lt
   have hgb := (hGB.below hb hGB.lt).lt
   have j0 : (0 : Int) ≤ (k : Int) := by omega
   have j1 : (k : Int) < (n : Int) := by omega
   clear hb ra rb he hke hGA hGB hCA hCB
   go_upto_region 6 with fail
   go_quiet (fail)
   go_wp2_with fail
   go_roundw
   case rel => exact ⟨k + 1, by omega, by go_num, below_drewN HW.out _⟩
   case measure => simp [intOf]; omega
  ·obtain rfl : k = n := by omega
   go_wp2_with fail
   go_ret
   exact ⟨rfl, HW.out⟩
def okT (x : S46) : Bool := !decide (x.f1 < 3) && !decide (300 < x.f2)
def mayB (L : List S46) (bA : Bool) : Bool := decide (L.length ≤ 10) && bA && L.all okT
theorem all_take (L : List S46) (k : Nat) (h : k < L.length) : (L.take (k + 1)).all okT = ((L.take k).all okT && okT L[k]) := by
 rw [List.take_succ_eq_append_getElem h, List.all_append]
 simp
theorem all_no (L : List S46) (k : Nat) (h : k < L.length) (hk : okT L[k] = false) : L.all okT = false := by
 rw [List.all_eq_false]
 exact ⟨L[k], List.getElem_mem h, by simp [hk]⟩
set_option maxHeartbeats 4000000 in
theorem may_run {rel : Int} {L : List S46} {TA : Option Addr} {tc : Nat} {bA : Bool} (w : World) (hT : Kd.C k46 w TA L.length L) (hC : ∀ w', Below w.heap.size w w' → Calls Tryz.prog 13 #[.agg #[.int .i64 rel, .slice TA L.length tc]] w' fun e w2 => e = .returned (.bool bA) ∧ Below w'.heap.size w' w2) :
  Calls Tryz.prog 6 #[.agg #[.int .i64 rel, .slice TA L.length tc]] w fun e w' => e = .returned (.bool (mayB L bA)) ∧ Below w.heap.size w w' := by
 have HB1 := Lib.hid ((Below.refl w.heap.size w).alloc (Nat.le_refl _) (.cells #[.int .i64 rel, .slice TA L.length tc] 24))
 have HD := Lib.hid (Blk.new w 24 #[.int .i64 rel, .slice TA L.length tc])
 have HC13 := Lib.hid hC
 have HS := Lib.hid (fun (w' : World) (hb : Below w.heap.size w w') => src_kd (Kd.C_below hT hb))
 have hm63 := hT.2.1
 obtain ⟨r, hr⟩ : ∃ r, mayB L bA = r := ⟨_, rfl⟩
 rw [hr]
 have HR := Lib.hid hr
 unfold mayB at HR
 obtain ⟨n, hn⟩ : ∃ n, L.length = n := ⟨_, rfl⟩
 have HN := Lib.hid hn
 rw [hn] at HB1 HD HC13 hm63 HR ⊢
 obtain ⟨sb, hsb⟩ : ∃ sb, w.heap.size = sb := ⟨_, rfl⟩
 have HSB := Lib.hid hsb
 clear hT hC hn hsb hr
 go_enter Tryz.func6, Tryz.ntmps6
 go_upto_region 1 with fail
 obtain ⟨w1, hw1⟩ : ∃ w1, w.alloc (.cells #[.int .i64 rel, .slice TA n tc] 24) = w1 := ⟨_, rfl⟩
 rw [hw1] at HB1 HD ⊢
 rw [HSB.out] at HD ⊢
 clear hw1
 have c0 : w1.cell? ⟨sb, 0, none⟩ = some (.int .i64 rel) := HD.out.cell 0
 have c1 : w1.cell? ⟨sb, 1, none⟩ = some (.slice TA n tc) := HD.out.cell 1
 have hsl := HD.out.lt
 by_cases h10 : 10 < n
 ·have hd : decide ((10 : Int) < (n : Int)) = true := by simp; omega
  have hz : Hid (r = false) := by
   unfold Hid
   rw [← HR.out]
   simp
   omega
  clear HR
  go_wp2_with fail
  go_ret
  exact ⟨by rw [hz.out]; rfl, HB1.out⟩
 have hd : decide ((10 : Int) < (n : Int)) = false := by simp; omega
 have hn10 : decide (n ≤ 10) = true := by simp; omega
 cases bA with
 | false =>
  have hz : Hid (r = false) := by
   unfold Hid
   rw [← HR.out]
   simp
  clear HR
  go_wp2_with (go_at_call 13; refine (HC13.out _ HB1.out).mono ?_; rintro e w2 ⟨rfl, hb⟩; have HB2 := Lib.hid hb; clear hb)
  go_ret
  exact ⟨by rw [hz.out]; rfl, HB1.out.trans (HB2.out.mono HB1.out.size)⟩
 | true =>
  have HR2 : Hid (L.all okT = r) := by
   unfold Hid
   rw [← HR.out, hn10]
   rfl
  clear HR hn10
  go_wp2_with (go_at_call 13; refine (HC13.out _ HB1.out).mono ?_; rintro e w2 ⟨rfl, hb⟩; have HB2 := Lib.hid hb; clear hb)
  have HB0 := Lib.hid (HB1.out.trans (HB2.out.mono HB1.out.size))
  have HD2 := Lib.hid (HD.out.below HB2.out hsl)
  clear c0 c1 hsl HB2 HD
  go_loopw [3] (fun z wr => ∃ k : Nat, k ≤ n ∧ z = .int .i64 k ∧ (L.take k).all okT = true ∧ w2 = wr) (fun z _ => n - (intOf z).toNat)
  case atStart => exact ⟨0, Nat.zero_le _, rfl, rfl, rfl⟩
  case round =>
   obtain ⟨k, hk, rfl, hal, rfl⟩ := hrel
   have HAL := Lib.hid hal
   have hsr := HD2.out.lt
   have c1 : w2.cell? ⟨sb, 1, none⟩ = some (.slice TA n tc) := HD2.out.cell 1
   clear hal
   by_cases hlt : k < n
   ·have hkl : k < L.length := by rw [HN.out]; exact hlt
    rcases HS.out w2 HB0.out with h0 | ⟨b, off, rfl, hb, hcell⟩
    ·exfalso
     rw [h0] at hkl
     simp at hkl
    obtain ⟨ra, rc, e0, e1, e2, -⟩ := hcell k L[k] (List.getElem?_eq_getElem hkl)
    have hat := all_take L k hkl
    have hano := all_no L k hkl
    rw [HAL.out, HR2.out] at *
    obtain ⟨x, hx⟩ : ∃ x, L[k] = x := ⟨_, rfl⟩
    rw [hx] at e0 e1 e2 hat hano
    have HAT := Lib.hid hat
    have HANO := Lib.hid hano
    have j0 : (0 : Int) ≤ (k : Int) := by omega
    have j1 : (k : Int) < (n : Int) := by omega
    clear hx hcell hkl hat hano
    cases d1 : decide (x.f1 < 3) with
    | true =>
     have hz : Hid (r = false) := HANO.out (by unfold okT; rw [d1]; rfl)
     go_wp2_with fail
     go_ret
     exact ⟨by rw [hz.out]; rfl, HB0.out⟩
    | false =>
     cases d2 : decide (300 < x.f2) with
     | true =>
      have hz : Hid (r = false) := HANO.out (by unfold okT; rw [d1, d2]; rfl)
      go_wp2_with fail
      go_ret
      exact ⟨by rw [hz.out]; rfl, HB0.out⟩
     | false =>
      have hz : Hid ((L.take (k + 1)).all okT = true) := by
       unfold Hid
       rw [HAT.out]
       unfold okT
       rw [d1, d2]
       rfl
      go_wp2_with fail
      go_roundw
      case rel => exact ⟨k + 1, by omega, by go_num, hz.out, by trivial⟩
      case measure => simp [intOf]; omega
   ·obtain rfl : k = n := by omega
    have hz : Hid (r = true) := by
     unfold Hid
     rw [← HR2.out, ← HAL.out, ← HN.out, List.take_length]
    go_wp2_with fail
    go_ret
    exact ⟨by rw [hz.out]; rfl, HB0.out⟩
theorem reg_len {w : World} {A : Option Addr} {L : List S46} (h : Kd.C k46 w A L.length L) : ∀ x ∈ L, (x.f6.length : Int) ≤ 9223372036854775807 := by
 intro x hx
 obtain ⟨i, hi, rfl⟩ := List.getElem_of_mem hx
 obtain ⟨_, _, _, _, _, _, _, _, _, _, _, _, _, _, hC⟩ := at_T46 h (i : Int) (by omega) (by omega)
 have er : rd_T46 L i = L[i] := by simp [rd_T46, List.getD_eq_getElem?_getD, hi]
 rw [er] at hC
 have := hC.2.1
 omega
theorem may_any {rel : Int} {L : List S46} {TA : Option Addr} {tc : Nat} (w : World) (hT : Kd.C k46 w TA L.length L) (hk : ∀ x ∈ L, OkTask x) :
  ∃ b, (b = true → AllG rel L) ∧ ∀ w', Below w.heap.size w w' → Calls Tryz.prog 6 #[.agg #[.int .i64 rel, .slice TA L.length tc]] w' fun e w2 => e = .returned (.bool b) ∧ Below w'.heap.size w' w2 := by
 obtain ⟨bA, hA, hC⟩ := all5 (rel := rel) (L := L) (fun x hx => (hk x hx).1) (reg_len hT) (by have := hT.2.1; omega)
 refine ⟨mayB L bA, fun h => hA ?_, fun w' hb => may_run w' (Kd.C_below hT hb) fun w2 hb2 => hC w2 TA tc fun w3 hb3 => src_kd (Kd.C_below (Kd.C_below (Kd.C_below hT hb) hb2) hb3)⟩
 unfold mayB at h
 cases bA with
 | true => rfl
 | false => simp at h
end Go.Proofs.YtdgfjpbjiccllaaGreatDoor.M
namespace Go.Proofs.YtdgfjpbjiccllaaGreatDoor.M
open Go.RowKit
open YtdgfjpbjiccllaaGreatDoorW.PrintWords YtdgfjpbjiccllaaGreatDoorW.PrintLast YtdgfjpbjiccllaaGreatDoorW.PrintMore
open PTopLoads
open F A V
open O (OkTask OkIn)
open D (NameP TaskG textB)
set_option maxRecDepth 100000
theorem nameOk_of {s : ByteArray} (h : A.NameP s) : X.NameOk s := by
 have hl := h.l0
 have hlt := hl
 unfold X.letter at hlt
 simp only [Bool.and_eq_true, decide_eq_true_eq] at hlt
 have hs := h.n12
 have h0 := h.n0
 have hnN : X.nameN s = s.size := by
  unfold X.nameN
  rw [X.span_all X.more (X.bytes s) h.m, X.bytes_length]
 have hx : s.extract 0 s.size = s := by simp
 have hr : X.restOf s 0 = s := hx
 have hg : X.gapL (X.bytes s) = 0 := by
  unfold X.gapL
  rw [if_neg (by omega), if_neg (by omega)]
 have htk : X.tokenL s = ⟨1, s, 0, s.size, true⟩ := by
  unfold X.tokenL
  rw [if_pos hl, hnN, hx]
  unfold X.kindOf
  rw [h.nw]
  simp
  omega
 refine ⟨by omega, ?_⟩
 unfold X.tokens
 rw [if_neg (by omega)]
 unfold X.toks
 rw [if_neg (by omega), hr, hg, if_neg (by omega), htk]
 simp only [if_true]
 obtain ⟨m, hm'⟩ : ∃ m, s.size = m + 1 := ⟨s.size - 1, by omega⟩
 rw [Nat.zero_add, hm']
 unfold X.toks
 rw [if_pos (by omega)]
 simp
theorem sum_pos {x : S46} {p : Int} (h : IsG x p) : 1 ≤ x.f6.sum := by
 have := X.sum_take x.f6 h.rr x.f6.length (Nat.le_refl _)
 rw [List.take_length] at this
 have := h.r1
 omega
theorem taskG_of {x : S46} {p : Nat} (h : IsG x p) (hp : p < 8) (hk : OkTask x) : TaskG x := by
 have hs := sum_pos h
 have hw := h.wd
 have hd := h.dt
 have ht := h.t1
 refine ⟨⟨h.nm.n0, h.nm.l0, h.nm.m, h.nm.n12, h.nm.nw⟩, ⟨by omega, ht⟩, ⟨by omega, by omega⟩, ?_, ?_, ?_, fun r hr => ?_, h.r1, hk.2.1, hk.2.2⟩
 ·rcases h.md with ⟨_, h2, _⟩ | ⟨_, h2, h3, _⟩ | ⟨_, h2, _⟩ <;> omega
 ·rcases h.md with ⟨_, _, h3⟩ | ⟨_, _, _, h3⟩ | ⟨_, _, h3, h4⟩ <;> omega
 ·rcases h.md with ⟨h1, h2, h3⟩ | ⟨h1, _, _, h3⟩ | ⟨h1, h2, _, _⟩
  ·exact .inl ⟨h1, h2, h3⟩
  ·exact .inr (.inl ⟨h1, h3⟩)
  ·exact .inr (.inr ⟨h1, h2⟩)
 ·obtain ⟨i, hi, rfl⟩ := List.getElem_of_mem hr
  exact h.rr i hi
theorem tasksG {rel : Int} {L : List S46} (h : AllG rel L) (hk : ∀ x ∈ L, OkTask x) : ∀ x ∈ L, TaskG x ∧ x.f6.length ≤ 8 := by
 intro x hx
 obtain ⟨i, hi, rfl⟩ := List.getElem_of_mem hx
 have hB := (h.is i hi).1
 exact ⟨taskG_of hB (by have := h.n8; omega) (hk _ (List.getElem_mem hi)), hB.r8⟩
theorem setG {rel : Int} {L : List S46} (h : AllG rel L) (hk : ∀ x ∈ L, OkTask x) : SetG rel L := by
 refine ⟨h.a0, h.a1, h.n1, h.n8, fun x hx => (hk x hx).2, fun i y hy => ?_, fun i j y z hij hy hz => ?_⟩
 ·obtain ⟨hi, rfl⟩ := List.getElem?_eq_some_iff.1 hy
  have hB := (h.is i hi).1
  exact ⟨nameOk_of hB.nm, hB.r1, hB.r8, hB.rr, hB.wd, hB.dt, hB.t1, hB.md, hB.uc⟩
 ·obtain ⟨hi, rfl⟩ := List.getElem?_eq_some_iff.1 hy
  obtain ⟨hj, rfl⟩ := List.getElem?_eq_some_iff.1 hz
  exact (h.is j hj).2 i hij
theorem tks_g {rel : Int} {L : List S46} (h : AllG rel L) (hk : ∀ x ∈ L, OkTask x) : Tks L rel := by
 refine ⟨fun x hx => ?_, fun y hy hm => ?_, fun y hy => ?_, h.n1, h.n8, h.a0, h.a1⟩
 ·obtain ⟨j, hj, rfl⟩ := List.getElem_of_mem hx
  have hB := (h.is j hj).1
  have ho := hk _ hx
  exact ⟨hB.r1, hB.r8, hB.rr, hB.wd, by have := hB.dt; have := hB.t1; omega, ho.2.1, ho.2.2⟩
 ·have e : L.getD y z46 = L[y] := by simp [List.getD_eq_getElem?_getD, hy]
  rw [e] at hm ⊢
  rcases (h.is y hy).1.md with h1 | h1 | h1
  ·have := h1.1; omega
  ·have := h1.1; omega
  ·exact h1.2.2.2
 ·have e : L.getD y z46 = L[y] := by simp [List.getD_eq_getElem?_getD, hy]
  unfold ucb ecb
  rw [e]
  have ho := hk _ (List.getElem_mem hy)
  exact sub_of ho.2.1 ho.2.2 (h.is y hy).1.uc
theorem inv_run {X : List S46} {rel : Int} (hT : Tks X rel) : ∀ (l : List S57) (n : Nat) (K : Kst), InvM X rel n K → n + l.length ≤ 1000 → (∀ u ∈ l, InB u) → InvM X rel (n + l.length) (runK manF K l)
 | [], n, K, h, _, _ => h
 | u :: l, n, K, h, hn, hu => by
  rw [List.length_cons] at hn
  have h1 := (man_next hT h (by omega) u (hu u (List.mem_cons_self ..))).1
  have h2 := inv_run hT l (n + 1) _ h1 (by omega) (fun v hv => hu v (List.mem_cons_of_mem _ hv))
  have e : n + (u :: l).length = n + 1 + l.length := by rw [List.length_cons]; omega
  rw [e]
  exact h2
theorem steps_more {W : World} {B : Nat} {l m : List S57} {f : Kst → S57 → Kst} {Inv : Nat → Kst → Prop} (h : Steps W B (l ++ m) f Inv) : Steps W B m f (fun i => Inv (l.length + i)) := by
 have e : ∀ i x, m[i]? = some x → (l ++ m)[l.length + i]? = some x := fun i x hx => by
  rw [List.getElem?_append_right (by omega)]
  rw [Nat.add_sub_cancel_left]
  exact hx
 exact ⟨fun i K x hx hI => h.next (l.length + i) K x (e i x hx) hI, fun i K x hx hI => h.call (l.length + i) K x (e i x hx) hI⟩
theorem insP_mono {P Q : World → Prop} {A : Option Addr} {l : List S57} (h : InsP P A l) (hq : ∀ w, Q w → P w) : InsP Q A l := by
 rcases h with h | ⟨b, off, rfl, hc⟩
 ·exact .inl h
 ·refine .inr ⟨b, off, rfl, fun i x hx => ?_⟩
  obtain ⟨DA, dc, g⟩ := hc i x hx
  exact ⟨DA, dc, fun w' hw => g w' (hq w' hw)⟩
structure LS (w wr : World) (ep : Nat) (rel : Int) (TA : Option Addr) (tc B0 : Nat) (L : List S46) (R : List Value) (kv : Value) : Prop where
 bl : Below w.heap.size w wr
 ex : Blk wr ep 62 #[.int .i64 rel, .slice TA L.length tc, .bool true, kv]
 tk : TasksAt wr B0 (.slice TA L.length tc) L R
 he : w.heap.size ≤ ep
section
variable {w wr w' : World} {ep : Nat} {rel : Int} {TA : Option Addr} {tc B0 : Nat} {L : List S46} {R : List Value} {kv : Value}
theorem LS.below (h : LS w wr ep rel TA tc B0 L R kv) (hb : Below wr.heap.size wr w') : LS w w' ep rel TA tc B0 L R kv :=
 ⟨h.bl.trans (hb.mono h.bl.size), h.ex.below hb h.ex.lt, X.tasks_below h.tk hb, h.he⟩
theorem LS.grown (h : LS w wr ep rel TA tc B0 L R kv) (hg : wr.grownBy w' (some ep)) : Below w.heap.size w w' := h.bl.grown hg h.bl.size (fun k hk => by injection hk with hk; have := h.he; omega)
theorem tasks_ep (h : TasksAt wr B0 (.slice TA L.length tc) L R) {cs : Array Value} (hE : Blk wr ep 62 cs) (hg : wr.grownBy w' (some ep)) : TasksAt w' B0 (.slice TA L.length tc) L R :=
 h.fr (E := 0) (ts := [62]) (C := 0) (Fr.of_blk hg hE (Nat.zero_le _) (by simp)) (by decide) (by decide)
theorem law_load (hG : SetG rel L) (hT : X.SetTextP (textB rel L) rel L) (htab : Lib.TabIs Tryz.prog wr "strings.asciiSpace" .u8 Lib.asciiSpaceTab) (hb : Below w.heap.size w wr) (he : w.heap.size ≤ ep) (hE : Blk wr ep 62 #[.int .i64 0, .slice none 0 0, .bool false, .pointer none]) :
  Calls Tryz.prog 10 #[.pointer (some ⟨ep, 0, none⟩), .agg #[.int .i64 1, .string (textB rel L), .bool false, .slice none 0 0]] wr fun e w' => ∃ (TA : Option Addr) (tc B0 : Nat) (R : List Value), e = .returned (.agg (X.repC 0 (textB rel L).size 0 0 (.slice none 0 0) (.slice none 0 0))) ∧ LS w w' ep rel TA tc B0 L R (.pointer none) := by
 refine (do_load2 hG hT htab hE).mono ?_
 rintro e w' ⟨TA, tc, R, he', hTs, hE2, hg⟩
 exact ⟨TA, tc, _, R, he', hb.grown hg hb.size (fun k hk => by injection hk with hk; omega), hE2, hTs, he⟩
theorem law_start (hG : SetG rel L) (h : LS w wr ep rel TA tc B0 L R (.pointer none)) (htab : Lib.TabIs Tryz.prog wr "strings.asciiSpace" .u8 Lib.asciiSpaceTab) :
  Calls Tryz.prog 10 #[.pointer (some ⟨ep, 0, none⟩), .agg #[.int .i64 5, .string ⟨#[]⟩, .bool true, .slice none 0 0]] wr fun e w' => ∃ (how tsk err : Int) (RA : Option Addr) (rn rc B kp : Nat) (A' : Ad) (jv : List Value) (ev : Value), e = .returned (.agg (X.repC err 0 how tsk (.slice RA rn rc) (.slice none 0 0))) ∧
   LS w w' ep rel TA tc B0 L R (.pointer (some ⟨kp, 0, none⟩)) ∧ KAt B w' B kp A' jv ev (pdOf (k0 L rel)) (k0 L rel) ∧ ep < B ∧ wr.heap.size ≤ B ∧ B ≤ w'.heap.size ∧ wr.grownBy w' (some ep) := by
 refine (do_start2 hG h.ex h.tk htab).mono ?_
 rintro e w' ⟨how, tsk, err, RA, rn, rc, B, kp, A', jv, ev, he', hE2, hK, h1, h2, h3, hg⟩
 exact ⟨how, tsk, err, RA, rn, rc, B, kp, A', jv, ev, he', ⟨h.grown hg, hE2, tasks_ep h.tk h.ex hg, h.he⟩, hK, h1, h2, h3, hg⟩
theorem law_stop {kp : Nat} (h : LS w wr ep rel TA tc B0 L R (.pointer (some ⟨kp, 0, none⟩))) :
  Calls Tryz.prog 10 #[.pointer (some ⟨ep, 0, none⟩), .agg #[.int .i64 7, .string ⟨#[]⟩, .bool false, .slice none 0 0]] wr fun e w' => e = .returned (.agg (rep0 (.slice none 0 0))) ∧ LS w w' ep rel TA tc B0 L R (.pointer none) ∧ wr.grownBy w' (some ep) := by
 refine (do_stop h.ex).mono ?_
 rintro e w' ⟨he', hE2, hg⟩
 exact ⟨he', ⟨h.grown hg, hE2, tasks_ep h.tk h.ex hg, h.he⟩, hg⟩
theorem law_ticks {SA : Option Addr} {sc : Nat} {l m : List S57} {MA : Option Addr} {mc : Nat} {kp B E0 : Nat} {A' : Ad} {jv : List Value} {ev : Value} {K : Kst} (hT : Tks L rel) (h : LS w wr ep rel TA tc B0 L R (.pointer (some ⟨kp, 0, none⟩))) (hM : In2 w rel L SA sc m MA mc) (h0 : 0 < w.heap.size) (hD : DeB w)
  (hl : l.length ≤ 250) (hm : m.length ≤ 250) (hlb : ∀ u ∈ l, InB u) (hmb : ∀ u ∈ m, InB u) (hep : ep < B) (hBw : B ≤ wr.heap.size) (hK : KAt E0 wr B kp A' jv ev (pdOf K) K) (hI : InvM L rel l.length K) :
  Calls Tryz.prog 10 #[.pointer (some ⟨ep, 0, none⟩), .agg #[.int .i64 6, .string ⟨#[]⟩, .bool false, .slice MA m.length mc]] wr fun e w' => ∃ v, e = .returned (.agg (rep0 v)) ∧ w'.ownsRow wr.heap.size 50 4 v (runE manF K m).length (evs (runE manF K m)) ∧ Fr wr.heap.size TS B wr w' ∧
   LS w w' ep rel TA tc B0 L R (.pointer (some ⟨kp, 0, none⟩)) ∧ (∃ E1 jv1 ev1, KAt E1 w' B kp A' jv1 ev1 (pdOf (runK manF K m)) (runK manF K m)) := by
 have hwB : w.heap.size ≤ B := by have := h.he; omega
 refine (do_ticks2 (ic := mc) (stepF := manF) (Inv := fun i => InvM L rel (l.length + i)) (by omega) h.ex hep hBw hK (fun w1 hb1 => ?_) hI (fun w1 hb1 => ?_)).mono ?_
 ·refine insP_mono (ins_of hM.i) fun w2 hf => ?_
  have hb2 : Below B w1 w2 := hf.below (Nat.le_refl _) (Nat.le_trans hBw hb1.size)
  exact (h.bl.trans (hb1.mono h.bl.size)).trans (hb2.mono hwB)
 ·refine steps_more (man_steps hT (l := l ++ m) (by rw [List.length_append]; omega) (fun u hu => ?_) (Nat.le_trans hBw hb1.size) (by omega) (hD.below h0 (h.bl.trans (hb1.mono h.bl.size))))
  rcases List.mem_append.1 hu with hu | hu
  ·exact hlb u hu
  ·exact hmb u hu
 ·rintro e w' ⟨v, he', hown, hf, hE2, hkk⟩
  have hb2 : Below B wr w' := hf.below (Nat.le_refl _) hBw
  exact ⟨v, he', hown, hf, ⟨h.bl.trans (hb2.mono hwB), hE2, h.tk.fr hf (by decide) (by decide), h.he⟩, hkk⟩
end
theorem law_ticks2 {w wr : World} {ep : Nat} {rel : Int} {TA : Option Addr} {tc B0 : Nat} {L : List S46} {R : List Value} {SA : Option Addr} {sc : Nat} {l m : List S57} {MA : Option Addr} {mc : Nat} {kp B E0 : Nat} {A' : Ad} {jv : List Value} {ev : Value} {K K1 : Kst} {E : List Ev} {q nm : Nat} (hE : runE manF K m = E) (hq : E.length = q) (hK1 : runK manF K m = K1) (hn : m.length = nm)
  (hT : Tks L rel) (h : LS w wr ep rel TA tc B0 L R (.pointer (some ⟨kp, 0, none⟩))) (hM : In2 w rel L SA sc m MA mc) (h0 : 0 < w.heap.size) (hD : DeB w)
  (hl : l.length ≤ 250) (hm : m.length ≤ 250) (hlb : ∀ u ∈ l, InB u) (hmb : ∀ u ∈ m, InB u) (hep : ep < B) (hBw : B ≤ wr.heap.size) (hK : KAt E0 wr B kp A' jv ev (pdOf K) K) (hI : InvM L rel l.length K) :
  Calls Tryz.prog 10 #[.pointer (some ⟨ep, 0, none⟩), .agg #[.int .i64 6, .string ⟨#[]⟩, .bool false, .slice MA nm mc]] wr fun e w' => ∃ (VA : Option Addr) (vc : Nat), e = .returned (.agg #[.int .i64 0, .int .i64 0, .int .i64 0, .int .i64 0, .slice none 0 0, .string ⟨#[]⟩, .slice VA q vc]) ∧ w'.ownsRow wr.heap.size 50 4 (.slice VA q vc) q (evs E) ∧ Fr wr.heap.size TS B wr w' ∧
   LS w w' ep rel TA tc B0 L R (.pointer (some ⟨kp, 0, none⟩)) ∧ (∃ E1 jv1 ev1, KAt E1 w' B kp A' jv1 ev1 (pdOf K1) K1) := by
 subst hE hq hK1 hn
 refine (law_ticks hT h hM h0 hD hl hm hlb hmb hep hBw hK hI).mono ?_
 rintro e w' ⟨v, he, hown, hf, hLS, hkk⟩
 obtain ⟨VA, vc, rfl⟩ := own_slice hown
 exact ⟨VA, vc, he, hown, hf, hLS, hkk⟩
set_option maxHeartbeats 16000000 in
theorem again_any {w : World} {rel : Int} {L : List S46} {TA : Option Addr} {tc : Nat} {l m : List S57} {IA MA : Option Addr} {ic mc : Nat} (h1 : In2 w rel L TA tc l IA ic) (h2 : In2 w rel L TA tc m MA mc) (htab : Lib.TabIs Tryz.prog w "strings.asciiSpace" .u8 Lib.asciiSpaceTab) (hT : DeB w) (h0 : 0 < w.heap.size) :
  Calls Tryz.prog 3 #[.agg #[.int .i64 rel, .slice TA L.length tc], .slice IA l.length ic, .slice MA m.length mc] w fun e w' => e = .returned (.bool true) ∧ Below w.heap.size w w' := by
 obtain ⟨bM, hMB, hMC⟩ := may_any (rel := rel) (tc := tc) w h1.t h1.tk
 obtain ⟨bL, KL, hL⟩ := long_tot h1.small
 obtain ⟨bL2, KL2, hL2⟩ := long_tot h2.small
 have hL := hL KL (Nat.le_refl _)
 have hL2 := hL2 KL2 (Nat.le_refl _)
 have HMB := Lib.hid hMB
 have HC6 := Lib.hid hMC
 have HC7 := Lib.hid (fun (w2 : World) (hb : Below w.heap.size w w2) => (taskmastertop_long.calls KL IA ic l bL w2 (Kd.C_below h1.i hb) h1.ic_ hL).mono fun e w' ⟨he, hd⟩ => (⟨he, hd.below⟩ : e = Ending.returned (.bool bL) ∧ Below w2.heap.size w2 w'))
 have HC72 := Lib.hid (fun (w2 : World) (hb : Below w.heap.size w w2) => (taskmastertop_long.calls KL2 MA mc m bL2 w2 (Kd.C_below h2.i hb) h2.ic_ hL2).mono fun e w' ⟨he, hd⟩ => (⟨he, hd.below⟩ : e = Ending.returned (.bool bL2) ∧ Below w2.heap.size w2 w'))
 have HTXT := Lib.hid (fun (hA : AllG rel L) (w2 : World) (hb : Below w.heap.size w w2) => D.text_any (rel := rel) (L := L) (A := TA) ⟨hA.a0, hA.a1⟩ hA.n8 (tasksG hA h1.tk) tc w2 (fun w' hb' => src_kd (Kd.C_below (Kd.C_below h1.t hb) hb')))
 have hl63 := h1.i.2.1
 have hm63 := h2.i.2.1
 have HIN := Lib.hid h1
 have HIN2 := Lib.hid h2
 have HTB := Lib.hid (Lib.tabBelow_of_tabIs htab)
 have HDB := Lib.hid (fun (w' : World) (hb : Below w.heap.size w w') => hT.below h0 hb)
 have HD0 := Lib.hid hT
 have HL := Lib.hid hL
 have HL2 := Lib.hid hL2
 have HB1 := Lib.hid ((Below.refl w.heap.size w).alloc (Nat.le_refl _) (.cells #[.int .i64 rel, .slice TA L.length tc] 24))
 have HS1 := Lib.hid (Blk.new w 24 #[.int .i64 rel, .slice TA L.length tc])
 obtain ⟨n1, hn1⟩ : ∃ n, l.length = n := ⟨_, rfl⟩
 obtain ⟨n2, hn2⟩ : ∃ n, m.length = n := ⟨_, rfl⟩
 obtain ⟨n, hn⟩ : ∃ n, L.length = n := ⟨_, rfl⟩
 obtain ⟨S, hS⟩ : ∃ S, textB rel L = S := ⟨_, rfl⟩
 have HN1 := Lib.hid hn1
 have HN2 := Lib.hid hn2
 have HS := Lib.hid hS
 rw [hn1] at HC7 ⊢
 rw [hn2] at HC72 ⊢
 rw [hS] at HTXT
 rw [hn] at HTXT HC6 HB1 HS1 ⊢
 clear h1 h2 htab hT hL hL2 hMB hMC hn1 hn2 hS hl63 hm63
 go_enter Tryz.func3, Tryz.ntmps3
 go_upto_region 1 with fail
 obtain ⟨w1, hw1⟩ : ∃ w1, w.alloc (.cells #[.int .i64 rel, .slice TA n tc] 24) = w1 := ⟨_, rfl⟩
 obtain ⟨sb, hsb⟩ : ∃ sb, w.heap.size = sb := ⟨_, rfl⟩
 have HSB := Lib.hid hsb
 rw [hw1] at HB1 HS1 ⊢
 rw [hsb] at HS1 ⊢
 clear hw1 hsb
 have c0 : w1.cell? ⟨sb, 0, none⟩ = some (.int .i64 rel) := HS1.out.cell 0
 have c1 : w1.cell? ⟨sb, 1, none⟩ = some (.slice TA n tc) := HS1.out.cell 1
 have hsl := HS1.out.lt
 cases bM with
 | false =>
  go_wp2_with (go_at_call 6; refine (HC6.out _ HB1.out).mono ?_; rintro e w2 ⟨rfl, hb⟩; have HB2 := Lib.hid hb; clear hb)
  go_ret
  exact ⟨rfl, HB1.out.trans (HB2.out.mono HB1.out.size)⟩
 | true =>
  have hAB := HMB.out rfl
  have HTX := Lib.hid (HTXT.out hAB)
  cases bL with
  | true =>
   go_wp2_with (first | (go_at_call 6; refine (HC6.out _ HB1.out).mono ?_; rintro e w2 ⟨rfl, hb⟩; have HB2 := Lib.hid (HB1.out.trans (hb.mono HB1.out.size)); clear hb) | (go_at_call 7; refine (HC7.out _ HB2.out).mono ?_; rintro e w3 ⟨rfl, hb⟩; have HB3 := Lib.hid (HB2.out.trans (hb.mono HB2.out.size)); clear hb))
   go_ret
   exact ⟨rfl, HB3.out⟩
  | false =>
   cases bL2 with
   | true =>
    go_wp2_with (first | (go_at_call 6; refine (HC6.out _ HB1.out).mono ?_; rintro e w2 ⟨rfl, hb⟩; have HB2 := Lib.hid (HB1.out.trans (hb.mono HB1.out.size)); clear hb) | (go_at_call 7; refine (HC7.out _ HB2.out).mono ?_; rintro e w3 ⟨rfl, hb⟩; have HB3 := Lib.hid (HB2.out.trans (hb.mono HB2.out.size)); clear hb HC7) | (go_at_call 7; refine (HC72.out _ HB3.out).mono ?_; rintro e w4 ⟨rfl, hb⟩; have HB4 := Lib.hid (HB3.out.trans (hb.mono HB3.out.size)); clear hb))
    go_ret
    exact ⟨rfl, HB4.out⟩
   | false =>
    by_cases hsz : 3000 < S.size
    ·have hd : decide ((3000 : Int) < (S.size : Int)) = true := by simp; omega
     go_wp2_with (first | (go_at_call 6; refine (HC6.out _ HB1.out).mono ?_; rintro e w2 ⟨rfl, hb⟩; have HB2 := Lib.hid (HB1.out.trans (hb.mono HB1.out.size)); have HK2 := Lib.hid (HS1.out.below hb hsl); clear hb HC6) | (go_at_call 7; refine (HC7.out _ HB2.out).mono ?_; rintro e w3 ⟨rfl, hb⟩; have HB3 := Lib.hid (HB2.out.trans (hb.mono HB2.out.size)); have HK3 := Lib.hid (HK2.out.below hb HK2.out.lt); clear hb HC7) | (go_at_call 7; refine (HC72.out _ HB3.out).mono ?_; rintro e w4 ⟨rfl, hb⟩; have HB4 := Lib.hid (HB3.out.trans (hb.mono HB3.out.size)); have HK4 := Lib.hid (HK3.out.below hb HK3.out.lt); have d0 := HK4.out.cell 0; have d1 := HK4.out.cell 1; have hsl4 := HK4.out.lt; simp at d0 d1; clear hb HC72) | (go_at_call 8; refine (HTX.out _ HB4.out).mono ?_; rintro e w5 ⟨rfl, hb⟩; have HB5 := Lib.hid (HB4.out.trans (hb.mono HB4.out.size)); have HK5 := Lib.hid (HK4.out.below hb hsl4); clear hb))
     go_ret
     exact ⟨rfl, HB5.out⟩
    ·have hd : decide ((3000 : Int) < (S.size : Int)) = false := by simp; omega
     go_upto_region 3 with (first | (go_at_call 6; refine (HC6.out _ HB1.out).mono ?_; rintro e w2 ⟨rfl, hb⟩; have HB2 := Lib.hid (HB1.out.trans (hb.mono HB1.out.size)); have HK2 := Lib.hid (HS1.out.below hb hsl); clear hb HC6) | (go_at_call 7; refine (HC7.out _ HB2.out).mono ?_; rintro e w3 ⟨rfl, hb⟩; have HB3 := Lib.hid (HB2.out.trans (hb.mono HB2.out.size)); have HK3 := Lib.hid (HK2.out.below hb HK2.out.lt); clear hb HC7) | (go_at_call 7; refine (HC72.out _ HB3.out).mono ?_; rintro e w4 ⟨rfl, hb⟩; have HB4 := Lib.hid (HB3.out.trans (hb.mono HB3.out.size)); have HK4 := Lib.hid (HK3.out.below hb HK3.out.lt); have d0 := HK4.out.cell 0; have d1 := HK4.out.cell 1; have hsl4 := HK4.out.lt; simp at d0 d1; clear hb HC72) | (go_at_call 8; refine (HTX.out _ HB4.out).mono ?_; rintro e w5 ⟨rfl, hb⟩; have HB5 := Lib.hid (HB4.out.trans (hb.mono HB4.out.size)); have HK5 := Lib.hid (HK4.out.below hb hsl4); clear hb))
     have hTP : X.SetTextP S rel L := by
      have := D.text_p (rel := rel) (L := L) ⟨hAB.a0, hAB.a1⟩ (fun x hx => (tasksG hAB HIN.out.tk x hx).1) (by rw [HS.out]; omega)
      rw [HS.out] at this
      exact this
     have hG : SetG rel L := setG hAB HIN.out.tk
     have hK := tks_g hAB HIN.out.tk
     obtain ⟨hl250, hl20⟩ := long_no (by have := HIN.out.i.2.1; omega) HL.out
     obtain ⟨hm250, hm20⟩ := long_no (by have := HIN2.out.i.2.1; omega) HL2.out
     have hlb : ∀ u ∈ l, InB u := fun u hu => ⟨(HIN.out.ins u hu).1, (HIN.out.ins u hu).2, hl20 u hu⟩
     have hmb : ∀ u ∈ m, InB u := fun u hu => ⟨(HIN2.out.ins u hu).1, (HIN2.out.ins u hu).2, hm20 u hu⟩
     have HG := Lib.hid hG
     have HKT := Lib.hid hK
     have HLB := Lib.hid hlb
     have HMB2 := Lib.hid hmb
     have HL250 := Lib.hid hl250
     have HM250 := Lib.hid hm250
     have HTP := Lib.hid hTP
     have hz5 : w.heap.size ≤ w5.heap.size := HB5.out.size
     have HZ5 := Lib.hid hz5
     clear hTP hG hK hl250 hl20 hm250 hm20 hlb hmb hAB c0 c1 hsl d0 d1 hsl4 hz5 HL HL2 HMB HTXT HK2 HK3 HK4 HB2 HB3 HB4 HS1
     go_upto_region 4 with (go_at_call 9; refine (X.exec_new _).mono ?_; rintro e w6 ⟨rfl, rfl⟩)
     have hE0 := Blk.new w5 62 #[.int .i64 0, .slice none 0 0, .bool false, .pointer none]
     have hb6 := HB5.out.alloc HZ5.out (.cells #[.int .i64 0, .slice none 0 0, .bool false, .pointer none] 62)
     have hk6 := HK5.out.alloc (.cells #[.int .i64 0, .slice none 0 0, .bool false, .pointer none] 62)
     obtain ⟨ep, hep⟩ : ∃ ep, w5.heap.size = ep := ⟨_, rfl⟩
     obtain ⟨w6, hw6⟩ : ∃ w6, w5.alloc (.cells #[.int .i64 0, .slice none 0 0, .bool false, .pointer none] 62) = w6 := ⟨_, rfl⟩
     rw [hw6] at hE0 hb6 hk6
     rw [hep] at hE0 HZ5
     rw [hw6, hep]
     have HE6 := Lib.hid hE0
     have HB6 := Lib.hid hb6
     have HK6 := Lib.hid hk6
     have d0 : w6.cell? ⟨sb, 0, none⟩ = some (.int .i64 rel) := hk6.cell 0
     have d1 : w6.cell? ⟨sb, 1, none⟩ = some (.slice TA n tc) := hk6.cell 1
     have hsl6 := hk6.lt
     have q0 := field37
     clear hE0 hb6 hk6 hep hw6 HK5
     go_upto_region 6 with (first | (go_at_call 8; refine (HTX.out _ HB6.out).mono ?_; rintro e w7 ⟨rfl, hb⟩; have HB7 := Lib.hid (HB6.out.trans (hb.mono HB6.out.size)); have HE7 := Lib.hid (HE6.out.below hb HE6.out.lt); clear hb; have hld := law_load HG.out (by rw [HS.out]; exact HTP.out) (HTB.out w7 HB7.out) HB7.out HZ5.out HE7.out; rw [HS.out] at hld; have HLD := Lib.hid hld; simp only [X.repC] at HLD; clear hld) | (go_at_call 10; refine (HLD.out).mono ?_; rintro e w8 ⟨EA, ec, B0, R, rfl, hLS⟩; have HLS8 := Lib.hid hLS; clear hLS))
     clear q0 d0 d1 hsl6 HK6 HE6 HE7 HLD HTX HTP
     obtain ⟨E, hE⟩ : ∃ E, runE manF (k0 L rel) l = E := ⟨_, rfl⟩
     obtain ⟨q, hq⟩ : ∃ q, E.length = q := ⟨_, rfl⟩
     obtain ⟨K1, hK1⟩ : ∃ K1, runK manF (k0 L rel) l = K1 := ⟨_, rfl⟩
     obtain ⟨E2, hE2⟩ : ∃ E2, runE manF K1 m = E2 := ⟨_, rfl⟩
     obtain ⟨q2, hq2⟩ : ∃ q2, E2.length = q2 := ⟨_, rfl⟩
     obtain ⟨K2, hK2⟩ : ∃ K2, runK manF K1 m = K2 := ⟨_, rfl⟩
     have hcnt := man_count HKT.out l 0 (k0 L rel) (k0_inv HKT.out) (by have := HL250.out; omega) HLB.out
     have hin1 := inv_run HKT.out l 0 (k0 L rel) (k0_inv HKT.out) (by have := HL250.out; omega) HLB.out
     rw [hE, hq] at hcnt
     rw [hK1, Nat.zero_add] at hin1
     have HCNT := Lib.hid hcnt
     have HIN1 := Lib.hid hin1
     have HE := Lib.hid hE
     have HQ := Lib.hid hq
     have HK1 := Lib.hid hK1
     have HE2 := Lib.hid hE2
     have HQ2 := Lib.hid hq2
     have HK2 := Lib.hid hK2
     clear hcnt hin1 hE hq hK1 hE2 hq2 hK2
     have hst := law_start HG.out HLS8.out (HTB.out w8 HLS8.out.bl)
     simp only [X.repC] at hst
     have HST := Lib.hid hst
     clear hst
     go_upto_region 7 with (go_at_call 10; refine (HST.out).mono ?_; rintro e w9 ⟨how, tsk, err, RA, rn, rc, B, kp, A', jv, ev, rfl, hLS, hK, hepB, hwB, hBz, hg⟩; have HLS9 := Lib.hid hLS; have HK9 := Lib.hid hK; have HEP := Lib.hid hepB; have HBZ := Lib.hid hBz; clear hLS hK hepB hwB hBz hg)
     clear HST
     have HTK := Lib.hid (law_ticks2 (l := []) (m := l) HE.out HQ.out HK1.out HN1.out HKT.out HLS9.out HIN.out h0 HD0.out (by simp) HL250.out (by simp) HLB.out HEP.out HBZ.out HK9.out (k0_inv HKT.out))
     go_upto_region 8 with (go_at_call 10; refine (HTK.out).mono ?_; rintro e w10 ⟨VA, vc, rfl, hown, hf, hLS, hkk⟩; have HLS10 := Lib.hid hLS; have HKK := Lib.hid hkk; have HOA := Lib.hid hown; have HBZ10 := Lib.hid (Nat.le_trans HBZ.out hf.size); clear hLS hkk hown hf)
     clear HTK
     have hA0 := Blk.new w10 37 #[.int .i64 0, .int .i64 0, .int .i64 0, .int .i64 0, .slice none 0 0, .string ⟨#[]⟩, .slice VA q vc]
     have hb11 := (Below.refl w10.heap.size w10).alloc (Nat.le_refl _) (.cells #[.int .i64 0, .int .i64 0, .int .i64 0, .int .i64 0, .slice none 0 0, .string ⟨#[]⟩, .slice VA q vc] 37)
     have hO11 := HOA.out.alloc (.cells #[.int .i64 0, .int .i64 0, .int .i64 0, .int .i64 0, .slice none 0 0, .string ⟨#[]⟩, .slice VA q vc] 37)
     obtain ⟨E1, jv1, ev1, hk1⟩ := HKK.out
     have hk11 := hk1.fr (E := E1) (ts := []) (C := 0) (Fr.of_below hb11) (by simp)
     have hls11 := HLS10.out.below hb11
     have hz11 := hb11.size
     obtain ⟨w11, hw11⟩ : ∃ w11, w10.alloc (.cells #[.int .i64 0, .int .i64 0, .int .i64 0, .int .i64 0, .slice none 0 0, .string ⟨#[]⟩, .slice VA q vc] 37) = w11 := ⟨_, rfl⟩
     obtain ⟨ab, hab⟩ : ∃ ab, w10.heap.size = ab := ⟨_, rfl⟩
     rw [hw11] at hA0 hb11 hO11 hk11 hls11 hz11
     rw [hab] at hA0
     rw [hw11, hab]
     have HA11 := Lib.hid hA0
     have HO11 := Lib.hid hO11
     have HLS11 := Lib.hid hls11
     have HTM := Lib.hid (law_ticks2 (l := l) (m := m) HE2.out HQ2.out HK2.out HN2.out HKT.out hls11 HIN2.out h0 HD0.out HL250.out HM250.out HLB.out HMB2.out HEP.out (Nat.le_trans HBZ10.out hz11) hk11 HIN1.out)
     clear hA0 hb11 hO11 hk1 hk11 hls11 hz11 hw11 hab HOA HKK
     go_upto_region 9 with (go_at_call 10; refine (HTM.out).mono ?_; rintro e w12 ⟨VM, vm, rfl, hown, hf, hLS, hkk⟩; have HLS12 := Lib.hid hLS; have HA12 := Lib.hid (HA11.out.fr hf (by decide)); have HO12 := Lib.hid (own50_fr HO11.out hf); clear hLS hkk hown hf)
     clear HTM
     have HSP := Lib.hid (law_stop HLS12.out)
     simp only [rep0] at HSP
     go_upto_region 10 with (go_at_call 10; refine (HSP.out).mono ?_; rintro e w13 ⟨rfl, hLS, hg⟩; have HLS13 := Lib.hid hLS; have hne := HA12.out.ne_ HLS12.out.ex (by decide); have HA13 := Lib.hid (HA12.out.grown hg (by intro e; injection e with e; exact hne e)); have HO13 := Lib.hid (own_fr (E := 0) (ts := [62]) (B := 0) HO12.out (Fr.of_blk hg HLS12.out.ex (Nat.zero_le _) (by simp)) (by decide)); clear hLS hg hne)
     clear HSP
     have hst := law_start HG.out HLS13.out (HTB.out w13 HLS13.out.bl)
     simp only [X.repC] at hst
     have HST := Lib.hid hst
     clear hst
     go_upto_region 11 with (go_at_call 10; refine (HST.out).mono ?_; rintro e w14 ⟨how2, tsk2, err2, RA2, rn2, rc2, B2, kp2, A2, jv2, ev2, rfl, hLS, hK, hepB, hwB, hBz, hg⟩; have HLS14 := Lib.hid hLS; have HK14 := Lib.hid hK; have HEP2 := Lib.hid hepB; have HBZ2 := Lib.hid hBz; have hne := HA13.out.ne_ HLS13.out.ex (by decide); have HA14 := Lib.hid (HA13.out.grown hg (by intro e; injection e with e; exact hne e)); have HO14 := Lib.hid (own_fr (E := 0) (ts := [62]) (B := 0) HO13.out (Fr.of_blk hg HLS13.out.ex (Nat.zero_le _) (by simp)) (by decide)); clear hLS hK hepB hwB hBz hg hne)
     clear HST
     have HTK := Lib.hid (law_ticks2 (l := []) (m := l) HE.out HQ.out HK1.out HN1.out HKT.out HLS14.out HIN.out h0 HD0.out (by simp) HL250.out (by simp) HLB.out HEP2.out HBZ2.out HK14.out (k0_inv HKT.out))
     go_upto_region 12 with (go_at_call 10; refine (HTK.out).mono ?_; rintro e w15 ⟨VB, vb, rfl, hown, hf, hLS, hkk⟩; have HLS15 := Lib.hid hLS; have HA15 := Lib.hid (HA14.out.fr hf (by decide)); have HO15 := Lib.hid (own50_fr HO14.out hf); have HP15 := Lib.hid hown; clear hLS hkk hown hf)
     clear HTK
     have hB0 := Blk.new w15 37 #[.int .i64 0, .int .i64 0, .int .i64 0, .int .i64 0, .slice none 0 0, .string ⟨#[]⟩, .slice VB q vb]
     have hb16 := (Below.refl w15.heap.size w15).alloc (Nat.le_refl _) (.cells #[.int .i64 0, .int .i64 0, .int .i64 0, .int .i64 0, .slice none 0 0, .string ⟨#[]⟩, .slice VB q vb] 37)
     have hls16 := HLS15.out.below hb16
     have hA16 := HA15.out.below hb16 HA15.out.lt
     have hO16 := HO15.out.alloc (.cells #[.int .i64 0, .int .i64 0, .int .i64 0, .int .i64 0, .slice none 0 0, .string ⟨#[]⟩, .slice VB q vb] 37)
     have hP16 := HP15.out.alloc (.cells #[.int .i64 0, .int .i64 0, .int .i64 0, .int .i64 0, .slice none 0 0, .string ⟨#[]⟩, .slice VB q vb] 37)
     obtain ⟨w16, hw16⟩ : ∃ w16, w15.alloc (.cells #[.int .i64 0, .int .i64 0, .int .i64 0, .int .i64 0, .slice none 0 0, .string ⟨#[]⟩, .slice VB q vb] 37) = w16 := ⟨_, rfl⟩
     obtain ⟨bb, hbb⟩ : ∃ bb, w15.heap.size = bb := ⟨_, rfl⟩
     rw [hw16] at hB0 hls16 hA16 hO16 hP16
     rw [hbb] at hB0
     rw [hw16, hbb]
     have HBL := Lib.hid hls16.bl
     have HSM := same_any (E := E) w16 (by rw [HQ.out]; exact hO16) (by rw [HQ.out]; exact hP16) (by have := HCNT.out; have := HL250.out; rw [HQ.out]; omega)
     have HSM := Lib.hid HSM
     have HKN := Lib.hid (fun (w' : World) (hb : Below w.heap.size w w') => known_any w' (HTB.out w' hb) (HDB.out w' hb) (Nat.lt_of_lt_of_le h0 hb.size))
     have a0 : w16.cell? ⟨ab, 0, none⟩ = some (.int .i64 0) := hA16.cell 0
     have a6 : w16.cell? ⟨ab, 6, none⟩ = some (.slice VA q vc) := hA16.cell 6
     have b0 : w16.cell? ⟨bb, 0, none⟩ = some (.int .i64 0) := hB0.cell 0
     have b6 : w16.cell? ⟨bb, 6, none⟩ = some (.slice VB q vb) := hB0.cell 6
     have hal := hA16.lt
     have hbl := hB0.lt
     clear hB0 hb16 hls16 hA16 hO16 hP16 hw16 hbb
     go_wp2_with (first | (go_at_call 11; refine (HSM.out).mono ?_; rintro e w17 ⟨rfl, hb⟩; have HB17 := Lib.hid (HBL.out.trans (hb.mono HBL.out.size)); clear hb) | (go_at_call 12; refine (HKN.out _ HB17.out).mono ?_; rintro e w18 ⟨rfl, hb⟩; have HB18 := Lib.hid (HB17.out.trans (hb.mono HB17.out.size)); clear hb))
     go_ret
     exact ⟨rfl, HB18.out⟩
end Go.Proofs.YtdgfjpbjiccllaaGreatDoor.M
