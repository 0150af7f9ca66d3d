/- Joined texts: Rf5, Rf6, Cst, Jdg, Jdg2, Jdg3. -/
import Derived.Test.YtdgfjpbjiccllaaGreatDoorTopAgain22
import Derived.Test.YtdgfjpbjiccllaaGreatDoorTopAgain21
import Derived.Deep.RegionLaw
import Derived.Test.YtdgfjpbjiccllaaGreatDoorTopAgain14
import Derived.BigQuiet
import Derived.Laws.Externs
import Derived.Laws.FloatArith
import Derived.Laws.ComplexArith
import Derived.Test.YtdgfjpbjiccllaaGreatDoorTopAgain10
namespace Go.Proofs.YtdgfjpbjiccllaaGreatDoor.A
open Go.RowKit
open YtdgfjpbjiccllaaGreatDoorW.PrintWords YtdgfjpbjiccllaaGreatDoorW.PrintLast YtdgfjpbjiccllaaGreatDoorW.PrintMore
open PTopLoads
set_option maxRecDepth 100000
def inB (a lo hi : Int) : Bool := decide (lo ≤ a) && decide (a ≤ hi)
theorem in5 (a lo hi : Int) (w : World) : Calls Tryz.prog 28 #[.int .i64 a, .int .i64 lo, .int .i64 hi] w fun e w' => e = .returned (.bool (inB a lo hi)) ∧ Below w.heap.size w w' := by
 refine (taskmasterref5_in.calls a lo hi (inB a lo hi) w ?_).mono fun _ _ ⟨he, hd⟩ => ⟨he, hd.below⟩
 unfold taskmasterref5_in.f inB
 by_cases h : lo ≤ a
 ·rw [if_pos h, decide_eq_true h]; rfl
 ·rw [if_neg h, decide_eq_false h]; rfl
def GoodR (l : List Int) : Prop := ∀ i (h : i < l.length), 1 ≤ l[i] ∧ l[i] ≤ 10000
abbrev t9 (f0 : ByteArray) (f1 f2 f3 f4 f5 : Int) (ra : Option Addr) (n rc : Nat) (f7 f8 : Int) : Array Value := #[.string f0, .int .i64 f1, .int .i64 f2, .int .i64 f3, .int .i64 f4, .int .i64 f5, .slice ra n rc, .int .u64 f7, .int .u64 f8]
set_option maxHeartbeats 4000000 in
theorem work5 {f0 : ByteArray} {f1 f2 f3 f4 f5 f7 f8 : Int} {f6 : List Int} {ra : Option Addr} {rc : Nat} (h8 : f6.length ≤ 8) (hg : GoodR f6) (w : World) (hN : Nums w ra f6) :
  Calls Tryz.prog 15 #[.agg (t9 f0 f1 f2 f3 f4 f5 ra f6.length rc f7 f8)] w fun e w' => e = .returned (.int .i64 f6.sum) ∧ Below w.heap.size w w' := by
 have HB1 := Lib.hid ((Below.refl w.heap.size w).alloc (Nat.le_refl _) (.cells (t9 f0 f1 f2 f3 f4 f5 ra f6.length rc f7 f8) 46))
 have HD := Lib.hid (Blk.new w 46 (t9 f0 f1 f2 f3 f4 f5 ra f6.length rc f7 f8))
 have HS := Lib.hid (fun k hk => X.sum_take f6 hg k hk)
 have HN := Lib.hid hN
 obtain ⟨n, hn⟩ : ∃ n, f6.length = n := ⟨_, rfl⟩
 have HL := Lib.hid hn
 rw [hn] at HB1 HD h8 ⊢
 obtain ⟨rv, hrv⟩ : ∃ rv, f6.sum = rv := ⟨_, rfl⟩
 rw [hrv]
 have HRV := Lib.hid hrv
 clear hg hN hn hrv
 go_enter Tryz.func15, Tryz.ntmps15
 go_wp2_with fail
 go_loopw [3, 4] (fun s z wr => ∃ k : Nat, k ≤ n ∧ z = .int .i64 k ∧ s = .int .i64 (f6.take k).sum ∧ Below w.heap.size w wr ∧ Blk wr w.heap.size 46 (t9 f0 f1 f2 f3 f4 f5 ra n rc f7 f8)) (fun _ z _ => n - (intOf z).toNat)
 case atStart => exact ⟨0, Nat.zero_le _, rfl, rfl, HB1.out, HD.out⟩
 case round =>
  obtain ⟨k, hk, rfl, rfl, hb, hD⟩ := hrel
  have c6 : wr.cell? ⟨w.heap.size, 6, none⟩ = some (.slice ra n rc) := hD.cell 6
  have hwl := hD.lt
  have HB := Lib.hid hb
  have HD2 := Lib.hid hD
  by_cases hlt : k < n
  ·have hkl : k < f6.length := by rw [HL.out]; exact hlt
   rcases HN.out.below hb with h0 | ⟨b, off, rfl, hbl, hcell⟩
   ·exfalso
    rw [h0] at hkl
    simp at hkl
   have c0 := hcell k hkl
   have s1 := HS.out k (Nat.le_of_lt hkl)
   have s2 := HS.out (k + 1) hkl
   have e2 : (f6.take k).sum + f6[k] = (f6.take (k + 1)).sum := by
    rw [List.take_succ_eq_append_getElem hkl, List.sum_append]
    simp
   obtain ⟨v, hv⟩ : ∃ v, f6[k] = v := ⟨_, rfl⟩
   rw [hv] at c0 e2
   obtain ⟨a, ha⟩ : ∃ a, (f6.take k).sum = a := ⟨_, rfl⟩
   rw [ha] at e2 s1
   rw [ha]
   have e3 : IntKind.i64.wrap (a + v) = (f6.take (k + 1)).sum := by rw [← e2]; exact IntWalk.i64_in _ ⟨by omega, by omega⟩
   have e4 : wrap64 (a + v) = (f6.take (k + 1)).sum := by rw [← e2]; unfold wrap64; omega
   have j0 : (0 : Int) ≤ (k : Int) := by omega
   have j1 : (k : Int) < (n : Int) := by omega
   clear hcell hkl hv ha e2 s1 s2 hb hD
   go_wp2_with fail
   go_roundw
   case rel => exact ⟨k + 1, by omega, by go_num, rfl, HB.out, HD2.out⟩
   case measure => simp [intOf]; omega
  ·obtain rfl : k = n := by omega
   have ht : (f6.take k).sum = rv := by rw [← HL.out, List.take_length]; exact HRV.out
   rw [ht]
   clear hb hD
   go_wp2_with fail
   go_ret
   exact ⟨rfl, HB.out⟩
structure IsG (x : S46) (p : Int) : Prop where
 nm : NameP x.f0
 r1 : 1 ≤ x.f6.length
 r8 : x.f6.length ≤ 8
 rr : ∀ i (h : i < x.f6.length), 1 ≤ x.f6[i] ∧ x.f6[i] ≤ 10000
 wd : x.f6.sum ≤ x.f2
 dt : x.f2 ≤ x.f1
 t1 : x.f1 ≤ 10000
 md : X.ModeOk x p
 uc : Go.bits .andNot .u64 x.f8 x.f7 = 0
def modeB (f3 f4 f5 p : Int) : Bool := if f3 = 0 then f4 == 0 && f5 == 0 else if f3 = 1 then inB f4 0 10000 && f5 == 0 else if f3 = 2 then f4 == 0 && decide (0 ≤ f5) && decide (f5 ≤ p) else false
abbrev S9 (w : World) (sb : Nat) (f0 : ByteArray) (f1 f2 f3 f4 f5 : Int) (ra : Option Addr) (n rc : Nat) (f7 f8 : Int) (w' : World) : Prop :=
 Below sb w w' ∧ Blk w' sb 46 (t9 f0 f1 f2 f3 f4 f5 ra n rc f7 f8) ∧ w'.cell? ⟨sb, 0, none⟩ = some (.string f0) ∧ w'.cell? ⟨sb, 1, none⟩ = some (.int .i64 f1) ∧ w'.cell? ⟨sb, 2, none⟩ = some (.int .i64 f2) ∧ w'.cell? ⟨sb, 3, none⟩ = some (.int .i64 f3) ∧ w'.cell? ⟨sb, 4, none⟩ = some (.int .i64 f4) ∧ w'.cell? ⟨sb, 5, none⟩ = some (.int .i64 f5) ∧ w'.cell? ⟨sb, 6, none⟩ = some (.slice ra n rc) ∧ w'.cell? ⟨sb, 7, none⟩ = some (.int .u64 f7) ∧ w'.cell? ⟨sb, 8, none⟩ = some (.int .u64 f8)
section
variable {w w1 w2 : World} {sb : Nat} {f0 : ByteArray} {f1 f2 f3 f4 f5 f7 f8 : Int} {ra : Option Addr} {n rc : Nat}
theorem s9_of (hb : Below sb w w1) (D : Blk w1 sb 46 (t9 f0 f1 f2 f3 f4 f5 ra n rc f7 f8)) : S9 w sb f0 f1 f2 f3 f4 f5 ra n rc f7 f8 w1 := ⟨hb, D, D.cell 0, D.cell 1, D.cell 2, D.cell 3, D.cell 4, D.cell 5, D.cell 6, D.cell 7, D.cell 8⟩
theorem s9_next (h : S9 w sb f0 f1 f2 f3 f4 f5 ra n rc f7 f8 w1) (hb : Below w1.heap.size w1 w2) : S9 w sb f0 f1 f2 f3 f4 f5 ra n rc f7 f8 w2 := s9_of (h.1.trans (hb.mono (Nat.le_of_lt h.2.1.lt))) (h.2.1.below hb h.2.1.lt)
theorem s9_drew (h : S9 w sb f0 f1 f2 f3 f4 f5 ra n rc f7 f8 w1) : S9 w sb f0 f1 f2 f3 f4 f5 ra n rc f7 f8 w1.drew := ⟨h.1.drew, h.2⟩
end
set_option maxHeartbeats 16000000 in
theorem is_run {f0 : ByteArray} {f1 f2 f3 f4 f5 f7 f8 : Int} {f6 : List Int} {ra : Option Addr} {rc : Nat} (p : Int) (bn : Bool) (hname : ∀ w, Calls Tryz.prog 41 #[.string f0] w fun e w' => e = .returned (.bool bn) ∧ Below w.heap.size w w') (hl : (f6.length : Int) ≤ 9223372036854775807) (r : Bool)
  (h1 : bn = false ∨ f6.length < 1 ∨ 8 < f6.length ∨ Go.bits .andNot .u64 f8 f7 ≠ 0 ∨ ¬ GoodR f6 → r = false)
  (h2 : bn = true → 1 ≤ f6.length → f6.length ≤ 8 → Go.bits .andNot .u64 f8 f7 = 0 → GoodR f6 → r = (decide (f6.sum ≤ f2) && decide (f2 ≤ f1) && decide (f1 ≤ 10000) && modeB f3 f4 f5 p)) (w : World) (hN : Nums w ra f6) :
  Calls Tryz.prog 29 #[.agg (t9 f0 f1 f2 f3 f4 f5 ra f6.length rc f7 f8), .int .i64 p] w fun e w' => e = .returned (.bool r) ∧ Below w.heap.size w w' := by
 have HB1 := Lib.hid ((Below.refl w.heap.size w).alloc (Nat.le_refl _) (.cells (t9 f0 f1 f2 f3 f4 f5 ra f6.length rc f7 f8) 46))
 have HD := Lib.hid (Blk.new w 46 (t9 f0 f1 f2 f3 f4 f5 ra f6.length rc f7 f8))
 have HNM := Lib.hid hname
 have HN := Lib.hid hN
 have H1 := Lib.hid h1
 have H2 := Lib.hid h2
 have HW5 := Lib.hid (fun (h8 : f6.length ≤ 8) (hg : GoodR f6) (w' : World) (hb : Below w.heap.size w w') => work5 (f0 := f0) (f1 := f1) (f2 := f2) (f3 := f3) (f4 := f4) (f5 := f5) (f7 := f7) (f8 := f8) (rc := rc) h8 hg w' (hN.below hb))
 obtain ⟨n, hn⟩ : ∃ n, f6.length = n := ⟨_, rfl⟩
 have HL := Lib.hid hn
 rw [hn] at HB1 HD H1 H2 HW5 hl ⊢
 obtain ⟨sb, hsb⟩ : ∃ sb, w.heap.size = sb := ⟨_, rfl⟩
 have HSB := Lib.hid hsb
 clear hname hN h1 h2 hn hsb
 go_enter Tryz.func29, Tryz.ntmps29
 go_upto_region 1 with fail
 obtain ⟨w1, hw1⟩ : ∃ w1, w.alloc (.cells (t9 f0 f1 f2 f3 f4 f5 ra n rc f7 f8) 46) = w1 := ⟨_, rfl⟩
 have hw1' := hw1
 unfold t9 at hw1'
 rw [hw1'] at ⊢
 rw [hw1] at HB1 HD
 rw [HSB.out] at HB1 HD ⊢
 clear hw1 hw1'
 have c0 : w1.cell? ⟨sb, 0, none⟩ = some (.string f0) := HD.out.cell 0
 have hsl := HD.out.lt
 cases bn with
 | false =>
  have hz : Hid (r = false) := H1.out (.inl rfl)
  clear H1 H2
  go_wp2_with (go_at_call 41; refine (HNM.out _).mono ?_; rintro e w2 ⟨rfl, hb⟩; have HB2 := Lib.hid (HB1.out.trans (hb.mono (Nat.le_of_lt hsl))); clear hb)
  go_ret
  exact ⟨by rw [hz.out]; rfl, by rw [HSB.out]; exact HB2.out⟩
 | true =>
  by_cases hA : 1 ≤ n ∧ n ≤ 8 ∧ Go.bits .andNot .u64 f8 f7 = 0
  case neg =>
   have hz : Hid (r = false) := by
    refine H1.out ?_
    by_cases a1 : 1 ≤ n
    ·by_cases a2 : n ≤ 8
     ·exact .inr (.inr (.inr (.inl fun a3 => hA ⟨a1, a2, a3⟩)))
     ·exact .inr (.inr (.inl (by omega)))
    ·exact .inr (.inl (by omega))
   have HA := Lib.hid hA
   clear H1 H2 hA
   cases a1 : decide ((n : Int) < 1) with
   | true =>
    go_wp2_with (go_at_call 41; refine (HNM.out _).mono ?_; rintro e w2 ⟨rfl, hb⟩; have HB2 := Lib.hid (HB1.out.trans (hb.mono (Nat.le_of_lt hsl))); have c6 : w2.cell? ⟨sb, 6, none⟩ = some (.slice ra n rc) := (HD.out.below hb hsl).cell 6; have hs2 := (HD.out.below hb hsl).lt; clear hb)
    go_ret
    exact ⟨by rw [hz.out]; rfl, by rw [HSB.out]; exact HB2.out⟩
   | false =>
    cases a2 : decide ((8 : Int) < (n : Int)) with
    | true =>
     go_wp2_with (go_at_call 41; refine (HNM.out _).mono ?_; rintro e w2 ⟨rfl, hb⟩; have HB2 := Lib.hid (HB1.out.trans (hb.mono (Nat.le_of_lt hsl))); have c6 : w2.cell? ⟨sb, 6, none⟩ = some (.slice ra n rc) := (HD.out.below hb hsl).cell 6; have hs2 := (HD.out.below hb hsl).lt; clear hb)
     go_ret
     exact ⟨by rw [hz.out]; rfl, by rw [HSB.out]; exact HB2.out⟩
    | false =>
     have a3 : (Go.bits .andNot .u64 f8 f7 != 0) = true := by
      rw [bne_iff_ne]
      intro a3
      simp at a1 a2
      exact HA.out ⟨by omega, by omega, a3⟩
     have a4 : (Go.bits .andNot .u64 f8 f7 == 0) = false := by
      rw [beq_eq_false_iff_ne]
      exact (bne_iff_ne).1 a3
     go_wp2_with (go_at_call 41; refine (HNM.out _).mono ?_; rintro e w2 ⟨rfl, hb⟩; have HB2 := Lib.hid (HB1.out.trans (hb.mono (Nat.le_of_lt hsl))); have c6 : w2.cell? ⟨sb, 6, none⟩ = some (.slice ra n rc) := (HD.out.below hb hsl).cell 6; have c7 : w2.cell? ⟨sb, 7, none⟩ = some (.int .u64 f7) := (HD.out.below hb hsl).cell 7; have c8 : w2.cell? ⟨sb, 8, none⟩ = some (.int .u64 f8) := (HD.out.below hb hsl).cell 8; have hs2 := (HD.out.below hb hsl).lt; clear hb)
     go_ret
     exact ⟨by rw [hz.out]; rfl, by rw [HSB.out]; exact HB2.out⟩
  case pos =>
   obtain ⟨b1, b2, b3⟩ := hA
   have a1 : decide ((n : Int) < 1) = false := by simp; omega
   have a2 : decide ((8 : Int) < (n : Int)) = false := by simp; omega
   have a3 : (Go.bits .andNot .u64 f8 f7 != 0) = false := by rw [b3]; rfl
   have a4 : (Go.bits .andNot .u64 f8 f7 == 0) = true := by rw [b3]; rfl
   have HNO : Hid (¬ GoodR f6 → r = false) := fun h => H1.out (.inr (.inr (.inr (.inr h))))
   have HYE : Hid (GoodR f6 → r = (decide (f6.sum ≤ f2) && decide (f2 ≤ f1) && decide (f1 ≤ 10000) && modeB f3 f4 f5 p)) := fun h => H2.out rfl b1 b2 b3 h
   have HW8 := Lib.hid (HW5.out b2)
   clear H1 H2 HW5 b3
   go_wp2_with (go_at_call 41; refine (HNM.out _).mono ?_; rintro e w2 ⟨rfl, hb⟩; have HB2 := Lib.hid (HB1.out.trans (hb.mono (Nat.le_of_lt hsl))); have HD2 := Lib.hid (HD.out.below hb hsl); have c6 : w2.cell? ⟨sb, 6, none⟩ = some (.slice ra n rc) := HD2.out.cell 6; have c7 : w2.cell? ⟨sb, 7, none⟩ = some (.int .u64 f7) := HD2.out.cell 7; have c8 : w2.cell? ⟨sb, 8, none⟩ = some (.int .u64 f8) := HD2.out.cell 8; have hs2 := HD2.out.lt; clear hb)
   clear c0 c6 c7 c8 hsl a1 a2 a3 a4
   go_loopw [5] (fun z wr => ∃ k : Nat, k ≤ n ∧ z = .int .i64 k ∧ (∀ j (h : j < f6.length), j < k → 1 ≤ f6[j] ∧ f6[j] ≤ 10000) ∧ Below w2.heap.size w2 wr) (fun z _ => n - (intOf z).toNat)
   case atStart => exact ⟨0, Nat.zero_le _, rfl, fun j _ h => absurd h (Nat.not_lt_zero j), Below.refl _ _⟩
   case round =>
    obtain ⟨k, hk, rfl, hgd, hbw⟩ := hrel
    have HGD := Lib.hid hgd
    have HDR := Lib.hid (HD2.out.below hbw hs2)
    have HBW := Lib.hid hbw
    have hsb2 : sb ≤ w2.heap.size := Nat.le_of_lt hs2
    have HBX := Lib.hid (HB2.out.trans (hbw.mono hsb2))
    have hsr := HDR.out.lt
    have c6 : wr.cell? ⟨sb, 6, none⟩ = some (.slice ra n rc) := HDR.out.cell 6
    clear hgd hbw
    by_cases hlt : k < n
    ·have hkl : k < f6.length := by rw [HL.out]; exact hlt
     rcases HN.out.below (by rw [HSB.out]; exact HBX.out) with h0 | ⟨b, off, rfl, hbl, hcell⟩
     ·exfalso
      rw [h0] at hkl
      simp at hkl
     have d0 := hcell k hkl
     have hstep : 1 ≤ f6[k] ∧ f6[k] ≤ 10000 → ∀ j (h : j < f6.length), j < k + 1 → 1 ≤ f6[j] ∧ f6[j] ≤ 10000 := fun hv j hj hjk => by
      by_cases ej : j = k
      ·subst ej; exact hv
      ·exact HGD.out j hj (by omega)
     have hbad : ¬ (1 ≤ f6[k] ∧ f6[k] ≤ 10000) → r = false := fun hv => HNO.out fun hg => hv (hg k hkl)
     obtain ⟨v, hv⟩ : ∃ v, f6[k] = v := ⟨_, rfl⟩
     rw [hv] at d0 hstep hbad
     have HST := Lib.hid hstep
     have HBD := Lib.hid hbad
     have j0 : (0 : Int) ≤ (k : Int) := by omega
     have j1 : (k : Int) < (n : Int) := by omega
     clear hcell hkl hv hstep hbad
     cases hin : inB v 1 10000 with
     | false =>
      have hz : Hid (r = false) := HBD.out fun h => by
       unfold inB at hin
       rw [decide_eq_true h.1, decide_eq_true h.2] at hin
       cases hin
      have HI := Lib.hid hin
      clear hin
      go_wp2_with (go_at_call 28; refine (in5 _ _ _ _).mono ?_; rintro e w5 ⟨rfl, hb⟩; rw [HI.out]; have HB5 := Lib.hid (HBX.out.trans (hb.mono (Nat.le_of_lt hsr))); clear hb)
      go_ret
      exact ⟨by rw [hz.out]; rfl, by rw [HSB.out]; exact HB5.out⟩
     | true =>
      have HS2 := Lib.hid (HST.out (by
       unfold inB at hin
       simp only [Bool.and_eq_true, decide_eq_true_eq] at hin
       exact hin))
      have HI := Lib.hid hin
      clear hin
      go_wp2_with (go_at_call 28; refine (in5 _ _ _ _).mono ?_; rintro e w5 ⟨rfl, hb⟩; rw [HI.out]; have HB5 := Lib.hid (HBW.out.trans (hb.mono HBW.out.size)); clear hb)
      go_roundw
      case rel => exact ⟨k + 1, by omega, by go_num, HS2.out, HB5.out⟩
      case measure => simp [intOf]; omega
    ·obtain rfl : k = n := by omega
     have hgood : GoodR f6 := fun j hj => HGD.out j hj (by rw [← HL.out]; exact hj)
     have hr := HYE.out hgood
     have HWK := Lib.hid (HW8.out hgood)
     obtain ⟨sm, hsm⟩ : ∃ sm, f6.sum = sm := ⟨_, rfl⟩
     rw [hsm] at hr HWK
     have HR := Lib.hid hr
     have hS1 := s9_of HBX.out HDR.out
     have hS1' := s9_drew hS1
     clear hgood hr hsm HGD
     go_upto_region 8 with fail
     by_cases hq : sm ≤ f2 ∧ f2 ≤ f1 ∧ f1 ≤ 10000
     ·obtain ⟨q1, q2, q3⟩ := hq
      have d1 : decide (f2 < sm) = false := by simp; omega
      have d2 : decide (f1 < f2) = false := by simp; omega
      have d3 : decide (10000 < f1) = false := by simp; omega
      have HM : Hid (modeB f3 f4 f5 p = r) := by
       unfold Hid
       rw [HR.out, decide_eq_true q1, decide_eq_true q2, decide_eq_true q3]
       rfl
      clear HR q1 q2 q3 c6
      go_region_held3 (fun W => Below sb w W ∧ Blk W sb 46 (t9 f0 f1 f2 f3 f4 f5 ra k rc f7 f8) ∧ W.cell? ⟨sb, 0, none⟩ = some (.string f0) ∧ W.cell? ⟨sb, 1, none⟩ = some (.int .i64 f1) ∧ W.cell? ⟨sb, 2, none⟩ = some (.int .i64 f2) ∧ W.cell? ⟨sb, 3, none⟩ = some (.int .i64 f3) ∧ W.cell? ⟨sb, 4, none⟩ = some (.int .i64 f4) ∧ W.cell? ⟨sb, 5, none⟩ = some (.int .i64 f5) ∧ W.cell? ⟨sb, 6, none⟩ = some (.slice ra k rc) ∧ W.cell? ⟨sb, 7, none⟩ = some (.int .u64 f7) ∧ W.cell? ⟨sb, 8, none⟩ = some (.int .u64 f8)) (first | (with_reducible assumption)) ((go_at_call 15; refine (HWK.out _ (by rw [HSB.out]; exact And.left (‹Below sb w _ ∧ _›))).mono ?_; rintro e w8 ⟨rfl, hb8⟩; have hS6 := s9_next (by with_reducible assumption) hb8; clear hb8))
      have c3 := hS6.2.2.2.2.2.1
      have c4 := hS6.2.2.2.2.2.2.1
      have c5 := hS6.2.2.2.2.2.2.2.1
      have hsl9 := hS6.2.1.lt
      have HS9 := Lib.hid hS6
      have HB9 := Lib.hid hS6.1
      go_upto_region 10 with fail
      unfold modeB at HM
      by_cases m0 : f3 = 0
      ·have e0 : (f3 == 0) = true := by simpa using m0
       have HM2 : Hid ((f4 == 0 && f5 == 0) = r) := by have := HM.out; rwa [if_pos m0] at this
       clear HM m0
       cases q1 : (f4 == 0) <;> cases q2 : (f5 == 0)
       all_goals
        go_wp2_with fail
        go_ret
        exact ⟨by rw [← HM2.out, q1, q2]; rfl, by rw [HSB.out]; exact HB9.out⟩
      ·have e0 : (f3 == 0) = false := by simpa using m0
       by_cases m1 : f3 = 1
       ·have e1 : (f3 == 1) = true := by simpa using m1
        have HM2 : Hid ((inB f4 0 10000 && f5 == 0) = r) := by have := HM.out; rwa [if_neg m0, if_pos m1] at this
        clear HM m0 m1
        cases q1 : inB f4 0 10000 <;> cases q2 : (f5 == 0)
        all_goals
         have HI := Lib.hid q1
         clear q1
         go_wp2_with (go_at_call 28; refine (in5 _ _ _ _).mono ?_; rintro e w9 ⟨rfl, hb⟩; rw [HI.out]; have HB10 := Lib.hid (HB9.out.trans (hb.mono (Nat.le_of_lt hsl9))); have c5' : w9.cell? ⟨sb, 5, none⟩ = some (.int .i64 f5) := (HS9.out.2.1.below hb hsl9).cell 5; have hsl10 := (HS9.out.2.1.below hb hsl9).lt; clear hb)
         go_ret
         exact ⟨by rw [← HM2.out, HI.out, q2]; rfl, by rw [HSB.out]; exact HB10.out⟩
       ·have e1 : (f3 == 1) = false := by simpa using m1
        by_cases m2 : f3 = 2
        ·have e2 : (f3 == 2) = true := by simpa using m2
         have HM2 : Hid ((f4 == 0 && decide (0 ≤ f5) && decide (f5 ≤ p)) = r) := by have := HM.out; rwa [if_neg m0, if_neg m1, if_pos m2] at this
         clear HM m0 m1 m2
         cases q1 : (f4 == 0) <;> cases q2 : decide (0 ≤ f5) <;> cases q3 : decide (f5 ≤ p)
         all_goals
          go_wp2_with fail
          go_ret
          exact ⟨by rw [← HM2.out, q1, q2, q3]; rfl, by rw [HSB.out]; exact HB9.out⟩
        ·have e2 : (f3 == 2) = false := by simpa using m2
         have HM2 : Hid (false = r) := by have := HM.out; rwa [if_neg m0, if_neg m1, if_neg m2] at this
         clear HM m0 m1 m2
         go_wp2_with fail
         go_ret
         exact ⟨by rw [← HM2.out]; rfl, by rw [HSB.out]; exact HB9.out⟩
     ·have hz : Hid (r = false) := by
       unfold Hid
       rw [HR.out]
       by_cases q1 : sm ≤ f2
       ·by_cases q2 : f2 ≤ f1
        ·rw [decide_eq_false (fun q3 => hq ⟨q1, q2, q3⟩ : ¬ f1 ≤ 10000)]
         simp
        ·rw [decide_eq_false q2]
         simp
       ·rw [decide_eq_false q1]
        simp
      have HQ := Lib.hid hq
      clear HR hq c6
      cases d1 : decide (f2 < sm) with
      | true =>
       clear HQ
       refine wp_region_held_drew (S := (fun W => Below sb w W ∧ Blk W sb 46 (t9 f0 f1 f2 f3 f4 f5 ra k rc f7 f8) ∧ W.cell? ⟨sb, 0, none⟩ = some (.string f0) ∧ W.cell? ⟨sb, 1, none⟩ = some (.int .i64 f1) ∧ W.cell? ⟨sb, 2, none⟩ = some (.int .i64 f2) ∧ W.cell? ⟨sb, 3, none⟩ = some (.int .i64 f3) ∧ W.cell? ⟨sb, 4, none⟩ = some (.int .i64 f4) ∧ W.cell? ⟨sb, 5, none⟩ = some (.int .i64 f5) ∧ W.cell? ⟨sb, 6, none⟩ = some (.slice ra k rc) ∧ W.cell? ⟨sb, 7, none⟩ = some (.int .u64 f7) ∧ W.cell? ⟨sb, 8, none⟩ = some (.int .u64 f8))) (by kernel_rfl) hS1' (fun hHeld => ?_)
       clear hS1 hS1'
       refine wpAnyH_take (i := 0) (oi := ⟨some 44, _, _, _, _, _⟩) (v := ?va0) rfl (by kernel_rfl) (by kernel_rfl) (by kernel_rfl) (fun _ _ _ h => h) (Or.inl ⟨by rfl, ?hya0⟩) (by assumption) ?resta0
       case hya0 => (intro W hSw; (try dsimp only at hSw); go_simp; all_goals (with_reducible rfl))
       try simp only [Act.put, List.setIfInBounds_toArray, List.set_cons_zero, List.set_cons_succ]
       refine wpAnyH_take (i := 2) (oi := ⟨some 46, _, _, _, _, _⟩) (v := ?va2) rfl (by kernel_rfl) (by kernel_rfl) (by kernel_rfl) (fun _ _ _ h => h) (Or.inl ⟨by rfl, ?hya2⟩) (by assumption) ?resta2
       case hya2 => (intro W hSw; (try dsimp only at hSw); go_simp; all_goals (with_reducible rfl))
       try simp only [Act.put, List.setIfInBounds_toArray, List.set_cons_zero, List.set_cons_succ]
       refine wpAnyH_take (i := 3) (oi := ⟨some 47, _, _, _, _, _⟩) (v := ?va3) rfl (by kernel_rfl) (by kernel_rfl) (by kernel_rfl) (fun _ _ _ h => h) (Or.inl ⟨by rfl, ?hya3⟩) (by assumption) ?resta3
       case hya3 => (intro W hSw; (try dsimp only at hSw); go_simp; all_goals (with_reducible rfl))
       try simp only [Act.put, List.setIfInBounds_toArray, List.set_cons_zero, List.set_cons_succ]
       refine wpAnyH_ready (rs := [1]) (by kernel_rfl) (by simp) ?_
       refine AllReadyH.cons (o := ⟨some 45, _, _, _, _, _⟩) rfl (fun K hK => ?_) AllReadyH.nil
       go_simp
       go_at_call 15
       refine (HWK.out _ (by rw [HSB.out]; exact And.left hHeld)).mono ?_
       rintro e' w8 ⟨rfl, hb8⟩
       have hS6 := s9_next hHeld hb8
       clear hb8 hHeld
       refine hK.out _ _ hS6 (fun hHeld => ?_)
       clear hK K
       try simp only [Act.put, List.setIfInBounds_toArray, List.set_cons_zero, List.set_cons_succ]
       refine wpAnyH_take (i := 4) (oi := ⟨some 48, _, _, _, _, _⟩) (v := ?va4) rfl (by kernel_rfl) (by kernel_rfl) (by kernel_rfl) (fun _ _ _ h => h) (Or.inl ⟨by rfl, ?hya4⟩) (by assumption) ?resta4
       case hya4 => (intro W hSw; (try dsimp only at hSw); go_simp; all_goals (with_reducible rfl))
       try simp only [Act.put, List.setIfInBounds_toArray, List.set_cons_zero, List.set_cons_succ]
       refine wpAnyH_take (i := 5) (oi := ⟨some 49, _, _, _, _, _⟩) (v := ?va5) rfl (by kernel_rfl) (by kernel_rfl) (by kernel_rfl) (fun _ _ _ h => h) (Or.inl ⟨by rfl, ?hya5⟩) (by assumption) ?resta5
       case hya5 => (intro W hSw; (try dsimp only at hSw); go_simp; all_goals (with_reducible rfl))
       try simp only [Act.put, List.setIfInBounds_toArray, List.set_cons_zero, List.set_cons_succ]
       refine wpAnyH_take (i := 6) (oi := ⟨some 50, _, _, _, _, _⟩) (v := undef) rfl (by kernel_rfl) (by kernel_rfl) (by kernel_rfl) (fun _ _ _ h => h) (Or.inr ⟨by rfl, rfl⟩) (by assumption) ?_
       try simp only [Act.put, List.setIfInBounds_toArray, List.set_cons_zero, List.set_cons_succ]
       refine wpAnyH_take (i := 7) (oi := ⟨some 51, _, _, _, _, _⟩) (v := undef) rfl (by kernel_rfl) (by kernel_rfl) (by kernel_rfl) (fun _ _ _ h => h) (Or.inr ⟨by rfl, rfl⟩) (by assumption) ?_
       try simp only [Act.put, List.setIfInBounds_toArray, List.set_cons_zero, List.set_cons_succ]
       refine wpAnyH_take (i := 8) (oi := ⟨some 52, _, _, _, _, _⟩) (v := undef) rfl (by kernel_rfl) (by kernel_rfl) (by kernel_rfl) (fun _ _ _ h => h) (Or.inr ⟨by rfl, rfl⟩) (by assumption) ?_
       try simp only [Act.put, List.setIfInBounds_toArray, List.set_cons_zero, List.set_cons_succ]
       refine wpAnyH_take (i := 9) (oi := ⟨some 53, _, _, _, _, _⟩) (v := undef) rfl (by kernel_rfl) (by kernel_rfl) (by kernel_rfl) (fun _ _ _ h => h) (Or.inr ⟨by rfl, rfl⟩) (by assumption) ?_
       try simp only [Act.put, List.setIfInBounds_toArray, List.set_cons_zero, List.set_cons_succ]
       refine wpAnyH_take (i := 10) (oi := ⟨some 54, _, _, _, _, _⟩) (v := undef) rfl (by kernel_rfl) (by kernel_rfl) (by kernel_rfl) (fun _ _ _ h => h) (Or.inr ⟨by rfl, rfl⟩) (by assumption) ?_
       try simp only [Act.put, List.setIfInBounds_toArray, List.set_cons_zero, List.set_cons_succ]
       refine wpAnyH_take (i := 11) (oi := ⟨some 55, _, _, _, _, _⟩) (v := ?va11) rfl (by kernel_rfl) (by kernel_rfl) (by kernel_rfl) (fun _ _ _ h => h) (Or.inl ⟨by rfl, ?hya11⟩) (by assumption) ?resta11
       case hya11 => (intro W hSw; (try dsimp only at hSw); go_simp; all_goals (with_reducible rfl))
       try simp only [Act.put, List.setIfInBounds_toArray, List.set_cons_zero, List.set_cons_succ]
       refine wpAnyH_take (i := 12) (oi := ⟨some 56, _, _, _, _, _⟩) (v := ?va12) rfl (by kernel_rfl) (by kernel_rfl) (by kernel_rfl) (fun _ _ _ h => h) (Or.inl ⟨by rfl, ?hya12⟩) (by assumption) ?resta12
       case hya12 => (intro W hSw; (try dsimp only at hSw); go_simp; all_goals (with_reducible rfl))
       try simp only [Act.put, List.setIfInBounds_toArray, List.set_cons_zero, List.set_cons_succ]
       refine wpAnyH_take (i := 13) (oi := ⟨some 57, _, _, _, _, _⟩) (v := undef) rfl (by kernel_rfl) (by kernel_rfl) (by kernel_rfl) (fun _ _ _ h => h) (Or.inr ⟨by rfl, rfl⟩) (by assumption) ?_
       try simp only [Act.put, List.setIfInBounds_toArray, List.set_cons_zero, List.set_cons_succ]
       refine wpAnyH_take (i := 14) (oi := ⟨some 58, _, _, _, _, _⟩) (v := undef) rfl (by kernel_rfl) (by kernel_rfl) (by kernel_rfl) (fun _ _ _ h => h) (Or.inr ⟨by rfl, rfl⟩) (by assumption) ?_
       try simp only [Act.put, List.setIfInBounds_toArray, List.set_cons_zero, List.set_cons_succ]
       refine wpAnyH_take (i := 15) (oi := ⟨some 59, _, _, _, _, _⟩) (v := undef) rfl (by kernel_rfl) (by kernel_rfl) (by kernel_rfl) (fun _ _ _ h => h) (Or.inr ⟨by rfl, rfl⟩) (by assumption) ?_
       try simp only [Act.put, List.setIfInBounds_toArray, List.set_cons_zero, List.set_cons_succ]
       refine wpAnyH_take (i := 16) (oi := ⟨some 60, _, _, _, _, _⟩) (v := ?va16) rfl (by kernel_rfl) (by kernel_rfl) (by kernel_rfl) (fun _ _ _ h => h) (Or.inl ⟨by rfl, ?hya16⟩) (by assumption) ?resta16
       case hya16 => (intro W hSw; (try dsimp only at hSw); go_simp; all_goals (with_reducible rfl))
       try simp only [Act.put, List.setIfInBounds_toArray, List.set_cons_zero, List.set_cons_succ]
       refine wpAnyH_done (by kernel_rfl) ?_ _
       go_wp2_with fail
       go_ret
       exact ⟨by rw [hz.out]; rfl, by rw [HSB.out]; exact hS6.1⟩
      | false =>
       cases d2 : decide (f1 < f2) with
       | true =>
        clear HQ
        refine wp_region_held_drew (S := (fun W => Below sb w W ∧ Blk W sb 46 (t9 f0 f1 f2 f3 f4 f5 ra k rc f7 f8) ∧ W.cell? ⟨sb, 0, none⟩ = some (.string f0) ∧ W.cell? ⟨sb, 1, none⟩ = some (.int .i64 f1) ∧ W.cell? ⟨sb, 2, none⟩ = some (.int .i64 f2) ∧ W.cell? ⟨sb, 3, none⟩ = some (.int .i64 f3) ∧ W.cell? ⟨sb, 4, none⟩ = some (.int .i64 f4) ∧ W.cell? ⟨sb, 5, none⟩ = some (.int .i64 f5) ∧ W.cell? ⟨sb, 6, none⟩ = some (.slice ra k rc) ∧ W.cell? ⟨sb, 7, none⟩ = some (.int .u64 f7) ∧ W.cell? ⟨sb, 8, none⟩ = some (.int .u64 f8))) (by kernel_rfl) hS1' (fun hHeld => ?_)
        clear hS1 hS1'
        refine wpAnyH_take (i := 0) (oi := ⟨some 44, _, _, _, _, _⟩) (v := ?vb0) rfl (by kernel_rfl) (by kernel_rfl) (by kernel_rfl) (fun _ _ _ h => h) (Or.inl ⟨by rfl, ?hyb0⟩) (by assumption) ?restb0
        case hyb0 => (intro W hSw; (try dsimp only at hSw); go_simp; all_goals (with_reducible rfl))
        try simp only [Act.put, List.setIfInBounds_toArray, List.set_cons_zero, List.set_cons_succ]
        refine wpAnyH_take (i := 2) (oi := ⟨some 46, _, _, _, _, _⟩) (v := ?vb2) rfl (by kernel_rfl) (by kernel_rfl) (by kernel_rfl) (fun _ _ _ h => h) (Or.inl ⟨by rfl, ?hyb2⟩) (by assumption) ?restb2
        case hyb2 => (intro W hSw; (try dsimp only at hSw); go_simp; all_goals (with_reducible rfl))
        try simp only [Act.put, List.setIfInBounds_toArray, List.set_cons_zero, List.set_cons_succ]
        refine wpAnyH_take (i := 3) (oi := ⟨some 47, _, _, _, _, _⟩) (v := ?vb3) rfl (by kernel_rfl) (by kernel_rfl) (by kernel_rfl) (fun _ _ _ h => h) (Or.inl ⟨by rfl, ?hyb3⟩) (by assumption) ?restb3
        case hyb3 => (intro W hSw; (try dsimp only at hSw); go_simp; all_goals (with_reducible rfl))
        try simp only [Act.put, List.setIfInBounds_toArray, List.set_cons_zero, List.set_cons_succ]
        refine wpAnyH_ready (rs := [1]) (by kernel_rfl) (by simp) ?_
        refine AllReadyH.cons (o := ⟨some 45, _, _, _, _, _⟩) rfl (fun K hK => ?_) AllReadyH.nil
        go_simp
        go_at_call 15
        refine (HWK.out _ (by rw [HSB.out]; exact And.left hHeld)).mono ?_
        rintro e' w8 ⟨rfl, hb8⟩
        have hS6 := s9_next hHeld hb8
        clear hb8 hHeld
        refine hK.out _ _ hS6 (fun hHeld => ?_)
        clear hK K
        try simp only [Act.put, List.setIfInBounds_toArray, List.set_cons_zero, List.set_cons_succ]
        refine wpAnyH_take (i := 4) (oi := ⟨some 48, _, _, _, _, _⟩) (v := ?vb4) rfl (by kernel_rfl) (by kernel_rfl) (by kernel_rfl) (fun _ _ _ h => h) (Or.inl ⟨by rfl, ?hyb4⟩) (by assumption) ?restb4
        case hyb4 => (intro W hSw; (try dsimp only at hSw); go_simp; all_goals (with_reducible rfl))
        try simp only [Act.put, List.setIfInBounds_toArray, List.set_cons_zero, List.set_cons_succ]
        refine wpAnyH_take (i := 5) (oi := ⟨some 49, _, _, _, _, _⟩) (v := ?vb5) rfl (by kernel_rfl) (by kernel_rfl) (by kernel_rfl) (fun _ _ _ h => h) (Or.inl ⟨by rfl, ?hyb5⟩) (by assumption) ?restb5
        case hyb5 => (intro W hSw; (try dsimp only at hSw); go_simp; all_goals (with_reducible rfl))
        try simp only [Act.put, List.setIfInBounds_toArray, List.set_cons_zero, List.set_cons_succ]
        refine wpAnyH_take (i := 6) (oi := ⟨some 50, _, _, _, _, _⟩) (v := ?vb6) rfl (by kernel_rfl) (by kernel_rfl) (by kernel_rfl) (fun _ _ _ h => h) (Or.inl ⟨by rfl, ?hyb6⟩) (by assumption) ?restb6
        case hyb6 => (intro W hSw; (try dsimp only at hSw); go_simp; all_goals (with_reducible rfl))
        try simp only [Act.put, List.setIfInBounds_toArray, List.set_cons_zero, List.set_cons_succ]
        refine wpAnyH_take (i := 7) (oi := ⟨some 51, _, _, _, _, _⟩) (v := ?vb7) rfl (by kernel_rfl) (by kernel_rfl) (by kernel_rfl) (fun _ _ _ h => h) (Or.inl ⟨by rfl, ?hyb7⟩) (by assumption) ?restb7
        case hyb7 => (intro W hSw; (try dsimp only at hSw); go_simp; all_goals (with_reducible rfl))
        try simp only [Act.put, List.setIfInBounds_toArray, List.set_cons_zero, List.set_cons_succ]
        refine wpAnyH_take (i := 8) (oi := ⟨some 52, _, _, _, _, _⟩) (v := ?vb8) rfl (by kernel_rfl) (by kernel_rfl) (by kernel_rfl) (fun _ _ _ h => h) (Or.inl ⟨by rfl, ?hyb8⟩) (by assumption) ?restb8
        case hyb8 => (intro W hSw; (try dsimp only at hSw); go_simp; all_goals (with_reducible rfl))
        try simp only [Act.put, List.setIfInBounds_toArray, List.set_cons_zero, List.set_cons_succ]
        refine wpAnyH_take (i := 9) (oi := ⟨some 53, _, _, _, _, _⟩) (v := ?vb9) rfl (by kernel_rfl) (by kernel_rfl) (by kernel_rfl) (fun _ _ _ h => h) (Or.inl ⟨by rfl, ?hyb9⟩) (by assumption) ?restb9
        case hyb9 => (intro W hSw; (try dsimp only at hSw); go_simp; all_goals (with_reducible rfl))
        try simp only [Act.put, List.setIfInBounds_toArray, List.set_cons_zero, List.set_cons_succ]
        refine wpAnyH_take (i := 10) (oi := ⟨some 54, _, _, _, _, _⟩) (v := ?vb10) rfl (by kernel_rfl) (by kernel_rfl) (by kernel_rfl) (fun _ _ _ h => h) (Or.inl ⟨by rfl, ?hyb10⟩) (by assumption) ?restb10
        case hyb10 => (intro W hSw; (try dsimp only at hSw); go_simp; all_goals (with_reducible rfl))
        try simp only [Act.put, List.setIfInBounds_toArray, List.set_cons_zero, List.set_cons_succ]
        refine wpAnyH_take (i := 11) (oi := ⟨some 55, _, _, _, _, _⟩) (v := ?vb11) rfl (by kernel_rfl) (by kernel_rfl) (by kernel_rfl) (fun _ _ _ h => h) (Or.inl ⟨by rfl, ?hyb11⟩) (by assumption) ?restb11
        case hyb11 => (intro W hSw; (try dsimp only at hSw); go_simp; all_goals (with_reducible rfl))
        try simp only [Act.put, List.setIfInBounds_toArray, List.set_cons_zero, List.set_cons_succ]
        refine wpAnyH_take (i := 12) (oi := ⟨some 56, _, _, _, _, _⟩) (v := ?vb12) rfl (by kernel_rfl) (by kernel_rfl) (by kernel_rfl) (fun _ _ _ h => h) (Or.inl ⟨by rfl, ?hyb12⟩) (by assumption) ?restb12
        case hyb12 => (intro W hSw; (try dsimp only at hSw); go_simp; all_goals (with_reducible rfl))
        try simp only [Act.put, List.setIfInBounds_toArray, List.set_cons_zero, List.set_cons_succ]
        refine wpAnyH_take (i := 13) (oi := ⟨some 57, _, _, _, _, _⟩) (v := undef) rfl (by kernel_rfl) (by kernel_rfl) (by kernel_rfl) (fun _ _ _ h => h) (Or.inr ⟨by rfl, rfl⟩) (by assumption) ?_
        try simp only [Act.put, List.setIfInBounds_toArray, List.set_cons_zero, List.set_cons_succ]
        refine wpAnyH_take (i := 14) (oi := ⟨some 58, _, _, _, _, _⟩) (v := undef) rfl (by kernel_rfl) (by kernel_rfl) (by kernel_rfl) (fun _ _ _ h => h) (Or.inr ⟨by rfl, rfl⟩) (by assumption) ?_
        try simp only [Act.put, List.setIfInBounds_toArray, List.set_cons_zero, List.set_cons_succ]
        refine wpAnyH_take (i := 15) (oi := ⟨some 59, _, _, _, _, _⟩) (v := undef) rfl (by kernel_rfl) (by kernel_rfl) (by kernel_rfl) (fun _ _ _ h => h) (Or.inr ⟨by rfl, rfl⟩) (by assumption) ?_
        try simp only [Act.put, List.setIfInBounds_toArray, List.set_cons_zero, List.set_cons_succ]
        refine wpAnyH_take (i := 16) (oi := ⟨some 60, _, _, _, _, _⟩) (v := ?vb16) rfl (by kernel_rfl) (by kernel_rfl) (by kernel_rfl) (fun _ _ _ h => h) (Or.inl ⟨by rfl, ?hyb16⟩) (by assumption) ?restb16
        case hyb16 => (intro W hSw; (try dsimp only at hSw); go_simp; all_goals (with_reducible rfl))
        try simp only [Act.put, List.setIfInBounds_toArray, List.set_cons_zero, List.set_cons_succ]
        refine wpAnyH_done (by kernel_rfl) ?_ _
        go_wp2_with fail
        go_ret
        exact ⟨by rw [hz.out]; rfl, by rw [HSB.out]; exact hS6.1⟩
       | false =>
        have d3 : decide (10000 < f1) = true := by
         simp at d1 d2 ⊢
         have := HQ.out
         omega
        clear HQ
        go_region_held3 (fun W => Below sb w W ∧ Blk W sb 46 (t9 f0 f1 f2 f3 f4 f5 ra k rc f7 f8) ∧ W.cell? ⟨sb, 0, none⟩ = some (.string f0) ∧ W.cell? ⟨sb, 1, none⟩ = some (.int .i64 f1) ∧ W.cell? ⟨sb, 2, none⟩ = some (.int .i64 f2) ∧ W.cell? ⟨sb, 3, none⟩ = some (.int .i64 f3) ∧ W.cell? ⟨sb, 4, none⟩ = some (.int .i64 f4) ∧ W.cell? ⟨sb, 5, none⟩ = some (.int .i64 f5) ∧ W.cell? ⟨sb, 6, none⟩ = some (.slice ra k rc) ∧ W.cell? ⟨sb, 7, none⟩ = some (.int .u64 f7) ∧ W.cell? ⟨sb, 8, none⟩ = some (.int .u64 f8)) (first | (with_reducible assumption)) ((go_at_call 15; refine (HWK.out _ (by rw [HSB.out]; exact And.left (‹Below sb w _ ∧ _›))).mono ?_; rintro e w8 ⟨rfl, hb8⟩; have hS6 := s9_next (by with_reducible assumption) hb8; clear hb8))
        go_wp2_with fail
        go_ret
        exact ⟨by rw [hz.out]; rfl, by rw [HSB.out]; exact hS6.1⟩
theorem is5 (x : S46) (p : Int) (hs : (x.f0.size : Int) ≤ 9223372036854775807) (hl : (x.f6.length : Int) ≤ 9223372036854775807) : ∃ b, (b = true → IsG x p) ∧ ∀ (w : World) (ra : Option Addr) (rc : Nat), Nums w ra x.f6 → Calls Tryz.prog 29 #[.agg (t9 x.f0 x.f1 x.f2 x.f3 x.f4 x.f5 ra x.f6.length rc x.f7 x.f8), .int .i64 p] w fun e w' => e = .returned (.bool b) ∧ Below w.heap.size w w' := by
 obtain ⟨bn, hbn, hname⟩ := name5 x.f0 hs
 by_cases hA : bn = true ∧ 1 ≤ x.f6.length ∧ x.f6.length ≤ 8 ∧ Go.bits .andNot .u64 x.f8 x.f7 = 0 ∧ GoodR x.f6
 ·obtain ⟨a1, a2, a3, a4, a5⟩ := hA
  refine ⟨decide (x.f6.sum ≤ x.f2) && decide (x.f2 ≤ x.f1) && decide (x.f1 ≤ 10000) && modeB x.f3 x.f4 x.f5 p, fun h => ?_, fun w ra rc hN => is_run p bn hname hl _ (fun h => ?_) (fun _ _ _ _ _ => rfl) w hN⟩
  ·simp only [Bool.and_eq_true, decide_eq_true_eq] at h
   obtain ⟨⟨⟨q1, q2⟩, q3⟩, q4⟩ := h
   refine ⟨hbn a1, a2, a3, a5, q1, q2, q3, ?_, a4⟩
   unfold modeB at q4
   unfold X.ModeOk
   split at q4
   ·simp only [Bool.and_eq_true, beq_iff_eq] at q4
    exact .inl ⟨‹_›, q4.1, q4.2⟩
   ·split at q4
    ·simp only [Bool.and_eq_true, beq_iff_eq, inB, decide_eq_true_eq] at q4
     exact .inr (.inl ⟨‹_›, q4.1.1, q4.1.2, q4.2⟩)
    ·split at q4
     ·simp only [Bool.and_eq_true, beq_iff_eq, decide_eq_true_eq] at q4
      exact .inr (.inr ⟨‹_›, q4.1.1, q4.1.2, q4.2⟩)
     ·cases q4
  ·exfalso
   rcases h with h | h | h | h | h
   ·rw [a1] at h; cases h
   ·omega
   ·omega
   ·exact h a4
   ·exact h a5
 ·refine ⟨false, fun h => (by cases h), fun w ra rc hN => is_run p bn hname hl false (fun _ => rfl) (fun a1 a2 a3 a4 a5 => absurd ⟨a1, a2, a3, a4, a5⟩ hA) w hN⟩
structure AllG (a : Int) (T : List S46) : Prop where
 a0 : 0 ≤ a
 a1 : a ≤ 10000
 n1 : 1 ≤ T.length
 n8 : T.length ≤ 8
 is : ∀ j (h : j < T.length), IsG T[j] j ∧ ∀ m (hm : m < j), T[m].f0 ≠ T[j].f0
def OkAt (T : List S46) (bs : Nat → Bool) (j : Nat) : Prop := bs j = true ∧ ∀ m, m < j → (T.getD m z46).f0 ≠ (T.getD j z46).f0
set_option maxHeartbeats 16000000 in
theorem all_run {rel : Int} {L : List S46} {A : Option Addr} {c : Nat} (bs : Nat → Bool) (hbs : ∀ j, j < L.length → ∀ (w : World) (ra : Option Addr) (rc : Nat), Nums w ra (L.getD j z46).f6 → Calls Tryz.prog 29 #[.agg (t9 (L.getD j z46).f0 (L.getD j z46).f1 (L.getD j z46).f2 (L.getD j z46).f3 (L.getD j z46).f4 (L.getD j z46).f5 ra (L.getD j z46).f6.length rc (L.getD j z46).f7 (L.getD j z46).f8), .int .i64 (j : Int)] w fun e w' => e = .returned (.bool (bs j)) ∧ Below w.heap.size w w')
  (r : Bool) (h1 : inB rel 0 10000 = false ∨ L.length < 1 ∨ 8 < L.length ∨ (∃ j, j < L.length ∧ ¬ OkAt L bs j) → r = false) (h2 : inB rel 0 10000 = true → 1 ≤ L.length → L.length ≤ 8 → (∀ j, j < L.length → OkAt L bs j) → r = true)
  (hl : (L.length : Int) ≤ 9223372036854775807) (w : World) (hS : ∀ w', Below w.heap.size w w' → Src w' A L) :
  Calls Tryz.prog 13 #[.agg #[.int .i64 rel, .slice A L.length c]] w fun e w' => e = .returned (.bool r) ∧ Below w.heap.size w w' := by
 have HB1 := Lib.hid ((Below.refl w.heap.size w).alloc (Nat.le_refl _) (.cells #[.int .i64 rel, .slice A L.length c] 24))
 have HD := Lib.hid (Blk.new w 24 #[.int .i64 rel, .slice A L.length c])
 have HBS := Lib.hid hbs
 have HS := Lib.hid hS
 have H1 := Lib.hid h1
 have H2 := Lib.hid h2
 obtain ⟨n, hn⟩ : ∃ n, L.length = n := ⟨_, rfl⟩
 have HL := Lib.hid hn
 rw [hn] at HB1 HD HBS H1 H2 hl ⊢
 obtain ⟨sb, hsb⟩ : ∃ sb, w.heap.size = sb := ⟨_, rfl⟩
 have HSB := Lib.hid hsb
 clear hbs hS h1 h2 hn hsb
 go_enter Tryz.func13, Tryz.ntmps13
 go_upto_region 1 with fail
 obtain ⟨w1, hw1⟩ : ∃ w1, w.alloc (.cells #[.int .i64 rel, .slice A n c] 24) = w1 := ⟨_, rfl⟩
 rw [hw1] at HB1 HD ⊢
 rw [HSB.out] at HB1 HD ⊢
 clear hw1
 have c0 : w1.cell? ⟨sb, 0, none⟩ = some (.int .i64 rel) := HD.out.cell 0
 have hsl := HD.out.lt
 cases hin : inB rel 0 10000 with
 | false =>
  have hz : Hid (r = false) := H1.out (.inl hin)
  have HI := Lib.hid hin
  clear H1 H2 hin
  go_wp2_with (go_at_call 28; refine (in5 _ _ _ _).mono ?_; rintro e w2 ⟨rfl, hb⟩; rw [HI.out]; have HB2 := Lib.hid (HB1.out.trans (hb.mono (Nat.le_of_lt hsl))); clear hb)
  go_ret
  exact ⟨by rw [hz.out]; rfl, by rw [HSB.out]; exact HB2.out⟩
 | true =>
  have HI := Lib.hid hin
  by_cases hA : 1 ≤ n ∧ n ≤ 8
  case neg =>
   have hz : Hid (r = false) := by
    refine H1.out ?_
    by_cases a1 : 1 ≤ n
    ·exact .inr (.inr (.inl (by omega)))
    ·exact .inr (.inl (by omega))
   have HA := Lib.hid hA
   clear H1 H2 hA hin
   cases a1 : decide ((n : Int) < 1) with
   | true =>
    go_wp2_with (go_at_call 28; refine (in5 _ _ _ _).mono ?_; rintro e w2 ⟨rfl, hb⟩; rw [HI.out]; have HB2 := Lib.hid (HB1.out.trans (hb.mono (Nat.le_of_lt hsl))); have c1 : w2.cell? ⟨sb, 1, none⟩ = some (.slice A n c) := (HD.out.below hb hsl).cell 1; have hs2 := (HD.out.below hb hsl).lt; clear hb)
    go_ret
    exact ⟨by rw [hz.out]; rfl, by rw [HSB.out]; exact HB2.out⟩
   | false =>
    have a2 : decide ((8 : Int) < (n : Int)) = true := by
     simp at a1 ⊢
     have := HA.out
     omega
    go_wp2_with (go_at_call 28; refine (in5 _ _ _ _).mono ?_; rintro e w2 ⟨rfl, hb⟩; rw [HI.out]; have HB2 := Lib.hid (HB1.out.trans (hb.mono (Nat.le_of_lt hsl))); have c1 : w2.cell? ⟨sb, 1, none⟩ = some (.slice A n c) := (HD.out.below hb hsl).cell 1; have hs2 := (HD.out.below hb hsl).lt; clear hb)
    go_ret
    exact ⟨by rw [hz.out]; rfl, by rw [HSB.out]; exact HB2.out⟩
  case pos =>
   obtain ⟨b1, b2⟩ := hA
   have a1 : decide ((n : Int) < 1) = false := by simp; omega
   have a2 : decide ((8 : Int) < (n : Int)) = false := by simp; omega
   have HNO : Hid ((∃ j, j < n ∧ ¬ OkAt L bs j) → r = false) := fun h => H1.out (.inr (.inr (.inr h)))
   have HYE : Hid ((∀ j, j < n → OkAt L bs j) → r = true) := fun h => H2.out hin b1 b2 h
   clear H1 H2 hin
   go_wp2_with (go_at_call 28; refine (in5 _ _ _ _).mono ?_; rintro e w2 ⟨rfl, hb⟩; rw [HI.out]; have HB2 := Lib.hid (HB1.out.trans (hb.mono (Nat.le_of_lt hsl))); have HD2 := Lib.hid (HD.out.below hb hsl); have c1 : w2.cell? ⟨sb, 1, none⟩ = some (.slice A n c) := HD2.out.cell 1; have hs2 := HD2.out.lt; clear hb)
   clear c0 c1 hsl a1 a2
   go_loopw [3] (fun z wr => ∃ j : Nat, j ≤ n ∧ z = .int .i64 j ∧ (∀ i, i < j → OkAt L bs i) ∧ Below w2.heap.size w2 wr) (fun z _ => n - (intOf z).toNat)
   case atStart => exact ⟨0, Nat.zero_le _, rfl, fun i h => absurd h (Nat.not_lt_zero i), Below.refl _ _⟩
   case round =>
    obtain ⟨j, hj, rfl, hok, hbw⟩ := hrel
    have HOK := Lib.hid hok
    have HDR := Lib.hid (HD2.out.below hbw hs2)
    have HBW := Lib.hid hbw
    have hsb2 : sb ≤ w2.heap.size := Nat.le_of_lt hs2
    have HBX := Lib.hid (HB2.out.trans (hbw.mono hsb2))
    have hsr := HDR.out.lt
    have c1 : wr.cell? ⟨sb, 1, none⟩ = some (.slice A n c) := HDR.out.cell 1
    clear hok hbw
    by_cases hlt : j < n
    ·have hjl : j < L.length := by rw [HL.out]; exact hlt
     rcases HS.out wr (by rw [HSB.out]; exact HBX.out) with h0 | ⟨b, off, rfl, hbl, hcell⟩
     ·exfalso
      rw [h0] at hjl
      simp at hjl
     obtain ⟨ra, rc, g0, g1, g2, g3, g4, g5, g6, g7, g8, hN, -⟩ := hcell j (L.getD j z46) (by simp [List.getD_eq_getElem?_getD, List.getElem?_eq_getElem hjl])
     have HCJ := Lib.hid (HBS.out j hlt wr ra rc hN)
     have hnok : bs j = false → r = false := fun h => HNO.out ⟨j, hlt, fun hh => by have := hh.1; rw [h] at this; cases this⟩
     have hnam : bs j = true → (∃ m, m < j ∧ (L.getD m z46).f0 = (L.getD j z46).f0) → r = false := fun _ ⟨m, hm, he⟩ => HNO.out ⟨j, hlt, fun hh => hh.2 m hm he⟩
     have hyes : bs j = true → (∀ m, m < j → (L.getD m z46).f0 ≠ (L.getD j z46).f0) → ∀ i, i < j + 1 → OkAt L bs i := fun hb hm i hi => by
      by_cases ei : i = j
      ·subst ei; exact ⟨hb, hm⟩
      ·exact HOK.out i (by omega)
     obtain ⟨x, hx⟩ : ∃ x, L.getD j z46 = x := ⟨_, rfl⟩
     have HX := Lib.hid hx
     rw [hx] at g0 g1 g2 g3 g4 g5 g6 g7 g8 HCJ hnam hyes
     have HNAM := Lib.hid hnam
     have HYES := Lib.hid hyes
     have HNOK := Lib.hid hnok
     have j0 : (0 : Int) ≤ (j : Int) := by omega
     have j1 : (j : Int) < (n : Int) := by omega
     unfold t9 at HCJ
     clear hcell hjl hx hnam hyes hnok hN
     cases hbj : bs j with
     | false =>
      have hz : Hid (r = false) := HNOK.out hbj
      have HBJ := Lib.hid hbj
      clear hbj
      go_wp2_with (go_at_call 29; refine (HCJ.out).mono ?_; rintro e w5 ⟨rfl, hb⟩; rw [HBJ.out]; have HB5 := Lib.hid (HBX.out.trans (hb.mono (Nat.le_of_lt hsr))); clear hb)
      go_ret
      exact ⟨by rw [hz.out]; rfl, by rw [HSB.out]; exact HB5.out⟩
     | true =>
      have HBJ := Lib.hid hbj
      clear hbj
      go_wp2_with (go_at_call 29; refine (HCJ.out).mono ?_; rintro e w5 ⟨rfl, hb⟩; rw [HBJ.out]; have HB5 := Lib.hid (HBW.out.trans (hb.mono HBW.out.size)); have HD5 := Lib.hid (HDR.out.below hb hsr); have hs5 := HD5.out.lt; clear hb)
      clear g0 g1 g2 g3 g4 g5 g6 g7 g8 c1
      go_loopw [4] (fun z wq => ∃ k : Nat, k ≤ j ∧ z = .int .i64 k ∧ (∀ m, m < k → (L.getD m z46).f0 ≠ x.f0) ∧ Below w5.heap.size w5 wq) (fun z _ => j - (intOf z).toNat)
      case atStart => exact ⟨0, Nat.zero_le _, rfl, fun i h => absurd h (Nat.not_lt_zero i), Below.refl _ _⟩
      case round =>
       obtain ⟨k, hk, rfl, hnm, hbq⟩ := hrel
       have HNM := Lib.hid hnm
       have HBQ := Lib.hid hbq
       have HDQ := Lib.hid (HD5.out.below hbq hs5)
       have hsq := HDQ.out.lt
       have HBZ := Lib.hid (HB5.out.trans (hbq.mono HB5.out.size))
       have HBV := Lib.hid (HB2.out.trans (HBZ.out.mono hsb2))
       have c1 : wr.cell? ⟨sb, 1, none⟩ = some (.slice (some ⟨b, off, none⟩) n c) := HDQ.out.cell 1
       clear hnm hbq
       by_cases hkj : k < j
       ·have hkl : k < L.length := by rw [HL.out]; omega
        have hjl : j < L.length := by rw [HL.out]; exact hlt
        rcases HS.out wr (by rw [HSB.out]; exact HBV.out) with h0 | ⟨b', off', e', hbl', hcell⟩
        ·exfalso
         rw [h0] at hkl
         simp at hkl
        injection e' with e'
        injection e' with e1 e2
        subst e1 e2
        obtain ⟨_, _, g0, -⟩ := hcell j (L.getD j z46) (by simp [List.getD_eq_getElem?_getD, List.getElem?_eq_getElem hjl])
        obtain ⟨_, _, p0, -⟩ := hcell k (L.getD k z46) (by simp [List.getD_eq_getElem?_getD, List.getElem?_eq_getElem hkl])
        rw [HX.out] at g0
        have hst : (L.getD k z46).f0 ≠ x.f0 → ∀ m, m < k + 1 → (L.getD m z46).f0 ≠ x.f0 := fun hy m hm => by
         by_cases em : m = k
         ·subst em; exact hy
         ·exact HNM.out m (by omega)
        have hbad : (L.getD k z46).f0 = x.f0 → r = false := fun he => HNAM.out HBJ.out ⟨k, hkj, he⟩
        obtain ⟨y, hy⟩ : ∃ y, (L.getD k z46).f0 = y := ⟨_, rfl⟩
        rw [hy] at p0 hst hbad
        have HST := Lib.hid hst
        have HBD := Lib.hid hbad
        have k0 : (0 : Int) ≤ (k : Int) := by omega
        have k1 : (k : Int) < (n : Int) := by omega
        have k2 : (k : Int) < (j : Int) := by omega
        clear hcell hkl hjl hy hst hbad
        by_cases hey : y = x.f0
        ·have hz : Hid (r = false) := HBD.out hey
         subst hey
         go_upto_region 11 with fail
         go_quiet (fail)
         go_wp2_with fail
         go_ret
         exact ⟨by rw [hz.out]; rfl, by rw [HSB.out]; exact below_drewN HBV.out _⟩
        ·have q2 : (y.toList == x.f0.toList) = false := by
          rw [beq_eq_false_iff_ne]
          intro h
          exact hey (X.toList_inj'.1 h)
         have HS2 := Lib.hid (HST.out hey)
         clear hey
         go_upto_region 11 with fail
         go_quiet (fail)
         go_wp2_with fail
         go_roundw
         case rel => exact ⟨k + 1, by omega, by go_num, HS2.out, below_drewN HBQ.out _⟩
         case measure => simp [intOf]; omega
       ·obtain rfl : k = j := by omega
        have HY2 := Lib.hid (HYES.out HBJ.out HNM.out)
        have k2 : ¬ (k : Int) < (k : Int) := by omega
        go_wp2_with fail
        go_roundw
        case rel => exact ⟨k + 1, by omega, by go_num, HY2.out, HBZ.out⟩
        case measure => simp [intOf]; omega
    ·obtain rfl : j = n := by omega
     have hz : Hid (r = true) := HYE.out HOK.out
     go_wp2_with fail
     go_ret
     exact ⟨by rw [hz.out]; rfl, by rw [HSB.out]; exact HBX.out⟩
theorem all5 {rel : Int} {L : List S46} (hk : ∀ x ∈ L, (x.f0.size : Int) ≤ 9223372036854775807) (hr : ∀ x ∈ L, (x.f6.length : Int) ≤ 9223372036854775807) (hl : (L.length : Int) ≤ 9223372036854775807) :
  ∃ b, (b = true → AllG rel L) ∧ ∀ (w : World) (A : Option Addr) (c : Nat), (∀ w', Below w.heap.size w w' → Src w' A L) → Calls Tryz.prog 13 #[.agg #[.int .i64 rel, .slice A L.length c]] w fun e w' => e = .returned (.bool b) ∧ Below w.heap.size w w' := by
 have hex : ∀ j, ∃ b, (∀ h : j < L.length, b = true → IsG L[j] j) ∧ (j < L.length → ∀ (w : World) (ra : Option Addr) (rc : Nat), Nums w ra (L.getD j z46).f6 → Calls Tryz.prog 29 #[.agg (t9 (L.getD j z46).f0 (L.getD j z46).f1 (L.getD j z46).f2 (L.getD j z46).f3 (L.getD j z46).f4 (L.getD j z46).f5 ra (L.getD j z46).f6.length rc (L.getD j z46).f7 (L.getD j z46).f8), .int .i64 (j : Int)] w fun e w' => e = .returned (.bool b) ∧ Below w.heap.size w w') := fun j => by
  by_cases hj : j < L.length
  ·have e : L.getD j z46 = L[j] := by simp [List.getD_eq_getElem?_getD, List.getElem?_eq_getElem hj]
   obtain ⟨b, h1, h2⟩ := is5 L[j] j (hk _ (List.getElem_mem hj)) (hr _ (List.getElem_mem hj))
   rw [e]
   exact ⟨b, fun _ => h1, fun _ => h2⟩
  ·exact ⟨false, fun h => absurd h hj, fun h => absurd h hj⟩
 obtain ⟨bs, hbs⟩ := Classical.axiomOfChoice hex
 have hrun := fun r h1 h2 w A c hS => all_run (rel := rel) (L := L) (A := A) (c := c) bs (fun j hj => (hbs j).2 hj) r h1 h2 hl w hS
 by_cases hA : inB rel 0 10000 = true ∧ 1 ≤ L.length ∧ L.length ≤ 8 ∧ ∀ j, j < L.length → OkAt L bs j
 ·obtain ⟨a1, a2, a3, a4⟩ := hA
  refine ⟨true, fun _ => ⟨?_, ?_, a2, a3, fun j hj => ⟨(hbs j).1 hj (a4 j hj).1, fun m hm => ?_⟩⟩, fun w A c hS => hrun true (fun h => ?_) (fun _ _ _ _ => rfl) w A c hS⟩
  ·unfold inB at a1
   simp only [Bool.and_eq_true, decide_eq_true_eq] at a1
   exact a1.1
  ·unfold inB at a1
   simp only [Bool.and_eq_true, decide_eq_true_eq] at a1
   exact a1.2
  ·have := (a4 j hj).2 m hm
   have hm' : m < L.length := by omega
   simpa [List.getD_eq_getElem?_getD, List.getElem?_eq_getElem hj, List.getElem?_eq_getElem hm'] using this
  ·exfalso
   rcases h with h | h | h | ⟨j, hj, h⟩
   ·rw [a1] at h; cases h
   ·omega
   ·omega
   ·exact h (a4 j hj)
 ·exact ⟨false, fun h => (by cases h), fun w A c hS => hrun false (fun _ => rfl) (fun a1 a2 a3 a4 => absurd ⟨a1, a2, a3, a4⟩ hA) w A c hS⟩
end Go.Proofs.YtdgfjpbjiccllaaGreatDoor.A
namespace Go.Proofs.YtdgfjpbjiccllaaGreatDoor.F
open Go.RowKit
open YtdgfjpbjiccllaaGreatDoorW.PrintWords YtdgfjpbjiccllaaGreatDoorW.PrintLast YtdgfjpbjiccllaaGreatDoorW.PrintMore
set_option maxRecDepth 100000
def truncW (b : Nat) : Nat := FloatKind.f64.encode ((FloatKind.f64.decode b).integral .zero)
theorem entry_trunc (b : Nat) (h : (FloatKind.f64.decode b).isNaN = false) : Extern.MathFloor.toIntegral "math.archTrunc" .zero #[.float .f64 b] = pure (.float .f64 (truncW b)) := by
 unfold truncW
 change (match FloatKind.f64.decode b with
  | .nan s t => (if FloatKind.f64.format.quiet t = t then pure (.float .f64 b) else do
   let kept ← choose (.extern "math.Floor,Ceil,Trunc,RoundToEven.signallingNaN kept" 2)
   pure (.float .f64 (if kept == 1 then b else FloatKind.f64.encode (.nan s (FloatKind.f64.format.quiet t)))))
  | d => pure (.float .f64 (FloatKind.f64.encode (d.integral .zero))) : Sem Value) = _
 cases hd : FloatKind.f64.decode b with
 | nan s t => rw [hd] at h; cases h
 | number s m e => rfl
 | infinity s => rfl
theorem run_trunc (b : Nat) (h : (FloatKind.f64.decode b).isNaN = false) (w : World) : (callFunc 194 #[.float .f64 b]).run Tryz.prog w = .ok (.value (.float .f64 (truncW b))) w := by
 rw [run_callFunc_extern (e := Extern.MathFloor.toIntegral "math.archTrunc" .zero) Tryz.func194 (by kernel_rfl) (by kernel_rfl) (by kernel_rfl) (by kernel_rfl), entry_trunc b h]
 rfl
theorem trunc_any (b : Nat) (h : (FloatKind.f64.decode b).isNaN = false) (w : World) : Calls Tryz.prog 191 #[.float .f64 b] w fun e w' => e = .returned (.float .f64 (truncW b)) ∧ w = w' := by
 have hr := run_trunc b h w
 obtain ⟨y, hy⟩ : ∃ y, truncW b = y := ⟨_, rfl⟩
 rw [hy] at hr ⊢
 clear hy h
 go_enter Tryz.func191, Tryz.ntmps191
 go_wp2; go_ret
 exact ⟨rfl, rfl⟩
def geW (b : Nat) : Bool := FloatKind.f64.format.order b 0 == some .gt || FloatKind.f64.format.order b 0 == some .eq
def leW (b : Nat) : Bool := FloatKind.f64.format.order b 4787326403894837248 == some .lt || FloatKind.f64.format.order b 4787326403894837248 == some .eq
def fracW (b : Nat) : Bool := FloatKind.f64.format.order (truncW b) b != some .eq
def okW (b : Nat) : Bool := geW b && leW b && !fracW b
theorem nan_no {b : Nat} (h : geW b = true) : (FloatKind.f64.decode b).isNaN = false := by
 cases hd : FloatKind.f64.decode b with
 | number s m e => rfl
 | infinity s => rfl
 | nan s t =>
  exfalso
  unfold geW Ieee.Format.order at h
  rw [show FloatKind.f64.format.read b = FloatKind.f64.decode b from rfl, hd] at h
  simp [Ieee.Datum.order] at h
theorem conv_any (b : Nat) (w : World) : ∃ (n : Int) (w' : World), (convert 245 2 (.float .f64 b)).run Tryz.prog w = .ok (.int .i64 n) w' ∧ Below w.heap.size w w' := by
 have hs := Tryz.underlying245
 have hd := Tryz.underlying2
 cases hq : floatToIntVal .f64 b .i64 with
 | some n => exact ⟨n, w, run_convert_float_int (P := Tryz.prog) w 245 2 .f64 .i64 b n (by rw [hs]; rfl) hd hq, Below.refl _ _⟩
 | none =>
  unfold floatToIntVal at hq
  have e : (convert 245 2 (.float .f64 b)).run Tryz.prog w = ((choose (.floatToInt .f64 b .i64)).run Tryz.prog w).andThen fun v w' => .ok (.int .i64 (IntKind.i64.wrap v)) w' := by
   split at hq
   ·rename_i m he
    split at hq
    ·cases hq
    ·rename_i hb
     simp [convert, run_underlying hs, run_underlying hd, Conv.floatToInt, he]
     intro h1 h2
     exact absurd ⟨h1, h2⟩ hb
   ·rename_i he
    simp [convert, run_underlying hs, run_underlying hd, Conv.floatToInt, he]
  rw [e, run_choose_drew]
  split
  ·exact ⟨_, w, rfl, Below.refl _ _⟩
  ·exact ⟨_, w.drew, rfl, (Below.refl _ _).drew⟩
theorem whole_any (b : Nat) (w : World) : Calls Tryz.prog 185 #[.float .f64 b] w fun e w' => ∃ n : Int, e = .returned (.tuple #[.int .i64 n, .bool (okW b)]) ∧ Below w.heap.size w w' := by
 unfold okW
 cases h1 : geW b with
 | false =>
  unfold geW at h1
  go_enter Tryz.func185, Tryz.ntmps185
  go_wp2_with fail
  go_ret2
  exact ⟨_, rfl, Below.refl _ _⟩
 | true =>
  have HT := Lib.hid (trunc_any b (nan_no h1))
  unfold geW at h1
  cases h2 : leW b with
  | false =>
   unfold leW at h2
   go_enter Tryz.func185, Tryz.ntmps185
   go_wp2_with (go_at_call 191; refine (HT.out _).mono ?_; rintro e w' ⟨rfl, rfl⟩)
   go_ret2
   exact ⟨_, rfl, Below.refl _ _⟩
  | true =>
   unfold leW at h2
   obtain ⟨n, w9, hc, hb⟩ := conv_any b w
   cases h3 : fracW b with
   | false =>
    unfold fracW at h3
    go_enter Tryz.func185, Tryz.ntmps185
    go_wp2_with (go_at_call 191; refine (HT.out _).mono ?_; rintro e w' ⟨rfl, rfl⟩)
    go_ret2
    exact ⟨_, rfl, hb⟩
   | true =>
    unfold fracW at h3
    go_enter Tryz.func185, Tryz.ntmps185
    go_wp2_with (go_at_call 191; refine (HT.out _).mono ?_; rintro e w' ⟨rfl, rfl⟩)
    go_ret2
    exact ⟨_, rfl, Below.refl _ _⟩
end Go.Proofs.YtdgfjpbjiccllaaGreatDoor.F
namespace Go.Proofs.YtdgfjpbjiccllaaGreatDoor.F
open Go.RowKit
open X (TOk work_f nums_C)
open V (U64 count_f cnt)
open YtdgfjpbjiccllaaGreatDoorW.PrintWords YtdgfjpbjiccllaaGreatDoorW.PrintLast YtdgfjpbjiccllaaGreatDoorW.PrintMore
open PTopLoads
set_option maxRecDepth 100000
theorem is_some' (z : Int) : ∃ b, num_Is.f z = some b := by
 unfold num_Is.f
 split <;> exact ⟨_, rfl⟩
theorem add_some (a b : Int) : ∃ r, num_Add.f a b = some r := by
 unfold num_Add.f num_told.f
 obtain ⟨x, hx⟩ := is_some' a
 obtain ⟨y, hy⟩ := is_some' b
 obtain ⟨z, hz⟩ := is_some' (wrap64 (a + b))
 rw [hx, hy, hz]
 cases x <;> cases y <;> cases z <;> exact ⟨_, rfl⟩
theorem Add_any (a b : Int) (w : World) : Calls Tryz.prog 170 #[.int .i64 a, .int .i64 b] w fun e w' => ∃ (n : Int) (ok : Bool), e = .returned (.tuple #[.int .i64 n, .bool ok]) ∧ Below w.heap.size w w' := by
 obtain ⟨⟨n, ok⟩, h⟩ := add_some a b
 exact (num_Add.calls a b n ok w h).mono fun e w' ⟨he, hd⟩ => ⟨n, ok, he, hd.below⟩
theorem parts_any (a b : Nat) (w : World) : Calls Tryz.prog 169 #[.complex .f64 a b] w fun e w' => ∃ n m : Int, e = .returned (.tuple #[.int .i64 n, .int .i64 m, .bool (okW a && okW b)]) ∧ Below w.heap.size w w' := by
 have HW := Lib.hid (fun c w' => whole_any c w')
 cases h1 : okW a <;> cases h2 : okW b
 all_goals
  have H1 := Lib.hid h1
  have H2 := Lib.hid h2
  clear h1 h2
  have HB0 := Lib.hid (Below.refl w.heap.size w)
  go_enter Tryz.func169, Tryz.ntmps169
  go_wp2_with (go_at_call 185; refine (HW.out _ _).mono ?_; rintro e w' ⟨n, rfl, hb⟩; (first | rw [H1.out] | rw [H2.out]); have HB0 := Lib.hid (HB0.out.trans (hb.mono HB0.out.size)); clear hb)
  go_ret3
  exact ⟨_, _, rfl, HB0.out⟩
theorem total_any (a b : Nat) (w : World) : Calls Tryz.prog 154 #[.complex .f64 a b] w fun e w' => ∃ (n : Int) (ok : Bool), e = .returned (.tuple #[.int .i64 n, .bool ok]) ∧ Below w.heap.size w w' := by
 have HP := Lib.hid (parts_any a b)
 have HA := Lib.hid Add_any
 cases h : (okW a && okW b) with
 | false =>
  rw [h] at HP
  go_enter Tryz.func154, Tryz.ntmps154
  go_wp2_with (go_at_call 169; refine (HP.out _).mono ?_; rintro e w2 ⟨n, m, rfl, hb⟩; have HB := Lib.hid hb; clear hb)
  go_ret2
  exact ⟨_, _, rfl, HB.out⟩
 | true =>
  rw [h] at HP
  go_enter Tryz.func154, Tryz.ntmps154
  go_wp2_with (first | (go_at_call 169; refine (HP.out _).mono ?_; rintro e w2 ⟨n, m, rfl, hb⟩; have HB := Lib.hid hb; clear hb) | (go_at_call 170; refine (HA.out _ _ _).mono ?_; rintro e w3 ⟨k, ok, rfl, hb⟩; have HB3 := Lib.hid hb; clear hb))
  go_ret2
  exact ⟨_, _, rfl, HB.out.trans (HB3.out.mono HB.out.size)⟩
def isN (z : Int) : Bool := (num_Is.f z).getD false
theorem Is_any (z : Int) (w : World) : Calls Tryz.prog 184 #[.int .i64 z] w fun e w' => e = .returned (.bool (isN z)) ∧ Below w.heap.size w w' := by
 obtain ⟨b, h⟩ := is_some' z
 have e : isN z = b := by unfold isN; rw [h]; rfl
 rw [e]
 exact (num_Is.calls z b w h).mono fun e w' ⟨he, hd⟩ => ⟨he, hd.below⟩
theorem Of_any (a b : Int) (w : World) : Calls Tryz.prog 167 #[.int .i64 a, .int .i64 b] w fun e w' => ∃ (x y : Nat) (ok : Bool), e = .returned (.tuple #[.complex .f64 x y, .bool ok]) ∧ Below w.heap.size w w' := by
 have HP := Lib.hid Is_any
 have HB0 := Lib.hid (Below.refl w.heap.size w)
 cases h1 : isN a <;> cases h2 : isN b
 all_goals
  have H1 := Lib.hid h1
  have H2 := Lib.hid h2
  clear h1 h2
  go_enter Tryz.func167, Tryz.ntmps167
  go_wp2_with (go_at_call 184; refine (HP.out _ _).mono ?_; rintro e w' ⟨rfl, hb⟩; (first | rw [H1.out] | rw [H2.out]); have HB0 := Lib.hid (HB0.out.trans (hb.mono HB0.out.size)); clear hb)
  go_ret2
  exact ⟨_, _, _, rfl, HB0.out⟩
theorem nat_lt64 {z : Int} (h : 0 ≤ z ∧ z < 18446744073709551616) : z.toNat < 18446744073709551616 := by omega
theorem and_lt64 {x a : Nat} (ha : a < 18446744073709551616) : (0 : Int) ≤ ((x &&& a : Nat) : Int) ∧ ((x &&& a : Nat) : Int) < 18446744073709551616 := by
 have : x &&& a < 18446744073709551616 := Nat.lt_of_le_of_lt Nat.and_le_right ha
 omega
theorem ticks_some (rel : Int) (L : List S46) (x : Int) (h0 : 0 ≤ x) (h1 : x < 18446744073709551616) : ∃ r, again_ticks.f rel L x = some r := by
 unfold again_ticks.f
 have := count_f x.toNat (by omega)
 rw [Int.toNat_of_nonneg h0] at this
 rw [this]
 exact ⟨_, rfl⟩
theorem own_some (rel : Int) (L : List S46) (hU : U64 L) (i : Nat) (hi : i < L.length) : ∃ r, again_Own.f rel L i = some r := by
 unfold again_Own.f again_is.f
 have er : rd_T46 L (i : Int) = L[i] := by simp [rd_T46, List.getD_eq_getElem?_getD, hi]
 have hx := hU L[i] (List.getElem_mem hi)
 obtain ⟨r, hr⟩ := ticks_some rel L L[i].f8 hx.2.1 hx.2.2
 rw [if_pos (by omega), Option.bind_some, if_pos (by simp; omega), if_pos (by omega), if_pos (by omega), er, hr]
 exact ⟨_, rfl⟩
theorem wrap_succ (j : Nat) (h : j < 1000) : wrap64 ((j : Int) + 1) = ((j + 1 : Nat) : Int) := by unfold wrap64; omega
theorem u64_or (a b : Nat) (ha : a < 18446744073709551616) (hb : b < 18446744073709551616) : a ||| b < 18446744073709551616 := by
 have : a ||| b < 2 ^ 64 := Nat.or_lt_two_pow (by omega) (by omega)
 omega
theorem made_l_some (rel : Int) (L M : List S46) (hU : U64 L) (hM : U64 M) (hl : M.length ≤ 8) (i : Nat) (hi : i < L.length) : ∀ (n j k a : Nat), j + n = M.length → n < k → a < 18446744073709551616 → ∃ r, again_Made.l0 k (i : Int) (a : Int) M (M.length : Int) (j : Int) rel L = some r
 | 0, j, k, a, hj, hk, ha => by
  obtain ⟨k, rfl⟩ : ∃ q, k = q + 1 := ⟨k - 1, by omega⟩
  unfold again_Made.l0
  have er : rd_T46 L (i : Int) = L[i] := by simp [rd_T46, List.getD_eq_getElem?_getD, hi]
  have hx := hU L[i] (List.getElem_mem hi)
  have hand := bits_and_u64_nat L[i].f7.toNat a (nat_lt64 hx.1) ha
  rw [Int.toNat_of_nonneg hx.1.1] at hand
  have hle := and_lt64 (x := L[i].f7.toNat) ha
  obtain ⟨r, hr⟩ := ticks_some rel L ((L[i].f7.toNat &&& a : Nat) : Int) hle.1 hle.2
  clear hle
  have g1 : ¬ (j : Int) < (M.length : Int) := by omega
  have g2 : (0 : Int) ≤ (i : Int) := by omega
  have g3 : (i : Int) < (L.length : Int) := by omega
  rw [if_neg g1, if_pos g2, if_pos g3, er, hand, hr]
  exact ⟨_, rfl⟩
 | n + 1, j, k, a, hj, hk, ha => by
  obtain ⟨k, rfl⟩ : ∃ q, k = q + 1 := ⟨k - 1, by omega⟩
  unfold again_Made.l0
  have hjl : j < M.length := by omega
  have er : rd_T46 M (j : Int) = M[j] := by simp [rd_T46, List.getD_eq_getElem?_getD, hjl]
  have hx := hM M[j] (List.getElem_mem hjl)
  have h64 := nat_lt64 hx.2
  have hor := bits_or_u64_nat a M[j].f8.toNat ha h64
  rw [Int.toNat_of_nonneg hx.2.1] at hor
  have hlt := u64_or _ _ ha h64
  have g1 : (j : Int) < (M.length : Int) := by omega
  have g2 : (0 : Int) ≤ (j : Int) := by omega
  have g4 : j + 1 + n = M.length := by omega
  have g5 : n < k := by omega
  clear hx h64
  have hw : wrap64 ((j : Int) + 1) = ((j + 1 : Nat) : Int) := wrap_succ j (by omega)
  rw [if_pos g1, if_pos g2, if_pos g1, er, hor, hw]
  exact made_l_some rel L M hU hM hl i hi n (j + 1) k _ g4 g5 hlt
theorem made_some (rel : Int) (L : List S46) (hU : U64 L) (hl : L.length ≤ 8) (i : Nat) (hi : i < L.length) : ∃ r, again_Made.f 20 rel L i = some r := by
 unfold again_Made.f again_is.f
 have hw : wrap64 ((i : Int) + 1) = ((i + 1 : Nat) : Int) := wrap_succ i (by omega)
 rw [if_pos (by omega), Option.bind_some, if_pos (by simp; omega), hw, if_pos (by omega), if_pos (by omega), Int.toNat_natCast]
 simp only [Option.bind_some]
 have hM : U64 (L.drop (i + 1)) := fun y hy => hU y (List.mem_of_mem_drop hy)
 exact made_l_some rel L (L.drop (i + 1)) hU hM (by rw [List.length_drop]; omega) i hi (L.drop (i + 1)).length 0 20 0 (by omega) (by rw [List.length_drop]; omega) (by decide)
end Go.Proofs.YtdgfjpbjiccllaaGreatDoor.F
namespace Go.Proofs.YtdgfjpbjiccllaaGreatDoor.F
open Go.RowKit
open X (TOk work_f nums_C)
open V (U64)
open YtdgfjpbjiccllaaGreatDoorW.PrintWords YtdgfjpbjiccllaaGreatDoorW.PrintLast YtdgfjpbjiccllaaGreatDoorW.PrintMore
open PTopLoads
set_option maxRecDepth 100000
structure SetJ (w : World) (rel : Int) (L : List S46) (b off c : Nat) : Prop where
 kd : Kd.C k46 w (some ⟨b, off, none⟩) L.length L
 src : Src w (some ⟨b, off, none⟩) L
 hc : L.length ≤ c
 n1 : 1 ≤ L.length
 n8 : L.length ≤ 8
 u : U64 L
 tk : ∀ (i : Nat) (x : S46), L[i]? = some x → TOk x i
theorem Src.below' {w w' : World} {A : Option Addr} {L : List S46} (h : Src w A L) (hb : Below w.heap.size w w') : Src w' A L := by
 rcases h with h | ⟨b, off, rfl, hlt, hc⟩
 ·exact .inl h
 ·refine .inr ⟨b, off, rfl, Nat.lt_of_lt_of_le hlt hb.size, fun i x hx => ?_⟩
  obtain ⟨ra, rc, g0, g1, g2, g3, g4, g5, g6, g7, g8, hN, hr⟩ := hc i x hx
  exact ⟨ra, rc, (hb.cell (p := ⟨b, _, none⟩) hlt).trans g0, (hb.cell (p := ⟨b, _, none⟩) hlt).trans g1, (hb.cell (p := ⟨b, _, none⟩) hlt).trans g2, (hb.cell (p := ⟨b, _, none⟩) hlt).trans g3, (hb.cell (p := ⟨b, _, none⟩) hlt).trans g4, (hb.cell (p := ⟨b, _, none⟩) hlt).trans g5, (hb.cell (p := ⟨b, _, none⟩) hlt).trans g6, (hb.cell (p := ⟨b, _, none⟩) hlt).trans g7, (hb.cell (p := ⟨b, _, none⟩) hlt).trans g8, hN.below hb, hr⟩
theorem SetJ.below {w w' : World} {rel : Int} {L : List S46} {b off c : Nat} (h : SetJ w rel L b off c) (hb : Below w.heap.size w w') : SetJ w' rel L b off c := ⟨Kd.C_below h.kd hb, Src.below' h.src hb, h.hc, h.n1, h.n8, h.u, h.tk⟩
theorem SetJ.lt {w : World} {rel : Int} {L : List S46} {b off c : Nat} (h : SetJ w rel L b off c) : b < w.heap.size := by
 rcases h.src with h0 | ⟨b', off', e, hlt, _⟩
 ·have := h.n1
  rw [h0] at this
  simp at this
 ·injection e with e
  injection e with e1 e2
  subst e1
  exact hlt
structure At9 (w : World) (b o : Nat) (x : S46) (ra : Option Addr) (rc : Nat) : Prop where
 c0 : w.cell? ⟨b, o, none⟩ = some (.string x.f0)
 c1 : w.cell? ⟨b, o + 1, none⟩ = some (.int .i64 x.f1)
 c2 : w.cell? ⟨b, o + 2, none⟩ = some (.int .i64 x.f2)
 c3 : w.cell? ⟨b, o + 3, none⟩ = some (.int .i64 x.f3)
 c4 : w.cell? ⟨b, o + 4, none⟩ = some (.int .i64 x.f4)
 c5 : w.cell? ⟨b, o + 5, none⟩ = some (.int .i64 x.f5)
 c6 : w.cell? ⟨b, o + 6, none⟩ = some (.slice ra x.f6.length rc)
 c7 : w.cell? ⟨b, o + 7, none⟩ = some (.int .u64 x.f7)
 c8 : w.cell? ⟨b, o + 8, none⟩ = some (.int .u64 x.f8)
theorem SetJ.at_ {w : World} {rel : Int} {L : List S46} {b off c : Nat} (h : SetJ w rel L b off c) (i : Nat) (hi : i < L.length) : ∃ ra rc, At9 w b (off + i * 9) L[i] ra rc ∧ Nums w ra L[i].f6 ∧ L[i].f6.length ≤ rc := by
 rcases h.src with h0 | ⟨b', off', e, hlt, hc⟩
 ·rw [h0] at hi
  simp at hi
 ·injection e with e
  injection e with e1 e2
  subst e1 e2
  obtain ⟨ra, rc, g0, g1, g2, g3, g4, g5, g6, g7, g8, hN, hr⟩ := hc i L[i] (List.getElem?_eq_getElem hi)
  exact ⟨ra, rc, ⟨g0, g1, g2, g3, g4, g5, g6, g7, g8⟩, hN, hr⟩
theorem max_any {zs : List Int} {A : Option Addr} {c : Nat} (h1 : 1 ≤ zs.length) (h8 : zs.length ≤ 8) (w : World) (hN : Nums w A zs) :
  Calls Tryz.prog 156 #[.slice A zs.length c] w fun e w' => ∃ m : Int, e = .returned (.int .i64 m) ∧ w = w' := by
 rcases hN with h0 | ⟨b, off, rfl, hb, hcell⟩
 ·rw [h0] at h1
  simp at h1
 ·have c0 := hcell 0 h1
  rw [Nat.add_zero] at c0
  have HC := Lib.hid hcell
  obtain ⟨n, hn⟩ : ∃ n, zs.length = n := ⟨_, rfl⟩
  obtain ⟨z0, hz0⟩ : ∃ z0, zs[0] = z0 := ⟨_, rfl⟩
  have HN := Lib.hid hn
  rw [hn] at h1 h8 ⊢
  rw [hz0] at c0
  have d1 : decide ((n : Int) < 1) = false := by simp; omega
  have d2 : ¬ (n : Int) < 1 := by omega
  have d3 : (0 : Int) < (n : Int) := by omega
  clear hcell hn hz0
  go_enter Tryz.func156, Tryz.ntmps156
  go_wp2_with fail
  go_loopw [3, 4] (fun s z wr => ∃ (m : Int) (k : Nat), s = .int .i64 m ∧ k ≤ n ∧ z = .int .i64 k ∧ w = wr) (fun _ z _ => n - (intOf z).toNat)
  case atStart => exact ⟨z0, 1, rfl, h1, rfl, rfl⟩
  case round =>
   obtain ⟨m, k, rfl, hk, rfl, rfl⟩ := hrel
   by_cases hlt : k < n
   ·have hk' : k < zs.length := by rw [HN.out]; exact hlt
    have ck := HC.out k hk'
    obtain ⟨y, hy⟩ : ∃ y, zs[k] = y := ⟨_, rfl⟩
    rw [hy] at ck
    have j0 : (0 : Int) ≤ (k : Int) := by omega
    have j1 : (k : Int) < (n : Int) := by omega
    clear hy hk'
    go_wp2_with fail
    go_roundw
    case rel => exact ⟨_, k + 1, rfl, by omega, by go_num, by trivial⟩
    case measure => simp [intOf]; omega
   ·obtain rfl : k = n := by omega
    go_wp2_with fail
    go_ret
    exact ⟨_, rfl, rfl⟩
set_option maxHeartbeats 8000000 in
theorem cost_any {rel : Int} {L : List S46} {b off c : Nat} (w : World) (h : SetJ w rel L b off c) (i : Nat) (hi : i < L.length) :
  Calls Tryz.prog 153 #[.agg #[.int .i64 rel, .slice (some ⟨b, off, none⟩) L.length c], .int .i64 i] w fun e w' => ∃ (x y : Nat) (ok : Bool), e = .returned (.tuple #[.complex .f64 x y, .bool ok]) ∧ Below w.heap.size w w' := by
 obtain ⟨ra, rc, hA, hN, hrc⟩ := h.at_ i hi
 have hx := h.tk i L[i] (List.getElem?_eq_getElem hi)
 obtain ⟨m, hm⟩ := made_some rel L h.u h.n8 i hi
 have HIS := Lib.hid (fun w' (hb : Below w.heap.size w w') => again_is.calls rel (some ⟨b, off, none⟩) c L i true w' (Kd.C_below h.kd hb) h.hc (by
  unfold again_is.f
  rw [if_pos (by omega)]
  simp
  omega))
 have HMD := Lib.hid (fun w' (hb : Below w.heap.size w w') => again_Made.calls 20 rel (some ⟨b, off, none⟩) c L i m w' (Kd.C_below h.kd hb) h.hc hm)
 have HW := Lib.hid (fun w' (hb : Below w.heap.size w w') => task_Work.calls 9 L[i].f0 L[i].f1 L[i].f2 L[i].f3 L[i].f4 L[i].f5 ra rc L[i].f6 L[i].f7 L[i].f8 _ w' (nums_C (hN.below hb) (by have := hx.r8; omega)) hrc (work_f L[i] hx))
 have HOF := Lib.hid Of_any
 have hbw := h.lt
 have h8 := h.n8
 have hb1 := (Below.refl w.heap.size w).alloc (Nat.le_refl _) (.cells #[.int .i64 rel, .slice (some ⟨b, off, none⟩) L.length c] 24)
 obtain ⟨x, hxe⟩ : ∃ x, L[i] = x := ⟨_, rfl⟩
 obtain ⟨n, hn⟩ : ∃ n, L.length = n := ⟨_, rfl⟩
 rw [hxe] at hA HW
 rw [hn] at HIS HMD hb1 hi h8 ⊢
 obtain ⟨sb, hsb⟩ : ∃ sb, w.heap.size = sb := ⟨_, rfl⟩
 have HSB := Lib.hid hsb
 have S1 : AS w w.heap.size rel b off n c i x ra rc (w.alloc (.cells #[.int .i64 rel, .slice (some ⟨b, off, none⟩) n c] 24)) := by
  obtain ⟨g0, g1, g2, g3, g4, g5, g6, g7, g8⟩ := hA
  have D := Blk.new w 24 #[.int .i64 rel, .slice (some ⟨b, off, none⟩) n c]
  exact ⟨hb1, D, D.cell 0, D.cell 1, (hb1.cell (p := ⟨b, _, none⟩) hbw).trans g0, (hb1.cell (p := ⟨b, _, none⟩) hbw).trans g1, (hb1.cell (p := ⟨b, _, none⟩) hbw).trans g2, (hb1.cell (p := ⟨b, _, none⟩) hbw).trans g3, (hb1.cell (p := ⟨b, _, none⟩) hbw).trans g4, (hb1.cell (p := ⟨b, _, none⟩) hbw).trans g5, (hb1.cell (p := ⟨b, _, none⟩) hbw).trans g6, (hb1.cell (p := ⟨b, _, none⟩) hbw).trans g7, (hb1.cell (p := ⟨b, _, none⟩) hbw).trans g8⟩
 have j0 : (0 : Int) ≤ (i : Int) := by omega
 have j1 : (i : Int) < (n : Int) := by omega
 obtain ⟨wk, hwk⟩ : ∃ wk, x.f6.sum = wk := ⟨_, rfl⟩
 rw [hwk] at HW
 clear h hA hN hx hm hrc hxe hn hb1 hsb hwk
 go_enter Tryz.func153, Tryz.ntmps153
 go_upto_region 1 with fail
 obtain ⟨w1, hw1⟩ : ∃ w1, w.alloc (.cells #[.int .i64 rel, .slice (some ⟨b, off, none⟩) n c] 24) = w1 := ⟨_, rfl⟩
 rw [hw1] at S1 ⊢
 rw [HSB.out] at S1 ⊢
 clear hw1
 have c0 := S1.2.2.1
 have c1 := S1.2.2.2.1
 have hsl := S1.2.1.lt
 have HS1 := Lib.hid S1
 clear S1
 go_upto_region 3 with (go_at_call 110; refine (HIS.out _ (by rw [HSB.out]; exact HS1.out.1)).mono ?_; rintro e w2 ⟨rfl, hb⟩; have HB2 := Lib.hid hb; clear hb)
 have S2 := as_next HS1.out HB2.out hbw
 have S2' := as_drew S2
 clear c0 c1 hsl HB2
 go_region_held3 (fun w' => Below sb w w' ∧ Blk w' sb 24 #[.int .i64 rel, .slice (some ⟨b, off, none⟩) n c] ∧ w'.cell? ⟨sb, 0, none⟩ = some (.int .i64 rel) ∧ w'.cell? ⟨sb, 1, none⟩ = some (.slice (some ⟨b, off, none⟩) n c) ∧ w'.cell? ⟨b, off + i * 9, none⟩ = some (.string x.f0) ∧ w'.cell? ⟨b, off + i * 9 + 1, none⟩ = some (.int .i64 x.f1) ∧ w'.cell? ⟨b, off + i * 9 + 2, none⟩ = some (.int .i64 x.f2) ∧ w'.cell? ⟨b, off + i * 9 + 3, none⟩ = some (.int .i64 x.f3) ∧ w'.cell? ⟨b, off + i * 9 + 4, none⟩ = some (.int .i64 x.f4) ∧ w'.cell? ⟨b, off + i * 9 + 5, none⟩ = some (.int .i64 x.f5) ∧ w'.cell? ⟨b, off + i * 9 + 6, none⟩ = some (.slice ra x.f6.length rc) ∧ w'.cell? ⟨b, off + i * 9 + 7, none⟩ = some (.int .u64 x.f7) ∧ w'.cell? ⟨b, off + i * 9 + 8, none⟩ = some (.int .u64 x.f8)) (first | (with_reducible assumption) | (with_reducible refine as_drew ?_; with_reducible assumption)) (first | (go_at_call 65; refine (HW.out _ (by rw [HSB.out]; exact And.left (‹Below sb w _ ∧ _›))).mono ?_; rintro e w3 ⟨rfl, hb⟩; have hS3 := as_next (by with_reducible assumption) hb hbw; clear hb) | (go_at_call 168; refine (HMD.out _ (by rw [HSB.out]; exact And.left (‹Below sb w _ ∧ _›))).mono ?_; rintro e w3 ⟨rfl, hb⟩; have hS3 := as_next (by with_reducible assumption) hb hbw; clear hb) | (go_at_call 167; refine (HOF.out _ _ _).mono ?_; rintro e w3 ⟨px, py, ok, rfl, hb⟩; have hS3 := as_next (by with_reducible assumption) hb hbw; clear hb))
 go_wp2_with fail
 go_ret2
 exact ⟨px, py, ok, rfl, by rw [HSB.out]; exact And.left (‹Below sb w _ ∧ _›)⟩
end Go.Proofs.YtdgfjpbjiccllaaGreatDoor.F
namespace Go.Proofs.YtdgfjpbjiccllaaGreatDoor.F
open Go.RowKit
open X (TOk work_f nums_C)
open YtdgfjpbjiccllaaGreatDoorW.PrintWords YtdgfjpbjiccllaaGreatDoorW.PrintLast YtdgfjpbjiccllaaGreatDoorW.PrintMore
open PTopLoads
set_option maxRecDepth 100000
theorem as_set {w w1 : World} {sb b off n c i rc : Nat} {rel : Int} {x : S46} {ra : Option Addr} (h : AS w sb rel b off n c i x ra rc w1) {tk : Nat} (h1' : sb < tk) (h2' : b < tk) (j : Nat) (u : Value) : AS w sb rel b off n c i x ra rc (w1.setCell ⟨tk, j, none⟩ u) := by
 obtain ⟨h1, h2, h3, h4, g0, g1, g2, g3, g4, g5, g6, g7, g8⟩ := h
 have e1 : ∀ k, (w1.setCell ⟨tk, j, none⟩ u).cell? ⟨sb, k, none⟩ = w1.cell? ⟨sb, k, none⟩ := fun k => World.cell?_of_block (w := w1) (Below.heap_setCell w1 ⟨tk, j, none⟩ u sb (by show sb ≠ tk; omega))
 have e2 : ∀ k, (w1.setCell ⟨tk, j, none⟩ u).cell? ⟨b, k, none⟩ = w1.cell? ⟨b, k, none⟩ := fun k => World.cell?_of_block (w := w1) (Below.heap_setCell w1 ⟨tk, j, none⟩ u b (by show b ≠ tk; omega))
 exact ⟨h1.setCell (by show sb ≤ tk; omega) _, h2.far (by show sb ≠ tk; omega) _, (e1 _).trans h3, (e1 _).trans h4, (e2 _).trans g0, (e2 _).trans g1, (e2 _).trans g2, (e2 _).trans g3, (e2 _).trans g4, (e2 _).trans g5, (e2 _).trans g6, (e2 _).trans g7, (e2 _).trans g8⟩
abbrev tcs9 (x : S46) (ra : Option Addr) (rc : Nat) : Array Value := #[.string x.f0, .int .i64 x.f1, .int .i64 x.f2, .int .i64 x.f3, .int .i64 x.f4, .int .i64 x.f5, .slice ra x.f6.length rc, .int .u64 x.f7, .int .u64 x.f8]
theorem set9 {w w3 : World} (v0 v1 v2 v3 v4 v5 v6 v7 v8 : Value) (h : Below (w.alloc (.cells #[.string ⟨#[]⟩, .int .i64 0, .int .i64 0, .int .i64 0, .int .i64 0, .int .i64 0, .slice none 0 0, .int .u64 0, .int .u64 0] 46)).heap.size (w.alloc (.cells #[.string ⟨#[]⟩, .int .i64 0, .int .i64 0, .int .i64 0, .int .i64 0, .int .i64 0, .slice none 0 0, .int .u64 0, .int .u64 0] 46)) w3) :
  Blk (((((((((w3.setCell ⟨w.heap.size, 0, none⟩ v0).setCell ⟨w.heap.size, 1, none⟩ v1).setCell ⟨w.heap.size, 2, none⟩ v2).setCell ⟨w.heap.size, 3, none⟩ v3).setCell ⟨w.heap.size, 4, none⟩ v4).setCell ⟨w.heap.size, 5, none⟩ v5).setCell ⟨w.heap.size, 6, none⟩ v6).setCell ⟨w.heap.size, 7, none⟩ v7).setCell ⟨w.heap.size, 8, none⟩ v8) w.heap.size 46 #[v0, v1, v2, v3, v4, v5, v6, v7, v8] := by
 have h0 : Blk w3 w.heap.size 46 #[.string ⟨#[]⟩, .int .i64 0, .int .i64 0, .int .i64 0, .int .i64 0, .int .i64 0, .slice none 0 0, .int .u64 0, .int .u64 0] := Blk.below (Blk.new w 46 #[.string ⟨#[]⟩, .int .i64 0, .int .i64 0, .int .i64 0, .int .i64 0, .int .i64 0, .slice none 0 0, .int .u64 0, .int .u64 0]) h (Blk.lt (Blk.new w 46 #[.string ⟨#[]⟩, .int .i64 0, .int .i64 0, .int .i64 0, .int .i64 0, .int .i64 0, .slice none 0 0, .int .u64 0, .int .u64 0]))
 have h1 : Blk (w3.setCell ⟨w.heap.size, 0, none⟩ v0) w.heap.size 46 #[v0, .int .i64 0, .int .i64 0, .int .i64 0, .int .i64 0, .int .i64 0, .slice none 0 0, .int .u64 0, .int .u64 0] := h0.set_ 0 v0
 have h2 : Blk ((w3.setCell ⟨w.heap.size, 0, none⟩ v0).setCell ⟨w.heap.size, 1, none⟩ v1) w.heap.size 46 #[v0, v1, .int .i64 0, .int .i64 0, .int .i64 0, .int .i64 0, .slice none 0 0, .int .u64 0, .int .u64 0] := h1.set_ 1 v1
 have h3 : Blk (((w3.setCell ⟨w.heap.size, 0, none⟩ v0).setCell ⟨w.heap.size, 1, none⟩ v1).setCell ⟨w.heap.size, 2, none⟩ v2) w.heap.size 46 #[v0, v1, v2, .int .i64 0, .int .i64 0, .int .i64 0, .slice none 0 0, .int .u64 0, .int .u64 0] := h2.set_ 2 v2
 have h4 : Blk ((((w3.setCell ⟨w.heap.size, 0, none⟩ v0).setCell ⟨w.heap.size, 1, none⟩ v1).setCell ⟨w.heap.size, 2, none⟩ v2).setCell ⟨w.heap.size, 3, none⟩ v3) w.heap.size 46 #[v0, v1, v2, v3, .int .i64 0, .int .i64 0, .slice none 0 0, .int .u64 0, .int .u64 0] := h3.set_ 3 v3
 have h5 : Blk (((((w3.setCell ⟨w.heap.size, 0, none⟩ v0).setCell ⟨w.heap.size, 1, none⟩ v1).setCell ⟨w.heap.size, 2, none⟩ v2).setCell ⟨w.heap.size, 3, none⟩ v3).setCell ⟨w.heap.size, 4, none⟩ v4) w.heap.size 46 #[v0, v1, v2, v3, v4, .int .i64 0, .slice none 0 0, .int .u64 0, .int .u64 0] := h4.set_ 4 v4
 have h6 : Blk ((((((w3.setCell ⟨w.heap.size, 0, none⟩ v0).setCell ⟨w.heap.size, 1, none⟩ v1).setCell ⟨w.heap.size, 2, none⟩ v2).setCell ⟨w.heap.size, 3, none⟩ v3).setCell ⟨w.heap.size, 4, none⟩ v4).setCell ⟨w.heap.size, 5, none⟩ v5) w.heap.size 46 #[v0, v1, v2, v3, v4, v5, .slice none 0 0, .int .u64 0, .int .u64 0] := h5.set_ 5 v5
 have h7 : Blk (((((((w3.setCell ⟨w.heap.size, 0, none⟩ v0).setCell ⟨w.heap.size, 1, none⟩ v1).setCell ⟨w.heap.size, 2, none⟩ v2).setCell ⟨w.heap.size, 3, none⟩ v3).setCell ⟨w.heap.size, 4, none⟩ v4).setCell ⟨w.heap.size, 5, none⟩ v5).setCell ⟨w.heap.size, 6, none⟩ v6) w.heap.size 46 #[v0, v1, v2, v3, v4, v5, v6, .int .u64 0, .int .u64 0] := h6.set_ 6 v6
 have h8 : Blk ((((((((w3.setCell ⟨w.heap.size, 0, none⟩ v0).setCell ⟨w.heap.size, 1, none⟩ v1).setCell ⟨w.heap.size, 2, none⟩ v2).setCell ⟨w.heap.size, 3, none⟩ v3).setCell ⟨w.heap.size, 4, none⟩ v4).setCell ⟨w.heap.size, 5, none⟩ v5).setCell ⟨w.heap.size, 6, none⟩ v6).setCell ⟨w.heap.size, 7, none⟩ v7) w.heap.size 46 #[v0, v1, v2, v3, v4, v5, v6, v7, .int .u64 0] := h7.set_ 7 v7
 have h9 : Blk (((((((((w3.setCell ⟨w.heap.size, 0, none⟩ v0).setCell ⟨w.heap.size, 1, none⟩ v1).setCell ⟨w.heap.size, 2, none⟩ v2).setCell ⟨w.heap.size, 3, none⟩ v3).setCell ⟨w.heap.size, 4, none⟩ v4).setCell ⟨w.heap.size, 5, none⟩ v5).setCell ⟨w.heap.size, 6, none⟩ v6).setCell ⟨w.heap.size, 7, none⟩ v7).setCell ⟨w.heap.size, 8, none⟩ v8) w.heap.size 46 #[v0, v1, v2, v3, v4, v5, v6, v7, v8] := h8.set_ 8 v8
 exact h9
theorem below_set9 {w w3 : World} {sb g : Nat} (h : Below sb w w3) (hg : sb ≤ g) (v0 v1 v2 v3 v4 v5 v6 v7 v8 : Value) :
  Below sb w (((((((((w3.setCell ⟨g, 0, none⟩ v0).setCell ⟨g, 1, none⟩ v1).setCell ⟨g, 2, none⟩ v2).setCell ⟨g, 3, none⟩ v3).setCell ⟨g, 4, none⟩ v4).setCell ⟨g, 5, none⟩ v5).setCell ⟨g, 6, none⟩ v6).setCell ⟨g, 7, none⟩ v7).setCell ⟨g, 8, none⟩ v8) :=
 ((((((((h.setCell hg _).setCell hg _).setCell hg _).setCell hg _).setCell hg _).setCell hg _).setCell hg _).setCell hg _).setCell hg _
set_option maxHeartbeats 16000000 in
theorem blockOf_any {rel : Int} {L : List S46} {b off c : Nat} (w : World) (h : SetJ w rel L b off c) (j i : Nat) (hj : j < L.length) :
  Calls Tryz.prog 138 #[.agg #[.int .i64 rel, .slice (some ⟨b, off, none⟩) L.length c], .int .i64 j, .int .i64 i] w fun e w' => ∃ m : Int, e = .returned (.int .i64 m) ∧ Below w.heap.size w w' := by
 by_cases hji : j ≤ i
 ·exact (blockOf_low rel _ j i (by omega) w).mono fun e w' ⟨he, hb⟩ => ⟨0, he, hb⟩
 obtain ⟨ra, rc, hA, hN, hrc⟩ := h.at_ j hj
 have hx := h.tk j L[j] (List.getElem?_eq_getElem hj)
 obtain ⟨m, hm⟩ := own_some rel L h.u j hj
 have HOW := Lib.hid (fun w' (hb : Below w.heap.size w w') => again_Own.calls rel (some ⟨b, off, none⟩) c L j m w' (Kd.C_below h.kd hb) h.hc hm)
 have HW := Lib.hid (fun w' (hb : Below w.heap.size w w') => task_Work.calls 9 L[j].f0 L[j].f1 L[j].f2 L[j].f3 L[j].f4 L[j].f5 ra rc L[j].f6 L[j].f7 L[j].f8 _ w' (nums_C (hN.below hb) (by have := hx.r8; omega)) hrc (work_f L[j] hx))
 have HMX := Lib.hid (fun w' (hb : Below w.heap.size w w') => max_any (c := rc) hx.r1 hx.r8 w' (hN.below hb))
 have md := hx.md
 have hbw := h.lt
 have h8 := h.n8
 have hb1 := (Below.refl w.heap.size w).alloc (Nat.le_refl _) (.cells #[.int .i64 rel, .slice (some ⟨b, off, none⟩) L.length c] 24)
 obtain ⟨x, hxe⟩ : ∃ x, L[j] = x := ⟨_, rfl⟩
 obtain ⟨n, hn⟩ : ∃ n, L.length = n := ⟨_, rfl⟩
 rw [hxe] at hA HW HMX md
 rw [hn] at HOW hb1 hj h8 ⊢
 obtain ⟨sb, hsb⟩ : ∃ sb, w.heap.size = sb := ⟨_, rfl⟩
 have HSB := Lib.hid hsb
 have S1 : AS w w.heap.size rel b off n c j x ra rc (w.alloc (.cells #[.int .i64 rel, .slice (some ⟨b, off, none⟩) n c] 24)) := by
  obtain ⟨g0, g1, g2, g3, g4, g5, g6, g7, g8⟩ := hA
  have D := Blk.new w 24 #[.int .i64 rel, .slice (some ⟨b, off, none⟩) n c]
  exact ⟨hb1, D, D.cell 0, D.cell 1, (hb1.cell (p := ⟨b, _, none⟩) hbw).trans g0, (hb1.cell (p := ⟨b, _, none⟩) hbw).trans g1, (hb1.cell (p := ⟨b, _, none⟩) hbw).trans g2, (hb1.cell (p := ⟨b, _, none⟩) hbw).trans g3, (hb1.cell (p := ⟨b, _, none⟩) hbw).trans g4, (hb1.cell (p := ⟨b, _, none⟩) hbw).trans g5, (hb1.cell (p := ⟨b, _, none⟩) hbw).trans g6, (hb1.cell (p := ⟨b, _, none⟩) hbw).trans g7, (hb1.cell (p := ⟨b, _, none⟩) hbw).trans g8⟩
 have j0 : (0 : Int) ≤ (j : Int) := by omega
 have j1 : (j : Int) < (n : Int) := by omega
 have d1 : decide ((i : Int) < 0) = false := by simp
 have d2 : decide ((j : Int) ≤ (i : Int)) = false := by simp; omega
 have d3 : decide ((n : Int) ≤ (j : Int)) = false := by simp; omega
 have e1 : ¬ (i : Int) < 0 := by omega
 have e2 : ¬ (j : Int) ≤ (i : Int) := by omega
 have e3 : ¬ (n : Int) ≤ (j : Int) := by omega
 obtain ⟨wk, hwk⟩ : ∃ wk, x.f6.sum = wk := ⟨_, rfl⟩
 rw [hwk] at HW
 clear h hA hN hx hm hrc hxe hn hb1 hsb hwk hji
 go_enter Tryz.func138, Tryz.ntmps138
 go_upto_region 1 with fail
 obtain ⟨w1, hw1⟩ : ∃ w1, w.alloc (.cells #[.int .i64 rel, .slice (some ⟨b, off, none⟩) n c] 24) = w1 := ⟨_, rfl⟩
 rw [hw1] at S1 ⊢
 rw [HSB.out] at S1 ⊢
 clear hw1
 have c1 := S1.2.2.2.1
 have hsl := S1.2.1.lt
 have HS1 := Lib.hid S1
 clear S1
 go_upto_region 3 with fail
 have S1 := HS1.out
 have S1' := as_drew S1
 have hs1 : sb < w1.heap.size := hsl
 have hs2 : b < w1.heap.size := Nat.lt_of_lt_of_le hbw S1.1.size
 clear c1 hsl HS1
 go_cut [7, 8] (fun s7 s8 wx => ∃ (tk : Nat) (o : Int), s7 = .pointer (some ⟨tk, 0, none⟩) ∧ s8 = .int .i64 o ∧ Blk wx tk 46 (tcs9 x ra rc) ∧ Below sb w wx)
 case first =>
  go_region_held3 (fun w' => Below sb w w' ∧ Blk w' sb 24 #[.int .i64 rel, .slice (some ⟨b, off, none⟩) n c] ∧ w'.cell? ⟨sb, 0, none⟩ = some (.int .i64 rel) ∧ w'.cell? ⟨sb, 1, none⟩ = some (.slice (some ⟨b, off, none⟩) n c) ∧ w'.cell? ⟨b, off + j * 9, none⟩ = some (.string x.f0) ∧ w'.cell? ⟨b, off + j * 9 + 1, none⟩ = some (.int .i64 x.f1) ∧ w'.cell? ⟨b, off + j * 9 + 2, none⟩ = some (.int .i64 x.f2) ∧ w'.cell? ⟨b, off + j * 9 + 3, none⟩ = some (.int .i64 x.f3) ∧ w'.cell? ⟨b, off + j * 9 + 4, none⟩ = some (.int .i64 x.f4) ∧ w'.cell? ⟨b, off + j * 9 + 5, none⟩ = some (.int .i64 x.f5) ∧ w'.cell? ⟨b, off + j * 9 + 6, none⟩ = some (.slice ra x.f6.length rc) ∧ w'.cell? ⟨b, off + j * 9 + 7, none⟩ = some (.int .u64 x.f7) ∧ w'.cell? ⟨b, off + j * 9 + 8, none⟩ = some (.int .u64 x.f8)) (first | (with_reducible assumption) | (with_reducible refine as_drew ?_; with_reducible assumption) | (with_reducible refine as_set (as_set (as_set (as_set (as_set (as_set (as_set (as_set (as_set ?_ hs1 hs2 _ _) hs1 hs2 _ _) hs1 hs2 _ _) hs1 hs2 _ _) hs1 hs2 _ _) hs1 hs2 _ _) hs1 hs2 _ _) hs1 hs2 _ _) hs1 hs2 _ _; with_reducible assumption) | (with_reducible refine as_next (by with_reducible assumption) ((Below.refl _ _).alloc (Nat.le_refl _) _) hbw)) ((go_at_call 67; refine (HOW.out _ (by rw [HSB.out]; exact And.left (‹Below sb w _ ∧ _›))).mono ?_; rintro e w3 ⟨rfl, hb⟩; have hS3 := as_next (by assumption) hb hbw; have hcl := fun (g j : Nat) h => hb.cell (p := ⟨g, j, none⟩) h; have hfr := fun (g j : Nat) h => hb.frozen (p := ⟨g, j, none⟩) h; simp only at hcl hfr; have HB3 := Lib.hid hb; clear hb))
  all_goals go_wp2_with fail
  all_goals go_meet
  ·exact ⟨w3.heap.size, m, rfl, rfl, Blk.new w3 46 _, hS3.1.alloc (Nat.le_of_lt hS3.2.1.lt) _⟩
  ·exact ⟨w1.heap.size, m, rfl, rfl, set9 (w := w1.drew) _ _ _ _ _ _ _ _ _ HB3.out, below_set9 hS3.1 (Nat.le_of_lt hs1) _ _ _ _ _ _ _ _ _⟩
 case rest =>
  obtain ⟨tk, o, rfl, rfl, hT, hbx⟩ := hcut
  have HT := Lib.hid hT
  have HBX := Lib.hid hbx
  have c0 : wc.cell? ⟨tk, 0, none⟩ = some (.string x.f0) := hT.cell 0
  have c1 : wc.cell? ⟨tk, 1, none⟩ = some (.int .i64 x.f1) := hT.cell 1
  have c2 : wc.cell? ⟨tk, 2, none⟩ = some (.int .i64 x.f2) := hT.cell 2
  have c3 : wc.cell? ⟨tk, 3, none⟩ = some (.int .i64 x.f3) := hT.cell 3
  have c4 : wc.cell? ⟨tk, 4, none⟩ = some (.int .i64 x.f4) := hT.cell 4
  have c5 : wc.cell? ⟨tk, 5, none⟩ = some (.int .i64 x.f5) := hT.cell 5
  have c6 : wc.cell? ⟨tk, 6, none⟩ = some (.slice ra x.f6.length rc) := hT.cell 6
  have c7 : wc.cell? ⟨tk, 7, none⟩ = some (.int .u64 x.f7) := hT.cell 7
  have c8 : wc.cell? ⟨tk, 8, none⟩ = some (.int .u64 x.f8) := hT.cell 8
  have htl := hT.lt
  clear hT hbx S1 S1' hs1 hs2 HOW
  have hws : w.heap.size ≤ wc.heap.size := HBX.out.size
  rw [HSB.out] at hws
  rcases md with ⟨hm, -, -⟩ | ⟨hm, -⟩ | ⟨hm, -⟩
  ·rw [hm] at c3 HW
   have HM := Lib.hid hm
   clear hm
   go_wp2_with (first | (go_at_call 65; refine (HW.out _ (by rw [HSB.out]; exact HBX.out)).mono ?_; rintro e w5 ⟨rfl, hb⟩; have HB5 := Lib.hid hb; have d3 : w5.cell? ⟨tk, 3, none⟩ = some (.int .i64 0) := by { have := (HT.out.below hb htl).cell 3; simp at this; rw [HM.out] at this; exact this }; have d6 : w5.cell? ⟨tk, 6, none⟩ = some (.slice ra x.f6.length rc) := (HT.out.below hb htl).cell 6; have htl5 := (HT.out.below hb htl).lt; clear hb) | (go_at_call 156; refine (HMX.out _ (by rw [HSB.out]; exact HBX.out.trans (HB5.out.mono hws))).mono ?_; rintro e w6 ⟨m2, rfl, rfl⟩))
   go_ret
   exact ⟨_, rfl, by rw [HSB.out]; exact HBX.out.trans (HB5.out.mono hws)⟩
  ·rw [hm] at c3 HW
   have HM := Lib.hid hm
   clear hm HMX
   go_wp2_with (go_at_call 65; refine (HW.out _ (by rw [HSB.out]; exact HBX.out)).mono ?_; rintro e w5 ⟨rfl, hb⟩; have HB5 := Lib.hid hb; have d3 : w5.cell? ⟨tk, 3, none⟩ = some (.int .i64 1) := by { have := (HT.out.below hb htl).cell 3; simp at this; rw [HM.out] at this; exact this }; have d4 : w5.cell? ⟨tk, 4, none⟩ = some (.int .i64 x.f4) := (HT.out.below hb htl).cell 4; have htl5 := (HT.out.below hb htl).lt; clear hb)
   go_ret
   exact ⟨_, rfl, by rw [HSB.out]; exact HBX.out.trans (HB5.out.mono hws)⟩
  ·rw [hm] at c3 HW
   have HM := Lib.hid hm
   clear hm HMX
   cases dt : decide (x.f5 ≤ (i : Int))
   all_goals
    go_wp2_with (go_at_call 65; refine (HW.out _ (by rw [HSB.out]; exact HBX.out)).mono ?_; rintro e w5 ⟨rfl, hb⟩; have HB5 := Lib.hid hb; have d3 : w5.cell? ⟨tk, 3, none⟩ = some (.int .i64 2) := by { have := (HT.out.below hb htl).cell 3; simp at this; rw [HM.out] at this; exact this }; have d5 : w5.cell? ⟨tk, 5, none⟩ = some (.int .i64 x.f5) := (HT.out.below hb htl).cell 5; have htl5 := (HT.out.below hb htl).lt; clear hb)
    go_ret
    exact ⟨_, rfl, by rw [HSB.out]; exact HBX.out.trans (HB5.out.mono hws)⟩
set_option maxHeartbeats 4000000 in
theorem most_any {rel : Int} {L : List S46} {b off c : Nat} (w : World) (h : SetJ w rel L b off c) (i : Nat) :
  Calls Tryz.prog 104 #[.agg #[.int .i64 rel, .slice (some ⟨b, off, none⟩) L.length c], .int .i64 i] w fun e w' => ∃ m : Int, e = .returned (.int .i64 m) ∧ Below w.heap.size w w' := by
 have HB1 := Lib.hid ((Below.refl w.heap.size w).alloc (Nat.le_refl _) (.cells #[.int .i64 rel, .slice (some ⟨b, off, none⟩) L.length c] 24))
 have HD := Lib.hid (Blk.new w 24 #[.int .i64 rel, .slice (some ⟨b, off, none⟩) L.length c])
 have HOF := Lib.hid (fun (w' : World) (hb : Below w.heap.size w w') (j : Nat) (hj : j < L.length) => blockOf_any w' (h.below hb) j i hj)
 have h8 := h.n8
 obtain ⟨n, hn⟩ : ∃ n, L.length = n := ⟨_, rfl⟩
 rw [hn] at HB1 HD HOF h8 ⊢
 clear h hn
 go_enter Tryz.func104, Tryz.ntmps104
 go_wp2
 go_loopw [5, 10] (fun z5 z10 wr => ∃ (m : Int) (k : Nat), z5 = .int .i64 m ∧ k ≤ n ∧ z10 = .int .i64 k ∧ Below w.heap.size w wr ∧ Blk wr w.heap.size 24 #[.int .i64 rel, .slice (some ⟨b, off, none⟩) n c]) (fun _ z10 _ => n - (intOf z10).toNat)
 case atStart => exact ⟨0, 0, rfl, Nat.zero_le _, rfl, HB1.out, HD.out⟩
 case round =>
  obtain ⟨m, k, rfl, hk, rfl, hb, hD⟩ := hrel
  have HB := Lib.hid hb
  by_cases hlt : k < n
  ·have c0 : wr.cell? ⟨w.heap.size, 0, none⟩ = some (.int .i64 rel) := hD.cell 0
   have c1 : wr.cell? ⟨w.heap.size, 1, none⟩ = some (.slice (some ⟨b, off, none⟩) n c) := hD.cell 1
   have hwl := hD.lt
   have HD2 := Lib.hid hD
   have HO := Lib.hid (HOF.out wr hb k hlt)
   have j0 : (0 : Int) ≤ (k : Int) := by omega
   have j1 : (k : Int) < (n : Int) := by omega
   clear hb hD
   go_wp2_with (go_at_call 138; refine (HO.out).mono ?_; rintro e w2 ⟨m2, rfl, hb⟩; have HB2 := Lib.hid hb; clear hb)
   go_roundw
   case rel => exact ⟨_, k + 1, rfl, by omega, by go_num, HB.out.trans (HB2.out.mono HB.out.size), HD2.out.below HB2.out hwl⟩
   case measure => simp [intOf]; omega
  ·obtain rfl : k = n := by omega
   clear hb hD; go_wp2; go_ret
   exact ⟨_, rfl, HB.out⟩
end Go.Proofs.YtdgfjpbjiccllaaGreatDoor.F
