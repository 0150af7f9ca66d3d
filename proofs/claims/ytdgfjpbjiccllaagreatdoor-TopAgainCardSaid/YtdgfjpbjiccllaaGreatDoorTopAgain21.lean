/- Joined texts: Tsk, Tsk2, Inv, Nam, Tsk3, Par, Par2, Par3, Par4, Par5. -/
import Derived.Test.YtdgfjpbjiccllaaGreatDoorTopAgain20
import Derived.Test.YtdgfjpbjiccllaaGreatDoorTopAgain12
import Derived.Test.YtdgfjpbjiccllaaGreatDoorTopAgain04
import Derived.Test.YtdgfjpbjiccllaaGreatDoorTopAgain05
import Derived.Test.YtdgfjpbjiccllaaGreatDoorTopAgain14
import Derived.Maps.OwnSet
import Derived.StringKeys
namespace Go.Proofs.YtdgfjpbjiccllaaGreatDoor.X
open Go.RowKit
open YtdgfjpbjiccllaaGreatDoorW.PrintWords YtdgfjpbjiccllaaGreatDoorW.PrintLast YtdgfjpbjiccllaaGreatDoorW.PrintMore
open PTopLoads (S46 k46 z46 k46_mk S57 k57 task_Work.f task_Work.l0 task_Work.calls task_isMode.f task_isMode.calls)
set_option maxRecDepth 100000
theorem isTime_yes (n least : Int) (h1 : least ≤ n) (h2 : n ≤ 10000) (w : World) : Calls Tryz.prog 70 #[.int .i64 n, .int .i64 least] w fun e w' => e = .returned (.bool true) ∧ w = w' := by
 have d1 : decide (least ≤ n) = true := by simpa using h1
 have d2 : decide (n ≤ 10000) = true := by simpa using h2
 go_enter Tryz.func70, Tryz.ntmps70
 go_wp2; go_ret
 exact ⟨rfl, rfl⟩
theorem regOk_any (n : Int) (h1 : 1 ≤ n) (h2 : n ≤ 10000) (w : World) : Calls Tryz.prog 146 #[.int .i64 n] w fun e w' => e = .returned (.bool false) ∧ w = w' := by
 go_enter Tryz.func146, Tryz.ntmps146
 go_wp2_with (go_at_call 70; refine (isTime_yes n 1 h1 h2 _).mono ?_; rintro e w' ⟨rfl, rfl⟩)
 go_ret
 exact ⟨rfl, rfl⟩
set_option maxHeartbeats 400000 in
theorem index_none (A : Option Addr) (c : Nat) (zs : List Int) (w : World) (h : Nums w A zs) (hl : zs.length ≤ 8) (ho : ∀ i (h : i < zs.length), 1 ≤ zs[i] ∧ zs[i] ≤ 10000) :
  Calls Tryz.prog 117 #[.slice A zs.length c, .func (.func 146) #[] #[]] w fun e w' => e = .returned (.int .i64 (-1)) ∧ w = w' := by
 have HO := Lib.hid ho
 clear ho
 go_enter Tryz.func117, Tryz.ntmps117
 go_wp2_with fail
 go_loop [8] (fun z => ∃ k : Nat, k ≤ zs.length ∧ z = .int .i64 k) (fun z => zs.length - (intOf z).toNat)
 case atStart => exact ⟨0, Nat.zero_le _, rfl⟩
 case round =>
  obtain ⟨k, hk, rfl⟩ := hrel
  by_cases hlt : k < zs.length
  ·rcases h with h | ⟨b, off, rfl, hb, hc⟩
   ·rw [h] at hlt; simp at hlt
   have c0 := hc k hlt
   have HK := Lib.hid (HO.out k hlt)
   go_wp2_with (go_at_call 146; refine (regOk_any _ HK.out.1 HK.out.2 _).mono ?_; rintro e w' ⟨rfl, rfl⟩)
   go_round
   case rel => exact ⟨k + 1, by omega, by go_num⟩
   case measure => simp [intOf]; omega
  ·go_wp2
   go_ret
   exact ⟨rfl, rfl⟩
theorem contains_none (A : Option Addr) (c : Nat) (zs : List Int) (w : World) (h : Nums w A zs) (hl : zs.length ≤ 8) (ho : ∀ i (h : i < zs.length), 1 ≤ zs[i] ∧ zs[i] ≤ 10000) :
  Calls Tryz.prog 72 #[.slice A zs.length c, .func (.func 146) #[] #[]] w fun e w' => e = .returned (.bool false) ∧ w = w' := by
 have HO := Lib.hid ho
 clear ho
 go_enter Tryz.func72, Tryz.ntmps72
 go_wp2_with (go_at_call 117; refine (index_none A c zs _ h hl HO.out).mono ?_; rintro e w' ⟨rfl, rfl⟩)
 go_ret
 exact ⟨rfl, rfl⟩
theorem isRegions_yes (A : Option Addr) (c : Nat) (zs : List Int) (w : World) (h : Nums w A zs) (h1 : 1 ≤ zs.length) (hl : zs.length ≤ 8) (ho : ∀ i (h : i < zs.length), 1 ≤ zs[i] ∧ zs[i] ≤ 10000) :
  Calls Tryz.prog 115 #[.slice A zs.length c] w fun e w' => e = .returned (.bool true) ∧ w = w' := by
 have HO := Lib.hid ho
 have HN := Lib.hid h
 clear ho h
 have d1 : decide ((1 : Int) ≤ (zs.length : Int)) = true := by simp; omega
 have d2 : decide ((zs.length : Int) ≤ 8) = true := by simp; omega
 go_enter Tryz.func115, Tryz.ntmps115
 go_wp2_with (go_at_call 72; refine (contains_none A c zs _ HN.out hl HO.out).mono ?_; rintro e w' ⟨rfl, rfl⟩)
 go_ret
 exact ⟨rfl, rfl⟩
theorem own_cells {w : World} {base e size n : Nat} {v : Value} {xs : List Value} (h : w.ownsRow base e size v n xs) (h0 : 0 < n) :
  ∃ g c cs, v = .slice (some ⟨g, 0, none⟩) n c ∧ base ≤ g ∧ Blk w g e cs ∧ ∀ i, i < xs.length → cs[i]? = xs[i]? := by
 rcases h.2 with ⟨_, h1⟩ | ⟨g, c, cur, rfl, hb, hh, hn, _, hs, ht⟩
 ·omega
 ·refine ⟨g, c, cur, rfl, hb, hh, fun i hi => ?_⟩
  rw [← ht, List.getElem?_take_of_lt (by have := h.1; omega)]
  simp
def NameOk (s : ByteArray) : Prop := s.size ≤ 4000 ∧ tokens s = ([⟨1, s, 0, 0⟩, ⟨4, ⟨#[]⟩, 0, s.size⟩], s.size, 0)
set_option maxHeartbeats 1000000 in
theorem isName_yes (s : ByteArray) (hs : NameOk s) (w : World) (htab : Lib.TabIs Tryz.prog w "strings.asciiSpace" .u8 Lib.asciiSpaceTab) :
  Calls Tryz.prog 114 #[.string s] w fun e w' => e = .returned (.bool true) ∧ Below w.heap.size w w' := by
 have HT := Lib.hid (tokens_any s hs.1 w htab _ hs.2)
 clear htab
 go_enter Tryz.func114, Tryz.ntmps114
 go_wp2_with (go_at_call 54; go_loud (refine (HT.out).mono ?_; rintro e w2 ⟨v, rfl, hown, hb⟩; have hown2 : w2.ownsRow w.heap.size 116 4 v 2 [.int .i64 1, .string s, .int .i64 0, .int .i64 ((0 : Nat) : Int), .int .i64 4, .string ⟨#[]⟩, .int .i64 0, .int .i64 (s.size : Int)] := hown; obtain ⟨g, c, cs, rfl, hg, hB, hc⟩ := own_cells hown2 (Nat.succ_pos 1); have c0 : w2.cell? ⟨g, 0, none⟩ = some (.int .i64 1) := (hB.cell 0).trans (hc 0 (Nat.succ_pos 7)); have c1 : w2.cell? ⟨g, 1, none⟩ = some (.string s) := (hB.cell 1).trans (hc 1 (Nat.succ_lt_succ (Nat.succ_pos 6))); clear hc hB hown hown2))
 go_ret
 exact ⟨by simp, hb⟩
end Go.Proofs.YtdgfjpbjiccllaaGreatDoor.X
namespace Go.Proofs.YtdgfjpbjiccllaaGreatDoor.X
open Go.RowKit
open YtdgfjpbjiccllaaGreatDoorW.PrintWords YtdgfjpbjiccllaaGreatDoorW.PrintLast YtdgfjpbjiccllaaGreatDoorW.PrintMore
open PTopLoads (S46 k46 z46 k46_mk S57 k57 task_Work.f task_Work.l0 task_Work.calls task_isMode.f task_isMode.calls task_isTime.f)
set_option maxRecDepth 100000
def ModeOk (x : S46) (i : Int) : Prop := (x.f3 = 0 ∧ x.f4 = 0 ∧ x.f5 = 0) ∨ (x.f3 = 1 ∧ 0 ≤ x.f4 ∧ x.f4 ≤ 10000 ∧ x.f5 = 0) ∨ (x.f3 = 2 ∧ x.f4 = 0 ∧ 0 ≤ x.f5 ∧ x.f5 ≤ i)
structure TOk (x : S46) (i : Int) : Prop where
 nm : NameOk x.f0
 r1 : 1 ≤ x.f6.length
 r8 : x.f6.length ≤ 8
 rr : ∀ i (h : i < x.f6.length), 1 ≤ x.f6[i] ∧ x.f6[i] ≤ 10000
 wd : x.f6.sum ≤ x.f2
 dt : x.f2 ≤ x.f1
 t1 : x.f1 ≤ 10000
 md : ModeOk x i
 uc : Go.bits .andNot .u64 x.f8 x.f7 = 0
theorem sum_take (l : List Int) (hl : ∀ i (h : i < l.length), 1 ≤ l[i] ∧ l[i] ≤ 10000) : ∀ k, k ≤ l.length → (k : Int) ≤ (l.take k).sum ∧ (l.take k).sum ≤ k * 10000
 | 0, _ => by simp
 | k + 1, h => by
  have ih := sum_take l hl k (by omega)
  have hk := hl k (by omega)
  rw [List.take_succ_eq_append_getElem (by omega), List.sum_append]
  simp only [List.sum_cons, List.sum_nil, Int.add_zero]
  omega
theorem TOk.sum {x : S46} {i : Int} (h : TOk x i) : 1 ≤ x.f6.sum ∧ x.f6.sum ≤ 80000 := by
 have := sum_take x.f6 h.rr x.f6.length (Nat.le_refl _)
 rw [List.take_length] at this
 have := h.r1
 have := h.r8
 omega
theorem work_l0 (l : List Int) (h8 : l.length ≤ 8) (hl : ∀ i (h : i < l.length), 1 ≤ l[i] ∧ l[i] ≤ 10000) : ∀ d k, k ≤ l.length → l.length - k < d → task_Work.l0 d (l.take k).sum l (l.length : Int) (k : Int) = some l.sum
 | 0, k, _, h => by omega
 | d + 1, k, hk, h => by
  have hs := sum_take l hl k hk
  unfold task_Work.l0
  by_cases hlt : k < l.length
  ·have hk1 := hl k hlt
   rw [if_pos (by omega), if_pos (by omega), if_pos (by omega)]
   have e1 : rd l (k : Int) = l[k] := by simp [rd, hlt]
   have e2 : (l.take k).sum + l[k] = (l.take (k + 1)).sum := by
    rw [List.take_succ_eq_append_getElem hlt, List.sum_append]
    simp
   have hs2 := sum_take l hl (k + 1) hlt
   rw [e1, e2, show wrap64 (l.take (k + 1)).sum = (l.take (k + 1)).sum from by unfold wrap64; omega, show wrap64 ((k : Int) + 1) = ((k + 1 : Nat) : Int) from by unfold wrap64; omega]
   exact work_l0 l h8 hl d (k + 1) hlt (by omega)
  ·have e : k = l.length := by omega
   subst e
   rw [if_neg (by omega), List.take_length]
theorem work_f (x : S46) {i : Int} (h : TOk x i) : task_Work.f 9 x.f0 x.f1 x.f2 x.f3 x.f4 x.f5 x.f6 x.f7 x.f8 = some x.f6.sum := by
 have := work_l0 x.f6 h.r8 h.rr 9 0 (Nat.zero_le _) (by have := h.r8; omega)
 simpa [task_Work.f] using this
theorem mode_f (x : S46) {i : Int} (h : ModeOk x i) : task_isMode.f x.f0 x.f1 x.f2 x.f3 x.f4 x.f5 x.f6 x.f7 x.f8 i = some true := by
 unfold task_isMode.f
 rcases h with ⟨h1, h2, h3⟩ | ⟨h1, h2, h3, h4⟩ | ⟨h1, h2, h3, h4⟩
 ·rw [if_pos h1, if_pos h2, h3]; rfl
 ·rw [if_neg (by omega), if_pos h1]
  simp only [task_isTime.f]
  rw [if_pos (by omega)]
  simp [h3, h4]
 ·rw [if_neg (by omega), if_neg (by omega), if_pos h1, if_pos h2, if_pos (by omega)]
  simp [h4]
theorem nums_C {w : World} {A : Option Addr} {l : List Int} (h : Nums w A l) (hl : l.length ≤ 1000) : (Kd.int .i64).C w A l.length l := by
 refine ⟨rfl, by omega, fun h0 => ?_⟩
 rcases h with rfl | ⟨b, off, rfl, hb, hc⟩
 ·simp at h0
 ·refine ⟨_, rfl, fun j p hp => ⟨[.int .i64 p], rfl, rfl, fun i u hu => ?_⟩⟩
  obtain ⟨hj, rfl⟩ := List.getElem?_eq_some_iff.1 hp
  match i, hu with
  | 0, hu =>
   simp at hu; subst hu
   rw [add_none]
   show w.cell? ⟨b, off + (j * 1 + 0), none⟩ = _
   rw [show off + (j * 1 + 0) = off + j from by omega]
   exact hc j hj
def tvals (x : S46) (A : Option Addr) (c : Nat) : Array Value := #[.string x.f0, .int .i64 x.f1, .int .i64 x.f2, .int .i64 x.f3, .int .i64 x.f4, .int .i64 x.f5, .slice A x.f6.length c, .int .u64 x.f7, .int .u64 x.f8]
abbrev TS (w : World) (sb : Nat) (x : S46) (A : Option Addr) (c : Nat) (w' : World) : Prop :=
 Blk w' sb 46 (tvals x A c) ∧ Below sb w w' ∧ w'.cell? ⟨sb, 0, none⟩ = some (.string x.f0) ∧ w'.cell? ⟨sb, 1, none⟩ = some (.int .i64 x.f1) ∧ w'.cell? ⟨sb, 2, none⟩ = some (.int .i64 x.f2) ∧ w'.cell? ⟨sb, 3, none⟩ = some (.int .i64 x.f3) ∧
  w'.cell? ⟨sb, 4, none⟩ = some (.int .i64 x.f4) ∧ w'.cell? ⟨sb, 5, none⟩ = some (.int .i64 x.f5) ∧ w'.cell? ⟨sb, 6, none⟩ = some (.slice A x.f6.length c) ∧ w'.cell? ⟨sb, 7, none⟩ = some (.int .u64 x.f7) ∧ w'.cell? ⟨sb, 8, none⟩ = some (.int .u64 x.f8)
theorem ts_of {w w' : World} {sb : Nat} {x : S46} {A : Option Addr} {c : Nat} (D : Blk w' sb 46 (tvals x A c)) (b : Below sb w w') : TS w sb x A c w' :=
 ⟨D, b, D.cell 0, D.cell 1, D.cell 2, D.cell 3, D.cell 4, D.cell 5, D.cell 6, D.cell 7, D.cell 8⟩
theorem ts_next {w w1 w2 : World} {sb : Nat} {x : S46} {A : Option Addr} {c : Nat} (h : TS w sb x A c w1) (b : Below w1.heap.size w1 w2) : TS w sb x A c w2 :=
 ts_of (h.1.below b h.1.lt) (h.2.1.trans (b.mono (Nat.le_of_lt h.1.lt)))
theorem ts_drew {w w1 : World} {sb : Nat} {x : S46} {A : Option Addr} {c : Nat} (h : TS w sb x A c w1) : TS w sb x A c w1.drew := ts_of h.1.drew h.2.1.drew
set_option maxHeartbeats 16000000 in
theorem is_yes (x : S46) (i : Int) (hx : TOk x i) (A : Option Addr) (c : Nat) (hc : x.f6.length ≤ c) (w : World) (hN : Nums w A x.f6) (htab : Lib.TabIs Tryz.prog w "strings.asciiSpace" .u8 Lib.asciiSpaceTab) :
  Calls Tryz.prog 71 #[.agg #[.string x.f0, .int .i64 x.f1, .int .i64 x.f2, .int .i64 x.f3, .int .i64 x.f4, .int .i64 x.f5, .slice A x.f6.length c, .int .u64 x.f7, .int .u64 x.f8], .int .i64 i] w fun e w' => e = .returned (.bool true) ∧ Below w.heap.size w w' := by
 have hsum := hx.sum
 have HTB := Lib.hid (Lib.tabBelow_of_tabIs htab)
 have h1 : Hid (∀ w', Below w.heap.size w w' → Calls Tryz.prog 114 #[.string x.f0] w' fun e w2 => e = .returned (.bool true) ∧ Below w'.heap.size w' w2) := fun w' hb => isName_yes x.f0 hx.nm w' (HTB.out w' hb)
 have h2 : Hid (∀ w', Below w.heap.size w w' → Calls Tryz.prog 115 #[.slice A x.f6.length c] w' fun e w2 => e = .returned (.bool true) ∧ w' = w2) := fun w' hb => isRegions_yes A c x.f6 w' (hN.below hb) hx.r1 hx.r8 hx.rr
 have h3 : Hid (∀ w', Below w.heap.size w w' → Calls Tryz.prog 65 #[.agg #[.string x.f0, .int .i64 x.f1, .int .i64 x.f2, .int .i64 x.f3, .int .i64 x.f4, .int .i64 x.f5, .slice A x.f6.length c, .int .u64 x.f7, .int .u64 x.f8]] w' fun e w2 => e = .returned (.int .i64 x.f6.sum) ∧ Below w'.heap.size w' w2) :=
  fun w' hb => task_Work.calls 9 x.f0 x.f1 x.f2 x.f3 x.f4 x.f5 A c x.f6 x.f7 x.f8 _ w' (nums_C (hN.below hb) (by have := hx.r8; omega)) hc (work_f x hx)
 have h4 : Hid (∀ w', Below w.heap.size w w' → Calls Tryz.prog 116 #[.agg #[.string x.f0, .int .i64 x.f1, .int .i64 x.f2, .int .i64 x.f3, .int .i64 x.f4, .int .i64 x.f5, .slice A x.f6.length c, .int .u64 x.f7, .int .u64 x.f8], .int .i64 i] w' fun e w2 => e = .returned (.bool true) ∧ Below w'.heap.size w' w2) :=
  fun w' hb => task_isMode.calls x.f0 x.f1 x.f2 x.f3 x.f4 x.f5 A c x.f6 x.f7 x.f8 i _ w' (nums_C (hN.below hb) (by have := hx.r8; omega)) hc (mode_f x hx.md)
 have d1 : decide (x.f6.sum ≤ x.f2) = true := by simpa using hx.wd
 have d2 : decide (x.f2 ≤ x.f1) = true := by simpa using hx.dt
 have d3 : (0 : Int) ≤ x.f1 := by have := hx.wd; have := hx.dt; omega
 have d4 : x.f1 ≤ 10000 := hx.t1
 have d5 : (Go.bits .andNot .u64 x.f8 x.f7 == 0) = true := by rw [hx.uc]; rfl
 have HD := Lib.hid hx
 clear htab hx hN hsum hc
 obtain ⟨sb, hsb⟩ : ∃ sb, w.heap.size = sb := ⟨_, rfl⟩
 have HSB := Lib.hid hsb
 clear hsb
 have B1 := Lib.hid ((Below.refl w.heap.size w).alloc (Nat.le_refl _) (.cells (tvals x A c) 46))
 have hlt : w.heap.size < (w.alloc (.cells (tvals x A c) 46)).heap.size := by simp
 have D1 := Lib.hid (Blk.new w 46 (tvals x A c))
 unfold tvals at B1 D1 hlt
 go_enter Tryz.func71, Tryz.ntmps71
 go_upto_region 1 with fail
 obtain ⟨w1, hw1⟩ : ∃ w1, w.alloc (.cells #[.string x.f0, .int .i64 x.f1, .int .i64 x.f2, .int .i64 x.f3, .int .i64 x.f4, .int .i64 x.f5, .slice A x.f6.length c, .int .u64 x.f7, .int .u64 x.f8] 46) = w1 := ⟨_, rfl⟩
 rw [hw1] at B1 D1 hlt ⊢
 rw [HSB.out] at B1 D1 hlt ⊢
 have hs1 : TS w sb x A c w1 := ts_of D1.out B1.out
 go_region_held3 (fun w' => Blk w' sb 46 (tvals x A c) ∧ Below sb w w' ∧ w'.cell? ⟨sb, 0, none⟩ = some (.string x.f0) ∧ w'.cell? ⟨sb, 1, none⟩ = some (.int .i64 x.f1) ∧ w'.cell? ⟨sb, 2, none⟩ = some (.int .i64 x.f2) ∧ w'.cell? ⟨sb, 3, none⟩ = some (.int .i64 x.f3) ∧ w'.cell? ⟨sb, 4, none⟩ = some (.int .i64 x.f4) ∧ w'.cell? ⟨sb, 5, none⟩ = some (.int .i64 x.f5) ∧ w'.cell? ⟨sb, 6, none⟩ = some (.slice A x.f6.length c) ∧ w'.cell? ⟨sb, 7, none⟩ = some (.int .u64 x.f7) ∧ w'.cell? ⟨sb, 8, none⟩ = some (.int .u64 x.f8)) (first | assumption | (refine ts_drew ?_; assumption)) (first | (go_at_call 114; refine (h1.out _ (by rw [HSB.out]; exact And.left (And.right (‹_ ∧ Below sb w _ ∧ _›)))).mono ?_; rintro e w2 ⟨rfl, hb⟩; have hS2 := ts_next (by assumption) hb) | (go_at_call 115; refine (h2.out _ (by rw [HSB.out]; exact And.left (And.right (‹_ ∧ Below sb w _ ∧ _›)))).mono ?_; rintro e w2 ⟨rfl, rfl⟩) | (go_at_call 65; refine (h3.out _ (by rw [HSB.out]; exact And.left (And.right (‹_ ∧ Below sb w _ ∧ _›)))).mono ?_; rintro e w2 ⟨rfl, hb⟩; have hS2 := ts_next (by assumption) hb) | (go_at_call 70; refine (isTime_yes x.f1 0 d3 d4 _).mono ?_; rintro e w2 ⟨rfl, rfl⟩) | (go_at_call 116; refine (h4.out _ (by rw [HSB.out]; exact And.left (And.right (‹_ ∧ Below sb w _ ∧ _›)))).mono ?_; rintro e w2 ⟨rfl, hb⟩; have hS2 := ts_next (by assumption) hb))
 go_wp2_with fail
 go_ret
 exact ⟨rfl, by rw [HSB.out]; exact And.left (And.right (‹_ ∧ Below sb w _ ∧ _›))⟩
end Go.Proofs.YtdgfjpbjiccllaaGreatDoor.X
namespace Go.Proofs.YtdgfjpbjiccllaaGreatDoor.A
open Go.RowKit
open YtdgfjpbjiccllaaGreatDoorW.PrintWords YtdgfjpbjiccllaaGreatDoorW.PrintLast YtdgfjpbjiccllaaGreatDoorW.PrintMore
open PTopLoads
open X
set_option maxRecDepth 100000
theorem rd_nat {l : List Int} {i : Nat} (h : i < l.length) : rd l i = l[i] := by simp [rd, List.getD_eq_getElem?_getD, h]
end Go.Proofs.YtdgfjpbjiccllaaGreatDoor.A
namespace Go.Proofs.YtdgfjpbjiccllaaGreatDoor.X
open Go.RowKit
open YtdgfjpbjiccllaaGreatDoorW.PrintWords YtdgfjpbjiccllaaGreatDoorW.PrintLast YtdgfjpbjiccllaaGreatDoorW.PrintMore
open PTopLoads
open A
set_option maxRecDepth 100000
theorem small_is (b : Int) : taskmasterref4_small.f b = some (letter b) := by
 unfold taskmasterref4_small.f letter
 by_cases h1 : b ≥ 97
 ·rw [if_pos h1]
  simp; omega
 ·rw [if_neg h1]
  simp; omega
theorem digit_is (b : Int) : taskmasterref4_digit.f b = some (digit b) := by
 unfold taskmasterref4_digit.f digit
 by_cases h1 : b ≥ 48
 ·rw [if_pos h1]
  simp; omega
 ·rw [if_neg h1]
  simp; omega
theorem words_one : taskmasterref4_Words.f = some wordsB := by kernel_rfl
theorem word_inv {s : ByteArray} {ws : List ByteArray} (hw : (ws.length : Int) < 1000000) : ∀ (k i : Nat), i ≤ ws.length → taskmasterref4_word.l0 k s ws i = some false → ∀ j (h : j < ws.length), i ≤ j → ws[j] ≠ s
 | 0, _, _, h => by simp [taskmasterref4_word.l0] at h
 | k + 1, i, hi, h => by
  intro j hj hij
  simp only [taskmasterref4_word.l0] at h
  rw [if_pos (by omega), if_pos (by omega)] at h
  have hlt : i < ws.length := by omega
  have er : rdOf ByteArray.empty ws i = ws[i] := by simp [rdOf, List.getD_eq_getElem?_getD, hlt]
  rw [er] at h
  split at h
  ·simp at h
  ·rename_i hne
   rw [show wrap64 ((i : Int) + 1) = ((i + 1 : Nat) : Int) from by unfold wrap64; omega] at h
   by_cases e : j = i
   ·subst e
    exact fun e => hne (by rw [e])
   ·exact word_inv hw k (i + 1) (by omega) h j hj (by omega)
theorem word_no {s : ByteArray} {k : Nat} (h : taskmasterref4_word.f k s = some false) : isWord s = false := by
 unfold taskmasterref4_word.f at h
 rw [words_one] at h
 simp only [Option.bind_some] at h
 have hl : wordsB.length = 10 := by unfold wordsB; rw [List.length_map]; exact wordsL_len
 have := word_inv (by rw [hl]; decide) k 0 (Nat.zero_le _) h
 unfold isWord
 rw [List.any_eq_false]
 intro x hx
 obtain ⟨j, hj, rfl⟩ := List.getElem_of_mem hx
 have := this j hj (Nat.zero_le _)
 simp
 exact fun e => this e.symm
theorem span_all (p : Int → Bool) : ∀ (l : List Int), (∀ x ∈ l, p x = true) → spanL p l = l.length
 | [], _ => rfl
 | b :: t, h => by
  unfold spanL
  rw [if_pos (h b (by simp)), span_all p t (fun x hx => h x (by simp [hx]))]
  rfl
end Go.Proofs.YtdgfjpbjiccllaaGreatDoor.X
namespace Go.Proofs.YtdgfjpbjiccllaaGreatDoor.X
open Go.RowKit
open Go.Maps (Keyed)
open YtdgfjpbjiccllaaGreatDoorW.PrintWords YtdgfjpbjiccllaaGreatDoorW.PrintLast YtdgfjpbjiccllaaGreatDoorW.PrintMore
open PTopLoads (S46)
set_option maxRecDepth 100000
theorem law9 : Keyed Tryz.prog 9 := Maps.string_keyed Tryz.underlying9
theorem zero4 (w : World) : (zeroValue 4).run Tryz.prog w = .ok (.bool false) w := by kernel_rfl
theorem bool4_inv {v : Value} {z : DataW Unit × List MemPlace} (h : plainElem Tryz.prog 4 v = some z) : ∃ a, v = .bool a ∧ z = (.lit (.bool a), []) := by
 unfold plainElem at h
 rw [Tryz.underlying4] at h
 cases v <;> simp at h
 exact ⟨_, rfl, h.symm⟩
theorem lookup_no {w : World} {b n : Nat} {D : DataW Unit} (hown : w.ownsMap Tryz.prog 9 (plainElem Tryz.prog 4) b n D) (s : ByteArray) (hs : s.size ≤ 4000) (hat : D.atKey (.string s.data.toList) (.lit (.bool false)) = .lit (.bool false)) :
  (Instr.lookup 128 (.map (some b)) (.string s) false).run Tryz.prog w = .ok (.bool false) w := by
 obtain ⟨v, ps, hrun, hv⟩ := hown.lookup law9 Tryz.underlying128 (zero4 w) (plainElem_bool Tryz.underlying4 false) (WideMaps.keyOf_string_mk Tryz.underlying9 (s := s) (by unfold maxLen; omega))
 obtain ⟨c, rfl, hc⟩ := bool4_inv hv
 rw [hat] at hc
 injection hc with hc _
 injection hc with hc
 injection hc with hc
 subst hc
 exact hrun
set_option maxHeartbeats 8000000 in
theorem all_yes {w : World} {A : Option Addr} {L : List S46} {c : Nat} {rel : Int} (h1 : 1 ≤ L.length) (h8 : L.length ≤ 8) (hr0 : 0 ≤ rel) (hr1 : rel ≤ 10000) (hS : ∀ w', Below w.heap.size w w' → Src w' A L)
  (hT : ∀ (i : Nat) (x : S46), L[i]? = some x → TOk x i) (hne : ∀ (i j : Nat) (x y : S46), i < j → L[i]? = some x → L[j]? = some y → x.f0 ≠ y.f0) (htab : Lib.TabIs Tryz.prog w "strings.asciiSpace" .u8 Lib.asciiSpaceTab) :
  Calls Tryz.prog 42 #[.agg #[.int .i64 rel, .slice A L.length c]] w fun e w2 => e = .returned (.bool true) ∧ Below w.heap.size w w2 := by
 have HS := Lib.hid hS
 have HTB := Lib.hid (Lib.tabBelow_of_tabIs htab)
 have HT := Lib.hid hT
 have HNE := Lib.hid hne
 obtain ⟨n, hn⟩ : ∃ n, L.length = n := ⟨_, rfl⟩
 have HN := Lib.hid hn
 rw [hn] at h1 h8 ⊢
 clear hS htab hT hne hn
 have d1 : ¬ (n : Int) < 1 := by omega
 have d2 : ¬ (8 : Int) < (n : Int) := by omega
 have d3 : decide ((n : Int) < 1) = false := by simp; omega
 have d4 : decide ((8 : Int) < (n : Int)) = false := by simp; omega
 have hmm := @run_makeMap Tryz.prog
 have HB := Lib.hid (((Below.refl w.heap.size w).alloc (Nat.le_refl _) (.cells #[.int .i64 rel, .slice A n c] 24)).alloc (by simp) (.map #[] 0))
 have HD := Lib.hid ((Blk.new w 24 #[.int .i64 rel, .slice A n c]).alloc (.map #[] 0))
 have HM := Lib.hid (World.ownsMap_made (H := Unit) (w.alloc (.cells #[.int .i64 rel, .slice A n c] 24)) Tryz.prog 9 (plainElem Tryz.prog 4))
 have HSZ : Hid ((w.alloc (.cells #[.int .i64 rel, .slice A n c] 24)).heap.size = w.heap.size + 1) := by unfold Hid; simp
 go_enter Tryz.func42, Tryz.ntmps42
 go_wp2_with (first | (go_at_call 70; refine (isTime_yes rel 0 hr0 hr1 _).mono ?_; rintro e w2 ⟨rfl, rfl⟩))
 obtain ⟨sb, hsb⟩ : ∃ sb, w.heap.size = sb := ⟨_, rfl⟩
 rw [HSZ.out] at HM
 rw [hsb] at HB HD HM ⊢
 have HSB := Lib.hid hsb
 obtain ⟨wa, hwa⟩ : ∃ wa, w.alloc (.cells #[.int .i64 rel, .slice A n c] 24) = wa := ⟨_, rfl⟩
 rw [hwa] at HB HD HM ⊢
 clear hsb hwa
 obtain ⟨wb, hwb⟩ : ∃ wb, wa.alloc (.map #[] 0) = wb := ⟨_, rfl⟩
 rw [hwb] at HB HD HM ⊢
 clear hwb HSZ
 go_loopw [26] (fun z26 wr => ∃ (k : Nat) (D : DataW Unit), k ≤ n ∧ z26 = .int .i64 k ∧ Below sb w wr ∧ Blk wr sb 24 #[.int .i64 rel, .slice A n c] ∧ wr.ownsMap Tryz.prog 9 (plainElem Tryz.prog 4) (sb + 1) k D ∧ ∀ (j : Nat) (x : S46), k ≤ j → L[j]? = some x → D.atKey (.string x.f0.data.toList) (.lit (.bool false)) = .lit (.bool false)) (fun z26 _ => n - (intOf z26).toNat)
 case atStart => exact ⟨0, _, Nat.zero_le _, rfl, HB.out, HD.out, HM.out, fun j x _ _ => rfl⟩
 case round =>
  obtain ⟨k, D, hk, rfl, hb, hBk, hM, hF⟩ := hrel
  by_cases hlt : k < n
  ·have hSr := HS.out _ (by rw [HSB.out]; exact hb)
   rcases hSr with h0 | ⟨b, off, rfl, hbl, hcs⟩
   ·have := HN.out; rw [h0] at this; simp at this; omega
   obtain ⟨x, hx⟩ : ∃ x, L[k]? = some x := ⟨_, List.getElem?_eq_getElem (by rw [HN.out]; exact hlt)⟩
   obtain ⟨ra, rc, g0, g1, g2, g3, g4, g5, g6, g7, g8, hNu, hrc⟩ := hcs k x hx
   have hbw := hBk.lt
   have B2 : Below wr.heap.size wr (wr.alloc (.cells (tcell x (.slice ra x.f6.length rc)) 46)) := (Below.refl _ _).alloc (Nat.le_refl _) _
   have HIS := Lib.hid (is_yes x k (HT.out k x hx) ra rc hrc (wr.alloc (.cells (tcell x (.slice ra x.f6.length rc)) 46)) (hNu.below B2) (HTB.out _ (by rw [HSB.out]; exact hb.trans (B2.mono (by omega)))))
   have HBX := Lib.hid (Blk.new wr 46 (tcell x (.slice ra x.f6.length rc)))
   have hsx := (HT.out k x hx).nm.1
   have HM1 := Lib.hid (hM.alloc (.cells (tcell x (.slice ra x.f6.length rc)) 46))
   have HB1 := Lib.hid (hb.trans (B2.mono (Nat.le_of_lt hbw)))
   have HK1 := Lib.hid (hBk.alloc (.cells (tcell x (.slice ra x.f6.length rc)) 46))
   have HAT := Lib.hid (hF k x (Nat.le_refl _) hx)
   have HFF := Lib.hid hF
   have HX := Lib.hid hx
   have HBW := Lib.hid hbw
   clear hcs hx hF hM hb hBk B2 hNu hbw
   unfold tcell at HIS HBX HM1 HB1 HK1
   go_wp2_with (first | (go_at_call 71; refine (HIS.out).mono ?_; rintro e w2 ⟨rfl, hb2⟩; have hXB := HBX.out.below hb2 (by simp); have q0 : w2.cell? ⟨wr.heap.size, 0, none⟩ = some (.string x.f0) := hXB.cell 0; have HM2 := Lib.hid (HM1.out.kept (only_of_below hb2 none) (by simp)); have HB2 := Lib.hid (HB1.out.trans (hb2.mono (by have := HBW.out; simp; omega))); have HK2 := Lib.hid (HK1.out.below hb2 (by have := HBW.out; simp; omega)); have hlk := lookup_no HM2.out x.f0 hsx HAT.out; clear hb2 hXB) | (at_mapUpdate; refine wpList_mapUpdate_own _ rfl (.tmp 41) (.tmp 43) (.const (.bool true)) 128 rfl 9 4 law9 Tryz.underlying128 (plainElem Tryz.prog 4) (sb + 1) k D rfl HM2.out (by unfold maxLen; omega) (.string x.f0) (.bool true) (.string x.f0.data.toList) rfl rfl (WideMaps.keyOf_string_mk Tryz.underlying9 (by unfold maxLen; omega)) (.lit (.bool true)) [] (plainElem_bool Tryz.underlying4 true) ?_; intro w3 hM3 hg3))
   go_roundw
   case rel =>
    refine ⟨k + 1, _, by omega, by go_num, ?_, ?_, hM3, fun j y hj hy => ?_⟩
    ·exact HB2.out.grown hg3 (by have := HK2.out.lt; omega) (fun q hq => by injection hq with hq; omega)
    ·exact HK2.out.grown hg3 (by intro e; injection e with e; omega)
    ·rw [Maps.atKey_put_other]
     ·exact HFF.out j y (by omega) hy
     ·intro e
      injection e with e
      refine HNE.out k j x y (by omega) HX.out hy ?_
      apply ByteArray.ext
      exact (Array.toList_inj.1 e).symm
   case measure => simp [intOf]; omega
  ·go_wp2
   go_ret
   exact ⟨rfl, by rw [HSB.out]; exact hb⟩
end Go.Proofs.YtdgfjpbjiccllaaGreatDoor.X
namespace Go.Proofs.YtdgfjpbjiccllaaGreatDoor.X
open Go.RowKit
set_option maxRecDepth 100000
theorem results_cell1 {P : Program} {fn : Func} {p : Tmp} {ty : TypeId} (h : fn.results = #[.cell p ty]) (tmps : Array Value) (w : World) (g : Nat) (t : TypeId) (cs : Array Value) (d : TypeDesc)
  (hp : tmps.getD p undef = .pointer (some ⟨g, 0, none⟩)) (hg : Blk w g t cs)
  (hu : P.underlying ty = some d) (hd : (match d with | .struct _ | .array _ _ => true | _ => false) = true) (hi : (P.info? ty).map (·.size) = some cs.size) :
  (results fn tmps).run P w = .ok (.agg cs) w := by
 have hp' : tmps[p]?.getD undef = .pointer (some ⟨g, 0, none⟩) := by simpa using hp
 simp [results, h, hp', asAddr, run_loadVar_row w g t ty cs (0, 0) d hg hu hd hi]
structure PAt (w : World) (pp tb : Nat) (v : Value) (L : List T4) : Prop where
 hd : Blk w pp 112 #[v, .int .i64 0, .int .i64 0]
 tok : ∃ o c, v = .slice (some ⟨tb, o, none⟩) L.length c ∧ L.length ≤ c ∧ tb < w.heap.size ∧ tb ≠ pp ∧ ∀ i x, L[i]? = some x → w.cell? ⟨tb, o + i * 4, none⟩ = some (.int .i64 x.k) ∧ w.cell? ⟨tb, o + i * 4 + 1, none⟩ = some (.string x.s) ∧ w.cell? ⟨tb, o + i * 4 + 2, none⟩ = some (.int .i64 x.n) ∧ w.cell? ⟨tb, o + i * 4 + 3, none⟩ = some (.int .i64 x.at_)
 lim : L.length ≤ 100000
 fin : ∃ M e, L = M ++ [e] ∧ e.k = 4
def T4.v (x : T4) : Value := .agg #[.int .i64 x.k, .string x.s, .int .i64 x.n, .int .i64 x.at_]
theorem field0 (a b c d : Value) (w : World) : (Instr.field 116 (.agg #[a, b, c, d]) 0).run Tryz.prog w = .ok a w := by kernel_rfl
theorem field1 (a b c d : Value) (w : World) : (Instr.field 116 (.agg #[a, b, c, d]) 1).run Tryz.prog w = .ok b w := by kernel_rfl
theorem field2 (a b c d : Value) (w : World) : (Instr.field 116 (.agg #[a, b, c, d]) 2).run Tryz.prog w = .ok c w := by kernel_rfl
theorem field3 (a b c d : Value) (w : World) : (Instr.field 116 (.agg #[a, b, c, d]) 3).run Tryz.prog w = .ok d w := by kernel_rfl
section
variable {w w' : World} {pp tb : Nat} {v : Value} {L : List T4} {x : T4}
theorem PAt.keep (h : PAt w pp tb v L) (hg : w.grownBy w' none) : PAt w' pp tb v L := by
 obtain ⟨o, c, rfl, hc, hl, hn, ht⟩ := h.tok
 refine ⟨h.hd.grown hg (by simp), ⟨o, c, rfl, hc, Nat.lt_of_lt_of_le hl hg.size, hn, fun i x hx => ?_⟩, h.lim, h.fin⟩
 obtain ⟨a, b, d, e⟩ := ht i x hx
 exact ⟨hg.cell a (by simp), hg.cell b (by simp), hg.cell d (by simp), hg.cell e (by simp)⟩
theorem PAt.far (h : PAt w pp tb v L) {r i : Nat} (h1 : r ≠ pp) (h2 : r ≠ tb) (u : Value) : PAt (w.setCell ⟨r, i, none⟩ u) pp tb v L := by
 obtain ⟨o, c, rfl, hc, hl, hn, ht⟩ := h.tok
 have hcell : ∀ j, (w.setCell ⟨r, i, none⟩ u).cell? ⟨tb, j, none⟩ = w.cell? ⟨tb, j, none⟩ := fun j => World.cell?_of_block (w := w) (Below.heap_setCell w ⟨r, i, none⟩ u tb (fun e => h2 e.symm))
 refine ⟨h.hd.far (fun e => h1 e.symm) _, ⟨o, c, rfl, hc, by simpa [World.setCell] using hl, hn, fun i x hx => ?_⟩, h.lim, h.fin⟩
 simp only [hcell]
 exact ht i x hx
theorem PAt.tlt (h : PAt w pp tb v L) : tb < w.heap.size := by
 obtain ⟨_, _, _, _, h, _⟩ := h.tok
 exact h
theorem PAt.below (h : PAt w pp tb v L) (hb : Below w.heap.size w w') : PAt w' pp tb v L := h.keep (only_of_below hb none)
theorem fin_tail (h : ∃ M e, x :: L = M ++ [e] ∧ e.k = 4) (hk : x.k ≠ 4) : L ≠ [] ∧ ∃ M e, L = M ++ [e] ∧ e.k = 4 := by
 obtain ⟨M, e, h1, h2⟩ := h
 cases M with
 | nil =>
  simp at h1
  exact absurd (h1.1 ▸ h2) hk
 | cons y M =>
  simp at h1
  obtain ⟨_, h1⟩ := h1
  exact ⟨by rw [h1]; simp, M, e, h1, h2⟩
theorem grown_of_below {row : Option Nat} (h : Below w.heap.size w w') : w.grownBy w' row := only_of_below h row
theorem next_any (h : PAt w pp tb v (x :: L)) : Calls Tryz.prog 57 #[.pointer (some ⟨pp, 0, none⟩)] w fun e w' => e = .returned x.v ∧ Below w.heap.size w w' := by
 obtain ⟨o, c, rfl, hc, hl, hn, ht⟩ := h.tok
 obtain ⟨t0, t1, t2, t3⟩ := ht 0 x rfl
 simp only [Nat.zero_mul, Nat.add_zero] at t0 t1 t2 t3
 have p0 : w.cell? ⟨pp, 0, none⟩ = some (.slice (some ⟨tb, o, none⟩) (L.length + 1) c) := h.hd.cell 0
 have hpl := h.hd.lt
 have hlim := h.lim
 simp only [List.length_cons] at hc hlim
 have hB := Lib.hid ((Below.refl w.heap.size w).alloc (Nat.le_refl _) (.cells #[.int .i64 x.k, .string x.s, .int .i64 x.n, .int .i64 x.at_] 116))
 clear h ht
 go_enter Tryz.func57, Tryz.ntmps57
 go_wp2
 refine bodyPost_ret (results_cell1 rfl _ _ w.heap.size 116 #[.int .i64 x.k, .string x.s, .int .i64 x.n, .int .i64 x.at_] _ rfl (Blk.new w 116 _) Tryz.underlying116 rfl (by kernel_rfl)) rfl ⟨rfl, hB.out⟩
set_option maxHeartbeats 2000000 in
theorem step_any (h : PAt w pp tb v (x :: L)) (hk : x.k ≠ 4) : Calls Tryz.prog 132 #[.pointer (some ⟨pp, 0, none⟩)] w fun e w' => e = .returned x.v ∧ (∃ v', PAt w' pp tb v' L) ∧ w.grownBy w' (some pp) := by
 obtain ⟨o, c, rfl, hc, hl, hn, ht⟩ := h.tok
 have p0 : w.cell? ⟨pp, 0, none⟩ = some (.slice (some ⟨tb, o, none⟩) (L.length + 1) c) := h.hd.cell 0
 have hpl := h.hd.lt
 have hlim := h.lim
 have hfin := fin_tail h.fin hk
 have hL1 : 1 ≤ L.length := by
  cases L with
  | nil => exact absurd rfl hfin.1
  | cons y M => simp
 have HFIN := Lib.hid hfin.2
 simp only [List.length_cons] at hc hlim
 have hc1 : ¬ c = 1 := by omega
 have hk2 : (x.k == 4) = false := by simpa using hk
 have hk3 : (x.k != 4) = true := by simp [hk]
 have hB := (Below.refl w.heap.size w).alloc (Nat.le_refl _) (.cells #[.int .i64 0, .string ⟨#[]⟩, .int .i64 0, .int .i64 0] 116)
 have HN := Lib.hid (next_any (h.below hB))
 have HBW := Lib.hid hB
 have HH := Lib.hid h
 have HT := Lib.hid ht
 have HR := Lib.hid (Blk.new w 116 #[.int .i64 0, .string ⟨#[]⟩, .int .i64 0, .int .i64 0])
 have hwe : w.heap.size = w.heap.size := rfl
 clear h ht hB hk hwe hfin
 unfold T4.v at HN
 go_enter Tryz.func132, Tryz.ntmps132
 go_upto_region 2 with (go_at_call 57; refine (HN.out).mono ?_; rintro e w2 ⟨rfl, hb⟩; have HB2 := Lib.hid hb; clear hb)
 have hb2 : Below w.heap.size w w2 := HBW.out.trans (HB2.out.mono (by simp))
 have D2 := HR.out.below HB2.out (by simp)
 have s2 : w.heap.size < w2.heap.size := D2.lt
 have hPB : Below w.heap.size w (w2.alloc (.cells #[.int .i64 x.k, .string x.s, .int .i64 x.n, .int .i64 x.at_] 116)) := hb2.alloc (Nat.le_of_lt s2) _
 obtain ⟨w3, hw3⟩ : ∃ w3, w2.alloc (.cells #[.int .i64 x.k, .string x.s, .int .i64 x.n, .int .i64 x.at_] 116) = w3 := ⟨_, rfl⟩
 have D3 := D2.alloc (.cells #[.int .i64 x.k, .string x.s, .int .i64 x.n, .int .i64 x.at_] 116)
 have T3 := Blk.new w2 116 #[.int .i64 x.k, .string x.s, .int .i64 x.n, .int .i64 x.at_]
 rw [hw3] at hPB D3 T3 ⊢
 obtain ⟨tt, htt⟩ : ∃ tt, w2.heap.size = tt := ⟨_, rfl⟩
 obtain ⟨rb, hrb⟩ : ∃ rb, w.heap.size = rb := ⟨_, rfl⟩
 rw [htt] at T3 s2 ⊢
 rw [hrb] at D3 s2 hpl ⊢
 have HP3 := Lib.hid (HH.out.below hPB)
 have c0 : w3.cell? ⟨tt, 0, none⟩ = some (.int .i64 x.k) := T3.cell 0
 have c1 : w3.cell? ⟨tt, 1, none⟩ = some (.string x.s) := T3.cell 1
 have c2 : w3.cell? ⟨tt, 2, none⟩ = some (.int .i64 x.n) := T3.cell 2
 have c3 : w3.cell? ⟨tt, 3, none⟩ = some (.int .i64 x.at_) := T3.cell 3
 have p3 : w3.cell? ⟨pp, 0, none⟩ = some (.slice (some ⟨tb, o, none⟩) (L.length + 1) c) := HP3.out.hd.cell 0
 have f3 := HP3.out.hd.frozen 0
 have r0 : w3.cell? ⟨rb, 0, none⟩ = some (.int .i64 0) := D3.cell 0
 have r1 : w3.cell? ⟨rb, 1, none⟩ = some (.string ⟨#[]⟩) := D3.cell 1
 have r2 : w3.cell? ⟨rb, 2, none⟩ = some (.int .i64 0) := D3.cell 2
 have r3 : w3.cell? ⟨rb, 3, none⟩ = some (.int .i64 0) := D3.cell 3
 have k0 := D3.frozen 0
 have k1 := D3.frozen 1
 have k2 := D3.frozen 2
 have k3 := D3.frozen 3
 have hne1 : pp ≠ tt := by omega
 have hne2 : pp ≠ rb := by omega
 have hne3 : rb ≠ tt := by omega
 have HPB := Lib.hid hPB
 have HD3 := Lib.hid D3
 have HHB := Lib.hid hrb
 clear hw3 D2 D3 T3 hPB hb2 htt hrb p0 HBW HR HB2; go_wp2
 refine bodyPost_ret (results_cell1 rfl _ _ rb 116 ((((#[Value.int .i64 0, .string ⟨#[]⟩, .int .i64 0, .int .i64 0].setIfInBounds 0 (.int .i64 x.k)).setIfInBounds 1 (.string x.s)).setIfInBounds 2 (.int .i64 x.n)).setIfInBounds 3 (.int .i64 x.at_)) _ rfl (((((HD3.out.far (p := ⟨pp, 0, none⟩) (fun e => hne2 e.symm) _).set_ 0 _).set_ 1 _).set_ 2 _).set_ 3 _) Tryz.underlying116 rfl (by kernel_rfl)) rfl ⟨rfl, ?_, ?_⟩
 all_goals have hg : w.grownBy (((((w3.setCell ⟨pp, 0, none⟩ (.slice (some ⟨tb, o + 4, none⟩) L.length (c - 1))).setCell ⟨rb, 0, none⟩ (.int .i64 x.k)).setCell ⟨rb, 1, none⟩ (.string x.s)).setCell ⟨rb, 2, none⟩ (.int .i64 x.n)).setCell ⟨rb, 3, none⟩ (.int .i64 x.at_)) (some pp) := only_setCell (only_setCell (only_setCell (only_setCell (only_setCell (only_of_below HPB.out _) (.inl rfl) _) (.inr (by rw [HHB.out]; exact Nat.le_refl _)) _) (.inr (by rw [HHB.out]; exact Nat.le_refl _)) _) (.inr (by rw [HHB.out]; exact Nat.le_refl _)) _) (.inr (by rw [HHB.out]; exact Nat.le_refl _)) _
 ·refine ⟨.slice (some ⟨tb, o + 4, none⟩) L.length (c - 1), ?_, ⟨o + 4, c - 1, rfl, by omega, Nat.lt_of_lt_of_le hl hg.size, hn, fun i y hy => ?_⟩, by omega, HFIN.out⟩
  ·exact ((((HP3.out.hd.set_ 0 _).far (p := ⟨rb, 0, none⟩) hne2 _).far (p := ⟨rb, 1, none⟩) hne2 _).far (p := ⟨rb, 2, none⟩) hne2 _).far (p := ⟨rb, 3, none⟩) hne2 _
  ·obtain ⟨a0, a1, a2, a3⟩ := HT.out (i + 1) y hy
   have hnr : ∀ j, some (⟨tb, j, none⟩ : Addr).block ≠ some pp := fun j e => hn (by injection e)
   rw [show o + 4 + i * 4 = o + (i + 1) * 4 from by omega]
   exact ⟨hg.cell a0 (hnr _), hg.cell a1 (hnr _), hg.cell a2 (hnr _), hg.cell a3 (hnr _)⟩
 ·exact hg
def isTok (x : T4) (s : ByteArray) : Bool := x.k == 3 && x.s.toList == s.toList
theorem is_any (h : PAt w pp tb v (x :: L)) (s : ByteArray) : Calls Tryz.prog 133 #[.pointer (some ⟨pp, 0, none⟩), .string s] w fun e w' => e = .returned (.bool (isTok x s)) ∧ Below w.heap.size w w' := by
 have HN := Lib.hid (next_any h)
 have HH := Lib.hid h
 clear h
 unfold T4.v at HN
 unfold isTok
 have q0 := field0
 have q1 := field1
 by_cases hk : x.k = 3
 ·have hk2 : (x.k == 3) = true := by simpa using hk
  rw [hk2]
  clear hk
  go_enter Tryz.func133, Tryz.ntmps133
  go_wp2_with (first | (go_at_call 57; refine (HN.out).mono ?_; rintro e w2 ⟨rfl, hb⟩; have HB2 := Lib.hid hb; have HN2 := Lib.hid (next_any (HH.out.below hb)); unfold T4.v at HN2; clear hb HN) | (go_at_call 57; refine (HN2.out).mono ?_; rintro e w3 ⟨rfl, hb⟩; have HB3 := Lib.hid hb; clear hb))
  go_ret
  exact ⟨rfl, HB2.out.trans (HB3.out.mono HB2.out.size)⟩
 ·have hk2 : (x.k == 3) = false := by simpa using hk
  rw [hk2]
  clear hk
  go_enter Tryz.func133, Tryz.ntmps133
  go_wp2_with (go_at_call 57; refine (HN.out).mono ?_; rintro e w2 ⟨rfl, hb⟩; have HB2 := Lib.hid hb; clear hb)
  go_ret
  exact ⟨rfl, HB2.out⟩
theorem isTok_self (x : T4) (hk : x.k = 3) : isTok x x.s = true := by simp [isTok, hk]
theorem takes_yes (h : PAt w pp tb v (x :: L)) (s : ByteArray) (hk : isTok x s = true) : Calls Tryz.prog 97 #[.pointer (some ⟨pp, 0, none⟩), .string s] w fun e w' => e = .returned (.bool true) ∧ (∃ v', PAt w' pp tb v' L) ∧ w.grownBy w' (some pp) := by
 have hi := is_any h s
 rw [hk] at hi
 have HI := Lib.hid hi
 have HH := Lib.hid h
 have hk4 : x.k ≠ 4 := by
  intro e
  simp [isTok, e] at hk
 clear h hi hk
 go_enter Tryz.func97, Tryz.ntmps97
 go_wp2_with (first | (go_at_call 133; refine (HI.out).mono ?_; rintro e w2 ⟨rfl, hb⟩; have HB2 := Lib.hid hb; have HS := Lib.hid (step_any (HH.out.below hb) hk4); clear hb) | (go_at_call 132; refine (HS.out).mono ?_; rintro e w3 ⟨rfl, hP, hg⟩; have HP := Lib.hid hP; have HG := Lib.hid hg; clear hP hg))
 go_ret
 exact ⟨rfl, HP.out, (grown_of_below HB2.out).trans HG.out⟩
theorem takes_no (h : PAt w pp tb v (x :: L)) (s : ByteArray) (hk : isTok x s = false) : Calls Tryz.prog 97 #[.pointer (some ⟨pp, 0, none⟩), .string s] w fun e w' => e = .returned (.bool false) ∧ Below w.heap.size w w' := by
 have hi := is_any h s
 rw [hk] at hi
 have HI := Lib.hid hi
 clear h hi hk
 go_enter Tryz.func97, Tryz.ntmps97
 go_wp2_with (go_at_call 133; refine (HI.out).mono ?_; rintro e w2 ⟨rfl, hb⟩; have HB2 := Lib.hid hb; clear hb)
 go_ret
 exact ⟨rfl, HB2.out⟩
theorem must_yes (h : PAt w pp tb v (x :: L)) (s : ByteArray) (hk : isTok x s = true) : Calls Tryz.prog 56 #[.pointer (some ⟨pp, 0, none⟩), .string s] w fun e w' => e = .returned (.tuple #[]) ∧ (∃ v', PAt w' pp tb v' L) ∧ w.grownBy w' (some pp) := by
 have HI := Lib.hid (takes_yes h s hk)
 clear h hk
 go_enter Tryz.func56, Tryz.ntmps56
 go_wp2_with (go_at_call 97; refine (HI.out).mono ?_; rintro e w2 ⟨rfl, hP, hg⟩; have HP := Lib.hid hP; have HG := Lib.hid hg; clear hP hg)
 go_end0
 exact ⟨rfl, HP.out, HG.out⟩
set_option maxHeartbeats 1000000 in
theorem kind_yes (h : PAt w pp tb v (x :: L)) (hk4 : x.k ≠ 4) (k : Int) (hxk : x.k = k) : Calls Tryz.prog 96 #[.pointer (some ⟨pp, 0, none⟩), .int .i64 k] w fun e w' => e = .returned x.v ∧ (∃ v', PAt w' pp tb v' L) ∧ w.grownBy w' (some pp) := by
 subst hxk
 have hB := (Below.refl w.heap.size w).alloc (Nat.le_refl _) (.cells #[.int .i64 0, .string ⟨#[]⟩, .int .i64 0, .int .i64 0] 116)
 have HN := Lib.hid (next_any (h.below hB))
 have HH := Lib.hid (h.below hB)
 have HB := Lib.hid hB
 have HR := Lib.hid (Blk.new w 116 #[.int .i64 0, .string ⟨#[]⟩, .int .i64 0, .int .i64 0])
 have hpl := h.hd.lt
 have htl := h.tlt
 have q0 := field0
 clear h hB
 unfold T4.v at HN
 go_enter Tryz.func96, Tryz.ntmps96
 go_wp2_with (first | (go_at_call 57; refine (HN.out).mono ?_; rintro e w2 ⟨rfl, hb⟩; have HB2 := Lib.hid hb; have HS := Lib.hid (step_any (HH.out.below hb) hk4); unfold T4.v at HS; clear hb) | (go_at_call 132; refine (HS.out).mono ?_; rintro e w3 ⟨rfl, hP, hg⟩; have HP := Lib.hid hP; have HG := Lib.hid hg; have D3 := (HR.out.below HB2.out (by simp)).grown hg (by intro e; injection e with e; omega); have g0 := D3.cell 0; have g1 := D3.cell 1; have g2 := D3.cell 2; have g3 := D3.cell 3; have f0 := D3.frozen 0; have f1 := D3.frozen 1; have f2 := D3.frozen 2; have f3 := D3.frozen 3; clear hP hg))
 have hG : w.grownBy ((((w3.setCell ⟨w.heap.size, 0, none⟩ (.int .i64 x.k)).setCell ⟨w.heap.size, 1, none⟩ (.string x.s)).setCell ⟨w.heap.size, 2, none⟩ (.int .i64 x.n)).setCell ⟨w.heap.size, 3, none⟩ (.int .i64 x.at_)) (some pp) := by
  have g1 : w.grownBy w3 (some pp) := ((grown_of_below HB.out).trans (grown_of_below (HB2.out.mono (Nat.le_refl _)))).trans HG.out
  exact only_setCell (only_setCell (only_setCell (only_setCell g1 (.inr (Nat.le_refl _)) _) (.inr (Nat.le_refl _)) _) (.inr (Nat.le_refl _)) _) (.inr (Nat.le_refl _)) _
 refine bodyPost_ret (results_cell1 rfl _ _ w.heap.size 116 ((((#[Value.int .i64 0, .string ⟨#[]⟩, .int .i64 0, .int .i64 0].setIfInBounds 0 (.int .i64 x.k)).setIfInBounds 1 (.string x.s)).setIfInBounds 2 (.int .i64 x.n)).setIfInBounds 3 (.int .i64 x.at_)) _ rfl ((((D3.set_ 0 _).set_ 1 _).set_ 2 _).set_ 3 _) Tryz.underlying116 rfl (by kernel_rfl)) rfl ⟨rfl, ?_, hG⟩
 obtain ⟨v', hP⟩ := HP.out
 exact ⟨v', (((hP.far (by omega) (by omega) _).far (by omega) (by omega) _).far (by omega) (by omega) _).far (by omega) (by omega) _⟩
end
end Go.Proofs.YtdgfjpbjiccllaaGreatDoor.X
namespace Go.Proofs.YtdgfjpbjiccllaaGreatDoor.X
open Go.RowKit
open YtdgfjpbjiccllaaGreatDoorW.PrintWords YtdgfjpbjiccllaaGreatDoorW.PrintLast YtdgfjpbjiccllaaGreatDoorW.PrintMore
set_option maxRecDepth 100000
def lenOf : Value → Nat
 | .slice _ n _ => n
 | _ => 0
theorem t4s_one (l : List T4) : ∀ u ∈ t4s l, u.oneCell' = true := by
 intro u hu
 simp only [t4s, List.mem_flatMap] at hu
 obtain ⟨x, _, hu⟩ := hu
 simp [T4.cells] at hu
 rcases hu with rfl | rfl | rfl | rfl <;> rfl
section
variable {w w' : World} {pp tb : Nat} {v : Value} {L : List T4} {x y z : T4}
theorem after_yes (h : PAt w pp tb v (x :: y :: L)) (s : ByteArray) (hk : isTok x s = true) (hy : y.k = 2) : Calls Tryz.prog 55 #[.pointer (some ⟨pp, 0, none⟩), .string s] w fun e w' => e = .returned (.int .i64 y.n) ∧ (∃ v', PAt w' pp tb v' L) ∧ w.grownBy w' (some pp) := by
 have HI := Lib.hid (must_yes h s hk)
 have q0 := field2
 have hy4 : y.k ≠ 4 := by omega
 clear h hk
 go_enter Tryz.func55, Tryz.ntmps55
 go_wp2_with (first | (go_at_call 56; refine (HI.out).mono ?_; rintro e w2 ⟨rfl, ⟨v2, hP⟩, hg⟩; have HK := Lib.hid (kind_yes hP hy4 2 hy); unfold T4.v at HK; have HG := Lib.hid hg; clear hP hg) | (go_at_call 96; refine (HK.out).mono ?_; rintro e w3 ⟨rfl, hP, hg⟩; have HP := Lib.hid hP; have HG2 := Lib.hid hg; clear hP hg))
 go_ret
 exact ⟨rfl, HP.out, HG.out.trans HG2.out⟩
theorem own_blk_keep {base n : Nat} {u : Value} {xs : List Value} (h : w.ownsRow base 116 4 u n xs) (hg : w.grownBy w' (some pp)) (hp : Blk w pp 112 #[v, .int .i64 0, .int .i64 0]) : w'.ownsRow base 116 4 u n xs := by
 refine ⟨h.1, ?_⟩
 rcases h.2 with h0 | ⟨g, c, cur, rfl, hb, hh, rest⟩
 ·exact .inl h0
 ·have hB : Blk w g 116 cur := hh
  exact .inr ⟨g, c, cur, rfl, hb, hB.grown hg (fun e => by injection e with e; exact hB.ne_ hp (by decide) e), rest⟩
theorem PAt.grown (h : PAt w pp tb v L) {row : Option Nat} (hg : w.grownBy w' row) (hr : ∀ g, row = some g → g ≠ pp ∧ g ≠ tb) : PAt w' pp tb v L := by
 obtain ⟨o, c, rfl, hc, hl, hn, ht⟩ := h.tok
 have hnr : ∀ j, some (⟨tb, j, none⟩ : Addr).block ≠ row := fun j e => (hr tb e.symm).2 rfl
 refine ⟨h.hd.grown hg (fun e => (hr pp e.symm).1 rfl), ⟨o, c, rfl, hc, Nat.lt_of_lt_of_le hl hg.size, hn, fun i x hx => ?_⟩, h.lim, h.fin⟩
 obtain ⟨a, b, d, e⟩ := ht i x hx
 exact ⟨hg.cell a (hnr _), hg.cell b (hnr _), hg.cell d (hnr _), hg.cell e (hnr _)⟩
theorem only_above {a b : World} {g : Nat} {row : Option Nat} (h : w.grownBy a (some g)) (hg : a.grownBy b row) (hr : ∀ k, row = some k → w.heap.size ≤ k) : w.grownBy b (some g) :=
 ⟨hg.os.trans h.os, hg.tape.trans h.tape, hg.output.trans h.output, Nat.le_trans h.size hg.size, fun i hi hne => (hg.block i (Nat.lt_of_lt_of_le hi h.size) (fun e => by have := hr i e.symm; omega)).trans (h.block i hi hne)⟩
theorem own_len {base e size n : Nat} {u : Value} {xs : List Value} (h : w.ownsRow base e size u n xs) : lenOf u = n := by
 rcases h.2 with ⟨rfl, h0⟩ | ⟨g, c, cur, rfl, _⟩
 ·exact h0.symm
 ·rfl
set_option maxHeartbeats 4000000 in
theorem row_yes {ys : List T4} (h : PAt w pp tb v (ys ++ z :: L)) (h0 : ys ≠ []) (hys : ∀ y ∈ ys, y.k = 2) (hz : z.k ≠ 2) :
  Calls Tryz.prog 99 #[.pointer (some ⟨pp, 0, none⟩)] w fun e w' => ∃ u, e = .returned u ∧ w'.ownsRow w.heap.size 116 4 u ys.length (t4s ys) ∧ (∃ v', PAt w' pp tb v' (z :: L)) ∧ w.grownBy w' (some pp) := by
 obtain ⟨i0, hi0, hz0, hz1, hz2⟩ := info_parts Tryz.info116
 have Hz0 := Lib.hid hz0; clear hz0
 have Hz1 := Lib.hid hz1; clear hz1
 have Hz2 := Lib.hid hz2; clear hz2
 have Hi := Lib.hid hi0; clear hi0
 have hlim := h.lim
 obtain ⟨y0, ys', hys0⟩ : ∃ y0 ys', ys = y0 :: ys' := by
  cases ys with
  | nil => exact absurd rfl h0
  | cons a l => exact ⟨a, l, rfl⟩
 have hy0 : y0.k = 2 := hys y0 (by rw [hys0]; simp)
 have hK : Calls Tryz.prog 96 #[.pointer (some ⟨pp, 0, none⟩), .int .i64 2] w fun e w' => e = .returned y0.v ∧ (∃ v', PAt w' pp tb v' (ys' ++ z :: L)) ∧ w.grownBy w' (some pp) := by
  rw [hys0] at h
  exact kind_yes h (by omega) 2 hy0
 have HK := Lib.hid hK
 have HY0 := Lib.hid hys0
 have HYS := Lib.hid hys
 have q0 := field0
 have hpl := h.hd.lt
 have htl := h.tlt
 have hn : ys.length ≤ 100000 := by rw [List.length_append] at hlim; omega
 clear h hK hys0 hys h0 hlim hy0
 unfold T4.v at HK
 go_enter Tryz.func99, Tryz.ntmps99
 go_wp2_with (go_at_call 96; refine (HK.out).mono ?_; rintro e w2 ⟨rfl, ⟨v2, hP⟩, hg⟩; have HP := Lib.hid hP; have HG := Lib.hid hg; clear hP hg)
 clear HK
 go_loopw [3] (fun z3 wr => ∃ (k : Nat) (v3 : Value), 1 ≤ k ∧ k ≤ ys.length ∧ PAt wr pp tb v3 (ys.drop k ++ z :: L) ∧ wr.ownsRow w.heap.size 116 4 z3 k (t4s (ys.take k)) ∧ w.grownBy wr (some pp)) (fun z3 _ => ys.length - lenOf z3)
 case atStart =>
  have e1 : ys.drop 1 = ys' := by rw [HY0.out]; rfl
  have e2 : ys.take 1 = [y0] := by rw [HY0.out]; rfl
  refine ⟨1, v2, Nat.le_refl _, by rw [HY0.out]; simp, ?_, ?_, ?_⟩
  ·rw [e1]
   exact HP.out.below ((Below.refl _ _).alloc (Nat.le_refl _) _)
  ·rw [e2]
   exact World.ownsRow_lit (size := 4) w2 #[.int .i64 y0.k, .string y0.s, .int .i64 y0.n, .int .i64 y0.at_] 1 HG.out.size (by unfold maxLen; omega) rfl
  ·exact only_alloc HG.out _
 case round =>
  obtain ⟨k, v3, hk1, hk, hPr, hO, hGr⟩ := hrel
  have hsz := hGr.size
  by_cases hlt : k < ys.length
  ·obtain ⟨x, hx⟩ : ∃ x, ys[k]? = some x := ⟨_, List.getElem?_eq_getElem hlt⟩
   have hxk : x.k = 2 := HYS.out x (List.mem_of_getElem? hx)
   have hd : ys.drop k = x :: ys.drop (k + 1) := by
    obtain ⟨h1, rfl⟩ := List.getElem?_eq_some_iff.1 hx
    exact List.drop_eq_getElem_cons h1
   have ht : ys.take (k + 1) = ys.take k ++ [x] := by
    obtain ⟨h1, rfl⟩ := List.getElem?_eq_some_iff.1 hx
    rw [List.take_succ_eq_append_getElem h1]
   rw [hd, List.cons_append] at hPr
   have HN := Lib.hid (next_any hPr)
   have HPR := Lib.hid hPr
   have hx2 : (x.k == 2) = true := by simpa using hxk
   have hx4 : x.k ≠ 4 := by omega
   have HO := Lib.hid hO
   have HGR := Lib.hid hGr
   have HT := Lib.hid ht
   have HSZ := Lib.hid hsz
   clear hPr hO hGr hd ht hx hxk hsz
   unfold T4.v at HN
   go_wp2_with (first | (go_at_call 57; refine (HN.out).mono ?_; rintro e w3 ⟨rfl, hb⟩; have HS := Lib.hid (step_any (HPR.out.below hb) hx4); unfold T4.v at HS; have HO3 := Lib.hid (own_blk_keep HO.out (grown_of_below hb) HPR.out.hd); have HG3 := Lib.hid (HGR.out.trans (grown_of_below hb)); have HP3 := Lib.hid (HPR.out.below hb); clear hb) | (go_at_call 132; refine (HS.out).mono ?_; rintro e w4 ⟨rfl, ⟨v4, hP⟩, hg⟩; have HP4 := Lib.hid hP; have HO4 := Lib.hid ((own_blk_keep HO3.out hg HP3.out.hd).alloc (.cells #[.int .i64 x.k, .string x.s, .int .i64 x.n, .int .i64 x.at_] 116)); have HG4 := Lib.hid (HG3.out.trans hg); have hs4 : Hid (w.heap.size ≤ w4.heap.size) := (HG3.out.trans hg).size; have hsw : Hid (w.heap.size ≤ (w4.alloc (.cells #[.int .i64 x.k, .string x.s, .int .i64 x.n, .int .i64 x.at_] 116)).heap.size) := Nat.le_trans (HG3.out.trans hg).size (by simp); have H1 : Hid (∀ j u, [Value.int .i64 x.k, .string x.s, .int .i64 x.n, .int .i64 x.at_][j]? = some u → (w4.alloc (.cells #[.int .i64 x.k, .string x.s, .int .i64 x.n, .int .i64 x.at_] 116)).cell? ((⟨w4.heap.size, 0, none⟩ : Addr).add j) = some u) := cells_new (l := [Value.int .i64 x.k, .string x.s, .int .i64 x.n, .int .i64 x.at_]); clear hP hg) | (at_builtin; refine wpList_append_own _ rfl (.tmp 11) (.tmp 14) 107 rfl w.heap.size 116 i0 _ 4 40 Tryz.underlying107 Hi.out Hz0.out Hz1.out Hz2.out rfl (Nat.succ_pos 3) _ k (t4s (ys.take k)) rfl HO4.out ⟨w4.heap.size, 0, none⟩ 1 1 [.int .i64 x.k, .string x.s, .int .i64 x.n, .int .i64 x.at_] rfl rfl H1.out (t4s_one [x]) (by unfold maxLen; omega) (by omega) hsw.out ?_; intro v' w5 own gr _))
   go_roundw
   case rel =>
    have hab : ∀ g, u3.ownBlock = some g → w.heap.size ≤ g := fun g hg => (HO.out.lt g hg).1
    have hP5 := HP4.out.below ((Below.refl w4.heap.size w4).alloc (Nat.le_refl _) (.cells #[.int .i64 x.k, .string x.s, .int .i64 x.n, .int .i64 x.at_] 116))
    refine ⟨k + 1, v4, by omega, by omega, hP5.grown gr (fun g hg => ?_), ?_, only_above (only_alloc HG4.out _) gr hab⟩
    ·have := hab g hg
     omega
    ·rw [HT.out, t4s_snoc]
     exact own
   case measure =>
    show ys.length - lenOf v' < ys.length - lenOf u3
    rw [own_len own, own_len HO.out]
    omega
  ·have e : k = ys.length := by omega
   subst e
   rw [List.drop_length, List.nil_append] at hPr
   rw [List.take_length] at hO
   have HN := Lib.hid (next_any hPr)
   have HPR := Lib.hid hPr
   have hz2 : (z.k == 2) = false := by simpa using hz
   have HO := Lib.hid hO
   have HGR := Lib.hid hGr
   clear hPr hO hGr hsz hz
   unfold T4.v at HN
   go_wp2_with (go_at_call 57; refine (HN.out).mono ?_; rintro e w3 ⟨rfl, hb⟩; have HB := Lib.hid hb; clear hb)
   go_ret
   exact ⟨_, rfl, own_blk_keep HO.out (grown_of_below HB.out) HPR.out.hd, ⟨v3, HPR.out.below HB.out⟩, HGR.out.trans (grown_of_below HB.out)⟩
end
end Go.Proofs.YtdgfjpbjiccllaaGreatDoor.X
namespace Go.Proofs.YtdgfjpbjiccllaaGreatDoor.X
open Go.RowKit
open YtdgfjpbjiccllaaGreatDoorW.PrintWords YtdgfjpbjiccllaaGreatDoorW.PrintLast YtdgfjpbjiccllaaGreatDoorW.PrintMore
open PTopLoads (bits_Of.f bits_Of.l0 bits_Of.calls bits_is.f)
set_option maxRecDepth 100000
def setOne (n : Int) : Int := Go.bits .or .u64 0 (shl .u64 1 n)
theorem bits_of_one (n : Int) (h0 : 0 ≤ n) (h1 : n < 64) : bits_Of.f 2 [n] = some (setOne n) := by
 unfold bits_Of.f bits_Of.l0
 have e1 : rd [n] 0 = n := rfl
 rw [if_pos (by simp), if_pos (by omega), if_pos (by simp), e1]
 have e2 : bits_is.f n = some true := by
  unfold bits_is.f
  rw [if_pos h0]
  simp [h1]
 rw [e2]
 simp only [Option.bind_some, if_pos, h0]
 unfold bits_Of.l0
 rw [if_neg (by simp [wrap64])]
 rfl
theorem of_one {w : World} {a : Nat} (n : Int) (h0 : 0 ≤ n) (h1 : n < 64) (hc : w.cell? ⟨a, 0, none⟩ = some (.int .i64 n)) : Calls Tryz.prog 123 #[.slice (some ⟨a, 0, none⟩) 1 1] w fun e w' => e = .returned (.int .u64 (setOne n)) ∧ Drawn0 w w' := by
 refine bits_Of.calls 2 (some ⟨a, 0, none⟩) 1 [n] (setOne n) w ⟨rfl, by simp, fun _ => ⟨_, rfl, fun j p hp => ⟨[.int .i64 p], rfl, rfl, fun i u hu => ?_⟩⟩⟩ (Nat.le_refl _) (bits_of_one n h0 h1)
 obtain ⟨hj, rfl⟩ := List.getElem?_eq_some_iff.1 hp
 obtain rfl : j = 0 := by simp at hj; omega
 match i, hu with
 | 0, hu =>
  simp at hu; subst hu
  rw [add_none]
  exact hc
theorem cell_new1 (w : World) (o : Obj) (u : Value) (t : TypeId) : ((w.alloc o).alloc (.cells #[u] t)).cell? ⟨w.heap.size + 1, 0, none⟩ = some u := by
 have h := (Blk.new (w.alloc o) t #[u]).cell 0
 have e : (w.alloc o).heap.size = w.heap.size + 1 := by simp
 rw [e] at h
 exact h
def orAll (l : List T4) : Int := l.foldl (fun a y => Go.bits .or .u64 a (setOne y.n)) 0
theorem orAll_snoc (l : List T4) (x : T4) : orAll (l ++ [x]) = Go.bits .or .u64 (orAll l) (setOne x.n) := by simp [orAll]
def lastN (l : List T4) : Nat → Int
 | 0 => -1
 | k + 1 => (l.getD k ⟨0, ⟨#[]⟩, 0, 0⟩).n
def Inc (l : List T4) : Prop := ∀ k x, l[k]? = some x → x.k = 2 ∧ lastN l k < x.n ∧ x.n < 64 ∧ 0 ≤ x.n
theorem lastN_lo {l : List T4} (h : Inc l) : ∀ k, k ≤ l.length → -1 ≤ lastN l k ∧ lastN l k < 64
 | 0, _ => by simp [lastN]
 | k + 1, hk => by
  have hx := h k l[k] (List.getElem?_eq_getElem hk)
  have e : lastN l (k + 1) = l[k].n := by simp [lastN, List.getD_eq_getElem?_getD, List.getElem?_eq_getElem hk]
  rw [e]
  omega
section
variable {w w' : World} {pp tb : Nat} {v : Value} {L : List T4} {x y z : T4}
theorem sets_no (h : PAt w pp tb v (z :: L)) (s : ByteArray) (hk : isTok z s = false) : Calls Tryz.prog 100 #[.pointer (some ⟨pp, 0, none⟩), .string s] w fun e w' => e = .returned (.int .u64 0) ∧ Below w.heap.size w w' := by
 have HI := Lib.hid (takes_no h s hk)
 clear h hk
 go_enter Tryz.func100, Tryz.ntmps100
 go_wp2_with (go_at_call 97; refine (HI.out).mono ?_; rintro e w2 ⟨rfl, hb⟩; have HB := Lib.hid hb; clear hb)
 go_ret
 exact ⟨rfl, HB.out⟩
set_option maxHeartbeats 4000000 in
theorem sets_yes {ys : List T4} (h : PAt w pp tb v (x :: (ys ++ z :: L))) (s : ByteArray) (hk : isTok x s = true) (h0 : ys ≠ []) (hys : Inc ys) (hz : z.k ≠ 2) :
  Calls Tryz.prog 100 #[.pointer (some ⟨pp, 0, none⟩), .string s] w fun e w' => e = .returned (.int .u64 (orAll ys)) ∧ (∃ v', PAt w' pp tb v' (z :: L)) ∧ w.grownBy w' (some pp) := by
 have HI := Lib.hid (takes_yes h s hk)
 have HYS := Lib.hid hys
 have hlen : 1 ≤ ys.length := by
  cases ys with
  | nil => exact absurd rfl h0
  | cons a l => simp
 have HZ := Lib.hid hz
 have q0 := field0
 have hpl := h.hd.lt
 have htl := h.tlt
 clear h hk hys h0 hz
 go_enter Tryz.func100, Tryz.ntmps100
 go_wp2_with (go_at_call 97; refine (HI.out).mono ?_; rintro e w2 ⟨rfl, ⟨v2, hP⟩, hg⟩; have HP := Lib.hid hP; have HG := Lib.hid hg; clear hP hg)
 clear HI
 go_loopw [5, 6, 7] (fun z5 z6 z7 wr => ∃ (k : Nat) (v3 : Value), k ≤ ys.length ∧ z5 = .int .u64 (orAll (ys.take k)) ∧ z6 = .int .i64 (lastN ys k) ∧ z7 = .bool (decide (k < ys.length)) ∧ PAt wr pp tb v3 (ys.drop k ++ z :: L) ∧ w.grownBy wr (some pp)) (fun _ z6 _ _ => 64 - (intOf z6 + 1).toNat)
 case atStart =>
  have e : decide (0 < ys.length) = true := by simp; omega
  exact ⟨0, v2, Nat.zero_le _, rfl, rfl, by rw [e], HP.out, HG.out⟩
 case round =>
  obtain ⟨k, v3, hk, rfl, rfl, rfl, hPr, hGr⟩ := hrel
  have hsz := hGr.size
  by_cases hlt : k < ys.length
  ·obtain ⟨x, hx⟩ : ∃ x, ys[k]? = some x := ⟨_, List.getElem?_eq_getElem hlt⟩
   obtain ⟨hxk, hx1, hx2, hx3⟩ := HYS.out k x hx
   have hd : ys.drop k = x :: ys.drop (k + 1) := by
    obtain ⟨h1, rfl⟩ := List.getElem?_eq_some_iff.1 hx
    exact List.drop_eq_getElem_cons h1
   have ht : ys.take (k + 1) = ys.take k ++ [x] := by
    obtain ⟨h1, rfl⟩ := List.getElem?_eq_some_iff.1 hx
    rw [List.take_succ_eq_append_getElem h1]
   have hln : lastN ys (k + 1) = x.n := by
    obtain ⟨h1, rfl⟩ := List.getElem?_eq_some_iff.1 hx
    simp [lastN, List.getD_eq_getElem?_getD, List.getElem?_eq_getElem h1]
   have hll := (lastN_lo HYS.out k hk).1
   rw [hd, List.cons_append] at hPr
   have hde : decide (k < ys.length) = true := by simpa using hlt
   obtain ⟨nx, M, hM⟩ : ∃ nx M, ys.drop (k + 1) ++ z :: L = nx :: M := by
    cases hq : ys.drop (k + 1) with
    | nil => exact ⟨z, L, rfl⟩
    | cons a l => exact ⟨a, l ++ z :: L, rfl⟩
   have hnx : (nx.k == 2) = decide (k + 1 < ys.length) := by
    by_cases h1 : k + 1 < ys.length
    ·rw [List.drop_eq_getElem_cons h1, List.cons_append] at hM
     injection hM with hM _
     have h2 := (HYS.out (k + 1) ys[k + 1] (List.getElem?_eq_getElem h1)).1
     rw [hM] at h2
     simp [h1, h2]
    ·rw [List.drop_eq_nil_of_le (by omega), List.nil_append] at hM
     injection hM with hM _
     have h2 := HZ.out
     rw [hM] at h2
     simp [h1, h2]
   have hPM := hPr
   rw [hM] at hPM
   have HKD := Lib.hid (kind_yes hPM (by omega) 2 hxk)
   have HM := Lib.hid hM
   have HT := Lib.hid ht
   have HLN := Lib.hid hln
   have HGR := Lib.hid hGr
   have HX1 := Lib.hid hx1
   have HSZ := Lib.hid hsz
   have HNX := Lib.hid hnx
   obtain ⟨ln, hln0⟩ : ∃ ln, lastN ys k = ln := ⟨_, rfl⟩
   rw [hln0] at hx1 hll HX1 ⊢
   have g1 : ¬ (64 : Int) ≤ x.n := by omega
   have g2 : ¬ x.n ≤ ln := by omega
   have g3 : decide ((64 : Int) ≤ x.n) = false := by simp; omega
   have g4 : decide (x.n ≤ ln) = false := by simp; omega
   rw [hde]
   clear hPr hPM hGr hd ht hx hxk hsz hM hnx hln hde hln0
   unfold T4.v at HKD
   go_wp2_with (first | (go_at_call 96; refine (HKD.out).mono ?_; rintro e w3 ⟨rfl, ⟨v4, hP⟩, hg⟩; have HP4 := Lib.hid hP; have HG4 := Lib.hid (HGR.out.trans hg); clear hP hg) | (go_at_call 123; go_loud (refine (of_one x.n hx3 hx2 (cell_new1 _ _ _ _)).mono ?_; rintro e w4 ⟨rfl, hdr⟩; have hP5 := HP4.out.below ((((Below.refl w3.heap.size w3).alloc (Nat.le_refl _) _).alloc (by simp) _).trans (hdr.below.mono (by simp <;> omega))); have HP5 := Lib.hid hP5; have hG5 := (only_alloc (only_alloc HG4.out _) _).trans (grown_of_below hdr.below); have HG5 := Lib.hid hG5; have HNE := Lib.hid (next_any hP5); unfold T4.v at HNE; clear hP5 hG5 hdr)) | (go_at_call 57; refine (HNE.out).mono ?_; rintro e w5 ⟨rfl, hb⟩; have HB5 := Lib.hid hb; clear hb))
   go_roundw
   case rel =>
    refine ⟨k + 1, v4, by omega, ?_, by rw [HLN.out], ?_, ?_, HG5.out.trans (grown_of_below HB5.out)⟩
    ·rw [HT.out, orAll_snoc]
    ·rw [HNX.out]
    ·rw [HM.out]
     exact HP5.out.below HB5.out
   case measure =>
    show 64 - (intOf (.int .i64 x.n) + 1).toNat < 64 - (intOf (.int .i64 ln) + 1).toNat
    simp only [intOf]
    omega
  ·have e : k = ys.length := by omega
   subst e
   rw [List.drop_length, List.nil_append] at hPr
   rw [List.take_length]
   have hde : decide (ys.length < ys.length) = false := by simp
   rw [hde]
   have HPR := Lib.hid hPr
   have HGR := Lib.hid hGr
   clear hPr hGr hsz hde; go_wp2; go_ret
   exact ⟨rfl, ⟨v3, HPR.out⟩, HGR.out⟩
end
end Go.Proofs.YtdgfjpbjiccllaaGreatDoor.X
namespace Go.Proofs.YtdgfjpbjiccllaaGreatDoor.X
open Go.RowKit
open YtdgfjpbjiccllaaGreatDoorW.PrintWords YtdgfjpbjiccllaaGreatDoorW.PrintLast YtdgfjpbjiccllaaGreatDoorW.PrintMore
set_option maxRecDepth 100000
structure Gr2 (w w' : World) (a b : Nat) : Prop where
 os : w'.os = w.os
 tape : w'.tape = w.tape
 output : w'.output = w.output
 size : w.heap.size ≤ w'.heap.size
 block : ∀ i, i < w.heap.size → i ≠ a → i ≠ b → w'.heap[i]? = w.heap[i]?
section
variable {w w' w2 : World} {pp tb tk : Nat} {v : Value} {L : List T4} {x y z : T4}
theorem Gr2.of (h : w.grownBy w' (some pp)) : Gr2 w w' pp tk := ⟨h.os, h.tape, h.output, h.size, fun i hi h1 _ => h.block i hi (fun e => h1 (by injection e))⟩
theorem Gr2.set_ (h : Gr2 w w' pp tk) (i : Nat) (u : Value) : Gr2 w (w'.setCell ⟨tk, i, none⟩ u) pp tk :=
 ⟨h.os, h.tape, h.output, by simpa [World.setCell] using h.size, fun j hj h1 h2 => (Below.heap_setCell w' ⟨tk, i, none⟩ u j h2).trans (h.block j hj h1 h2)⟩
theorem Gr2.only (h0 : w.grownBy w' (some pp)) (h : Gr2 w' w2 pp tk) (hk : w.heap.size ≤ tk) : w.grownBy w2 (some pp) :=
 ⟨h.os.trans h0.os, h.tape.trans h0.tape, h.output.trans h0.output, Nat.le_trans h0.size h.size, fun i hi hne => (h.block i (Nat.lt_of_lt_of_le hi h0.size) (fun e => hne (by rw [e])) (by omega)).trans (h0.block i hi hne)⟩
def sFixed : ByteArray := ⟨#[102, 105, 120, 101, 100]⟩
def sFloat : ByteArray := ⟨#[102, 108, 111, 97, 116]⟩
def sThresh : ByteArray := ⟨#[116, 104, 114, 101, 115, 104]⟩
inductive ModeP : List T4 → Int → Int → Int → Prop
 | fixed (x : T4) (h : isTok x sFixed = true) : ModeP [x] 0 0 0
 | float (x y : T4) (h0 : isTok x sFixed = false) (h : isTok x sFloat = true) (hy : y.k = 2) : ModeP [x, y] 1 y.n 0
 | thresh (x y : T4) (h0 : isTok x sFixed = false) (h1 : isTok x sFloat = false) (h : isTok x sThresh = true) (hy : y.k = 2) : ModeP [x, y] 2 0 y.n
set_option maxHeartbeats 2000000 in
theorem mode_yes {ts : List T4} {m q th : Int} (hm : ModeP ts m q th) (h : PAt w pp tb v (ts ++ L)) {nm cT cD r e u : Value} (hB : Blk w tk 46 #[nm, cT, cD, .int .i64 0, .int .i64 0, .int .i64 0, r, e, u]) (h1 : tk ≠ pp) (h2 : tk ≠ tb) :
  Calls Tryz.prog 98 #[.pointer (some ⟨pp, 0, none⟩), .pointer (some ⟨tk, 0, none⟩)] w fun e' w' => e' = .returned (.tuple #[]) ∧ (∃ v', PAt w' pp tb v' L) ∧ Blk w' tk 46 #[nm, cT, cD, .int .i64 m, .int .i64 q, .int .i64 th, r, e, u] ∧ Gr2 w w' pp tk := by
 have HB := Lib.hid hB
 cases hm with
 | fixed x hx =>
  have HI := Lib.hid (takes_yes h sFixed hx)
  clear h hB hx
  unfold sFixed at HI
  go_enter Tryz.func98, Tryz.ntmps98
  go_wp2_with (go_at_call 97; refine (HI.out).mono ?_; rintro e w2 ⟨rfl, ⟨v2, hP⟩, hg⟩; have HP := Lib.hid hP; have HG := Lib.hid hg; have D := HB.out.grown hg (by intro e; injection e with e; exact h1 e); have g3 := D.cell 3; have f3 := D.frozen 3; clear hP hg)
  go_end0
  exact ⟨rfl, ⟨v2, HP.out.far h1 h2 _⟩, D.set_ 3 _, (Gr2.of HG.out).set_ 3 _⟩
 | float x y hx0 hx hy =>
  have HI0 := Lib.hid (takes_no h sFixed hx0)
  have HH := Lib.hid h
  have HX := Lib.hid hx
  clear h hB hx0 hx
  unfold sFixed at HI0
  go_enter Tryz.func98, Tryz.ntmps98
  go_wp2_with (first | (go_at_call 97; refine (HI0.out).mono ?_; rintro e w2 ⟨rfl, hb⟩; have HB2 := Lib.hid hb; have hI := is_any (HH.out.below hb) sFloat; rw [HX.out] at hI; have HI := Lib.hid hI; unfold sFloat at HI; clear hb hI) | (go_at_call 133; refine (HI.out).mono ?_; rintro e w3 ⟨rfl, hb⟩; have HB3 := Lib.hid hb; have HA := Lib.hid (after_yes ((HH.out.below HB2.out).below hb) sFloat HX.out hy); unfold sFloat at HA; clear hb) | (go_at_call 55; refine (HA.out).mono ?_; rintro e w4 ⟨rfl, ⟨v4, hP⟩, hg⟩; have HP := Lib.hid hP; have hg := ((grown_of_below HB2.out).trans (grown_of_below HB3.out)).trans hg; have HG := Lib.hid hg; have D := HB.out.grown hg (by intro e; injection e with e; exact h1 e); have g3 := D.cell 3; have f3 := D.frozen 3; have g4 := D.cell 4; have f4 := D.frozen 4; clear hP hg))
  go_end0
  exact ⟨rfl, ⟨v4, (HP.out.far h1 h2 _).far h1 h2 _⟩, (D.set_ 3 _).set_ 4 _, ((Gr2.of HG.out).set_ 3 _).set_ 4 _⟩
 | thresh x y hx0 hx1 hx hy =>
  have HI0 := Lib.hid (takes_no h sFixed hx0)
  have HH := Lib.hid h
  have HX1 := Lib.hid hx1
  have HX := Lib.hid hx
  clear h hB hx0 hx hx1
  unfold sFixed at HI0
  go_enter Tryz.func98, Tryz.ntmps98
  go_wp2_with (first | (go_at_call 97; refine (HI0.out).mono ?_; rintro e w2 ⟨rfl, hb⟩; have HB2 := Lib.hid hb; have hI := is_any (HH.out.below hb) sFloat; rw [HX1.out] at hI; have HI := Lib.hid hI; unfold sFloat at HI; clear hb hI) | (go_at_call 133; refine (HI.out).mono ?_; rintro e w3 ⟨rfl, hb⟩; have HB3 := Lib.hid hb; have hI := is_any ((HH.out.below HB2.out).below hb) sThresh; rw [HX.out] at hI; have HI2 := Lib.hid hI; unfold sThresh at HI2; clear hb hI HI) | (go_at_call 133; refine (HI2.out).mono ?_; rintro e w4 ⟨rfl, hb⟩; have HB4 := Lib.hid hb; have HA := Lib.hid (after_yes (((HH.out.below HB2.out).below HB3.out).below hb) sThresh HX.out hy); unfold sThresh at HA; clear hb) | (go_at_call 55; refine (HA.out).mono ?_; rintro e w5 ⟨rfl, ⟨v4, hP⟩, hg⟩; have HP := Lib.hid hP; have hg := (((grown_of_below HB2.out).trans (grown_of_below HB3.out)).trans (grown_of_below HB4.out)).trans hg; have HG := Lib.hid hg; have D := HB.out.grown hg (by intro e; injection e with e; exact h1 e); have g3 := D.cell 3; have f3 := D.frozen 3; have g5 := D.cell 5; have f5 := D.frozen 5; clear hP hg))
  go_end0
  exact ⟨rfl, ⟨v4, (HP.out.far h1 h2 _).far h1 h2 _⟩, (D.set_ 3 _).set_ 5 _, ((Gr2.of HG.out).set_ 3 _).set_ 5 _⟩
end
end Go.Proofs.YtdgfjpbjiccllaaGreatDoor.X
namespace Go.Proofs.YtdgfjpbjiccllaaGreatDoor.X
open Go.RowKit
open YtdgfjpbjiccllaaGreatDoorW.PrintWords YtdgfjpbjiccllaaGreatDoorW.PrintLast YtdgfjpbjiccllaaGreatDoorW.PrintMore
open PTopLoads (S46)
set_option maxRecDepth 100000
def sTask : ByteArray := ⟨#[116, 97, 115, 107]⟩
def sPeriod : ByteArray := ⟨#[112, 101, 114, 105, 111, 100]⟩
def sDeadline : ByteArray := ⟨#[100, 101, 97, 100, 108, 105, 110, 101]⟩
def sRegions : ByteArray := ⟨#[114, 101, 103, 105, 111, 110, 115]⟩
def sEcb : ByteArray := ⟨#[101, 99, 98]⟩
def sUcb : ByteArray := ⟨#[117, 99, 98]⟩
def sSemi : ByteArray := ⟨#[59]⟩
def sReload : ByteArray := ⟨#[114, 101, 108, 111, 97, 100]⟩
inductive SetsP (s : ByteArray) : List T4 → Int → Prop
 | none : SetsP s [] 0
 | some (x : T4) (ys : List T4) (h : isTok x s = true) (h0 : ys ≠ []) (hi : Inc ys) : SetsP s (x :: ys) (orAll ys)
structure TaskP (ts : List T4) (x : S46) : Prop where
 out : ∃ a n p1 p2 d1 d2 ms g ys es us s m q th e u, ts = a :: n :: p1 :: p2 :: d1 :: d2 :: (ms ++ g :: (ys ++ (es ++ (us ++ [s])))) ∧ isTok a sTask = true ∧ n.k = 1 ∧ isTok p1 sPeriod = true ∧ p2.k = 2 ∧ isTok d1 sDeadline = true ∧ d2.k = 2 ∧
  ModeP ms m q th ∧ isTok g sRegions = true ∧ ys ≠ [] ∧ (∀ y ∈ ys, y.k = 2) ∧ SetsP sEcb es e ∧ SetsP sUcb us u ∧ isTok s sSemi = true ∧ x = ⟨n.s, p2.n, d2.n, m, q, th, ys.map T4.n, e, u⟩
theorem isTok_k {x : T4} {s : ByteArray} (h : isTok x s = true) : x.k = 3 := by simp [isTok] at h; exact h.1
theorem isTok_ne {x : T4} {s t : ByteArray} (h : isTok x s = true) (hn : s.toList ≠ t.toList) : isTok x t = false := by
 simp [isTok] at h ⊢
 intro _ e
 exact hn (h.2.symm.trans e)
theorem heads_u {us : List T4} {u : Int} {s : T4} {L : List T4} (h : SetsP sUcb us u) (hs : isTok s sSemi = true) : ∃ z M, us ++ (s :: L) = z :: M ∧ z.k = 3 ∧ isTok z sEcb = false := by
 cases h with
 | none => exact ⟨s, L, rfl, isTok_k hs, isTok_ne hs (by rw [Ne, toList_inj']; decide)⟩
 | some x ys h h0 hi => exact ⟨x, ys ++ s :: L, rfl, isTok_k h, isTok_ne h (by rw [Ne, toList_inj']; decide)⟩
theorem heads_e {es us : List T4} {e u : Int} {s : T4} {L : List T4} (he : SetsP sEcb es e) (h : SetsP sUcb us u) (hs : isTok s sSemi = true) : ∃ z M, es ++ (us ++ (s :: L)) = z :: M ∧ z.k = 3 := by
 obtain ⟨z, M, h1, h2, _⟩ := heads_u (L := L) h hs
 cases he with
 | none => exact ⟨z, M, h1, h2⟩
 | some x ys hx h0 hi => exact ⟨x, ys ++ (us ++ (s :: L)), rfl, isTok_k hx⟩
theorem t4s_length (L : List T4) : (t4s L).length = L.length * 4 := by
 induction L with
 | nil => rfl
 | cons x L ih =>
  have : t4s (x :: L) = x.cells ++ t4s L := rfl
  rw [this, List.length_append, ih]
  simp only [T4.cells, List.length_cons, List.length_nil]
  omega
theorem t4s_at : ∀ (L : List T4) (i j : Nat) (x : T4), L[i]? = some x → j < 4 → (t4s L)[i * 4 + j]? = x.cells[j]?
 | [], i, j, x, h, _ => by simp at h
 | y :: L, 0, j, x, h, hj => by
  simp at h; subst h
  have e : t4s (y :: L) = y.cells ++ t4s L := rfl
  rw [e, Nat.zero_mul, Nat.zero_add, List.getElem?_append_left (by simpa [T4.cells] using hj)]
 | y :: L, i + 1, j, x, h, hj => by
  have e : t4s (y :: L) = y.cells ++ t4s L := rfl
  rw [e, List.getElem?_append_right (by simp [T4.cells]; omega)]
  rw [show (i + 1) * 4 + j - y.cells.length = i * 4 + j from by simp [T4.cells]; omega]
  exact t4s_at L i j x (by simpa using h) hj
section
variable {w w' w2 wr : World} {pp tb tk rb : Nat} {v v' : Value} {L L' : List T4} {x y z : T4} {cs : Array Value}
theorem sets_any {s : ByteArray} {es : List T4} {r : Int} (hp : SetsP s es r) (h : PAt w pp tb v (es ++ z :: L)) (hz : z.k = 3) (hzs : isTok z s = false) :
  Calls Tryz.prog 100 #[.pointer (some ⟨pp, 0, none⟩), .string s] w fun e w' => e = .returned (.int .u64 r) ∧ (∃ v', PAt w' pp tb v' (z :: L)) ∧ w.grownBy w' (some pp) := by
 cases hp with
 | none =>
  refine (sets_no h s hzs).mono ?_
  rintro e w' ⟨rfl, hb⟩
  exact ⟨rfl, ⟨v, PAt.below h hb⟩, grown_of_below hb⟩
 | some x ys hx h0 hi => exact sets_yes h s hx h0 hi (by omega)
structure TSt (w wr : World) (pp tb tk rb : Nat) (v : Value) (L : List T4) (cs : Array Value) : Prop where
 p : PAt wr pp tb v L
 t : Blk wr tk 46 cs
 r : Blk wr rb 46 #[.string ⟨#[]⟩, .int .i64 0, .int .i64 0, .int .i64 0, .int .i64 0, .int .i64 0, .slice none 0 0, .int .u64 0, .int .u64 0]
 g : w.grownBy wr (some pp)
 hr : w.heap.size ≤ rb
 hk : rb < tk
 hp : pp < w.heap.size
 ht : tb < w.heap.size
theorem TSt.next (h : TSt w wr pp tb tk rb v L cs) (hP : PAt w' pp tb v' L') (hg : wr.grownBy w' (some pp)) : TSt w w' pp tb tk rb v' L' cs := by
 have := h.hr; have := h.hk; have := h.hp
 exact ⟨hP, h.t.grown hg (by intro e; injection e with e; omega), h.r.grown hg (by intro e; injection e with e; omega), h.g.trans hg, h.hr, h.hk, h.hp, h.ht⟩
theorem TSt.set_ (h : TSt w wr pp tb tk rb v L cs) (i : Nat) (u : Value) : TSt w (wr.setCell ⟨tk, i, none⟩ u) pp tb tk rb v L (cs.setIfInBounds i u) := by
 have := h.hr; have := h.hk; have := h.hp; have := h.ht
 exact ⟨h.p.far (by omega) (by omega) _, h.t.set_ i u, h.r.far (by show rb ≠ tk; omega) _, only_setCell h.g (.inr (by show _ ≤ tk; omega)) _, h.hr, h.hk, h.hp, h.ht⟩
theorem TSt.nextM {cs' : Array Value} (h : TSt w wr pp tb tk rb v L cs) (hP : PAt w' pp tb v' L') (hB : Blk w' tk 46 cs') (hG : Gr2 wr w' pp tk) : TSt w w' pp tb tk rb v' L' cs' := by
 have := h.hr; have := h.hk; have := h.hp
 exact ⟨hP, hB, (hG.block rb h.r.lt (by omega) (by omega)).trans h.r, hG.only h.g (by omega), h.hr, h.hk, h.hp, h.ht⟩
theorem TSt.alloc (h : TSt w wr pp tb tk rb v L cs) (o : Obj) : TSt w (wr.alloc o) pp tb tk rb v L cs :=
 h.next (h.p.below ((Below.refl _ _).alloc (Nat.le_refl _) _)) (only_alloc (World.grownBy.refl _ _) _)
theorem TSt.own (h : TSt w wr pp tb tk rb v L cs) {u : Value} {m : Nat} {xs : List Value} (ho : wr.ownsRow rb 2 1 u m xs) (hg : wr.grownBy w' u.ownBlock) : TSt w w' pp tb tk rb v L cs := by
 have := h.hr; have := h.hp; have := h.ht
 have hb : ∀ g, u.ownBlock = some g → rb ≤ g := fun g hg => (ho.lt g hg).1
 exact ⟨h.p.grown hg (fun g hg => by have := hb g hg; omega), h.t.grown hg (fun e => own_blk_ne ho h.t (by decide) e.symm), h.r.grown hg (fun e => own_blk_ne ho h.r (by decide) e.symm), only_above h.g hg (fun g hg => by have := hb g hg; omega), h.hr, h.hk, h.hp, h.ht⟩
set_option maxHeartbeats 16000000 in
theorem task_yes {ts : List T4} {x : S46} (hT : TaskP ts x) (h : PAt w pp tb v (ts ++ L)) (hx6 : x.f6.length ≤ 100000) :
  Calls Tryz.prog 58 #[.pointer (some ⟨pp, 0, none⟩)] w fun e w' => ∃ r, e = .returned (.agg #[.string x.f0, .int .i64 x.f1, .int .i64 x.f2, .int .i64 x.f3, .int .i64 x.f4, .int .i64 x.f5, r, .int .u64 x.f7, .int .u64 x.f8]) ∧ w'.ownsRow w.heap.size 2 1 r x.f6.length (J.ints x.f6) ∧ (∃ v', PAt w' pp tb v' L) ∧ w.grownBy w' (some pp) := by
 obtain ⟨a, n, p1, p2, d1, d2, ms, g, ys, es, us, s, m, q, th, e, u, rfl, ha, hn, hp1, hp2, hd1, hd2, hms, hg, hy0, hys, hes, hus, hs, rfl⟩ := hT.out
 simp only [List.cons_append, List.append_assoc, List.nil_append] at h
 have hpl := h.hd.lt
 have htl := h.tlt
 have hB0 := (Below.refl w.heap.size w).alloc (Nat.le_refl _) (.cells #[.string ⟨#[]⟩, .int .i64 0, .int .i64 0, .int .i64 0, .int .i64 0, .int .i64 0, .slice none 0 0, .int .u64 0, .int .u64 0] 46)
 have HR := Lib.hid (Blk.new w 46 #[.string ⟨#[]⟩, .int .i64 0, .int .i64 0, .int .i64 0, .int .i64 0, .int .i64 0, .slice none 0 0, .int .u64 0, .int .u64 0])
 have H1 := Lib.hid (must_yes (h.below hB0) sTask ha)
 have HB0 := Lib.hid hB0
 have HN := Lib.hid hn
 have q1 := field1
 have hn4 : n.k ≠ 4 := by omega
 clear h hB0 ha hn hT
 unfold sTask at H1
 go_enter Tryz.func58, Tryz.ntmps58
 go_upto_region 3 with (first | (go_at_call 56; refine (H1.out).mono ?_; rintro e w2 ⟨rfl, ⟨v2, hP⟩, hg⟩; have HG2 := Lib.hid hg; have H2 := Lib.hid (kind_yes hP hn4 1 HN.out); unfold T4.v at H2; clear hP hg H1) | (go_at_call 96; refine (H2.out).mono ?_; rintro e w3 ⟨rfl, ⟨v3, hP⟩, hg⟩; have HP3 := Lib.hid hP; have HG3 := Lib.hid hg; clear hP hg H2))
 have S3 : TSt w (w3.alloc (.cells #[.string n.s, .int .i64 0, .int .i64 0, .int .i64 0, .int .i64 0, .int .i64 0, .slice none 0 0, .int .u64 0, .int .u64 0] 46)) pp tb w3.heap.size w.heap.size v3 (p1 :: p2 :: d1 :: d2 :: (ms ++ g :: (ys ++ (es ++ (us ++ (s :: L)))))) #[.string n.s, .int .i64 0, .int .i64 0, .int .i64 0, .int .i64 0, .int .i64 0, .slice none 0 0, .int .u64 0, .int .u64 0] := by
  have e : some w.heap.size ≠ some pp := by intro e; injection e with e; omega
  have D := ((HR.out.grown HG2.out e).grown HG3.out e)
  exact ⟨HP3.out.below ((Below.refl _ _).alloc (Nat.le_refl _) _), Blk.new w3 46 _, D.alloc _, only_alloc (((grown_of_below HB0.out).trans HG2.out).trans HG3.out) _, Nat.le_refl _, D.lt, hpl, htl⟩
 obtain ⟨w4, hw4⟩ : ∃ w4, w3.alloc (.cells #[.string n.s, .int .i64 0, .int .i64 0, .int .i64 0, .int .i64 0, .int .i64 0, .slice none 0 0, .int .u64 0, .int .u64 0] 46) = w4 := ⟨_, rfl⟩
 obtain ⟨tk, htk⟩ : ∃ tk, w3.heap.size = tk := ⟨_, rfl⟩
 obtain ⟨rb, hrb⟩ : ∃ rb, w.heap.size = rb := ⟨_, rfl⟩
 rw [hw4, htk] at S3 ⊢
 have S3 : TSt w w4 pp tb tk rb v3 (p1 :: p2 :: d1 :: d2 :: (ms ++ g :: (ys ++ (es ++ (us ++ (s :: L)))))) #[.string n.s, .int .i64 0, .int .i64 0, .int .i64 0, .int .i64 0, .int .i64 0, .slice none 0 0, .int .u64 0, .int .u64 0] := by rw [← hrb]; exact S3
 rw [hrb]
 have HRB := Lib.hid hrb
 have hkp : tk ≠ pp := by have := S3.hr; have := S3.hk; have := S3.hp; omega
 have hkt : tk ≠ tb := by have := S3.hr; have := S3.hk; have := S3.ht; omega
 have A1 := Lib.hid (after_yes S3.p sPeriod hp1 hp2)
 have HS3 := Lib.hid S3
 have HD1 := Lib.hid hd1
 have HD2 := Lib.hid hd2
 have HMS := Lib.hid hms
 have HGG := Lib.hid hg
 have HY0 := Lib.hid hy0
 have HYS := Lib.hid hys
 have HES := Lib.hid hes
 have HUS := Lib.hid hus
 have HSS := Lib.hid hs
 clear hw4 htk hrb S3 hp1 hp2 hd1 hd2 hms hg hy0 hys hes hus hs HG2 HP3 HG3 HR HB0 hpl htl hn4 q1
 obtain ⟨z, M, hzM, hz3⟩ := heads_e (L := L) HES.out HUS.out HSS.out
 have hz2 : z.k ≠ 2 := by omega
 have HZM := Lib.hid hzM
 have HZ2 := Lib.hid hz2
 have hylen : 0 < ys.length := by
  cases hq : ys with
  | nil => exact absurd hq HY0.out
  | cons a l => simp
 have hylim : ys.length ≤ 100000 := by simpa using hx6
 clear hzM hz2 hz3
 unfold sPeriod at A1
 go_wp2_with (first | (go_at_call 55; refine (A1.out).mono ?_; rintro e w5 ⟨rfl, ⟨v5, hP⟩, hg⟩; have HS5 := Lib.hid (HS3.out.next hP hg); have g1 := HS5.out.t.cell 1; have f1 := HS5.out.t.frozen 1; have HS6 := Lib.hid (HS5.out.set_ 1 (.int .i64 p2.n)); have A2 := Lib.hid (after_yes HS6.out.p sDeadline HD1.out HD2.out); unfold sDeadline at A2; clear hP hg A1) | (go_at_call 55; refine (A2.out).mono ?_; rintro e w7 ⟨rfl, ⟨v7, hP⟩, hg⟩; have HS7 := Lib.hid (HS6.out.next hP hg); have g2 := HS7.out.t.cell 2; have f2 := HS7.out.t.frozen 2; have HS8 := Lib.hid (HS7.out.set_ 2 (.int .i64 d2.n)); have D8 : Blk (w7.setCell ⟨tk, 2, none⟩ (.int .i64 d2.n)) tk 46 #[.string n.s, .int .i64 p2.n, .int .i64 d2.n, .int .i64 0, .int .i64 0, .int .i64 0, .slice none 0 0, .int .u64 0, .int .u64 0] := HS8.out.t; have A3 := Lib.hid (mode_yes HMS.out HS8.out.p D8 hkp hkt); clear hP hg A2 g1 f1 D8) | (go_at_call 98; refine (A3.out).mono ?_; rintro e w9 ⟨rfl, ⟨v9, hP⟩, hB, hG⟩; have HS9 := Lib.hid (HS8.out.nextM hP hB hG); have A4 := Lib.hid (must_yes HS9.out.p sRegions HGG.out); unfold sRegions at A4; clear hP hB hG A3 g2 f2) | (go_at_call 56; refine (A4.out).mono ?_; rintro e wa ⟨rfl, ⟨va, hP⟩, hg⟩; have HSa := Lib.hid (HS9.out.next hP hg); have hPa := HSa.out.p; rw [HZM.out] at hPa; have A5 := Lib.hid (row_yes hPa HY0.out HYS.out HZ2.out); clear hP hg A4 hPa) | (go_at_call 99; refine (A5.out).mono ?_; rintro e wb ⟨u, rfl, hown, ⟨vb, hP⟩, hg⟩; have HSb := Lib.hid (HSa.out.next hP hg); obtain ⟨gr, gc, gcs, rfl, hgb, hgB, hgc⟩ := own_cells hown hylen; have HGB := Lib.hid hgB; have HGC := Lib.hid hgc; have HGL := Lib.hid hgb; clear hP hg A5 hown hgb hgB hgc))
 obtain ⟨i0, hi0, hz0, hz1, hz2⟩ := info_parts J.Tryz.info2
 have Hz0 := Lib.hid hz0; clear hz0
 have Hz1 := Lib.hid hz1; clear hz1
 have Hz2 := Lib.hid hz2; clear hz2
 have Hi := Lib.hid hi0; clear hi0
 clear HS3 HS5 HS6 HS7 HS8 HS9 HSa
 go_loopw [25] (fun z25 wr => ∃ (k : Nat) (rv : Value), k ≤ ys.length ∧ z25 = .int .i64 k ∧ TSt w wr pp tb tk rb vb (z :: M) #[.string n.s, .int .i64 p2.n, .int .i64 d2.n, .int .i64 m, .int .i64 q, .int .i64 th, rv, .int .u64 0, .int .u64 0] ∧ wr.ownsRow rb 2 1 rv k (J.ints ((ys.map T4.n).take k)) ∧ Blk wr gr 116 gcs) (fun z25 _ => ys.length - (intOf z25).toNat)
 case atStart => exact ⟨0, _, Nat.zero_le _, rfl, HSb.out, by simpa [J.ints] using World.ownsRow_nil _ _ _ _, HGB.out⟩
 case round =>
  obtain ⟨k, rv, hk, rfl, hS, hO, hG⟩ := hrel
  obtain ⟨RA, rc, rfl, hrc, _⟩ := row_read hO
  by_cases hlt : k < ys.length
  ·obtain ⟨y, hy⟩ : ∃ y, ys[k]? = some y := ⟨_, List.getElem?_eq_getElem hlt⟩
   have hc : ∀ j, j < 4 → wr.cell? ⟨gr, k * 4 + j, none⟩ = y.cells[j]? := fun j hj => by
    rw [hG.cell, HGC.out _ (by rw [t4s_length]; omega), t4s_at ys k j y hy hj]
   have c0 : wr.cell? ⟨gr, k * 4, none⟩ = some (.int .i64 y.k) := hc 0 (by decide)
   have c1 : wr.cell? ⟨gr, k * 4 + 1, none⟩ = some (.string y.s) := hc 1 (by decide)
   have c2 : wr.cell? ⟨gr, k * 4 + 2, none⟩ = some (.int .i64 y.n) := hc 2 (by decide)
   have c3 : wr.cell? ⟨gr, k * 4 + 3, none⟩ = some (.int .i64 y.at_) := hc 3 (by decide)
   have t6 : wr.cell? ⟨tk, 6, none⟩ = some (.slice RA k rc) := hS.t.cell 6
   have hgl := hG.lt
   have hkl := hS.t.lt
   have hne := own_blk_ne hO hS.t (by decide)
   have hng := own_blk_ne hO hG (by decide)
   have hrl := hS.hr
   have hrk := hS.hk
   have hex : (ys.map T4.n).take (k + 1) = (ys.map T4.n).take k ++ [y.n] := by
    obtain ⟨h1, rfl⟩ := List.getElem?_eq_some_iff.1 hy
    rw [List.take_succ_eq_append_getElem (by simpa using h1)]
    simp
   have HE := Lib.hid hex
   have HS := Lib.hid hS
   have HG := Lib.hid hG
   have HV := Lib.hid ((hO.alloc (.cells #[.int .i64 y.k, .string y.s, .int .i64 y.n, .int .i64 y.at_] 116)).alloc (.cells #[.int .i64 y.n] 2))
   have H1 : Hid (∀ j u, [Value.int .i64 y.n][j]? = some u → ((wr.alloc (.cells #[.int .i64 y.k, .string y.s, .int .i64 y.n, .int .i64 y.at_] 116)).alloc (.cells #[.int .i64 y.n] 2)).cell? ((⟨(wr.alloc (.cells #[.int .i64 y.k, .string y.s, .int .i64 y.n, .int .i64 y.at_] 116)).heap.size, 0, none⟩ : Addr).add j) = some u) := cells_new (l := [Value.int .i64 y.n])
   have hsz : (wr.alloc (.cells #[.int .i64 y.k, .string y.s, .int .i64 y.n, .int .i64 y.at_] 116)).heap.size = wr.heap.size + 1 := by simp
   rw [hsz] at H1
   have H5 : Hid (rb ≤ ((wr.alloc (.cells #[.int .i64 y.k, .string y.s, .int .i64 y.n, .int .i64 y.at_] 116)).alloc (.cells #[.int .i64 y.n] 2)).heap.size) := by unfold Hid; simp; omega
   have HNE := Lib.hid hne
   have HNG := Lib.hid hng
   have hOb : Hid (∀ g, (Value.slice RA k rc).ownBlock = some g → rb ≤ g) := fun g hg => (hO.lt g hg).1
   clear hO hS hG hy hc hex hne hng hsz hrl hrk
   go_wp2_with (at_builtin; refine wpList_append_own _ rfl (.tmp 30) (.tmp 33) 32 rfl rb 2 i0 _ 1 8 Tryz.underlying32 Hi.out Hz0.out Hz1.out Hz2.out rfl (Nat.succ_pos 0) (.slice RA k rc) k (J.ints ((ys.map T4.n).take k)) rfl HV.out ⟨wr.heap.size + 1, 0, none⟩ 1 1 [.int .i64 y.n] rfl rfl H1.out (J.ints_one [y.n]) (by unfold maxLen; omega) (by omega) H5.out ?_; intro v' w5 own gr' _; obtain ⟨g', m', rfl⟩ := own_shape own; have T5 := ((HS.out.t.alloc (.cells #[.int .i64 y.k, .string y.s, .int .i64 y.n, .int .i64 y.at_] 116)).alloc (.cells #[.int .i64 y.n] 2)).grown gr' (fun e => HNE.out e.symm); have f6 := T5.frozen 6; have d6 := T5.cell 6)
   have S5 := ((((HS.out.alloc (.cells #[.int .i64 y.k, .string y.s, .int .i64 y.n, .int .i64 y.at_] 116)).alloc (.cells #[.int .i64 y.n] 2)).own HV.out gr').set_ 6 (.slice (some ⟨g', 0, none⟩) (k + 1) m'))
   have HT5 := T5
   refine ⟨⟨k + 1, _, by omega, by go_num, S5, ?_, ?_⟩, by simp [intOf]; omega⟩
   ·rw [HE.out]
    have : J.ints ((ys.map T4.n).take k ++ [y.n]) = J.ints ((ys.map T4.n).take k) ++ [.int .i64 y.n] := J.ints_snoc _ _
    rw [this]
    exact own_far own (own_blk_ne own T5 (by decide)) _
   ·have D := ((HG.out.alloc (.cells #[.int .i64 y.k, .string y.s, .int .i64 y.n, .int .i64 y.at_] 116)).alloc (.cells #[.int .i64 y.n] 2)).grown gr' (fun e => HNG.out e.symm)
    exact D.far (p := ⟨tk, 6, none⟩) (D.ne_ T5 (by decide)) _
  ·have e : k = ys.length := by omega
   subst e
   obtain ⟨z2, M2, h21, h22, h23⟩ := heads_u (L := L) HUS.out HSS.out
   have hps := hS.p
   rw [← HZM.out, h21] at hps
   have A6 := Lib.hid (sets_any HES.out hps h22 h23)
   unfold sEcb at A6
   have H21 := Lib.hid h21
   have HS := Lib.hid hS
   have HO := Lib.hid hO
   clear hps h21 h22 h23 hS hO hG
   go_upto_region 15 with (first | (go_at_call 100; refine (A6.out).mono ?_; rintro e' w6 ⟨rfl, ⟨v6, hP⟩, hg⟩; have HS6 := Lib.hid (HS.out.next hP hg); have HO6 := Lib.hid (J.own_keep HO.out hg (.inr (own_blk_ne HO.out HS.out.p.hd (by decide)))); have g7 := HS6.out.t.cell 7; have f7 := HS6.out.t.frozen 7; have HO7 := Lib.hid (own_far HO6.out (own_blk_ne HO6.out HS6.out.t (by decide)) (o := 7) (.int .u64 e)); have HS7 := Lib.hid (HS6.out.set_ 7 (.int .u64 e)); have hp7 := HS7.out.p; rw [← H21.out] at hp7; have A8 := Lib.hid (sets_any HUS.out hp7 (isTok_k HSS.out) (isTok_ne HSS.out (by rw [Ne, toList_inj']; decide))); unfold sUcb at A8; clear hP hg A6 hp7) | (go_at_call 100; refine (A8.out).mono ?_; rintro e' w8 ⟨rfl, ⟨v8, hP⟩, hg⟩; have HS8 := Lib.hid (HS7.out.next hP hg); have HO8 := Lib.hid (J.own_keep HO7.out hg (.inr (own_blk_ne HO7.out HS7.out.p.hd (by decide)))); have g8 := HS8.out.t.cell 8; have f8 := HS8.out.t.frozen 8; have HO9 := Lib.hid (own_far HO8.out (own_blk_ne HO8.out HS8.out.t (by decide)) (o := 8) (.int .u64 u)); have HS9 := Lib.hid (HS8.out.set_ 8 (.int .u64 u)); have A9 := Lib.hid (must_yes HS9.out.p sSemi HSS.out); unfold sSemi at A9; clear hP hg A8 g7 f7) | (go_at_call 56; refine (A9.out).mono ?_; rintro e' w9 ⟨rfl, ⟨v9, hP⟩, hg⟩; have HSa := Lib.hid (HS9.out.next hP hg); have HOa := Lib.hid (J.own_keep HO9.out hg (.inr (own_blk_ne HO9.out HS9.out.p.hd (by decide)))); clear hP hg A9 g8 f8))
   have S9 := HSa.out
   have b0 : w9.cell? ⟨tk, 0, none⟩ = some (.string n.s) := S9.t.cell 0
   have b1 : w9.cell? ⟨tk, 1, none⟩ = some (.int .i64 p2.n) := S9.t.cell 1
   have b2 : w9.cell? ⟨tk, 2, none⟩ = some (.int .i64 d2.n) := S9.t.cell 2
   have b3 : w9.cell? ⟨tk, 3, none⟩ = some (.int .i64 m) := S9.t.cell 3
   have b4 : w9.cell? ⟨tk, 4, none⟩ = some (.int .i64 q) := S9.t.cell 4
   have b5 : w9.cell? ⟨tk, 5, none⟩ = some (.int .i64 th) := S9.t.cell 5
   have b6 : w9.cell? ⟨tk, 6, none⟩ = some (.slice RA ys.length rc) := S9.t.cell 6
   have b7 : w9.cell? ⟨tk, 7, none⟩ = some (.int .u64 e) := S9.t.cell 7
   have b8 : w9.cell? ⟨tk, 8, none⟩ = some (.int .u64 u) := S9.t.cell 8
   have r0 := S9.r.cell 0
   have r1 := S9.r.cell 1
   have r2 := S9.r.cell 2
   have r3 := S9.r.cell 3
   have r4 := S9.r.cell 4
   have r5 := S9.r.cell 5
   have r6 := S9.r.cell 6
   have r7 := S9.r.cell 7
   have r8 := S9.r.cell 8
   have k0 := S9.r.frozen 0
   have k1 := S9.r.frozen 1
   have k2 := S9.r.frozen 2
   have k3 := S9.r.frozen 3
   have k4 := S9.r.frozen 4
   have k5 := S9.r.frozen 5
   have k6 := S9.r.frozen 6
   have k7 := S9.r.frozen 7
   have k8 := S9.r.frozen 8
   have hrp : rb ≠ pp := by have := S9.hr; have := S9.hp; omega
   have hrt : rb ≠ tb := by have := S9.hr; have := S9.ht; omega
   have hrw : w.heap.size ≤ rb := S9.hr
   have DR : Blk (((((((((w9.setCell ⟨rb, 0, none⟩ (.string n.s)).setCell ⟨rb, 1, none⟩ (.int .i64 p2.n)).setCell ⟨rb, 2, none⟩ (.int .i64 d2.n)).setCell ⟨rb, 3, none⟩ (.int .i64 m)).setCell ⟨rb, 4, none⟩ (.int .i64 q)).setCell ⟨rb, 5, none⟩ (.int .i64 th)).setCell ⟨rb, 6, none⟩ (.slice RA ys.length rc)).setCell ⟨rb, 7, none⟩ (.int .u64 e)).setCell ⟨rb, 8, none⟩ (.int .u64 u)) rb 46 #[.string n.s, .int .i64 p2.n, .int .i64 d2.n, .int .i64 m, .int .i64 q, .int .i64 th, .slice RA ys.length rc, .int .u64 e, .int .u64 u] := (((((((((S9.r.set_ 0 (.string n.s)).set_ 1 (.int .i64 p2.n)).set_ 2 (.int .i64 d2.n)).set_ 3 (.int .i64 m)).set_ 4 (.int .i64 q)).set_ 5 (.int .i64 th)).set_ 6 (.slice RA ys.length rc)).set_ 7 (.int .u64 e)).set_ 8 (.int .u64 u))
   have PR : PAt (((((((((w9.setCell ⟨rb, 0, none⟩ (.string n.s)).setCell ⟨rb, 1, none⟩ (.int .i64 p2.n)).setCell ⟨rb, 2, none⟩ (.int .i64 d2.n)).setCell ⟨rb, 3, none⟩ (.int .i64 m)).setCell ⟨rb, 4, none⟩ (.int .i64 q)).setCell ⟨rb, 5, none⟩ (.int .i64 th)).setCell ⟨rb, 6, none⟩ (.slice RA ys.length rc)).setCell ⟨rb, 7, none⟩ (.int .u64 e)).setCell ⟨rb, 8, none⟩ (.int .u64 u)) pp tb v9 L := (((((((((S9.p.far hrp hrt _).far hrp hrt _).far hrp hrt _).far hrp hrt _).far hrp hrt _).far hrp hrt _).far hrp hrt _).far hrp hrt _).far hrp hrt _)
   have GR : w.grownBy (((((((((w9.setCell ⟨rb, 0, none⟩ (.string n.s)).setCell ⟨rb, 1, none⟩ (.int .i64 p2.n)).setCell ⟨rb, 2, none⟩ (.int .i64 d2.n)).setCell ⟨rb, 3, none⟩ (.int .i64 m)).setCell ⟨rb, 4, none⟩ (.int .i64 q)).setCell ⟨rb, 5, none⟩ (.int .i64 th)).setCell ⟨rb, 6, none⟩ (.slice RA ys.length rc)).setCell ⟨rb, 7, none⟩ (.int .u64 e)).setCell ⟨rb, 8, none⟩ (.int .u64 u)) (some pp) := only_setCell (only_setCell (only_setCell (only_setCell (only_setCell (only_setCell (only_setCell (only_setCell (only_setCell S9.g (.inr hrw) _) (.inr hrw) _) (.inr hrw) _) (.inr hrw) _) (.inr hrw) _) (.inr hrw) _) (.inr hrw) _) (.inr hrw) _) (.inr hrw) _
   have hon := own_blk_ne HOa.out S9.r (by decide)
   have OR : (((((((((w9.setCell ⟨rb, 0, none⟩ (.string n.s)).setCell ⟨rb, 1, none⟩ (.int .i64 p2.n)).setCell ⟨rb, 2, none⟩ (.int .i64 d2.n)).setCell ⟨rb, 3, none⟩ (.int .i64 m)).setCell ⟨rb, 4, none⟩ (.int .i64 q)).setCell ⟨rb, 5, none⟩ (.int .i64 th)).setCell ⟨rb, 6, none⟩ (.slice RA ys.length rc)).setCell ⟨rb, 7, none⟩ (.int .u64 e)).setCell ⟨rb, 8, none⟩ (.int .u64 u)).ownsRow rb 2 1 (.slice RA ys.length rc) ys.length (J.ints ((ys.map T4.n).take ys.length)) := own_far (own_far (own_far (own_far (own_far (own_far (own_far (own_far (own_far HOa.out hon _) hon _) hon _) hon _) hon _) hon _) hon _) hon _) hon _
   have HDR := Lib.hid DR
   have HPR := Lib.hid PR
   have HGR := Lib.hid GR
   have HOR := Lib.hid OR
   clear S9 DR PR GR OR hon hrp hrt hrw
   go_wp2_with fail
   refine bodyPost_ret (results_cell1 rfl _ _ rb 46 #[.string n.s, .int .i64 p2.n, .int .i64 d2.n, .int .i64 m, .int .i64 q, .int .i64 th, .slice RA ys.length rc, .int .u64 e, .int .u64 u] _ rfl HDR.out Tryz.underlying46 rfl (by kernel_rfl)) rfl ⟨_, rfl, ?_, ⟨v9, HPR.out⟩, HGR.out⟩
   rw [HRB.out]
   have ho := HOR.out
   rw [show (ys.map T4.n).take ys.length = ys.map T4.n from by rw [← List.length_map (f := T4.n), List.take_length]] at ho
   simpa using ho
end
end Go.Proofs.YtdgfjpbjiccllaaGreatDoor.X
