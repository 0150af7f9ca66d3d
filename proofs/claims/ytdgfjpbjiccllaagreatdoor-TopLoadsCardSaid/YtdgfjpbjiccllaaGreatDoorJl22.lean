/- Joined texts: Tsk, Tsk2, Inv, Nam, Tsk3, Par, Par2, Par3, Par4. -/
import Derived.Test.YtdgfjpbjiccllaaGreatDoorJl21
import Derived.Test.YtdgfjpbjiccllaaGreatDoorJl13
import Derived.Test.YtdgfjpbjiccllaaGreatDoorJl07
import Derived.Test.YtdgfjpbjiccllaaGreatDoorJl15
import Derived.Maps.OwnSet
import Derived.StringKeys
namespace Go.Proofs.YtdgfjpbjiccllaaGreatDoor.X
open Go.RowKit
open YtdgfjpbjiccllaaGreatDoorW.PrintWords YtdgfjpbjiccllaaGreatDoorW.PrintLast YtdgfjpbjiccllaaGreatDoorW.PrintMore
open PTopLoads (S46 k46 z46 k46_mk S57 k57 task_Work.f task_Work.l0 task_Work.calls task_isMode.f task_isMode.calls)
set_option maxRecDepth 100000
theorem isTime_yes (n least : Int) (h1 : least ≤ n) (h2 : n ≤ 10000) (w : World) : Calls Tryz.prog 70 #[.int .i64 n, .int .i64 least] w fun e w' => e = .returned (.bool true) ∧ w = w' := by
  have d1 : decide (least ≤ n) = true := by simpa using h1
  have d2 : decide (n ≤ 10000) = true := by simpa using h2
  go_enter Tryz.func70, Tryz.ntmps70
  go_wp2; go_ret
  exact ⟨rfl, rfl⟩
theorem regOk_any (n : Int) (h1 : 1 ≤ n) (h2 : n ≤ 10000) (w : World) : Calls Tryz.prog 146 #[.int .i64 n] w fun e w' => e = .returned (.bool false) ∧ w = w' := by
  go_enter Tryz.func146, Tryz.ntmps146
  go_wp2_with (go_at_call 70; refine (isTime_yes n 1 h1 h2 _).mono ?_; rintro e w' ⟨rfl, rfl⟩)
  go_ret
  exact ⟨rfl, rfl⟩
set_option maxHeartbeats 400000 in
theorem index_none (A : Option Addr) (c : Nat) (zs : List Int) (w : World) (h : Nums w A zs) (hl : zs.length ≤ 8) (ho : ∀ i (h : i < zs.length), 1 ≤ zs[i] ∧ zs[i] ≤ 10000) :
    Calls Tryz.prog 117 #[.slice A zs.length c, .func (.func 146) #[] #[]] w fun e w' => e = .returned (.int .i64 (-1)) ∧ w = w' := by
  have HO := Lib.hid ho
  clear ho
  go_enter Tryz.func117, Tryz.ntmps117
  go_wp2_with fail
  go_loop [8] (fun z => ∃ k : Nat, k ≤ zs.length ∧ z = .int .i64 k) (fun z => zs.length - (intOf z).toNat)
  case atStart => exact ⟨0, Nat.zero_le _, rfl⟩
  case round =>
    obtain ⟨k, hk, rfl⟩ := hrel
    by_cases hlt : k < zs.length
    · rcases h with h | ⟨b, off, rfl, hb, hc⟩
      · rw [h] at hlt; simp at hlt
      have c0 := hc k hlt
      have HK := Lib.hid (HO.out k hlt)
      go_wp2_with (go_at_call 146; refine (regOk_any _ HK.out.1 HK.out.2 _).mono ?_; rintro e w' ⟨rfl, rfl⟩)
      go_round
      case rel => exact ⟨k + 1, by omega, by go_num⟩
      case measure => simp [intOf]; omega
    · go_wp2
      go_ret
      exact ⟨rfl, rfl⟩
theorem contains_none (A : Option Addr) (c : Nat) (zs : List Int) (w : World) (h : Nums w A zs) (hl : zs.length ≤ 8) (ho : ∀ i (h : i < zs.length), 1 ≤ zs[i] ∧ zs[i] ≤ 10000) :
    Calls Tryz.prog 72 #[.slice A zs.length c, .func (.func 146) #[] #[]] w fun e w' => e = .returned (.bool false) ∧ w = w' := by
  have HO := Lib.hid ho
  clear ho
  go_enter Tryz.func72, Tryz.ntmps72
  go_wp2_with (go_at_call 117; refine (index_none A c zs _ h hl HO.out).mono ?_; rintro e w' ⟨rfl, rfl⟩)
  go_ret
  exact ⟨rfl, rfl⟩
theorem isRegions_yes (A : Option Addr) (c : Nat) (zs : List Int) (w : World) (h : Nums w A zs) (h1 : 1 ≤ zs.length) (hl : zs.length ≤ 8) (ho : ∀ i (h : i < zs.length), 1 ≤ zs[i] ∧ zs[i] ≤ 10000) :
    Calls Tryz.prog 115 #[.slice A zs.length c] w fun e w' => e = .returned (.bool true) ∧ w = w' := by
  have HO := Lib.hid ho
  have HN := Lib.hid h
  clear ho h
  have d1 : decide ((1 : Int) ≤ (zs.length : Int)) = true := by simp; omega
  have d2 : decide ((zs.length : Int) ≤ 8) = true := by simp; omega
  go_enter Tryz.func115, Tryz.ntmps115
  go_wp2_with (go_at_call 72; refine (contains_none A c zs _ HN.out hl HO.out).mono ?_; rintro e w' ⟨rfl, rfl⟩)
  go_ret
  exact ⟨rfl, rfl⟩
theorem own_cells {w : World} {base e size n : Nat} {v : Value} {xs : List Value} (h : w.ownsRow base e size v n xs) (h0 : 0 < n) :
    ∃ g c cs, v = .slice (some ⟨g, 0, none⟩) n c ∧ base ≤ g ∧ Blk w g e cs ∧ ∀ i, i < xs.length → cs[i]? = xs[i]? := by
  rcases h.2 with ⟨_, h1⟩ | ⟨g, c, cur, rfl, hb, hh, hn, _, hs, ht⟩
  · omega
  · refine ⟨g, c, cur, rfl, hb, hh, fun i hi => ?_⟩
    rw [← ht, List.getElem?_take_of_lt (by have := h.1; omega)]
    simp
def NameOk (s : ByteArray) : Prop := s.size ≤ 4000 ∧ tokens s = ([⟨1, s, 0, 0⟩, ⟨4, ⟨#[]⟩, 0, s.size⟩], s.size, 0)
set_option maxHeartbeats 1000000 in
theorem isName_yes (s : ByteArray) (hs : NameOk s) (w : World) (htab : Lib.TabIs Tryz.prog w "strings.asciiSpace" .u8 Lib.asciiSpaceTab) :
    Calls Tryz.prog 114 #[.string s] w fun e w' => e = .returned (.bool true) ∧ Below w.heap.size w w' := by
  have HT := Lib.hid (tokens_any s hs.1 w htab _ hs.2)
  clear htab
  go_enter Tryz.func114, Tryz.ntmps114
  go_wp2_with (go_at_call 54; go_loud (refine (HT.out).mono ?_; rintro e w2 ⟨v, rfl, hown, hb⟩; have hown2 : w2.ownsRow w.heap.size 116 4 v 2 [.int .i64 1, .string s, .int .i64 0, .int .i64 ((0 : Nat) : Int), .int .i64 4, .string ⟨#[]⟩, .int .i64 0, .int .i64 (s.size : Int)] := hown; obtain ⟨g, c, cs, rfl, hg, hB, hc⟩ := own_cells hown2 (Nat.succ_pos 1); have c0 : w2.cell? ⟨g, 0, none⟩ = some (.int .i64 1) := (hB.cell 0).trans (hc 0 (Nat.succ_pos 7)); have c1 : w2.cell? ⟨g, 1, none⟩ = some (.string s) := (hB.cell 1).trans (hc 1 (Nat.succ_lt_succ (Nat.succ_pos 6))); clear hc hB hown hown2))
  go_ret
  exact ⟨by simp, hb⟩
end Go.Proofs.YtdgfjpbjiccllaaGreatDoor.X
namespace Go.Proofs.YtdgfjpbjiccllaaGreatDoor.X
open Go.RowKit
open YtdgfjpbjiccllaaGreatDoorW.PrintWords YtdgfjpbjiccllaaGreatDoorW.PrintLast YtdgfjpbjiccllaaGreatDoorW.PrintMore
open PTopLoads (S46 k46 z46 k46_mk S57 k57 task_Work.f task_Work.l0 task_Work.calls task_isMode.f task_isMode.calls task_isTime.f)
set_option maxRecDepth 100000
def ModeOk (x : S46) (i : Int) : Prop := (x.f3 = 0 ∧ x.f4 = 0 ∧ x.f5 = 0) ∨ (x.f3 = 1 ∧ 0 ≤ x.f4 ∧ x.f4 ≤ 10000 ∧ x.f5 = 0) ∨ (x.f3 = 2 ∧ x.f4 = 0 ∧ 0 ≤ x.f5 ∧ x.f5 ≤ i)
structure TOk (x : S46) (i : Int) : Prop where
  nm : NameOk x.f0
  r1 : 1 ≤ x.f6.length
  r8 : x.f6.length ≤ 8
  rr : ∀ i (h : i < x.f6.length), 1 ≤ x.f6[i] ∧ x.f6[i] ≤ 10000
  wd : x.f6.sum ≤ x.f2
  dt : x.f2 ≤ x.f1
  t1 : x.f1 ≤ 10000
  md : ModeOk x i
  uc : Go.bits .andNot .u64 x.f8 x.f7 = 0
theorem sum_take (l : List Int) (hl : ∀ i (h : i < l.length), 1 ≤ l[i] ∧ l[i] ≤ 10000) : ∀ k, k ≤ l.length → (k : Int) ≤ (l.take k).sum ∧ (l.take k).sum ≤ k * 10000
  | 0, _ => by simp
  | k + 1, h => by
    have ih := sum_take l hl k (by omega)
    have hk := hl k (by omega)
    rw [List.take_succ_eq_append_getElem (by omega), List.sum_append]
    simp only [List.sum_cons, List.sum_nil, Int.add_zero]
    omega
theorem TOk.sum {x : S46} {i : Int} (h : TOk x i) : 1 ≤ x.f6.sum ∧ x.f6.sum ≤ 80000 := by
  have := sum_take x.f6 h.rr x.f6.length (Nat.le_refl _)
  rw [List.take_length] at this
  have := h.r1
  have := h.r8
  omega
theorem work_l0 (l : List Int) (h8 : l.length ≤ 8) (hl : ∀ i (h : i < l.length), 1 ≤ l[i] ∧ l[i] ≤ 10000) : ∀ d k, k ≤ l.length → l.length - k < d → task_Work.l0 d (l.take k).sum l (l.length : Int) (k : Int) = some l.sum
  | 0, k, _, h => by omega
  | d + 1, k, hk, h => by
    have hs := sum_take l hl k hk
    unfold task_Work.l0
    by_cases hlt : k < l.length
    · have hk1 := hl k hlt
      rw [if_pos (by omega), if_pos (by omega), if_pos (by omega)]
      have e1 : rd l (k : Int) = l[k] := by simp [rd, hlt]
      have e2 : (l.take k).sum + l[k] = (l.take (k + 1)).sum := by
        rw [List.take_succ_eq_append_getElem hlt, List.sum_append]
        simp
      have hs2 := sum_take l hl (k + 1) hlt
      rw [e1, e2, show wrap64 (l.take (k + 1)).sum = (l.take (k + 1)).sum from by unfold wrap64; omega, show wrap64 ((k : Int) + 1) = ((k + 1 : Nat) : Int) from by unfold wrap64; omega]
      exact work_l0 l h8 hl d (k + 1) hlt (by omega)
    · have e : k = l.length := by omega
      subst e
      rw [if_neg (by omega), List.take_length]
theorem work_f (x : S46) {i : Int} (h : TOk x i) : task_Work.f 9 x.f0 x.f1 x.f2 x.f3 x.f4 x.f5 x.f6 x.f7 x.f8 = some x.f6.sum := by
  have := work_l0 x.f6 h.r8 h.rr 9 0 (Nat.zero_le _) (by have := h.r8; omega)
  simpa [task_Work.f] using this
theorem mode_f (x : S46) {i : Int} (h : ModeOk x i) : task_isMode.f x.f0 x.f1 x.f2 x.f3 x.f4 x.f5 x.f6 x.f7 x.f8 i = some true := by
  unfold task_isMode.f
  rcases h with ⟨h1, h2, h3⟩ | ⟨h1, h2, h3, h4⟩ | ⟨h1, h2, h3, h4⟩
  · rw [if_pos h1, if_pos h2, h3]; rfl
  · rw [if_neg (by omega), if_pos h1]
    simp only [task_isTime.f]
    rw [if_pos (by omega)]
    simp [h3, h4]
  · rw [if_neg (by omega), if_neg (by omega), if_pos h1, if_pos h2, if_pos (by omega)]
    simp [h4]
theorem nums_C {w : World} {A : Option Addr} {l : List Int} (h : Nums w A l) (hl : l.length ≤ 1000) : (Kd.int .i64).C w A l.length l := by
  refine ⟨rfl, by omega, fun h0 => ?_⟩
  rcases h with rfl | ⟨b, off, rfl, hb, hc⟩
  · simp at h0
  · refine ⟨_, rfl, fun j p hp => ⟨[.int .i64 p], rfl, rfl, fun i u hu => ?_⟩⟩
    obtain ⟨hj, rfl⟩ := List.getElem?_eq_some_iff.1 hp
    match i, hu with
    | 0, hu =>
      simp at hu; subst hu
      rw [add_none]
      show w.cell? ⟨b, off + (j * 1 + 0), none⟩ = _
      rw [show off + (j * 1 + 0) = off + j from by omega]
      exact hc j hj
def tvals (x : S46) (A : Option Addr) (c : Nat) : Array Value := #[.string x.f0, .int .i64 x.f1, .int .i64 x.f2, .int .i64 x.f3, .int .i64 x.f4, .int .i64 x.f5, .slice A x.f6.length c, .int .u64 x.f7, .int .u64 x.f8]
abbrev TS (w : World) (sb : Nat) (x : S46) (A : Option Addr) (c : Nat) (w' : World) : Prop :=
  Blk w' sb 46 (tvals x A c) ∧ Below sb w w' ∧ w'.cell? ⟨sb, 0, none⟩ = some (.string x.f0) ∧ w'.cell? ⟨sb, 1, none⟩ = some (.int .i64 x.f1) ∧ w'.cell? ⟨sb, 2, none⟩ = some (.int .i64 x.f2) ∧ w'.cell? ⟨sb, 3, none⟩ = some (.int .i64 x.f3) ∧
    w'.cell? ⟨sb, 4, none⟩ = some (.int .i64 x.f4) ∧ w'.cell? ⟨sb, 5, none⟩ = some (.int .i64 x.f5) ∧ w'.cell? ⟨sb, 6, none⟩ = some (.slice A x.f6.length c) ∧ w'.cell? ⟨sb, 7, none⟩ = some (.int .u64 x.f7) ∧ w'.cell? ⟨sb, 8, none⟩ = some (.int .u64 x.f8)
theorem ts_of {w w' : World} {sb : Nat} {x : S46} {A : Option Addr} {c : Nat} (D : Blk w' sb 46 (tvals x A c)) (b : Below sb w w') : TS w sb x A c w' :=
  ⟨D, b, D.cell 0, D.cell 1, D.cell 2, D.cell 3, D.cell 4, D.cell 5, D.cell 6, D.cell 7, D.cell 8⟩
theorem ts_next {w w1 w2 : World} {sb : Nat} {x : S46} {A : Option Addr} {c : Nat} (h : TS w sb x A c w1) (b : Below w1.heap.size w1 w2) : TS w sb x A c w2 :=
  ts_of (h.1.below b h.1.lt) (h.2.1.trans (b.mono (Nat.le_of_lt h.1.lt)))
theorem ts_drew {w w1 : World} {sb : Nat} {x : S46} {A : Option Addr} {c : Nat} (h : TS w sb x A c w1) : TS w sb x A c w1.drew := ts_of h.1.drew h.2.1.drew
set_option maxHeartbeats 16000000 in
theorem is_yes (x : S46) (i : Int) (hx : TOk x i) (A : Option Addr) (c : Nat) (hc : x.f6.length ≤ c) (w : World) (hN : Nums w A x.f6) (htab : Lib.TabIs Tryz.prog w "strings.asciiSpace" .u8 Lib.asciiSpaceTab) :
    Calls Tryz.prog 71 #[.agg #[.string x.f0, .int .i64 x.f1, .int .i64 x.f2, .int .i64 x.f3, .int .i64 x.f4, .int .i64 x.f5, .slice A x.f6.length c, .int .u64 x.f7, .int .u64 x.f8], .int .i64 i] w fun e w' => e = .returned (.bool true) ∧ Below w.heap.size w w' := by
  have hsum := hx.sum
  have HTB := Lib.hid (Lib.tabBelow_of_tabIs htab)
  have h1 : Hid (∀ w', Below w.heap.size w w' → Calls Tryz.prog 114 #[.string x.f0] w' fun e w2 => e = .returned (.bool true) ∧ Below w'.heap.size w' w2) := fun w' hb => isName_yes x.f0 hx.nm w' (HTB.out w' hb)
  have h2 : Hid (∀ w', Below w.heap.size w w' → Calls Tryz.prog 115 #[.slice A x.f6.length c] w' fun e w2 => e = .returned (.bool true) ∧ w' = w2) := fun w' hb => isRegions_yes A c x.f6 w' (hN.below hb) hx.r1 hx.r8 hx.rr
  have h3 : Hid (∀ w', Below w.heap.size w w' → Calls Tryz.prog 65 #[.agg #[.string x.f0, .int .i64 x.f1, .int .i64 x.f2, .int .i64 x.f3, .int .i64 x.f4, .int .i64 x.f5, .slice A x.f6.length c, .int .u64 x.f7, .int .u64 x.f8]] w' fun e w2 => e = .returned (.int .i64 x.f6.sum) ∧ Below w'.heap.size w' w2) :=
    fun w' hb => task_Work.calls 9 x.f0 x.f1 x.f2 x.f3 x.f4 x.f5 A c x.f6 x.f7 x.f8 _ w' (nums_C (hN.below hb) (by have := hx.r8; omega)) hc (work_f x hx)
  have h4 : Hid (∀ w', Below w.heap.size w w' → Calls Tryz.prog 116 #[.agg #[.string x.f0, .int .i64 x.f1, .int .i64 x.f2, .int .i64 x.f3, .int .i64 x.f4, .int .i64 x.f5, .slice A x.f6.length c, .int .u64 x.f7, .int .u64 x.f8], .int .i64 i] w' fun e w2 => e = .returned (.bool true) ∧ Below w'.heap.size w' w2) :=
    fun w' hb => task_isMode.calls x.f0 x.f1 x.f2 x.f3 x.f4 x.f5 A c x.f6 x.f7 x.f8 i _ w' (nums_C (hN.below hb) (by have := hx.r8; omega)) hc (mode_f x hx.md)
  have d1 : decide (x.f6.sum ≤ x.f2) = true := by simpa using hx.wd
  have d2 : decide (x.f2 ≤ x.f1) = true := by simpa using hx.dt
  have d3 : (0 : Int) ≤ x.f1 := by have := hx.wd; have := hx.dt; omega
  have d4 : x.f1 ≤ 10000 := hx.t1
  have d5 : (Go.bits .andNot .u64 x.f8 x.f7 == 0) = true := by rw [hx.uc]; rfl
  have HD := Lib.hid hx
  clear htab hx hN hsum hc
  obtain ⟨sb, hsb⟩ : ∃ sb, w.heap.size = sb := ⟨_, rfl⟩
  have HSB := Lib.hid hsb
  clear hsb
  have B1 := Lib.hid ((Below.refl w.heap.size w).alloc (Nat.le_refl _) (.cells (tvals x A c) 46))
  have hlt : w.heap.size < (w.alloc (.cells (tvals x A c) 46)).heap.size := by simp
  have D1 := Lib.hid (Blk.new w 46 (tvals x A c))
  unfold tvals at B1 D1 hlt
  go_enter Tryz.func71, Tryz.ntmps71
  go_upto_region 1 with fail
  obtain ⟨w1, hw1⟩ : ∃ w1, w.alloc (.cells #[.string x.f0, .int .i64 x.f1, .int .i64 x.f2, .int .i64 x.f3, .int .i64 x.f4, .int .i64 x.f5, .slice A x.f6.length c, .int .u64 x.f7, .int .u64 x.f8] 46) = w1 := ⟨_, rfl⟩
  rw [hw1] at B1 D1 hlt ⊢
  rw [HSB.out] at B1 D1 hlt ⊢
  have hs1 : TS w sb x A c w1 := ts_of D1.out B1.out
  go_region_held3 (fun w' => Blk w' sb 46 (tvals x A c) ∧ Below sb w w' ∧ w'.cell? ⟨sb, 0, none⟩ = some (.string x.f0) ∧ w'.cell? ⟨sb, 1, none⟩ = some (.int .i64 x.f1) ∧ w'.cell? ⟨sb, 2, none⟩ = some (.int .i64 x.f2) ∧ w'.cell? ⟨sb, 3, none⟩ = some (.int .i64 x.f3) ∧ w'.cell? ⟨sb, 4, none⟩ = some (.int .i64 x.f4) ∧ w'.cell? ⟨sb, 5, none⟩ = some (.int .i64 x.f5) ∧ w'.cell? ⟨sb, 6, none⟩ = some (.slice A x.f6.length c) ∧ w'.cell? ⟨sb, 7, none⟩ = some (.int .u64 x.f7) ∧ w'.cell? ⟨sb, 8, none⟩ = some (.int .u64 x.f8)) (first | assumption | (refine ts_drew ?_; assumption)) (first | (go_at_call 114; refine (h1.out _ (by rw [HSB.out]; exact And.left (And.right (‹_ ∧ Below sb w _ ∧ _›)))).mono ?_; rintro e w2 ⟨rfl, hb⟩; have hS2 := ts_next (by assumption) hb) | (go_at_call 115; refine (h2.out _ (by rw [HSB.out]; exact And.left (And.right (‹_ ∧ Below sb w _ ∧ _›)))).mono ?_; rintro e w2 ⟨rfl, rfl⟩) | (go_at_call 65; refine (h3.out _ (by rw [HSB.out]; exact And.left (And.right (‹_ ∧ Below sb w _ ∧ _›)))).mono ?_; rintro e w2 ⟨rfl, hb⟩; have hS2 := ts_next (by assumption) hb) | (go_at_call 70; refine (isTime_yes x.f1 0 d3 d4 _).mono ?_; rintro e w2 ⟨rfl, rfl⟩) | (go_at_call 116; refine (h4.out _ (by rw [HSB.out]; exact And.left (And.right (‹_ ∧ Below sb w _ ∧ _›)))).mono ?_; rintro e w2 ⟨rfl, hb⟩; have hS2 := ts_next (by assumption) hb))
  go_wp2_with fail
  go_ret
  exact ⟨rfl, by rw [HSB.out]; exact And.left (And.right (‹_ ∧ Below sb w _ ∧ _›))⟩
end Go.Proofs.YtdgfjpbjiccllaaGreatDoor.X
namespace Go.Proofs.YtdgfjpbjiccllaaGreatDoor.A
open Go.RowKit
open YtdgfjpbjiccllaaGreatDoorW.PrintWords YtdgfjpbjiccllaaGreatDoorW.PrintLast YtdgfjpbjiccllaaGreatDoorW.PrintMore
open PTopLoads
open X
set_option maxRecDepth 100000
theorem in_inv {a b c : Int} (h : taskmasterref5_in.f a b c = some true) : b ≤ a ∧ a ≤ c := by
  unfold taskmasterref5_in.f at h
  split at h
  · simp at h
    omega
  · simp at h
theorem rd_nat {l : List Int} {i : Nat} (h : i < l.length) : rd l i = l[i] := by simp [rd, List.getD_eq_getElem?_getD, h]
theorem work_inv {a0 : ByteArray} {a1 a2 a3 a4 a5 a7 a8 : Int} {l : List Int} (h8 : l.length ≤ 8) (hl : ∀ i (h : i < l.length), 1 ≤ l[i] ∧ l[i] ≤ 10000) {r : Int} : ∀ (k i : Nat), i ≤ l.length → taskmasterref5_Work.l0 k (l.take i).sum i a0 a1 a2 a3 a4 a5 l a7 a8 = some r → r = l.sum
  | 0, _, _, h => by simp [taskmasterref5_Work.l0] at h
  | k + 1, i, hi, h => by
    simp only [taskmasterref5_Work.l0] at h
    by_cases hlt : i < l.length
    · rw [if_pos (by omega), if_pos (by omega)] at h
      have hb := sum_take l hl (i + 1) (by omega)
      have e2 : (l.take i).sum + rd l i = (l.take (i + 1)).sum := by
        rw [List.take_succ_eq_append_getElem hlt, List.sum_append, rd_nat hlt]
        simp
      rw [e2, show wrap64 (l.take (i + 1)).sum = (l.take (i + 1)).sum from by unfold wrap64; omega, show wrap64 ((i : Int) + 1) = ((i + 1 : Nat) : Int) from by unfold wrap64; omega] at h
      exact work_inv h8 hl k (i + 1) (by omega) h
    · rw [if_neg (by omega)] at h
      have e : i = l.length := by omega
      subst e
      rw [List.take_length] at h
      simpa using h.symm
theorem mode_inv {p : Int} {b : Bool} {a0 : ByteArray} {a1 a2 a3 a4 a5 a7 a8 : Int} {l : List Int} {k : Nat} (h : taskmasterref5_Is.j2 k p b a0 a1 a2 a3 a4 a5 l a7 a8 = some true) :
    b = false ∧ ((a3 = 0 ∧ a4 = 0 ∧ a5 = 0) ∨ (a3 = 1 ∧ 0 ≤ a4 ∧ a4 ≤ 10000 ∧ a5 = 0) ∨ (a3 = 2 ∧ a4 = 0 ∧ 0 ≤ a5 ∧ a5 ≤ p)) := by
  cases k with
  | zero => simp [taskmasterref5_Is.j2] at h
  | succ k =>
    simp only [taskmasterref5_Is.j2] at h
    cases b with
    | true => simp at h
    | false =>
      rw [if_neg (by simp)] at h
      refine ⟨rfl, ?_⟩
      split at h
      · split at h
        · simp at h; omega
        · simp at h
      · split at h
        · obtain ⟨t, h1, h2⟩ := Option.bind_eq_some_iff.1 h
          cases t with
          | true =>
            have := in_inv h1
            simp at h2
            omega
          | false => simp at h2
        · split at h
          · split at h
            · split at h
              · simp at h; omega
              · simp at h
            · simp at h
          · simp at h
theorem is0_inv {p : Int} {a0 : ByteArray} {a1 a2 a3 a4 a5 a7 a8 : Int} {l : List Int} (h8 : l.length ≤ 8) : ∀ (k i : Nat), i ≤ l.length → (∀ j (h : j < l.length), j < i → 1 ≤ l[j] ∧ l[j] ≤ 10000) → taskmasterref5_Is.l0 k p i a0 a1 a2 a3 a4 a5 l a7 a8 = some true →
    (∀ j (h : j < l.length), 1 ≤ l[j] ∧ l[j] ≤ 10000) ∧ l.sum ≤ a2 ∧ a2 ≤ a1 ∧ a1 ≤ 10000 ∧ ((a3 = 0 ∧ a4 = 0 ∧ a5 = 0) ∨ (a3 = 1 ∧ 0 ≤ a4 ∧ a4 ≤ 10000 ∧ a5 = 0) ∨ (a3 = 2 ∧ a4 = 0 ∧ 0 ≤ a5 ∧ a5 ≤ p))
  | 0, _, _, _, h => by simp [taskmasterref5_Is.l0] at h
  | k + 1, i, hi, hp, h => by
    simp only [taskmasterref5_Is.l0] at h
    by_cases hlt : i < l.length
    · rw [if_pos (by omega), if_pos (by omega)] at h
      obtain ⟨t, h1, h2⟩ := Option.bind_eq_some_iff.1 h
      cases t with
      | false => simp at h2
      | true =>
        rw [if_pos rfl, show wrap64 ((i : Int) + 1) = ((i + 1 : Nat) : Int) from by unfold wrap64; omega] at h2
        rw [rd_nat hlt] at h1
        have hb := in_inv h1
        refine is0_inv h8 k (i + 1) (by omega) (fun j hj hji => ?_) h2
        by_cases e : j = i
        · subst e; exact hb
        · exact hp j hj (by omega)
    · rw [if_neg (by omega)] at h
      have hall : ∀ j (h : j < l.length), 1 ≤ l[j] ∧ l[j] ≤ 10000 := fun j hj => hp j hj (by omega)
      obtain ⟨t, h1, h2⟩ := Option.bind_eq_some_iff.1 h
      have ht : t = l.sum := work_inv h8 hall k 0 (Nat.zero_le _) (by simpa [taskmasterref5_Work.f] using h1)
      subst ht
      split at h2
      · exact absurd (mode_inv h2).1 (by simp)
      · split at h2
        · exact absurd (mode_inv h2).1 (by simp)
        · have hm := mode_inv h2
          have := hm.1
          simp at this
          exact ⟨hall, by omega, by omega, by omega, hm.2⟩
structure IsB (x : S46) (p : Int) : Prop where
  nm : ∃ k, taskmasterref4_Name.f k x.f0 = some true
  r1 : 1 ≤ x.f6.length
  r8 : x.f6.length ≤ 8
  rr : ∀ i (h : i < x.f6.length), 1 ≤ x.f6[i] ∧ x.f6[i] ≤ 10000
  wd : x.f6.sum ≤ x.f2
  dt : x.f2 ≤ x.f1
  t1 : x.f1 ≤ 10000
  md : ModeOk x p
  uc : Go.bits .andNot .u64 x.f8 x.f7 = 0
theorem j0_inv {p : Int} {b : Bool} {a0 : ByteArray} {a1 a2 a3 a4 a5 a7 a8 : Int} {l : List Int} {k : Nat} (h : taskmasterref5_Is.j0 k p b a0 a1 a2 a3 a4 a5 l a7 a8 = some true) :
    b = false ∧ ∃ k, taskmasterref5_Is.l0 k p 0 a0 a1 a2 a3 a4 a5 l a7 a8 = some true := by
  cases k with
  | zero => simp [taskmasterref5_Is.j0] at h
  | succ k =>
    simp only [taskmasterref5_Is.j0] at h
    cases b with
    | true => simp at h
    | false => exact ⟨rfl, k, by simpa using h⟩
theorem is_inv {x : S46} {p : Int} {k : Nat} (h : taskmasterref5_Is.f k x.f0 x.f1 x.f2 x.f3 x.f4 x.f5 x.f6 x.f7 x.f8 p = some true) : IsB x p := by
  unfold taskmasterref5_Is.f at h
  obtain ⟨t, h1, h2⟩ := Option.bind_eq_some_iff.1 h
  cases t with
  | false => exact absurd (j0_inv (by simpa using h2)).1 (by simp)
  | true =>
    rw [if_pos rfl] at h2
    split at h2
    · exact absurd (j0_inv h2).1 (by simp)
    · split at h2
      · exact absurd (j0_inv h2).1 (by simp)
      · obtain ⟨hb, k', h3⟩ := j0_inv h2
        have h8 : x.f6.length ≤ 8 := by omega
        obtain ⟨ha, hc, hd, he, hm⟩ := is0_inv h8 k' 0 (Nat.zero_le _) (fun j _ hj => by omega) h3
        exact ⟨⟨k, h1⟩, by omega, h8, ha, hc, hd, he, hm, by simpa using hb⟩
theorem all_inv (T : List S46) (hT : T.length ≤ 8) (a : Int) : ∀ (k : Nat), (∀ i : Nat, i ≤ T.length → taskmasterref5_All.l0 k i a T = some true → ∀ j (h : j < T.length), i ≤ j → IsB T[j] j ∧ ∀ m (hm : m < j), T[m].f0 ≠ T[j].f0) ∧
    (∀ i m : Nat, i < T.length → m ≤ i → taskmasterref5_All.l1 k i m a T = some true → (∀ m' (hm : m' < T.length) (hi : i < T.length), m ≤ m' → m' < i → T[m'].f0 ≠ T[i].f0) ∧ ∀ j (h : j < T.length), i < j → IsB T[j] j ∧ ∀ m (hm : m < j), T[m].f0 ≠ T[j].f0)
  | 0 => ⟨fun i _ h => by simp [taskmasterref5_All.l0] at h, fun i m _ _ h => by simp [taskmasterref5_All.l1] at h⟩
  | k + 1 => by
    have ih := all_inv T hT a k
    refine ⟨fun i hi h j hj hij => ?_, fun i m hi hm h => ?_⟩
    · simp only [taskmasterref5_All.l0] at h
      have hlt : i < T.length := by omega
      rw [if_pos (by omega), if_pos (by omega)] at h
      obtain ⟨t, h1, h2⟩ := Option.bind_eq_some_iff.1 h
      have er : rd_T46 T i = T[i] := by simp [rd_T46, List.getD_eq_getElem?_getD, hlt]
      rw [er] at h1
      cases t with
      | false => simp at h2
      | true =>
        rw [if_pos rfl] at h2
        obtain ⟨ha, hb⟩ := ih.2 i 0 hlt (Nat.zero_le _) h2
        by_cases e : j = i
        · subst e
          exact ⟨is_inv h1, fun m hm => ha m (by omega) hj (Nat.zero_le _) hm⟩
        · exact hb j hj (by omega)
    · simp only [taskmasterref5_All.l1] at h
      by_cases hlt : m < i
      · have hml : m < T.length := by omega
        have er : rd_T46 T i = T[i] := by simp [rd_T46, List.getD_eq_getElem?_getD, hi]
        have em : rd_T46 T m = T[m] := by simp [rd_T46, List.getD_eq_getElem?_getD, hml]
        rw [if_pos (by omega), if_pos (by omega), if_pos (by omega), if_pos (by omega), if_pos (by omega), er, em] at h
        split at h
        · simp at h
        · rename_i hne
          rw [show wrap64 ((m : Int) + 1) = ((m + 1 : Nat) : Int) from by unfold wrap64; omega] at h
          obtain ⟨ha, hb⟩ := ih.2 i (m + 1) hi (by omega) h
          refine ⟨fun m' hm' hi' h1 h2 => ?_, hb⟩
          by_cases e : m' = m
          · subst e
            exact fun e => hne (by rw [e])
          · exact ha m' hm' hi' (by omega) h2
      · rw [if_neg (by omega), show wrap64 ((i : Int) + 1) = ((i + 1 : Nat) : Int) from by unfold wrap64; omega] at h
        exact ⟨fun m' _ _ h1 h2 => by omega, fun j hj hij => ih.1 (i + 1) (by omega) h j hj (by omega)⟩
structure AllB (a : Int) (T : List S46) : Prop where
  a0 : 0 ≤ a
  a1 : a ≤ 10000
  n1 : 1 ≤ T.length
  n8 : T.length ≤ 8
  is : ∀ j (h : j < T.length), IsB T[j] j ∧ ∀ m (hm : m < j), T[m].f0 ≠ T[j].f0
theorem allj_inv {b : Bool} {a : Int} {T : List S46} {k : Nat} (h : taskmasterref5_All.j0 k b a T = some true) : b = false ∧ ∃ k, taskmasterref5_All.l0 k 0 a T = some true := by
  cases k with
  | zero => simp [taskmasterref5_All.j0] at h
  | succ k =>
    simp only [taskmasterref5_All.j0] at h
    cases b with
    | true => simp at h
    | false => exact ⟨rfl, k, by simpa using h⟩
theorem All_inv {a : Int} {T : List S46} {k : Nat} (h : taskmasterref5_All.f k a T = some true) : AllB a T := by
  unfold taskmasterref5_All.f at h
  obtain ⟨t, h1, h2⟩ := Option.bind_eq_some_iff.1 h
  cases t with
  | false => exact absurd (allj_inv (by simpa using h2)).1 (by simp)
  | true =>
    rw [if_pos rfl] at h2
    split at h2
    · exact absurd (allj_inv h2).1 (by simp)
    · obtain ⟨hb, k', h3⟩ := allj_inv h2
      have hi := in_inv h1
      simp at hb
      exact ⟨hi.1, hi.2, by omega, by omega, fun j hj => (all_inv T (by omega) a k').1 0 (Nat.zero_le _) h3 j hj (Nat.zero_le _)⟩
end Go.Proofs.YtdgfjpbjiccllaaGreatDoor.A
namespace Go.Proofs.YtdgfjpbjiccllaaGreatDoor.X
open Go.RowKit
open YtdgfjpbjiccllaaGreatDoorW.PrintWords YtdgfjpbjiccllaaGreatDoorW.PrintLast YtdgfjpbjiccllaaGreatDoorW.PrintMore
open PTopLoads
open A
set_option maxRecDepth 100000
theorem small_is (b : Int) : taskmasterref4_small.f b = some (letter b) := by
  unfold taskmasterref4_small.f letter
  by_cases h1 : b ≥ 97
  · rw [if_pos h1]
    simp; omega
  · rw [if_neg h1]
    simp; omega
theorem digit_is (b : Int) : taskmasterref4_digit.f b = some (digit b) := by
  unfold taskmasterref4_digit.f digit
  by_cases h1 : b ≥ 48
  · rw [if_pos h1]
    simp; omega
  · rw [if_neg h1]
    simp; omega
theorem bt_bytes (s : ByteArray) (i : Nat) (h : i < s.size) : bt s i = (bytes s).getD i 0 := by
  rw [← byte_at s i h]
  exact (bt_at s i (by simpa using h)).symm
theorem words_one : taskmasterref4_Words.f = some wordsB := by kernel_rfl
theorem word_inv {s : ByteArray} {ws : List ByteArray} (hw : (ws.length : Int) < 1000000) : ∀ (k i : Nat), i ≤ ws.length → taskmasterref4_word.l0 k s ws i = some false → ∀ j (h : j < ws.length), i ≤ j → ws[j] ≠ s
  | 0, _, _, h => by simp [taskmasterref4_word.l0] at h
  | k + 1, i, hi, h => by
    intro j hj hij
    simp only [taskmasterref4_word.l0] at h
    rw [if_pos (by omega), if_pos (by omega)] at h
    have hlt : i < ws.length := by omega
    have er : rdOf ByteArray.empty ws i = ws[i] := by simp [rdOf, List.getD_eq_getElem?_getD, hlt]
    rw [er] at h
    split at h
    · simp at h
    · rename_i hne
      rw [show wrap64 ((i : Int) + 1) = ((i + 1 : Nat) : Int) from by unfold wrap64; omega] at h
      by_cases e : j = i
      · subst e
        exact fun e => hne (by rw [e])
      · exact word_inv hw k (i + 1) (by omega) h j hj (by omega)
theorem word_no {s : ByteArray} {k : Nat} (h : taskmasterref4_word.f k s = some false) : isWord s = false := by
  unfold taskmasterref4_word.f at h
  rw [words_one] at h
  simp only [Option.bind_some] at h
  have hl : wordsB.length = 10 := by unfold wordsB; rw [List.length_map]; exact wordsL_len
  have := word_inv (by rw [hl]; decide) k 0 (Nat.zero_le _) h
  unfold isWord
  rw [List.any_eq_false]
  intro x hx
  obtain ⟨j, hj, rfl⟩ := List.getElem_of_mem hx
  have := this j hj (Nat.zero_le _)
  simp
  exact fun e => this e.symm
theorem span_all (p : Int → Bool) : ∀ (l : List Int), (∀ x ∈ l, p x = true) → spanL p l = l.length
  | [], _ => rfl
  | b :: t, h => by
    unfold spanL
    rw [if_pos (h b (by simp)), span_all p t (fun x hx => h x (by simp [hx]))]
    rfl
theorem nam_inv {s : ByteArray} (hs : (s.size : Int) ≤ 9223372036854775807) {kd n : Int} {t : ByteArray} {u v : Int} : ∀ (k i : Nat), i ≤ s.size → (∀ j, j < i → more ((bytes s).getD j 0) = true) → taskmasterref4_one.l1 k s i = some (kd, t, u, v, n) → n = s.size → 0 < s.size → kd = 1 →
    (∀ j, j < s.size → more ((bytes s).getD j 0) = true) ∧ s.size ≤ 12 ∧ isWord s = false
  | 0, _, _, _, h, _, _, _ => by simp [taskmasterref4_one.l1] at h
  | k + 1, i, hi, hp, h, hn, h0, hk => by
    have fin : ∀ (k' : Nat), taskmasterref4_one.j3 k' s i = some (kd, t, u, v, n) → (∀ j, j < s.size → more ((bytes s).getD j 0) = true) ∧ s.size ≤ 12 ∧ isWord s = false := by
      intro k' h
      cases k' with
      | zero => simp [taskmasterref4_one.j3] at h
      | succ k' =>
        simp only [taskmasterref4_one.j3] at h
        rw [if_pos (by omega), if_pos (by omega)] at h
        obtain ⟨b, h1, h2⟩ := Option.bind_eq_some_iff.1 h
        cases b with
        | true => simp at h2; omega
        | false =>
          rw [if_neg (by simp)] at h2
          split at h2
          · simp at h2; omega
          · simp at h2
            have e : i = s.size := by omega
            subst e
            have hx : s.extract 0 ((s.size : Nat) : Int).toNat = s := by simp
            rw [hx] at h1
            exact ⟨hp, by omega, word_no h1⟩
    simp only [taskmasterref4_one.l1] at h
    by_cases hlt : i < s.size
    · rw [if_pos (by omega), if_pos (by omega), small_is, digit_is, bt_bytes s i hlt, show wrap64 ((i : Int) + 1) = ((i + 1 : Nat) : Int) from by unfold wrap64; omega] at h
      simp only [Option.bind_some] at h
      have next : more ((bytes s).getD i 0) = true → taskmasterref4_one.l1 k s ((i + 1 : Nat) : Int) = some (kd, t, u, v, n) → (∀ j, j < s.size → more ((bytes s).getD j 0) = true) ∧ s.size ≤ 12 ∧ isWord s = false := fun hm h =>
        nam_inv hs k (i + 1) (by omega) (fun j hj => by
          by_cases e : j = i
          · subst e; exact hm
          · exact hp j (by omega)) h hn h0 hk
      split at h
      · rename_i hl
        exact next (by unfold more; rw [hl]; rfl) h
      · split at h
        · rename_i hd
          exact next (by unfold more; rw [hd]; simp) h
        · split at h
          · rename_i hu
            exact next (by unfold more; rw [hu]; simp) h
          · exact fin k h
    · rw [if_neg (by omega)] at h
      exact fin k h
theorem name_inv {s : ByteArray} (hs : (s.size : Int) ≤ 9223372036854775807) {k : Nat} (h : taskmasterref4_Name.f k s = some true) : NameOk s := by
  unfold taskmasterref4_Name.f at h
  split at h
  · simp at h
  · rename_i hz
    rw [if_pos (by omega), small_is] at h
    have h0 : 0 < s.size := by omega
    have hb0 := bt_bytes s 0 h0
    simp only [Int.natCast_zero] at hb0
    rw [hb0] at h
    simp only [Option.bind_some] at h
    split at h
    · rename_i hl
      obtain ⟨⟨kd, t, u, v, n⟩, h1, h2⟩ := Option.bind_eq_some_iff.1 h
      simp only at h2
      split at h2
      · rename_i hn
        simp at h2
        have hlt := hl
        unfold letter at hlt
        simp only [Bool.and_eq_true, decide_eq_true_eq] at hlt
        unfold taskmasterref4_one.f at h1
        rw [if_pos (by omega), hb0, if_neg (by omega), digit_is, small_is] at h1
        simp only [Option.bind_some] at h1
        rw [if_neg (by unfold digit; simp only [Bool.and_eq_true, decide_eq_true_eq]; omega), if_pos hl] at h1
        obtain ⟨hm, h12, hw⟩ := nam_inv hs k 0 (Nat.zero_le _) (fun j hj => by omega) h1 hn h0 h2
        have hnN : nameN s = s.size := by
          unfold nameN
          rw [span_all more (bytes s) (fun x hx => by
            obtain ⟨j, hj, rfl⟩ := List.getElem_of_mem hx
            have := hm j (by rw [← bytes_length]; exact hj)
            simpa [List.getD_eq_getElem?_getD, hj] using this), bytes_length]
        have hx : s.extract 0 s.size = s := by simp
        have hr : restOf s 0 = s := hx
        have hg : gapL (bytes s) = 0 := by
          unfold gapL
          rw [if_neg (by omega), if_neg (by omega)]
        have htk : tokenL s = ⟨1, s, 0, s.size, true⟩ := by
          unfold tokenL
          rw [if_pos hl, hnN, hx]
          unfold kindOf
          rw [hw]
          simp
          omega
        refine ⟨by omega, ?_⟩
        unfold tokens
        rw [if_neg (by omega)]
        unfold toks
        rw [if_neg (by omega), hr, hg, if_neg (by omega), htk]
        simp only [if_true]
        obtain ⟨m, hm'⟩ : ∃ m, s.size = m + 1 := ⟨s.size - 1, by omega⟩
        rw [Nat.zero_add, hm']
        unfold toks
        rw [if_pos (by omega)]
        simp
      · simp at h2
    · simp at h
end Go.Proofs.YtdgfjpbjiccllaaGreatDoor.X
namespace Go.Proofs.YtdgfjpbjiccllaaGreatDoor.X
open Go.RowKit
open Go.Maps (Keyed)
open YtdgfjpbjiccllaaGreatDoorW.PrintWords YtdgfjpbjiccllaaGreatDoorW.PrintLast YtdgfjpbjiccllaaGreatDoorW.PrintMore
open PTopLoads (S46)
set_option maxRecDepth 100000
theorem law9 : Keyed Tryz.prog 9 := Maps.string_keyed Tryz.underlying9
theorem zero4 (w : World) : (zeroValue 4).run Tryz.prog w = .ok (.bool false) w := by kernel_rfl
theorem bool4_inv {v : Value} {z : DataW Unit × List MemPlace} (h : plainElem Tryz.prog 4 v = some z) : ∃ a, v = .bool a ∧ z = (.lit (.bool a), []) := by
  unfold plainElem at h
  rw [Tryz.underlying4] at h
  cases v <;> simp at h
  exact ⟨_, rfl, h.symm⟩
theorem lookup_no {w : World} {b n : Nat} {D : DataW Unit} (hown : w.ownsMap Tryz.prog 9 (plainElem Tryz.prog 4) b n D) (s : ByteArray) (hs : s.size ≤ 4000) (hat : D.atKey (.string s.data.toList) (.lit (.bool false)) = .lit (.bool false)) :
    (Instr.lookup 128 (.map (some b)) (.string s) false).run Tryz.prog w = .ok (.bool false) w := by
  obtain ⟨v, ps, hrun, hv⟩ := hown.lookup law9 Tryz.underlying128 (zero4 w) (plainElem_bool Tryz.underlying4 false) (WideMaps.keyOf_string_mk Tryz.underlying9 (s := s) (by unfold maxLen; omega))
  obtain ⟨c, rfl, hc⟩ := bool4_inv hv
  rw [hat] at hc
  injection hc with hc _
  injection hc with hc
  injection hc with hc
  subst hc
  exact hrun
set_option maxHeartbeats 8000000 in
theorem all_yes {w : World} {A : Option Addr} {L : List S46} {c : Nat} {rel : Int} (h1 : 1 ≤ L.length) (h8 : L.length ≤ 8) (hr0 : 0 ≤ rel) (hr1 : rel ≤ 10000) (hS : ∀ w', Below w.heap.size w w' → Src w' A L)
    (hT : ∀ (i : Nat) (x : S46), L[i]? = some x → TOk x i) (hne : ∀ (i j : Nat) (x y : S46), i < j → L[i]? = some x → L[j]? = some y → x.f0 ≠ y.f0) (htab : Lib.TabIs Tryz.prog w "strings.asciiSpace" .u8 Lib.asciiSpaceTab) :
    Calls Tryz.prog 42 #[.agg #[.int .i64 rel, .slice A L.length c]] w fun e w2 => e = .returned (.bool true) ∧ Below w.heap.size w w2 := by
  have HS := Lib.hid hS
  have HTB := Lib.hid (Lib.tabBelow_of_tabIs htab)
  have HT := Lib.hid hT
  have HNE := Lib.hid hne
  obtain ⟨n, hn⟩ : ∃ n, L.length = n := ⟨_, rfl⟩
  have HN := Lib.hid hn
  rw [hn] at h1 h8 ⊢
  clear hS htab hT hne hn
  have d1 : ¬ (n : Int) < 1 := by omega
  have d2 : ¬ (8 : Int) < (n : Int) := by omega
  have d3 : decide ((n : Int) < 1) = false := by simp; omega
  have d4 : decide ((8 : Int) < (n : Int)) = false := by simp; omega
  have hmm := @run_makeMap Tryz.prog
  have HB := Lib.hid (((Below.refl w.heap.size w).alloc (Nat.le_refl _) (.cells #[.int .i64 rel, .slice A n c] 24)).alloc (by simp) (.map #[] 0))
  have HD := Lib.hid ((Blk.new w 24 #[.int .i64 rel, .slice A n c]).alloc (.map #[] 0))
  have HM := Lib.hid (World.ownsMap_made (H := Unit) (w.alloc (.cells #[.int .i64 rel, .slice A n c] 24)) Tryz.prog 9 (plainElem Tryz.prog 4))
  have HSZ : Hid ((w.alloc (.cells #[.int .i64 rel, .slice A n c] 24)).heap.size = w.heap.size + 1) := by unfold Hid; simp
  go_enter Tryz.func42, Tryz.ntmps42
  go_wp2_with (first | (go_at_call 70; refine (isTime_yes rel 0 hr0 hr1 _).mono ?_; rintro e w2 ⟨rfl, rfl⟩))
  obtain ⟨sb, hsb⟩ : ∃ sb, w.heap.size = sb := ⟨_, rfl⟩
  rw [HSZ.out] at HM
  rw [hsb] at HB HD HM ⊢
  have HSB := Lib.hid hsb
  obtain ⟨wa, hwa⟩ : ∃ wa, w.alloc (.cells #[.int .i64 rel, .slice A n c] 24) = wa := ⟨_, rfl⟩
  rw [hwa] at HB HD HM ⊢
  clear hsb hwa
  obtain ⟨wb, hwb⟩ : ∃ wb, wa.alloc (.map #[] 0) = wb := ⟨_, rfl⟩
  rw [hwb] at HB HD HM ⊢
  clear hwb HSZ
  go_loopw [26] (fun z26 wr => ∃ (k : Nat) (D : DataW Unit), k ≤ n ∧ z26 = .int .i64 k ∧ Below sb w wr ∧ Blk wr sb 24 #[.int .i64 rel, .slice A n c] ∧ wr.ownsMap Tryz.prog 9 (plainElem Tryz.prog 4) (sb + 1) k D ∧ ∀ (j : Nat) (x : S46), k ≤ j → L[j]? = some x → D.atKey (.string x.f0.data.toList) (.lit (.bool false)) = .lit (.bool false)) (fun z26 _ => n - (intOf z26).toNat)
  case atStart => exact ⟨0, _, Nat.zero_le _, rfl, HB.out, HD.out, HM.out, fun j x _ _ => rfl⟩
  case round =>
    obtain ⟨k, D, hk, rfl, hb, hBk, hM, hF⟩ := hrel
    by_cases hlt : k < n
    · have hSr := HS.out _ (by rw [HSB.out]; exact hb)
      rcases hSr with h0 | ⟨b, off, rfl, hbl, hcs⟩
      · have := HN.out; rw [h0] at this; simp at this; omega
      obtain ⟨x, hx⟩ : ∃ x, L[k]? = some x := ⟨_, List.getElem?_eq_getElem (by rw [HN.out]; exact hlt)⟩
      obtain ⟨ra, rc, g0, g1, g2, g3, g4, g5, g6, g7, g8, hNu, hrc⟩ := hcs k x hx
      have hbw := hBk.lt
      have B2 : Below wr.heap.size wr (wr.alloc (.cells (tcell x (.slice ra x.f6.length rc)) 46)) := (Below.refl _ _).alloc (Nat.le_refl _) _
      have HIS := Lib.hid (is_yes x k (HT.out k x hx) ra rc hrc (wr.alloc (.cells (tcell x (.slice ra x.f6.length rc)) 46)) (hNu.below B2) (HTB.out _ (by rw [HSB.out]; exact hb.trans (B2.mono (by omega)))))
      have HBX := Lib.hid (Blk.new wr 46 (tcell x (.slice ra x.f6.length rc)))
      have hsx := (HT.out k x hx).nm.1
      have HM1 := Lib.hid (hM.alloc (.cells (tcell x (.slice ra x.f6.length rc)) 46))
      have HB1 := Lib.hid (hb.trans (B2.mono (Nat.le_of_lt hbw)))
      have HK1 := Lib.hid (hBk.alloc (.cells (tcell x (.slice ra x.f6.length rc)) 46))
      have HAT := Lib.hid (hF k x (Nat.le_refl _) hx)
      have HFF := Lib.hid hF
      have HX := Lib.hid hx
      have HBW := Lib.hid hbw
      clear hcs hx hF hM hb hBk B2 hNu hbw
      unfold tcell at HIS HBX HM1 HB1 HK1
      go_wp2_with (first | (go_at_call 71; refine (HIS.out).mono ?_; rintro e w2 ⟨rfl, hb2⟩; have hXB := HBX.out.below hb2 (by simp); have q0 : w2.cell? ⟨wr.heap.size, 0, none⟩ = some (.string x.f0) := hXB.cell 0; have HM2 := Lib.hid (HM1.out.kept (only_of_below hb2 none) (by simp)); have HB2 := Lib.hid (HB1.out.trans (hb2.mono (by have := HBW.out; simp; omega))); have HK2 := Lib.hid (HK1.out.below hb2 (by have := HBW.out; simp; omega)); have hlk := lookup_no HM2.out x.f0 hsx HAT.out; clear hb2 hXB) | (at_mapUpdate; refine wpList_mapUpdate_own _ rfl (.tmp 41) (.tmp 43) (.const (.bool true)) 128 rfl 9 4 law9 Tryz.underlying128 (plainElem Tryz.prog 4) (sb + 1) k D rfl HM2.out (by unfold maxLen; omega) (.string x.f0) (.bool true) (.string x.f0.data.toList) rfl rfl (WideMaps.keyOf_string_mk Tryz.underlying9 (by unfold maxLen; omega)) (.lit (.bool true)) [] (plainElem_bool Tryz.underlying4 true) ?_; intro w3 hM3 hg3))
      go_roundw
      case rel =>
        refine ⟨k + 1, _, by omega, by go_num, ?_, ?_, hM3, fun j y hj hy => ?_⟩
        · exact HB2.out.grown hg3 (by have := HK2.out.lt; omega) (fun q hq => by injection hq with hq; omega)
        · exact HK2.out.grown hg3 (by intro e; injection e with e; omega)
        · rw [Maps.atKey_put_other]
          · exact HFF.out j y (by omega) hy
          · intro e
            injection e with e
            refine HNE.out k j x y (by omega) HX.out hy ?_
            apply ByteArray.ext
            exact (Array.toList_inj.1 e).symm
      case measure => simp [intOf]; omega
    · go_wp2
      go_ret
      exact ⟨rfl, by rw [HSB.out]; exact hb⟩
end Go.Proofs.YtdgfjpbjiccllaaGreatDoor.X
namespace Go.Proofs.YtdgfjpbjiccllaaGreatDoor.X
open Go.RowKit
set_option maxRecDepth 100000
theorem results_cell1 {P : Program} {fn : Func} {p : Tmp} {ty : TypeId} (h : fn.results = #[.cell p ty]) (tmps : Array Value) (w : World) (g : Nat) (t : TypeId) (cs : Array Value) (d : TypeDesc)
    (hp : tmps.getD p undef = .pointer (some ⟨g, 0, none⟩)) (hg : Blk w g t cs)
    (hu : P.underlying ty = some d) (hd : (match d with | .struct _ | .array _ _ => true | _ => false) = true) (hi : (P.info? ty).map (·.size) = some cs.size) :
    (results fn tmps).run P w = .ok (.agg cs) w := by
  have hp' : tmps[p]?.getD undef = .pointer (some ⟨g, 0, none⟩) := by simpa using hp
  simp [results, h, hp', asAddr, run_loadVar_row w g t ty cs (0, 0) d hg hu hd hi]
structure PAt (w : World) (pp tb : Nat) (v : Value) (L : List T4) : Prop where
  hd : Blk w pp 112 #[v, .int .i64 0, .int .i64 0]
  tok : ∃ o c, v = .slice (some ⟨tb, o, none⟩) L.length c ∧ L.length ≤ c ∧ tb < w.heap.size ∧ tb ≠ pp ∧ ∀ i x, L[i]? = some x → w.cell? ⟨tb, o + i * 4, none⟩ = some (.int .i64 x.k) ∧ w.cell? ⟨tb, o + i * 4 + 1, none⟩ = some (.string x.s) ∧ w.cell? ⟨tb, o + i * 4 + 2, none⟩ = some (.int .i64 x.n) ∧ w.cell? ⟨tb, o + i * 4 + 3, none⟩ = some (.int .i64 x.at_)
  lim : L.length ≤ 100000
  fin : ∃ M e, L = M ++ [e] ∧ e.k = 4
def T4.v (x : T4) : Value := .agg #[.int .i64 x.k, .string x.s, .int .i64 x.n, .int .i64 x.at_]
theorem field0 (a b c d : Value) (w : World) : (Instr.field 116 (.agg #[a, b, c, d]) 0).run Tryz.prog w = .ok a w := by kernel_rfl
theorem field1 (a b c d : Value) (w : World) : (Instr.field 116 (.agg #[a, b, c, d]) 1).run Tryz.prog w = .ok b w := by kernel_rfl
theorem field2 (a b c d : Value) (w : World) : (Instr.field 116 (.agg #[a, b, c, d]) 2).run Tryz.prog w = .ok c w := by kernel_rfl
theorem field3 (a b c d : Value) (w : World) : (Instr.field 116 (.agg #[a, b, c, d]) 3).run Tryz.prog w = .ok d w := by kernel_rfl
section
variable {w w' : World} {pp tb : Nat} {v : Value} {L : List T4} {x : T4}
theorem PAt.keep (h : PAt w pp tb v L) (hg : w.grownBy w' none) : PAt w' pp tb v L := by
  obtain ⟨o, c, rfl, hc, hl, hn, ht⟩ := h.tok
  refine ⟨h.hd.grown hg (by simp), ⟨o, c, rfl, hc, Nat.lt_of_lt_of_le hl hg.size, hn, fun i x hx => ?_⟩, h.lim, h.fin⟩
  obtain ⟨a, b, d, e⟩ := ht i x hx
  exact ⟨hg.cell a (by simp), hg.cell b (by simp), hg.cell d (by simp), hg.cell e (by simp)⟩
theorem PAt.far (h : PAt w pp tb v L) {r i : Nat} (h1 : r ≠ pp) (h2 : r ≠ tb) (u : Value) : PAt (w.setCell ⟨r, i, none⟩ u) pp tb v L := by
  obtain ⟨o, c, rfl, hc, hl, hn, ht⟩ := h.tok
  have hcell : ∀ j, (w.setCell ⟨r, i, none⟩ u).cell? ⟨tb, j, none⟩ = w.cell? ⟨tb, j, none⟩ := fun j => World.cell?_of_block (w := w) (Below.heap_setCell w ⟨r, i, none⟩ u tb (fun e => h2 e.symm))
  refine ⟨h.hd.far (fun e => h1 e.symm) _, ⟨o, c, rfl, hc, by simpa [World.setCell] using hl, hn, fun i x hx => ?_⟩, h.lim, h.fin⟩
  simp only [hcell]
  exact ht i x hx
theorem PAt.tlt (h : PAt w pp tb v L) : tb < w.heap.size := by
  obtain ⟨_, _, _, _, h, _⟩ := h.tok
  exact h
theorem PAt.below (h : PAt w pp tb v L) (hb : Below w.heap.size w w') : PAt w' pp tb v L := h.keep (only_of_below hb none)
theorem fin_tail (h : ∃ M e, x :: L = M ++ [e] ∧ e.k = 4) (hk : x.k ≠ 4) : L ≠ [] ∧ ∃ M e, L = M ++ [e] ∧ e.k = 4 := by
  obtain ⟨M, e, h1, h2⟩ := h
  cases M with
  | nil =>
    simp at h1
    exact absurd (h1.1 ▸ h2) hk
  | cons y M =>
    simp at h1
    obtain ⟨_, h1⟩ := h1
    exact ⟨by rw [h1]; simp, M, e, h1, h2⟩
theorem grown_of_below {row : Option Nat} (h : Below w.heap.size w w') : w.grownBy w' row := only_of_below h row
theorem next_any (h : PAt w pp tb v (x :: L)) : Calls Tryz.prog 57 #[.pointer (some ⟨pp, 0, none⟩)] w fun e w' => e = .returned x.v ∧ Below w.heap.size w w' := by
  obtain ⟨o, c, rfl, hc, hl, hn, ht⟩ := h.tok
  obtain ⟨t0, t1, t2, t3⟩ := ht 0 x rfl
  simp only [Nat.zero_mul, Nat.add_zero] at t0 t1 t2 t3
  have p0 : w.cell? ⟨pp, 0, none⟩ = some (.slice (some ⟨tb, o, none⟩) (L.length + 1) c) := h.hd.cell 0
  have hpl := h.hd.lt
  have hlim := h.lim
  simp only [List.length_cons] at hc hlim
  have hB := Lib.hid ((Below.refl w.heap.size w).alloc (Nat.le_refl _) (.cells #[.int .i64 x.k, .string x.s, .int .i64 x.n, .int .i64 x.at_] 116))
  clear h ht
  go_enter Tryz.func57, Tryz.ntmps57
  go_wp2
  refine bodyPost_ret (results_cell1 rfl _ _ w.heap.size 116 #[.int .i64 x.k, .string x.s, .int .i64 x.n, .int .i64 x.at_] _ rfl (Blk.new w 116 _) Tryz.underlying116 rfl (by kernel_rfl)) rfl ⟨rfl, hB.out⟩
set_option maxHeartbeats 2000000 in
theorem step_any (h : PAt w pp tb v (x :: L)) (hk : x.k ≠ 4) : Calls Tryz.prog 132 #[.pointer (some ⟨pp, 0, none⟩)] w fun e w' => e = .returned x.v ∧ (∃ v', PAt w' pp tb v' L) ∧ w.grownBy w' (some pp) := by
  obtain ⟨o, c, rfl, hc, hl, hn, ht⟩ := h.tok
  have p0 : w.cell? ⟨pp, 0, none⟩ = some (.slice (some ⟨tb, o, none⟩) (L.length + 1) c) := h.hd.cell 0
  have hpl := h.hd.lt
  have hlim := h.lim
  have hfin := fin_tail h.fin hk
  have hL1 : 1 ≤ L.length := by
    cases L with
    | nil => exact absurd rfl hfin.1
    | cons y M => simp
  have HFIN := Lib.hid hfin.2
  simp only [List.length_cons] at hc hlim
  have hc1 : ¬ c = 1 := by omega
  have hk2 : (x.k == 4) = false := by simpa using hk
  have hk3 : (x.k != 4) = true := by simp [hk]
  have hB := (Below.refl w.heap.size w).alloc (Nat.le_refl _) (.cells #[.int .i64 0, .string ⟨#[]⟩, .int .i64 0, .int .i64 0] 116)
  have HN := Lib.hid (next_any (h.below hB))
  have HBW := Lib.hid hB
  have HH := Lib.hid h
  have HT := Lib.hid ht
  have HR := Lib.hid (Blk.new w 116 #[.int .i64 0, .string ⟨#[]⟩, .int .i64 0, .int .i64 0])
  have hwe : w.heap.size = w.heap.size := rfl
  clear h ht hB hk hwe hfin
  unfold T4.v at HN
  go_enter Tryz.func132, Tryz.ntmps132
  go_upto_region 2 with (go_at_call 57; refine (HN.out).mono ?_; rintro e w2 ⟨rfl, hb⟩; have HB2 := Lib.hid hb; clear hb)
  have hb2 : Below w.heap.size w w2 := HBW.out.trans (HB2.out.mono (by simp))
  have D2 := HR.out.below HB2.out (by simp)
  have s2 : w.heap.size < w2.heap.size := D2.lt
  have hPB : Below w.heap.size w (w2.alloc (.cells #[.int .i64 x.k, .string x.s, .int .i64 x.n, .int .i64 x.at_] 116)) := hb2.alloc (Nat.le_of_lt s2) _
  obtain ⟨w3, hw3⟩ : ∃ w3, w2.alloc (.cells #[.int .i64 x.k, .string x.s, .int .i64 x.n, .int .i64 x.at_] 116) = w3 := ⟨_, rfl⟩
  have D3 := D2.alloc (.cells #[.int .i64 x.k, .string x.s, .int .i64 x.n, .int .i64 x.at_] 116)
  have T3 := Blk.new w2 116 #[.int .i64 x.k, .string x.s, .int .i64 x.n, .int .i64 x.at_]
  rw [hw3] at hPB D3 T3 ⊢
  obtain ⟨tt, htt⟩ : ∃ tt, w2.heap.size = tt := ⟨_, rfl⟩
  obtain ⟨rb, hrb⟩ : ∃ rb, w.heap.size = rb := ⟨_, rfl⟩
  rw [htt] at T3 s2 ⊢
  rw [hrb] at D3 s2 hpl ⊢
  have HP3 := Lib.hid (HH.out.below hPB)
  have c0 : w3.cell? ⟨tt, 0, none⟩ = some (.int .i64 x.k) := T3.cell 0
  have c1 : w3.cell? ⟨tt, 1, none⟩ = some (.string x.s) := T3.cell 1
  have c2 : w3.cell? ⟨tt, 2, none⟩ = some (.int .i64 x.n) := T3.cell 2
  have c3 : w3.cell? ⟨tt, 3, none⟩ = some (.int .i64 x.at_) := T3.cell 3
  have p3 : w3.cell? ⟨pp, 0, none⟩ = some (.slice (some ⟨tb, o, none⟩) (L.length + 1) c) := HP3.out.hd.cell 0
  have f3 := HP3.out.hd.frozen 0
  have r0 : w3.cell? ⟨rb, 0, none⟩ = some (.int .i64 0) := D3.cell 0
  have r1 : w3.cell? ⟨rb, 1, none⟩ = some (.string ⟨#[]⟩) := D3.cell 1
  have r2 : w3.cell? ⟨rb, 2, none⟩ = some (.int .i64 0) := D3.cell 2
  have r3 : w3.cell? ⟨rb, 3, none⟩ = some (.int .i64 0) := D3.cell 3
  have k0 := D3.frozen 0
  have k1 := D3.frozen 1
  have k2 := D3.frozen 2
  have k3 := D3.frozen 3
  have hne1 : pp ≠ tt := by omega
  have hne2 : pp ≠ rb := by omega
  have hne3 : rb ≠ tt := by omega
  have HPB := Lib.hid hPB
  have HD3 := Lib.hid D3
  have HHB := Lib.hid hrb
  clear hw3 D2 D3 T3 hPB hb2 htt hrb p0 HBW HR HB2; go_wp2
  refine bodyPost_ret (results_cell1 rfl _ _ rb 116 ((((#[Value.int .i64 0, .string ⟨#[]⟩, .int .i64 0, .int .i64 0].setIfInBounds 0 (.int .i64 x.k)).setIfInBounds 1 (.string x.s)).setIfInBounds 2 (.int .i64 x.n)).setIfInBounds 3 (.int .i64 x.at_)) _ rfl (((((HD3.out.far (p := ⟨pp, 0, none⟩) (fun e => hne2 e.symm) _).set_ 0 _).set_ 1 _).set_ 2 _).set_ 3 _) Tryz.underlying116 rfl (by kernel_rfl)) rfl ⟨rfl, ?_, ?_⟩
  all_goals have hg : w.grownBy (((((w3.setCell ⟨pp, 0, none⟩ (.slice (some ⟨tb, o + 4, none⟩) L.length (c - 1))).setCell ⟨rb, 0, none⟩ (.int .i64 x.k)).setCell ⟨rb, 1, none⟩ (.string x.s)).setCell ⟨rb, 2, none⟩ (.int .i64 x.n)).setCell ⟨rb, 3, none⟩ (.int .i64 x.at_)) (some pp) := only_setCell (only_setCell (only_setCell (only_setCell (only_setCell (only_of_below HPB.out _) (.inl rfl) _) (.inr (by rw [HHB.out]; exact Nat.le_refl _)) _) (.inr (by rw [HHB.out]; exact Nat.le_refl _)) _) (.inr (by rw [HHB.out]; exact Nat.le_refl _)) _) (.inr (by rw [HHB.out]; exact Nat.le_refl _)) _
  · refine ⟨.slice (some ⟨tb, o + 4, none⟩) L.length (c - 1), ?_, ⟨o + 4, c - 1, rfl, by omega, Nat.lt_of_lt_of_le hl hg.size, hn, fun i y hy => ?_⟩, by omega, HFIN.out⟩
    · exact ((((HP3.out.hd.set_ 0 _).far (p := ⟨rb, 0, none⟩) hne2 _).far (p := ⟨rb, 1, none⟩) hne2 _).far (p := ⟨rb, 2, none⟩) hne2 _).far (p := ⟨rb, 3, none⟩) hne2 _
    · obtain ⟨a0, a1, a2, a3⟩ := HT.out (i + 1) y hy
      have hnr : ∀ j, some (⟨tb, j, none⟩ : Addr).block ≠ some pp := fun j e => hn (by injection e)
      rw [show o + 4 + i * 4 = o + (i + 1) * 4 from by omega]
      exact ⟨hg.cell a0 (hnr _), hg.cell a1 (hnr _), hg.cell a2 (hnr _), hg.cell a3 (hnr _)⟩
  · exact hg
def isTok (x : T4) (s : ByteArray) : Bool := x.k == 3 && x.s.toList == s.toList
theorem is_any (h : PAt w pp tb v (x :: L)) (s : ByteArray) : Calls Tryz.prog 133 #[.pointer (some ⟨pp, 0, none⟩), .string s] w fun e w' => e = .returned (.bool (isTok x s)) ∧ Below w.heap.size w w' := by
  have HN := Lib.hid (next_any h)
  have HH := Lib.hid h
  clear h
  unfold T4.v at HN
  unfold isTok
  have q0 := field0
  have q1 := field1
  by_cases hk : x.k = 3
  · have hk2 : (x.k == 3) = true := by simpa using hk
    rw [hk2]
    clear hk
    go_enter Tryz.func133, Tryz.ntmps133
    go_wp2_with (first | (go_at_call 57; refine (HN.out).mono ?_; rintro e w2 ⟨rfl, hb⟩; have HB2 := Lib.hid hb; have HN2 := Lib.hid (next_any (HH.out.below hb)); unfold T4.v at HN2; clear hb HN) | (go_at_call 57; refine (HN2.out).mono ?_; rintro e w3 ⟨rfl, hb⟩; have HB3 := Lib.hid hb; clear hb))
    go_ret
    exact ⟨rfl, HB2.out.trans (HB3.out.mono HB2.out.size)⟩
  · have hk2 : (x.k == 3) = false := by simpa using hk
    rw [hk2]
    clear hk
    go_enter Tryz.func133, Tryz.ntmps133
    go_wp2_with (go_at_call 57; refine (HN.out).mono ?_; rintro e w2 ⟨rfl, hb⟩; have HB2 := Lib.hid hb; clear hb)
    go_ret
    exact ⟨rfl, HB2.out⟩
theorem takes_yes (h : PAt w pp tb v (x :: L)) (s : ByteArray) (hk : isTok x s = true) : Calls Tryz.prog 97 #[.pointer (some ⟨pp, 0, none⟩), .string s] w fun e w' => e = .returned (.bool true) ∧ (∃ v', PAt w' pp tb v' L) ∧ w.grownBy w' (some pp) := by
  have hi := is_any h s
  rw [hk] at hi
  have HI := Lib.hid hi
  have HH := Lib.hid h
  have hk4 : x.k ≠ 4 := by
    intro e
    simp [isTok, e] at hk
  clear h hi hk
  go_enter Tryz.func97, Tryz.ntmps97
  go_wp2_with (first | (go_at_call 133; refine (HI.out).mono ?_; rintro e w2 ⟨rfl, hb⟩; have HB2 := Lib.hid hb; have HS := Lib.hid (step_any (HH.out.below hb) hk4); clear hb) | (go_at_call 132; refine (HS.out).mono ?_; rintro e w3 ⟨rfl, hP, hg⟩; have HP := Lib.hid hP; have HG := Lib.hid hg; clear hP hg))
  go_ret
  exact ⟨rfl, HP.out, (grown_of_below HB2.out).trans HG.out⟩
theorem takes_no (h : PAt w pp tb v (x :: L)) (s : ByteArray) (hk : isTok x s = false) : Calls Tryz.prog 97 #[.pointer (some ⟨pp, 0, none⟩), .string s] w fun e w' => e = .returned (.bool false) ∧ Below w.heap.size w w' := by
  have hi := is_any h s
  rw [hk] at hi
  have HI := Lib.hid hi
  clear h hi hk
  go_enter Tryz.func97, Tryz.ntmps97
  go_wp2_with (go_at_call 133; refine (HI.out).mono ?_; rintro e w2 ⟨rfl, hb⟩; have HB2 := Lib.hid hb; clear hb)
  go_ret
  exact ⟨rfl, HB2.out⟩
theorem must_yes (h : PAt w pp tb v (x :: L)) (s : ByteArray) (hk : isTok x s = true) : Calls Tryz.prog 56 #[.pointer (some ⟨pp, 0, none⟩), .string s] w fun e w' => e = .returned (.tuple #[]) ∧ (∃ v', PAt w' pp tb v' L) ∧ w.grownBy w' (some pp) := by
  have HI := Lib.hid (takes_yes h s hk)
  clear h hk
  go_enter Tryz.func56, Tryz.ntmps56
  go_wp2_with (go_at_call 97; refine (HI.out).mono ?_; rintro e w2 ⟨rfl, hP, hg⟩; have HP := Lib.hid hP; have HG := Lib.hid hg; clear hP hg)
  go_end0
  exact ⟨rfl, HP.out, HG.out⟩
set_option maxHeartbeats 1000000 in
theorem kind_yes (h : PAt w pp tb v (x :: L)) (hk4 : x.k ≠ 4) (k : Int) (hxk : x.k = k) : Calls Tryz.prog 96 #[.pointer (some ⟨pp, 0, none⟩), .int .i64 k] w fun e w' => e = .returned x.v ∧ (∃ v', PAt w' pp tb v' L) ∧ w.grownBy w' (some pp) := by
  subst hxk
  have hB := (Below.refl w.heap.size w).alloc (Nat.le_refl _) (.cells #[.int .i64 0, .string ⟨#[]⟩, .int .i64 0, .int .i64 0] 116)
  have HN := Lib.hid (next_any (h.below hB))
  have HH := Lib.hid (h.below hB)
  have HB := Lib.hid hB
  have HR := Lib.hid (Blk.new w 116 #[.int .i64 0, .string ⟨#[]⟩, .int .i64 0, .int .i64 0])
  have hpl := h.hd.lt
  have htl := h.tlt
  have q0 := field0
  clear h hB
  unfold T4.v at HN
  go_enter Tryz.func96, Tryz.ntmps96
  go_wp2_with (first | (go_at_call 57; refine (HN.out).mono ?_; rintro e w2 ⟨rfl, hb⟩; have HB2 := Lib.hid hb; have HS := Lib.hid (step_any (HH.out.below hb) hk4); unfold T4.v at HS; clear hb) | (go_at_call 132; refine (HS.out).mono ?_; rintro e w3 ⟨rfl, hP, hg⟩; have HP := Lib.hid hP; have HG := Lib.hid hg; have D3 := (HR.out.below HB2.out (by simp)).grown hg (by intro e; injection e with e; omega); have g0 := D3.cell 0; have g1 := D3.cell 1; have g2 := D3.cell 2; have g3 := D3.cell 3; have f0 := D3.frozen 0; have f1 := D3.frozen 1; have f2 := D3.frozen 2; have f3 := D3.frozen 3; clear hP hg))
  have hG : w.grownBy ((((w3.setCell ⟨w.heap.size, 0, none⟩ (.int .i64 x.k)).setCell ⟨w.heap.size, 1, none⟩ (.string x.s)).setCell ⟨w.heap.size, 2, none⟩ (.int .i64 x.n)).setCell ⟨w.heap.size, 3, none⟩ (.int .i64 x.at_)) (some pp) := by
    have g1 : w.grownBy w3 (some pp) := ((grown_of_below HB.out).trans (grown_of_below (HB2.out.mono (Nat.le_refl _)))).trans HG.out
    exact only_setCell (only_setCell (only_setCell (only_setCell g1 (.inr (Nat.le_refl _)) _) (.inr (Nat.le_refl _)) _) (.inr (Nat.le_refl _)) _) (.inr (Nat.le_refl _)) _
  refine bodyPost_ret (results_cell1 rfl _ _ w.heap.size 116 ((((#[Value.int .i64 0, .string ⟨#[]⟩, .int .i64 0, .int .i64 0].setIfInBounds 0 (.int .i64 x.k)).setIfInBounds 1 (.string x.s)).setIfInBounds 2 (.int .i64 x.n)).setIfInBounds 3 (.int .i64 x.at_)) _ rfl ((((D3.set_ 0 _).set_ 1 _).set_ 2 _).set_ 3 _) Tryz.underlying116 rfl (by kernel_rfl)) rfl ⟨rfl, ?_, hG⟩
  obtain ⟨v', hP⟩ := HP.out
  exact ⟨v', (((hP.far (by omega) (by omega) _).far (by omega) (by omega) _).far (by omega) (by omega) _).far (by omega) (by omega) _⟩
end
end Go.Proofs.YtdgfjpbjiccllaaGreatDoor.X
namespace Go.Proofs.YtdgfjpbjiccllaaGreatDoor.X
open Go.RowKit
open YtdgfjpbjiccllaaGreatDoorW.PrintWords YtdgfjpbjiccllaaGreatDoorW.PrintLast YtdgfjpbjiccllaaGreatDoorW.PrintMore
set_option maxRecDepth 100000
def lenOf : Value → Nat
  | .slice _ n _ => n
  | _ => 0
theorem t4s_one (l : List T4) : ∀ u ∈ t4s l, u.oneCell' = true := by
  intro u hu
  simp only [t4s, List.mem_flatMap] at hu
  obtain ⟨x, _, hu⟩ := hu
  simp [T4.cells] at hu
  rcases hu with rfl | rfl | rfl | rfl <;> rfl
section
variable {w w' : World} {pp tb : Nat} {v : Value} {L : List T4} {x y z : T4}
theorem after_yes (h : PAt w pp tb v (x :: y :: L)) (s : ByteArray) (hk : isTok x s = true) (hy : y.k = 2) : Calls Tryz.prog 55 #[.pointer (some ⟨pp, 0, none⟩), .string s] w fun e w' => e = .returned (.int .i64 y.n) ∧ (∃ v', PAt w' pp tb v' L) ∧ w.grownBy w' (some pp) := by
  have HI := Lib.hid (must_yes h s hk)
  have q0 := field2
  have hy4 : y.k ≠ 4 := by omega
  clear h hk
  go_enter Tryz.func55, Tryz.ntmps55
  go_wp2_with (first | (go_at_call 56; refine (HI.out).mono ?_; rintro e w2 ⟨rfl, ⟨v2, hP⟩, hg⟩; have HK := Lib.hid (kind_yes hP hy4 2 hy); unfold T4.v at HK; have HG := Lib.hid hg; clear hP hg) | (go_at_call 96; refine (HK.out).mono ?_; rintro e w3 ⟨rfl, hP, hg⟩; have HP := Lib.hid hP; have HG2 := Lib.hid hg; clear hP hg))
  go_ret
  exact ⟨rfl, HP.out, HG.out.trans HG2.out⟩
theorem own_blk_keep {base n : Nat} {u : Value} {xs : List Value} (h : w.ownsRow base 116 4 u n xs) (hg : w.grownBy w' (some pp)) (hp : Blk w pp 112 #[v, .int .i64 0, .int .i64 0]) : w'.ownsRow base 116 4 u n xs := by
  refine ⟨h.1, ?_⟩
  rcases h.2 with h0 | ⟨g, c, cur, rfl, hb, hh, rest⟩
  · exact .inl h0
  · have hB : Blk w g 116 cur := hh
    exact .inr ⟨g, c, cur, rfl, hb, hB.grown hg (fun e => by injection e with e; exact hB.ne_ hp (by decide) e), rest⟩
theorem PAt.grown (h : PAt w pp tb v L) {row : Option Nat} (hg : w.grownBy w' row) (hr : ∀ g, row = some g → g ≠ pp ∧ g ≠ tb) : PAt w' pp tb v L := by
  obtain ⟨o, c, rfl, hc, hl, hn, ht⟩ := h.tok
  have hnr : ∀ j, some (⟨tb, j, none⟩ : Addr).block ≠ row := fun j e => (hr tb e.symm).2 rfl
  refine ⟨h.hd.grown hg (fun e => (hr pp e.symm).1 rfl), ⟨o, c, rfl, hc, Nat.lt_of_lt_of_le hl hg.size, hn, fun i x hx => ?_⟩, h.lim, h.fin⟩
  obtain ⟨a, b, d, e⟩ := ht i x hx
  exact ⟨hg.cell a (hnr _), hg.cell b (hnr _), hg.cell d (hnr _), hg.cell e (hnr _)⟩
theorem only_above {a b : World} {g : Nat} {row : Option Nat} (h : w.grownBy a (some g)) (hg : a.grownBy b row) (hr : ∀ k, row = some k → w.heap.size ≤ k) : w.grownBy b (some g) :=
  ⟨hg.os.trans h.os, hg.tape.trans h.tape, hg.output.trans h.output, Nat.le_trans h.size hg.size, fun i hi hne => (hg.block i (Nat.lt_of_lt_of_le hi h.size) (fun e => by have := hr i e.symm; omega)).trans (h.block i hi hne)⟩
theorem own_len {base e size n : Nat} {u : Value} {xs : List Value} (h : w.ownsRow base e size u n xs) : lenOf u = n := by
  rcases h.2 with ⟨rfl, h0⟩ | ⟨g, c, cur, rfl, _⟩
  · exact h0.symm
  · rfl
set_option maxHeartbeats 4000000 in
theorem row_yes {ys : List T4} (h : PAt w pp tb v (ys ++ z :: L)) (h0 : ys ≠ []) (hys : ∀ y ∈ ys, y.k = 2) (hz : z.k ≠ 2) :
    Calls Tryz.prog 99 #[.pointer (some ⟨pp, 0, none⟩)] w fun e w' => ∃ u, e = .returned u ∧ w'.ownsRow w.heap.size 116 4 u ys.length (t4s ys) ∧ (∃ v', PAt w' pp tb v' (z :: L)) ∧ w.grownBy w' (some pp) := by
  obtain ⟨i0, hi0, hz0, hz1, hz2⟩ := info_parts Tryz.info116
  have Hz0 := Lib.hid hz0; clear hz0
  have Hz1 := Lib.hid hz1; clear hz1
  have Hz2 := Lib.hid hz2; clear hz2
  have Hi := Lib.hid hi0; clear hi0
  have hlim := h.lim
  obtain ⟨y0, ys', hys0⟩ : ∃ y0 ys', ys = y0 :: ys' := by
    cases ys with
    | nil => exact absurd rfl h0
    | cons a l => exact ⟨a, l, rfl⟩
  have hy0 : y0.k = 2 := hys y0 (by rw [hys0]; simp)
  have hK : Calls Tryz.prog 96 #[.pointer (some ⟨pp, 0, none⟩), .int .i64 2] w fun e w' => e = .returned y0.v ∧ (∃ v', PAt w' pp tb v' (ys' ++ z :: L)) ∧ w.grownBy w' (some pp) := by
    rw [hys0] at h
    exact kind_yes h (by omega) 2 hy0
  have HK := Lib.hid hK
  have HY0 := Lib.hid hys0
  have HYS := Lib.hid hys
  have q0 := field0
  have hpl := h.hd.lt
  have htl := h.tlt
  have hn : ys.length ≤ 100000 := by rw [List.length_append] at hlim; omega
  clear h hK hys0 hys h0 hlim hy0
  unfold T4.v at HK
  go_enter Tryz.func99, Tryz.ntmps99
  go_wp2_with (go_at_call 96; refine (HK.out).mono ?_; rintro e w2 ⟨rfl, ⟨v2, hP⟩, hg⟩; have HP := Lib.hid hP; have HG := Lib.hid hg; clear hP hg)
  clear HK
  go_loopw [3] (fun z3 wr => ∃ (k : Nat) (v3 : Value), 1 ≤ k ∧ k ≤ ys.length ∧ PAt wr pp tb v3 (ys.drop k ++ z :: L) ∧ wr.ownsRow w.heap.size 116 4 z3 k (t4s (ys.take k)) ∧ w.grownBy wr (some pp)) (fun z3 _ => ys.length - lenOf z3)
  case atStart =>
    have e1 : ys.drop 1 = ys' := by rw [HY0.out]; rfl
    have e2 : ys.take 1 = [y0] := by rw [HY0.out]; rfl
    refine ⟨1, v2, Nat.le_refl _, by rw [HY0.out]; simp, ?_, ?_, ?_⟩
    · rw [e1]
      exact HP.out.below ((Below.refl _ _).alloc (Nat.le_refl _) _)
    · rw [e2]
      exact World.ownsRow_lit (size := 4) w2 #[.int .i64 y0.k, .string y0.s, .int .i64 y0.n, .int .i64 y0.at_] 1 HG.out.size (by unfold maxLen; omega) rfl
    · exact only_alloc HG.out _
  case round =>
    obtain ⟨k, v3, hk1, hk, hPr, hO, hGr⟩ := hrel
    have hsz := hGr.size
    by_cases hlt : k < ys.length
    · obtain ⟨x, hx⟩ : ∃ x, ys[k]? = some x := ⟨_, List.getElem?_eq_getElem hlt⟩
      have hxk : x.k = 2 := HYS.out x (List.mem_of_getElem? hx)
      have hd : ys.drop k = x :: ys.drop (k + 1) := by
        obtain ⟨h1, rfl⟩ := List.getElem?_eq_some_iff.1 hx
        exact List.drop_eq_getElem_cons h1
      have ht : ys.take (k + 1) = ys.take k ++ [x] := by
        obtain ⟨h1, rfl⟩ := List.getElem?_eq_some_iff.1 hx
        rw [List.take_succ_eq_append_getElem h1]
      rw [hd, List.cons_append] at hPr
      have HN := Lib.hid (next_any hPr)
      have HPR := Lib.hid hPr
      have hx2 : (x.k == 2) = true := by simpa using hxk
      have hx4 : x.k ≠ 4 := by omega
      have HO := Lib.hid hO
      have HGR := Lib.hid hGr
      have HT := Lib.hid ht
      have HSZ := Lib.hid hsz
      clear hPr hO hGr hd ht hx hxk hsz
      unfold T4.v at HN
      go_wp2_with (first | (go_at_call 57; refine (HN.out).mono ?_; rintro e w3 ⟨rfl, hb⟩; have HS := Lib.hid (step_any (HPR.out.below hb) hx4); unfold T4.v at HS; have HO3 := Lib.hid (own_blk_keep HO.out (grown_of_below hb) HPR.out.hd); have HG3 := Lib.hid (HGR.out.trans (grown_of_below hb)); have HP3 := Lib.hid (HPR.out.below hb); clear hb) | (go_at_call 132; refine (HS.out).mono ?_; rintro e w4 ⟨rfl, ⟨v4, hP⟩, hg⟩; have HP4 := Lib.hid hP; have HO4 := Lib.hid ((own_blk_keep HO3.out hg HP3.out.hd).alloc (.cells #[.int .i64 x.k, .string x.s, .int .i64 x.n, .int .i64 x.at_] 116)); have HG4 := Lib.hid (HG3.out.trans hg); have hs4 : Hid (w.heap.size ≤ w4.heap.size) := (HG3.out.trans hg).size; have hsw : Hid (w.heap.size ≤ (w4.alloc (.cells #[.int .i64 x.k, .string x.s, .int .i64 x.n, .int .i64 x.at_] 116)).heap.size) := Nat.le_trans (HG3.out.trans hg).size (by simp); have H1 : Hid (∀ j u, [Value.int .i64 x.k, .string x.s, .int .i64 x.n, .int .i64 x.at_][j]? = some u → (w4.alloc (.cells #[.int .i64 x.k, .string x.s, .int .i64 x.n, .int .i64 x.at_] 116)).cell? ((⟨w4.heap.size, 0, none⟩ : Addr).add j) = some u) := cells_new (l := [Value.int .i64 x.k, .string x.s, .int .i64 x.n, .int .i64 x.at_]); clear hP hg) | (at_builtin; refine wpList_append_own _ rfl (.tmp 11) (.tmp 14) 107 rfl w.heap.size 116 i0 _ 4 40 Tryz.underlying107 Hi.out Hz0.out Hz1.out Hz2.out rfl (Nat.succ_pos 3) _ k (t4s (ys.take k)) rfl HO4.out ⟨w4.heap.size, 0, none⟩ 1 1 [.int .i64 x.k, .string x.s, .int .i64 x.n, .int .i64 x.at_] rfl rfl H1.out (t4s_one [x]) (by unfold maxLen; omega) (by omega) hsw.out ?_; intro v' w5 own gr _))
      go_roundw
      case rel =>
        have hab : ∀ g, u3.ownBlock = some g → w.heap.size ≤ g := fun g hg => (HO.out.lt g hg).1
        have hP5 := HP4.out.below ((Below.refl w4.heap.size w4).alloc (Nat.le_refl _) (.cells #[.int .i64 x.k, .string x.s, .int .i64 x.n, .int .i64 x.at_] 116))
        refine ⟨k + 1, v4, by omega, by omega, hP5.grown gr (fun g hg => ?_), ?_, only_above (only_alloc HG4.out _) gr hab⟩
        · have := hab g hg
          omega
        · rw [HT.out, t4s_snoc]
          exact own
      case measure =>
        show ys.length - lenOf v' < ys.length - lenOf u3
        rw [own_len own, own_len HO.out]
        omega
    · have e : k = ys.length := by omega
      subst e
      rw [List.drop_length, List.nil_append] at hPr
      rw [List.take_length] at hO
      have HN := Lib.hid (next_any hPr)
      have HPR := Lib.hid hPr
      have hz2 : (z.k == 2) = false := by simpa using hz
      have HO := Lib.hid hO
      have HGR := Lib.hid hGr
      clear hPr hO hGr hsz hz
      unfold T4.v at HN
      go_wp2_with (go_at_call 57; refine (HN.out).mono ?_; rintro e w3 ⟨rfl, hb⟩; have HB := Lib.hid hb; clear hb)
      go_ret
      exact ⟨_, rfl, own_blk_keep HO.out (grown_of_below HB.out) HPR.out.hd, ⟨v3, HPR.out.below HB.out⟩, HGR.out.trans (grown_of_below HB.out)⟩
end
end Go.Proofs.YtdgfjpbjiccllaaGreatDoor.X
namespace Go.Proofs.YtdgfjpbjiccllaaGreatDoor.X
open Go.RowKit
open YtdgfjpbjiccllaaGreatDoorW.PrintWords YtdgfjpbjiccllaaGreatDoorW.PrintLast YtdgfjpbjiccllaaGreatDoorW.PrintMore
open PTopLoads (bits_Of.f bits_Of.l0 bits_Of.calls bits_is.f)
set_option maxRecDepth 100000
def setOne (n : Int) : Int := Go.bits .or .u64 0 (shl .u64 1 n)
theorem bits_of_one (n : Int) (h0 : 0 ≤ n) (h1 : n < 64) : bits_Of.f 2 [n] = some (setOne n) := by
  unfold bits_Of.f bits_Of.l0
  have e1 : rd [n] 0 = n := rfl
  rw [if_pos (by simp), if_pos (by omega), if_pos (by simp), e1]
  have e2 : bits_is.f n = some true := by
    unfold bits_is.f
    rw [if_pos h0]
    simp [h1]
  rw [e2]
  simp only [Option.bind_some, if_pos, h0]
  unfold bits_Of.l0
  rw [if_neg (by simp [wrap64])]
  rfl
theorem of_one {w : World} {a : Nat} (n : Int) (h0 : 0 ≤ n) (h1 : n < 64) (hc : w.cell? ⟨a, 0, none⟩ = some (.int .i64 n)) : Calls Tryz.prog 123 #[.slice (some ⟨a, 0, none⟩) 1 1] w fun e w' => e = .returned (.int .u64 (setOne n)) ∧ Drawn0 w w' := by
  refine bits_Of.calls 2 (some ⟨a, 0, none⟩) 1 [n] (setOne n) w ⟨rfl, by simp, fun _ => ⟨_, rfl, fun j p hp => ⟨[.int .i64 p], rfl, rfl, fun i u hu => ?_⟩⟩⟩ (Nat.le_refl _) (bits_of_one n h0 h1)
  obtain ⟨hj, rfl⟩ := List.getElem?_eq_some_iff.1 hp
  obtain rfl : j = 0 := by simp at hj; omega
  match i, hu with
  | 0, hu =>
    simp at hu; subst hu
    rw [add_none]
    exact hc
theorem cell_new1 (w : World) (o : Obj) (u : Value) (t : TypeId) : ((w.alloc o).alloc (.cells #[u] t)).cell? ⟨w.heap.size + 1, 0, none⟩ = some u := by
  have h := (Blk.new (w.alloc o) t #[u]).cell 0
  have e : (w.alloc o).heap.size = w.heap.size + 1 := by simp
  rw [e] at h
  exact h
def orAll (l : List T4) : Int := l.foldl (fun a y => Go.bits .or .u64 a (setOne y.n)) 0
theorem orAll_snoc (l : List T4) (x : T4) : orAll (l ++ [x]) = Go.bits .or .u64 (orAll l) (setOne x.n) := by simp [orAll]
def lastN (l : List T4) : Nat → Int
  | 0 => -1
  | k + 1 => (l.getD k ⟨0, ⟨#[]⟩, 0, 0⟩).n
def Inc (l : List T4) : Prop := ∀ k x, l[k]? = some x → x.k = 2 ∧ lastN l k < x.n ∧ x.n < 64 ∧ 0 ≤ x.n
theorem lastN_lo {l : List T4} (h : Inc l) : ∀ k, k ≤ l.length → -1 ≤ lastN l k ∧ lastN l k < 64
  | 0, _ => by simp [lastN]
  | k + 1, hk => by
    have hx := h k l[k] (List.getElem?_eq_getElem hk)
    have e : lastN l (k + 1) = l[k].n := by simp [lastN, List.getD_eq_getElem?_getD, List.getElem?_eq_getElem hk]
    rw [e]
    omega
section
variable {w w' : World} {pp tb : Nat} {v : Value} {L : List T4} {x y z : T4}
theorem sets_no (h : PAt w pp tb v (z :: L)) (s : ByteArray) (hk : isTok z s = false) : Calls Tryz.prog 100 #[.pointer (some ⟨pp, 0, none⟩), .string s] w fun e w' => e = .returned (.int .u64 0) ∧ Below w.heap.size w w' := by
  have HI := Lib.hid (takes_no h s hk)
  clear h hk
  go_enter Tryz.func100, Tryz.ntmps100
  go_wp2_with (go_at_call 97; refine (HI.out).mono ?_; rintro e w2 ⟨rfl, hb⟩; have HB := Lib.hid hb; clear hb)
  go_ret
  exact ⟨rfl, HB.out⟩
set_option maxHeartbeats 4000000 in
theorem sets_yes {ys : List T4} (h : PAt w pp tb v (x :: (ys ++ z :: L))) (s : ByteArray) (hk : isTok x s = true) (h0 : ys ≠ []) (hys : Inc ys) (hz : z.k ≠ 2) :
    Calls Tryz.prog 100 #[.pointer (some ⟨pp, 0, none⟩), .string s] w fun e w' => e = .returned (.int .u64 (orAll ys)) ∧ (∃ v', PAt w' pp tb v' (z :: L)) ∧ w.grownBy w' (some pp) := by
  have HI := Lib.hid (takes_yes h s hk)
  have HYS := Lib.hid hys
  have hlen : 1 ≤ ys.length := by
    cases ys with
    | nil => exact absurd rfl h0
    | cons a l => simp
  have HZ := Lib.hid hz
  have q0 := field0
  have hpl := h.hd.lt
  have htl := h.tlt
  clear h hk hys h0 hz
  go_enter Tryz.func100, Tryz.ntmps100
  go_wp2_with (go_at_call 97; refine (HI.out).mono ?_; rintro e w2 ⟨rfl, ⟨v2, hP⟩, hg⟩; have HP := Lib.hid hP; have HG := Lib.hid hg; clear hP hg)
  clear HI
  go_loopw [5, 6, 7] (fun z5 z6 z7 wr => ∃ (k : Nat) (v3 : Value), k ≤ ys.length ∧ z5 = .int .u64 (orAll (ys.take k)) ∧ z6 = .int .i64 (lastN ys k) ∧ z7 = .bool (decide (k < ys.length)) ∧ PAt wr pp tb v3 (ys.drop k ++ z :: L) ∧ w.grownBy wr (some pp)) (fun _ z6 _ _ => 64 - (intOf z6 + 1).toNat)
  case atStart =>
    have e : decide (0 < ys.length) = true := by simp; omega
    exact ⟨0, v2, Nat.zero_le _, rfl, rfl, by rw [e], HP.out, HG.out⟩
  case round =>
    obtain ⟨k, v3, hk, rfl, rfl, rfl, hPr, hGr⟩ := hrel
    have hsz := hGr.size
    by_cases hlt : k < ys.length
    · obtain ⟨x, hx⟩ : ∃ x, ys[k]? = some x := ⟨_, List.getElem?_eq_getElem hlt⟩
      obtain ⟨hxk, hx1, hx2, hx3⟩ := HYS.out k x hx
      have hd : ys.drop k = x :: ys.drop (k + 1) := by
        obtain ⟨h1, rfl⟩ := List.getElem?_eq_some_iff.1 hx
        exact List.drop_eq_getElem_cons h1
      have ht : ys.take (k + 1) = ys.take k ++ [x] := by
        obtain ⟨h1, rfl⟩ := List.getElem?_eq_some_iff.1 hx
        rw [List.take_succ_eq_append_getElem h1]
      have hln : lastN ys (k + 1) = x.n := by
        obtain ⟨h1, rfl⟩ := List.getElem?_eq_some_iff.1 hx
        simp [lastN, List.getD_eq_getElem?_getD, List.getElem?_eq_getElem h1]
      have hll := (lastN_lo HYS.out k hk).1
      rw [hd, List.cons_append] at hPr
      have hde : decide (k < ys.length) = true := by simpa using hlt
      obtain ⟨nx, M, hM⟩ : ∃ nx M, ys.drop (k + 1) ++ z :: L = nx :: M := by
        cases hq : ys.drop (k + 1) with
        | nil => exact ⟨z, L, rfl⟩
        | cons a l => exact ⟨a, l ++ z :: L, rfl⟩
      have hnx : (nx.k == 2) = decide (k + 1 < ys.length) := by
        by_cases h1 : k + 1 < ys.length
        · rw [List.drop_eq_getElem_cons h1, List.cons_append] at hM
          injection hM with hM _
          have h2 := (HYS.out (k + 1) ys[k + 1] (List.getElem?_eq_getElem h1)).1
          rw [hM] at h2
          simp [h1, h2]
        · rw [List.drop_eq_nil_of_le (by omega), List.nil_append] at hM
          injection hM with hM _
          have h2 := HZ.out
          rw [hM] at h2
          simp [h1, h2]
      have hPM := hPr
      rw [hM] at hPM
      have HKD := Lib.hid (kind_yes hPM (by omega) 2 hxk)
      have HM := Lib.hid hM
      have HT := Lib.hid ht
      have HLN := Lib.hid hln
      have HGR := Lib.hid hGr
      have HX1 := Lib.hid hx1
      have HSZ := Lib.hid hsz
      have HNX := Lib.hid hnx
      obtain ⟨ln, hln0⟩ : ∃ ln, lastN ys k = ln := ⟨_, rfl⟩
      rw [hln0] at hx1 hll HX1 ⊢
      have g1 : ¬ (64 : Int) ≤ x.n := by omega
      have g2 : ¬ x.n ≤ ln := by omega
      have g3 : decide ((64 : Int) ≤ x.n) = false := by simp; omega
      have g4 : decide (x.n ≤ ln) = false := by simp; omega
      rw [hde]
      clear hPr hPM hGr hd ht hx hxk hsz hM hnx hln hde hln0
      unfold T4.v at HKD
      go_wp2_with (first | (go_at_call 96; refine (HKD.out).mono ?_; rintro e w3 ⟨rfl, ⟨v4, hP⟩, hg⟩; have HP4 := Lib.hid hP; have HG4 := Lib.hid (HGR.out.trans hg); clear hP hg) | (go_at_call 123; go_loud (refine (of_one x.n hx3 hx2 (cell_new1 _ _ _ _)).mono ?_; rintro e w4 ⟨rfl, hdr⟩; have hP5 := HP4.out.below ((((Below.refl w3.heap.size w3).alloc (Nat.le_refl _) _).alloc (by simp) _).trans (hdr.below.mono (by simp <;> omega))); have HP5 := Lib.hid hP5; have hG5 := (only_alloc (only_alloc HG4.out _) _).trans (grown_of_below hdr.below); have HG5 := Lib.hid hG5; have HNE := Lib.hid (next_any hP5); unfold T4.v at HNE; clear hP5 hG5 hdr)) | (go_at_call 57; refine (HNE.out).mono ?_; rintro e w5 ⟨rfl, hb⟩; have HB5 := Lib.hid hb; clear hb))
      go_roundw
      case rel =>
        refine ⟨k + 1, v4, by omega, ?_, by rw [HLN.out], ?_, ?_, HG5.out.trans (grown_of_below HB5.out)⟩
        · rw [HT.out, orAll_snoc]
        · rw [HNX.out]
        · rw [HM.out]
          exact HP5.out.below HB5.out
      case measure =>
        show 64 - (intOf (.int .i64 x.n) + 1).toNat < 64 - (intOf (.int .i64 ln) + 1).toNat
        simp only [intOf]
        omega
    · have e : k = ys.length := by omega
      subst e
      rw [List.drop_length, List.nil_append] at hPr
      rw [List.take_length]
      have hde : decide (ys.length < ys.length) = false := by simp
      rw [hde]
      have HPR := Lib.hid hPr
      have HGR := Lib.hid hGr
      clear hPr hGr hsz hde; go_wp2; go_ret
      exact ⟨rfl, ⟨v3, HPR.out⟩, HGR.out⟩
end
end Go.Proofs.YtdgfjpbjiccllaaGreatDoor.X
namespace Go.Proofs.YtdgfjpbjiccllaaGreatDoor.X
open Go.RowKit
open YtdgfjpbjiccllaaGreatDoorW.PrintWords YtdgfjpbjiccllaaGreatDoorW.PrintLast YtdgfjpbjiccllaaGreatDoorW.PrintMore
set_option maxRecDepth 100000
structure Gr2 (w w' : World) (a b : Nat) : Prop where
  os : w'.os = w.os
  tape : w'.tape = w.tape
  output : w'.output = w.output
  size : w.heap.size ≤ w'.heap.size
  block : ∀ i, i < w.heap.size → i ≠ a → i ≠ b → w'.heap[i]? = w.heap[i]?
section
variable {w w' w2 : World} {pp tb tk : Nat} {v : Value} {L : List T4} {x y z : T4}
theorem Gr2.of (h : w.grownBy w' (some pp)) : Gr2 w w' pp tk := ⟨h.os, h.tape, h.output, h.size, fun i hi h1 _ => h.block i hi (fun e => h1 (by injection e))⟩
theorem Gr2.set_ (h : Gr2 w w' pp tk) (i : Nat) (u : Value) : Gr2 w (w'.setCell ⟨tk, i, none⟩ u) pp tk :=
  ⟨h.os, h.tape, h.output, by simpa [World.setCell] using h.size, fun j hj h1 h2 => (Below.heap_setCell w' ⟨tk, i, none⟩ u j h2).trans (h.block j hj h1 h2)⟩
theorem Gr2.only (h0 : w.grownBy w' (some pp)) (h : Gr2 w' w2 pp tk) (hk : w.heap.size ≤ tk) : w.grownBy w2 (some pp) :=
  ⟨h.os.trans h0.os, h.tape.trans h0.tape, h.output.trans h0.output, Nat.le_trans h0.size h.size, fun i hi hne => (h.block i (Nat.lt_of_lt_of_le hi h0.size) (fun e => hne (by rw [e])) (by omega)).trans (h0.block i hi hne)⟩
def sFixed : ByteArray := ⟨#[102, 105, 120, 101, 100]⟩
def sFloat : ByteArray := ⟨#[102, 108, 111, 97, 116]⟩
def sThresh : ByteArray := ⟨#[116, 104, 114, 101, 115, 104]⟩
inductive ModeP : List T4 → Int → Int → Int → Prop
  | fixed (x : T4) (h : isTok x sFixed = true) : ModeP [x] 0 0 0
  | float (x y : T4) (h0 : isTok x sFixed = false) (h : isTok x sFloat = true) (hy : y.k = 2) : ModeP [x, y] 1 y.n 0
  | thresh (x y : T4) (h0 : isTok x sFixed = false) (h1 : isTok x sFloat = false) (h : isTok x sThresh = true) (hy : y.k = 2) : ModeP [x, y] 2 0 y.n
set_option maxHeartbeats 2000000 in
theorem mode_yes {ts : List T4} {m q th : Int} (hm : ModeP ts m q th) (h : PAt w pp tb v (ts ++ L)) {nm cT cD r e u : Value} (hB : Blk w tk 46 #[nm, cT, cD, .int .i64 0, .int .i64 0, .int .i64 0, r, e, u]) (h1 : tk ≠ pp) (h2 : tk ≠ tb) :
    Calls Tryz.prog 98 #[.pointer (some ⟨pp, 0, none⟩), .pointer (some ⟨tk, 0, none⟩)] w fun e' w' => e' = .returned (.tuple #[]) ∧ (∃ v', PAt w' pp tb v' L) ∧ Blk w' tk 46 #[nm, cT, cD, .int .i64 m, .int .i64 q, .int .i64 th, r, e, u] ∧ Gr2 w w' pp tk := by
  have HB := Lib.hid hB
  cases hm with
  | fixed x hx =>
    have HI := Lib.hid (takes_yes h sFixed hx)
    clear h hB hx
    unfold sFixed at HI
    go_enter Tryz.func98, Tryz.ntmps98
    go_wp2_with (go_at_call 97; refine (HI.out).mono ?_; rintro e w2 ⟨rfl, ⟨v2, hP⟩, hg⟩; have HP := Lib.hid hP; have HG := Lib.hid hg; have D := HB.out.grown hg (by intro e; injection e with e; exact h1 e); have g3 := D.cell 3; have f3 := D.frozen 3; clear hP hg)
    go_end0
    exact ⟨rfl, ⟨v2, HP.out.far h1 h2 _⟩, D.set_ 3 _, (Gr2.of HG.out).set_ 3 _⟩
  | float x y hx0 hx hy =>
    have HI0 := Lib.hid (takes_no h sFixed hx0)
    have HH := Lib.hid h
    have HX := Lib.hid hx
    clear h hB hx0 hx
    unfold sFixed at HI0
    go_enter Tryz.func98, Tryz.ntmps98
    go_wp2_with (first | (go_at_call 97; refine (HI0.out).mono ?_; rintro e w2 ⟨rfl, hb⟩; have HB2 := Lib.hid hb; have hI := is_any (HH.out.below hb) sFloat; rw [HX.out] at hI; have HI := Lib.hid hI; unfold sFloat at HI; clear hb hI) | (go_at_call 133; refine (HI.out).mono ?_; rintro e w3 ⟨rfl, hb⟩; have HB3 := Lib.hid hb; have HA := Lib.hid (after_yes ((HH.out.below HB2.out).below hb) sFloat HX.out hy); unfold sFloat at HA; clear hb) | (go_at_call 55; refine (HA.out).mono ?_; rintro e w4 ⟨rfl, ⟨v4, hP⟩, hg⟩; have HP := Lib.hid hP; have hg := ((grown_of_below HB2.out).trans (grown_of_below HB3.out)).trans hg; have HG := Lib.hid hg; have D := HB.out.grown hg (by intro e; injection e with e; exact h1 e); have g3 := D.cell 3; have f3 := D.frozen 3; have g4 := D.cell 4; have f4 := D.frozen 4; clear hP hg))
    go_end0
    exact ⟨rfl, ⟨v4, (HP.out.far h1 h2 _).far h1 h2 _⟩, (D.set_ 3 _).set_ 4 _, ((Gr2.of HG.out).set_ 3 _).set_ 4 _⟩
  | thresh x y hx0 hx1 hx hy =>
    have HI0 := Lib.hid (takes_no h sFixed hx0)
    have HH := Lib.hid h
    have HX1 := Lib.hid hx1
    have HX := Lib.hid hx
    clear h hB hx0 hx hx1
    unfold sFixed at HI0
    go_enter Tryz.func98, Tryz.ntmps98
    go_wp2_with (first | (go_at_call 97; refine (HI0.out).mono ?_; rintro e w2 ⟨rfl, hb⟩; have HB2 := Lib.hid hb; have hI := is_any (HH.out.below hb) sFloat; rw [HX1.out] at hI; have HI := Lib.hid hI; unfold sFloat at HI; clear hb hI) | (go_at_call 133; refine (HI.out).mono ?_; rintro e w3 ⟨rfl, hb⟩; have HB3 := Lib.hid hb; have hI := is_any ((HH.out.below HB2.out).below hb) sThresh; rw [HX.out] at hI; have HI2 := Lib.hid hI; unfold sThresh at HI2; clear hb hI HI) | (go_at_call 133; refine (HI2.out).mono ?_; rintro e w4 ⟨rfl, hb⟩; have HB4 := Lib.hid hb; have HA := Lib.hid (after_yes (((HH.out.below HB2.out).below HB3.out).below hb) sThresh HX.out hy); unfold sThresh at HA; clear hb) | (go_at_call 55; refine (HA.out).mono ?_; rintro e w5 ⟨rfl, ⟨v4, hP⟩, hg⟩; have HP := Lib.hid hP; have hg := (((grown_of_below HB2.out).trans (grown_of_below HB3.out)).trans (grown_of_below HB4.out)).trans hg; have HG := Lib.hid hg; have D := HB.out.grown hg (by intro e; injection e with e; exact h1 e); have g3 := D.cell 3; have f3 := D.frozen 3; have g5 := D.cell 5; have f5 := D.frozen 5; clear hP hg))
    go_end0
    exact ⟨rfl, ⟨v4, (HP.out.far h1 h2 _).far h1 h2 _⟩, (D.set_ 3 _).set_ 5 _, ((Gr2.of HG.out).set_ 3 _).set_ 5 _⟩
end
end Go.Proofs.YtdgfjpbjiccllaaGreatDoor.X
