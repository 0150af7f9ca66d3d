/- TopAlone: the walk. -/
import Derived.Test.YtdgfjpbjiccllaaGreatDoorJa21
import Derived.Test.YtdgfjpbjiccllaaGreatDoorJa09
import Derived.Test.YtdgfjpbjiccllaaGreatDoorJa16
import Derived.Test.YtdgfjpbjiccllaaGreatDoorJa24
namespace Go.Proofs.YtdgfjpbjiccllaaGreatDoor.L
open Go.RowKit
open Go.Proofs.YtdgfjpbjiccllaaGreatDoorW.PrintWords Go.Proofs.YtdgfjpbjiccllaaGreatDoorW.PrintLast Go.Proofs.YtdgfjpbjiccllaaGreatDoorW.PrintMore
open Go.Proofs.YtdgfjpbjiccllaaGreatDoor.PTopLoads
open Go.Proofs.YtdgfjpbjiccllaaGreatDoor.X Go.Proofs.YtdgfjpbjiccllaaGreatDoor.F Go.Proofs.YtdgfjpbjiccllaaGreatDoor.A
set_option maxRecDepth 100000
/-- What is known of the arguments. -/
structure In1 (w : World) (x : S46) (ra : Option Addr) (rc : Nat) (l : List S57) (IA : Option Addr) (ic : Nat) : Prop where
  r : (Kd.int .i64).C w ra x.f6.length x.f6
  rc_ : x.f6.length ≤ rc
  i : Kd.C k57 w IA l.length l
  ic_ : l.length ≤ ic
  s0 : (x.f0.size : Int) ≤ 9223372036854775807
  s7 : 0 ≤ x.f7 ∧ x.f7 < 18446744073709551616
  s8 : 0 ≤ x.f8 ∧ x.f8 < 18446744073709551616
  ins : ∀ u ∈ l, (0 ≤ u.f0 ∧ u.f0 < 18446744073709551616) ∧ (0 ≤ u.f2 ∧ u.f2 < 18446744073709551616)
def xv (x : S46) (ra : Option Addr) (rc : Nat) : Value := .agg #[.string x.f0, .int .i64 x.f1, .int .i64 x.f2, .int .i64 x.f3, .int .i64 x.f4, .int .i64 x.f5, .slice ra x.f6.length rc, .int .u64 x.f7, .int .u64 x.f8]
theorem In1.small {w : World} {x : S46} {ra : Option Addr} {rc : Nat} {l : List S57} {IA : Option Addr} {ic : Nat} (h : In1 w x ra rc l IA ic) : SmallI l := by
  have hl := h.i.2.1
  refine ⟨by omega, fun u hu => ?_⟩
  obtain ⟨j, hj, rfl⟩ := List.getElem_of_mem hu
  obtain ⟨_, _, _, _, _, _, _, _, hC⟩ := at_T57 h.i (j : Int) (by omega) (by omega)
  have er : rd_T57 l j = l[j] := by simp [rd_T57, List.getD_eq_getElem?_getD, hj]
  rw [er] at hC
  have := hC.2.1
  omega
def tc (x : S46) (ra : Option Addr) (rc : Nat) : Array Value := #[.string x.f0, .int .i64 x.f1, .int .i64 x.f2, .int .i64 x.f3, .int .i64 x.f4, .int .i64 x.f5, .slice ra x.f6.length rc, .int .u64 x.f7, .int .u64 x.f8]
/-- The law's own memory. -/
structure S1 (w wr : World) (x : S46) (ra : Option Addr) (rc tb : Nat) : Prop where
  bl : Below w.heap.size w wr
  t : Blk wr tb 46 (tc x ra rc)
  b : Blk wr (tb + 1) 46 (tc x ra rc)
  s : Blk wr (tb + 1 + 1) 24 #[.int .i64 0, .slice (some ⟨tb + 1, 0, none⟩) 1 1]
section
variable {w wr w' : World} {x : S46} {ra : Option Addr} {rc tb : Nat}
theorem S1.below (h : S1 w wr x ra rc tb) (hb : Below wr.heap.size wr w') : S1 w w' x ra rc tb :=
  ⟨h.bl.trans (hb.mono h.bl.size), h.t.below hb h.t.lt, h.b.below hb h.b.lt, h.s.below hb h.s.lt⟩
theorem S1.kd (h : S1 w wr x ra rc tb) (hr : (Kd.int .i64).C w ra x.f6.length x.f6) (hrc : x.f6.length ≤ rc) : Kd.C k46 wr (some ⟨tb + 1, 0, none⟩) 1 [x] := by
  refine ⟨rfl, by decide, fun _ => ⟨_, rfl, fun j p hp => ?_⟩⟩
  match j, hp with
  | 0, hp =>
    obtain rfl : x = p := by simpa using hp
    refine ⟨_, rfl, k46_mk wr x hrc (Kd.C_below hr h.bl), fun i u hu => ?_⟩
    rw [add_none, Nat.zero_mul, Nat.zero_add, Nat.zero_add, h.b.cell]
    simpa [tc] using hu
  | j + 1, hp => simp at hp
theorem S1.src (h : S1 w wr x ra rc tb) (hr : (Kd.int .i64).C w ra x.f6.length x.f6) (hrc : x.f6.length ≤ rc) : Src wr (some ⟨tb + 1, 0, none⟩) [x] := by
  refine .inr ⟨tb + 1, 0, rfl, h.b.lt, fun i y hy => ?_⟩
  match i, hy with
  | 0, hy =>
    obtain rfl : x = y := by simpa using hy
    exact ⟨ra, rc, h.b.cell 0, h.b.cell 1, h.b.cell 2, h.b.cell 3, h.b.cell 4, h.b.cell 5, h.b.cell 6, h.b.cell 7, h.b.cell 8, nums_of (Kd.C_below hr h.bl), hrc⟩
  | i + 1, hy => simp at hy
end
theorem evs_at : ∀ (L : List Ev) (i j : Nat) (h : i < L.length), j < 4 → (evs L)[i * 4 + j]? = (L[i]).cells[j]?
  | [], i, j, h, _ => by simp at h
  | e :: L, 0, j, h, hj => by
    show (e.cells ++ evs L)[0 * 4 + j]? = _
    rw [Nat.zero_mul, Nat.zero_add, List.getElem?_append_left (by simp [Ev.cells]; omega)]
    rfl
  | e :: L, i + 1, j, h, hj => by
    show (e.cells ++ evs L)[(i + 1) * 4 + j]? = _
    rw [List.getElem?_append_right (by simp [Ev.cells]; omega)]
    have := evs_at L i j (by simpa using h) hj
    rw [← show (i + 1) * 4 + j - e.cells.length = i * 4 + j from by simp [Ev.cells]; omega] at this
    simpa using this
/-- A kernel of one task as it begins. -/
def k1 (x : S46) : Kst := ⟨0, [x], 0, -1, [P.mkW x.f1], List.replicate 64 0, T.zeros 1, zs 1, zs 1, List.replicate 1 ⟨[], [], 0, 0, 0, 0⟩, []⟩
theorem k1_pd (x : S46) (k : Nat) : pdOf (k1 x) k = false := by
  unfold pdOf k1
  simp only [T.zeros, T.getL]
  by_cases hk : k < 1
  · obtain rfl : k = 0 := by omega
    rfl
  · rw [List.getElem?_eq_none (by simp; omega)]
    rfl
theorem tok_of {x : S46} {p : Int} (h : IsB x p) (hs : (x.f0.size : Int) ≤ 9223372036854775807) : TOk x p := by
  obtain ⟨k, hk⟩ := h.nm
  exact ⟨name_inv hs hk, h.r1, h.r8, h.rr, h.wd, h.dt, h.t1, h.md, h.uc⟩
theorem taskb_of {x : S46} {p : Int} (h : IsB x p) (s7 : 0 ≤ x.f7 ∧ x.f7 < 18446744073709551616) (s8 : 0 ≤ x.f8 ∧ x.f8 < 18446744073709551616) : TaskB x :=
  ⟨h.r1, h.r8, h.rr, h.wd, by have := h.dt; have := h.t1; omega, s7, s8⟩
theorem work_one {w w' : World} {x : S46} {ra : Option Addr} {rc : Nat} {l : List S57} {IA : Option Addr} {ic : Nat} (h : In1 w x ra rc l IA ic) (hB : IsB x 0) (hb : Below w.heap.size w w') :
    Calls Tryz.prog 15 #[xv x ra rc] w' fun e w2 => e = .returned (.int .i64 x.f6.sum) ∧ Below w'.heap.size w' w2 := by
  obtain ⟨r, K, hK⟩ := work_from x.f0 x.f1 x.f2 x.f3 x.f4 x.f5 x.f7 x.f8 x.f6 (by have := hB.r8; omega) x.f6.length 0 0 (Nat.zero_add _)
  have hf : taskmasterref5_Work.f K x.f0 x.f1 x.f2 x.f3 x.f4 x.f5 x.f6 x.f7 x.f8 = some r := hK K (Nat.le_refl _)
  have e : r = x.f6.sum := work_inv hB.r8 hB.rr K 0 (Nat.zero_le _) (by simpa [taskmasterref5_Work.f] using hf)
  subst e
  exact taskmasterref5_Work.calls K x.f0 x.f1 x.f2 x.f3 x.f4 x.f5 ra rc x.f6 x.f7 x.f8 _ w' (Kd.C_below h.r hb) h.rc_ hf
/-- What the law's look at an event reads. -/
abbrev R8 (wr : World) (x : S46) (ra : Option Addr) (m rc tb g i : Nat) (ek en : Int) (W : World) : Prop :=
  Below wr.heap.size wr W ∧ W.cell? ⟨g, i * 4 + 1, none⟩ = some (.int .i64 ek) ∧ W.cell? ⟨g, i * 4 + 3, none⟩ = some (.int .i64 en) ∧ W.cell? ⟨tb, 0, none⟩ = some (.string x.f0) ∧ W.cell? ⟨tb, 1, none⟩ = some (.int .i64 x.f1) ∧ W.cell? ⟨tb, 2, none⟩ = some (.int .i64 x.f2) ∧ W.cell? ⟨tb, 3, none⟩ = some (.int .i64 x.f3) ∧ W.cell? ⟨tb, 4, none⟩ = some (.int .i64 x.f4) ∧ W.cell? ⟨tb, 5, none⟩ = some (.int .i64 x.f5) ∧ W.cell? ⟨tb, 6, none⟩ = some (.slice ra m rc) ∧ W.cell? ⟨tb, 7, none⟩ = some (.int .u64 x.f7) ∧ W.cell? ⟨tb, 8, none⟩ = some (.int .u64 x.f8)
theorem r8_next {wr W W2 : World} {x : S46} {ra : Option Addr} {m rc tb g i : Nat} {ek en : Int} (h : R8 wr x ra m rc tb g i ek en W) (hb : Below W.heap.size W W2) : R8 wr x ra m rc tb g i ek en W2 := by
  obtain ⟨h0, h1, h2, h3, h4, h5, h6, h7, h8, h9, h10, h11⟩ := h
  have k : ∀ {p : Addr} {v : Value}, W.cell? p = some v → W2.cell? p = some v := fun {p v} hc => (hb.cell (World.block_lt_of_cell? W p hc)).trans hc
  exact ⟨h0.trans (hb.mono h0.size), k h1, k h2, k h3, k h4, k h5, k h6, k h7, k h8, k h9, k h10, k h11⟩
theorem r8_drew {wr W : World} {x : S46} {ra : Option Addr} {m rc tb g i : Nat} {ek en : Int} (h : R8 wr x ra m rc tb g i ek en W) : R8 wr x ra m rc tb g i ek en W.drew := r8_next h (Below.refl W.heap.size W).drew
/-- The law's run. -/
theorem run_one {w wr : World} {x : S46} {ra : Option Addr} {rc tb : Nat} {l : List S57} {IA : Option Addr} {ic : Nat} (hS : S1 w wr x ra rc tb) (h : In1 w x ra rc l IA ic) (hB : IsB x 0) (hl : l.length ≤ 250) (hd : ∀ u ∈ l, u.f1.length ≤ 20)
    (htab : Lib.TabIs Tryz.prog wr "strings.asciiSpace" .u8 Lib.asciiSpaceTab) (hT : DeB wr) :
    Calls Tryz.prog 14 #[.agg #[.int .i64 0, .slice (some ⟨tb + 1, 0, none⟩) 1 1], .slice IA l.length ic] wr fun e w2 => ∃ v, e = .returned (.tuple #[v, .bool true]) ∧ w2.ownsRow wr.heap.size 50 4 v (runE oneF (k1 x) l).length (evs (runE oneF (k1 x) l)) ∧ Below wr.heap.size wr w2 := by
  have h0 : 0 < wr.heap.size := Nat.lt_of_le_of_lt (Nat.zero_le _) hS.t.lt
  have hx := taskb_of hB h.s7 h.s8
  have hsum := (tok_of hB h.s0).sum
  have hsz := hS.bl.size
  refine run_any (L := [x]) (K0 := k1 x) (stepF := oneF) (Inv := InvO x) (by omega) (ins_of (Kd.C_below h.i hS.bl)) (fun w' hb => ?_) (one_begin 0 x.f1) (fun w' hb => ?_)
  · refine (new_any (L := [x]) (c := 1) (rel := 0) (by simp) (by simp) (fun w'' hb' => ((hS.below hb).below hb').src h.r h.rc_) (fun w'' hb' => ?_) ?_).mono ?_
    · refine all_yes (L := [x]) (rel := 0) (by simp) (by simp) (by decide) (by decide) (fun w3 hb3 => (((hS.below hb).below hb').below hb3).src h.r h.rc_) (fun i y hy => ?_) (fun i j y z hij hy hz => ?_) (Lib.tabBelow_of_tabIs htab _ (hb.trans (hb'.mono hb.size)))
      · obtain ⟨hi, rfl⟩ := List.getElem?_eq_some_iff.1 hy
        obtain rfl : i = 0 := by simp at hi; omega
        exact tok_of hB h.s0
      · have h1 := (List.getElem?_eq_some_iff.1 hy).1
        have h2 := (List.getElem?_eq_some_iff.1 hz).1
        simp at h1 h2
        omega
    · intro y hy
      obtain rfl : y = x := by simpa using hy
      refine ⟨hB.r1, hB.r8, ?_⟩
      have := hB.wd
      have := hB.dt
      have := hB.t1
      unfold P.odd
      simp
      omega
    · rintro e w2 ⟨kp, A', jv, ev, he, hk, hb2⟩
      exact ⟨kp, A', jv, ev, he, hk.less (fun k h => by rw [k1_pd] at h; simp at h), hb2⟩
  · exact one_steps hx (by omega) (fun u hu => ⟨(h.ins u hu).1, (h.ins u hu).2, hd u hu⟩) (Nat.le_refl _) (by have := hb.size; omega) (hT.below h0 hb)
set_option maxHeartbeats 16000000 in
theorem alone_any {w : World} {x : S46} {ra : Option Addr} {rc : Nat} {l : List S57} {IA : Option Addr} {ic : Nat} (h : In1 w x ra rc l IA ic) (htab : Lib.TabIs Tryz.prog w "strings.asciiSpace" .u8 Lib.asciiSpaceTab) (hT : DeB w) (h0 : 0 < w.heap.size) :
    Calls Tryz.prog 4 #[xv x ra rc, .slice IA l.length ic] w fun e w' => e = .returned (.bool true) ∧ Below w.heap.size w w' := by
  obtain ⟨bA, KA, hA⟩ := All_tot 0 [x] (fun y hy => (show y = x from by simpa using hy) ▸ h.s0)
  obtain ⟨bL, KL, hL⟩ := long_tot h.small
  have hA := hA KA (Nat.le_refl _)
  have hL := hL KL (Nat.le_refl _)
  have s1 : S1 w (((w.alloc (.cells (tc x ra rc) 46)).alloc (.cells (tc x ra rc) 46)).alloc (.cells #[.int .i64 0, .slice (some ⟨w.heap.size + 1, 0, none⟩) 1 1] 24)) x ra rc w.heap.size := by
    have a1 : (w.alloc (.cells (tc x ra rc) 46)).heap.size = w.heap.size + 1 := by simp
    have a2 : ((w.alloc (.cells (tc x ra rc) 46)).alloc (.cells (tc x ra rc) 46)).heap.size = w.heap.size + 1 + 1 := by simp
    have b1 := Blk.new (w.alloc (.cells (tc x ra rc) 46)) 46 (tc x ra rc)
    have b2 := Blk.new ((w.alloc (.cells (tc x ra rc) 46)).alloc (.cells (tc x ra rc) 46)) 24 #[.int .i64 0, .slice (some ⟨w.heap.size + 1, 0, none⟩) 1 1]
    rw [a1] at b1
    rw [a2] at b2
    exact ⟨(((Below.refl w.heap.size w).alloc (Nat.le_refl _) _).alloc (by simp) _).alloc (by simp; omega) _, ((Blk.new w 46 (tc x ra rc)).alloc _).alloc _, b1.alloc _, b2⟩
  unfold tc at s1
  have HIN := Lib.hid h
  have HTB := Lib.hid (Lib.tabBelow_of_tabIs htab)
  have HDB := Lib.hid (fun (w' : World) (hb : Below w.heap.size w w') => hT.below h0 hb)
  obtain ⟨n, hn⟩ : ∃ n, l.length = n := ⟨_, rfl⟩
  obtain ⟨m, hm⟩ : ∃ m, x.f6.length = m := ⟨_, rfl⟩
  have HN := Lib.hid hn
  have HM := Lib.hid hm
  unfold xv
  rw [hn, hm]
  rw [hm] at s1
  have HA := Lib.hid hA
  have HL := Lib.hid hL
  clear hA hL h htab hT hn hm
  go_enter Tryz.func4, Tryz.ntmps4
  go_upto_region 2 with fail
  obtain ⟨w1, hw1⟩ : ∃ w1, (((w.alloc (.cells #[.string x.f0, .int .i64 x.f1, .int .i64 x.f2, .int .i64 x.f3, .int .i64 x.f4, .int .i64 x.f5, .slice ra m rc, .int .u64 x.f7, .int .u64 x.f8] 46)).alloc (.cells #[.string x.f0, .int .i64 x.f1, .int .i64 x.f2, .int .i64 x.f3, .int .i64 x.f4, .int .i64 x.f5, .slice ra m rc, .int .u64 x.f7, .int .u64 x.f8] 46)).alloc (.cells #[.int .i64 0, .slice (some ⟨w.heap.size + 1, 0, none⟩) 1 1] 24)) = w1 := ⟨_, rfl⟩
  obtain ⟨tb, htb⟩ : ∃ tb, w.heap.size = tb := ⟨_, rfl⟩
  rw [hw1, htb] at s1
  rw [hw1, htb]
  have HTBQ := Lib.hid htb
  clear hw1 htb
  have c0 : w1.cell? ⟨tb + 1 + 1, 0, none⟩ = some (.int .i64 0) := s1.s.cell 0
  have c1 : w1.cell? ⟨tb + 1 + 1, 1, none⟩ = some (.slice (some ⟨tb + 1, 0, none⟩) 1 1) := s1.s.cell 1
  have hsl := s1.s.lt
  have HC13 : Hid (Calls Tryz.prog 13 #[.agg #[.int .i64 0, .slice (some ⟨tb + 1, 0, none⟩) 1 1]] w1 fun e w' => e = .returned (.bool bA) ∧ Below w1.heap.size w1 w') := taskmasterref5_All.calls KA 0 (some ⟨tb + 1, 0, none⟩) 1 [x] bA w1 (s1.kd HIN.out.r HIN.out.rc_) (by simp) HA.out
  have HC7 : Hid (∀ w2, Below w1.heap.size w1 w2 → Calls Tryz.prog 7 #[.slice IA n ic] w2 fun e w' => e = .returned (.bool bL) ∧ Below w2.heap.size w2 w') := fun w2 hb => by
    have := taskmastertop_long.calls KL IA ic l bL w2 (Kd.C_below (Kd.C_below HIN.out.i s1.bl) hb) HIN.out.ic_ HL.out
    rw [HN.out] at this
    exact this.mono fun e w' ⟨he, hd⟩ => ⟨he, hd.below⟩
  have HS1 := Lib.hid s1
  clear s1
  cases bA with
  | false =>
    go_wp2_with (go_at_call 13; refine (HC13.out).mono ?_; rintro e w2 ⟨rfl, hb⟩; have HB2 := Lib.hid hb; clear hb)
    go_ret
    exact ⟨rfl, HS1.out.bl.trans (HB2.out.mono HS1.out.bl.size)⟩
  | true =>
    cases bL with
    | true =>
      go_wp2_with (first | (go_at_call 13; refine (HC13.out).mono ?_; rintro e w2 ⟨rfl, hb⟩; have HB2 := Lib.hid hb; clear hb HC13) | (go_at_call 7; refine (HC7.out _ HB2.out).mono ?_; rintro e w3 ⟨rfl, hb⟩; have HB3 := Lib.hid (HB2.out.trans (hb.mono HB2.out.size)); clear hb))
      go_ret
      exact ⟨rfl, HS1.out.bl.trans (HB3.out.mono HS1.out.bl.size)⟩
    | false =>
      have hAB := All_inv HA.out
      have hB : IsB x 0 := (hAB.is 0 (by simp)).1
      obtain ⟨hl250, hl20⟩ := long_no (by have := HIN.out.i.2.1; omega) HL.out
      have hx := taskb_of hB HIN.out.s7 HIN.out.s8
      have HR := Lib.hid (fun (w3 : World) (hb : Below w1.heap.size w1 w3) => run_one (HS1.out.below hb) HIN.out hB hl250 hl20 (HTB.out w3 (HS1.out.bl.trans (hb.mono HS1.out.bl.size))) (HDB.out w3 (HS1.out.bl.trans (hb.mono HS1.out.bl.size))))
      have HEV := Lib.hid (one_evs hx l 0 (k1 x) (one_begin 0 x.f1) (by omega))
      have HX := Lib.hid hx
      have HBX := Lib.hid hB
      rw [HN.out] at HR
      clear hAB hB hl250 hl20 hx
      go_upto_region 5 with (first | (go_at_call 13; refine (HC13.out).mono ?_; rintro e w2 ⟨rfl, hb⟩; have HB2 := Lib.hid hb; clear hb HC13) | (go_at_call 7; refine (HC7.out _ HB2.out).mono ?_; rintro e w3 ⟨rfl, hb⟩; have HB3 := Lib.hid (HB2.out.trans (hb.mono HB2.out.size)); have HS3 := Lib.hid (HS1.out.below HB3.out); have d0 := HS3.out.s.cell 0; have d1 := HS3.out.s.cell 1; have hsl3 := HS3.out.s.lt; simp at d0 d1; clear hb HC7) | (go_at_call 14; refine (HR.out _ HB3.out).mono ?_; rintro e w4 ⟨v, rfl, hown, hb⟩; have HO := Lib.hid hown; have HB4 := Lib.hid hb; have HS4 := Lib.hid (HS3.out.below hb); clear hown hb HR))
      obtain ⟨VA, vc, rfl⟩ := own_slice HO.out
      have HK := Lib.hid (fun (w' : World) (hb : Below w.heap.size w w') => known_any w' (HTB.out w' hb) (HDB.out w' hb) (Nat.lt_of_lt_of_le h0 hb.size))
      obtain ⟨LE, hLE⟩ : ∃ LE, runE oneF (k1 x) l = LE := ⟨_, rfl⟩
      rw [hLE] at HO HEV
      rw [hLE]
      clear hLE
      obtain ⟨q, hq⟩ : ∃ q, LE.length = q := ⟨_, rfl⟩
      rw [hq] at HO
      rw [hq]
      have HQ := Lib.hid hq
      have hq63 : q ≤ 9223372036854775807 := by
        have h8 := HO.out
        rcases h8.2 with ⟨_, h1⟩ | ⟨g, c', cur, h1, _, _, hn, hm, _⟩
        · omega
        · unfold maxLen at hm; omega
      clear hq
      obtain ⟨sm, hsm⟩ : ∃ sm, x.f6.sum = sm := ⟨_, rfl⟩
      have HSM := Lib.hid hsm
      have HWK := Lib.hid (fun (w' : World) (hb : Below w.heap.size w w') => work_one HIN.out HBX.out hb)
      unfold xv at HWK
      rw [hsm, HM.out] at HWK
      clear hsm
      go_wp2_with fail
      go_loopw [8] (fun z8 wr => ∃ i : Nat, i ≤ q ∧ z8 = .int .i64 i ∧ Below w4.heap.size w4 wr) (fun z8 _ => q - (intOf z8).toNat)
      case atStart => exact ⟨0, Nat.zero_le _, rfl, Below.refl _ _⟩
      case round =>
        obtain ⟨i, hi, rfl, hbw⟩ := hrel
        have HBW := Lib.hid hbw
        have HSR := Lib.hid (HS4.out.below hbw)
        clear hbw
        by_cases hlt : i < q
        · have hlt' : i < LE.length := by rw [HQ.out]; exact hlt
          obtain ⟨e, he⟩ : ∃ e, LE[i] = e := ⟨_, rfl⟩
          have hE : EvG x.f6.sum e := he ▸ HEV.out _ (List.getElem_mem hlt')
          obtain ⟨g, c, cs, hv, _, _, hG, hC⟩ := own_cells' HO.out (by omega)
          injection hv with hv1 hv2 hv3
          subst hv1 hv3
          have hC' : ∀ j, j < 4 → wr.cell? ⟨g, i * 4 + j, none⟩ = e.cells[j]? := fun j hj => by
            rw [(hG.below HBW.out hG.lt).cell, hC _ (by rw [evs_length, HQ.out]; omega), evs_at LE i j hlt' hj, he]
          have r1 : wr.cell? ⟨g, i * 4 + 1, none⟩ = some (.int .i64 e.kind) := hC' 1 (by decide)
          have r3 : wr.cell? ⟨g, i * 4 + 3, none⟩ = some (.int .i64 e.n) := hC' 3 (by decide)
          have hgl := (hG.below HBW.out hG.lt).lt
          obtain ⟨ek, hek⟩ : ∃ ek, e.kind = ek := ⟨_, rfl⟩
          obtain ⟨en, hen⟩ : ∃ en, e.n = en := ⟨_, rfl⟩
          unfold EvG at hE
          rw [hek, hen] at hE
          rw [hek] at r1
          rw [hen] at r3
          obtain ⟨e3, e5, e89⟩ := hE
          have E89 := Lib.hid e89
          have k3 : (ek == 3) = false := by simpa using e3
          have k5 : (ek == 5) = false := by simpa using e5
          have t0 := HSR.out.t.cell 0
          have t1 := HSR.out.t.cell 1
          have t2 := HSR.out.t.cell 2
          have t3 := HSR.out.t.cell 3
          have t4 := HSR.out.t.cell 4
          have t5 := HSR.out.t.cell 5
          have t6 := HSR.out.t.cell 6
          have t7 := HSR.out.t.cell 7
          have t8 := HSR.out.t.cell 8
          simp [tc] at t0 t1 t2 t3 t4 t5 t6 t7 t8
          rw [HM.out] at t6
          have htl := HSR.out.t.lt
          clear e89 e3 e5 hek hen he hlt' hv2 hC hC' hG
          by_cases h8 : ek = 8
          · subst h8
            have hgt : ¬ sm < en := by have := E89.out (.inl rfl); have := HSM.out; omega
            clear k3 k5 E89
            have hS0 : R8 wr x ra m rc tb g i 8 en wr := ⟨Below.refl _ _, r1, r3, t0, t1, t2, t3, t4, t5, t6, t7, t8⟩
            clear r1 r3 t0 t1 t2 t3 t4 t5 t6 t7 t8
            go_upto_region 8 with fail
            refine wp_region_held_drew (S := (fun W => Below wr.heap.size wr W ∧ W.cell? ⟨g, i * 4 + 1, none⟩ = some (.int .i64 8) ∧ W.cell? ⟨g, i * 4 + 3, none⟩ = some (.int .i64 en) ∧ W.cell? ⟨tb, 0, none⟩ = some (.string x.f0) ∧ W.cell? ⟨tb, 1, none⟩ = some (.int .i64 x.f1) ∧ W.cell? ⟨tb, 2, none⟩ = some (.int .i64 x.f2) ∧ W.cell? ⟨tb, 3, none⟩ = some (.int .i64 x.f3) ∧ W.cell? ⟨tb, 4, none⟩ = some (.int .i64 x.f4) ∧ W.cell? ⟨tb, 5, none⟩ = some (.int .i64 x.f5) ∧ W.cell? ⟨tb, 6, none⟩ = some (.slice ra m rc) ∧ W.cell? ⟨tb, 7, none⟩ = some (.int .u64 x.f7) ∧ W.cell? ⟨tb, 8, none⟩ = some (.int .u64 x.f8))) (by kernel_rfl) (r8_drew hS0) (fun hHeld => ?_)
            clear hS0
            refine wpAnyH_take (i := 0) (oi := ⟨some 31, _, _, _, _, _⟩) (v := ?v0) rfl (by kernel_rfl) (by kernel_rfl) (by kernel_rfl) (fun _ _ _ h => h) (Or.inl ⟨by rfl, ?hy0⟩) (by assumption) ?rest0
            case hy0 => (intro W hSw; (try dsimp only at hSw); go_simp; all_goals (with_reducible rfl))
            try simp only [Act.put, List.setIfInBounds_toArray, List.set_cons_zero, List.set_cons_succ]
            refine wpAnyH_take (i := 1) (oi := ⟨some 32, _, _, _, _, _⟩) (v := ?v1) rfl (by kernel_rfl) (by kernel_rfl) (by kernel_rfl) (fun _ _ _ h => h) (Or.inl ⟨by rfl, ?hy1⟩) (by assumption) ?rest1
            case hy1 => (intro W hSw; (try dsimp only at hSw); go_simp; all_goals (with_reducible rfl))
            try simp only [Act.put, List.setIfInBounds_toArray, List.set_cons_zero, List.set_cons_succ]
            refine wpAnyH_take (i := 2) (oi := ⟨some 33, _, _, _, _, _⟩) (v := ?v2) rfl (by kernel_rfl) (by kernel_rfl) (by kernel_rfl) (fun _ _ _ h => h) (Or.inl ⟨by rfl, ?hy2⟩) (by assumption) ?rest2
            case hy2 => (intro W hSw; (try dsimp only at hSw); go_simp; all_goals (with_reducible rfl))
            try simp only [Act.put, List.setIfInBounds_toArray, List.set_cons_zero, List.set_cons_succ]
            refine wpAnyH_take (i := 3) (oi := ⟨some 34, _, _, _, _, _⟩) (v := ?v3) rfl (by kernel_rfl) (by kernel_rfl) (by kernel_rfl) (fun _ _ _ h => h) (Or.inl ⟨by rfl, ?hy3⟩) (by assumption) ?rest3
            case hy3 => (intro W hSw; (try dsimp only at hSw); go_simp; all_goals (with_reducible rfl))
            try simp only [Act.put, List.setIfInBounds_toArray, List.set_cons_zero, List.set_cons_succ]
            refine wpAnyH_take (i := 4) (oi := ⟨some 35, _, _, _, _, _⟩) (v := ?v4) rfl (by kernel_rfl) (by kernel_rfl) (by kernel_rfl) (fun _ _ _ h => h) (Or.inl ⟨by rfl, ?hy4⟩) (by assumption) ?rest4
            case hy4 => (intro W hSw; (try dsimp only at hSw); go_simp; all_goals (with_reducible rfl))
            try simp only [Act.put, List.setIfInBounds_toArray, List.set_cons_zero, List.set_cons_succ]
            refine wpAnyH_take (i := 5) (oi := ⟨some 36, _, _, _, _, _⟩) (v := ?v5) rfl (by kernel_rfl) (by kernel_rfl) (by kernel_rfl) (fun _ _ _ h => h) (Or.inl ⟨by rfl, ?hy5⟩) (by assumption) ?rest5
            case hy5 => (intro W hSw; (try dsimp only at hSw); go_simp; all_goals (with_reducible rfl))
            try simp only [Act.put, List.setIfInBounds_toArray, List.set_cons_zero, List.set_cons_succ]
            refine wpAnyH_take (i := 6) (oi := ⟨some 37, _, _, _, _, _⟩) (v := ?v6) rfl (by kernel_rfl) (by kernel_rfl) (by kernel_rfl) (fun _ _ _ h => h) (Or.inl ⟨by rfl, ?hy6⟩) (by assumption) ?rest6
            case hy6 => (intro W hSw; (try dsimp only at hSw); go_simp; all_goals (with_reducible rfl))
            try simp only [Act.put, List.setIfInBounds_toArray, List.set_cons_zero, List.set_cons_succ]
            refine wpAnyH_take (i := 7) (oi := ⟨some 38, _, _, _, _, _⟩) (v := ?v7) rfl (by kernel_rfl) (by kernel_rfl) (by kernel_rfl) (fun _ _ _ h => h) (Or.inl ⟨by rfl, ?hy7⟩) (by assumption) ?rest7
            case hy7 => (intro W hSw; (try dsimp only at hSw); go_simp; all_goals (with_reducible rfl))
            try simp only [Act.put, List.setIfInBounds_toArray, List.set_cons_zero, List.set_cons_succ]
            refine wpAnyH_take (i := 8) (oi := ⟨some 39, _, _, _, _, _⟩) (v := ?v8) rfl (by kernel_rfl) (by kernel_rfl) (by kernel_rfl) (fun _ _ _ h => h) (Or.inl ⟨by rfl, ?hy8⟩) (by assumption) ?rest8
            case hy8 => (intro W hSw; (try dsimp only at hSw); go_simp; all_goals (with_reducible rfl))
            try simp only [Act.put, List.setIfInBounds_toArray, List.set_cons_zero, List.set_cons_succ]
            refine wpAnyH_take (i := 9) (oi := ⟨some 40, _, _, _, _, _⟩) (v := ?v9) rfl (by kernel_rfl) (by kernel_rfl) (by kernel_rfl) (fun _ _ _ h => h) (Or.inl ⟨by rfl, ?hy9⟩) (by assumption) ?rest9
            case hy9 => (intro W hSw; (try dsimp only at hSw); go_simp; all_goals (with_reducible rfl))
            try simp only [Act.put, List.setIfInBounds_toArray, List.set_cons_zero, List.set_cons_succ]
            refine wpAnyH_take (i := 10) (oi := ⟨some 41, _, _, _, _, _⟩) (v := ?v10) rfl (by kernel_rfl) (by kernel_rfl) (by kernel_rfl) (fun _ _ _ h => h) (Or.inl ⟨by rfl, ?hy10⟩) (by assumption) ?rest10
            case hy10 => (intro W hSw; (try dsimp only at hSw); go_simp; all_goals (with_reducible rfl))
            try simp only [Act.put, List.setIfInBounds_toArray, List.set_cons_zero, List.set_cons_succ]
            refine wpAnyH_take (i := 11) (oi := ⟨some 42, _, _, _, _, _⟩) (v := ?v11) rfl (by kernel_rfl) (by kernel_rfl) (by kernel_rfl) (fun _ _ _ h => h) (Or.inl ⟨by rfl, ?hy11⟩) (by assumption) ?rest11
            case hy11 => (intro W hSw; (try dsimp only at hSw); go_simp; all_goals (with_reducible rfl))
            try simp only [Act.put, List.setIfInBounds_toArray, List.set_cons_zero, List.set_cons_succ]
            refine wpAnyH_take (i := 12) (oi := ⟨some 43, _, _, _, _, _⟩) (v := ?v12) rfl (by kernel_rfl) (by kernel_rfl) (by kernel_rfl) (fun _ _ _ h => h) (Or.inl ⟨by rfl, ?hy12⟩) (by assumption) ?rest12
            case hy12 => (intro W hSw; (try dsimp only at hSw); go_simp; all_goals (with_reducible rfl))
            try simp only [Act.put, List.setIfInBounds_toArray, List.set_cons_zero, List.set_cons_succ]
            refine wpAnyH_take (i := 13) (oi := ⟨some 44, _, _, _, _, _⟩) (v := ?v13) rfl (by kernel_rfl) (by kernel_rfl) (by kernel_rfl) (fun _ _ _ h => h) (Or.inl ⟨by rfl, ?hy13⟩) (by assumption) ?rest13
            case hy13 => (intro W hSw; (try dsimp only at hSw); go_simp; all_goals (with_reducible rfl))
            try simp only [Act.put, List.setIfInBounds_toArray, List.set_cons_zero, List.set_cons_succ]
            refine wpAnyH_take (i := 14) (oi := ⟨some 45, _, _, _, _, _⟩) (v := ?v14) rfl (by kernel_rfl) (by kernel_rfl) (by kernel_rfl) (fun _ _ _ h => h) (Or.inl ⟨by rfl, ?hy14⟩) (by assumption) ?rest14
            case hy14 => (intro W hSw; (try dsimp only at hSw); go_simp; all_goals (with_reducible rfl))
            try simp only [Act.put, List.setIfInBounds_toArray, List.set_cons_zero, List.set_cons_succ]
            refine wpAnyH_take (i := 15) (oi := ⟨some 46, _, _, _, _, _⟩) (v := ?v15) rfl (by kernel_rfl) (by kernel_rfl) (by kernel_rfl) (fun _ _ _ h => h) (Or.inl ⟨by rfl, ?hy15⟩) (by assumption) ?rest15
            case hy15 => (intro W hSw; (try dsimp only at hSw); go_simp; all_goals (with_reducible rfl))
            try simp only [Act.put, List.setIfInBounds_toArray, List.set_cons_zero, List.set_cons_succ]
            refine wpAnyH_take (i := 16) (oi := ⟨some 47, _, _, _, _, _⟩) (v := ?v16) rfl (by kernel_rfl) (by kernel_rfl) (by kernel_rfl) (fun _ _ _ h => h) (Or.inl ⟨by rfl, ?hy16⟩) (by assumption) ?rest16
            case hy16 => (intro W hSw; (try dsimp only at hSw); go_simp; all_goals (with_reducible rfl))
            try simp only [Act.put, List.setIfInBounds_toArray, List.set_cons_zero, List.set_cons_succ]
            refine wpAnyH_take (i := 17) (oi := ⟨some 48, _, _, _, _, _⟩) (v := ?v17) rfl (by kernel_rfl) (by kernel_rfl) (by kernel_rfl) (fun _ _ _ h => h) (Or.inl ⟨by rfl, ?hy17⟩) (by assumption) ?rest17
            case hy17 => (intro W hSw; (try dsimp only at hSw); go_simp; all_goals (with_reducible rfl))
            try simp only [Act.put, List.setIfInBounds_toArray, List.set_cons_zero, List.set_cons_succ]
            refine wpAnyH_take (i := 18) (oi := ⟨some 49, _, _, _, _, _⟩) (v := ?v18) rfl (by kernel_rfl) (by kernel_rfl) (by kernel_rfl) (fun _ _ _ h => h) (Or.inl ⟨by rfl, ?hy18⟩) (by assumption) ?rest18
            case hy18 => (intro W hSw; (try dsimp only at hSw); go_simp; all_goals (with_reducible rfl))
            try simp only [Act.put, List.setIfInBounds_toArray, List.set_cons_zero, List.set_cons_succ]
            refine wpAnyH_take (i := 19) (oi := ⟨some 50, _, _, _, _, _⟩) (v := ?v19) rfl (by kernel_rfl) (by kernel_rfl) (by kernel_rfl) (fun _ _ _ h => h) (Or.inl ⟨by rfl, ?hy19⟩) (by assumption) ?rest19
            case hy19 => (intro W hSw; (try dsimp only at hSw); go_simp; all_goals (with_reducible rfl))
            try simp only [Act.put, List.setIfInBounds_toArray, List.set_cons_zero, List.set_cons_succ]
            refine wpAnyH_take (i := 20) (oi := ⟨some 51, _, _, _, _, _⟩) (v := ?v20) rfl (by kernel_rfl) (by kernel_rfl) (by kernel_rfl) (fun _ _ _ h => h) (Or.inl ⟨by rfl, ?hy20⟩) (by assumption) ?rest20
            case hy20 => (intro W hSw; (try dsimp only at hSw); go_simp; all_goals (with_reducible rfl))
            try simp only [Act.put, List.setIfInBounds_toArray, List.set_cons_zero, List.set_cons_succ]
            refine wpAnyH_take (i := 21) (oi := ⟨some 52, _, _, _, _, _⟩) (v := ?v21) rfl (by kernel_rfl) (by kernel_rfl) (by kernel_rfl) (fun _ _ _ h => h) (Or.inl ⟨by rfl, ?hy21⟩) (by assumption) ?rest21
            case hy21 => (intro W hSw; (try dsimp only at hSw); go_simp; all_goals (with_reducible rfl))
            try simp only [Act.put, List.setIfInBounds_toArray, List.set_cons_zero, List.set_cons_succ]
            refine wpAnyH_take (i := 22) (oi := ⟨some 53, _, _, _, _, _⟩) (v := undef) rfl (by kernel_rfl) (by kernel_rfl) (by kernel_rfl) (fun _ _ _ h => h) (Or.inr ⟨by rfl, rfl⟩) (by assumption) ?_
            try simp only [Act.put, List.setIfInBounds_toArray, List.set_cons_zero, List.set_cons_succ]
            refine wpAnyH_take (i := 23) (oi := ⟨some 54, _, _, _, _, _⟩) (v := undef) rfl (by kernel_rfl) (by kernel_rfl) (by kernel_rfl) (fun _ _ _ h => h) (Or.inr ⟨by rfl, rfl⟩) (by assumption) ?_
            try simp only [Act.put, List.setIfInBounds_toArray, List.set_cons_zero, List.set_cons_succ]
            refine wpAnyH_take (i := 24) (oi := ⟨some 55, _, _, _, _, _⟩) (v := undef) rfl (by kernel_rfl) (by kernel_rfl) (by kernel_rfl) (fun _ _ _ h => h) (Or.inr ⟨by rfl, rfl⟩) (by assumption) ?_
            try simp only [Act.put, List.setIfInBounds_toArray, List.set_cons_zero, List.set_cons_succ]
            refine wpAnyH_take (i := 25) (oi := ⟨some 56, _, _, _, _, _⟩) (v := undef) rfl (by kernel_rfl) (by kernel_rfl) (by kernel_rfl) (fun _ _ _ h => h) (Or.inr ⟨by rfl, rfl⟩) (by assumption) ?_
            try simp only [Act.put, List.setIfInBounds_toArray, List.set_cons_zero, List.set_cons_succ]
            refine wpAnyH_take (i := 26) (oi := ⟨some 57, _, _, _, _, _⟩) (v := undef) rfl (by kernel_rfl) (by kernel_rfl) (by kernel_rfl) (fun _ _ _ h => h) (Or.inr ⟨by rfl, rfl⟩) (by assumption) ?_
            try simp only [Act.put, List.setIfInBounds_toArray, List.set_cons_zero, List.set_cons_succ]
            refine wpAnyH_take (i := 27) (oi := ⟨some 58, _, _, _, _, _⟩) (v := undef) rfl (by kernel_rfl) (by kernel_rfl) (by kernel_rfl) (fun _ _ _ h => h) (Or.inr ⟨by rfl, rfl⟩) (by assumption) ?_
            try simp only [Act.put, List.setIfInBounds_toArray, List.set_cons_zero, List.set_cons_succ]
            refine wpAnyH_take (i := 28) (oi := ⟨some 59, _, _, _, _, _⟩) (v := ?v28) rfl (by kernel_rfl) (by kernel_rfl) (by kernel_rfl) (fun _ _ _ h => h) (Or.inl ⟨by rfl, ?hy28⟩) (by assumption) ?rest28
            case hy28 => (intro W hSw; (try dsimp only at hSw); go_simp; all_goals (with_reducible rfl))
            try simp only [Act.put, List.setIfInBounds_toArray, List.set_cons_zero, List.set_cons_succ]
            refine wpAnyH_take (i := 29) (oi := ⟨some 60, _, _, _, _, _⟩) (v := ?v29) rfl (by kernel_rfl) (by kernel_rfl) (by kernel_rfl) (fun _ _ _ h => h) (Or.inl ⟨by rfl, ?hy29⟩) (by assumption) ?rest29
            case hy29 => (intro W hSw; (try dsimp only at hSw); go_simp; all_goals (with_reducible rfl))
            try simp only [Act.put, List.setIfInBounds_toArray, List.set_cons_zero, List.set_cons_succ]
            refine wpAnyH_take (i := 30) (oi := ⟨some 61, _, _, _, _, _⟩) (v := ?v30) rfl (by kernel_rfl) (by kernel_rfl) (by kernel_rfl) (fun _ _ _ h => h) (Or.inl ⟨by rfl, ?hy30⟩) (by assumption) ?rest30
            case hy30 => (intro W hSw; (try dsimp only at hSw); go_simp; all_goals (with_reducible rfl))
            try simp only [Act.put, List.setIfInBounds_toArray, List.set_cons_zero, List.set_cons_succ]
            refine wpAnyH_take (i := 31) (oi := ⟨some 62, _, _, _, _, _⟩) (v := ?v31) rfl (by kernel_rfl) (by kernel_rfl) (by kernel_rfl) (fun _ _ _ h => h) (Or.inl ⟨by rfl, ?hy31⟩) (by assumption) ?rest31
            case hy31 => (intro W hSw; (try dsimp only at hSw); go_simp; all_goals (with_reducible rfl))
            try simp only [Act.put, List.setIfInBounds_toArray, List.set_cons_zero, List.set_cons_succ]
            refine wpAnyH_take (i := 32) (oi := ⟨some 63, _, _, _, _, _⟩) (v := ?v32) rfl (by kernel_rfl) (by kernel_rfl) (by kernel_rfl) (fun _ _ _ h => h) (Or.inl ⟨by rfl, ?hy32⟩) (by assumption) ?rest32
            case hy32 => (intro W hSw; (try dsimp only at hSw); go_simp; all_goals (with_reducible rfl))
            try simp only [Act.put, List.setIfInBounds_toArray, List.set_cons_zero, List.set_cons_succ]
            refine wpAnyH_take (i := 33) (oi := ⟨some 64, _, _, _, _, _⟩) (v := ?v33) rfl (by kernel_rfl) (by kernel_rfl) (by kernel_rfl) (fun _ _ _ h => h) (Or.inl ⟨by rfl, ?hy33⟩) (by assumption) ?rest33
            case hy33 => (intro W hSw; (try dsimp only at hSw); go_simp; all_goals (with_reducible rfl))
            try simp only [Act.put, List.setIfInBounds_toArray, List.set_cons_zero, List.set_cons_succ]
            refine wpAnyH_take (i := 34) (oi := ⟨some 65, _, _, _, _, _⟩) (v := ?v34) rfl (by kernel_rfl) (by kernel_rfl) (by kernel_rfl) (fun _ _ _ h => h) (Or.inl ⟨by rfl, ?hy34⟩) (by assumption) ?rest34
            case hy34 => (intro W hSw; (try dsimp only at hSw); go_simp; all_goals (with_reducible rfl))
            try simp only [Act.put, List.setIfInBounds_toArray, List.set_cons_zero, List.set_cons_succ]
            refine wpAnyH_take (i := 35) (oi := ⟨some 66, _, _, _, _, _⟩) (v := ?v35) rfl (by kernel_rfl) (by kernel_rfl) (by kernel_rfl) (fun _ _ _ h => h) (Or.inl ⟨by rfl, ?hy35⟩) (by assumption) ?rest35
            case hy35 => (intro W hSw; (try dsimp only at hSw); go_simp; all_goals (with_reducible rfl))
            try simp only [Act.put, List.setIfInBounds_toArray, List.set_cons_zero, List.set_cons_succ]
            refine wpAnyH_ready (rs := [36]) (by kernel_rfl) (by simp) ?_
            refine AllReadyH.cons (o := ⟨some 67, _, _, _, _, _⟩) rfl (fun K hK => ?_) AllReadyH.nil
            go_simp
            go_at_call 15
            refine (HWK.out _ (by exact HSR.out.bl.trans ((And.left hHeld).mono HSR.out.bl.size))).mono ?_
            rintro e' w6 ⟨rfl, hb6⟩
            have hS6 := r8_next hHeld hb6
            clear hb6 hHeld
            refine hK.out _ _ hS6 (fun hHeld => ?_)
            clear hK K
            try simp only [Act.put, List.setIfInBounds_toArray, List.set_cons_zero, List.set_cons_succ]
            refine wpAnyH_take (i := 37) (oi := ⟨some 68, _, _, _, _, _⟩) (v := ?v37) rfl (by kernel_rfl) (by kernel_rfl) (by kernel_rfl) (fun _ _ _ h => h) (Or.inl ⟨by rfl, ?hy37⟩) (by assumption) ?rest37
            case hy37 => (intro W hSw; (try dsimp only at hSw); go_simp; all_goals (with_reducible rfl))
            try simp only [Act.put, List.setIfInBounds_toArray, List.set_cons_zero, List.set_cons_succ]
            refine wpAnyH_take (i := 38) (oi := ⟨some 69, _, _, _, _, _⟩) (v := ?v38) rfl (by kernel_rfl) (by kernel_rfl) (by kernel_rfl) (fun _ _ _ h => h) (Or.inl ⟨by rfl, ?hy38⟩) (by assumption) ?rest38
            case hy38 => (intro W hSw; (try dsimp only at hSw); go_simp; all_goals (with_reducible rfl))
            try simp only [Act.put, List.setIfInBounds_toArray, List.set_cons_zero, List.set_cons_succ]
            refine wpAnyH_take (i := 39) (oi := ⟨some 70, _, _, _, _, _⟩) (v := ?v39) rfl (by kernel_rfl) (by kernel_rfl) (by kernel_rfl) (fun _ _ _ h => h) (Or.inl ⟨by rfl, ?hy39⟩) (by assumption) ?rest39
            case hy39 => (intro W hSw; (try dsimp only at hSw); go_simp; all_goals (with_reducible rfl))
            try simp only [Act.put, List.setIfInBounds_toArray, List.set_cons_zero, List.set_cons_succ]
            refine wpAnyH_done (by kernel_rfl) ?_ _
            have HB6 := Lib.hid (HBW.out.trans ((And.left hS6).mono HBW.out.size))
            go_wp2_with fail
            go_roundw
            case rel => exact ⟨i + 1, by omega, by go_num, HB6.out⟩
            case measure => simp [intOf]; omega
          · by_cases h9 : ek = 9
            · subst h9
              have hgt : ¬ sm < en := by have := E89.out (.inr rfl); have := HSM.out; omega
              clear k3 k5 E89
              have hS0 : R8 wr x ra m rc tb g i 9 en wr := ⟨Below.refl _ _, r1, r3, t0, t1, t2, t3, t4, t5, t6, t7, t8⟩
              clear r1 r3 t0 t1 t2 t3 t4 t5 t6 t7 t8
              go_upto_region 8 with fail
              go_region_held3 (fun W => Below wr.heap.size wr W ∧ W.cell? ⟨g, i * 4 + 1, none⟩ = some (.int .i64 9) ∧ W.cell? ⟨g, i * 4 + 3, none⟩ = some (.int .i64 en) ∧ W.cell? ⟨tb, 0, none⟩ = some (.string x.f0) ∧ W.cell? ⟨tb, 1, none⟩ = some (.int .i64 x.f1) ∧ W.cell? ⟨tb, 2, none⟩ = some (.int .i64 x.f2) ∧ W.cell? ⟨tb, 3, none⟩ = some (.int .i64 x.f3) ∧ W.cell? ⟨tb, 4, none⟩ = some (.int .i64 x.f4) ∧ W.cell? ⟨tb, 5, none⟩ = some (.int .i64 x.f5) ∧ W.cell? ⟨tb, 6, none⟩ = some (.slice ra m rc) ∧ W.cell? ⟨tb, 7, none⟩ = some (.int .u64 x.f7) ∧ W.cell? ⟨tb, 8, none⟩ = some (.int .u64 x.f8)) (first | (with_reducible assumption) | (with_reducible refine r8_drew ?_; with_reducible assumption)) ((go_at_call 15; refine (HWK.out _ (by exact HSR.out.bl.trans ((And.left (‹Below wr.heap.size wr _ ∧ _›)).mono HSR.out.bl.size))).mono ?_; rintro e' w6 ⟨rfl, hb6⟩; have hS6 := r8_next (by with_reducible assumption) hb6; clear hb6))
              all_goals
                have HB6 := Lib.hid (HBW.out.trans ((And.left hS6).mono HBW.out.size))
                go_wp2_with fail
                go_roundw
                case rel => exact ⟨i + 1, by omega, by go_num, HB6.out⟩
                case measure => simp [intOf]; omega
            · have k8 : (ek == 8) = false := by simpa using h8
              have k9 : (ek == 9) = false := by simpa using h9
              clear h8 h9
              go_upto_region 8 with fail
              go_quiet (fail)
              all_goals
                go_wp2_with fail
                go_roundw
                case rel => exact ⟨i + 1, by omega, by go_num, below_drewN HBW.out _⟩
                case measure => simp [intOf]; omega
        · have e : i = q := by omega
          subst e
          have HKW := Lib.hid (HK.out wr HSR.out.bl)
          go_wp2_with (go_at_call 12; refine (HKW.out).mono ?_; rintro e w6 ⟨rfl, hb6⟩; have HB6 := Lib.hid hb6; clear hb6)
          go_ret
          exact ⟨rfl, HSR.out.bl.trans (HB6.out.mono HSR.out.bl.size)⟩
end Go.Proofs.YtdgfjpbjiccllaaGreatDoor.L
