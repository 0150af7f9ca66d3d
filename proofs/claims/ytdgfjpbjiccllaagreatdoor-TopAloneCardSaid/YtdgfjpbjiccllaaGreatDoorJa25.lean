/- Joined texts: Fix, Fix2, Fix3, Fix4, Fix5, Fix6. -/
import Derived.Test.YtdgfjpbjiccllaaGreatDoorJa21
import Derived.Test.YtdgfjpbjiccllaaGreatDoorJa24
import Derived.Test.YtdgfjpbjiccllaaGreatDoorJa11
import Derived.Test.YtdgfjpbjiccllaaGreatDoorJa22
/- What package fix comes to: is, Sum. -/
namespace Go.Proofs.YtdgfjpbjiccllaaGreatDoor.F
open Go.RowKit
open Go.Proofs.YtdgfjpbjiccllaaGreatDoorW.PrintWords Go.Proofs.YtdgfjpbjiccllaaGreatDoorW.PrintLast Go.Proofs.YtdgfjpbjiccllaaGreatDoorW.PrintMore
open Go.Proofs.YtdgfjpbjiccllaaGreatDoor.PTopLoads (S212 k212 z212 k212_mk fix_sum.f fix_sum.l0 fix_sum.calls num_Ceil.f num_Floor.f num_Is.f rd_T212)
set_option maxRecDepth 100000
def topL (n least : Int) : Bool := decide (least ≤ n) && decide (n ≤ 1000000)
def badLoad (x : S212) : Bool := !(topL x.f0 1) || !(topL x.f1 0)
def isL (base : Int) (ls : List S212) : Bool := topL base 0 && decide ((ls.length : Int) ≤ 64) && !(ls.any badLoad)
/-- Loads that are read. -/
def Lds (w : World) (A : Option Addr) (ls : List S212) : Prop :=
  ls = [] ∨ ∃ b off, A = some ⟨b, off, none⟩ ∧ b < w.heap.size ∧ ∀ i x, ls[i]? = some x → w.cell? ⟨b, off + i * 2, none⟩ = some (.int .i64 x.f0) ∧ w.cell? ⟨b, off + i * 2 + 1, none⟩ = some (.int .i64 x.f1)
theorem Lds.below {w w' : World} {A : Option Addr} {ls : List S212} (h : Lds w A ls) (hb : Below w.heap.size w w') : Lds w' A ls := by
  rcases h with h | ⟨b, off, rfl, hlt, hc⟩
  · exact .inl h
  · refine .inr ⟨b, off, rfl, Nat.lt_of_lt_of_le hlt hb.size, fun i x hx => ?_⟩
    obtain ⟨h1, h2⟩ := hc i x hx
    exact ⟨(hb.cell (p := ⟨b, _, none⟩) hlt).trans h1, (hb.cell (p := ⟨b, _, none⟩) hlt).trans h2⟩
theorem Lds.kd {w : World} {A : Option Addr} {ls : List S212} (h : Lds w A ls) (hl : ls.length ≤ 1000) : Kd.C k212 w A ls.length ls := by
  refine ⟨rfl, by omega, fun h0 => ?_⟩
  rcases h with rfl | ⟨b, off, rfl, hlt, hc⟩
  · simp at h0
  · refine ⟨_, rfl, fun j p hp => ⟨_, rfl, k212_mk w p, fun i u hu => ?_⟩⟩
    obtain ⟨h1, h2⟩ := hc j p hp
    rw [add_none]
    match i, hu with
    | 0, hu =>
      simp at hu
      subst hu
      exact h1
    | 1, hu =>
      simp at hu
      subst hu
      exact h2
theorem isTop_any (n least : Int) (w : World) : Calls Tryz.prog 171 #[.int .i64 n, .int .i64 least] w fun e w' => e = .returned (.bool (topL n least)) ∧ w = w' := by
  unfold topL
  cases h : decide (least ≤ n) with
  | false =>
    go_enter Tryz.func171, Tryz.ntmps171
    go_wp2
    go_ret
    exact ⟨rfl, rfl⟩
  | true =>
    go_enter Tryz.func171, Tryz.ntmps171
    go_wp2
    go_ret
    exact ⟨rfl, rfl⟩
theorem bad_any (x : S212) (w : World) : Calls Tryz.prog 182 #[.agg #[.int .i64 x.f0, .int .i64 x.f1]] w fun e w' => e = .returned (.bool (badLoad x)) ∧ Below w.heap.size w w' := by
  unfold badLoad
  cases h : topL x.f0 1 with
  | false =>
    have H := Lib.hid h
    clear h
    go_enter Tryz.func182, Tryz.ntmps182
    go_wp2_with (go_at_call 171; refine (isTop_any _ _ _).mono ?_; rintro e w' ⟨rfl, rfl⟩; rw [H.out])
    go_ret
    exact ⟨rfl, (Below.refl _ _).alloc (Nat.le_refl _) _⟩
  | true =>
    have H := Lib.hid h
    clear h
    go_enter Tryz.func182, Tryz.ntmps182
    go_wp2_with (go_at_call 171; refine (isTop_any _ _ _).mono ?_; rintro e w' ⟨rfl, rfl⟩; first | rw [H.out] | skip)
    go_ret
    exact ⟨rfl, (Below.refl _ _).alloc (Nat.le_refl _) _⟩
theorem any_take (ls : List S212) (p : S212 → Bool) (k : Nat) (x : S212) (hx : ls[k]? = some x) : (ls.take (k + 1)).any p = ((ls.take k).any p || p x) := by
  obtain ⟨h, rfl⟩ := List.getElem?_eq_some_iff.1 hx
  rw [List.take_succ_eq_append_getElem h, List.any_append]
  simp
theorem any_of_take (ls : List S212) (p : S212 → Bool) (k : Nat) (h : (ls.take k).any p = true) : ls.any p = true := by
  rw [List.any_eq_true] at h ⊢
  obtain ⟨x, hx, hp⟩ := h
  exact ⟨x, List.mem_of_mem_take hx, hp⟩
set_option maxHeartbeats 1000000 in
theorem index_any (A : Option Addr) (c : Nat) (ls : List S212) (w : World) (h : Lds w A ls) (hl : ls.length ≤ 1000) :
    Calls Tryz.prog 189 #[.slice A ls.length c, .func (.func 182) #[] #[]] w fun e w' => ∃ r : Int, e = .returned (.int .i64 r) ∧ decide (0 ≤ r) = ls.any badLoad ∧ Below w.heap.size w w' := by
  have HL := Lib.hid h
  clear h
  obtain ⟨n, hn⟩ : ∃ n, ls.length = n := ⟨_, rfl⟩
  have HN := Lib.hid hn
  rw [hn] at hl ⊢
  clear hn
  go_enter Tryz.func189, Tryz.ntmps189
  go_wp2_with fail
  go_loopw [8] (fun z wr => ∃ k : Nat, k ≤ n ∧ z = .int .i64 k ∧ (ls.take k).any badLoad = false ∧ Below w.heap.size w wr) (fun z _ => n - (intOf z).toNat)
  case atStart => exact ⟨0, Nat.zero_le _, rfl, rfl, Below.refl _ _⟩
  case round =>
    obtain ⟨k, hk, rfl, hno, hb⟩ := hrel
    by_cases hlt : k < n
    · obtain ⟨x, hx⟩ : ∃ x, ls[k]? = some x := ⟨_, List.getElem?_eq_getElem (by rw [HN.out]; exact hlt)⟩
      rcases HL.out.below hb with h0 | ⟨b, off, rfl, hbl, hc⟩
      · have := HN.out; rw [h0] at this; simp at this; omega
      obtain ⟨c0, c1⟩ := hc k x hx
      have HT := Lib.hid (any_take ls badLoad k x hx)
      have HNO := Lib.hid hno
      have HB := Lib.hid hb
      have hk0 : ¬ ((k : Int) < 0) := by omega
      cases hbad : badLoad x with
      | false =>
        have HBAD := Lib.hid hbad
        clear hc hx hno hb hbad
        go_wp2_with (go_at_call 182; refine (bad_any x _).mono ?_; rintro e w' ⟨rfl, hb⟩; have HB2 := Lib.hid hb; clear hb; rw [HBAD.out])
        go_roundw
        case rel => exact ⟨k + 1, by omega, by go_num, by rw [HT.out, HNO.out, HBAD.out]; rfl, HB.out.trans (HB2.out.mono HB.out.size)⟩
        case measure => simp [intOf]; omega
      | true =>
        have HBAD := Lib.hid hbad
        clear hc hx hno hb hbad
        go_wp2_with (go_at_call 182; refine (bad_any x _).mono ?_; rintro e w' ⟨rfl, hb⟩; have HB2 := Lib.hid hb; clear hb; rw [HBAD.out])
        go_ret
        refine ⟨k, rfl, ?_, HB.out.trans (HB2.out.mono HB.out.size)⟩
        rw [any_of_take ls badLoad (k + 1) (by rw [HT.out, HBAD.out]; simp)]
        simp
    · have e : k = n := by omega
      subst e
      have HB := Lib.hid hb
      have HNO := Lib.hid hno
      clear hb hno
      go_wp2
      go_ret
      refine ⟨-1, rfl, ?_, HB.out⟩
      have := HNO.out
      rw [← HN.out, List.take_length] at this
      rw [this]
      rfl
theorem contains_any (A : Option Addr) (c : Nat) (ls : List S212) (w : World) (h : Lds w A ls) (hl : ls.length ≤ 1000) :
    Calls Tryz.prog 181 #[.slice A ls.length c, .func (.func 182) #[] #[]] w fun e w' => e = .returned (.bool (ls.any badLoad)) ∧ Below w.heap.size w w' := by
  have HI := Lib.hid (index_any A c ls w h hl)
  clear h
  go_enter Tryz.func181, Tryz.ntmps181
  go_wp2_with (go_at_call 189; refine (HI.out).mono ?_; rintro e w' ⟨r, rfl, hr, hb⟩; have HB := Lib.hid hb; have HR := Lib.hid hr; clear hb hr)
  go_ret
  exact ⟨by rw [← HR.out]; rfl, HB.out⟩
theorem is_any (base : Int) (A : Option Addr) (c : Nat) (ls : List S212) (w : World) (h : Lds w A ls) (hl : ls.length ≤ 1000) :
    Calls Tryz.prog 165 #[.int .i64 base, .slice A ls.length c] w fun e w' => e = .returned (.bool (isL base ls)) ∧ Below w.heap.size w w' := by
  have HC := Lib.hid (contains_any A c ls w h hl)
  clear h
  unfold isL
  cases h1 : topL base 0 with
  | false =>
    have H := Lib.hid h1
    clear h1
    go_enter Tryz.func165, Tryz.ntmps165
    go_wp2_with (go_at_call 171; refine (isTop_any _ _ _).mono ?_; rintro e w' ⟨rfl, rfl⟩; rw [H.out])
    go_ret
    exact ⟨rfl, Below.refl _ _⟩
  | true =>
    have H := Lib.hid h1
    clear h1
    cases h2 : decide ((ls.length : Int) ≤ 64) with
    | false =>
      go_enter Tryz.func165, Tryz.ntmps165
      go_wp2_with (go_at_call 171; refine (isTop_any _ _ _).mono ?_; rintro e w' ⟨rfl, rfl⟩; rw [H.out])
      go_ret
      exact ⟨rfl, Below.refl _ _⟩
    | true =>
      go_enter Tryz.func165, Tryz.ntmps165
      go_wp2_with (first | (go_at_call 171; refine (isTop_any _ _ _).mono ?_; rintro e w' ⟨rfl, rfl⟩; rw [H.out]) | (go_at_call 181; refine (HC.out).mono ?_; rintro e w' ⟨rfl, hb⟩; have HB := Lib.hid hb; clear hb))
      go_ret
      exact ⟨rfl, HB.out⟩
/-! ### sums -/
def ceilV (w t : Int) : Int := ((num_Ceil.f w t).getD (0, false)).1
theorem ceil_some (w t : Int) : ∃ b, num_Ceil.f w t = some (ceilV w t, b) := by
  have hF : ∃ r, num_Floor.f w t = some r := by
    unfold num_Floor.f num_Is.f
    split
    · simp only [Option.bind_some]
      split
      · split
        · simp only [Option.bind_some]
          split
          · split <;> exact ⟨_, rfl⟩
          · exact ⟨_, rfl⟩
        · exact ⟨_, rfl⟩
      · exact ⟨_, rfl⟩
    · exact ⟨_, rfl⟩
  obtain ⟨r, hr⟩ := hF
  have hC : ∃ r, num_Ceil.f w t = some r := by
    unfold num_Ceil.f
    rw [hr]
    simp only [Option.bind_some]
    split
    · split <;> exact ⟨_, rfl⟩
    · exact ⟨_, rfl⟩
  obtain ⟨⟨a, b⟩, hc⟩ := hC
  exact ⟨b, by unfold ceilV; rw [hc]; rfl⟩
def sumStep (w : Int) (b : Int) (x : S212) : Int := wrap64 (b + wrap64 (x.f1 * ceilV w x.f0))
def sumL (base : Int) (ls : List S212) (w : Int) : Int := ls.foldl (sumStep w) base
theorem sum_round (ls : List S212) (k d : Nat) (hlt : k < ls.length) (hl : ls.length ≤ 1000) (base w cv : Int) (b : Bool) (hb : num_Ceil.f w (ls[k]).f0 = some (cv, b)) :
    fix_sum.l0 (d + 1) base w ls (ls.length : Int) (k : Int) = fix_sum.l0 d (wrap64 (base + wrap64 (ls[k].f1 * cv))) w ls (ls.length : Int) ((k + 1 : Nat) : Int) := by
  have e1 : rd_T212 ls (k : Int) = ls[k] := by simp [rd_T212, hlt]
  have e2 : wrap64 ((k : Int) + 1) = ((k + 1 : Nat) : Int) := by unfold wrap64; omega
  have h1 : (k : Int) < (ls.length : Int) := by omega
  have h2 : (0 : Int) ≤ (k : Int) := by omega
  rw [fix_sum.l0, if_pos h1, if_pos h2, if_pos h1, e1, hb, Option.bind_some, e2]
theorem sum_from (ls : List S212) (hl : ls.length ≤ 1000) (w : Int) (d : Nat) : ∀ (k : Nat) (base : Int), k + d = ls.length → fix_sum.l0 (d + 1) base w ls (ls.length : Int) (k : Int) = some ((ls.drop k).foldl (sumStep w) base) := by
  induction d with
  | zero =>
    intro k base h
    have h1 : ¬ (k : Int) < (ls.length : Int) := by omega
    rw [fix_sum.l0, if_neg h1, List.drop_eq_nil_of_le (by omega), List.foldl_nil]
  | succ d ih =>
    intro k base h
    have hlt : k < ls.length := by omega
    obtain ⟨b, hb⟩ := ceil_some w (ls[k]).f0
    rw [sum_round ls k (d + 1) hlt hl base w _ b hb, ih (k + 1) _ (by omega), List.drop_eq_getElem_cons hlt, List.foldl_cons, sumStep]
theorem sum_f (base : Int) (ls : List S212) (hl : ls.length ≤ 1000) (w : Int) : fix_sum.f (ls.length + 1) base ls w = some (sumL base ls w) := by
  have := sum_from ls hl w ls.length 0 base (by omega)
  simpa [fix_sum.f, sumL] using this
theorem sum_any (base : Int) (A : Option Addr) (c : Nat) (ls : List S212) (v : Int) (w : World) (h : Lds w A ls) (hl : ls.length ≤ 1000) (hc : ls.length ≤ c) :
    Calls Tryz.prog 166 #[.int .i64 base, .slice A ls.length c, .int .i64 v] w fun e w' => e = .returned (.int .i64 (sumL base ls v)) ∧ Below w.heap.size w w' :=
  fix_sum.calls (ls.length + 1) base A c ls v _ w (h.kd hl) hc (sum_f base ls hl v)
/-- What Sum gives. -/
def SumL (base : Int) (ls : List S212) (v : Int) : Int × Bool := if isL base ls && topL v 0 then (sumL base ls v, true) else (0, false)
theorem Sum_any (base : Int) (A : Option Addr) (c : Nat) (ls : List S212) (v : Int) (w : World) (h : Lds w A ls) (hl : ls.length ≤ 1000) (hc : ls.length ≤ c) :
    Calls Tryz.prog 155 #[.int .i64 base, .slice A ls.length c, .int .i64 v] w fun e w' => e = .returned (.tuple #[.int .i64 (SumL base ls v).1, .bool (SumL base ls v).2]) ∧ Below w.heap.size w w' := by
  have HI := Lib.hid (is_any base A c ls w h hl)
  have HS := Lib.hid (fun w' hb => sum_any base A c ls v w' (h.below hb) hl hc)
  clear h hc
  unfold SumL
  cases h1 : isL base ls with
  | false =>
    have H := Lib.hid h1
    rw [h1] at HI
    clear h1
    go_enter Tryz.func155, Tryz.ntmps155
    go_wp2_with (go_at_call 165; refine (HI.out).mono ?_; rintro e w' ⟨rfl, hb⟩; have HB := Lib.hid hb; clear hb)
    go_ret2
    exact ⟨rfl, HB.out⟩
  | true =>
    have H := Lib.hid h1
    rw [h1] at HI
    clear h1
    cases h2 : topL v 0 with
    | false =>
      have H2 := Lib.hid h2
      clear h2
      go_enter Tryz.func155, Tryz.ntmps155
      go_wp2_with (first | (go_at_call 165; refine (HI.out).mono ?_; rintro e w' ⟨rfl, hb⟩; have HB := Lib.hid hb; clear hb) | (go_at_call 171; refine (isTop_any _ _ _).mono ?_; rintro e w' ⟨rfl, rfl⟩; rw [H2.out]))
      go_ret2
      exact ⟨rfl, HB.out⟩
    | true =>
      have H2 := Lib.hid h2
      clear h2
      go_enter Tryz.func155, Tryz.ntmps155
      go_wp2_with (first | (go_at_call 165; refine (HI.out).mono ?_; rintro e w' ⟨rfl, hb⟩; have HB := Lib.hid hb; clear hb) | (go_at_call 171; refine (isTop_any _ _ _).mono ?_; rintro e w' ⟨rfl, rfl⟩; rw [H2.out]) | (go_at_call 166; refine (HS.out _ HB.out).mono ?_; rintro e w' ⟨rfl, hb⟩; have HB2 := Lib.hid hb; clear hb))
      go_ret2
      exact ⟨rfl, HB.out.trans (HB2.out.mono HB.out.size)⟩
end Go.Proofs.YtdgfjpbjiccllaaGreatDoor.F
/- What package fix comes to: Least; resp.done. -/
namespace Go.Proofs.YtdgfjpbjiccllaaGreatDoor.F
open Go.RowKit
open Go.Proofs.YtdgfjpbjiccllaaGreatDoor.X (scope_once code_mono)
open Go.Proofs.YtdgfjpbjiccllaaGreatDoorW.PrintWords Go.Proofs.YtdgfjpbjiccllaaGreatDoorW.PrintLast Go.Proofs.YtdgfjpbjiccllaaGreatDoorW.PrintMore
open Go.Proofs.YtdgfjpbjiccllaaGreatDoor.PTopLoads (S212)
set_option maxRecDepth 100000
/-- The least time. -/
def leastL : Nat → Int → List S212 → Int → Int × Bool
  | 0, _, _, _ => (0, false)
  | f + 1, base, ls, v => if sumL base ls v = v then (v, true) else if sumL base ls v < v ∨ 1000000 < sumL base ls v then (0, false) else leastL f base ls (sumL base ls v)
def LJ (w : World) (A : Option Addr) (c : Nat) (base : Int) (ls : List S212) (R : Int × Bool) (a' : Act) (wr : World) : Prop :=
  ∃ (v : Int) (u2 u3 u7 u8 u9 u10 u11 u12 u13 u14 u15 u16 u17 u18 u19 u20 u21 u22 u23 u24 u25 u26 u27 : Value), 1 ≤ v ∧ v ≤ 1000000 ∧ Below w.heap.size w wr ∧ (∃ f : Nat, 1000001 - v ≤ (f : Int) ∧ leastL f base ls v = R) ∧ a' = { tmps := #[.int .i64 base, .slice A ls.length c, u2, u3, .int .i64 0, .bool false, .int .i64 v, u7, u8, u9, u10, u11, u12, u13, u14, u15, u16, u17, u18, u19, u20, u21, u22, u23, u24, u25, u26, u27], defers := [] }
set_option maxHeartbeats 4000000 in
theorem Least_any (base : Int) (A : Option Addr) (c : Nat) (ls : List S212) (w : World) (h : Lds w A ls) (hl : ls.length ≤ 1000) (hc : ls.length ≤ c) (R : Int × Bool) (hR : (if isL base ls then leastL 1000001 base ls 1 else (0, false)) = R) :
    Calls Tryz.prog 152 #[.int .i64 base, .slice A ls.length c] w fun e w' => e = .returned (.tuple #[.int .i64 R.1, .bool R.2]) ∧ Below w.heap.size w w' := by
  have HI := Lib.hid (is_any base A c ls w h hl)
  have HS := Lib.hid (fun w' v hb => sum_any base A c ls v w' (h.below hb) hl hc)
  clear h hc
  cases h1 : isL base ls with
  | false =>
    rw [h1] at HI hR
    have HR := Lib.hid hR
    clear h1 hR
    go_enter Tryz.func152, Tryz.ntmps152
    go_wp2
    go_step3
    go_wp2_with (go_at_call 165; refine (HI.out).mono ?_; rintro e w' ⟨rfl, hb⟩; have HB := Lib.hid hb; clear hb)
    rw [Exit.noGoto_ret]
    refine bodyPost_ret (results_tmp2 rfl _ _ _) rfl ⟨by rw [← HR.out]; rfl, HB.out⟩
  | true =>
    rw [h1] at HI hR
    rw [if_pos rfl] at hR
    have HR := Lib.hid hR
    clear h1 hR
    go_enter Tryz.func152, Tryz.ntmps152
    go_wp2
    refine scope_once 0 (LJ w A c base ls R) (fun a' _ => 1000001 - (intOf (a'.tmps.getD 6 undef)).toNat) (by rfl) ?_ ?_
    · rintro a' wr ⟨v, u2, u3, u7, u8, u9, u10, u11, u12, u13, u14, u15, u16, u17, u18, u19, u20, u21, u22, u23, u24, u25, u26, u27, hv0, hv1, hb, hf, rfl⟩
      have HSV := Lib.hid (HS.out wr v hb)
      have HB' := Lib.hid hb
      have HF := Lib.hid hf
      obtain ⟨n, hn⟩ : ∃ n, sumL base ls v = n := ⟨_, rfl⟩
      rw [hn] at HSV
      have HN := Lib.hid hn
      clear hb hf hn
      by_cases c1 : n = v
      · have c1b : (n == v) = true := by simpa using c1
        have HC := Lib.hid c1
        clear c1
        go_wp2_with (go_at_call 166; refine (HSV.out).mono ?_; rintro e w2 ⟨rfl, hb⟩; have HB2 := Lib.hid hb; clear hb)
        simp only [Exit.jump]
        refine bodyPost_ret (results_tmp2 rfl _ _ _) rfl ⟨?_, HB'.out.trans (HB2.out.mono HB'.out.size)⟩
        obtain ⟨f, hf1, hf2⟩ := HF.out
        obtain ⟨f, rfl⟩ : ∃ f', f = f' + 1 := ⟨f - 1, by omega⟩
        rw [leastL, if_pos (by rw [HN.out, HC.out])] at hf2
        rw [← hf2]
        rfl
      · have c1b : (n == v) = false := by simpa using c1
        have HC := Lib.hid c1
        by_cases c2 : n < v
        · have HC2 := Lib.hid c2
          have c2b : decide (n < v) = true := by simpa using c2
          clear c1
          go_wp2_with (go_at_call 166; refine (HSV.out).mono ?_; rintro e w2 ⟨rfl, hb⟩; have HB2 := Lib.hid hb; clear hb)
          simp only [Exit.jump]
          refine bodyPost_ret (results_tmp2 rfl _ _ _) rfl ⟨?_, HB'.out.trans (HB2.out.mono HB'.out.size)⟩
          obtain ⟨f, hf1, hf2⟩ := HF.out
          obtain ⟨f, rfl⟩ : ∃ f', f = f' + 1 := ⟨f - 1, by omega⟩
          rw [leastL, if_neg (by rw [HN.out]; exact HC.out), if_pos (by rw [HN.out]; exact .inl HC2.out)] at hf2
          rw [← hf2]
          rfl
        · have c2b : decide (n < v) = false := by simpa using c2
          by_cases c3 : 1000000 < n
          · have HC2 := Lib.hid c3
            have c3b : decide (1000000 < n) = true := by simpa using c3
            clear c1
            go_wp2_with (go_at_call 166; refine (HSV.out).mono ?_; rintro e w2 ⟨rfl, hb⟩; have HB2 := Lib.hid hb; clear hb)
            simp only [Exit.jump]
            refine bodyPost_ret (results_tmp2 rfl _ _ _) rfl ⟨?_, HB'.out.trans (HB2.out.mono HB'.out.size)⟩
            obtain ⟨f, hf1, hf2⟩ := HF.out
            obtain ⟨f, rfl⟩ : ∃ f', f = f' + 1 := ⟨f - 1, by omega⟩
            rw [leastL, if_neg (by rw [HN.out]; exact HC.out), if_pos (by rw [HN.out]; exact .inr HC2.out)] at hf2
            rw [← hf2]
            rfl
          · have c3b : decide (1000000 < n) = false := by simpa using c3
            have hlt : v < n := by omega
            have hle : n ≤ 1000000 := by omega
            have HC2 := Lib.hid c2
            have HC3 := Lib.hid c3
            clear c1 c2 c3
            go_wp2_with (go_at_call 166; refine (HSV.out).mono ?_; rintro e w2 ⟨rfl, hb⟩; have HB2 := Lib.hid hb; clear hb)
            go_step3
            refine ⟨rfl, ⟨n, _, _, _, _, _, _, _, _, _, _, _, _, _, _, _, _, _, _, _, _, _, _, _, by omega, hle, HB'.out.trans (HB2.out.mono HB'.out.size), ?_, rfl⟩, ?_⟩
            · obtain ⟨f, hf1, hf2⟩ := HF.out
              obtain ⟨f, rfl⟩ : ∃ f', f = f' + 1 := ⟨f - 1, by omega⟩
              rw [leastL, if_neg (by rw [HN.out]; exact HC.out), if_neg (by rw [HN.out]; intro h; rcases h with h | h <;> omega), HN.out] at hf2
              exact ⟨f, by omega, hf2⟩
            · show 1000001 - (intOf (.int .i64 n)).toNat < 1000001 - (intOf (.int .i64 v)).toNat
              simp only [intOf]
              omega
    · intro hp
      go_wp2_with (go_at_call 165; refine (HI.out).mono ?_; rintro e w' ⟨rfl, hb⟩; have HB := Lib.hid hb; clear hb)
      go_step3
      rename_i hk
      refine hk _ _ ?_
      refine hp.out _ _ ?_
      exact ⟨1, _, _, _, _, _, _, _, _, _, _, _, _, _, _, _, _, _, _, _, _, _, _, _, by omega, by omega, HB.out, ⟨1000001, by omega, HR.out⟩, rfl⟩
end Go.Proofs.YtdgfjpbjiccllaaGreatDoor.F
/- resp.done; block.Most of the task on top; active.Loads of the task on top. -/
namespace Go.Proofs.YtdgfjpbjiccllaaGreatDoor.F
open Go.RowKit
open Go.Proofs.YtdgfjpbjiccllaaGreatDoorW.PrintWords Go.Proofs.YtdgfjpbjiccllaaGreatDoorW.PrintLast Go.Proofs.YtdgfjpbjiccllaaGreatDoorW.PrintMore
open Go.Proofs.YtdgfjpbjiccllaaGreatDoor.PTopLoads (S212)
set_option maxRecDepth 100000
def doneL : Nat → Int → List S212 → Int → Int
  | 0, _, _, v => v
  | f + 1, base, ls, v => if (SumL base ls v).1 ≤ v then v else doneL f base ls (SumL base ls v).1
theorem SumL_out {base : Int} {ls : List S212} {v : Int} (h : 1000000 < v) : (SumL base ls v).1 = 0 := by
  unfold SumL topL
  rw [if_neg]
  simp
  omega
set_option maxHeartbeats 1000000 in
theorem done_any (base : Int) (A : Option Addr) (c : Nat) (ls : List S212) (v : Int) (h0 : 0 ≤ v) (w : World) (h : Lds w A ls) (hl : ls.length ≤ 1000) (hc : ls.length ≤ c) (R : Int) (hR : doneL 1000002 base ls v = R) :
    Calls Tryz.prog 137 #[.int .i64 base, .slice A ls.length c, .int .i64 v] w fun e w' => e = .returned (.int .i64 R) ∧ Below w.heap.size w w' := by
  have HS := Lib.hid (fun w' v hb => Sum_any base A c ls v w' (h.below hb) hl hc)
  have HR := Lib.hid hR
  clear h hR hc
  go_enter Tryz.func137, Tryz.ntmps137
  go_wp2
  go_loopw [2] (fun z wr => ∃ v : Int, z = .int .i64 v ∧ 0 ≤ v ∧ Below w.heap.size w wr ∧ ∃ f : Nat, 1000002 - v ≤ (f : Int) ∧ doneL f base ls v = R) (fun z _ => 1000002 - (intOf z).toNat)
  case atStart => exact ⟨v, rfl, h0, Below.refl _ _, 1000002, by omega, HR.out⟩
  case round =>
    obtain ⟨x, rfl, hx0, hb, f, hf, hfR⟩ := hrel
    have HSX := Lib.hid (HS.out wr x hb)
    have HB := Lib.hid hb
    have HO := Lib.hid (fun h => SumL_out (base := base) (ls := ls) (v := x) h)
    obtain ⟨⟨n, ok⟩, hn⟩ : ∃ n, SumL base ls x = n := ⟨_, rfl⟩
    rw [hn] at HSX HO
    have HN := Lib.hid hn
    have HF := Lib.hid hfR
    clear hb hn hfR
    simp only at HSX HO
    by_cases c1 : n ≤ x
    · have HC := Lib.hid c1
      go_wp2_with (go_at_call 155; refine (HSX.out).mono ?_; rintro e w2 ⟨rfl, hb⟩; have HB2 := Lib.hid hb; clear hb)
      go_ret
      refine ⟨?_, HB.out.trans (HB2.out.mono HB.out.size)⟩
      have hq := HF.out
      cases f with
      | zero => rw [← hq]; rfl
      | succ f =>
        rw [doneL, if_pos (by rw [HN.out]; exact HC.out)] at hq
        rw [← hq]
        rfl
    · have hx1 : x ≤ 1000000 := by
        rcases Int.lt_or_le 1000000 x with h | h
        · have := HO.out h; omega
        · exact h
      have hlt : x < n := by omega
      have HC := Lib.hid c1
      go_wp2_with (go_at_call 155; refine (HSX.out).mono ?_; rintro e w2 ⟨rfl, hb⟩; have HB2 := Lib.hid hb; clear hb)
      go_roundw
      case rel =>
        obtain ⟨f, rfl⟩ : ∃ f', f = f' + 1 := ⟨f - 1, by omega⟩
        have hq := HF.out
        rw [doneL, if_neg (by rw [HN.out]; show ¬ n ≤ x; omega), HN.out] at hq
        exact ⟨n, rfl, by omega, HB.out.trans (HB2.out.mono HB.out.size), f, by omega, hq⟩
      case measure => simp [intOf]; omega
/-- Nobody lower stands in the way of the only task. -/
theorem blockOf_low (rel : Int) (sv : Value) (low high : Int) (h : low ≤ high) (w : World) :
    Calls Tryz.prog 138 #[.agg #[.int .i64 rel, sv], .int .i64 low, .int .i64 high] w fun e w' => e = .returned (.int .i64 0) ∧ Below w.heap.size w w' := by
  have d : decide (low ≤ high) = true := by simpa using h
  cases d2 : decide (high < 0) with
  | true =>
    go_enter Tryz.func138, Tryz.ntmps138
    go_wp2
    go_ret
    exact ⟨rfl, (Below.refl _ _).alloc (Nat.le_refl _) _⟩
  | false =>
    go_enter Tryz.func138, Tryz.ntmps138
    go_wp2
    go_ret
    exact ⟨rfl, (Below.refl _ _).alloc (Nat.le_refl _) _⟩
set_option maxHeartbeats 1000000 in
theorem most_one (rel : Int) (A : Option Addr) (c : Nat) (w : World) :
    Calls Tryz.prog 104 #[.agg #[.int .i64 rel, .slice A 1 c], .int .i64 0] w fun e w' => e = .returned (.int .i64 0) ∧ Below w.heap.size w w' := by
  have HB1 := Lib.hid ((Below.refl w.heap.size w).alloc (Nat.le_refl _) (.cells #[.int .i64 rel, .slice A 1 c] 24))
  have HD := Lib.hid (Blk.new w 24 #[.int .i64 rel, .slice A 1 c])
  go_enter Tryz.func104, Tryz.ntmps104
  go_wp2
  go_loopw [5, 10] (fun z5 z10 wr => z5 = .int .i64 0 ∧ (z10 = .int .i64 0 ∨ z10 = .int .i64 1) ∧ Below w.heap.size w wr ∧ Blk wr w.heap.size 24 #[.int .i64 rel, .slice A 1 c]) (fun _ z10 _ => 1 - (intOf z10).toNat)
  case atStart => exact ⟨rfl, .inl rfl, HB1.out, HD.out⟩
  case round =>
    obtain ⟨rfl, h10, hb, hD⟩ := hrel
    rcases h10 with rfl | rfl
    · have c0 : wr.cell? ⟨w.heap.size, 0, none⟩ = some (.int .i64 rel) := hD.cell 0
      have c1 : wr.cell? ⟨w.heap.size, 1, none⟩ = some (.slice A 1 c) := hD.cell 1
      have hlt := hD.lt
      have HB := Lib.hid hb
      have HD2 := Lib.hid hD
      clear hb hD
      go_wp2_with (go_at_call 138; refine (blockOf_low rel (.slice A 1 c) 0 0 (Int.le_refl 0) _).mono ?_; rintro e w2 ⟨rfl, hb⟩; have HB2 := Lib.hid hb; clear hb)
      go_roundw
      case rel => exact ⟨by first | rfl | simp, .inr (by go_num), HB.out.trans (HB2.out.mono HB.out.size), HD2.out.below HB2.out hlt⟩
      case measure => simp [intOf]
    · have HB := Lib.hid hb
      clear hb hD
      go_wp2
      go_ret
      exact ⟨rfl, HB.out⟩
set_option maxHeartbeats 1000000 in
theorem loads_top (rel : Int) (A : Option Addr) (n c : Nat) (h1 : 1 ≤ n) (hnc : n ≤ c) (hn : n ≤ 8) (w : World) :
    Calls Tryz.prog 136 #[.agg #[.int .i64 rel, .slice A n c], .int .i64 0] w fun e w' => e = .returned (.slice none 0 0) ∧ Below w.heap.size w w' := by
  have HB1 := Lib.hid ((Below.refl w.heap.size w).alloc (Nat.le_refl _) (.cells #[.int .i64 rel, .slice A n c] 24))
  have d1 : decide ((n : Int) ≤ 0) = false := by simp; omega
  have d2 : ¬ (n : Int) ≤ 0 := by omega
  go_enter Tryz.func136, Tryz.ntmps136
  go_wp2
  go_loop [5, 26] (fun z5 z => z5 = .slice none 0 0 ∧ z = .int .i64 0) (fun _ _ => 0)
  case atStart => exact ⟨rfl, rfl⟩
  case round =>
    obtain ⟨rfl, rfl⟩ := hrel
    go_wp2
    go_ret
    exact ⟨rfl, HB1.out⟩
end Go.Proofs.YtdgfjpbjiccllaaGreatDoor.F
/- active.Of. -/
namespace Go.Proofs.YtdgfjpbjiccllaaGreatDoor.F
open Go.RowKit
open Go.Proofs.YtdgfjpbjiccllaaGreatDoor.X (TOk work_f nums_C)
open Go.Proofs.YtdgfjpbjiccllaaGreatDoorW.PrintWords Go.Proofs.YtdgfjpbjiccllaaGreatDoorW.PrintLast Go.Proofs.YtdgfjpbjiccllaaGreatDoorW.PrintMore
open Go.Proofs.YtdgfjpbjiccllaaGreatDoor.PTopLoads (S46 S212 task_Work.calls)
set_option maxRecDepth 100000
theorem Tryz.info212 : (Tryz.prog.info? 212).map (fun i => (i.zero, i.size, i.bytes)) = some (some (.agg #[.int .i64 0, .int .i64 0]), 2, 16) := by kernel_rfl
def lcells (ls : List S212) : List Value := ls.flatMap fun x => [.int .i64 x.f0, .int .i64 x.f1]
theorem lcells_snoc (L : List S212) (x : S212) : lcells (L ++ [x]) = lcells L ++ [.int .i64 x.f0, .int .i64 x.f1] := by simp [lcells]
theorem lcells_at : ∀ (L : List S212) (i j : Nat) (x : S212), L[i]? = some x → j < 2 → (lcells L)[i * 2 + j]? = [Value.int .i64 x.f0, .int .i64 x.f1][j]?
  | [], i, j, x, h, _ => by simp at h
  | y :: L, 0, j, x, h, hj => by
    simp at h
    subst h
    have e : lcells (y :: L) = [.int .i64 y.f0, .int .i64 y.f1] ++ lcells L := rfl
    rw [e, Nat.zero_mul, Nat.zero_add, List.getElem?_append_left (by simpa using hj)]
  | y :: L, i + 1, j, x, h, hj => by
    have e : lcells (y :: L) = [.int .i64 y.f0, .int .i64 y.f1] ++ lcells L := rfl
    rw [e, List.getElem?_append_right (by simp; omega)]
    rw [show (i + 1) * 2 + j - [Value.int .i64 y.f0, .int .i64 y.f1].length = i * 2 + j from by simp; omega]
    exact lcells_at L i j x (by simpa using h) hj
theorem lds_of_own {w : World} {B : Nat} {v : Value} {ls : List S212} (h : w.ownsRow B 212 2 v ls.length (lcells ls)) : ∃ A c, v = .slice A ls.length c ∧ ls.length ≤ c ∧ Lds w A ls := by
  rcases h.2 with ⟨rfl, h0⟩ | ⟨g, c, cur, rfl, hb, hh, hn, _, hs, ht⟩
  · exact ⟨none, 0, by rw [h0], by omega, .inl (List.length_eq_zero_iff.1 h0)⟩
  · have hB : Blk w g 212 cur := hh
    refine ⟨_, c, rfl, hn, .inr ⟨g, 0, rfl, hB.lt, fun i x hx => ?_⟩⟩
    have hi := (List.getElem?_eq_some_iff.1 hx).1
    have hc : ∀ j, j < 2 → w.cell? ⟨g, 0 + i * 2 + j, none⟩ = [Value.int .i64 x.f0, .int .i64 x.f1][j]? := fun j hj => by
      rw [Nat.zero_add, hB.cell, ← lcells_at ls i j x hx hj, ← ht, List.getElem?_take_of_lt (by omega)]
      simp
    exact ⟨hc 0 (by decide), hc 1 (by decide)⟩
/-- A set in a box, one of its tasks in memory. -/
abbrev AS (w : World) (sb : Nat) (rel : Int) (b off n c i : Nat) (x : S46) (ra : Option Addr) (rc : Nat) (w' : World) : Prop :=
  Below sb w w' ∧ Blk w' sb 24 #[.int .i64 rel, .slice (some ⟨b, off, none⟩) n c] ∧ w'.cell? ⟨sb, 0, none⟩ = some (.int .i64 rel) ∧ w'.cell? ⟨sb, 1, none⟩ = some (.slice (some ⟨b, off, none⟩) n c) ∧
    w'.cell? ⟨b, off + i * 9, none⟩ = some (.string x.f0) ∧ w'.cell? ⟨b, off + i * 9 + 1, none⟩ = some (.int .i64 x.f1) ∧ w'.cell? ⟨b, off + i * 9 + 2, none⟩ = some (.int .i64 x.f2) ∧ w'.cell? ⟨b, off + i * 9 + 3, none⟩ = some (.int .i64 x.f3) ∧
    w'.cell? ⟨b, off + i * 9 + 4, none⟩ = some (.int .i64 x.f4) ∧ w'.cell? ⟨b, off + i * 9 + 5, none⟩ = some (.int .i64 x.f5) ∧ w'.cell? ⟨b, off + i * 9 + 6, none⟩ = some (.slice ra x.f6.length rc) ∧ w'.cell? ⟨b, off + i * 9 + 7, none⟩ = some (.int .u64 x.f7) ∧ w'.cell? ⟨b, off + i * 9 + 8, none⟩ = some (.int .u64 x.f8)
theorem as_next {w w1 w2 : World} {sb b off n c i rc : Nat} {rel : Int} {x : S46} {ra : Option Addr} (h : AS w sb rel b off n c i x ra rc w1) (hb : Below w1.heap.size w1 w2) (hbw : b < w.heap.size) : AS w sb rel b off n c i x ra rc w2 := by
  have hbl : b < w1.heap.size := Nat.lt_of_lt_of_le hbw h.1.size
  obtain ⟨h1, h2, h3, h4, g0, g1, g2, g3, g4, g5, g6, g7, g8⟩ := h
  have hs := h2.lt
  exact ⟨h1.trans (hb.mono (Nat.le_of_lt hs)), h2.below hb hs, (hb.cell (p := ⟨sb, 0, none⟩) hs).trans h3, (hb.cell (p := ⟨sb, 1, none⟩) hs).trans h4, (hb.cell (p := ⟨b, _, none⟩) hbl).trans g0, (hb.cell (p := ⟨b, _, none⟩) hbl).trans g1, (hb.cell (p := ⟨b, _, none⟩) hbl).trans g2, (hb.cell (p := ⟨b, _, none⟩) hbl).trans g3, (hb.cell (p := ⟨b, _, none⟩) hbl).trans g4, (hb.cell (p := ⟨b, _, none⟩) hbl).trans g5, (hb.cell (p := ⟨b, _, none⟩) hbl).trans g6, (hb.cell (p := ⟨b, _, none⟩) hbl).trans g7, (hb.cell (p := ⟨b, _, none⟩) hbl).trans g8⟩
theorem as_drew {w w1 : World} {sb b off n c i rc : Nat} {rel : Int} {x : S46} {ra : Option Addr} (h : AS w sb rel b off n c i x ra rc w1) : AS w sb rel b off n c i x ra rc w1.drew :=
  ⟨h.1.drew, h.2.1, h.2.2⟩
theorem as_grown {w w1 w2 : World} {sb b off n c i rc : Nat} {rel : Int} {x : S46} {ra : Option Addr} {row : Option Nat} (h : AS w sb rel b off n c i x ra rc w1) (hg : w1.grownBy w2 row) (hr : ∀ g, row = some g → sb < g ∧ b < g) : AS w sb rel b off n c i x ra rc w2 := by
  obtain ⟨h1, h2, h3, h4, g0, g1, g2, g3, g4, g5, g6, g7, g8⟩ := h
  have e1 : ∀ j, some (⟨sb, j, none⟩ : Addr).block ≠ row := fun j e => by have := (hr sb e.symm).1; omega
  have e2 : ∀ j, some (⟨b, j, none⟩ : Addr).block ≠ row := fun j e => by have := (hr b e.symm).2; omega
  exact ⟨h1.grown hg (Nat.le_of_lt h2.lt) (fun k hk => by have := (hr k hk).1; omega), h2.grown hg (e1 0), hg.cell h3 (e1 _), hg.cell h4 (e1 _), hg.cell g0 (e2 _), hg.cell g1 (e2 _), hg.cell g2 (e2 _), hg.cell g3 (e2 _), hg.cell g4 (e2 _), hg.cell g5 (e2 _), hg.cell g6 (e2 _), hg.cell g7 (e2 _), hg.cell g8 (e2 _)⟩
theorem own_below {w w' : World} {B e size n : Nat} {v : Value} {xs : List Value} (h : w.ownsRow B e size v n xs) (hb : Below w.heap.size w w') : w'.ownsRow B e size v n xs := own_fr (E := 0) (ts := []) (B := 0) h (Fr.of_below hb) (by simp)
set_option maxHeartbeats 16000000 in
theorem activeOf_any {rel : Int} {b off n c i : Nat} {x : S46} {blk : Int} {ls : List S212} {R : Int × Bool} (w : World) (hi : i < n) (hx : TOk x i) (hls : ls.length ≤ 100)
    (hbw : b < w.heap.size) (ra : Option Addr) (rc : Nat) (hrc : x.f6.length ≤ rc)
    (hc : w.cell? ⟨b, off + i * 9, none⟩ = some (.string x.f0) ∧ w.cell? ⟨b, off + i * 9 + 1, none⟩ = some (.int .i64 x.f1) ∧ w.cell? ⟨b, off + i * 9 + 2, none⟩ = some (.int .i64 x.f2) ∧ w.cell? ⟨b, off + i * 9 + 3, none⟩ = some (.int .i64 x.f3) ∧
      w.cell? ⟨b, off + i * 9 + 4, none⟩ = some (.int .i64 x.f4) ∧ w.cell? ⟨b, off + i * 9 + 5, none⟩ = some (.int .i64 x.f5) ∧ w.cell? ⟨b, off + i * 9 + 6, none⟩ = some (.slice ra x.f6.length rc) ∧ w.cell? ⟨b, off + i * 9 + 7, none⟩ = some (.int .u64 x.f7) ∧ w.cell? ⟨b, off + i * 9 + 8, none⟩ = some (.int .u64 x.f8))
    (hN : Nums w ra x.f6)
    (hL : ∀ w', Below w.heap.size w w' → Calls Tryz.prog 136 #[.agg #[.int .i64 rel, .slice (some ⟨b, off, none⟩) n c], .int .i64 i] w' fun e w2 => ∃ lv, e = .returned lv ∧ w2.ownsRow w'.heap.size 212 2 lv ls.length (lcells ls) ∧ Below w'.heap.size w' w2)
    (hR : (if isL blk (ls ++ [⟨x.f1, x.f6.sum⟩]) then leastL 1000001 blk (ls ++ [⟨x.f1, x.f6.sum⟩]) 1 else (0, false)) = R) :
    Calls Tryz.prog 135 #[.agg #[.int .i64 rel, .slice (some ⟨b, off, none⟩) n c], .int .i64 i, .int .i64 blk] w fun e w' => e = .returned (.tuple #[.int .i64 R.1, .bool R.2]) ∧ Below w.heap.size w w' := by
  obtain ⟨i0, hi0, hz0, hz1, hz2⟩ := info_parts Tryz.info212
  have Hz0 := Lib.hid hz0; clear hz0
  have Hz1 := Lib.hid hz1; clear hz1
  have Hz2 := Lib.hid hz2; clear hz2
  have Hi := Lib.hid hi0; clear hi0
  obtain ⟨sb, hsb⟩ : ∃ sb, w.heap.size = sb := ⟨_, rfl⟩
  have HSB := Lib.hid hsb
  have HL := Lib.hid hL
  have HR := Lib.hid hR
  have HW := Lib.hid (fun w' (hb : Below w.heap.size w w') => task_Work.calls 9 x.f0 x.f1 x.f2 x.f3 x.f4 x.f5 ra rc x.f6 x.f7 x.f8 _ w' (nums_C (hN.below hb) (by have := hx.r8; omega)) hrc (work_f x hx))
  have hb1 := (Below.refl w.heap.size w).alloc (Nat.le_refl _) (.cells #[.int .i64 rel, .slice (some ⟨b, off, none⟩) n c] 24)
  have S1 : AS w w.heap.size rel b off n c i x ra rc (w.alloc (.cells #[.int .i64 rel, .slice (some ⟨b, off, none⟩) n c] 24)) := by
    obtain ⟨g0, g1, g2, g3, g4, g5, g6, g7, g8⟩ := hc
    have D := Blk.new w 24 #[.int .i64 rel, .slice (some ⟨b, off, none⟩) n c]
    exact ⟨hb1, D, D.cell 0, D.cell 1, (hb1.cell (p := ⟨b, _, none⟩) hbw).trans g0, (hb1.cell (p := ⟨b, _, none⟩) hbw).trans g1, (hb1.cell (p := ⟨b, _, none⟩) hbw).trans g2, (hb1.cell (p := ⟨b, _, none⟩) hbw).trans g3, (hb1.cell (p := ⟨b, _, none⟩) hbw).trans g4, (hb1.cell (p := ⟨b, _, none⟩) hbw).trans g5, (hb1.cell (p := ⟨b, _, none⟩) hbw).trans g6, (hb1.cell (p := ⟨b, _, none⟩) hbw).trans g7, (hb1.cell (p := ⟨b, _, none⟩) hbw).trans g8⟩
  have d1 : decide ((i : Int) < 0) = false := by simp
  have d2 : decide ((n : Int) ≤ (i : Int)) = false := by simp; omega
  have d3 : ¬ (i : Int) < 0 := by omega
  have d4 : ¬ (n : Int) ≤ (i : Int) := by omega
  clear hc hN hL hR hb1 hsb hx hrc
  go_enter Tryz.func135, Tryz.ntmps135
  go_upto_region 3 with fail
  obtain ⟨ls2, hls2⟩ : ∃ l2, ls ++ [(⟨x.f1, x.f6.sum⟩ : S212)] = l2 := ⟨_, rfl⟩
  have HL2 := Lib.hid hls2
  have hlen2 : Hid (ls2.length = ls.length + 1) := by unfold Hid; rw [← hls2]; simp
  rw [hls2] at HR
  obtain ⟨w1, hw1⟩ : ∃ w1, w.alloc (.cells #[.int .i64 rel, .slice (some ⟨b, off, none⟩) n c] 24) = w1 := ⟨_, rfl⟩
  rw [hw1] at S1 ⊢
  rw [HSB.out] at S1 ⊢
  have S1' := as_drew S1
  have h64 : ls2.length ≤ 1000 := by have := hlen2.out; omega
  have H2 : Hid (∀ u ∈ [Value.int .i64 x.f1, .int .i64 x.f6.sum], u.oneCell' = true) := by
    intro u hu
    simp at hu
    rcases hu with rfl | rfl <;> rfl
  have H3 : Hid (ls.length + 1 ≤ maxLen) := by unfold Hid maxLen; omega
  have H4 : Hid ((ls.length + 1) * 16 ≤ 140737488355328) := by unfold Hid; omega
  have HMK : Hid (∀ (B : Nat) (v : Value) (w' : World), w'.ownsRow B 212 2 v (ls.length + 1) (lcells ls ++ [.int .i64 x.f1, .int .i64 x.f6.sum]) → w'.ownsRow B 212 2 v ls2.length (lcells ls2)) := by
    intro B v w' h
    rw [hlen2.out, ← HL2.out, lcells_snoc]
    exact h
  have hsl := S1.2.1.lt
  have HGG : Hid (∀ g, w1.drew.heap.size ≤ g → sb < g ∧ b < g) := by
    intro g hg
    have : w1.heap.size ≤ g := hg
    rw [HSB.out] at hbw
    exact ⟨by omega, by omega⟩
  clear hls2 hw1
  go_region_held3 (fun w' => Below sb w w' ∧ Blk w' sb 24 #[.int .i64 rel, .slice (some ⟨b, off, none⟩) n c] ∧ w'.cell? ⟨sb, 0, none⟩ = some (.int .i64 rel) ∧ w'.cell? ⟨sb, 1, none⟩ = some (.slice (some ⟨b, off, none⟩) n c) ∧ w'.cell? ⟨b, off + i * 9, none⟩ = some (.string x.f0) ∧ w'.cell? ⟨b, off + i * 9 + 1, none⟩ = some (.int .i64 x.f1) ∧ w'.cell? ⟨b, off + i * 9 + 2, none⟩ = some (.int .i64 x.f2) ∧ w'.cell? ⟨b, off + i * 9 + 3, none⟩ = some (.int .i64 x.f3) ∧ w'.cell? ⟨b, off + i * 9 + 4, none⟩ = some (.int .i64 x.f4) ∧ w'.cell? ⟨b, off + i * 9 + 5, none⟩ = some (.int .i64 x.f5) ∧ w'.cell? ⟨b, off + i * 9 + 6, none⟩ = some (.slice ra x.f6.length rc) ∧ w'.cell? ⟨b, off + i * 9 + 7, none⟩ = some (.int .u64 x.f7) ∧ w'.cell? ⟨b, off + i * 9 + 8, none⟩ = some (.int .u64 x.f8)) (first | assumption | (refine as_drew ?_; assumption) | (refine as_next (by assumption) ((Below.refl _ _).alloc (Nat.le_refl _) _) hbw)) (first | (go_at_call 136; refine (HL.out _ (by rw [HSB.out]; exact And.left (‹Below sb w _ ∧ _›))).mono ?_; rintro e w2 ⟨lv, rfl, hown, hb⟩; have hS2 := as_next (by assumption) hb hbw; have HO2 := Lib.hid hown; have HB2 := Lib.hid hb; clear hown hb) | (go_at_call 65; refine (HW.out _ (by rw [HSB.out]; exact And.left (‹Below sb w _ ∧ _›))).mono ?_; rintro e w3 ⟨rfl, hb⟩; have hS3 := as_next (by assumption) hb hbw; have HO3 := Lib.hid (own_below HO2.out hb); have HB3 := Lib.hid hb; have HOA := Lib.hid (HO3.out.alloc (.cells #[.int .i64 x.f1, .int .i64 x.f6.sum] 212)); have H1 : Hid (∀ j u, [Value.int .i64 x.f1, .int .i64 x.f6.sum][j]? = some u → (w3.alloc (.cells #[.int .i64 x.f1, .int .i64 x.f6.sum] 212)).cell? ((⟨w3.heap.size, 0, none⟩ : Addr).add j) = some u) := cells_new (l := [Value.int .i64 x.f1, .int .i64 x.f6.sum]); have H5 : Hid (w2.heap.size ≤ (w3.alloc (.cells #[.int .i64 x.f1, .int .i64 x.f6.sum] 212)).heap.size) := Nat.le_trans hb.size (Nat.le_of_lt (by simp)); clear hb) | (refine step_append_own_at rfl (.tmp 20) (.tmp 34) 194 rfl _ 212 i0 _ 2 16 Tryz.underlying194 Hi.out Hz0.out Hz1.out Hz2.out rfl (Nat.succ_pos 1) _ ls.length (lcells ls) rfl HOA.out ⟨w3.heap.size, 0, none⟩ 1 1 [.int .i64 x.f1, .int .i64 x.f6.sum] rfl rfl H1.out H2.out H3.out H4.out (Nat.le_trans HB2.out.size H5.out) ?_; intro v' w4 own gr _ _; obtain ⟨LA, lc, rfl, hlc, hld⟩ := lds_of_own (HMK.out _ _ _ own); have hS4 := as_grown (as_next (by assumption) ((Below.refl _ _).alloc (Nat.le_refl _) (.cells #[.int .i64 x.f1, .int .i64 x.f6.sum] 212)) hbw) gr (fun g hg => HGG.out _ (HOA.out.lt g hg).1); have HLE := Lib.hid (Least_any blk LA lc ls2 w4 hld h64 hlc R HR.out); have hlc2 := Lib.hid hlc; clear own gr hlc hld) | (go_at_call 152; refine (HLE.out).mono ?_; rintro e w5 ⟨rfl, hb⟩; have hS5 := as_next (by assumption) hb hbw; clear hb))
  go_wp2_with fail
  go_ret2
  exact ⟨rfl, by rw [HSB.out]; exact And.left (‹Below sb w _ ∧ _›)⟩
end Go.Proofs.YtdgfjpbjiccllaaGreatDoor.F
/- resp.With, resp.Of of a task alone. -/
namespace Go.Proofs.YtdgfjpbjiccllaaGreatDoor.F
open Go.RowKit
open Go.Proofs.YtdgfjpbjiccllaaGreatDoor.X (TOk work_f nums_C)
open Go.Proofs.YtdgfjpbjiccllaaGreatDoorW.PrintWords Go.Proofs.YtdgfjpbjiccllaaGreatDoorW.PrintLast Go.Proofs.YtdgfjpbjiccllaaGreatDoorW.PrintMore
open Go.Proofs.YtdgfjpbjiccllaaGreatDoor.PTopLoads (S46 S212 task_Work.calls)
set_option maxRecDepth 100000
/-- The task of the law's own set. -/
def xA : S46 := ⟨⟨#[97]⟩, 5, 5, 0, 0, 0, [2], 0, 0⟩
theorem least_hit {base v : Int} {ls : List S212} (f : Nat) (h : sumL base ls v = v) : leastL (f + 1) base ls v = (v, true) := by rw [leastL, if_pos h]
theorem least_go {base v n : Int} {ls : List S212} (f : Nat) (h : sumL base ls v = n) (h1 : ¬ n = v) (h2 : ¬ (n < v ∨ 1000000 < n)) : leastL (f + 1) base ls v = leastL f base ls n := by
  rw [leastL, h, if_neg h1, if_neg h2]
theorem least_A : (if isL 0 ([] ++ [(⟨5, [(2 : Int)].sum⟩ : S212)]) then leastL 1000001 0 ([] ++ [⟨5, [(2 : Int)].sum⟩]) 1 else (0, false)) = (2, true) := by
  rw [if_pos (by decide)]
  rw [show (1000001 : Nat) = 1000000 + 1 from rfl, least_go (n := 2) 1000000 (by kernel_rfl) (by decide) (by decide), show (1000000 : Nat) = 999999 + 1 from rfl, least_hit 999999 (by kernel_rfl)]
theorem done_A : doneL 1000002 2 [] 1 = 2 := by
  rw [show (1000002 : Nat) = 1000001 + 1 from rfl, doneL, if_neg (by decide), show (SumL 2 [] 1).1 = 2 from by kernel_rfl, show (1000001 : Nat) = 1000000 + 1 from rfl, doneL, if_pos (by decide)]
theorem taskA_f : Go.Proofs.YtdgfjpbjiccllaaGreatDoor.PTopLoads.task_Work.f 9 xA.f0 xA.f1 xA.f2 xA.f3 xA.f4 xA.f5 xA.f6 xA.f7 xA.f8 = some 2 := by kernel_rfl
abbrev A0 (w : World) (sb b off c : Nat) (x : S46) (ra : Option Addr) (rc : Nat) (w' : World) : Prop :=
  Below sb w w' ∧ Blk w' sb 24 #[.int .i64 0, .slice (some ⟨b, off, none⟩) 1 c] ∧ w'.cell? ⟨sb, 0, none⟩ = some (.int .i64 0) ∧ w'.cell? ⟨sb, 1, none⟩ = some (.slice (some ⟨b, off, none⟩) 1 c) ∧ w'.cell? ⟨b, off, none⟩ = some (.string x.f0) ∧ w'.cell? ⟨b, off + 1, none⟩ = some (.int .i64 x.f1) ∧ w'.cell? ⟨b, off + 2, none⟩ = some (.int .i64 x.f2) ∧ w'.cell? ⟨b, off + 3, none⟩ = some (.int .i64 x.f3) ∧ w'.cell? ⟨b, off + 4, none⟩ = some (.int .i64 x.f4) ∧ w'.cell? ⟨b, off + 5, none⟩ = some (.int .i64 x.f5) ∧ w'.cell? ⟨b, off + 6, none⟩ = some (.slice ra x.f6.length rc) ∧ w'.cell? ⟨b, off + 7, none⟩ = some (.int .u64 x.f7) ∧ w'.cell? ⟨b, off + 8, none⟩ = some (.int .u64 x.f8)
theorem a0_next {w w1 w2 : World} {sb b off c rc : Nat} {x : S46} {ra : Option Addr} (h : A0 w sb b off c x ra rc w1) (hb : Below w1.heap.size w1 w2) (hbw : b < w.heap.size) : A0 w sb b off c x ra rc w2 := by
  have hbl : b < w1.heap.size := Nat.lt_of_lt_of_le hbw h.1.size
  obtain ⟨h1, h2, h3, h4, g0, g1, g2, g3, g4, g5, g6, g7, g8⟩ := h
  have hs := h2.lt
  exact ⟨h1.trans (hb.mono (Nat.le_of_lt hs)), h2.below hb hs, (hb.cell (p := ⟨sb, 0, none⟩) hs).trans h3, (hb.cell (p := ⟨sb, 1, none⟩) hs).trans h4, (hb.cell (p := ⟨b, _, none⟩) hbl).trans g0, (hb.cell (p := ⟨b, _, none⟩) hbl).trans g1, (hb.cell (p := ⟨b, _, none⟩) hbl).trans g2, (hb.cell (p := ⟨b, _, none⟩) hbl).trans g3, (hb.cell (p := ⟨b, _, none⟩) hbl).trans g4, (hb.cell (p := ⟨b, _, none⟩) hbl).trans g5, (hb.cell (p := ⟨b, _, none⟩) hbl).trans g6, (hb.cell (p := ⟨b, _, none⟩) hbl).trans g7, (hb.cell (p := ⟨b, _, none⟩) hbl).trans g8⟩
theorem a0_set {w w1 : World} {sb b off c rc : Nat} {x : S46} {ra : Option Addr} (h : A0 w sb b off c x ra rc w1) {tk : Nat} (h1' : sb < tk) (h2' : b < tk) (j : Nat) (u : Value) : A0 w sb b off c x ra rc (w1.setCell ⟨tk, j, none⟩ u) := by
  obtain ⟨h1, h2, h3, h4, g0, g1, g2, g3, g4, g5, g6, g7, g8⟩ := h
  have e1 : ∀ k, (w1.setCell ⟨tk, j, none⟩ u).cell? ⟨sb, k, none⟩ = w1.cell? ⟨sb, k, none⟩ := fun k => World.cell?_of_block (w := w1) (Below.heap_setCell w1 ⟨tk, j, none⟩ u sb (by show sb ≠ tk; omega))
  have e2 : ∀ k, (w1.setCell ⟨tk, j, none⟩ u).cell? ⟨b, k, none⟩ = w1.cell? ⟨b, k, none⟩ := fun k => World.cell?_of_block (w := w1) (Below.heap_setCell w1 ⟨tk, j, none⟩ u b (by show b ≠ tk; omega))
  exact ⟨h1.setCell (by show sb ≤ tk; omega) _, h2.far (by show sb ≠ tk; omega) _, (e1 _).trans h3, (e1 _).trans h4, (e2 _).trans g0, (e2 _).trans g1, (e2 _).trans g2, (e2 _).trans g3, (e2 _).trans g4, (e2 _).trans g5, (e2 _).trans g6, (e2 _).trans g7, (e2 _).trans g8⟩
theorem a0_drew {w w1 : World} {sb b off c rc : Nat} {x : S46} {ra : Option Addr} (h : A0 w sb b off c x ra rc w1) : A0 w sb b off c x ra rc w1.drew := ⟨h.1.drew, h.2.1, h.2.2⟩
set_option maxHeartbeats 16000000 in
theorem with_A {b off c : Nat} (w : World) (hc1 : 1 ≤ c) (hx : TOk xA 0) (hbw : b < w.heap.size) (ra : Option Addr) (rc : Nat) (hrc : 1 ≤ rc)
    (hc : w.cell? ⟨b, off + 0 * 9, none⟩ = some (.string xA.f0) ∧ w.cell? ⟨b, off + 0 * 9 + 1, none⟩ = some (.int .i64 xA.f1) ∧ w.cell? ⟨b, off + 0 * 9 + 2, none⟩ = some (.int .i64 xA.f2) ∧ w.cell? ⟨b, off + 0 * 9 + 3, none⟩ = some (.int .i64 xA.f3) ∧
      w.cell? ⟨b, off + 0 * 9 + 4, none⟩ = some (.int .i64 xA.f4) ∧ w.cell? ⟨b, off + 0 * 9 + 5, none⟩ = some (.int .i64 xA.f5) ∧ w.cell? ⟨b, off + 0 * 9 + 6, none⟩ = some (.slice ra xA.f6.length rc) ∧ w.cell? ⟨b, off + 0 * 9 + 7, none⟩ = some (.int .u64 xA.f7) ∧ w.cell? ⟨b, off + 0 * 9 + 8, none⟩ = some (.int .u64 xA.f8))
    (hN : Nums w ra xA.f6) :
    Calls Tryz.prog 103 #[.agg #[.int .i64 0, .slice (some ⟨b, off, none⟩) 1 c], .int .i64 0, .int .i64 0] w fun e w' => e = .returned (.tuple #[.int .i64 2, .int .i64 1]) ∧ Below w.heap.size w w' := by
  have hb1 := (Below.refl w.heap.size w).alloc (Nat.le_refl _) (.cells #[.int .i64 0, .slice (some ⟨b, off, none⟩) 1 c] 24)
  have hcb : ∀ w', Below w.heap.size w w' → w'.cell? ⟨b, off + 0 * 9, none⟩ = some (.string xA.f0) ∧ w'.cell? ⟨b, off + 0 * 9 + 1, none⟩ = some (.int .i64 xA.f1) ∧ w'.cell? ⟨b, off + 0 * 9 + 2, none⟩ = some (.int .i64 xA.f2) ∧ w'.cell? ⟨b, off + 0 * 9 + 3, none⟩ = some (.int .i64 xA.f3) ∧
      w'.cell? ⟨b, off + 0 * 9 + 4, none⟩ = some (.int .i64 xA.f4) ∧ w'.cell? ⟨b, off + 0 * 9 + 5, none⟩ = some (.int .i64 xA.f5) ∧ w'.cell? ⟨b, off + 0 * 9 + 6, none⟩ = some (.slice ra xA.f6.length rc) ∧ w'.cell? ⟨b, off + 0 * 9 + 7, none⟩ = some (.int .u64 xA.f7) ∧ w'.cell? ⟨b, off + 0 * 9 + 8, none⟩ = some (.int .u64 xA.f8) := by
    intro w' hb
    obtain ⟨g0, g1, g2, g3, g4, g5, g6, g7, g8⟩ := hc
    exact ⟨(hb.cell (p := ⟨b, _, none⟩) hbw).trans g0, (hb.cell (p := ⟨b, _, none⟩) hbw).trans g1, (hb.cell (p := ⟨b, _, none⟩) hbw).trans g2, (hb.cell (p := ⟨b, _, none⟩) hbw).trans g3, (hb.cell (p := ⟨b, _, none⟩) hbw).trans g4, (hb.cell (p := ⟨b, _, none⟩) hbw).trans g5, (hb.cell (p := ⟨b, _, none⟩) hbw).trans g6, (hb.cell (p := ⟨b, _, none⟩) hbw).trans g7, (hb.cell (p := ⟨b, _, none⟩) hbw).trans g8⟩
  have HOF := Lib.hid (activeOf_any (rel := 0) (n := 1) (c := c) (i := 0) (blk := 0) (ls := []) (R := (2, true)) (w.alloc (.cells #[.int .i64 0, .slice (some ⟨b, off, none⟩) 1 c] 24)) (by omega) hx (by simp) (Nat.lt_of_lt_of_le hbw hb1.size) ra rc hrc (hcb _ hb1) (hN.below hb1)
    (fun w' hb => by
      refine (loads_top 0 (some ⟨b, off, none⟩) 1 c (by omega) hc1 (by omega) w').mono ?_
      rintro e w2 ⟨rfl, h⟩
      exact ⟨_, rfl, World.ownsRow_nil _ _ _ _, h⟩) least_A)
  have HLT := Lib.hid (fun w' => loads_top 0 (some ⟨b, off, none⟩) 1 c (by omega) hc1 (by omega) w')
  have HWK := Lib.hid (fun w' (hb : Below w.heap.size w w') => task_Work.calls 9 xA.f0 xA.f1 xA.f2 xA.f3 xA.f4 xA.f5 ra rc xA.f6 xA.f7 xA.f8 2 w' (nums_C (hN.below hb) (by decide)) hrc taskA_f)
  have HD := Lib.hid (Blk.new w 24 #[.int .i64 0, .slice (some ⟨b, off, none⟩) 1 c])
  have HB1 := Lib.hid hb1
  have HCB := Lib.hid hcb
  obtain ⟨sb, hsb⟩ : ∃ sb, w.heap.size = sb := ⟨_, rfl⟩
  have HSB := Lib.hid hsb
  clear hc hN hb1 hcb hsb hx hc1
  go_enter Tryz.func103, Tryz.ntmps103
  go_upto_region 4 with (go_at_call 135; refine (HOF.out).mono ?_; rintro e w2 ⟨rfl, hb⟩; have HB2 := Lib.hid hb; have HD2 := Lib.hid (HD.out.below hb (by simp)); clear hb)
  have hb2 : Below w.heap.size w w2 := HB1.out.trans (HB2.out.mono (by simp))
  have S2 : A0 w sb b off c xA ra rc w2 := by
    obtain ⟨g0, g1, g2, g3, g4, g5, g6, g7, g8⟩ := HCB.out w2 hb2
    have D := HD2.out
    rw [HSB.out] at D hb2
    simp only [Nat.zero_mul, Nat.add_zero] at g0 g1 g2 g3 g4 g5 g6 g7 g8
    exact ⟨hb2, D, D.cell 0, D.cell 1, g0, g1, g2, g3, g4, g5, g6, g7, g8⟩
  rw [HSB.out]
  have S2' := a0_drew S2
  have hs1 : sb < w2.heap.size := S2.2.1.lt
  have hs2 : b < w2.heap.size := Nat.lt_of_lt_of_le hbw S2.1.size
  clear hb2
  go_cut [10, 11] (fun s10 s11 wx => ∃ tk : Nat, s10 = .pointer (some ⟨tk, 0, none⟩) ∧ s11 = .slice none 0 0 ∧ Blk wx tk 46 #[.string xA.f0, .int .i64 xA.f1, .int .i64 xA.f2, .int .i64 xA.f3, .int .i64 xA.f4, .int .i64 xA.f5, .slice ra xA.f6.length rc, .int .u64 xA.f7, .int .u64 xA.f8] ∧ Below sb w wx)
  case first =>
    go_region_held3 (fun w' => Below sb w w' ∧ Blk w' sb 24 #[.int .i64 0, .slice (some ⟨b, off, none⟩) 1 c] ∧ w'.cell? ⟨sb, 0, none⟩ = some (.int .i64 0) ∧ w'.cell? ⟨sb, 1, none⟩ = some (.slice (some ⟨b, off, none⟩) 1 c) ∧ w'.cell? ⟨b, off, none⟩ = some (.string xA.f0) ∧ w'.cell? ⟨b, off + 1, none⟩ = some (.int .i64 xA.f1) ∧ w'.cell? ⟨b, off + 2, none⟩ = some (.int .i64 xA.f2) ∧ w'.cell? ⟨b, off + 3, none⟩ = some (.int .i64 xA.f3) ∧ w'.cell? ⟨b, off + 4, none⟩ = some (.int .i64 xA.f4) ∧ w'.cell? ⟨b, off + 5, none⟩ = some (.int .i64 xA.f5) ∧ w'.cell? ⟨b, off + 6, none⟩ = some (.slice ra xA.f6.length rc) ∧ w'.cell? ⟨b, off + 7, none⟩ = some (.int .u64 xA.f7) ∧ w'.cell? ⟨b, off + 8, none⟩ = some (.int .u64 xA.f8)) (first | (with_reducible assumption) | (with_reducible refine a0_drew ?_; with_reducible assumption) | (with_reducible refine a0_set (a0_set (a0_set (a0_set (a0_set (a0_set (a0_set (a0_set (a0_set ?_ hs1 hs2 _ _) hs1 hs2 _ _) hs1 hs2 _ _) hs1 hs2 _ _) hs1 hs2 _ _) hs1 hs2 _ _) hs1 hs2 _ _) hs1 hs2 _ _) hs1 hs2 _ _; with_reducible assumption) | (with_reducible refine a0_next (by with_reducible assumption) ((Below.refl _ _).alloc (Nat.le_refl _) _) hbw)) ((go_at_call 136; refine (HLT.out _).mono ?_; rintro e w3 ⟨rfl, hb⟩; have hS3 := a0_next (by assumption) hb hbw; have hcl := fun (g j : Nat) h => hb.cell (p := ⟨g, j, none⟩) h; have hfr := fun (g j : Nat) h => hb.frozen (p := ⟨g, j, none⟩) h; simp only at hcl hfr; have HB3 := Lib.hid hb; clear hb))
    all_goals go_wp2_with fail
    all_goals go_meet
    · exact ⟨w3.heap.size, rfl, rfl, Blk.new w3 46 _, hS3.1.alloc (Nat.le_of_lt hS3.2.1.lt) _⟩
    · exact ⟨w2.heap.size, rfl, rfl, ((((((((((Blk.below (Blk.new w2.drew 46 #[.string ⟨#[]⟩, .int .i64 0, .int .i64 0, .int .i64 0, .int .i64 0, .int .i64 0, .slice none 0 0, .int .u64 0, .int .u64 0]) HB3.out (Blk.lt (Blk.new w2.drew 46 #[.string ⟨#[]⟩, .int .i64 0, .int .i64 0, .int .i64 0, .int .i64 0, .int .i64 0, .slice none 0 0, .int .u64 0, .int .u64 0]))).set_ 0 (.string xA.f0)).set_ 1 (.int .i64 xA.f1)).set_ 2 (.int .i64 xA.f2)).set_ 3 (.int .i64 xA.f3)).set_ 4 (.int .i64 xA.f4)).set_ 5 (.int .i64 xA.f5)).set_ 6 (.slice ra xA.f6.length rc)).set_ 7 (.int .u64 xA.f7)).set_ 8 (.int .u64 xA.f8)), (((((((((hS3.1.setCell (Nat.le_of_lt hs1) _).setCell (Nat.le_of_lt hs1) _).setCell (Nat.le_of_lt hs1) _).setCell (Nat.le_of_lt hs1) _).setCell (Nat.le_of_lt hs1) _).setCell (Nat.le_of_lt hs1) _).setCell (Nat.le_of_lt hs1) _).setCell (Nat.le_of_lt hs1) _).setCell (Nat.le_of_lt hs1) _)⟩
  case rest =>
    obtain ⟨tk, rfl, rfl, hT, hbx⟩ := hcut
    have hT2 : Blk wc tk 46 #[.string ⟨#[97]⟩, .int .i64 5, .int .i64 5, .int .i64 0, .int .i64 0, .int .i64 0, .slice ra 1 rc, .int .u64 0, .int .u64 0] := hT
    have HWK2 : Hid (∀ w', Below w.heap.size w w' → Calls Tryz.prog 65 #[.agg #[.string ⟨#[97]⟩, .int .i64 5, .int .i64 5, .int .i64 0, .int .i64 0, .int .i64 0, .slice ra 1 rc, .int .u64 0, .int .u64 0]] w' fun e w2 => e = .returned (.int .i64 2) ∧ Below w'.heap.size w' w2) := HWK.out
    have HT := Lib.hid hT2
    have HBX := Lib.hid hbx
    have c0 : wc.cell? ⟨tk, 0, none⟩ = some (.string ⟨#[97]⟩) := hT2.cell 0
    have c1 : wc.cell? ⟨tk, 1, none⟩ = some (.int .i64 5) := hT2.cell 1
    have c2 : wc.cell? ⟨tk, 2, none⟩ = some (.int .i64 5) := hT2.cell 2
    have c3 : wc.cell? ⟨tk, 3, none⟩ = some (.int .i64 0) := hT2.cell 3
    have c4 : wc.cell? ⟨tk, 4, none⟩ = some (.int .i64 0) := hT2.cell 4
    have c5 : wc.cell? ⟨tk, 5, none⟩ = some (.int .i64 0) := hT2.cell 5
    have c6 : wc.cell? ⟨tk, 6, none⟩ = some (.slice ra 1 rc) := hT2.cell 6
    have c7 : wc.cell? ⟨tk, 7, none⟩ = some (.int .u64 0) := hT2.cell 7
    have c8 : wc.cell? ⟨tk, 8, none⟩ = some (.int .u64 0) := hT2.cell 8
    have htl := hT2.lt
    have HDN := Lib.hid (fun w' => done_any 2 none 0 [] 1 (by omega) w' (.inl rfl) (by simp) (by simp) 2 done_A)
    clear hT hT2 hbx S2 S2' hs1 hs2 HWK HCB HOF HLT HD HB2 HD2 HB1
    go_wp2_with (go_at_call 65; refine (HWK2.out _ (by rw [HSB.out]; exact HBX.out)).mono ?_; rintro e w5 ⟨rfl, hb⟩; have HB5 := Lib.hid hb; have d1 : w5.cell? ⟨tk, 1, none⟩ = some (.int .i64 5) := (HT.out.below hb htl).cell 1; have d2 : w5.cell? ⟨tk, 2, none⟩ = some (.int .i64 5) := (HT.out.below hb htl).cell 2; have htl5 := (HT.out.below hb htl).lt; clear hb)
    have HB6 := Lib.hid (HBX.out.trans (HB5.out.mono (by have := HBX.out.size; rw [HSB.out] at this; exact this)))
    have HT5 := Lib.hid (HT.out.below HB5.out htl)
    clear c0 c1 c2 c3 c4 c5 c6 c7 c8 d1 d2 htl5 htl
    go_loopw [6, 13, 14] (fun z6 z13 z14 wr => ((z6 = .int .i64 0 ∧ z13 = .int .i64 1 ∧ z14 = .int .i64 0) ∨ (z6 = .int .i64 2 ∧ z13 = .int .i64 2 ∧ z14 = .int .i64 1)) ∧ Below sb w wr ∧ Blk wr tk 46 #[.string ⟨#[97]⟩, .int .i64 5, .int .i64 5, .int .i64 0, .int .i64 0, .int .i64 0, .slice ra 1 rc, .int .u64 0, .int .u64 0]) (fun _ _ z14 _ => 1 - (intOf z14).toNat)
    case atStart => exact ⟨.inl ⟨rfl, rfl, rfl⟩, HB6.out, HT5.out⟩
    case round =>
      obtain ⟨hz, hbr, hTr⟩ := hrel
      have d1 : wr.cell? ⟨tk, 1, none⟩ = some (.int .i64 5) := hTr.cell 1
      have d2 : wr.cell? ⟨tk, 2, none⟩ = some (.int .i64 5) := hTr.cell 2
      have htl5 := hTr.lt
      have HBR := Lib.hid hbr
      have HTR := Lib.hid hTr
      clear hbr hTr
      rcases hz with ⟨rfl, rfl, rfl⟩ | ⟨rfl, rfl, rfl⟩
      · go_wp2_with (go_at_call 137; refine (HDN.out _).mono ?_; rintro e w7 ⟨rfl, hb⟩; have e1 : w7.cell? ⟨tk, 1, none⟩ = some (.int .i64 5) := (HTR.out.below hb htl5).cell 1; have htl7 := (HTR.out.below hb htl5).lt; have HB7 := Lib.hid hb; clear hb)
        go_roundw
        case rel => exact ⟨.inr ⟨by first | rfl | simp, rfl, by go_num⟩, HBR.out.trans (HB7.out.mono (by have := HBR.out.size; rw [HSB.out] at this; exact this)), HTR.out.below HB7.out htl5⟩
        case measure => simp [intOf]
      · go_wp2
        go_ret2
        exact ⟨rfl, by rw [HSB.out]; exact HBR.out⟩
end Go.Proofs.YtdgfjpbjiccllaaGreatDoor.F
/- resp.Of, admit.Judge of a task alone. -/
namespace Go.Proofs.YtdgfjpbjiccllaaGreatDoor.F
open Go.RowKit
open Go.Proofs.YtdgfjpbjiccllaaGreatDoor.X (TOk NameOk tokens all_yes)
open Go.Proofs.YtdgfjpbjiccllaaGreatDoorW.PrintWords Go.Proofs.YtdgfjpbjiccllaaGreatDoorW.PrintLast Go.Proofs.YtdgfjpbjiccllaaGreatDoorW.PrintMore
open Go.Proofs.YtdgfjpbjiccllaaGreatDoor.PTopLoads (S46 S212)
set_option maxRecDepth 100000
theorem nameA : NameOk xA.f0 := ⟨by decide, by kernel_rfl⟩
theorem okA : TOk xA 0 := ⟨nameA, by decide, by decide, by decide, by decide, by decide, by decide, .inl ⟨rfl, rfl, rfl⟩, by decide⟩
abbrev B0 (w : World) (sb b off c : Nat) (w' : World) : Prop :=
  Below sb w w' ∧ Blk w' sb 24 #[.int .i64 0, .slice (some ⟨b, off, none⟩) 1 c] ∧ w'.cell? ⟨sb, 0, none⟩ = some (.int .i64 0) ∧ w'.cell? ⟨sb, 1, none⟩ = some (.slice (some ⟨b, off, none⟩) 1 c)
theorem b0_next {w w1 w2 : World} {sb b off c : Nat} (h : B0 w sb b off c w1) (hb : Below w1.heap.size w1 w2) : B0 w sb b off c w2 := by
  have D := h.2.1.below hb h.2.1.lt
  exact ⟨h.1.trans (hb.mono (Nat.le_of_lt h.2.1.lt)), D, D.cell 0, D.cell 1⟩
theorem b0_drew {w w1 : World} {sb b off c : Nat} (h : B0 w sb b off c w1) : B0 w sb b off c w1.drew := ⟨h.1.drew, h.2.1, h.2.2⟩
set_option maxHeartbeats 4000000 in
theorem of_A {b off c : Nat} (w : World) (hc1 : 1 ≤ c) (hbw : b < w.heap.size) (ra : Option Addr) (rc : Nat) (hrc : 1 ≤ rc)
    (hc : w.cell? ⟨b, off + 0 * 9, none⟩ = some (.string xA.f0) ∧ w.cell? ⟨b, off + 0 * 9 + 1, none⟩ = some (.int .i64 xA.f1) ∧ w.cell? ⟨b, off + 0 * 9 + 2, none⟩ = some (.int .i64 xA.f2) ∧ w.cell? ⟨b, off + 0 * 9 + 3, none⟩ = some (.int .i64 xA.f3) ∧
      w.cell? ⟨b, off + 0 * 9 + 4, none⟩ = some (.int .i64 xA.f4) ∧ w.cell? ⟨b, off + 0 * 9 + 5, none⟩ = some (.int .i64 xA.f5) ∧ w.cell? ⟨b, off + 0 * 9 + 6, none⟩ = some (.slice ra xA.f6.length rc) ∧ w.cell? ⟨b, off + 0 * 9 + 7, none⟩ = some (.int .u64 xA.f7) ∧ w.cell? ⟨b, off + 0 * 9 + 8, none⟩ = some (.int .u64 xA.f8))
    (hN : Nums w ra xA.f6) :
    Calls Tryz.prog 61 #[.agg #[.int .i64 0, .slice (some ⟨b, off, none⟩) 1 c], .int .i64 0] w fun e w' => e = .returned (.tuple #[.int .i64 2, .int .i64 1]) ∧ Below w.heap.size w w' := by
  have HWI := Lib.hid (fun w' (hb : Below w.heap.size w w') => with_A (b := b) (off := off) (c := c) w' hc1 okA (Nat.lt_of_lt_of_le hbw hb.size) ra rc hrc (by
    obtain ⟨g0, g1, g2, g3, g4, g5, g6, g7, g8⟩ := hc
    exact ⟨(hb.cell (p := ⟨b, _, none⟩) hbw).trans g0, (hb.cell (p := ⟨b, _, none⟩) hbw).trans g1, (hb.cell (p := ⟨b, _, none⟩) hbw).trans g2, (hb.cell (p := ⟨b, _, none⟩) hbw).trans g3, (hb.cell (p := ⟨b, _, none⟩) hbw).trans g4, (hb.cell (p := ⟨b, _, none⟩) hbw).trans g5, (hb.cell (p := ⟨b, _, none⟩) hbw).trans g6, (hb.cell (p := ⟨b, _, none⟩) hbw).trans g7, (hb.cell (p := ⟨b, _, none⟩) hbw).trans g8⟩) (hN.below hb))
  have HMO := Lib.hid (fun w' => most_one 0 (some ⟨b, off, none⟩) c w')
  have HB1 := Lib.hid ((Below.refl w.heap.size w).alloc (Nat.le_refl _) (.cells #[.int .i64 0, .slice (some ⟨b, off, none⟩) 1 c] 24))
  have HD := Lib.hid (Blk.new w 24 #[.int .i64 0, .slice (some ⟨b, off, none⟩) 1 c])
  obtain ⟨sb, hsb⟩ : ∃ sb, w.heap.size = sb := ⟨_, rfl⟩
  have HSB := Lib.hid hsb
  clear hc hN hsb hc1 hrc
  go_enter Tryz.func61, Tryz.ntmps61
  go_upto_region 1 with fail
  obtain ⟨w1, hw1⟩ : ∃ w1, w.alloc (.cells #[.int .i64 0, .slice (some ⟨b, off, none⟩) 1 c] 24) = w1 := ⟨_, rfl⟩
  rw [hw1] at HB1 HD ⊢
  rw [HSB.out] at HB1 HD ⊢
  have S1 : B0 w sb b off c w1 := ⟨HB1.out, HD.out, HD.out.cell 0, HD.out.cell 1⟩
  have S1' := b0_drew S1
  clear hw1
  go_region_held3 (fun w' => Below sb w w' ∧ Blk w' sb 24 #[.int .i64 0, .slice (some ⟨b, off, none⟩) 1 c] ∧ w'.cell? ⟨sb, 0, none⟩ = some (.int .i64 0) ∧ w'.cell? ⟨sb, 1, none⟩ = some (.slice (some ⟨b, off, none⟩) 1 c)) (first | (with_reducible assumption) | (with_reducible refine b0_drew ?_; with_reducible assumption)) (first | (go_at_call 104; refine (HMO.out _).mono ?_; rintro e w3 ⟨rfl, hb⟩; have hS3 := b0_next (by with_reducible assumption) hb; clear hb) | (go_at_call 103; refine (HWI.out _ (by rw [HSB.out]; exact And.left (‹Below sb w _ ∧ _›))).mono ?_; rintro e w4 ⟨rfl, hb⟩; have hS4 := b0_next (by with_reducible assumption) hb; clear hb))
  go_wp2_with fail
  go_ret2
  exact ⟨rfl, by rw [HSB.out]; exact And.left (‹Below sb w _ ∧ _›)⟩
end Go.Proofs.YtdgfjpbjiccllaaGreatDoor.F
