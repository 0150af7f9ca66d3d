/- Joined texts: Jdg4, Jdg5, Jdg6. -/
import Derived.Test.YtdgfjpbjiccllaaGreatDoorTopAgain23
import Derived.Deep.RegionLaw
import Derived.Test.YtdgfjpbjiccllaaGreatDoorTopAgain22
namespace Go.Proofs.YtdgfjpbjiccllaaGreatDoor.F
open Go.RowKit
open X (TOk work_f nums_C)
open YtdgfjpbjiccllaaGreatDoorW.PrintWords YtdgfjpbjiccllaaGreatDoorW.PrintLast YtdgfjpbjiccllaaGreatDoorW.PrintMore
open PTopLoads
set_option maxRecDepth 100000
set_option maxHeartbeats 16000000 in
theorem jloads_any {rel : Int} {L : List S46} {b off c : Nat} (w : World) (h : SetJ w rel L b off c) (i : Nat) (hi : i < L.length) :
  Calls Tryz.prog 136 #[.agg #[.int .i64 rel, .slice (some ⟨b, off, none⟩) L.length c], .int .i64 i] w fun e w' => ∃ (ls : List S212) (lv : Value), ls.length ≤ 100 ∧ e = .returned lv ∧ w'.ownsRow w.heap.size 212 2 lv ls.length (lcells ls) ∧ Below w.heap.size w w' := by
 obtain ⟨i0, hi0, hz0, hz1, hz2⟩ := info_parts Tryz.info212
 have Hz0 := Lib.hid hz0; clear hz0
 have Hz1 := Lib.hid hz1; clear hz1
 have Hz2 := Lib.hid hz2; clear hz2
 have Hi := Lib.hid hi0; clear hi0
 have HB1 := Lib.hid ((Below.refl w.heap.size w).alloc (Nat.le_refl _) (.cells #[.int .i64 rel, .slice (some ⟨b, off, none⟩) L.length c] 24))
 have HD := Lib.hid (Blk.new w 24 #[.int .i64 rel, .slice (some ⟨b, off, none⟩) L.length c])
 have HJ := Lib.hid h
 have HCO := Lib.hid (fun (w' : World) (hb : Below w.heap.size w w') (k : Nat) (hk : k < L.length) => cost_any w' (h.below hb) k hk)
 have HTO := Lib.hid total_any
 have h8 := h.n8
 have hic : i ≤ c := by have := h.hc; omega
 obtain ⟨n, hn⟩ : ∃ n, L.length = n := ⟨_, rfl⟩
 have HN := Lib.hid hn
 rw [hn] at HB1 HD HCO h8 hi ⊢
 obtain ⟨sb, hsb⟩ : ∃ sb, w.heap.size = sb := ⟨_, rfl⟩
 have HSB := Lib.hid hsb
 have d1 : decide ((i : Int) < 0) = false := by simp
 have d2 : decide ((n : Int) ≤ (i : Int)) = false := by simp; omega
 have d3 : ¬ (i : Int) < 0 := by omega
 have d4 : ¬ (n : Int) ≤ (i : Int) := by omega
 have d5 : (0 : Int) ≤ (i : Int) := by omega
 have d6 : (i : Int) ≤ (c : Int) := by omega
 clear h hn hsb
 go_enter Tryz.func136, Tryz.ntmps136
 go_upto_region 1 with fail
 obtain ⟨w1, hw1⟩ : ∃ w1, w.alloc (.cells #[.int .i64 rel, .slice (some ⟨b, off, none⟩) n c] 24) = w1 := ⟨_, rfl⟩
 rw [hw1] at HB1 HD ⊢
 rw [HSB.out] at HD ⊢
 clear hw1
 have c1 : w1.cell? ⟨sb, 1, none⟩ = some (.slice (some ⟨b, off, none⟩) n c) := HD.out.cell 1
 have hsl := HD.out.lt
 go_wp2_with fail
 go_loopw [5, 26] (fun z5 z26 wr => ∃ (k : Nat) (ls : List S212), k ≤ i ∧ z26 = .int .i64 k ∧ ls.length = k ∧ wr.ownsRow sb 212 2 z5 ls.length (lcells ls) ∧ Below sb w wr ∧ Blk wr sb 24 #[.int .i64 rel, .slice (some ⟨b, off, none⟩) n c]) (fun _ z26 _ => i - (intOf z26).toNat)
 case atStart => exact ⟨0, [], Nat.zero_le _, rfl, rfl, World.ownsRow_nil _ _ _ _, by rw [← HSB.out]; exact HB1.out, HD.out⟩
 case round =>
  obtain ⟨k, ls, hk, rfl, hls, hown, hb, hD⟩ := hrel
  have HO := Lib.hid hown
  have HLS := Lib.hid hls
  have HB := Lib.hid hb
  have HDR := Lib.hid hD
  have HBW : Hid (Below w.heap.size w wr) := by unfold Hid; rw [HSB.out]; exact hb
  have hlb : ls.length ≤ 100 := by omega
  clear hown hls hb hD c1 hsl
  by_cases hlt : k < i
  ·have hkn : k < n := by omega
   have hkl : k < L.length := by rw [HN.out]; exact hkn
   obtain ⟨ra, rc, ⟨g0, g1, g2, g3, g4, g5, g6, g7, g8⟩, -, -⟩ := (HJ.out.below HBW.out).at_ k hkl
   obtain ⟨x, hx⟩ : ∃ x, L[k] = x := ⟨_, rfl⟩
   rw [hx] at g0 g1 g2 g3 g4 g5 g6 g7 g8
   have hbl : b < wr.heap.size := (HJ.out.below HBW.out).lt
   have j0 : (0 : Int) ≤ (k : Int) := by omega
   have j1 : (k : Int) < (i : Int) := by omega
   have HCK := Lib.hid (fun (w' : World) (hb : Below w.heap.size w w') => HCO.out w' hb k hkn)
   clear hx hkl
   go_upto_region 7 with fail
   obtain ⟨tk, htk⟩ : ∃ tk, wr.heap.size = tk := ⟨_, rfl⟩
   have HT := Blk.new wr 46 (tcs9 x ra rc)
   have hb4 := (Below.refl wr.heap.size wr).alloc (Nat.le_refl _) (.cells (tcs9 x ra rc) 46)
   have hz4 : (wr.alloc (.cells (tcs9 x ra rc) 46)).heap.size = wr.heap.size + 1 := by simp
   obtain ⟨w4, hw4⟩ : ∃ w4, wr.alloc (.cells (tcs9 x ra rc) 46) = w4 := ⟨_, rfl⟩
   have hw4' := hw4
   unfold tcs9 at hw4'
   rw [hw4'] at ⊢
   rw [hw4] at HT hb4 hz4
   rw [htk] at HT ⊢
   have HT := Lib.hid HT
   have HB4 := Lib.hid hb4
   have HTK := Lib.hid htk
   have HD4 := Lib.hid (HDR.out.below hb4 HDR.out.lt)
   have HBW4 : Hid (Below w.heap.size w w4) := Lib.hid (HBW.out.trans (hb4.mono HBW.out.size))
   have e0 : w4.cell? ⟨sb, 0, none⟩ = some (.int .i64 rel) := HD4.out.cell 0
   have e1 : w4.cell? ⟨sb, 1, none⟩ = some (.slice (some ⟨b, off, none⟩) n c) := HD4.out.cell 1
   have hsl4 := HD4.out.lt
   clear g0 g1 g2 g3 g4 g5 g6 g7 g8 hw4 hw4' hb4 hz4 htk
   have HC4 := Lib.hid (HCK.out w4 HBW4.out)
   go_upto_region 9 with (first | (go_at_call 153; refine (HC4.out).mono ?_; rintro e w5 ⟨px, py, ok, rfl, hb⟩; have HB5 := Lib.hid hb; clear hb) | (go_at_call 154; refine (HTO.out _ _ _).mono ?_; rintro e w6 ⟨m, ok2, rfl, hb⟩; have HB6 := Lib.hid hb; clear hb))
   have hb46 : Below w4.heap.size w4 w6 := HB5.out.trans (HB6.out.mono HB5.out.size)
   have HT6 := Lib.hid (HT.out.below hb46 HT.out.lt)
   have HB46 := Lib.hid (HB4.out.trans (hb46.mono HB4.out.size))
   have t1 : w6.cell? ⟨tk, 1, none⟩ = some (.int .i64 x.f1) := HT6.out.cell 1
   have htl := HT6.out.lt
   have HOA := Lib.hid ((own_below HO.out HB46.out).alloc (.cells #[.int .i64 x.f1, .int .i64 m] 212))
   have H1 : Hid (∀ j u, [Value.int .i64 x.f1, .int .i64 m][j]? = some u → (w6.alloc (.cells #[.int .i64 x.f1, .int .i64 m] 212)).cell? ((⟨w6.heap.size, 0, none⟩ : Addr).add j) = some u) := cells_new (l := [Value.int .i64 x.f1, .int .i64 m])
   have H2 : Hid (∀ u ∈ [Value.int .i64 x.f1, .int .i64 m], u.oneCell' = true) := by
    intro u hu
    simp at hu
    rcases hu with rfl | rfl <;> rfl
   have H3 : Hid (ls.length + 1 ≤ maxLen) := by unfold Hid maxLen; omega
   have H4 : Hid ((ls.length + 1) * 16 ≤ 140737488355328) := by unfold Hid; omega
   have H5 : Hid (sb ≤ (w6.alloc (.cells #[.int .i64 x.f1, .int .i64 m] 212)).heap.size) := by
    unfold Hid
    have := HB46.out.size
    have := HDR.out.lt
    simp
    omega
   clear e0 e1 hsl4 hb46
   go_wp2_with (at_builtin; refine wpList_append_own _ rfl (.tmp 42) (.tmp 47) 194 rfl sb 212 i0 _ 2 16 Tryz.underlying194 Hi.out Hz0.out Hz1.out Hz2.out rfl (Nat.succ_pos 1) _ ls.length (lcells ls) rfl HOA.out ⟨w6.heap.size, 0, none⟩ 1 1 [.int .i64 x.f1, .int .i64 m] rfl rfl H1.out H2.out H3.out H4.out H5.out ?_; intro v' w7 own gr _; have HOW := Lib.hid own; have HGR := Lib.hid gr; clear own gr)
   have gr : (w6.alloc (.cells #[.int .i64 x.f1, .int .i64 m] 212)).grownBy w7 u5.ownBlock := HGR.out
   have hsw : sb ≤ wr.heap.size := Nat.le_of_lt HDR.out.lt
   have hb6 : Below sb w w6 := HB.out.trans (HB46.out.mono hsw)
   have D7 := (HDR.out.below HB46.out HDR.out.lt).alloc (.cells #[.int .i64 x.f1, .int .i64 m] 212)
   refine ⟨⟨k + 1, ls ++ [⟨x.f1, m⟩], by omega, by go_num, ?_, ?_, (hb6.alloc (Nat.le_trans hsw HB46.out.size) _).grown gr H5.out (fun k hk => (HOA.out.lt k hk).1), D7.grown gr (fun e => own_blk_ne HOA.out D7 (by decide) e.symm)⟩, by simp [intOf]; omega⟩
   ·rw [List.length_append, HLS.out]
    rfl
   ·rw [List.length_append, lcells_snoc]
    exact HOW.out
  ·obtain rfl : k = i := by omega
   go_wp2_with fail
   go_ret
   exact ⟨ls, u5, hlb, rfl, by rw [HSB.out]; exact HO.out, HBW.out⟩
theorem least_b (base : Int) (ls : List S212) : ∀ (f : Nat) (v : Int), v ≤ 1000000 → (leastL f base ls v).2 = true → (leastL f base ls v).1 ≤ 1000000
 | 0, _, _, h => by cases h
 | f + 1, v, hv, h => by
  unfold leastL at h ⊢
  split at h
  ·rename_i h1
   rw [if_pos h1]
   exact hv
  ·rename_i h1
   rw [if_neg h1]
   split at h
   ·cases h
   ·rename_i h2
    rw [if_neg h2]
    exact least_b base ls f _ (by omega) h
set_option maxHeartbeats 16000000 in
theorem active_any {rel : Int} {L : List S46} {b off c : Nat} (w : World) (h : SetJ w rel L b off c) (i : Nat) (hi : i < L.length) (blk : Int) :
  Calls Tryz.prog 135 #[.agg #[.int .i64 rel, .slice (some ⟨b, off, none⟩) L.length c], .int .i64 i, .int .i64 blk] w fun e w' => ∃ (v : Int) (ok : Bool), e = .returned (.tuple #[.int .i64 v, .bool ok]) ∧ (ok = true → v ≤ 1000000) ∧ Below w.heap.size w w' := by
 obtain ⟨i0, hi0, hz0, hz1, hz2⟩ := info_parts Tryz.info212
 have Hz0 := Lib.hid hz0; clear hz0
 have Hz1 := Lib.hid hz1; clear hz1
 have Hz2 := Lib.hid hz2; clear hz2
 have Hi := Lib.hid hi0; clear hi0
 obtain ⟨ra, rc, hA, hN, hrc⟩ := h.at_ i hi
 have hx := h.tk i L[i] (List.getElem?_eq_getElem hi)
 have HL := Lib.hid (fun (w' : World) (hb : Below w.heap.size w w') => jloads_any w' (h.below hb) i hi)
 have HW := Lib.hid (fun w' (hb : Below w.heap.size w w') => task_Work.calls 9 L[i].f0 L[i].f1 L[i].f2 L[i].f3 L[i].f4 L[i].f5 ra rc L[i].f6 L[i].f7 L[i].f8 _ w' (nums_C (hN.below hb) (by have := hx.r8; omega)) hrc (work_f L[i] hx))
 have hbw := h.lt
 have h8 := h.n8
 have hb1 := (Below.refl w.heap.size w).alloc (Nat.le_refl _) (.cells #[.int .i64 rel, .slice (some ⟨b, off, none⟩) L.length c] 24)
 obtain ⟨x, hxe⟩ : ∃ x, L[i] = x := ⟨_, rfl⟩
 obtain ⟨n, hn⟩ : ∃ n, L.length = n := ⟨_, rfl⟩
 rw [hxe] at hA HW
 rw [hn] at HL hb1 hi h8 ⊢
 obtain ⟨sb, hsb⟩ : ∃ sb, w.heap.size = sb := ⟨_, rfl⟩
 have HSB := Lib.hid hsb
 have S1 : AS w w.heap.size rel b off n c i x ra rc (w.alloc (.cells #[.int .i64 rel, .slice (some ⟨b, off, none⟩) n c] 24)) := by
  obtain ⟨g0, g1, g2, g3, g4, g5, g6, g7, g8⟩ := hA
  have D := Blk.new w 24 #[.int .i64 rel, .slice (some ⟨b, off, none⟩) n c]
  exact ⟨hb1, D, D.cell 0, D.cell 1, (hb1.cell (p := ⟨b, _, none⟩) hbw).trans g0, (hb1.cell (p := ⟨b, _, none⟩) hbw).trans g1, (hb1.cell (p := ⟨b, _, none⟩) hbw).trans g2, (hb1.cell (p := ⟨b, _, none⟩) hbw).trans g3, (hb1.cell (p := ⟨b, _, none⟩) hbw).trans g4, (hb1.cell (p := ⟨b, _, none⟩) hbw).trans g5, (hb1.cell (p := ⟨b, _, none⟩) hbw).trans g6, (hb1.cell (p := ⟨b, _, none⟩) hbw).trans g7, (hb1.cell (p := ⟨b, _, none⟩) hbw).trans g8⟩
 have d1 : decide ((i : Int) < 0) = false := by simp
 have d2 : decide ((n : Int) ≤ (i : Int)) = false := by simp; omega
 have d3 : ¬ (i : Int) < 0 := by omega
 have d4 : ¬ (n : Int) ≤ (i : Int) := by omega
 obtain ⟨wk, hwk⟩ : ∃ wk, x.f6.sum = wk := ⟨_, rfl⟩
 rw [hwk] at HW
 clear h hA hN hx hrc hxe hn hb1 hsb hwk
 go_enter Tryz.func135, Tryz.ntmps135
 go_upto_region 3 with fail
 obtain ⟨w1, hw1⟩ : ∃ w1, w.alloc (.cells #[.int .i64 rel, .slice (some ⟨b, off, none⟩) n c] 24) = w1 := ⟨_, rfl⟩
 rw [hw1] at S1 ⊢
 rw [HSB.out] at S1 ⊢
 have S1' := as_drew S1
 have hsl := S1.2.1.lt
 have HGG : Hid (∀ g, w1.drew.heap.size ≤ g → sb < g ∧ b < g) := by
  intro g hg
  have : w1.heap.size ≤ g := hg
  rw [HSB.out] at hbw
  exact ⟨by omega, by omega⟩
 have H2 : Hid (∀ u ∈ [Value.int .i64 x.f1, .int .i64 wk], u.oneCell' = true) := by
  intro u hu
  simp at hu
  rcases hu with rfl | rfl <;> rfl
 have HH3 : Hid (∀ m : Nat, m ≤ 100 → m + 1 ≤ maxLen ∧ (m + 1) * 16 ≤ 140737488355328) := by
  intro m hm
  unfold maxLen
  omega
 have HMK : Hid (∀ (ls : List S212) (B : Nat) (v : Value) (w' : World), ls.length ≤ 100 → w'.ownsRow B 212 2 v (ls.length + 1) (lcells ls ++ [.int .i64 x.f1, .int .i64 wk]) → ∃ ls2 : List S212, ls2.length ≤ 101 ∧ w'.ownsRow B 212 2 v ls2.length (lcells ls2)) := by
  intro ls B v w' hl h
  refine ⟨ls ++ [⟨x.f1, wk⟩], by rw [List.length_append]; show ls.length + 1 ≤ 101; omega, ?_⟩
  rw [lcells_snoc, List.length_append]
  exact h
 have HLE0 : Hid (∀ (ls : List S212) (LA : Option Addr) (lc : Nat) (w4 : World), ls.length ≤ 101 → ls.length ≤ lc → Lds w4 LA ls → Calls Tryz.prog 152 #[.int .i64 blk, .slice LA ls.length lc] w4 fun e w' => ∃ (v : Int) (ok : Bool), (ok = true → v ≤ 1000000) ∧ e = .returned (.tuple #[.int .i64 v, .bool ok]) ∧ Below w4.heap.size w4 w') := by
  intro ls LA lc w4 h1 h2 h3
  refine (Least_any blk LA lc _ w4 h3 (by omega) h2 _ rfl).mono fun e w' ⟨he, hb⟩ => ⟨_, _, ?_, he, hb⟩
  split
  ·exact least_b _ _ _ _ (by decide)
  ·intro h; cases h
 clear hw1
 go_region_held3 (fun w' => Below sb w w' ∧ Blk w' sb 24 #[.int .i64 rel, .slice (some ⟨b, off, none⟩) n c] ∧ w'.cell? ⟨sb, 0, none⟩ = some (.int .i64 rel) ∧ w'.cell? ⟨sb, 1, none⟩ = some (.slice (some ⟨b, off, none⟩) n c) ∧ w'.cell? ⟨b, off + i * 9, none⟩ = some (.string x.f0) ∧ w'.cell? ⟨b, off + i * 9 + 1, none⟩ = some (.int .i64 x.f1) ∧ w'.cell? ⟨b, off + i * 9 + 2, none⟩ = some (.int .i64 x.f2) ∧ w'.cell? ⟨b, off + i * 9 + 3, none⟩ = some (.int .i64 x.f3) ∧ w'.cell? ⟨b, off + i * 9 + 4, none⟩ = some (.int .i64 x.f4) ∧ w'.cell? ⟨b, off + i * 9 + 5, none⟩ = some (.int .i64 x.f5) ∧ w'.cell? ⟨b, off + i * 9 + 6, none⟩ = some (.slice ra x.f6.length rc) ∧ w'.cell? ⟨b, off + i * 9 + 7, none⟩ = some (.int .u64 x.f7) ∧ w'.cell? ⟨b, off + i * 9 + 8, none⟩ = some (.int .u64 x.f8)) (first | assumption | (refine as_drew ?_; assumption) | (refine as_next (by assumption) ((Below.refl _ _).alloc (Nat.le_refl _) _) hbw)) (first | (go_at_call 136; refine (HL.out _ (by rw [HSB.out]; exact And.left (‹Below sb w _ ∧ _›))).mono ?_; rintro e w2 ⟨ls, lv, hll, rfl, hown, hb⟩; have hS2 := as_next (by assumption) hb hbw; have HO2 := Lib.hid hown; have HB2 := Lib.hid hb; have HLL := Lib.hid hll; clear hown hb hll) | (go_at_call 65; refine (HW.out _ (by rw [HSB.out]; exact And.left (‹Below sb w _ ∧ _›))).mono ?_; rintro e w3 ⟨rfl, hb⟩; have hS3 := as_next (by assumption) hb hbw; have HO3 := Lib.hid (own_below HO2.out hb); have HB3 := Lib.hid hb; have HOA := Lib.hid (HO3.out.alloc (.cells #[.int .i64 x.f1, .int .i64 wk] 212)); have H1 : Hid (∀ j u, [Value.int .i64 x.f1, .int .i64 wk][j]? = some u → (w3.alloc (.cells #[.int .i64 x.f1, .int .i64 wk] 212)).cell? ((⟨w3.heap.size, 0, none⟩ : Addr).add j) = some u) := cells_new (l := [Value.int .i64 x.f1, .int .i64 wk]); have H5 : Hid (w2.heap.size ≤ (w3.alloc (.cells #[.int .i64 x.f1, .int .i64 wk] 212)).heap.size) := Nat.le_trans hb.size (Nat.le_of_lt (by simp)); clear hb) | (refine step_append_own_at rfl (.tmp 20) (.tmp 34) 194 rfl _ 212 i0 _ 2 16 Tryz.underlying194 Hi.out Hz0.out Hz1.out Hz2.out rfl (Nat.succ_pos 1) _ ls.length (lcells ls) rfl HOA.out ⟨w3.heap.size, 0, none⟩ 1 1 [.int .i64 x.f1, .int .i64 wk] rfl rfl H1.out H2.out (HH3.out _ HLL.out).1 (HH3.out _ HLL.out).2 (Nat.le_trans HB2.out.size H5.out) ?_; intro v' w4 own gr _ _; obtain ⟨ls2, hl2, own2⟩ := HMK.out _ _ _ _ HLL.out own; obtain ⟨LA, lc, rfl, hlc, hld⟩ := lds_of_own own2; have hS4 := as_grown (as_next (by assumption) ((Below.refl _ _).alloc (Nat.le_refl _) (.cells #[.int .i64 x.f1, .int .i64 wk] 212)) hbw) gr (fun g hg => HGG.out _ (HOA.out.lt g hg).1); have HLE := Lib.hid (HLE0.out ls2 LA lc w4 hl2 hlc hld); clear own own2 gr hlc hld hl2) | (go_at_call 152; refine (HLE.out).mono ?_; rintro e w5 ⟨v, ok, hv, rfl, hb⟩; have hS5 := as_next (by assumption) hb hbw; have HV := Lib.hid hv; clear hb hv))
 go_wp2_with fail
 go_ret2
 exact ⟨v, ok, rfl, HV.out, by rw [HSB.out]; exact And.left (‹Below sb w _ ∧ _›)⟩
theorem done_ge (base : Int) (ls : List S212) : ∀ (f : Nat) (v : Int), v ≤ doneL f base ls v
 | 0, v => Int.le_refl _
 | f + 1, v => by
  unfold doneL
  split
  ·exact Int.le_refl _
  ·exact Int.le_trans (by omega) (done_ge base ls f _)
abbrev B9 (w : World) (sb : Nat) (rel : Int) (b off n c : Nat) (w' : World) : Prop :=
 Below sb w w' ∧ Blk w' sb 24 #[.int .i64 rel, .slice (some ⟨b, off, none⟩) n c] ∧ w'.cell? ⟨sb, 0, none⟩ = some (.int .i64 rel) ∧ w'.cell? ⟨sb, 1, none⟩ = some (.slice (some ⟨b, off, none⟩) n c)
theorem b9_next {w w1 w2 : World} {sb b off n c : Nat} {rel : Int} (h : B9 w sb rel b off n c w1) (hb : Below w1.heap.size w1 w2) : B9 w sb rel b off n c w2 := by
 have D := h.2.1.below hb h.2.1.lt
 exact ⟨h.1.trans (hb.mono (Nat.le_of_lt h.2.1.lt)), D, D.cell 0, D.cell 1⟩
theorem b9_drew {w w1 : World} {sb b off n c : Nat} {rel : Int} (h : B9 w sb rel b off n c w1) : B9 w sb rel b off n c w1.drew := ⟨h.1.drew, h.2.1, h.2.2⟩
theorem wrap_in {z : Int} (h : -9223372036854775808 ≤ z ∧ z ≤ 9223372036854775807) : wrap64 z = z := by unfold wrap64; omega
theorem q_mul {q t : Int} (h0 : 0 ≤ q) (h1 : q ≤ 1000001) (t0 : 1 ≤ t) (t1 : t ≤ 10000) : q ≤ q * t ∧ q * t ≤ 10000010000 := by
 refine ⟨?_, ?_⟩
 ·have := Int.mul_le_mul_of_nonneg_left t0 h0
  omega
 ·have a := Int.mul_le_mul_of_nonneg_left t1 h0
  omega
theorem lds_set9 {w3 : World} {B g lc : Nat} {LA : Option Addr} {ls : List S212} {cs : Array Value} (h : w3.ownsRow B 212 2 (.slice LA ls.length lc) ls.length (lcells ls)) (hB : Blk w3 g 46 cs) (v0 v1 v2 v3 v4 v5 v6 v7 v8 : Value) :
  Lds (((((((((w3.setCell ⟨g, 0, none⟩ v0).setCell ⟨g, 1, none⟩ v1).setCell ⟨g, 2, none⟩ v2).setCell ⟨g, 3, none⟩ v3).setCell ⟨g, 4, none⟩ v4).setCell ⟨g, 5, none⟩ v5).setCell ⟨g, 6, none⟩ v6).setCell ⟨g, 7, none⟩ v7).setCell ⟨g, 8, none⟩ v8) LA ls := by
 have hg := only_setCell (only_setCell (only_setCell (only_setCell (only_setCell (only_setCell (only_setCell (only_setCell (only_setCell (World.grownBy.refl w3 (some g)) (p := ⟨g, 0, none⟩) (.inl rfl) v0) (p := ⟨g, 1, none⟩) (.inl rfl) v1) (p := ⟨g, 2, none⟩) (.inl rfl) v2) (p := ⟨g, 3, none⟩) (.inl rfl) v3) (p := ⟨g, 4, none⟩) (.inl rfl) v4) (p := ⟨g, 5, none⟩) (.inl rfl) v5) (p := ⟨g, 6, none⟩) (.inl rfl) v6) (p := ⟨g, 7, none⟩) (.inl rfl) v7) (p := ⟨g, 8, none⟩) (.inl rfl) v8
 have h2 := own_fr (E := 0) (ts := [46]) (B := 0) h (Fr.of_blk hg hB (Nat.zero_le _) (by simp)) (by decide)
 obtain ⟨A', c', e, _, hl⟩ := lds_of_own h2
 injection e with e1 _ _
 subst e1
 exact hl
set_option maxHeartbeats 16000000 in
theorem with_any {rel : Int} {L : List S46} {b off c : Nat} (w : World) (h : SetJ w rel L b off c) (i : Nat) (hi : i < L.length) (blk : Int) :
  Calls Tryz.prog 103 #[.agg #[.int .i64 rel, .slice (some ⟨b, off, none⟩) L.length c], .int .i64 i, .int .i64 blk] w fun e w' => ∃ r how : Int, e = .returned (.tuple #[.int .i64 r, .int .i64 how]) ∧ Below w.heap.size w w' := by
 obtain ⟨ra, rc, hA, hN, hrc⟩ := h.at_ i hi
 have hx := h.tk i L[i] (List.getElem?_eq_getElem hi)
 have HAC := Lib.hid (fun (w' : World) (hb : Below w.heap.size w w') => active_any w' (h.below hb) i hi blk)
 have HLD := Lib.hid (fun (w' : World) (hb : Below w.heap.size w w') => jloads_any w' (h.below hb) i hi)
 have HW := Lib.hid (fun w' (hb : Below w.heap.size w w') => task_Work.calls 9 L[i].f0 L[i].f1 L[i].f2 L[i].f3 L[i].f4 L[i].f5 ra rc L[i].f6 L[i].f7 L[i].f8 _ w' (nums_C (hN.below hb) (by have := hx.r8; omega)) hrc (work_f L[i] hx))
 have hsum := hx.sum.1
 have hwd := hx.wd
 have hdt := hx.dt
 have ht1 := hx.t1
 have hbw := h.lt
 have h8 := h.n8
 have hb1 := (Below.refl w.heap.size w).alloc (Nat.le_refl _) (.cells #[.int .i64 rel, .slice (some ⟨b, off, none⟩) L.length c] 24)
 obtain ⟨x, hxe⟩ : ∃ x, L[i] = x := ⟨_, rfl⟩
 obtain ⟨n, hn⟩ : ∃ n, L.length = n := ⟨_, rfl⟩
 rw [hxe] at hA HW hsum hwd hdt ht1
 rw [hn] at HAC HLD hb1 hi h8 ⊢
 obtain ⟨sb, hsb⟩ : ∃ sb, w.heap.size = sb := ⟨_, rfl⟩
 have HSB := Lib.hid hsb
 have S1 : AS w w.heap.size rel b off n c i x ra rc (w.alloc (.cells #[.int .i64 rel, .slice (some ⟨b, off, none⟩) n c] 24)) := by
  obtain ⟨g0, g1, g2, g3, g4, g5, g6, g7, g8⟩ := hA
  have D := Blk.new w 24 #[.int .i64 rel, .slice (some ⟨b, off, none⟩) n c]
  exact ⟨hb1, D, D.cell 0, D.cell 1, (hb1.cell (p := ⟨b, _, none⟩) hbw).trans g0, (hb1.cell (p := ⟨b, _, none⟩) hbw).trans g1, (hb1.cell (p := ⟨b, _, none⟩) hbw).trans g2, (hb1.cell (p := ⟨b, _, none⟩) hbw).trans g3, (hb1.cell (p := ⟨b, _, none⟩) hbw).trans g4, (hb1.cell (p := ⟨b, _, none⟩) hbw).trans g5, (hb1.cell (p := ⟨b, _, none⟩) hbw).trans g6, (hb1.cell (p := ⟨b, _, none⟩) hbw).trans g7, (hb1.cell (p := ⟨b, _, none⟩) hbw).trans g8⟩
 have j0 : (0 : Int) ≤ (i : Int) := by omega
 have j1 : (i : Int) < (n : Int) := by omega
 have hT0 : 1 ≤ x.f1 := by omega
 have hT1 : x.f1 ≤ 10000 := ht1
 obtain ⟨wk, hwk⟩ : ∃ wk, x.f6.sum = wk := ⟨_, rfl⟩
 rw [hwk] at HW
 clear h hA hN hx hrc hxe hn hb1 hsb hwk hsum hwd hdt ht1
 go_enter Tryz.func103, Tryz.ntmps103
 go_upto_region 1 with fail
 obtain ⟨w1, hw1⟩ : ∃ w1, w.alloc (.cells #[.int .i64 rel, .slice (some ⟨b, off, none⟩) n c] 24) = w1 := ⟨_, rfl⟩
 rw [hw1] at S1 ⊢
 rw [HSB.out] at S1 ⊢
 clear hw1
 have c0 := S1.2.2.1
 have c1 := S1.2.2.2.1
 have hsl := S1.2.1.lt
 have HS1 := Lib.hid S1
 clear S1
 go_upto_region 2 with (go_at_call 135; refine (HAC.out _ (by rw [HSB.out]; exact HS1.out.1)).mono ?_; rintro e w2 ⟨long, ok, rfl, hlong, hb⟩; have HB2 := Lib.hid hb; have HLG := Lib.hid hlong; clear hb hlong)
 have S2 := as_next HS1.out HB2.out hbw
 have hws : sb ≤ w2.heap.size := Nat.le_of_lt S2.2.1.lt
 cases ok with
 | false =>
  have HB := Lib.hid S2.1
  clear S2 c0 c1 hsl
  go_wp2_with fail
  go_ret2
  exact ⟨_, _, rfl, by rw [HSB.out]; exact HB.out⟩
 | true =>
  have hlong := HLG.out rfl
  have S2' := as_drew S2
  have hs1 : sb < w2.heap.size := S2.2.1.lt
  have hs2 : b < w2.heap.size := Nat.lt_of_lt_of_le hbw S2.1.size
  clear c0 c1 hsl HB2 HLG
  go_upto_region 4 with fail
  go_cut [10, 11] (fun s10 s11 wx => ∃ (tk lc : Nat) (LA : Option Addr) (ls : List S212), s10 = .pointer (some ⟨tk, 0, none⟩) ∧ s11 = .slice LA ls.length lc ∧ ls.length ≤ 100 ∧ ls.length ≤ lc ∧ Lds wx LA ls ∧ Blk wx tk 46 (tcs9 x ra rc) ∧ Below sb w wx)
  case first =>
   go_region_held3 (fun w' => Below sb w w' ∧ Blk w' sb 24 #[.int .i64 rel, .slice (some ⟨b, off, none⟩) n c] ∧ w'.cell? ⟨sb, 0, none⟩ = some (.int .i64 rel) ∧ w'.cell? ⟨sb, 1, none⟩ = some (.slice (some ⟨b, off, none⟩) n c) ∧ w'.cell? ⟨b, off + i * 9, none⟩ = some (.string x.f0) ∧ w'.cell? ⟨b, off + i * 9 + 1, none⟩ = some (.int .i64 x.f1) ∧ w'.cell? ⟨b, off + i * 9 + 2, none⟩ = some (.int .i64 x.f2) ∧ w'.cell? ⟨b, off + i * 9 + 3, none⟩ = some (.int .i64 x.f3) ∧ w'.cell? ⟨b, off + i * 9 + 4, none⟩ = some (.int .i64 x.f4) ∧ w'.cell? ⟨b, off + i * 9 + 5, none⟩ = some (.int .i64 x.f5) ∧ w'.cell? ⟨b, off + i * 9 + 6, none⟩ = some (.slice ra x.f6.length rc) ∧ w'.cell? ⟨b, off + i * 9 + 7, none⟩ = some (.int .u64 x.f7) ∧ w'.cell? ⟨b, off + i * 9 + 8, none⟩ = some (.int .u64 x.f8)) (first | (with_reducible assumption) | (with_reducible refine as_drew ?_; with_reducible assumption) | (with_reducible refine as_set (as_set (as_set (as_set (as_set (as_set (as_set (as_set (as_set ?_ hs1 hs2 _ _) hs1 hs2 _ _) hs1 hs2 _ _) hs1 hs2 _ _) hs1 hs2 _ _) hs1 hs2 _ _) hs1 hs2 _ _) hs1 hs2 _ _) hs1 hs2 _ _; with_reducible assumption) | (with_reducible refine as_next (by with_reducible assumption) ((Below.refl _ _).alloc (Nat.le_refl _) _) hbw)) ((go_at_call 136; refine (HLD.out _ (by rw [HSB.out]; exact And.left (‹Below sb w _ ∧ _›))).mono ?_; rintro e w3 ⟨ls, lv, hll, rfl, hown, hb⟩; have hS3 := as_next (by assumption) hb hbw; have hcl := fun (g j : Nat) h => hb.cell (p := ⟨g, j, none⟩) h; have hfr := fun (g j : Nat) h => hb.frozen (p := ⟨g, j, none⟩) h; simp only at hcl hfr; have HB3 := Lib.hid hb; have HO3 := Lib.hid hown; have HLL := Lib.hid hll; clear hb hown hll))
   all_goals obtain ⟨LA, lc, rfl, hlc, hld⟩ := lds_of_own HO3.out
   all_goals go_wp2_with fail
   all_goals go_meet
   ·exact ⟨w3.heap.size, lc, LA, ls, rfl, rfl, HLL.out, hlc, hld.below ((Below.refl _ _).alloc (Nat.le_refl _) _), Blk.new w3 46 _, hS3.1.alloc (Nat.le_of_lt hS3.2.1.lt) _⟩
   ·have hB9 := set9 (w := w2.drew) (.string x.f0) (.int .i64 x.f1) (.int .i64 x.f2) (.int .i64 x.f3) (.int .i64 x.f4) (.int .i64 x.f5) (.slice ra x.f6.length rc) (.int .u64 x.f7) (.int .u64 x.f8) HB3.out
    have hl9 := lds_set9 HO3.out (Blk.below (Blk.new w2.drew 46 #[.string ⟨#[]⟩, .int .i64 0, .int .i64 0, .int .i64 0, .int .i64 0, .int .i64 0, .slice none 0 0, .int .u64 0, .int .u64 0]) HB3.out (Blk.lt (Blk.new w2.drew 46 #[.string ⟨#[]⟩, .int .i64 0, .int .i64 0, .int .i64 0, .int .i64 0, .int .i64 0, .slice none 0 0, .int .u64 0, .int .u64 0]))) (.string x.f0) (.int .i64 x.f1) (.int .i64 x.f2) (.int .i64 x.f3) (.int .i64 x.f4) (.int .i64 x.f5) (.slice ra x.f6.length rc) (.int .u64 x.f7) (.int .u64 x.f8)
    exact ⟨w2.heap.size, lc, LA, ls, rfl, rfl, HLL.out, hlc, hl9, hB9, below_set9 hS3.1 (Nat.le_of_lt hs1) _ _ _ _ _ _ _ _ _⟩
  case rest =>
   obtain ⟨tk, lc, LA, ls, rfl, rfl, hll, hlc, hld, hT, hbx⟩ := hcut
   have HT := Lib.hid hT
   have HBX := Lib.hid hbx
   have c0 : wc.cell? ⟨tk, 0, none⟩ = some (.string x.f0) := hT.cell 0
   have c1 : wc.cell? ⟨tk, 1, none⟩ = some (.int .i64 x.f1) := hT.cell 1
   have c2 : wc.cell? ⟨tk, 2, none⟩ = some (.int .i64 x.f2) := hT.cell 2
   have c3 : wc.cell? ⟨tk, 3, none⟩ = some (.int .i64 x.f3) := hT.cell 3
   have c4 : wc.cell? ⟨tk, 4, none⟩ = some (.int .i64 x.f4) := hT.cell 4
   have c5 : wc.cell? ⟨tk, 5, none⟩ = some (.int .i64 x.f5) := hT.cell 5
   have c6 : wc.cell? ⟨tk, 6, none⟩ = some (.slice ra x.f6.length rc) := hT.cell 6
   have c7 : wc.cell? ⟨tk, 7, none⟩ = some (.int .u64 x.f7) := hT.cell 7
   have c8 : wc.cell? ⟨tk, 8, none⟩ = some (.int .u64 x.f8) := hT.cell 8
   have htl := hT.lt
   have hwc : sb ≤ wc.heap.size := by have := hbx.size; rw [HSB.out] at this; exact this
   have HLD2 := Lib.hid hld
   have HDN := Lib.hid (fun (base f : Int) (hf : 1 ≤ f) (w' : World) (hl' : Lds w' LA ls) => (done_any base LA lc ls f (by omega) w' hl' (by omega) hlc _ rfl).mono fun e w'' ⟨he, hb⟩ => (⟨_, Int.le_trans hf (done_ge base ls 1000002 f), he, hb⟩ : ∃ g : Int, 1 ≤ g ∧ e = Ending.returned (.int .i64 g) ∧ Below w'.heap.size w' w''))
   obtain ⟨m, hm⟩ : ∃ m, ls.length = m := ⟨_, rfl⟩
   rw [hm] at HDN ⊢
   clear hT hbx S2 S2' hs1 hs2 HAC HLD hll hlc hld hm
   go_wp2_with (go_at_call 65; refine (HW.out _ (by rw [HSB.out]; exact HBX.out)).mono ?_; rintro e w5 ⟨rfl, hb⟩; have HB5 := Lib.hid hb; clear hb)
   have HBY := Lib.hid (HBX.out.trans (HB5.out.mono hwc))
   have HT5 := Lib.hid (HT.out.below HB5.out htl)
   have HLD5 := Lib.hid (HLD2.out.below HB5.out)
   clear c0 c1 c2 c3 c4 c5 c6 c7 c8 htl HLD2 HT
   go_loopw [6, 13, 14] (fun z6 z13 z14 wr => ∃ (r f : Int) (q : Nat), z6 = .int .i64 r ∧ z13 = .int .i64 f ∧ z14 = .int .i64 q ∧ 1 ≤ f ∧ q ≤ 1000000 ∧ Below w5.heap.size w5 wr) (fun _ _ z14 _ => 1000000 - (intOf z14).toNat)
   case atStart => exact ⟨0, 1, 0, rfl, rfl, rfl, by decide, by decide, Below.refl _ _⟩
   case round =>
    obtain ⟨r, f, q, rfl, rfl, rfl, hf, hq, hbr⟩ := hrel
    have HTR := Lib.hid (HT5.out.below hbr HT5.out.lt)
    have HLR := Lib.hid (HLD5.out.below hbr)
    have HBR := Lib.hid hbr
    have d1 : wr.cell? ⟨tk, 1, none⟩ = some (.int .i64 x.f1) := HTR.out.cell 1
    have d2 : wr.cell? ⟨tk, 2, none⟩ = some (.int .i64 x.f2) := HTR.out.cell 2
    have htl := HTR.out.lt
    obtain ⟨m1, m2⟩ := q_mul (q := (q : Int)) (by omega) (by omega) hT0 hT1
    have hw : IntKind.i64.wrap ((q : Int) * x.f1) = (q : Int) * x.f1 := IntWalk.i64_in _ ⟨by omega, by omega⟩
    have hw2 : wrap64 ((q : Int) * x.f1) = (q : Int) * x.f1 := wrap_in ⟨by omega, by omega⟩
    obtain ⟨qt, hqt⟩ : ∃ qt, (q : Int) * x.f1 = qt := ⟨_, rfl⟩
    have hw' : IntKind.i64.wrap ((q : Int) * x.f1) = qt := hw.trans hqt
    have hw2' : wrap64 ((q : Int) * x.f1) = qt := hw2.trans hqt
    rw [hqt] at m1 m2
    clear hw hw2; clear hbr hqt
    by_cases hlt : qt < long
    ·have dl : decide (qt < long) = true := by simpa using hlt
     go_wp2_with (go_at_call 137; refine (HDN.out _ _ (by assumption) _ HLR.out).mono ?_; rintro e w7 ⟨g, hg, rfl, hb⟩; have e1 : w7.cell? ⟨tk, 1, none⟩ = some (.int .i64 x.f1) := (HTR.out.below hb htl).cell 1; have htl7 := (HTR.out.below hb htl).lt; have HB7 := Lib.hid (HBR.out.trans (hb.mono HBR.out.size)); have HG := Lib.hid hg; clear hb hg)
     go_roundw
     case rel => exact ⟨_, g, q + 1, rfl, rfl, by go_num, HG.out, by omega, HB7.out⟩
     case measure => simp [intOf]; omega
    ·have dl : decide (qt < long) = false := by simpa using hlt
     have hsw : sb ≤ w5.heap.size := Nat.le_trans hwc HB5.out.size
     cases dr : decide (r ≤ x.f2)
     all_goals
      go_wp2_with fail
      have HBZ := HBY.out.trans (HBR.out.mono hsw)
      rw [← HSB.out] at HBZ
      go_ret2
      exact ⟨⟨_, _, rfl⟩, HBZ⟩
set_option maxHeartbeats 4000000 in
theorem of_any {rel : Int} {L : List S46} {b off c : Nat} (w : World) (h : SetJ w rel L b off c) (i : Nat) (hi : i < L.length) :
  Calls Tryz.prog 61 #[.agg #[.int .i64 rel, .slice (some ⟨b, off, none⟩) L.length c], .int .i64 i] w fun e w' => ∃ r how : Int, e = .returned (.tuple #[.int .i64 r, .int .i64 how]) ∧ Below w.heap.size w w' := by
 have HWI := Lib.hid (fun (w' : World) (hb : Below w.heap.size w w') (blk : Int) => with_any w' (h.below hb) i hi blk)
 have HMO := Lib.hid (fun (w' : World) (hb : Below w.heap.size w w') => most_any w' (h.below hb) i)
 have HB1 := Lib.hid ((Below.refl w.heap.size w).alloc (Nat.le_refl _) (.cells #[.int .i64 rel, .slice (some ⟨b, off, none⟩) L.length c] 24))
 have HD := Lib.hid (Blk.new w 24 #[.int .i64 rel, .slice (some ⟨b, off, none⟩) L.length c])
 obtain ⟨n, hn⟩ : ∃ n, L.length = n := ⟨_, rfl⟩
 rw [hn] at HWI HMO HB1 HD hi ⊢
 obtain ⟨sb, hsb⟩ : ∃ sb, w.heap.size = sb := ⟨_, rfl⟩
 have HSB := Lib.hid hsb
 clear h hn hsb
 go_enter Tryz.func61, Tryz.ntmps61
 go_upto_region 1 with fail
 obtain ⟨w1, hw1⟩ : ∃ w1, w.alloc (.cells #[.int .i64 rel, .slice (some ⟨b, off, none⟩) n c] 24) = w1 := ⟨_, rfl⟩
 rw [hw1] at HB1 HD ⊢
 rw [HSB.out] at HB1 HD ⊢
 have S1 : B9 w sb rel b off n c w1 := ⟨HB1.out, HD.out, HD.out.cell 0, HD.out.cell 1⟩
 have S1' := b9_drew S1
 clear hw1
 go_region_held3 (fun w' => Below sb w w' ∧ Blk w' sb 24 #[.int .i64 rel, .slice (some ⟨b, off, none⟩) n c] ∧ w'.cell? ⟨sb, 0, none⟩ = some (.int .i64 rel) ∧ w'.cell? ⟨sb, 1, none⟩ = some (.slice (some ⟨b, off, none⟩) n c)) (first | (with_reducible assumption) | (with_reducible refine b9_drew ?_; with_reducible assumption)) (first | (go_at_call 104; refine (HMO.out _ (by rw [HSB.out]; exact And.left (‹Below sb w _ ∧ _›))).mono ?_; rintro e w3 ⟨m, rfl, hb⟩; have hS3 := b9_next (by with_reducible assumption) hb; clear hb) | (go_at_call 103; refine (HWI.out _ (by rw [HSB.out]; exact And.left (‹Below sb w _ ∧ _›)) _).mono ?_; rintro e w4 ⟨r, how, rfl, hb⟩; have hS4 := b9_next (by with_reducible assumption) hb; clear hb))
 go_wp2_with fail
 go_ret2
 exact ⟨_, _, rfl, by rw [HSB.out]; exact And.left (‹Below sb w _ ∧ _›)⟩
end Go.Proofs.YtdgfjpbjiccllaaGreatDoor.F
namespace Go.Proofs.YtdgfjpbjiccllaaGreatDoor.F
open Go.RowKit
open X (TOk all_yes)
open YtdgfjpbjiccllaaGreatDoorW.PrintWords YtdgfjpbjiccllaaGreatDoorW.PrintLast YtdgfjpbjiccllaaGreatDoorW.PrintMore
open PTopLoads
set_option maxRecDepth 100000
structure JSG (w wr : World) (sb vb : Nat) (rel : Int) (b off n c : Nat) (rv : Value) : Prop where
 bl : Below sb w wr
 s : Blk wr sb 24 #[.int .i64 rel, .slice (some ⟨b, off, none⟩) n c]
 r : Blk wr (sb + 1) 34 #[.int .i64 0, .int .i64 0, .slice none 0 0]
 v : Blk wr vb 34 #[.int .i64 1, .int .i64 0, rv]
 lt : sb + 1 < vb
section
variable {w wr w' : World} {sb vb b off n c : Nat} {rel : Int} {rv : Value}
theorem JSG.below (h : JSG w wr sb vb rel b off n c rv) (hb : Below wr.heap.size wr w') : JSG w w' sb vb rel b off n c rv :=
 ⟨h.bl.trans (hb.mono (Nat.le_of_lt h.s.lt)), h.s.below hb h.s.lt, h.r.below hb h.r.lt, h.v.below hb h.v.lt, h.lt⟩
theorem JSG.grown (h : JSG w wr sb vb rel b off n c rv) {row : Option Nat} (hg : wr.grownBy w' row) (hr : ∀ g, row = some g → vb < g) : JSG w w' sb vb rel b off n c rv := by
 have := h.lt
 exact ⟨h.bl.grown hg (Nat.le_of_lt h.s.lt) (fun k hk => by have := hr k hk; omega), h.s.grown hg (fun e => by have := hr _ e.symm; omega), h.r.grown hg (fun e => by have := hr _ e.symm; omega), h.v.grown hg (fun e => by have := hr _ e.symm; omega), h.lt⟩
theorem JSG.set_ (h : JSG w wr sb vb rel b off n c rv) (u : Value) : JSG w (wr.setCell ⟨vb, 2, none⟩ u) sb vb rel b off n c u :=
 ⟨h.bl.setCell (by show sb ≤ vb; have := h.lt; omega) _, h.s.far (by show sb ≠ vb; have := h.lt; omega) _, h.r.far (by show sb + 1 ≠ vb; have := h.lt; omega) _, h.v.set_ 2 u, h.lt⟩
end
set_option maxHeartbeats 8000000 in
theorem judge_any {rel : Int} {L : List S46} {b off c : Nat} (w : World) (h : SetJ w rel L b off c) (hr : 0 ≤ rel ∧ rel ≤ 10000) (hne : ∀ (i j : Nat) (x y : S46), i < j → L[i]? = some x → L[j]? = some y → x.f0 ≠ y.f0) (htab : Lib.TabIs Tryz.prog w "strings.asciiSpace" .u8 Lib.asciiSpaceTab) :
  Calls Tryz.prog 35 #[.agg #[.int .i64 rel, .slice (some ⟨b, off, none⟩) L.length c]] w fun e w' => ∃ (how tsk : Int) (RA : Option Addr) (rn rc : Nat) (err : Int), e = .returned (.tuple #[.agg #[.int .i64 how, .int .i64 tsk, .slice RA rn rc], .int .i64 err]) ∧ Below w.heap.size w w' := by
 have HTB := Lib.hid (Lib.tabBelow_of_tabIs htab)
 have HAL := Lib.hid (fun (w' : World) (hb : Below w.heap.size w w') => all_yes (L := L) (rel := rel) (c := c) h.n1 h.n8 hr.1 hr.2 (fun w'' hb' => ((h.below hb).below hb').src) (fun i x hx => h.tk i x hx) hne (HTB.out w' hb))
 have HOF := Lib.hid (fun (w' : World) (hb : Below w.heap.size w w') (k : Nat) (hk : k < L.length) => of_any w' (h.below hb) k hk)
 have h8 := h.n8
 have HB1 := Lib.hid (((Below.refl w.heap.size w).alloc (Nat.le_refl _) (.cells #[.int .i64 rel, .slice (some ⟨b, off, none⟩) L.length c] 24)).alloc (by simp) (.cells #[.int .i64 0, .int .i64 0, .slice none 0 0] 34))
 have HD := Lib.hid ((Blk.new w 24 #[.int .i64 rel, .slice (some ⟨b, off, none⟩) L.length c]).alloc (.cells #[.int .i64 0, .int .i64 0, .slice none 0 0] 34))
 have HR := Blk.new (w.alloc (.cells #[.int .i64 rel, .slice (some ⟨b, off, none⟩) L.length c] 24)) 34 #[.int .i64 0, .int .i64 0, .slice none 0 0]
 have hsz : (w.alloc (.cells #[.int .i64 rel, .slice (some ⟨b, off, none⟩) L.length c] 24)).heap.size = w.heap.size + 1 := by simp
 rw [hsz] at HR
 have HR := Lib.hid HR
 obtain ⟨sb, hsb⟩ : ∃ sb, w.heap.size = sb := ⟨_, rfl⟩
 have HSB := Lib.hid hsb
 obtain ⟨n, hn⟩ : ∃ n, L.length = n := ⟨_, rfl⟩
 rw [hn] at HAL HOF HB1 HD HR h8 ⊢
 clear h htab hsb hsz hn hne hr
 go_enter Tryz.func35, Tryz.ntmps35
 go_upto_region 1 with fail
 obtain ⟨w1, hw1⟩ : ∃ w1, (w.alloc (.cells #[.int .i64 rel, .slice (some ⟨b, off, none⟩) n c] 24)).alloc (.cells #[.int .i64 0, .int .i64 0, .slice none 0 0] 34) = w1 := ⟨_, rfl⟩
 rw [hw1] at HB1 HD HR ⊢
 rw [HSB.out] at HB1 HD HR ⊢
 clear hw1
 have c0 : w1.cell? ⟨sb, 0, none⟩ = some (.int .i64 rel) := HD.out.cell 0
 have c1 : w1.cell? ⟨sb, 1, none⟩ = some (.slice (some ⟨b, off, none⟩) n c) := HD.out.cell 1
 have hsl := HD.out.lt
 have hrl := HR.out.lt
 go_wp2_with (go_at_call 42; refine (HAL.out _ (by rw [HSB.out]; exact HB1.out)).mono ?_; rintro e w2 ⟨rfl, hb⟩; have HB2 := Lib.hid hb; have d0 : w2.cell? ⟨sb, 0, none⟩ = some (.int .i64 rel) := (HD.out.below hb hsl).cell 0; have d1 : w2.cell? ⟨sb, 1, none⟩ = some (.slice (some ⟨b, off, none⟩) n c) := (HD.out.below hb hsl).cell 1; have hsl2 := (HD.out.below hb hsl).lt; clear hb)
 have S3 : JSG w (w2.alloc (.cells #[.int .i64 1, .int .i64 0, .slice none 0 0] 34)) sb w2.heap.size rel b off n c (.slice none 0 0) :=
  ⟨(HB1.out.trans (HB2.out.mono (Nat.le_of_lt hsl))).alloc (Nat.le_of_lt hsl2) _, (HD.out.below HB2.out hsl).alloc _, (HR.out.below HB2.out hrl).alloc _, Blk.new w2 34 _, (HR.out.below HB2.out hrl).lt⟩
 have hz3 : (w2.alloc (.cells #[.int .i64 1, .int .i64 0, .slice none 0 0] 34)).heap.size = w2.heap.size + 1 := by simp
 obtain ⟨w3, hw3⟩ : ∃ w3, w2.alloc (.cells #[.int .i64 1, .int .i64 0, .slice none 0 0] 34) = w3 := ⟨_, rfl⟩
 obtain ⟨vb, hvb⟩ : ∃ vb, w2.heap.size = vb := ⟨_, rfl⟩
 rw [hw3, hvb] at S3 hz3
 rw [hw3, hvb]
 have HS3 := Lib.hid S3
 have HZ3 := Lib.hid hz3
 obtain ⟨i0, hi0, hz0, hz1, hz2⟩ := info_parts J.Tryz.info2
 have Hz0 := Lib.hid hz0; clear hz0
 have Hz1 := Lib.hid hz1; clear hz1
 have Hz2 := Lib.hid hz2; clear hz2
 have Hi := Lib.hid hi0; clear hi0
 clear hw3 hvb S3 hz3 c0 c1 d0 d1 hsl hsl2 hrl HB1 HD HR HB2
 go_loopw [16] (fun z16 wr => ∃ (k : Nat) (rs : List Int) (RA : Option Addr) (rc : Nat), k ≤ n ∧ rs.length = k ∧ z16 = .int .i64 k ∧ JSG w wr sb vb rel b off n c (.slice RA rs.length rc) ∧ wr.ownsRow (vb + 1) 2 1 (.slice RA rs.length rc) rs.length (J.ints rs)) (fun z16 _ => n - (intOf z16).toNat)
 case atStart => exact ⟨0, [], none, 0, Nat.zero_le _, rfl, rfl, HS3.out, World.ownsRow_nil _ _ _ _⟩
 case round =>
  obtain ⟨k, rs, RA, rc, hk, hrs, rfl, hS, hown⟩ := hrel
  have HS := Lib.hid hS
  have HO := Lib.hid hown
  have HRS := Lib.hid hrs
  have hrl : rs.length ≤ 8 := by omega
  clear hS hown hrs
  by_cases hlt : k < n
  ·have c0 : wr.cell? ⟨sb, 0, none⟩ = some (.int .i64 rel) := HS.out.s.cell 0
   have c1 : wr.cell? ⟨sb, 1, none⟩ = some (.slice (some ⟨b, off, none⟩) n c) := HS.out.s.cell 1
   have hsl := HS.out.s.lt
   have j0 : (0 : Int) ≤ (k : Int) := by omega
   have j1 : (k : Int) < (n : Int) := by omega
   have HO1 := Lib.hid (HOF.out wr (by rw [HSB.out]; exact HS.out.bl) k hlt)
   go_upto_region 8 with (go_at_call 61; refine (HO1.out).mono ?_; rintro e w5 ⟨r, how, rfl, hb⟩; have HB5 := Lib.hid hb; clear hb)
   have HS5 := Lib.hid (HS.out.below HB5.out)
   have hvl := HS5.out.v.lt
   have hrl5 := HS5.out.r.lt
   clear c0 c1 hsl
   by_cases hh : how = 1
   ·subst hh
    have v2 : w5.cell? ⟨vb, 2, none⟩ = some (.slice RA rs.length rc) := HS5.out.v.cell 2
    have HOA := Lib.hid ((own_below HO.out HB5.out).alloc (.cells #[.int .i64 r] 2))
    have H1 : Hid (∀ j u, [Value.int .i64 r][j]? = some u → (w5.alloc (.cells #[.int .i64 r] 2)).cell? ((⟨w5.heap.size, 0, none⟩ : Addr).add j) = some u) := cells_new (l := [Value.int .i64 r])
    have H3 : Hid (rs.length + 1 ≤ maxLen) := by unfold Hid maxLen; omega
    have H4 : Hid ((rs.length + 1) * 8 ≤ 140737488355328) := by unfold Hid; omega
    have H5 : Hid (vb + 1 ≤ (w5.alloc (.cells #[.int .i64 r] 2)).heap.size) := by unfold Hid; simp; omega
    have HS5a := Lib.hid (HS5.out.below ((Below.refl _ _).alloc (Nat.le_refl _) (.cells #[.int .i64 r] 2)))
    go_wp2_with (at_builtin; refine wpList_append_own _ rfl (.tmp 31) (.tmp 33) 32 rfl (vb + 1) 2 i0 _ 1 8 Tryz.underlying32 Hi.out Hz0.out Hz1.out Hz2.out rfl (Nat.succ_pos 0) (.slice RA rs.length rc) rs.length (J.ints rs) rfl HOA.out ⟨w5.heap.size, 0, none⟩ 1 1 [.int .i64 r] rfl rfl H1.out (J.ints_one [r]) H3.out H4.out H5.out ?_; intro v' w6 own gr _; obtain ⟨g', m', rfl⟩ := own_shape own; have HS6 := Lib.hid (HS5a.out.grown gr (fun g hg => (HOA.out.lt g hg).1)); have HOW := Lib.hid own; have v6 := HS6.out.v.cell 2; have f6 := HS6.out.v.frozen 2; clear own gr)
    have hap := own_blk_ne HOW.out HS6.out.v (by decide)
    refine ⟨⟨k + 1, rs ++ [r], some ⟨g', 0, none⟩, m', by omega, ?_, by go_num, ?_, ?_⟩, by simp [intOf]; omega⟩
    ·rw [List.length_append, HRS.out]
     rfl
    ·rw [List.length_append]
     exact HS6.out.set_ _
    ·rw [List.length_append, J.ints_snoc]
     exact own_far HOW.out hap _
   ·have hq : (how == 1) = false := by simpa using hh
    have r0 : w5.cell? ⟨sb + 1, 0, none⟩ = some (.int .i64 0) := HS5.out.r.cell 0
    have r1 : w5.cell? ⟨sb + 1, 1, none⟩ = some (.int .i64 0) := HS5.out.r.cell 1
    have r2 : w5.cell? ⟨sb + 1, 2, none⟩ = some (.slice none 0 0) := HS5.out.r.cell 2
    have f0 := HS5.out.r.frozen 0
    have f1 := HS5.out.r.frozen 1
    have f2 := HS5.out.r.frozen 2
    have hsb : sb ≤ sb + 1 := Nat.le_succ _
    go_wp2_with fail
    refine bodyPost_ret (results_cell2 rfl _ _ (sb + 1) 34 #[.int .i64 how, .int .i64 k, .slice none 0 0] _ rfl (((HS5.out.r.set_ 0 (.int .i64 how)).set_ 1 (.int .i64 k)).set_ 2 (.slice none 0 0)) Tryz.underlying34 rfl (by kernel_rfl)) rfl ⟨how, k, none, 0, 0, 0, rfl, ?_⟩
    rw [HSB.out]
    exact ((HS5.out.bl.setCell hsb _).setCell hsb _).setCell hsb _
  ·have hkn : k = n := by omega
   have v0 : wr.cell? ⟨vb, 0, none⟩ = some (.int .i64 1) := HS.out.v.cell 0
   have v1 : wr.cell? ⟨vb, 1, none⟩ = some (.int .i64 0) := HS.out.v.cell 1
   have v2 : wr.cell? ⟨vb, 2, none⟩ = some (.slice RA rs.length rc) := HS.out.v.cell 2
   have r0 : wr.cell? ⟨sb + 1, 0, none⟩ = some (.int .i64 0) := HS.out.r.cell 0
   have r1 : wr.cell? ⟨sb + 1, 1, none⟩ = some (.int .i64 0) := HS.out.r.cell 1
   have r2 : wr.cell? ⟨sb + 1, 2, none⟩ = some (.slice none 0 0) := HS.out.r.cell 2
   have f0 := HS.out.r.frozen 0
   have f1 := HS.out.r.frozen 1
   have f2 := HS.out.r.frozen 2
   have hsb : sb ≤ sb + 1 := Nat.le_succ _
   have dl : ¬ (k : Int) < (n : Int) := by omega
   clear hkn
   go_wp2_with fail
   refine bodyPost_ret (results_cell2 rfl _ _ (sb + 1) 34 #[.int .i64 1, .int .i64 0, .slice RA rs.length rc] _ rfl (((HS.out.r.set_ 0 (.int .i64 1)).set_ 1 (.int .i64 0)).set_ 2 (.slice RA rs.length rc)) Tryz.underlying34 rfl (by kernel_rfl)) rfl ⟨⟨1, 0, RA, rs.length, rc, 0, rfl⟩, ?_⟩
   rw [HSB.out]
   exact ((HS.out.bl.setCell hsb _).setCell hsb _).setCell hsb _
end Go.Proofs.YtdgfjpbjiccllaaGreatDoor.F
