/- Joined texts: Exe7. -/
import Derived.Test.YtdgfjpbjiccllaaGreatDoorTopAgain25
namespace Go.Proofs.YtdgfjpbjiccllaaGreatDoor.F
open Go.RowKit
open YtdgfjpbjiccllaaGreatDoorW.PrintWords YtdgfjpbjiccllaaGreatDoorW.PrintLast YtdgfjpbjiccllaaGreatDoorW.PrintMore
open PTopLoads (S46 k46 z46 k46_mk S57 k57 z57)
open X
open V (k0)
set_option maxRecDepth 100000
set_option maxHeartbeats 8000000 in
theorem do_load2 {rel : Int} {L : List S46} (hG : SetG rel L) {w : World} {ep : Nat} {r0 : Int} {t0 : Value} {b0 : Bool} {s : ByteArray} (hT : SetTextP s rel L) (htab : Lib.TabIs Tryz.prog w "strings.asciiSpace" .u8 Lib.asciiSpaceTab) (hE : Blk w ep 62 #[.int .i64 r0, t0, .bool b0, .pointer none]) :
  Calls Tryz.prog 10 #[.pointer (some ⟨ep, 0, none⟩), .agg #[.int .i64 1, .string s, .bool false, .slice none 0 0]] w fun e w' => ∃ TA tc R, e = .returned (.agg (repC 0 s.size 0 0 (.slice none 0 0) (.slice none 0 0))) ∧ TasksAt w' w.heap.size (.slice TA L.length tc) L R ∧ Blk w' ep 62 #[.int .i64 rel, .slice TA L.length tc, .bool true, .pointer none] ∧ w.grownBy w' (some ep) := by
 have hb0 := ((Below.refl w.heap.size w).alloc (Nat.le_refl _) (.cells #[.int .i64 1, .string s, .bool false, .slice none 0 0] 40)).alloc (by simp) (.cells #[.int .i64 0, .int .i64 0, .int .i64 0, .int .i64 0, .slice none 0 0, .string ⟨#[]⟩, .slice none 0 0] 37)
 have HB0 := Lib.hid hb0
 have hel := hE.lt
 have HE := Lib.hid ((hE.alloc (.cells #[.int .i64 1, .string s, .bool false, .slice none 0 0] 40)).alloc (.cells #[.int .i64 0, .int .i64 0, .int .i64 0, .int .i64 0, .slice none 0 0, .string ⟨#[]⟩, .slice none 0 0] 37))
 have HP := Lib.hid (exec_load hT (Lib.tabBelow_of_tabIs htab _ hb0) hG.r0 hG.r1 hG.n1 hG.n8 hG.tk hG.ne HE.out)
 simp only [repC] at HP
 obtain ⟨n, hn⟩ : ∃ n, L.length = n := ⟨_, rfl⟩
 rw [hn] at HP ⊢
 clear hb0 hT htab hE hn
 have HC := Lib.hid ((Blk.new w 40 #[.int .i64 1, .string s, .bool false, .slice none 0 0]).alloc (.cells #[.int .i64 0, .int .i64 0, .int .i64 0, .int .i64 0, .slice none 0 0, .string ⟨#[]⟩, .slice none 0 0] 37))
 have HS := Blk.new (w.alloc (.cells #[.int .i64 1, .string s, .bool false, .slice none 0 0] 40)) 37 #[.int .i64 0, .int .i64 0, .int .i64 0, .int .i64 0, .slice none 0 0, .string ⟨#[]⟩, .slice none 0 0]
 rw [show (w.alloc (.cells #[.int .i64 1, .string s, .bool false, .slice none 0 0] 40)).heap.size = w.heap.size + 1 from by simp] at HS
 have HS := Lib.hid HS
 obtain ⟨cb, hcb⟩ : ∃ cb, w.heap.size = cb := ⟨_, rfl⟩
 have HCB := Lib.hid hcb
 go_enter Tryz.func10, Tryz.ntmps10
 go_upto_region 1 with fail
 obtain ⟨w1, hw1⟩ : ∃ w1, (w.alloc (.cells #[.int .i64 1, .string s, .bool false, .slice none 0 0] 40)).alloc (.cells #[.int .i64 0, .int .i64 0, .int .i64 0, .int .i64 0, .slice none 0 0, .string ⟨#[]⟩, .slice none 0 0] 37) = w1 := ⟨_, rfl⟩
 rw [HCB.out] at HS HC
 obtain ⟨sb, hsb⟩ : ∃ sb, cb + 1 = sb := ⟨_, rfl⟩
 rw [hw1] at HB0 HC HS HP HE ⊢
 rw [hsb] at HS ⊢
 have HSB := Lib.hid hsb
 clear hw1
 have c0 := HC.out.cell 0
 have c1 := HC.out.cell 1
 have c2 := HC.out.cell 2
 have c3 := HC.out.cell 3
 simp at c0 c1 c2 c3
 have hcl := HC.out.lt
 have hsl := HS.out.lt
 have hse : sb ≠ ep := by omega
 have hes : ep ≠ sb := by omega
 clear hsb hcb
 go_wp2_with (go_at_call 20; refine (HP.out).mono ?_; rintro e w2 ⟨TA, tc, R, rfl, hTs, hE2, hg⟩; have HTs := Lib.hid hTs; have HE2 := Lib.hid hE2; have HG := Lib.hid hg; have HS2 := Lib.hid (HS.out.grown hg (by simpa using hse)); have hl2 := HS2.out.lt; clear hTs hE2 hg; have t0' := HS2.out.cell 0; have t1 := HS2.out.cell 1; have t2 := HS2.out.cell 2; have t3 := HS2.out.cell 3; have t4 := HS2.out.cell 4; have t5 := HS2.out.cell 5; have t6 := HS2.out.cell 6; have u0 := HS2.out.frozen 0; have u1 := HS2.out.frozen 1; have u2 := HS2.out.frozen 2; have u3 := HS2.out.frozen 3; have u4 := HS2.out.frozen 4; have u5 := HS2.out.frozen 5; have u6 := HS2.out.frozen 6)
 obtain ⟨h7, g7⟩ := set7 HS2.out (.int .i64 0) (.int .i64 s.size) (.int .i64 0) (.int .i64 0) (.slice none 0 0) (.string ⟨#[]⟩) (.slice none 0 0)
 have hws : w.heap.size ≤ sb := by rw [HCB.out, ← HSB.out]; exact Nat.le_succ _
 refine bodyPost_ret (results_cell1 rfl _ _ sb 37 (repC 0 s.size 0 0 (.slice none 0 0) (.slice none 0 0)) _ rfl h7 Tryz.underlying37 rfl (by kernel_rfl)) rfl ⟨TA, tc, R, rfl, tasks_mono (HTs.out.fr (E := 0) (ts := [37]) (C := 0) (Fr.of_blk g7 HS2.out (Nat.zero_le _) (by simp)) (by decide) (by decide)) HB0.out.size, HE2.out.grown g7 (by simpa using hes), ?_⟩
 have HG0 := Lib.hid (grown_trans (only_of_below HB0.out (some ep)) HG.out)
 exact only_setCell (only_setCell (only_setCell (only_setCell (only_setCell (only_setCell (only_setCell HG0.out (p := ⟨sb, 0, none⟩) (.inr hws) _) (p := ⟨sb, 1, none⟩) (.inr hws) _) (p := ⟨sb, 2, none⟩) (.inr hws) _) (p := ⟨sb, 3, none⟩) (.inr hws) _) (p := ⟨sb, 4, none⟩) (.inr hws) _) (p := ⟨sb, 5, none⟩) (.inr hws) _) (p := ⟨sb, 6, none⟩) (.inr hws) _
set_option maxHeartbeats 8000000 in
theorem do_start2 {rel : Int} {L : List S46} (hG : SetG rel L) {w : World} {ep B0 c : Nat} {A : Option Addr} {R : List Value} (hE0 : Blk w ep 62 #[.int .i64 rel, .slice A L.length c, .bool true, .pointer none]) (hT : TasksAt w B0 (.slice A L.length c) L R) (htab : Lib.TabIs Tryz.prog w "strings.asciiSpace" .u8 Lib.asciiSpaceTab) :
  Calls Tryz.prog 10 #[.pointer (some ⟨ep, 0, none⟩), .agg #[.int .i64 5, .string ⟨#[]⟩, .bool true, .slice none 0 0]] w fun e w' => ∃ (how tsk err : Int) (RA : Option Addr) (rn rc B kp : Nat) (A' : Ad) (jv : List Value) (ev : Value), e = .returned (.agg (repC err 0 how tsk (.slice RA rn rc) (.slice none 0 0))) ∧ Blk w' ep 62 #[.int .i64 rel, .slice A L.length c, .bool true, .pointer (some ⟨kp, 0, none⟩)] ∧ KAt B w' B kp A' jv ev (pdOf (k0 L rel)) (k0 L rel) ∧ ep < B ∧ w.heap.size ≤ B ∧ B ≤ w'.heap.size ∧ w.grownBy w' (some ep) := by
 have hb0 := ((Below.refl w.heap.size w).alloc (Nat.le_refl _) (.cells #[.int .i64 5, .string ⟨#[]⟩, .bool true, .slice none 0 0] 40)).alloc (by simp) (.cells #[.int .i64 0, .int .i64 0, .int .i64 0, .int .i64 0, .slice none 0 0, .string ⟨#[]⟩, .slice none 0 0] 37)
 have HB0 := Lib.hid hb0
 have hel := hE0.lt
 have HE := Lib.hid ((hE0.alloc (.cells #[.int .i64 5, .string ⟨#[]⟩, .bool true, .slice none 0 0] 40)).alloc (.cells #[.int .i64 0, .int .i64 0, .int .i64 0, .int .i64 0, .slice none 0 0, .string ⟨#[]⟩, .slice none 0 0] 37))
 have HP := Lib.hid (exec_start2 hG HE.out (tasks_below hT hb0) (Lib.tabBelow_of_tabIs htab _ hb0))
 simp only [repC] at HP
 obtain ⟨n, hn⟩ : ∃ n, L.length = n := ⟨_, rfl⟩
 obtain ⟨K, hK0⟩ : ∃ K, k0 L rel = K := ⟨_, rfl⟩
 rw [hn] at HP HE ⊢
 rw [hK0] at HP ⊢
 clear hb0 hT htab hE0 hn hK0
 have HC := Lib.hid ((Blk.new w 40 #[.int .i64 5, .string ⟨#[]⟩, .bool true, .slice none 0 0]).alloc (.cells #[.int .i64 0, .int .i64 0, .int .i64 0, .int .i64 0, .slice none 0 0, .string ⟨#[]⟩, .slice none 0 0] 37))
 have HS := Blk.new (w.alloc (.cells #[.int .i64 5, .string ⟨#[]⟩, .bool true, .slice none 0 0] 40)) 37 #[.int .i64 0, .int .i64 0, .int .i64 0, .int .i64 0, .slice none 0 0, .string ⟨#[]⟩, .slice none 0 0]
 rw [show (w.alloc (.cells #[.int .i64 5, .string ⟨#[]⟩, .bool true, .slice none 0 0] 40)).heap.size = w.heap.size + 1 from by simp] at HS
 have HS := Lib.hid HS
 obtain ⟨cb, hcb⟩ : ∃ cb, w.heap.size = cb := ⟨_, rfl⟩
 have HCB := Lib.hid hcb
 go_enter Tryz.func10, Tryz.ntmps10
 go_upto_region 1 with fail
 obtain ⟨w1, hw1⟩ : ∃ w1, (w.alloc (.cells #[.int .i64 5, .string ⟨#[]⟩, .bool true, .slice none 0 0] 40)).alloc (.cells #[.int .i64 0, .int .i64 0, .int .i64 0, .int .i64 0, .slice none 0 0, .string ⟨#[]⟩, .slice none 0 0] 37) = w1 := ⟨_, rfl⟩
 rw [HCB.out] at HS HC
 obtain ⟨sb, hsb⟩ : ∃ sb, cb + 1 = sb := ⟨_, rfl⟩
 rw [hw1] at HB0 HC HS HP HE ⊢
 rw [hsb] at HS ⊢
 have HSB := Lib.hid hsb
 clear hw1
 have c0 := HC.out.cell 0
 have c1 := HC.out.cell 1
 have c2 := HC.out.cell 2
 have c3 := HC.out.cell 3
 simp at c0 c1 c2 c3
 have hcl := HC.out.lt
 have hsl := HS.out.lt
 have hse : sb ≠ ep := by omega
 have hes : ep ≠ sb := by omega
 clear hsb hcb
 go_wp2_with (go_at_call 25; refine (HP.out).mono ?_; rintro e w2 ⟨how, tsk, err, RA, rn, rc, B, kp, A', jv, ev, rfl, hE2, hK, heB, hwB, hBz, hg⟩; have HE2 := Lib.hid hE2; have HK := Lib.hid hK; have HWB := Lib.hid hwB; have HBZ := Lib.hid hBz; have HG := Lib.hid hg; have HS2 := Lib.hid (HS.out.grown hg (by simpa using hse)); have hl2 := HS2.out.lt; clear hE2 hg hK hwB hBz; have t0' := HS2.out.cell 0; have t1 := HS2.out.cell 1; have t2 := HS2.out.cell 2; have t3 := HS2.out.cell 3; have t4 := HS2.out.cell 4; have t5 := HS2.out.cell 5; have t6 := HS2.out.cell 6; have u0 := HS2.out.frozen 0; have u1 := HS2.out.frozen 1; have u2 := HS2.out.frozen 2; have u3 := HS2.out.frozen 3; have u4 := HS2.out.frozen 4; have u5 := HS2.out.frozen 5; have u6 := HS2.out.frozen 6)
 obtain ⟨h7, g7⟩ := set7 HS2.out (.int .i64 err) (.int .i64 0) (.int .i64 how) (.int .i64 tsk) (.slice RA rn rc) (.string ⟨#[]⟩) (.slice none 0 0)
 have hws : w.heap.size ≤ sb := by rw [HCB.out, ← HSB.out]; exact Nat.le_succ _
 refine bodyPost_ret (results_cell1 rfl _ _ sb 37 (repC err 0 how tsk (.slice RA rn rc) (.slice none 0 0)) _ rfl h7 Tryz.underlying37 rfl (by kernel_rfl)) rfl ⟨how, tsk, err, RA, rn, rc, B, kp, A', jv, ev, rfl, HE2.out.grown g7 (by simpa using hes), HK.out.fr (E := B) (ts := [37]) (C := 0) (Fr.of_blk g7 HS2.out (Nat.zero_le _) (by simp)) (by decide), heB, Nat.le_trans HB0.out.size HWB.out, Nat.le_trans HBZ.out g7.size, ?_⟩
 have HG0 := Lib.hid (grown_trans (only_of_below HB0.out (some ep)) HG.out)
 exact only_setCell (only_setCell (only_setCell (only_setCell (only_setCell (only_setCell (only_setCell HG0.out (p := ⟨sb, 0, none⟩) (.inr hws) _) (p := ⟨sb, 1, none⟩) (.inr hws) _) (p := ⟨sb, 2, none⟩) (.inr hws) _) (p := ⟨sb, 3, none⟩) (.inr hws) _) (p := ⟨sb, 4, none⟩) (.inr hws) _) (p := ⟨sb, 5, none⟩) (.inr hws) _) (p := ⟨sb, 6, none⟩) (.inr hws) _
set_option maxHeartbeats 8000000 in
theorem do_stop {w : World} {ep kp : Nat} {rv tv : Value} (hE0 : Blk w ep 62 #[rv, tv, .bool true, .pointer (some ⟨kp, 0, none⟩)]) :
  Calls Tryz.prog 10 #[.pointer (some ⟨ep, 0, none⟩), .agg #[.int .i64 7, .string ⟨#[]⟩, .bool false, .slice none 0 0]] w fun e w' => e = .returned (.agg (rep0 (.slice none 0 0))) ∧ Blk w' ep 62 #[rv, tv, .bool true, .pointer none] ∧ w.grownBy w' (some ep) := by
 have hb0 := ((Below.refl w.heap.size w).alloc (Nat.le_refl _) (.cells #[.int .i64 7, .string ⟨#[]⟩, .bool false, .slice none 0 0] 40)).alloc (by simp) (.cells #[.int .i64 0, .int .i64 0, .int .i64 0, .int .i64 0, .slice none 0 0, .string ⟨#[]⟩, .slice none 0 0] 37)
 have HB0 := Lib.hid hb0
 have hel := hE0.lt
 have HE := Lib.hid ((hE0.alloc (.cells #[.int .i64 7, .string ⟨#[]⟩, .bool false, .slice none 0 0] 40)).alloc (.cells #[.int .i64 0, .int .i64 0, .int .i64 0, .int .i64 0, .slice none 0 0, .string ⟨#[]⟩, .slice none 0 0] 37))
 have HP := Lib.hid (exec_stop HE.out)
 simp only [rep0] at HP
 clear hb0 hE0
 have HC := Lib.hid ((Blk.new w 40 #[.int .i64 7, .string ⟨#[]⟩, .bool false, .slice none 0 0]).alloc (.cells #[.int .i64 0, .int .i64 0, .int .i64 0, .int .i64 0, .slice none 0 0, .string ⟨#[]⟩, .slice none 0 0] 37))
 have HS := Blk.new (w.alloc (.cells #[.int .i64 7, .string ⟨#[]⟩, .bool false, .slice none 0 0] 40)) 37 #[.int .i64 0, .int .i64 0, .int .i64 0, .int .i64 0, .slice none 0 0, .string ⟨#[]⟩, .slice none 0 0]
 rw [show (w.alloc (.cells #[.int .i64 7, .string ⟨#[]⟩, .bool false, .slice none 0 0] 40)).heap.size = w.heap.size + 1 from by simp] at HS
 have HS := Lib.hid HS
 obtain ⟨cb, hcb⟩ : ∃ cb, w.heap.size = cb := ⟨_, rfl⟩
 have HCB := Lib.hid hcb
 go_enter Tryz.func10, Tryz.ntmps10
 go_upto_region 1 with fail
 obtain ⟨w1, hw1⟩ : ∃ w1, (w.alloc (.cells #[.int .i64 7, .string ⟨#[]⟩, .bool false, .slice none 0 0] 40)).alloc (.cells #[.int .i64 0, .int .i64 0, .int .i64 0, .int .i64 0, .slice none 0 0, .string ⟨#[]⟩, .slice none 0 0] 37) = w1 := ⟨_, rfl⟩
 rw [HCB.out] at HS HC
 obtain ⟨sb, hsb⟩ : ∃ sb, cb + 1 = sb := ⟨_, rfl⟩
 rw [hw1] at HB0 HC HS HP HE ⊢
 rw [hsb] at HS ⊢
 have HSB := Lib.hid hsb
 clear hw1
 have c0 := HC.out.cell 0
 have c1 := HC.out.cell 1
 have c2 := HC.out.cell 2
 have c3 := HC.out.cell 3
 simp at c0 c1 c2 c3
 have hcl := HC.out.lt
 have hsl := HS.out.lt
 have hse : sb ≠ ep := by omega
 have hes : ep ≠ sb := by omega
 clear hsb hcb
 go_wp2_with (go_at_call 27; refine (HP.out).mono ?_; rintro e w2 ⟨rfl, hE2, hg⟩; have HE2 := Lib.hid hE2; have HG := Lib.hid hg; have HS2 := Lib.hid (HS.out.grown hg (by simpa using hse)); have hl2 := HS2.out.lt; clear hE2 hg; have t0' := HS2.out.cell 0; have t1 := HS2.out.cell 1; have t2 := HS2.out.cell 2; have t3 := HS2.out.cell 3; have t4 := HS2.out.cell 4; have t5 := HS2.out.cell 5; have t6 := HS2.out.cell 6; have u0 := HS2.out.frozen 0; have u1 := HS2.out.frozen 1; have u2 := HS2.out.frozen 2; have u3 := HS2.out.frozen 3; have u4 := HS2.out.frozen 4; have u5 := HS2.out.frozen 5; have u6 := HS2.out.frozen 6)
 obtain ⟨h7, g7⟩ := set7 HS2.out (.int .i64 0) (.int .i64 0) (.int .i64 0) (.int .i64 0) (.slice none 0 0) (.string ⟨#[]⟩) (.slice none 0 0)
 have hws : w.heap.size ≤ sb := by rw [HCB.out, ← HSB.out]; exact Nat.le_succ _
 refine bodyPost_ret (results_cell1 rfl _ _ sb 37 (rep0 (.slice none 0 0)) _ rfl h7 Tryz.underlying37 rfl (by kernel_rfl)) rfl ⟨rfl, HE2.out.grown g7 (by simpa using hes), ?_⟩
 have HG0 := Lib.hid (grown_trans (only_of_below HB0.out (some ep)) HG.out)
 exact only_setCell (only_setCell (only_setCell (only_setCell (only_setCell (only_setCell (only_setCell HG0.out (p := ⟨sb, 0, none⟩) (.inr hws) _) (p := ⟨sb, 1, none⟩) (.inr hws) _) (p := ⟨sb, 2, none⟩) (.inr hws) _) (p := ⟨sb, 3, none⟩) (.inr hws) _) (p := ⟨sb, 4, none⟩) (.inr hws) _) (p := ⟨sb, 5, none⟩) (.inr hws) _) (p := ⟨sb, 6, none⟩) (.inr hws) _
set_option maxHeartbeats 8000000 in
theorem do_ticks2 {w : World} {ep B kp E0 : Nat} {A : Ad} {jv : List Value} {ev rv tv : Value} {IA : Option Addr} {ic : Nat} {l : List S57} {K0 : Kst} {stepF : Kst → S57 → Kst} {Inv : Nat → Kst → Prop} (hl : l.length ≤ 400) (hE0 : Blk w ep 62 #[rv, tv, .bool true, .pointer (some ⟨kp, 0, none⟩)]) (hep : ep < B) (hBw : B ≤ w.heap.size) (hK : KAt E0 w B kp A jv ev (pdOf K0) K0) (hI : ∀ w1, Below w.heap.size w w1 → InsP (fun w2 => Fr w1.heap.size TS B w1 w2) IA l) (h0 : Inv 0 K0) (hst : ∀ w1, Below w.heap.size w w1 → Steps w1 B l stepF Inv) :
  Calls Tryz.prog 10 #[.pointer (some ⟨ep, 0, none⟩), .agg #[.int .i64 6, .string ⟨#[]⟩, .bool false, .slice IA l.length ic]] w fun e w' => ∃ v, e = .returned (.agg (rep0 v)) ∧ w'.ownsRow w.heap.size 50 4 v (runE stepF K0 l).length (evs (runE stepF K0 l)) ∧ Fr w.heap.size TS B w w' ∧ Blk w' ep 62 #[rv, tv, .bool true, .pointer (some ⟨kp, 0, none⟩)] ∧ (∃ E1 jv1 ev1, KAt E1 w' B kp A jv1 ev1 (pdOf (runK stepF K0 l)) (runK stepF K0 l)) := by
 have hb0 := ((Below.refl w.heap.size w).alloc (Nat.le_refl _) (.cells #[.int .i64 6, .string ⟨#[]⟩, .bool false, .slice IA l.length ic] 40)).alloc (by simp) (.cells #[.int .i64 0, .int .i64 0, .int .i64 0, .int .i64 0, .slice none 0 0, .string ⟨#[]⟩, .slice none 0 0] 37)
 have HB0 := Lib.hid hb0
 have hel := hE0.lt
 have HE := Lib.hid ((hE0.alloc (.cells #[.int .i64 6, .string ⟨#[]⟩, .bool false, .slice IA l.length ic] 40)).alloc (.cells #[.int .i64 0, .int .i64 0, .int .i64 0, .int .i64 0, .slice none 0 0, .string ⟨#[]⟩, .slice none 0 0] 37))
 have HP := Lib.hid (ticks_any (ic := ic) hl HE.out hep (Nat.le_trans hBw hb0.size) (hK.fr (E := E0) (ts := []) (C := 0) (Fr.of_below hb0) (by simp)) (hI _ hb0) h0 (hst _ hb0))
 simp only [rep0] at HP
 obtain ⟨ln, hln⟩ : ∃ ln, l.length = ln := ⟨_, rfl⟩
 have HLN := Lib.hid hln
 obtain ⟨EL, hEL⟩ : ∃ EL, runE stepF K0 l = EL := ⟨_, rfl⟩
 obtain ⟨K1, hK1⟩ : ∃ K1, runK stepF K0 l = K1 := ⟨_, rfl⟩
 rw [hln] at HP HB0 HE ⊢
 rw [hEL, hK1] at HP ⊢
 obtain ⟨q, hq⟩ : ∃ q, EL.length = q := ⟨_, rfl⟩
 have HQ := Lib.hid hq
 rw [hq] at HP ⊢
 clear hb0 hI h0 hst hK hE0 hl hln hEL hK1 hq
 have HC := Lib.hid ((Blk.new w 40 #[.int .i64 6, .string ⟨#[]⟩, .bool false, .slice IA ln ic]).alloc (.cells #[.int .i64 0, .int .i64 0, .int .i64 0, .int .i64 0, .slice none 0 0, .string ⟨#[]⟩, .slice none 0 0] 37))
 have HS := Blk.new (w.alloc (.cells #[.int .i64 6, .string ⟨#[]⟩, .bool false, .slice IA ln ic] 40)) 37 #[.int .i64 0, .int .i64 0, .int .i64 0, .int .i64 0, .slice none 0 0, .string ⟨#[]⟩, .slice none 0 0]
 rw [show (w.alloc (.cells #[.int .i64 6, .string ⟨#[]⟩, .bool false, .slice IA ln ic] 40)).heap.size = w.heap.size + 1 from by simp] at HS
 have HS := Lib.hid HS
 obtain ⟨cb, hcb⟩ : ∃ cb, w.heap.size = cb := ⟨_, rfl⟩
 have HCB := Lib.hid hcb
 go_enter Tryz.func10, Tryz.ntmps10
 go_upto_region 1 with fail
 obtain ⟨w1, hw1⟩ : ∃ w1, (w.alloc (.cells #[.int .i64 6, .string ⟨#[]⟩, .bool false, .slice IA ln ic] 40)).alloc (.cells #[.int .i64 0, .int .i64 0, .int .i64 0, .int .i64 0, .slice none 0 0, .string ⟨#[]⟩, .slice none 0 0] 37) = w1 := ⟨_, rfl⟩
 rw [HCB.out] at HS HC
 obtain ⟨sb, hsb⟩ : ∃ sb, cb + 1 = sb := ⟨_, rfl⟩
 rw [hw1] at HB0 HC HS HP HE ⊢
 rw [hsb] at HS ⊢
 have HSB := Lib.hid hsb
 clear hw1
 have c0 := HC.out.cell 0
 have c1 := HC.out.cell 1
 have c2 := HC.out.cell 2
 have c3 := HC.out.cell 3
 simp at c0 c1 c2 c3
 have hcl := HC.out.lt
 have hsl := HS.out.lt
 have hse : sb ≠ ep := by omega
 have hes : ep ≠ sb := by omega
 clear hsb hcb
 go_wp2_with (go_at_call 26; refine (HP.out).mono ?_; rintro e w2 ⟨v, rfl, hown, hf, hkk⟩; obtain ⟨VA, vc, rfl⟩ := own_slice hown; have HO := Lib.hid hown; have HF := Lib.hid hf; have HK := Lib.hid hkk; have HS2 := Lib.hid (HS.out.fr hf (by decide)); have HE2 : Hid (Blk w2 ep 62 #[rv, tv, .bool true, .pointer (some ⟨kp, 0, none⟩)]) := (hf.block ep HE.out.lt (.inl hep)).trans HE.out; have hl2 := HS2.out.lt; clear hown hf hkk; have t0' := HS2.out.cell 0; have t1 := HS2.out.cell 1; have t2 := HS2.out.cell 2; have t3 := HS2.out.cell 3; have t4 := HS2.out.cell 4; have t5 := HS2.out.cell 5; have t6 := HS2.out.cell 6; have u0 := HS2.out.frozen 0; have u1 := HS2.out.frozen 1; have u2 := HS2.out.frozen 2; have u3 := HS2.out.frozen 3; have u4 := HS2.out.frozen 4; have u5 := HS2.out.frozen 5; have u6 := HS2.out.frozen 6)
 obtain ⟨h7, g7⟩ := set7 HS2.out (.int .i64 0) (.int .i64 0) (.int .i64 0) (.int .i64 0) (.slice none 0 0) (.string ⟨#[]⟩) (.slice VA q vc)
 have hws : w.heap.size ≤ sb := by rw [HCB.out, ← HSB.out]; exact Nat.le_succ _
 refine bodyPost_ret (results_cell1 rfl _ _ sb 37 (rep0 (.slice VA q vc)) _ rfl h7 Tryz.underlying37 rfl (by kernel_rfl)) rfl ⟨_, rfl, own_mono (own_fr (E := 0) (ts := [37]) (B := 0) HO.out (Fr.of_blk g7 HS2.out (Nat.zero_le _) (by simp)) (by decide)) HB0.out.size, ?_, HE2.out.grown g7 (by simpa using hes), ?_⟩
 ·have f0 : Fr w.heap.size TS B w w2 := ((Fr.of_below HB0.out : Fr w.heap.size [] B w w1).mono (by simp)).trans (HF.out.lessE HB0.out.size)
  exact f0.later g7 hws
 ·obtain ⟨E1, jv1, ev1, hk⟩ := HK.out
  exact ⟨E1, jv1, ev1, hk.fr (E := E1) (ts := [37]) (C := 0) (Fr.of_blk g7 HS2.out (Nat.zero_le _) (by simp)) (by decide)⟩
end Go.Proofs.YtdgfjpbjiccllaaGreatDoor.F
