/- Of every number of tasks and every script the law TablePlays returns true; no condition. -/
import Derived.Test.YtmbbfakdcfhahaaActs
import Derived.Deep.RegionHeld3
import Derived.Test.YtmbbfakdcfhahaaRows
import Derived.WalkKit
import Derived.ProofKit
import Derived.OpenShut
import Derived.ShutString
import Derived.ChangeOld
import Derived.Below
namespace Go.Proofs.Ytmbbfakdcfhahaa.tablePlays
open Go.ChangeShapes Go.WideShapes Go.ChangeAt Go.RowKit
open Go.ChangeMaps (open_string shut_string)

theorem own : ownKnob Try.prog.godebug = none := by kernel_rfl
theorem laidOut : laidOutB Try.prog = true := by kernel_rfl

/-! ### The walk -/
structure Both (w wr : World) (g a g2 a2 n : Nat) (L : List St) : Prop where
  t : Tab wr 48 g a L
  r : Tab wr 40 g2 a2 L
  len : L.length = n
  b : Below w.heap.size w wr

set_option maxRecDepth 100000 in
set_option maxHeartbeats 16000000 in
theorem walk (a0 : Int) (a1 : Option Addr) (len1 cap1 : Nat) (X1 : Nat → Act) (w : World) (_w0 : (Lit.int .i64 a0).wf = true) (w1 : IsActs w a1 len1 X1) :
    Calls Try.prog 4 #[.int .i64 a0, .slice a1 len1 cap1] w fun e w' => e = .returned (.bool true) ∧ Below w.heap.size w w' := by
  by_cases h100 : 100 < len1
  · go_enter Try.func4, Try.ntmps4
    go_wp2
    go_ret
    exact ⟨rfl, Below.refl _ _⟩
  by_cases hn : a0 < 1 ∨ 8 < a0
  · have HN := Lib.hid hn
    clear hn
    go_enter Try.func4, Try.ntmps4
    go_wp2_with fail
    refine (tnew_no a0 HN.out w).mono ?_
    rintro e w' ⟨rfl, rfl⟩
    go_wp2_with fail
    refine (rnew_no a0 HN.out w).mono ?_
    rintro e w' ⟨rfl, rfl⟩
    go_wp2_with fail
    go_loop [7] (fun _ => True) (fun _ => 0)
    case atStart => trivial
    case round =>
      go_wp2_with fail
      refine (known_any w).mono ?_
      rintro e w' ⟨rfl, b⟩
      go_wp2
      go_ret
      exact ⟨rfl, b⟩
  · obtain ⟨n, rfl⟩ := Int.eq_ofNat_of_zero_le (show 0 ≤ a0 by omega)
    have l1 : 1 ≤ n := by omega
    have l8 : n ≤ 8 := by omega
    clear hn
    have HW := Lib.hid w1
    clear w1
    go_enter Try.func4, Try.ntmps4
    go_wp2_with fail
    refine (tnew_yes n l1 l8 w).mono ?_
    rintro e w1 ⟨rfl, h1, b1⟩
    go_wp2_with fail
    refine (rnew_yes n l1 l8 w1).mono ?_
    rintro e w2 ⟨rfl, h2, b2⟩
    have hg := h1.hd.lt
    have ha := h1.row.lt
    have hB : Both w w2 (w.heap.size + 1) w.heap.size (w1.heap.size + 1) w1.heap.size n (zeros n) := ⟨⟨h1.hd.below b2 hg, h1.row.below b2 ha⟩, h2, by simp [zeros], b1.trans (b2.mono b1.size)⟩
    clear h1 h2 b1 b2
    obtain ⟨g2, hg2⟩ : ∃ g2, w1.heap.size = g2 := ⟨_, rfl⟩
    rw [hg2] at hB hg ha ⊢
    clear hg2
    go_wp2_with fail
    go_loopw [7] (fun z wr => ∃ (k : Nat) (L : List St), k ≤ len1 ∧ z = .int .i64 k ∧ Both w wr (w.heap.size + 1) w.heap.size (g2 + 1) g2 n L) (fun z _ => len1 - (intOf z).toNat)
    case atStart => exact ⟨0, _, Nat.zero_le _, rfl, hB⟩
    case round =>
      obtain ⟨k, L, hk, rfl, hb⟩ := hrel
      clear hB
      by_cases hlt : k < len1
      · rcases HW.out with h0 | ⟨b, off, rfl, hbl, hcell⟩
        · omega
        obtain ⟨d0, d1, d2, d3⟩ := hcell k hlt
        obtain ⟨kd, tk, ti, is, hX⟩ : ∃ kd tk ti is, X1 k = ⟨kd, tk, ti, is⟩ := ⟨_, _, _, _, rfl⟩
        rw [hX] at d0 d1 d2 d3
        have c0 : wr.cell? ⟨b, off + k * 4, none⟩ = some (.int .i64 kd) := (hb.b.cell (p := ⟨b, off + k * 4, none⟩) hbl).trans d0
        have c1 : wr.cell? ⟨b, off + k * 4 + 1, none⟩ = some (.int .i64 tk) := (hb.b.cell (p := ⟨b, off + (k * 4 + 1), none⟩) hbl).trans d1
        have c2 : wr.cell? ⟨b, off + k * 4 + 2, none⟩ = some (.int .i64 ti) := (hb.b.cell (p := ⟨b, off + (k * 4 + 2), none⟩) hbl).trans d2
        have c3 : wr.cell? ⟨b, off + k * 4 + 3, none⟩ = some (.bool is) := (hb.b.cell (p := ⟨b, off + (k * 4 + 3), none⟩) hbl).trans d3
        clear d0 d1 d2 d3 hcell hX
        by_cases e1 : kd = 1
        · subst e1
          go_wp2_with fail
          have hwa : ∃ wa, wr.alloc (.cells #[.int .i64 1, .int .i64 tk, .int .i64 ti, .bool is] 34) = wa := ⟨_, rfl⟩
          have A0 := Blk.new wr 34 #[.int .i64 1, .int .i64 tk, .int .i64 ti, .bool is]
          have A1 := hb.t.keep (only_alloc (World.grownBy.refl wr none) (.cells #[.int .i64 1, .int .i64 tk, .int .i64 ti, .bool is] 34)) (by simp) (by simp)
          have A2 := hb.r.keep (only_alloc (World.grownBy.refl wr none) (.cells #[.int .i64 1, .int .i64 tk, .int .i64 ti, .bool is] 34)) (by simp) (by simp)
          have A3 := hb.b.alloc hb.b.size (.cells #[.int .i64 1, .int .i64 tk, .int .i64 ti, .bool is] 34)
          have A4 := hb.len
          have hbs := hb.b.size
          have hrs := hb.r.row.lt
          obtain ⟨wa, hwa⟩ := hwa
          rw [hwa] at A0 A1 A2 A3 ⊢
          obtain ⟨ga, hga⟩ : ∃ ga, wr.heap.size = ga := ⟨_, rfl⟩
          rw [hga] at A0 hbs hrs ⊢
          have q1 : wa.cell? ⟨ga, 1, none⟩ = some (.int .i64 tk) := A0.cell 1
          have q2 : wa.cell? ⟨ga, 2, none⟩ = some (.int .i64 ti) := A0.cell 2
          have q3 : wa.cell? ⟨ga, 3, none⟩ = some (.bool is) := A0.cell 3
          clear hwa hga c0 c1 c2 c3 A0 hb
          go_region_held3 (fun w' => w'.cell? ⟨ga, 1, none⟩ = some (.int .i64 tk) ∧ w'.cell? ⟨ga, 2, none⟩ = some (.int .i64 ti)) (go_keep) (first
            | (go_at_call 7
               refine (tput_any (w.heap.size + 1) w.heap.size L tk ti _ A1.drew).mono ?_
               rintro e w2 ⟨rfl, h2, f2⟩
               have q21 : w2.cell? ⟨ga, 1, none⟩ = some (.int .i64 tk) := f2.cell q1 (by simp; omega)
               have q22 : w2.cell? ⟨ga, 2, none⟩ = some (.int .i64 ti) := f2.cell q2 (by simp; omega)
               have r2 := A2.drew.keep f2 (by simp; omega) (by simp; omega))
            | (go_at_call 11
               refine (rput_any (g2 + 1) g2 L tk ti _ r2).mono ?_
               rintro e w3 ⟨rfl, h3, f3⟩
               have q31 : w3.cell? ⟨ga, 1, none⟩ = some (.int .i64 tk) := f3.cell q21 (by simp; omega)
               have q32 : w3.cell? ⟨ga, 2, none⟩ = some (.int .i64 ti) := f3.cell q22 (by simp; omega)))
          have hb3 : Both w w3 (w.heap.size + 1) w.heap.size (g2 + 1) g2 n (putL L tk ti) := ⟨h2.keep f3 (by simp; omega) (by simp; omega), h3, by unfold putL; split <;> simp [A4], ((A3.drew).grown f2 (by have := A3.size; simpa using this) (fun k e => by injection e with e; omega)).grown f3 (Nat.le_trans A3.size f2.size) (fun k e => by injection e with e; omega)⟩
          clear h2 h3 f2 f3 A1 A2 A3 A4 r2 q1 q2 q3 q21 q22 q32 hrs hbs
          go_wp2_with fail
          have hcx : w3.cell? ⟨g2 + 1, 0, none⟩ = some (.slice (some ⟨g2, 0, none⟩) (putL L tk ti).length (putL L tk ti).length) := hb3.r.slice
          have hl8 : (putL L tk ti).length ≤ 8 := by rw [hb3.len]; exact l8
          have hl1 : 1 ≤ (putL L tk ti).length := by rw [hb3.len]; exact l1
          have hgx : g2 + 1 < w3.heap.size := hb3.r.hd.lt
          have hgy : ga < w3.heap.size := World.block_lt_of_cell? _ _ q31
          go_region_held3 (fun w' => w'.cell? ⟨ga, 1, none⟩ = some (.int .i64 tk) ∧ w'.cell? ⟨g2 + 1, 0, none⟩ = some (.slice (some ⟨g2, 0, none⟩) (putL L tk ti).length (putL L tk ti).length)) (go_keep) (first
            | (go_at_call 20
               refine (tall_any (w.heap.size + 1) w.heap.size (putL L tk ti) _ hb3.t.drew hl8).mono ?_
               rintro e w4 ⟨v, rfl, hown, b4⟩
               obtain ⟨gv, cv, rfl⟩ : ∃ gv cv, v = .slice (some ⟨gv, 0, none⟩) (putL L tk ti).length cv := by
                 rcases hown.2 with ⟨_, h⟩ | ⟨g, cap, _, h, _⟩
                 · omega
                 · exact ⟨g, cap, h⟩
               have q41 : w4.cell? ⟨ga, 1, none⟩ = some (.int .i64 tk) := (b4.cell (p := ⟨ga, 1, none⟩) hgy).trans q31
               have q42 : w4.cell? ⟨g2 + 1, 0, none⟩ = some (.slice (some ⟨g2, 0, none⟩) (putL L tk ti).length (putL L tk ti).length) := (b4.cell (p := ⟨g2 + 1, 0, none⟩) hgx).trans hcx
               have t4 : Tab w4 48 (w.heap.size + 1) w.heap.size (putL L tk ti) := ⟨hb3.t.drew.hd.below b4 hb3.t.drew.hd.lt, hb3.t.drew.row.below b4 hb3.t.drew.row.lt⟩
               have r4 : Tab w4 40 (g2 + 1) g2 (putL L tk ti) := ⟨hb3.r.drew.hd.below b4 hb3.r.drew.hd.lt, hb3.r.drew.row.below b4 hb3.r.drew.row.lt⟩
               have k4 : Below w.heap.size w w4 := hb3.b.drew.trans (b4.mono hb3.b.size)
               have rw4 := Rw.own hown)
            | (go_at_call 19
               refine (rsame_any gv g2 cv (putL L tk ti).length (putL L tk ti).length (putL L tk ti) _ rw4 r4.rw rfl hl8).mono ?_
               rintro e w5 ⟨rfl, f5⟩
               have q51 : w5.cell? ⟨ga, 1, none⟩ = some (.int .i64 tk) := f5.cell q41 (by simp)
               have q52 : w5.cell? ⟨g2 + 1, 0, none⟩ = some (.slice (some ⟨g2, 0, none⟩) (putL L tk ti).length (putL L tk ti).length) := f5.cell q42 (by simp)
               have t5 := t4.keep f5 (by simp) (by simp)
               have r5 := r4.keep f5 (by simp) (by simp)
               have k5 : Below w.heap.size w w5 := k4.grown f5 k4.size (fun k e => by cases e))
            | (go_at_call 21
               refine (tstate_any (w.heap.size + 1) w.heap.size (putL L tk ti) tk _ t5).mono ?_
               rintro e w6 ⟨rfl, f6⟩
               unfold St.val
               have q61 : w6.cell? ⟨ga, 1, none⟩ = some (.int .i64 tk) := f6.cell q51 (by simp)
               have q62 : w6.cell? ⟨g2 + 1, 0, none⟩ = some (.slice (some ⟨g2, 0, none⟩) (putL L tk ti).length (putL L tk ti).length) := f6.cell q52 (by simp)
               have t6 := t5.keep f6 (by simp) (by simp)
               have r6 := r5.keep f6 (by simp) (by simp)
               have k6 : Below w.heap.size w w6 := k5.grown f6 k5.size (fun k e => by cases e))
            | (go_at_call 22
               refine (rstate_any (g2 + 1) g2 (putL L tk ti) tk _ r6).mono ?_
               rintro e w7 ⟨rfl, f7⟩
               unfold St.val
               have q71 : w7.cell? ⟨ga, 1, none⟩ = some (.int .i64 tk) := f7.cell q61 (by simp)
               have q72 : w7.cell? ⟨g2 + 1, 0, none⟩ = some (.slice (some ⟨g2, 0, none⟩) (putL L tk ti).length (putL L tk ti).length) := f7.cell q62 (by simp)
               have t7 := t6.keep f7 (by simp) (by simp)
               have r7 := r6.keep f7 (by simp) (by simp)
               have k7 : Below w.heap.size w w7 := k6.grown f7 k6.size (fun k e => by cases e)))
          have hb7 : Both w w7 (w.heap.size + 1) w.heap.size (g2 + 1) g2 n (putL L tk ti) := ⟨t7, r7, hb3.len, k7⟩
          clear t4 t5 t6 t7 r4 r5 r6 r7 k4 k5 k6 k7 q41 q42 q51 q52 q61 q62 q71 q72 f5 f6 f7 rw4 hown b4 hb3 q31 hcx
          go_wp2_with fail
          go_roundw
          case rel => exact ⟨k + 1, _, by omega, by go_num, hb7⟩
          case measure => simp [intOf]; omega
        by_cases e2 : kd = 2
        · subst e2
          clear e1
          go_wp2_with fail
          have hwa : ∃ wa, wr.alloc (.cells #[.int .i64 2, .int .i64 tk, .int .i64 ti, .bool is] 34) = wa := ⟨_, rfl⟩
          have A0 := Blk.new wr 34 #[.int .i64 2, .int .i64 tk, .int .i64 ti, .bool is]
          have A1 := hb.t.keep (only_alloc (World.grownBy.refl wr none) (.cells #[.int .i64 2, .int .i64 tk, .int .i64 ti, .bool is] 34)) (by simp) (by simp)
          have A2 := hb.r.keep (only_alloc (World.grownBy.refl wr none) (.cells #[.int .i64 2, .int .i64 tk, .int .i64 ti, .bool is] 34)) (by simp) (by simp)
          have A3 := hb.b.alloc hb.b.size (.cells #[.int .i64 2, .int .i64 tk, .int .i64 ti, .bool is] 34)
          have A4 := hb.len
          have hbs := hb.b.size
          have hrs := hb.r.row.lt
          obtain ⟨wa, hwa⟩ := hwa
          rw [hwa] at A0 A1 A2 A3 ⊢
          obtain ⟨ga, hga⟩ : ∃ ga, wr.heap.size = ga := ⟨_, rfl⟩
          rw [hga] at A0 hbs hrs ⊢
          have q1 : wa.cell? ⟨ga, 1, none⟩ = some (.int .i64 tk) := A0.cell 1
          have q2 : wa.cell? ⟨ga, 2, none⟩ = some (.int .i64 ti) := A0.cell 2
          have q3 : wa.cell? ⟨ga, 3, none⟩ = some (.bool is) := A0.cell 3
          clear hwa hga c0 c1 c2 c3 A0 hb
          go_region_held3 (fun w' => w'.cell? ⟨ga, 1, none⟩ = some (.int .i64 tk)) (go_keep) (first
            | (go_at_call 12
               refine (tbegin_any (w.heap.size + 1) w.heap.size L tk _ A1.drew).mono ?_
               rintro e w2 ⟨rfl, h2, f2⟩
               have q21 : w2.cell? ⟨ga, 1, none⟩ = some (.int .i64 tk) := f2.cell q1 (by simp; omega)
               have r2 := A2.drew.keep f2 (by simp; omega) (by simp; omega))
            | (go_at_call 13
               refine (rbegin_any (g2 + 1) g2 L tk _ r2).mono ?_
               rintro e w3 ⟨rfl, h3, f3⟩
               have q31 : w3.cell? ⟨ga, 1, none⟩ = some (.int .i64 tk) := f3.cell q21 (by simp; omega)))
          have hb3 : Both w w3 (w.heap.size + 1) w.heap.size (g2 + 1) g2 n (beginL L tk) := ⟨h2.keep f3 (by simp; omega) (by simp; omega), h3, by unfold beginL; split <;> simp [A4], ((A3.drew).grown f2 (by have := A3.size; simpa using this) (fun k e => by injection e with e; omega)).grown f3 (Nat.le_trans A3.size f2.size) (fun k e => by injection e with e; omega)⟩
          clear h2 h3 f2 f3 A1 A2 A3 A4 r2 q1 q2 q3 q21 hrs hbs
          go_wp2_with fail
          have hcx : w3.cell? ⟨g2 + 1, 0, none⟩ = some (.slice (some ⟨g2, 0, none⟩) (beginL L tk).length (beginL L tk).length) := hb3.r.slice
          have hl8 : (beginL L tk).length ≤ 8 := by rw [hb3.len]; exact l8
          have hl1 : 1 ≤ (beginL L tk).length := by rw [hb3.len]; exact l1
          have hgx : g2 + 1 < w3.heap.size := hb3.r.hd.lt
          have hgy : ga < w3.heap.size := World.block_lt_of_cell? _ _ q31
          go_region_held3 (fun w' => w'.cell? ⟨ga, 1, none⟩ = some (.int .i64 tk) ∧ w'.cell? ⟨g2 + 1, 0, none⟩ = some (.slice (some ⟨g2, 0, none⟩) (beginL L tk).length (beginL L tk).length)) (go_keep) (first
            | (go_at_call 20
               refine (tall_any (w.heap.size + 1) w.heap.size (beginL L tk) _ hb3.t.drew hl8).mono ?_
               rintro e w4 ⟨v, rfl, hown, b4⟩
               obtain ⟨gv, cv, rfl⟩ : ∃ gv cv, v = .slice (some ⟨gv, 0, none⟩) (beginL L tk).length cv := by
                 rcases hown.2 with ⟨_, h⟩ | ⟨g, cap, _, h, _⟩
                 · omega
                 · exact ⟨g, cap, h⟩
               have q41 : w4.cell? ⟨ga, 1, none⟩ = some (.int .i64 tk) := (b4.cell (p := ⟨ga, 1, none⟩) hgy).trans q31
               have q42 : w4.cell? ⟨g2 + 1, 0, none⟩ = some (.slice (some ⟨g2, 0, none⟩) (beginL L tk).length (beginL L tk).length) := (b4.cell (p := ⟨g2 + 1, 0, none⟩) hgx).trans hcx
               have t4 : Tab w4 48 (w.heap.size + 1) w.heap.size (beginL L tk) := ⟨hb3.t.drew.hd.below b4 hb3.t.drew.hd.lt, hb3.t.drew.row.below b4 hb3.t.drew.row.lt⟩
               have r4 : Tab w4 40 (g2 + 1) g2 (beginL L tk) := ⟨hb3.r.drew.hd.below b4 hb3.r.drew.hd.lt, hb3.r.drew.row.below b4 hb3.r.drew.row.lt⟩
               have k4 : Below w.heap.size w w4 := hb3.b.drew.trans (b4.mono hb3.b.size)
               have rw4 := Rw.own hown)
            | (go_at_call 19
               refine (rsame_any gv g2 cv (beginL L tk).length (beginL L tk).length (beginL L tk) _ rw4 r4.rw rfl hl8).mono ?_
               rintro e w5 ⟨rfl, f5⟩
               have q51 : w5.cell? ⟨ga, 1, none⟩ = some (.int .i64 tk) := f5.cell q41 (by simp)
               have q52 : w5.cell? ⟨g2 + 1, 0, none⟩ = some (.slice (some ⟨g2, 0, none⟩) (beginL L tk).length (beginL L tk).length) := f5.cell q42 (by simp)
               have t5 := t4.keep f5 (by simp) (by simp)
               have r5 := r4.keep f5 (by simp) (by simp)
               have k5 : Below w.heap.size w w5 := k4.grown f5 k4.size (fun k e => by cases e))
            | (go_at_call 21
               refine (tstate_any (w.heap.size + 1) w.heap.size (beginL L tk) tk _ t5).mono ?_
               rintro e w6 ⟨rfl, f6⟩
               unfold St.val
               have q61 : w6.cell? ⟨ga, 1, none⟩ = some (.int .i64 tk) := f6.cell q51 (by simp)
               have q62 : w6.cell? ⟨g2 + 1, 0, none⟩ = some (.slice (some ⟨g2, 0, none⟩) (beginL L tk).length (beginL L tk).length) := f6.cell q52 (by simp)
               have t6 := t5.keep f6 (by simp) (by simp)
               have r6 := r5.keep f6 (by simp) (by simp)
               have k6 : Below w.heap.size w w6 := k5.grown f6 k5.size (fun k e => by cases e))
            | (go_at_call 22
               refine (rstate_any (g2 + 1) g2 (beginL L tk) tk _ r6).mono ?_
               rintro e w7 ⟨rfl, f7⟩
               unfold St.val
               have q71 : w7.cell? ⟨ga, 1, none⟩ = some (.int .i64 tk) := f7.cell q61 (by simp)
               have q72 : w7.cell? ⟨g2 + 1, 0, none⟩ = some (.slice (some ⟨g2, 0, none⟩) (beginL L tk).length (beginL L tk).length) := f7.cell q62 (by simp)
               have t7 := t6.keep f7 (by simp) (by simp)
               have r7 := r6.keep f7 (by simp) (by simp)
               have k7 : Below w.heap.size w w7 := k6.grown f7 k6.size (fun k e => by cases e)))
          have hb7 : Both w w7 (w.heap.size + 1) w.heap.size (g2 + 1) g2 n (beginL L tk) := ⟨t7, r7, hb3.len, k7⟩
          clear t4 t5 t6 t7 r4 r5 r6 r7 k4 k5 k6 k7 q41 q42 q51 q52 q61 q62 q71 q72 f5 f6 f7 rw4 hown b4 hb3 q31 hcx
          go_wp2_with fail
          go_roundw
          case rel => exact ⟨k + 1, _, by omega, by go_num, hb7⟩
          case measure => simp [intOf]; omega
        by_cases e3 : kd = 3
        · subst e3
          clear e1 e2
          go_wp2_with fail
          have hwa : ∃ wa, wr.alloc (.cells #[.int .i64 3, .int .i64 tk, .int .i64 ti, .bool is] 34) = wa := ⟨_, rfl⟩
          have A0 := Blk.new wr 34 #[.int .i64 3, .int .i64 tk, .int .i64 ti, .bool is]
          have A1 := hb.t.keep (only_alloc (World.grownBy.refl wr none) (.cells #[.int .i64 3, .int .i64 tk, .int .i64 ti, .bool is] 34)) (by simp) (by simp)
          have A2 := hb.r.keep (only_alloc (World.grownBy.refl wr none) (.cells #[.int .i64 3, .int .i64 tk, .int .i64 ti, .bool is] 34)) (by simp) (by simp)
          have A3 := hb.b.alloc hb.b.size (.cells #[.int .i64 3, .int .i64 tk, .int .i64 ti, .bool is] 34)
          have A4 := hb.len
          have hbs := hb.b.size
          have hrs := hb.r.row.lt
          obtain ⟨wa, hwa⟩ := hwa
          rw [hwa] at A0 A1 A2 A3 ⊢
          obtain ⟨ga, hga⟩ : ∃ ga, wr.heap.size = ga := ⟨_, rfl⟩
          rw [hga] at A0 hbs hrs ⊢
          have q1 : wa.cell? ⟨ga, 1, none⟩ = some (.int .i64 tk) := A0.cell 1
          have q2 : wa.cell? ⟨ga, 2, none⟩ = some (.int .i64 ti) := A0.cell 2
          have q3 : wa.cell? ⟨ga, 3, none⟩ = some (.bool is) := A0.cell 3
          clear hwa hga c0 c1 c2 c3 A0 hb
          go_region_held3 (fun w' => w'.cell? ⟨ga, 1, none⟩ = some (.int .i64 tk) ∧ w'.cell? ⟨ga, 3, none⟩ = some (.bool is)) (go_keep) (first
            | (go_at_call 14
               refine (tmid_any (w.heap.size + 1) w.heap.size L tk is _ A1.drew).mono ?_
               rintro e w2 ⟨rfl, h2, f2⟩
               have q21 : w2.cell? ⟨ga, 1, none⟩ = some (.int .i64 tk) := f2.cell q1 (by simp; omega)
               have q23 : w2.cell? ⟨ga, 3, none⟩ = some (.bool is) := f2.cell q3 (by simp; omega)
               have r2 := A2.drew.keep f2 (by simp; omega) (by simp; omega))
            | (go_at_call 15
               refine (rmid_any (g2 + 1) g2 L tk is _ r2).mono ?_
               rintro e w3 ⟨rfl, h3, f3⟩
               have q31 : w3.cell? ⟨ga, 1, none⟩ = some (.int .i64 tk) := f3.cell q21 (by simp; omega)
               have q33 : w3.cell? ⟨ga, 3, none⟩ = some (.bool is) := f3.cell q23 (by simp; omega)))
          have hb3 : Both w w3 (w.heap.size + 1) w.heap.size (g2 + 1) g2 n (midL L tk is) := ⟨h2.keep f3 (by simp; omega) (by simp; omega), h3, by unfold midL; split <;> simp [A4], ((A3.drew).grown f2 (by have := A3.size; simpa using this) (fun k e => by injection e with e; omega)).grown f3 (Nat.le_trans A3.size f2.size) (fun k e => by injection e with e; omega)⟩
          clear h2 h3 f2 f3 A1 A2 A3 A4 r2 q1 q2 q3 q21 q23 q33 hrs hbs
          go_wp2_with fail
          have hcx : w3.cell? ⟨g2 + 1, 0, none⟩ = some (.slice (some ⟨g2, 0, none⟩) (midL L tk is).length (midL L tk is).length) := hb3.r.slice
          have hl8 : (midL L tk is).length ≤ 8 := by rw [hb3.len]; exact l8
          have hl1 : 1 ≤ (midL L tk is).length := by rw [hb3.len]; exact l1
          have hgx : g2 + 1 < w3.heap.size := hb3.r.hd.lt
          have hgy : ga < w3.heap.size := World.block_lt_of_cell? _ _ q31
          go_region_held3 (fun w' => w'.cell? ⟨ga, 1, none⟩ = some (.int .i64 tk) ∧ w'.cell? ⟨g2 + 1, 0, none⟩ = some (.slice (some ⟨g2, 0, none⟩) (midL L tk is).length (midL L tk is).length)) (go_keep) (first
            | (go_at_call 20
               refine (tall_any (w.heap.size + 1) w.heap.size (midL L tk is) _ hb3.t.drew hl8).mono ?_
               rintro e w4 ⟨v, rfl, hown, b4⟩
               obtain ⟨gv, cv, rfl⟩ : ∃ gv cv, v = .slice (some ⟨gv, 0, none⟩) (midL L tk is).length cv := by
                 rcases hown.2 with ⟨_, h⟩ | ⟨g, cap, _, h, _⟩
                 · omega
                 · exact ⟨g, cap, h⟩
               have q41 : w4.cell? ⟨ga, 1, none⟩ = some (.int .i64 tk) := (b4.cell (p := ⟨ga, 1, none⟩) hgy).trans q31
               have q42 : w4.cell? ⟨g2 + 1, 0, none⟩ = some (.slice (some ⟨g2, 0, none⟩) (midL L tk is).length (midL L tk is).length) := (b4.cell (p := ⟨g2 + 1, 0, none⟩) hgx).trans hcx
               have t4 : Tab w4 48 (w.heap.size + 1) w.heap.size (midL L tk is) := ⟨hb3.t.drew.hd.below b4 hb3.t.drew.hd.lt, hb3.t.drew.row.below b4 hb3.t.drew.row.lt⟩
               have r4 : Tab w4 40 (g2 + 1) g2 (midL L tk is) := ⟨hb3.r.drew.hd.below b4 hb3.r.drew.hd.lt, hb3.r.drew.row.below b4 hb3.r.drew.row.lt⟩
               have k4 : Below w.heap.size w w4 := hb3.b.drew.trans (b4.mono hb3.b.size)
               have rw4 := Rw.own hown)
            | (go_at_call 19
               refine (rsame_any gv g2 cv (midL L tk is).length (midL L tk is).length (midL L tk is) _ rw4 r4.rw rfl hl8).mono ?_
               rintro e w5 ⟨rfl, f5⟩
               have q51 : w5.cell? ⟨ga, 1, none⟩ = some (.int .i64 tk) := f5.cell q41 (by simp)
               have q52 : w5.cell? ⟨g2 + 1, 0, none⟩ = some (.slice (some ⟨g2, 0, none⟩) (midL L tk is).length (midL L tk is).length) := f5.cell q42 (by simp)
               have t5 := t4.keep f5 (by simp) (by simp)
               have r5 := r4.keep f5 (by simp) (by simp)
               have k5 : Below w.heap.size w w5 := k4.grown f5 k4.size (fun k e => by cases e))
            | (go_at_call 21
               refine (tstate_any (w.heap.size + 1) w.heap.size (midL L tk is) tk _ t5).mono ?_
               rintro e w6 ⟨rfl, f6⟩
               unfold St.val
               have q61 : w6.cell? ⟨ga, 1, none⟩ = some (.int .i64 tk) := f6.cell q51 (by simp)
               have q62 : w6.cell? ⟨g2 + 1, 0, none⟩ = some (.slice (some ⟨g2, 0, none⟩) (midL L tk is).length (midL L tk is).length) := f6.cell q52 (by simp)
               have t6 := t5.keep f6 (by simp) (by simp)
               have r6 := r5.keep f6 (by simp) (by simp)
               have k6 : Below w.heap.size w w6 := k5.grown f6 k5.size (fun k e => by cases e))
            | (go_at_call 22
               refine (rstate_any (g2 + 1) g2 (midL L tk is) tk _ r6).mono ?_
               rintro e w7 ⟨rfl, f7⟩
               unfold St.val
               have q71 : w7.cell? ⟨ga, 1, none⟩ = some (.int .i64 tk) := f7.cell q61 (by simp)
               have q72 : w7.cell? ⟨g2 + 1, 0, none⟩ = some (.slice (some ⟨g2, 0, none⟩) (midL L tk is).length (midL L tk is).length) := f7.cell q62 (by simp)
               have t7 := t6.keep f7 (by simp) (by simp)
               have r7 := r6.keep f7 (by simp) (by simp)
               have k7 : Below w.heap.size w w7 := k6.grown f7 k6.size (fun k e => by cases e)))
          have hb7 : Both w w7 (w.heap.size + 1) w.heap.size (g2 + 1) g2 n (midL L tk is) := ⟨t7, r7, hb3.len, k7⟩
          clear t4 t5 t6 t7 r4 r5 r6 r7 k4 k5 k6 k7 q41 q42 q51 q52 q61 q62 q71 q72 f5 f6 f7 rw4 hown b4 hb3 q31 hcx
          go_wp2_with fail
          go_roundw
          case rel => exact ⟨k + 1, _, by omega, by go_num, hb7⟩
          case measure => simp [intOf]; omega
        by_cases e4 : kd = 4
        · subst e4
          clear e1 e2 e3
          go_wp2_with fail
          have hwa : ∃ wa, wr.alloc (.cells #[.int .i64 4, .int .i64 tk, .int .i64 ti, .bool is] 34) = wa := ⟨_, rfl⟩
          have A0 := Blk.new wr 34 #[.int .i64 4, .int .i64 tk, .int .i64 ti, .bool is]
          have A1 := hb.t.keep (only_alloc (World.grownBy.refl wr none) (.cells #[.int .i64 4, .int .i64 tk, .int .i64 ti, .bool is] 34)) (by simp) (by simp)
          have A2 := hb.r.keep (only_alloc (World.grownBy.refl wr none) (.cells #[.int .i64 4, .int .i64 tk, .int .i64 ti, .bool is] 34)) (by simp) (by simp)
          have A3 := hb.b.alloc hb.b.size (.cells #[.int .i64 4, .int .i64 tk, .int .i64 ti, .bool is] 34)
          have A4 := hb.len
          have hbs := hb.b.size
          have hrs := hb.r.row.lt
          obtain ⟨wa, hwa⟩ := hwa
          rw [hwa] at A0 A1 A2 A3 ⊢
          obtain ⟨ga, hga⟩ : ∃ ga, wr.heap.size = ga := ⟨_, rfl⟩
          rw [hga] at A0 hbs hrs ⊢
          have q1 : wa.cell? ⟨ga, 1, none⟩ = some (.int .i64 tk) := A0.cell 1
          have q2 : wa.cell? ⟨ga, 2, none⟩ = some (.int .i64 ti) := A0.cell 2
          have q3 : wa.cell? ⟨ga, 3, none⟩ = some (.bool is) := A0.cell 3
          clear hwa hga c0 c1 c2 c3 A0 hb
          go_region_held3 (fun w' => w'.cell? ⟨ga, 1, none⟩ = some (.int .i64 tk)) (go_keep) (first
            | (go_at_call 16
               refine (tdrop_any (w.heap.size + 1) w.heap.size L tk _ A1.drew).mono ?_
               rintro e w2 ⟨rfl, h2, f2⟩
               have q21 : w2.cell? ⟨ga, 1, none⟩ = some (.int .i64 tk) := f2.cell q1 (by simp; omega)
               have r2 := A2.drew.keep f2 (by simp; omega) (by simp; omega))
            | (go_at_call 17
               refine (rdrop_any (g2 + 1) g2 L tk _ r2).mono ?_
               rintro e w3 ⟨rfl, h3, f3⟩
               have q31 : w3.cell? ⟨ga, 1, none⟩ = some (.int .i64 tk) := f3.cell q21 (by simp; omega)))
          have hb3 : Both w w3 (w.heap.size + 1) w.heap.size (g2 + 1) g2 n (dropL L tk) := ⟨h2.keep f3 (by simp; omega) (by simp; omega), h3, by unfold dropL; split <;> simp [A4], ((A3.drew).grown f2 (by have := A3.size; simpa using this) (fun k e => by injection e with e; omega)).grown f3 (Nat.le_trans A3.size f2.size) (fun k e => by injection e with e; omega)⟩
          clear h2 h3 f2 f3 A1 A2 A3 A4 r2 q1 q2 q3 q21 hrs hbs
          go_wp2_with fail
          have hcx : w3.cell? ⟨g2 + 1, 0, none⟩ = some (.slice (some ⟨g2, 0, none⟩) (dropL L tk).length (dropL L tk).length) := hb3.r.slice
          have hl8 : (dropL L tk).length ≤ 8 := by rw [hb3.len]; exact l8
          have hl1 : 1 ≤ (dropL L tk).length := by rw [hb3.len]; exact l1
          have hgx : g2 + 1 < w3.heap.size := hb3.r.hd.lt
          have hgy : ga < w3.heap.size := World.block_lt_of_cell? _ _ q31
          go_region_held3 (fun w' => w'.cell? ⟨ga, 1, none⟩ = some (.int .i64 tk) ∧ w'.cell? ⟨g2 + 1, 0, none⟩ = some (.slice (some ⟨g2, 0, none⟩) (dropL L tk).length (dropL L tk).length)) (go_keep) (first
            | (go_at_call 20
               refine (tall_any (w.heap.size + 1) w.heap.size (dropL L tk) _ hb3.t.drew hl8).mono ?_
               rintro e w4 ⟨v, rfl, hown, b4⟩
               obtain ⟨gv, cv, rfl⟩ : ∃ gv cv, v = .slice (some ⟨gv, 0, none⟩) (dropL L tk).length cv := by
                 rcases hown.2 with ⟨_, h⟩ | ⟨g, cap, _, h, _⟩
                 · omega
                 · exact ⟨g, cap, h⟩
               have q41 : w4.cell? ⟨ga, 1, none⟩ = some (.int .i64 tk) := (b4.cell (p := ⟨ga, 1, none⟩) hgy).trans q31
               have q42 : w4.cell? ⟨g2 + 1, 0, none⟩ = some (.slice (some ⟨g2, 0, none⟩) (dropL L tk).length (dropL L tk).length) := (b4.cell (p := ⟨g2 + 1, 0, none⟩) hgx).trans hcx
               have t4 : Tab w4 48 (w.heap.size + 1) w.heap.size (dropL L tk) := ⟨hb3.t.drew.hd.below b4 hb3.t.drew.hd.lt, hb3.t.drew.row.below b4 hb3.t.drew.row.lt⟩
               have r4 : Tab w4 40 (g2 + 1) g2 (dropL L tk) := ⟨hb3.r.drew.hd.below b4 hb3.r.drew.hd.lt, hb3.r.drew.row.below b4 hb3.r.drew.row.lt⟩
               have k4 : Below w.heap.size w w4 := hb3.b.drew.trans (b4.mono hb3.b.size)
               have rw4 := Rw.own hown)
            | (go_at_call 19
               refine (rsame_any gv g2 cv (dropL L tk).length (dropL L tk).length (dropL L tk) _ rw4 r4.rw rfl hl8).mono ?_
               rintro e w5 ⟨rfl, f5⟩
               have q51 : w5.cell? ⟨ga, 1, none⟩ = some (.int .i64 tk) := f5.cell q41 (by simp)
               have q52 : w5.cell? ⟨g2 + 1, 0, none⟩ = some (.slice (some ⟨g2, 0, none⟩) (dropL L tk).length (dropL L tk).length) := f5.cell q42 (by simp)
               have t5 := t4.keep f5 (by simp) (by simp)
               have r5 := r4.keep f5 (by simp) (by simp)
               have k5 : Below w.heap.size w w5 := k4.grown f5 k4.size (fun k e => by cases e))
            | (go_at_call 21
               refine (tstate_any (w.heap.size + 1) w.heap.size (dropL L tk) tk _ t5).mono ?_
               rintro e w6 ⟨rfl, f6⟩
               unfold St.val
               have q61 : w6.cell? ⟨ga, 1, none⟩ = some (.int .i64 tk) := f6.cell q51 (by simp)
               have q62 : w6.cell? ⟨g2 + 1, 0, none⟩ = some (.slice (some ⟨g2, 0, none⟩) (dropL L tk).length (dropL L tk).length) := f6.cell q52 (by simp)
               have t6 := t5.keep f6 (by simp) (by simp)
               have r6 := r5.keep f6 (by simp) (by simp)
               have k6 : Below w.heap.size w w6 := k5.grown f6 k5.size (fun k e => by cases e))
            | (go_at_call 22
               refine (rstate_any (g2 + 1) g2 (dropL L tk) tk _ r6).mono ?_
               rintro e w7 ⟨rfl, f7⟩
               unfold St.val
               have q71 : w7.cell? ⟨ga, 1, none⟩ = some (.int .i64 tk) := f7.cell q61 (by simp)
               have q72 : w7.cell? ⟨g2 + 1, 0, none⟩ = some (.slice (some ⟨g2, 0, none⟩) (dropL L tk).length (dropL L tk).length) := f7.cell q62 (by simp)
               have t7 := t6.keep f7 (by simp) (by simp)
               have r7 := r6.keep f7 (by simp) (by simp)
               have k7 : Below w.heap.size w w7 := k6.grown f7 k6.size (fun k e => by cases e)))
          have hb7 : Both w w7 (w.heap.size + 1) w.heap.size (g2 + 1) g2 n (dropL L tk) := ⟨t7, r7, hb3.len, k7⟩
          clear t4 t5 t6 t7 r4 r5 r6 r7 k4 k5 k6 k7 q41 q42 q51 q52 q61 q62 q71 q72 f5 f6 f7 rw4 hown b4 hb3 q31 hcx
          go_wp2_with fail
          go_roundw
          case rel => exact ⟨k + 1, _, by omega, by go_num, hb7⟩
          case measure => simp [intOf]; omega
        go_wp2_with fail
        have hwa : ∃ wa, wr.alloc (.cells #[.int .i64 kd, .int .i64 tk, .int .i64 ti, .bool is] 34) = wa := ⟨_, rfl⟩
        have A0 := Blk.new wr 34 #[.int .i64 kd, .int .i64 tk, .int .i64 ti, .bool is]
        have A1 := hb.t.keep (only_alloc (World.grownBy.refl wr none) (.cells #[.int .i64 kd, .int .i64 tk, .int .i64 ti, .bool is] 34)) (by simp) (by simp)
        have A2 := hb.r.keep (only_alloc (World.grownBy.refl wr none) (.cells #[.int .i64 kd, .int .i64 tk, .int .i64 ti, .bool is] 34)) (by simp) (by simp)
        have A3 := hb.b.alloc hb.b.size (.cells #[.int .i64 kd, .int .i64 tk, .int .i64 ti, .bool is] 34)
        have A4 := hb.len
        have hbs := hb.b.size
        have hrs := hb.r.row.lt
        obtain ⟨wa, hwa⟩ := hwa
        rw [hwa] at A0 A1 A2 A3 ⊢
        obtain ⟨ga, hga⟩ : ∃ ga, wr.heap.size = ga := ⟨_, rfl⟩
        rw [hga] at A0 hbs hrs ⊢
        have q1 : wa.cell? ⟨ga, 1, none⟩ = some (.int .i64 tk) := A0.cell 1
        have q2 : wa.cell? ⟨ga, 2, none⟩ = some (.int .i64 ti) := A0.cell 2
        have q3 : wa.cell? ⟨ga, 3, none⟩ = some (.bool is) := A0.cell 3
        clear hwa hga c0 c1 c2 c3 A0 hb
        have hl8 : L.length ≤ 8 := by rw [A4]; exact l8
        have hl1 : 1 ≤ L.length := by rw [A4]; exact l1
        refine (toldest_any (w.heap.size + 1) w.heap.size L tk _ A1 hl8 hl1).mono ?_
        rintro e w2 ⟨rfl, f2⟩
        have q21 : w2.cell? ⟨ga, 1, none⟩ = some (.int .i64 tk) := f2.cell q1 (by simp)
        have t2 := A1.keep f2 (by simp) (by simp)
        have r2 := A2.keep f2 (by simp) (by simp)
        have k2 := A3.grown f2 A3.size (fun k e => by cases e)
        have q22 : w2.cell? ⟨g2 + 1, 0, none⟩ = some (.slice (some ⟨g2, 0, none⟩) L.length L.length) := r2.slice
        obtain ⟨R, hR⟩ : ∃ R, oldL (L.take tk.toNat) = R := ⟨_, rfl⟩
        have HR := Lib.hid hR
        have HA4 := Lib.hid A4
        rw [hR]
        clear A4 hR A1 A2 A3 q1 q2 q3 f2
        go_wp2_with fail
        go_region_held3 (fun w' => w'.cell? ⟨ga, 1, none⟩ = some (.int .i64 tk) ∧ w'.cell? ⟨g2 + 1, 0, none⟩ = some (.slice (some ⟨g2, 0, none⟩) L.length L.length)) (go_keep) (first
          | (go_at_call 18
             refine (rold_any g2 L.length L tk _ r2.drew.rw hl8).mono ?_
             rintro e w3 ⟨rfl, hw3⟩
             rw [HR.out]
             have q31 : w3.cell? ⟨ga, 1, none⟩ = some (.int .i64 tk) := by rw [← hw3]; exact q21
             have q32 : w3.cell? ⟨g2 + 1, 0, none⟩ = some (.slice (some ⟨g2, 0, none⟩) L.length L.length) := by rw [← hw3]; exact q22
             have hb3 : Both w w3 (w.heap.size + 1) w.heap.size (g2 + 1) g2 n L := by rw [← hw3]; exact ⟨t2.drew, r2.drew, HA4.out, k2.drew⟩
             clear hw3))
        clear t2 r2 k2 q21 q22 q32 HA4 hbs hrs hl8 hl1
        go_wp2_with fail
        have hcx : w3.cell? ⟨g2 + 1, 0, none⟩ = some (.slice (some ⟨g2, 0, none⟩) (L).length (L).length) := hb3.r.slice
        have hl8 : (L).length ≤ 8 := by rw [hb3.len]; exact l8
        have hl1 : 1 ≤ (L).length := by rw [hb3.len]; exact l1
        have hgx : g2 + 1 < w3.heap.size := hb3.r.hd.lt
        have hgy : ga < w3.heap.size := World.block_lt_of_cell? _ _ q31
        go_region_held3 (fun w' => w'.cell? ⟨ga, 1, none⟩ = some (.int .i64 tk) ∧ w'.cell? ⟨g2 + 1, 0, none⟩ = some (.slice (some ⟨g2, 0, none⟩) (L).length (L).length)) (go_keep) (first
          | (go_at_call 20
             refine (tall_any (w.heap.size + 1) w.heap.size (L) _ hb3.t.drew hl8).mono ?_
             rintro e w4 ⟨v, rfl, hown, b4⟩
             obtain ⟨gv, cv, rfl⟩ : ∃ gv cv, v = .slice (some ⟨gv, 0, none⟩) (L).length cv := by
               rcases hown.2 with ⟨_, h⟩ | ⟨g, cap, _, h, _⟩
               · omega
               · exact ⟨g, cap, h⟩
             have q41 : w4.cell? ⟨ga, 1, none⟩ = some (.int .i64 tk) := (b4.cell (p := ⟨ga, 1, none⟩) hgy).trans q31
             have q42 : w4.cell? ⟨g2 + 1, 0, none⟩ = some (.slice (some ⟨g2, 0, none⟩) (L).length (L).length) := (b4.cell (p := ⟨g2 + 1, 0, none⟩) hgx).trans hcx
             have t4 : Tab w4 48 (w.heap.size + 1) w.heap.size (L) := ⟨hb3.t.drew.hd.below b4 hb3.t.drew.hd.lt, hb3.t.drew.row.below b4 hb3.t.drew.row.lt⟩
             have r4 : Tab w4 40 (g2 + 1) g2 (L) := ⟨hb3.r.drew.hd.below b4 hb3.r.drew.hd.lt, hb3.r.drew.row.below b4 hb3.r.drew.row.lt⟩
             have k4 : Below w.heap.size w w4 := hb3.b.drew.trans (b4.mono hb3.b.size)
             have rw4 := Rw.own hown)
          | (go_at_call 19
             refine (rsame_any gv g2 cv (L).length (L).length (L) _ rw4 r4.rw rfl hl8).mono ?_
             rintro e w5 ⟨rfl, f5⟩
             have q51 : w5.cell? ⟨ga, 1, none⟩ = some (.int .i64 tk) := f5.cell q41 (by simp)
             have q52 : w5.cell? ⟨g2 + 1, 0, none⟩ = some (.slice (some ⟨g2, 0, none⟩) (L).length (L).length) := f5.cell q42 (by simp)
             have t5 := t4.keep f5 (by simp) (by simp)
             have r5 := r4.keep f5 (by simp) (by simp)
             have k5 : Below w.heap.size w w5 := k4.grown f5 k4.size (fun k e => by cases e))
          | (go_at_call 21
             refine (tstate_any (w.heap.size + 1) w.heap.size (L) tk _ t5).mono ?_
             rintro e w6 ⟨rfl, f6⟩
             unfold St.val
             have q61 : w6.cell? ⟨ga, 1, none⟩ = some (.int .i64 tk) := f6.cell q51 (by simp)
             have q62 : w6.cell? ⟨g2 + 1, 0, none⟩ = some (.slice (some ⟨g2, 0, none⟩) (L).length (L).length) := f6.cell q52 (by simp)
             have t6 := t5.keep f6 (by simp) (by simp)
             have r6 := r5.keep f6 (by simp) (by simp)
             have k6 : Below w.heap.size w w6 := k5.grown f6 k5.size (fun k e => by cases e))
          | (go_at_call 22
             refine (rstate_any (g2 + 1) g2 (L) tk _ r6).mono ?_
             rintro e w7 ⟨rfl, f7⟩
             unfold St.val
             have q71 : w7.cell? ⟨ga, 1, none⟩ = some (.int .i64 tk) := f7.cell q61 (by simp)
             have q72 : w7.cell? ⟨g2 + 1, 0, none⟩ = some (.slice (some ⟨g2, 0, none⟩) (L).length (L).length) := f7.cell q62 (by simp)
             have t7 := t6.keep f7 (by simp) (by simp)
             have r7 := r6.keep f7 (by simp) (by simp)
             have k7 : Below w.heap.size w w7 := k6.grown f7 k6.size (fun k e => by cases e)))
        have hb7 : Both w w7 (w.heap.size + 1) w.heap.size (g2 + 1) g2 n (L) := ⟨t7, r7, hb3.len, k7⟩
        clear t4 t5 t6 t7 r4 r5 r6 r7 k4 k5 k6 k7 q41 q42 q51 q52 q61 q62 q71 q72 f5 f6 f7 rw4 hown b4 hb3 q31 hcx
        go_wp2_with fail
        go_roundw
        case rel => exact ⟨k + 1, _, by omega, by go_num, hb7⟩
        case measure => simp [intOf]; omega
      · go_wp2_with fail
        refine (known_any wr).mono ?_
        rintro e w9 ⟨rfl, b9⟩
        go_wp2
        go_ret
        exact ⟨rfl, hb.b.trans (b9.mono hb.b.size)⟩

/-! ### The row's step -/
set_option linter.unusedVariables false in
set_option maxRecDepth 100000 in
theorem lifted (os : Os) (started : os.Started) (H : Type) (enc : TypeId × Value → H) :
    ReturnsInHanded {} Try.checked os 4 .any (Rows.tablePlaysSpec.pre6 enc Try.prog Try.f4 Rows.tablePlaysRow.domain false) (Rows.tablePlaysSpec.post enc Try.prog Try.f4 false true false false) := by
  refine returnsInHanded_of_change (C := Try.checked) own started (by kernel_rfl) Try.func4
    (ChangeSpec.witness6 (enc := enc) (C := Try.checked) false ⟨#[], #[.int .i64 0, .slice none 0 0], []⟩ 8 (by kernel_rfl) (by kernel_rfl) (by kernel_rfl) (by kernel_rfl)) ?_
  intro W base args ds gs before hval0 hW hcnd _
  have hval : ∀ (j : Nat) t v, Try.f4.params[j]? = some t → args[j]? = some v → Value.okWide Try.prog W .any base t v := hval0
  have hW' := hW
  obtain ⟨p, q, hA0, hV, rfl, hfz, hnd⟩ := hW
  have hA : DataW.TrodAll enc Try.prog W 0 (fun _ => true) true Try.f4.params.toList args.toList ds p := hA0
  rw [Try.params4] at hA hval
  obtain ⟨v0, vs0, d0, ds0, p0, q0, hargs, rfl, rfl, h0, r0⟩ := trodAll_cons hA
  obtain ⟨v1, vs1, d1, ds1, p1, q1, rfl, rfl, rfl, h1, r1⟩ := trodAll_cons r0
  obtain ⟨rfl, rfl, rfl⟩ := trodAll_nil r1
  obtain rfl : args = #[v0, v1] := by cases args; simp_all
  obtain ⟨rfl, rfl⟩ := trodVars_none hV
  obtain ⟨a0, rfl, rfl, rfl, w0⟩ := open_int Try.underlying3 (hval 0 3 v0 rfl rfl) h0
  have k1 := h1
  have lt1 : ∀ x ∈ p1, x.block < W.heap.size := by obtain ⟨m, hm⟩ := k1; exact DataW.trod_lt m _ _ _ hm
  obtain ⟨a1, len1, cap1, rfl⟩ := okWide_slice Try.underlying30 (hval 1 30 v1 rfl rfl)
  obtain ⟨X1, w1⟩ : ∃ X, IsActs W a1 len1 X := by
    obtain ⟨fuel, hf⟩ := h1
    exact open_acts (by simpa [Value.cells] using hf)
  clear hA0 hval0
  refine (walk a0 a1 len1 cap1 X1 W w0 w1).mono fun e W' ⟨he, bel⟩ => ?_
  subst he
  exact ⟨_, rfl, _, _, _, [], _, [], hW', trodAll_mk1 (shut_bool Try.underlying4 _), (trodAll_cons_mk (shut_int Try.underlying3 w0) (trodAll_cons_mk (Below.trod laidOut (by kernel_rfl) (of_decide_eq_true (by kernel_rfl)) k1 bel lt1) trodAll_mk0)), rfl, bel.frame _, fun h => by cases h⟩

theorem over : Rows.tablePlaysRow.holds Try.pinned (OpenSpec.ofChange Rows.tablePlaysSpec) :=
  OpenClaim.holds_of_wide 4 Try.f4 rfl rfl rfl rfl rfl rfl rfl ⟨rfl, rfl, rfl, rfl, rfl⟩ rfl rfl rfl rfl rfl (by kernel_rfl) Try.func4 (by kernel_rfl)
    (of_decide_eq_true (by kernel_rfl)) (by unfold Func.isWrapper; first | (rw [if_pos (by decide +kernel)]; kernel_rfl) | (rw [if_neg (by decide +kernel)]; exact ⟨rfl, rfl⟩))
    (fun os started H enc _ => lifted os started H enc)

/-- The statement. -/
theorem proved : Rows.TablePlaysSaid := over
end Go.Proofs.Ytmbbfakdcfhahaa.tablePlays
