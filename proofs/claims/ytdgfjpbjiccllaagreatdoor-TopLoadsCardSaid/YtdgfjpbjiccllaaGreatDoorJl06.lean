/- Joined texts: PTopLoadsx10, PTopLoadsx11. -/
import Derived.Test.YtdgfjpbjiccllaaGreatDoorJl03
import Derived.Test.YtdgfjpbjiccllaaGreatDoorJl05
namespace Go.Proofs.YtdgfjpbjiccllaaGreatDoor.PTopLoads
open Go.RowKit YtdgfjpbjiccllaaGreatDoorW.PrintWords YtdgfjpbjiccllaaGreatDoorW.PrintLast YtdgfjpbjiccllaaGreatDoorW.PrintMore
attribute [local go_sem] max2_int min2_int max_two min_two max_three min_three max_four min_four   -- for this text's walks alone
set_option linter.unusedVariables false
set_option linter.unusedSimpArgs false
mutual
def taskmasterref5_All.j0 : Nat → Bool → Int → List (S46) → Option (Bool)
  | 0, _, _, _ => none
  | k + 1, x20, x312000, x312001 => if x20 = true then (some false) else (taskmasterref5_All.l0 k 0 x312000 x312001)
def taskmasterref5_All.l0 : Nat → Int → Int → List (S46) → Option (Bool)
  | 0, _, _, _ => none
  | k + 1, x3, x312000, x312001 => if x3 < (x312001.length : Int) then (if 0 ≤ x3 then ((taskmasterref5_Is.f k ((rd_T46 x312001 x3).f0) ((rd_T46 x312001 x3).f1) ((rd_T46 x312001 x3).f2) ((rd_T46 x312001 x3).f3) ((rd_T46 x312001 x3).f4) ((rd_T46 x312001 x3).f5) ((rd_T46 x312001 x3).f6) ((rd_T46 x312001 x3).f7) ((rd_T46 x312001 x3).f8) x3).bind fun t314 => (if t314 = true then (taskmasterref5_All.l1 k x3 0 x312000 x312001) else (some false))) else (none)) else (some true)
def taskmasterref5_All.l1 : Nat → Int → Int → Int → List (S46) → Option (Bool)
  | 0, _, _, _, _ => none
  | k + 1, x3, x4, x312000, x312001 => if x4 < x3 then (if 0 ≤ x4 then (if x4 < (x312001.length : Int) then (if 0 ≤ x3 then (if x3 < (x312001.length : Int) then (if ((rd_T46 x312001 x4).f0).toList = ((rd_T46 x312001 x3).f0).toList then (some false) else (taskmasterref5_All.l1 k x3 (wrap64 (x4 + 1)) x312000 x312001)) else (none)) else (none)) else (none)) else (none)) else (taskmasterref5_All.l0 k (wrap64 (x3 + 1)) x312000 x312001)
end
def taskmasterref5_All.f (k : Nat) (a0_0 : Int) (l0_1 : List (S46)) : Option (Bool) := (taskmasterref5_in.f a0_0 0 10000).bind fun t312 => (if t312 = true then (if (l0_1.length : Int) < 1 then (taskmasterref5_All.j0 k true a0_0 l0_1) else (taskmasterref5_All.j0 k (decide ((l0_1.length : Int) > 8)) a0_0 l0_1)) else (taskmasterref5_All.j0 k true a0_0 l0_1))
set_option maxHeartbeats 8000000 in
set_option maxRecDepth 100000 in
theorem taskmasterref5_All.calls (k : Nat) (a0_0 : Int) (A0_1 : Option Addr) (c0_1 : Nat) (l0_1 : List (S46)) (r : Bool) (w : World) (hr0_1 : Kd.C k46 w A0_1 l0_1.length l0_1) (hc0_1 : l0_1.length ≤ c0_1) (h : taskmasterref5_All.f k a0_0 l0_1 = some r) :
    Calls Tryz.prog 13 #[.agg #[.int .i64 a0_0, .slice A0_1 l0_1.length c0_1]] w fun e w' => e = .returned (.bool r) ∧ Below w.heap.size w w' := by
  have hu24 := Tryz.underlying24
  have hu46 := Tryz.underlying46
  have HR0_1 := Aside0.mk hr0_1
  have HC0_1 := Aside0.mk hc0_1
  clear hr0_1 hc0_1
  have HB := Aside0.mk (Below.refl w.heap.size w)
  have H : ((taskmasterref5_in.f a0_0 0 10000).bind fun t312 => (if t312 = true then (if (l0_1.length : Int) < 1 then (taskmasterref5_All.j0 k true a0_0 l0_1) else (taskmasterref5_All.j0 k (decide ((l0_1.length : Int) > 8)) a0_0 l0_1)) else (taskmasterref5_All.j0 k true a0_0 l0_1))) = some r := h
  clear h
  have HC2 := Aside0.mk H
  clear H
  go_enter Tryz.func13, Tryz.ntmps13
  go_upto_region 1 with (first | ((with_reducible refine gate_dst (N := 1) rfl ?_); (try (refine gate_guard (by rfl) ?_; dsimp only)); refine box_event ?hg (N := 1) ?hd (cs := #[.int .i64 a0_0, .slice A0_1 l0_1.length c0_1]) (t := 24) ?hr ?_; (case hd => rfl); (case hg => rfl); (case hr => first | (go_simp; done) | (go_simp; rfl)); intro gb311 hg w3 hbox hb; have n0_ := Aside0.mk (below_step (by repeat (first | (with_reducible first | exact HB.out | apply below_alloc | apply pw_below_drewN | apply below_drew1) | exact HB.out)) hb); have n1_ := Aside0.mk (hbox); have n2_ := Aside0.mk ((by rw [hg]; exact (below_size (by repeat (first | (with_reducible first | exact HB.out | apply below_alloc | apply pw_below_drewN | apply below_drew1) | exact HB.out))) : w.heap.size ≤ gb311)); have n3_ := Aside0.mk ((by rw [hg]; exact (below_size (by repeat (first | (with_reducible first | exact HB.out | apply below_alloc | apply pw_below_drewN | apply below_drew1) | exact HB.out))) : w.heap.size ≤ gb311)); clear HB; have HB := n0_; have BK311 := n1_; have GW311 := n2_; have GE311 := n3_; clear n0_ n1_ n2_ n3_; clear hb hbox hg))
  repeat (go_quiet (first | ((with_reducible refine gate_dst (N := 1) rfl ?_); (try (refine gate_guard (by rfl) ?_; dsimp only)); refine box_event ?hg (N := 1) ?hd (cs := #[.int .i64 a0_0, .slice A0_1 l0_1.length c0_1]) (t := 24) ?hr ?_; (case hd => rfl); (case hg => rfl); (case hr => first | (go_simp; done) | (go_simp; rfl)); intro gb311 hg w3 hbox hb; have n0_ := Aside0.mk (below_step (by repeat (first | (with_reducible first | exact HB.out | apply below_alloc | apply pw_below_drewN | apply below_drew1) | exact HB.out)) hb); have n1_ := Aside0.mk (hbox); have n2_ := Aside0.mk ((by rw [hg]; exact (below_size (by repeat (first | (with_reducible first | exact HB.out | apply below_alloc | apply pw_below_drewN | apply below_drew1) | exact HB.out))) : w.heap.size ≤ gb311)); have n3_ := Aside0.mk ((by rw [hg]; exact (below_size (by repeat (first | (with_reducible first | exact HB.out | apply below_alloc | apply pw_below_drewN | apply below_drew1) | exact HB.out))) : w.heap.size ≤ gb311)); clear HB; have HB := n0_; have BK311 := n1_; have GW311 := n2_; have GE311 := n3_; clear n0_ n1_ n2_ n3_; clear hb hbox hg)); go_upto_region 1 with (first | ((with_reducible refine gate_dst (N := 1) rfl ?_); (try (refine gate_guard (by rfl) ?_; dsimp only)); refine box_event ?hg (N := 1) ?hd (cs := #[.int .i64 a0_0, .slice A0_1 l0_1.length c0_1]) (t := 24) ?hr ?_; (case hd => rfl); (case hg => rfl); (case hr => first | (go_simp; done) | (go_simp; rfl)); intro gb311 hg w3 hbox hb; have n0_ := Aside0.mk (below_step (by repeat (first | (with_reducible first | exact HB.out | apply below_alloc | apply pw_below_drewN | apply below_drew1) | exact HB.out)) hb); have n1_ := Aside0.mk (hbox); have n2_ := Aside0.mk ((by rw [hg]; exact (below_size (by repeat (first | (with_reducible first | exact HB.out | apply below_alloc | apply pw_below_drewN | apply below_drew1) | exact HB.out))) : w.heap.size ≤ gb311)); have n3_ := Aside0.mk ((by rw [hg]; exact (below_size (by repeat (first | (with_reducible first | exact HB.out | apply below_alloc | apply pw_below_drewN | apply below_drew1) | exact HB.out))) : w.heap.size ≤ gb311)); clear HB; have HB := n0_; have BK311 := n1_; have GW311 := n2_; have GE311 := n3_; clear n0_ n1_ n2_ n3_; clear hb hbox hg)))
  (try simp only [Act.put, List.setIfInBounds_toArray, List.set_cons_zero, List.set_cons_succ])
  go_cut [20] (fun v20 wc => ∃ (kq : Nat) (x20_1 : Bool), v20 = .bool x20_1 ∧ Aside0 (taskmasterref5_All.j0 kq x20_1 a0_0 l0_1 = some r) ∧ Aside0 (kq ≤ k) ∧ Aside0 (wc.heap[gb311]? = some (.cells #[.int .i64 a0_0, (.slice A0_1 l0_1.length c0_1)] 24 (0, 0))) ∧ Aside0 (Below w.heap.size w wc))
  case first =>
    have H := HC2.out
    clear HC2
    replace H := Option.bind_eq_some_iff.mp H
    obtain ⟨t312, A40, H⟩ := H
    replace H : (if t312 = true then (if (l0_1.length : Int) < 1 then (taskmasterref5_All.j0 k true a0_0 l0_1) else (taskmasterref5_All.j0 k (decide ((l0_1.length : Int) > 8)) a0_0 l0_1)) else (taskmasterref5_All.j0 k true a0_0 l0_1)) = some r := H
    have A4 := Aside0.mk A40
    clear A40
    by_cases c5 : t312 = true
    · subst c5
      have H1 : (if (l0_1.length : Int) < 1 then (taskmasterref5_All.j0 k true a0_0 l0_1) else (taskmasterref5_All.j0 k (decide ((l0_1.length : Int) > 8)) a0_0 l0_1)) = some r := by rw [if_pos rfl] at H; exact H
      clear H
      have H := H1
      clear H1
      by_cases c6 : (l0_1.length : Int) < 1
      · rw [if_pos c6] at H
        have c6b0 : decide ((l0_1.length : Int) < 1) = true := decide_eq_true c6
        have c6b1 : decide (l0_1.length < 1) = true := decide_eq_true (by omega)
        clear c6
        (first | rw [c6b0] | (simp only [i64_w, i32_w]; rw [c6b0]) | skip)
        have H' := Aside0.mk H
        clear H
        have hcz7_0 : w3.cell? ⟨gb311, 0, none⟩ = some (.int .i64 a0_0) := (blk_cell BK311.out 0).trans rfl
        have hcz7_1 : w3.cell? ⟨gb311, 1, none⟩ = some (.slice A0_1 l0_1.length c0_1) := (blk_cell BK311.out 1).trans rfl
        have hfz7_0 := blk_frozen BK311.out 0
        have hfz7_1 := blk_frozen BK311.out 1
        go_wp2_with (first | (go_at_call 28; (with_reducible refine (taskmasterref5_in.calls a0_0 0 10000 true _ A4.out).mono ?_); rintro e w' ⟨rfl, ⟨nd, rfl⟩⟩; (try first | exact ⟨rfl, _, World.drewN_drewN _ _ _⟩ | exact ⟨rfl, _, Eq.trans (World.drewN_drewN _ _ _) (congrArg (World.drewN _) (Nat.add_assoc _ _ _))⟩)))
        repeat (go_quiet (first | (go_at_call 28; (with_reducible refine (taskmasterref5_in.calls a0_0 0 10000 true _ A4.out).mono ?_); rintro e w' ⟨rfl, ⟨nd, rfl⟩⟩; (try first | exact ⟨rfl, _, World.drewN_drewN _ _ _⟩ | exact ⟨rfl, _, Eq.trans (World.drewN_drewN _ _ _) (congrArg (World.drewN _) (Nat.add_assoc _ _ _))⟩))); try go_wp2_with (first | (go_at_call 28; (with_reducible refine (taskmasterref5_in.calls a0_0 0 10000 true _ A4.out).mono ?_); rintro e w' ⟨rfl, ⟨nd, rfl⟩⟩; (try first | exact ⟨rfl, _, World.drewN_drewN _ _ _⟩ | exact ⟨rfl, _, Eq.trans (World.drewN_drewN _ _ _) (congrArg (World.drewN _) (Nat.add_assoc _ _ _))⟩))))
        go_meet
        case rel => exact ⟨_, (true), (by first | rfl | (simp; done) | (simp [*]; done)), H', ⟨by first | omega | exact Nat.le_refl _⟩, ⟨by (with_reducible repeat (first | refine blk_drewN ?_ _ | refine blk_drew ?_ | refine blk_alloc ?_ _)); exact BK311.out⟩, ⟨by repeat (first | (with_reducible first | exact HB.out | apply below_alloc | apply pw_below_drewN | apply below_drew1 | refine below_set ?_ GE311.out) | exact HB.out)⟩⟩
      · rw [if_neg c6] at H
        have c6b0 : decide ((l0_1.length : Int) < 1) = false := decide_eq_false c6
        have c6b1 : decide (l0_1.length < 1) = false := decide_eq_false (by omega)
        clear c6
        (first | rw [c6b0] | (simp only [i64_w, i32_w]; rw [c6b0]) | skip)
        have H' := Aside0.mk H
        clear H
        have hcz8_0 : w3.cell? ⟨gb311, 0, none⟩ = some (.int .i64 a0_0) := (blk_cell BK311.out 0).trans rfl
        have hcz8_1 : w3.cell? ⟨gb311, 1, none⟩ = some (.slice A0_1 l0_1.length c0_1) := (blk_cell BK311.out 1).trans rfl
        have hfz8_0 := blk_frozen BK311.out 0
        have hfz8_1 := blk_frozen BK311.out 1
        go_wp2_with (first | (go_at_call 28; (with_reducible refine (taskmasterref5_in.calls a0_0 0 10000 true _ A4.out).mono ?_); rintro e w' ⟨rfl, ⟨nd, rfl⟩⟩; (try first | exact ⟨rfl, _, World.drewN_drewN _ _ _⟩ | exact ⟨rfl, _, Eq.trans (World.drewN_drewN _ _ _) (congrArg (World.drewN _) (Nat.add_assoc _ _ _))⟩)))
        repeat (go_quiet (first | (go_at_call 28; (with_reducible refine (taskmasterref5_in.calls a0_0 0 10000 true _ A4.out).mono ?_); rintro e w' ⟨rfl, ⟨nd, rfl⟩⟩; (try first | exact ⟨rfl, _, World.drewN_drewN _ _ _⟩ | exact ⟨rfl, _, Eq.trans (World.drewN_drewN _ _ _) (congrArg (World.drewN _) (Nat.add_assoc _ _ _))⟩))); try go_wp2_with (first | (go_at_call 28; (with_reducible refine (taskmasterref5_in.calls a0_0 0 10000 true _ A4.out).mono ?_); rintro e w' ⟨rfl, ⟨nd, rfl⟩⟩; (try first | exact ⟨rfl, _, World.drewN_drewN _ _ _⟩ | exact ⟨rfl, _, Eq.trans (World.drewN_drewN _ _ _) (congrArg (World.drewN _) (Nat.add_assoc _ _ _))⟩))))
        go_meet
        case rel => exact ⟨_, (decide ((l0_1.length : Int) > 8)), (by first | rfl | (simp; done) | (simp [*]; done)), H', ⟨by first | omega | exact Nat.le_refl _⟩, ⟨by (with_reducible repeat (first | refine blk_drewN ?_ _ | refine blk_drew ?_ | refine blk_alloc ?_ _)); exact BK311.out⟩, ⟨by repeat (first | (with_reducible first | exact HB.out | apply below_alloc | apply pw_below_drewN | apply below_drew1 | refine below_set ?_ GE311.out) | exact HB.out)⟩⟩
    · replace c5 := Bool.eq_false_iff.mpr c5
      subst c5
      have H1 : (taskmasterref5_All.j0 k true a0_0 l0_1) = some r := by rw [if_neg (show ¬ (false = true) by decide)] at H; exact H
      clear H
      have H := H1
      clear H1
      have H' := Aside0.mk H
      clear H
      have hcz9_0 : w3.cell? ⟨gb311, 0, none⟩ = some (.int .i64 a0_0) := (blk_cell BK311.out 0).trans rfl
      have hcz9_1 : w3.cell? ⟨gb311, 1, none⟩ = some (.slice A0_1 l0_1.length c0_1) := (blk_cell BK311.out 1).trans rfl
      have hfz9_0 := blk_frozen BK311.out 0
      have hfz9_1 := blk_frozen BK311.out 1
      go_wp2_with (first | (go_at_call 28; (with_reducible refine (taskmasterref5_in.calls a0_0 0 10000 false _ A4.out).mono ?_); rintro e w' ⟨rfl, ⟨nd, rfl⟩⟩; (try first | exact ⟨rfl, _, World.drewN_drewN _ _ _⟩ | exact ⟨rfl, _, Eq.trans (World.drewN_drewN _ _ _) (congrArg (World.drewN _) (Nat.add_assoc _ _ _))⟩)))
      repeat (go_quiet (first | (go_at_call 28; (with_reducible refine (taskmasterref5_in.calls a0_0 0 10000 false _ A4.out).mono ?_); rintro e w' ⟨rfl, ⟨nd, rfl⟩⟩; (try first | exact ⟨rfl, _, World.drewN_drewN _ _ _⟩ | exact ⟨rfl, _, Eq.trans (World.drewN_drewN _ _ _) (congrArg (World.drewN _) (Nat.add_assoc _ _ _))⟩))); try go_wp2_with (first | (go_at_call 28; (with_reducible refine (taskmasterref5_in.calls a0_0 0 10000 false _ A4.out).mono ?_); rintro e w' ⟨rfl, ⟨nd, rfl⟩⟩; (try first | exact ⟨rfl, _, World.drewN_drewN _ _ _⟩ | exact ⟨rfl, _, Eq.trans (World.drewN_drewN _ _ _) (congrArg (World.drewN _) (Nat.add_assoc _ _ _))⟩))))
      go_meet
      case rel => exact ⟨_, (true), (by first | rfl | (simp; done) | (simp [*]; done)), H', ⟨by first | omega | exact Nat.le_refl _⟩, ⟨by (with_reducible repeat (first | refine blk_drewN ?_ _ | refine blk_drew ?_ | refine blk_alloc ?_ _)); exact BK311.out⟩, ⟨by repeat (first | (with_reducible first | exact HB.out | apply below_alloc | apply pw_below_drewN | apply below_drew1 | refine below_set ?_ GE311.out) | exact HB.out)⟩⟩
  case rest =>
    clear HC2; (try clear c1); (try clear p2); (try clear c5); (try clear c6); (try clear c6b0); (try clear c6b1); (try clear hcz7_0); (try clear hcz7_1); (try clear hcz8_0); (try clear hcz8_1); (try clear hcz9_0); (try clear hcz9_1); (try clear hfz7_0); (try clear hfz7_1); (try clear hfz8_0); (try clear hfz8_1); (try clear hfz9_0); (try clear hfz9_1)
    obtain ⟨kq, x20_1, rfl, HA, HJ1, BK311, HB⟩ := hcut
    cases kq with
    | zero => exact absurd HA.out (by simp [taskmasterref5_All.j0])
    | succ kj1 =>
      have H := HA.out
      clear HA
      simp only [taskmasterref5_All.j0] at H
      by_cases c10 : x20_1 = true
      · subst c10
        have H1 : (some false) = some r := by rw [if_pos rfl] at H; exact H
        clear H
        have H := H1
        clear H1
        obtain rfl := Option.some.inj H
        go_wp2
        repeat (go_quiet (fail); try go_wp2)
        go_ret
        exact ⟨by first | rfl | (simp [errW_none, errW_some] <;> rfl) | (simp [*, errW_none, errW_some] <;> rfl), by repeat (first | (with_reducible first | exact HB.out | apply below_alloc | apply pw_below_drewN | apply below_drew1 | refine below_set ?_ GE311.out) | exact HB.out)⟩
      · replace c10 := Bool.eq_false_iff.mpr c10
        subst c10
        have H1 : (taskmasterref5_All.l0 kj1 0 a0_0 l0_1) = some r := by rw [if_neg (show ¬ (false = true) by decide)] at H; exact H
        clear H
        have H := H1
        clear H1
        have H' := Aside0.mk H
        clear H; go_wp2
        repeat (go_quiet (fail); try go_wp2)
        go_loopg [3] kj1 (fun kq v3 w' => ∃ (x3_2 : Int), v3 = .int .i64 x3_2 ∧ Aside0 (taskmasterref5_All.l0 kq x3_2 a0_0 l0_1 = some r) ∧ Aside0 (kq ≤ kj1) ∧ Aside0 (w'.heap[gb311]? = some (.cells #[.int .i64 a0_0, (.slice A0_1 l0_1.length c0_1)] 24 (0, 0))) ∧ Aside0 (Below w.heap.size w w'))
        case atStart => exact ⟨(0), (by first | rfl | (simp; done) | (simp [*]; done)), H', ⟨Nat.le_refl _⟩, ⟨by (with_reducible repeat (first | refine blk_drewN ?_ _ | refine blk_drew ?_ | refine blk_alloc ?_ _)); exact BK311.out⟩, ⟨by repeat (first | (with_reducible first | exact HB.out | apply below_alloc | apply pw_below_drewN | apply below_drew1 | refine below_set ?_ GE311.out) | exact HB.out)⟩⟩
        case round =>
          clear H'; (try clear c1); (try clear p2); (try clear c5); (try clear c6); (try clear c6b0); (try clear c6b1); (try clear c10); (try clear hcz7_0); (try clear hcz7_1); (try clear hcz8_0); (try clear hcz8_1); (try clear hcz9_0); (try clear hcz9_1); (try clear hfz7_0); (try clear hfz7_1); (try clear hfz8_0); (try clear hfz8_1); (try clear hfz9_0); (try clear hfz9_1); (try clear p2)
          obtain ⟨x3_2, rfl, HA, HK2, BK311, HB⟩ := hrel
          cases gk with
          | zero => exact absurd HA.out (by simp [taskmasterref5_All.l0])
          | succ k2 =>
            have H := HA.out
            clear HA
            simp only [taskmasterref5_All.l0] at H
            by_cases c11 : x3_2 < (l0_1.length : Int)
            · rw [if_pos c11] at H
              have c11b0 : decide (x3_2 < (l0_1.length : Int)) = true := decide_eq_true c11
              clear c11
              by_cases c12 : 0 ≤ x3_2
              · rw [if_pos c12] at H
                have c12b0 : decide (0 ≤ x3_2) = true := decide_eq_true c12
                clear c12
                replace H := Option.bind_eq_some_iff.mp H
                obtain ⟨t314, A130, H⟩ := H
                replace H : (if t314 = true then (taskmasterref5_All.l1 k2 x3_2 0 a0_0 l0_1) else (some false)) = some r := H
                have A13 := Aside0.mk A130
                clear A130
                by_cases c14 : t314 = true
                · subst c14
                  have H1 : (taskmasterref5_All.l1 k2 x3_2 0 a0_0 l0_1) = some r := by rw [if_pos rfl] at H; exact H
                  clear H
                  have H := H1
                  clear H1
                  have H' := Aside0.mk H
                  clear H
                  have hcz15_0 : wr.cell? ⟨gb311, 0, none⟩ = some (.int .i64 a0_0) := (blk_cell BK311.out 0).trans rfl
                  have hcz15_1 : wr.cell? ⟨gb311, 1, none⟩ = some (.slice A0_1 l0_1.length c0_1) := (blk_cell BK311.out 1).trans rfl
                  have hfz15_0 := blk_frozen BK311.out 0
                  have hfz15_1 := blk_frozen BK311.out 1
                  have p313 : 0 ≤ (x3_2 : Int) := of_decide_eq_true (by first | (with_reducible assumption) | assumption)
                  have q313 : x3_2 < (l0_1.length : Int) := of_decide_eq_true (by first | (with_reducible assumption) | assumption)
                  obtain ⟨ad313, A313_6, c313_6, e313, hx313_0, hx313_1, hx313_2, hx313_3, hx313_4, hx313_5, hx313_6, hx313_7, hx313_8, hl313_6, hi313_6⟩ := at_T46 HR0_1.out x3_2 p313 q313
                  cases e313
                  replace hx313_0 := (HB.out.cell (wbl w _ hx313_0)).trans hx313_0
                  replace hx313_1 := (HB.out.cell (wbl w _ hx313_1)).trans hx313_1
                  replace hx313_2 := (HB.out.cell (wbl w _ hx313_2)).trans hx313_2
                  replace hx313_3 := (HB.out.cell (wbl w _ hx313_3)).trans hx313_3
                  replace hx313_4 := (HB.out.cell (wbl w _ hx313_4)).trans hx313_4
                  replace hx313_5 := (HB.out.cell (wbl w _ hx313_5)).trans hx313_5
                  replace hx313_6 := (HB.out.cell (wbl w _ hx313_6)).trans hx313_6
                  replace hx313_7 := (HB.out.cell (wbl w _ hx313_7)).trans hx313_7
                  replace hx313_8 := (HB.out.cell (wbl w _ hx313_8)).trans hx313_8
                  have HR313_6 := Aside0.mk hi313_6
                  have HC313_6 := Aside0.mk hl313_6
                  clear hi313_6 hl313_6
                  replace p313 := eq_true p313
                  replace q313 := eq_true q313
                  go_wp2_with (first | (go_at_call 29; (with_reducible refine (taskmasterref5_Is.calls k2 ((rd_T46 l0_1 x3_2).f0) ((rd_T46 l0_1 x3_2).f1) ((rd_T46 l0_1 x3_2).f2) ((rd_T46 l0_1 x3_2).f3) ((rd_T46 l0_1 x3_2).f4) ((rd_T46 l0_1 x3_2).f5) _ _ ((rd_T46 l0_1 x3_2).f6) ((rd_T46 l0_1 x3_2).f7) ((rd_T46 l0_1 x3_2).f8) x3_2 true _ ?side1 ?side2 A13.out).mono ?_); (case side1 => repeat (first | exact (Kd.C_below HR313_6.out HB.out) | (with_reducible refine Kd.C_alloc ?_ _) | (with_reducible refine Kd.C_drewN ?_ _) | (with_reducible refine Kd.C_drew ?_))); (case side2 => exact HC313_6.out); rintro e w16 ⟨rfl, hb⟩; have n0_ := Aside0.mk (blk_below (g := gb311) (o := .cells #[.int .i64 a0_0, .slice (some ad313) l0_1.length c0_1] 24 (0, 0)) (by (with_reducible repeat (first | refine blk_drewN ?_ _ | refine blk_drew ?_ | refine blk_alloc ?_ _)); exact BK311.out) hb); have n1_ := Aside0.mk (below_step (by repeat (first | (with_reducible first | exact HB.out | apply below_alloc | apply pw_below_drewN | apply below_drew1 | refine below_set ?_ GE311.out) | exact HB.out)) hb); clear BK311; clear HB; have BK311 := n0_; have HB := n1_; clear n0_ n1_; (try clear hb); (try clear hb2); (try clear hk); (try clear hi)))
                  repeat (go_quiet (first | (go_at_call 29; (with_reducible refine (taskmasterref5_Is.calls k2 ((rd_T46 l0_1 x3_2).f0) ((rd_T46 l0_1 x3_2).f1) ((rd_T46 l0_1 x3_2).f2) ((rd_T46 l0_1 x3_2).f3) ((rd_T46 l0_1 x3_2).f4) ((rd_T46 l0_1 x3_2).f5) _ _ ((rd_T46 l0_1 x3_2).f6) ((rd_T46 l0_1 x3_2).f7) ((rd_T46 l0_1 x3_2).f8) x3_2 true _ ?side1 ?side2 A13.out).mono ?_); (case side1 => repeat (first | exact (Kd.C_below HR313_6.out HB.out) | (with_reducible refine Kd.C_alloc ?_ _) | (with_reducible refine Kd.C_drewN ?_ _) | (with_reducible refine Kd.C_drew ?_))); (case side2 => exact HC313_6.out); rintro e w16 ⟨rfl, hb⟩; have n0_ := Aside0.mk (blk_below (g := gb311) (o := .cells #[.int .i64 a0_0, .slice (some ad313) l0_1.length c0_1] 24 (0, 0)) (by (with_reducible repeat (first | refine blk_drewN ?_ _ | refine blk_drew ?_ | refine blk_alloc ?_ _)); exact BK311.out) hb); have n1_ := Aside0.mk (below_step (by repeat (first | (with_reducible first | exact HB.out | apply below_alloc | apply pw_below_drewN | apply below_drew1 | refine below_set ?_ GE311.out) | exact HB.out)) hb); clear BK311; clear HB; have BK311 := n0_; have HB := n1_; clear n0_ n1_; (try clear hb); (try clear hb2); (try clear hk); (try clear hi))); try go_wp2_with (first | (go_at_call 29; (with_reducible refine (taskmasterref5_Is.calls k2 ((rd_T46 l0_1 x3_2).f0) ((rd_T46 l0_1 x3_2).f1) ((rd_T46 l0_1 x3_2).f2) ((rd_T46 l0_1 x3_2).f3) ((rd_T46 l0_1 x3_2).f4) ((rd_T46 l0_1 x3_2).f5) _ _ ((rd_T46 l0_1 x3_2).f6) ((rd_T46 l0_1 x3_2).f7) ((rd_T46 l0_1 x3_2).f8) x3_2 true _ ?side1 ?side2 A13.out).mono ?_); (case side1 => repeat (first | exact (Kd.C_below HR313_6.out HB.out) | (with_reducible refine Kd.C_alloc ?_ _) | (with_reducible refine Kd.C_drewN ?_ _) | (with_reducible refine Kd.C_drew ?_))); (case side2 => exact HC313_6.out); rintro e w16 ⟨rfl, hb⟩; have n0_ := Aside0.mk (blk_below (g := gb311) (o := .cells #[.int .i64 a0_0, .slice (some ad313) l0_1.length c0_1] 24 (0, 0)) (by (with_reducible repeat (first | refine blk_drewN ?_ _ | refine blk_drew ?_ | refine blk_alloc ?_ _)); exact BK311.out) hb); have n1_ := Aside0.mk (below_step (by repeat (first | (with_reducible first | exact HB.out | apply below_alloc | apply pw_below_drewN | apply below_drew1 | refine below_set ?_ GE311.out) | exact HB.out)) hb); clear BK311; clear HB; have BK311 := n0_; have HB := n1_; clear n0_ n1_; (try clear hb); (try clear hb2); (try clear hk); (try clear hi))))
                  go_loopg [4] k2 (fun kq v4 w' => ∃ (x4_3 : Int), v4 = .int .i64 x4_3 ∧ Aside0 (taskmasterref5_All.l1 kq x3_2 x4_3 a0_0 l0_1 = some r) ∧ Aside0 (kq ≤ k2) ∧ Aside0 (w'.heap[gb311]? = some (.cells #[.int .i64 a0_0, (.slice (some ad313) l0_1.length c0_1)] 24 (0, 0))) ∧ Aside0 (Below w.heap.size w w'))
                  case atStart => exact ⟨(0), (by first | rfl | (simp; done) | (simp [*]; done)), H', ⟨Nat.le_refl _⟩, ⟨by (with_reducible repeat (first | refine blk_drewN ?_ _ | refine blk_drew ?_ | refine blk_alloc ?_ _)); exact BK311.out⟩, ⟨by repeat (first | (with_reducible first | exact HB.out | apply below_alloc | apply pw_below_drewN | apply below_drew1 | refine below_set ?_ GE311.out) | exact HB.out)⟩⟩
                  case round =>
                    clear H'; (try clear c1); (try clear p2); (try clear c3); (try clear p3); (try clear q3); (try clear hx3); (try clear c5); (try clear c6); (try clear c6b0); (try clear c6b1); (try clear c10); (try clear c11); (try clear c11b0); (try clear c12); (try clear c12b0); (try clear c13); (try clear c14); (try clear hcz15_0); (try clear hcz15_1); (try clear hcz7_0); (try clear hcz7_1); (try clear hcz8_0); (try clear hcz8_1); (try clear hcz9_0); (try clear hcz9_1); (try clear hfz15_0); (try clear hfz15_1); (try clear hfz7_0); (try clear hfz7_1); (try clear hfz8_0); (try clear hfz8_1)
                    (try clear hfz9_0); (try clear hfz9_1); (try clear hx313_0); (try clear hx313_1); (try clear hx313_2); (try clear hx313_3); (try clear hx313_4); (try clear hx313_5); (try clear hx313_6); (try clear hx313_7); (try clear hx313_8); (try clear p2); (try clear p313); (try clear q313)
                    obtain ⟨x4_3, rfl, HA, HK3, BK311, HB⟩ := hrel
                    cases gk with
                    | zero => exact absurd HA.out (by simp [taskmasterref5_All.l1])
                    | succ k3 =>
                      have H := HA.out
                      clear HA
                      simp only [taskmasterref5_All.l1] at H
                      by_cases c17 : x4_3 < x3_2
                      · rw [if_pos c17] at H
                        have c17b0 : decide (x4_3 < x3_2) = true := decide_eq_true c17
                        clear c17
                        by_cases c18 : 0 ≤ x4_3
                        · rw [if_pos c18] at H
                          have c18b0 : decide (0 ≤ x4_3) = true := decide_eq_true c18
                          clear c18
                          by_cases c19 : x4_3 < (l0_1.length : Int)
                          · rw [if_pos c19] at H
                            have c19b0 : decide (x4_3 < (l0_1.length : Int)) = true := decide_eq_true c19
                            clear c19
                            by_cases c20 : 0 ≤ x3_2
                            · rw [if_pos c20] at H
                              have c20b0 : decide (0 ≤ x3_2) = true := decide_eq_true c20
                              clear c20
                              by_cases c21 : x3_2 < (l0_1.length : Int)
                              · rw [if_pos c21] at H
                                have c21b0 : decide (x3_2 < (l0_1.length : Int)) = true := decide_eq_true c21
                                clear c21
                                by_cases c22 : ((rd_T46 l0_1 x4_3).f0).toList = ((rd_T46 l0_1 x3_2).f0).toList
                                · rw [if_pos c22] at H
                                  have c22b0 : (((rd_T46 l0_1 x4_3).f0).toList == ((rd_T46 l0_1 x3_2).f0).toList) = true := beq_iff_eq.mpr c22
                                  have c22b1 : (((rd_T46 l0_1 x4_3).f0).toList != ((rd_T46 l0_1 x3_2).f0).toList) = false := bne_eq_false_iff_eq.mpr c22
                                  clear c22
                                  obtain rfl := Option.some.inj H
                                  have hcz23_0 : wr.cell? ⟨gb311, 0, none⟩ = some (.int .i64 a0_0) := (blk_cell BK311.out 0).trans rfl
                                  have hcz23_1 : wr.cell? ⟨gb311, 1, none⟩ = some (.slice (some ad313) l0_1.length c0_1) := (blk_cell BK311.out 1).trans rfl
                                  have hfz23_0 := blk_frozen BK311.out 0
                                  have hfz23_1 := blk_frozen BK311.out 1
                                  have p315 : 0 ≤ (x4_3 : Int) := of_decide_eq_true (by first | (with_reducible assumption) | assumption)
                                  have q315 : x4_3 < (l0_1.length : Int) := of_decide_eq_true (by first | (with_reducible assumption) | assumption)
                                  obtain ⟨ad315, A315_6, c315_6, e315, hx315_0, hx315_1, hx315_2, hx315_3, hx315_4, hx315_5, hx315_6, hx315_7, hx315_8, hl315_6, hi315_6⟩ := at_T46 HR0_1.out x4_3 p315 q315
                                  obtain rfl : ad313 = ad315 := (by injection e315)
                                  replace hx315_0 := (HB.out.cell (wbl w _ hx315_0)).trans hx315_0
                                  replace hx315_1 := (HB.out.cell (wbl w _ hx315_1)).trans hx315_1
                                  replace hx315_2 := (HB.out.cell (wbl w _ hx315_2)).trans hx315_2
                                  replace hx315_3 := (HB.out.cell (wbl w _ hx315_3)).trans hx315_3
                                  replace hx315_4 := (HB.out.cell (wbl w _ hx315_4)).trans hx315_4
                                  replace hx315_5 := (HB.out.cell (wbl w _ hx315_5)).trans hx315_5
                                  replace hx315_6 := (HB.out.cell (wbl w _ hx315_6)).trans hx315_6
                                  replace hx315_7 := (HB.out.cell (wbl w _ hx315_7)).trans hx315_7
                                  replace hx315_8 := (HB.out.cell (wbl w _ hx315_8)).trans hx315_8
                                  have HR315_6 := Aside0.mk hi315_6
                                  have HC315_6 := Aside0.mk hl315_6
                                  clear hi315_6 hl315_6
                                  replace p315 := eq_true p315
                                  replace q315 := eq_true q315
                                  have p316 : 0 ≤ (x3_2 : Int) := of_decide_eq_true (by first | (with_reducible assumption) | assumption)
                                  have q316 : x3_2 < (l0_1.length : Int) := of_decide_eq_true (by first | (with_reducible assumption) | assumption)
                                  obtain ⟨ad316, A316_6, c316_6, e316, hx316_0, hx316_1, hx316_2, hx316_3, hx316_4, hx316_5, hx316_6, hx316_7, hx316_8, hl316_6, hi316_6⟩ := at_T46 HR0_1.out x3_2 p316 q316
                                  obtain rfl : ad313 = ad316 := (by injection e316)
                                  replace hx316_0 := (HB.out.cell (wbl w _ hx316_0)).trans hx316_0
                                  replace hx316_1 := (HB.out.cell (wbl w _ hx316_1)).trans hx316_1
                                  replace hx316_2 := (HB.out.cell (wbl w _ hx316_2)).trans hx316_2
                                  replace hx316_3 := (HB.out.cell (wbl w _ hx316_3)).trans hx316_3
                                  replace hx316_4 := (HB.out.cell (wbl w _ hx316_4)).trans hx316_4
                                  replace hx316_5 := (HB.out.cell (wbl w _ hx316_5)).trans hx316_5
                                  replace hx316_6 := (HB.out.cell (wbl w _ hx316_6)).trans hx316_6
                                  replace hx316_7 := (HB.out.cell (wbl w _ hx316_7)).trans hx316_7
                                  replace hx316_8 := (HB.out.cell (wbl w _ hx316_8)).trans hx316_8
                                  have HR316_6 := Aside0.mk hi316_6
                                  have HC316_6 := Aside0.mk hl316_6
                                  clear hi316_6 hl316_6
                                  replace p316 := eq_true p316
                                  replace q316 := eq_true q316
                                  go_wp2
                                  repeat (go_quiet (fail); try go_wp2)
                                  go_ret
                                  exact ⟨by first | rfl | (simp [errW_none, errW_some] <;> rfl) | (simp [*, errW_none, errW_some] <;> rfl), by repeat (first | (with_reducible first | exact HB.out | apply below_alloc | apply pw_below_drewN | apply below_drew1 | refine below_set ?_ GE311.out) | exact HB.out)⟩
                                · rw [if_neg c22] at H
                                  have c22b0 : (((rd_T46 l0_1 x4_3).f0).toList == ((rd_T46 l0_1 x3_2).f0).toList) = false := beq_eq_false_iff_ne.mpr c22
                                  have c22b1 : (((rd_T46 l0_1 x4_3).f0).toList != ((rd_T46 l0_1 x3_2).f0).toList) = true := bne_iff_ne.mpr c22
                                  have H' := Aside0.mk H
                                  clear H
                                  have hcz24_0 : wr.cell? ⟨gb311, 0, none⟩ = some (.int .i64 a0_0) := (blk_cell BK311.out 0).trans rfl
                                  have hcz24_1 : wr.cell? ⟨gb311, 1, none⟩ = some (.slice (some ad313) l0_1.length c0_1) := (blk_cell BK311.out 1).trans rfl
                                  have hfz24_0 := blk_frozen BK311.out 0
                                  have hfz24_1 := blk_frozen BK311.out 1
                                  have p315 : 0 ≤ (x4_3 : Int) := of_decide_eq_true (by first | (with_reducible assumption) | assumption)
                                  have q315 : x4_3 < (l0_1.length : Int) := of_decide_eq_true (by first | (with_reducible assumption) | assumption)
                                  obtain ⟨ad315, A315_6, c315_6, e315, hx315_0, hx315_1, hx315_2, hx315_3, hx315_4, hx315_5, hx315_6, hx315_7, hx315_8, hl315_6, hi315_6⟩ := at_T46 HR0_1.out x4_3 p315 q315
                                  obtain rfl : ad313 = ad315 := (by injection e315)
                                  replace hx315_0 := (HB.out.cell (wbl w _ hx315_0)).trans hx315_0
                                  replace hx315_1 := (HB.out.cell (wbl w _ hx315_1)).trans hx315_1
                                  replace hx315_2 := (HB.out.cell (wbl w _ hx315_2)).trans hx315_2
                                  replace hx315_3 := (HB.out.cell (wbl w _ hx315_3)).trans hx315_3
                                  replace hx315_4 := (HB.out.cell (wbl w _ hx315_4)).trans hx315_4
                                  replace hx315_5 := (HB.out.cell (wbl w _ hx315_5)).trans hx315_5
                                  replace hx315_6 := (HB.out.cell (wbl w _ hx315_6)).trans hx315_6
                                  replace hx315_7 := (HB.out.cell (wbl w _ hx315_7)).trans hx315_7
                                  replace hx315_8 := (HB.out.cell (wbl w _ hx315_8)).trans hx315_8
                                  have HR315_6 := Aside0.mk hi315_6
                                  have HC315_6 := Aside0.mk hl315_6
                                  clear hi315_6 hl315_6
                                  replace p315 := eq_true p315
                                  replace q315 := eq_true q315
                                  have p316 : 0 ≤ (x3_2 : Int) := of_decide_eq_true (by first | (with_reducible assumption) | assumption)
                                  have q316 : x3_2 < (l0_1.length : Int) := of_decide_eq_true (by first | (with_reducible assumption) | assumption)
                                  obtain ⟨ad316, A316_6, c316_6, e316, hx316_0, hx316_1, hx316_2, hx316_3, hx316_4, hx316_5, hx316_6, hx316_7, hx316_8, hl316_6, hi316_6⟩ := at_T46 HR0_1.out x3_2 p316 q316
                                  obtain rfl : ad313 = ad316 := (by injection e316)
                                  replace hx316_0 := (HB.out.cell (wbl w _ hx316_0)).trans hx316_0
                                  replace hx316_1 := (HB.out.cell (wbl w _ hx316_1)).trans hx316_1
                                  replace hx316_2 := (HB.out.cell (wbl w _ hx316_2)).trans hx316_2
                                  replace hx316_3 := (HB.out.cell (wbl w _ hx316_3)).trans hx316_3
                                  replace hx316_4 := (HB.out.cell (wbl w _ hx316_4)).trans hx316_4
                                  replace hx316_5 := (HB.out.cell (wbl w _ hx316_5)).trans hx316_5
                                  replace hx316_6 := (HB.out.cell (wbl w _ hx316_6)).trans hx316_6
                                  replace hx316_7 := (HB.out.cell (wbl w _ hx316_7)).trans hx316_7
                                  replace hx316_8 := (HB.out.cell (wbl w _ hx316_8)).trans hx316_8
                                  have HR316_6 := Aside0.mk hi316_6
                                  have HC316_6 := Aside0.mk hl316_6
                                  clear hi316_6 hl316_6
                                  replace p316 := eq_true p316
                                  replace q316 := eq_true q316
                                  go_wp2
                                  repeat (go_quiet (fail); try go_wp2)
                                  go_roundg k3
                                  case measure => have := HJ1.out; have := HK2.out; have := HK3.out; omega
                                  case rel => exact ⟨(wrap64 (x4_3 + 1)), (by first | rfl | (simp; done) | (simp [*]; done)), H', ⟨by have := HJ1.out; have := HK2.out; have := HK3.out; omega⟩, ⟨by (with_reducible repeat (first | refine blk_drewN ?_ _ | refine blk_drew ?_ | refine blk_alloc ?_ _)); exact BK311.out⟩, ⟨by repeat (first | (with_reducible first | exact HB.out | apply below_alloc | apply pw_below_drewN | apply below_drew1 | refine below_set ?_ GE311.out) | exact HB.out)⟩⟩
                              · rw [if_neg c21] at H
                                exact absurd H (by simp)
                            · rw [if_neg c20] at H
                              exact absurd H (by simp)
                          · rw [if_neg c19] at H
                            exact absurd H (by simp)
                        · rw [if_neg c18] at H
                          exact absurd H (by simp)
                      · rw [if_neg c17] at H
                        have c17b0 : decide (x4_3 < x3_2) = false := decide_eq_false c17
                        clear c17
                        have H' := Aside0.mk H
                        clear H; go_wp2
                        repeat (go_quiet (fail); try go_wp2)
                        go_roundg k3
                        case measure => have := HJ1.out; have := HK2.out; have := HK3.out; omega
                        case rel => exact ⟨(wrap64 (x3_2 + 1)), (by first | rfl | (simp; done) | (simp [*]; done)), H', ⟨by have := HJ1.out; have := HK2.out; have := HK3.out; omega⟩, ⟨by (with_reducible repeat (first | refine blk_drewN ?_ _ | refine blk_drew ?_ | refine blk_alloc ?_ _)); exact BK311.out⟩, ⟨by repeat (first | (with_reducible first | exact HB.out | apply below_alloc | apply pw_below_drewN | apply below_drew1 | refine below_set ?_ GE311.out) | exact HB.out)⟩⟩
                · replace c14 := Bool.eq_false_iff.mpr c14
                  subst c14
                  have H1 : (some false) = some r := by rw [if_neg (show ¬ (false = true) by decide)] at H; exact H
                  clear H
                  have H := H1
                  clear H1
                  obtain rfl := Option.some.inj H
                  have hcz25_0 : wr.cell? ⟨gb311, 0, none⟩ = some (.int .i64 a0_0) := (blk_cell BK311.out 0).trans rfl
                  have hcz25_1 : wr.cell? ⟨gb311, 1, none⟩ = some (.slice A0_1 l0_1.length c0_1) := (blk_cell BK311.out 1).trans rfl
                  have hfz25_0 := blk_frozen BK311.out 0
                  have hfz25_1 := blk_frozen BK311.out 1
                  have p313 : 0 ≤ (x3_2 : Int) := of_decide_eq_true (by first | (with_reducible assumption) | assumption)
                  have q313 : x3_2 < (l0_1.length : Int) := of_decide_eq_true (by first | (with_reducible assumption) | assumption)
                  obtain ⟨ad313, A313_6, c313_6, e313, hx313_0, hx313_1, hx313_2, hx313_3, hx313_4, hx313_5, hx313_6, hx313_7, hx313_8, hl313_6, hi313_6⟩ := at_T46 HR0_1.out x3_2 p313 q313
                  cases e313
                  replace hx313_0 := (HB.out.cell (wbl w _ hx313_0)).trans hx313_0
                  replace hx313_1 := (HB.out.cell (wbl w _ hx313_1)).trans hx313_1
                  replace hx313_2 := (HB.out.cell (wbl w _ hx313_2)).trans hx313_2
                  replace hx313_3 := (HB.out.cell (wbl w _ hx313_3)).trans hx313_3
                  replace hx313_4 := (HB.out.cell (wbl w _ hx313_4)).trans hx313_4
                  replace hx313_5 := (HB.out.cell (wbl w _ hx313_5)).trans hx313_5
                  replace hx313_6 := (HB.out.cell (wbl w _ hx313_6)).trans hx313_6
                  replace hx313_7 := (HB.out.cell (wbl w _ hx313_7)).trans hx313_7
                  replace hx313_8 := (HB.out.cell (wbl w _ hx313_8)).trans hx313_8
                  have HR313_6 := Aside0.mk hi313_6
                  have HC313_6 := Aside0.mk hl313_6
                  clear hi313_6 hl313_6
                  replace p313 := eq_true p313
                  replace q313 := eq_true q313
                  go_wp2_with (first | (go_at_call 29; (with_reducible refine (taskmasterref5_Is.calls k2 ((rd_T46 l0_1 x3_2).f0) ((rd_T46 l0_1 x3_2).f1) ((rd_T46 l0_1 x3_2).f2) ((rd_T46 l0_1 x3_2).f3) ((rd_T46 l0_1 x3_2).f4) ((rd_T46 l0_1 x3_2).f5) _ _ ((rd_T46 l0_1 x3_2).f6) ((rd_T46 l0_1 x3_2).f7) ((rd_T46 l0_1 x3_2).f8) x3_2 false _ ?side1 ?side2 A13.out).mono ?_); (case side1 => repeat (first | exact (Kd.C_below HR313_6.out HB.out) | (with_reducible refine Kd.C_alloc ?_ _) | (with_reducible refine Kd.C_drewN ?_ _) | (with_reducible refine Kd.C_drew ?_))); (case side2 => exact HC313_6.out); rintro e w26 ⟨rfl, hb⟩; have n0_ := Aside0.mk (blk_below (g := gb311) (o := .cells #[.int .i64 a0_0, .slice (some ad313) l0_1.length c0_1] 24 (0, 0)) (by (with_reducible repeat (first | refine blk_drewN ?_ _ | refine blk_drew ?_ | refine blk_alloc ?_ _)); exact BK311.out) hb); have n1_ := Aside0.mk (below_step (by repeat (first | (with_reducible first | exact HB.out | apply below_alloc | apply pw_below_drewN | apply below_drew1 | refine below_set ?_ GE311.out) | exact HB.out)) hb); clear BK311; clear HB; have BK311 := n0_; have HB := n1_; clear n0_ n1_; (try clear hb); (try clear hb2); (try clear hk); (try clear hi)))
                  repeat (go_quiet (first | (go_at_call 29; (with_reducible refine (taskmasterref5_Is.calls k2 ((rd_T46 l0_1 x3_2).f0) ((rd_T46 l0_1 x3_2).f1) ((rd_T46 l0_1 x3_2).f2) ((rd_T46 l0_1 x3_2).f3) ((rd_T46 l0_1 x3_2).f4) ((rd_T46 l0_1 x3_2).f5) _ _ ((rd_T46 l0_1 x3_2).f6) ((rd_T46 l0_1 x3_2).f7) ((rd_T46 l0_1 x3_2).f8) x3_2 false _ ?side1 ?side2 A13.out).mono ?_); (case side1 => repeat (first | exact (Kd.C_below HR313_6.out HB.out) | (with_reducible refine Kd.C_alloc ?_ _) | (with_reducible refine Kd.C_drewN ?_ _) | (with_reducible refine Kd.C_drew ?_))); (case side2 => exact HC313_6.out); rintro e w26 ⟨rfl, hb⟩; have n0_ := Aside0.mk (blk_below (g := gb311) (o := .cells #[.int .i64 a0_0, .slice (some ad313) l0_1.length c0_1] 24 (0, 0)) (by (with_reducible repeat (first | refine blk_drewN ?_ _ | refine blk_drew ?_ | refine blk_alloc ?_ _)); exact BK311.out) hb); have n1_ := Aside0.mk (below_step (by repeat (first | (with_reducible first | exact HB.out | apply below_alloc | apply pw_below_drewN | apply below_drew1 | refine below_set ?_ GE311.out) | exact HB.out)) hb); clear BK311; clear HB; have BK311 := n0_; have HB := n1_; clear n0_ n1_; (try clear hb); (try clear hb2); (try clear hk); (try clear hi))); try go_wp2_with (first | (go_at_call 29; (with_reducible refine (taskmasterref5_Is.calls k2 ((rd_T46 l0_1 x3_2).f0) ((rd_T46 l0_1 x3_2).f1) ((rd_T46 l0_1 x3_2).f2) ((rd_T46 l0_1 x3_2).f3) ((rd_T46 l0_1 x3_2).f4) ((rd_T46 l0_1 x3_2).f5) _ _ ((rd_T46 l0_1 x3_2).f6) ((rd_T46 l0_1 x3_2).f7) ((rd_T46 l0_1 x3_2).f8) x3_2 false _ ?side1 ?side2 A13.out).mono ?_); (case side1 => repeat (first | exact (Kd.C_below HR313_6.out HB.out) | (with_reducible refine Kd.C_alloc ?_ _) | (with_reducible refine Kd.C_drewN ?_ _) | (with_reducible refine Kd.C_drew ?_))); (case side2 => exact HC313_6.out); rintro e w26 ⟨rfl, hb⟩; have n0_ := Aside0.mk (blk_below (g := gb311) (o := .cells #[.int .i64 a0_0, .slice (some ad313) l0_1.length c0_1] 24 (0, 0)) (by (with_reducible repeat (first | refine blk_drewN ?_ _ | refine blk_drew ?_ | refine blk_alloc ?_ _)); exact BK311.out) hb); have n1_ := Aside0.mk (below_step (by repeat (first | (with_reducible first | exact HB.out | apply below_alloc | apply pw_below_drewN | apply below_drew1 | refine below_set ?_ GE311.out) | exact HB.out)) hb); clear BK311; clear HB; have BK311 := n0_; have HB := n1_; clear n0_ n1_; (try clear hb); (try clear hb2); (try clear hk); (try clear hi))))
                  go_ret
                  exact ⟨by first | rfl | (simp [errW_none, errW_some] <;> rfl) | (simp [*, errW_none, errW_some] <;> rfl), by repeat (first | (with_reducible first | exact HB.out | apply below_alloc | apply pw_below_drewN | apply below_drew1 | refine below_set ?_ GE311.out) | exact HB.out)⟩
              · rw [if_neg c12] at H
                exact absurd H (by simp)
            · rw [if_neg c11] at H
              have c11b0 : decide (x3_2 < (l0_1.length : Int)) = false := decide_eq_false c11
              clear c11
              obtain rfl := Option.some.inj H
              have hcz27_0 : wr.cell? ⟨gb311, 0, none⟩ = some (.int .i64 a0_0) := (blk_cell BK311.out 0).trans rfl
              have hcz27_1 : wr.cell? ⟨gb311, 1, none⟩ = some (.slice A0_1 l0_1.length c0_1) := (blk_cell BK311.out 1).trans rfl
              have hfz27_0 := blk_frozen BK311.out 0
              have hfz27_1 := blk_frozen BK311.out 1
              go_wp2
              repeat (go_quiet (fail); try go_wp2)
              go_ret
              exact ⟨by first | rfl | (simp [errW_none, errW_some] <;> rfl) | (simp [*, errW_none, errW_some] <;> rfl), by repeat (first | (with_reducible first | exact HB.out | apply below_alloc | apply pw_below_drewN | apply below_drew1 | refine below_set ?_ GE311.out) | exact HB.out)⟩
def taskmasterref2_Has.f (a0 : Int) (a1 : Int) : Option (Bool) := if a1 ≥ 0 then (if a1 < 64 then (if 0 ≤ (IntKind.u64.wrap (a1)) then (some ((Go.bits .and .u64 (shr .u64 a0 (IntKind.u64.wrap (a1))) 1) == 1)) else (none)) else (some false)) else (some false)
set_option maxHeartbeats 8000000 in
set_option maxRecDepth 100000 in
theorem taskmasterref2_Has.calls (a0 : Int) (a1 : Int) (r : Bool) (w : World) (h : taskmasterref2_Has.f a0 a1 = some r) :
    Calls Tryz.prog 93 #[.int .u64 a0, .int .i64 a1] w fun e w' => e = .returned (.bool r) ∧ Drawn0 w w' := by
  have H : (if a1 ≥ 0 then (if a1 < 64 then (if 0 ≤ (IntKind.u64.wrap (a1)) then (some ((Go.bits .and .u64 (shr .u64 a0 (IntKind.u64.wrap (a1))) 1) == 1)) else (none)) else (some false)) else (some false)) = some r := h
  clear h
  by_cases c3 : a1 ≥ 0
  · rw [if_pos c3] at H
    have c3b0 : decide (0 ≤ a1) = true := decide_eq_true c3
    clear c3
    by_cases c4 : a1 < 64
    · rw [if_pos c4] at H
      have c4b0 : decide (a1 < 64) = true := decide_eq_true c4
      clear c4
      obtain ⟨ji5, hji5⟩ : ∃ j_ : Int, (IntKind.u64.wrap (a1)) = j_ := ⟨_, rfl⟩
      replace H : (if 0 ≤ (ji5) then (some ((Go.bits .and .u64 (shr .u64 a0 (ji5)) 1) == 1)) else (none)) = some r := by first | (rw [hji5] at H; exact H) | (simp only [hji5] at H ⊢; exact H)
      by_cases c6 : 0 ≤ (ji5)
      · rw [if_pos c6] at H
        have c6b0 := eq_true c6
        have c6b1 : decide (0 ≤ (ji5)) = true := decide_eq_true c6
        clear c6
        obtain ⟨ji7, hji7⟩ : ∃ j_ : Int, (shr .u64 a0 (ji5)) = j_ := ⟨_, rfl⟩
        replace H : (some ((Go.bits .and .u64 (ji7) 1) == 1)) = some r := by first | (rw [hji7] at H; exact H) | (simp only [hji7] at H ⊢; exact H)
        have hji7_ : (a0 / 2 ^ min (ji5).toNat 64) = ji7 := hji7
        have hji7z : (ji5) ≤ 64 → (a0 / 2 ^ (ji5).toNat) = ji7 := shr_small hji7
        obtain rfl := Option.some.inj H
        go_enter Tryz.func93, Tryz.ntmps93
        go_wp2; go_ret
        exact ⟨by first | rfl | (simp; done) | (simp only [← hji5, ← hji7] <;> (first | rfl | simp)) | (simp [*]; done), by repeat (first | exact Drawn0.refl _ | apply Drawn0.step)⟩
      · rw [if_neg c6] at H
        exact absurd H (by simp)
    · rw [if_neg c4] at H
      have c4b0 : decide (a1 < 64) = false := decide_eq_false c4
      clear c4
      obtain rfl := Option.some.inj H
      go_enter Tryz.func93, Tryz.ntmps93
      go_wp2; go_ret
      exact ⟨by first | rfl | (simp; done) | (simp [*]; done), by repeat (first | exact Drawn0.refl _ | apply Drawn0.step)⟩
  · rw [if_neg c3] at H
    have c3b0 : decide (0 ≤ a1) = false := decide_eq_false c3
    clear c3
    obtain rfl := Option.some.inj H
    go_enter Tryz.func93, Tryz.ntmps93
    go_wp2; go_ret
    exact ⟨by first | rfl | (simp; done) | (simp [*]; done), by repeat (first | exact Drawn0.refl _ | apply Drawn0.step)⟩
def taskmasterref2_List.l0 : Nat → Int → List Int → Int → Option (List Int)
  | 0, _, _, _ => none
  | k + 1, x0, x3, x4 => if x4 < 64 then ((taskmasterref2_Has.f x0 x4).bind fun t318 => (if t318 = true then (if x3.length < 17592186044416 then (taskmasterref2_List.l0 k x0 (x3 ++ [x4]) (wrap64 (x4 + 1))) else (none)) else (taskmasterref2_List.l0 k x0 x3 (wrap64 (x4 + 1))))) else (some x3)
def taskmasterref2_List.f (k : Nat) (a0 : Int) : Option (List Int) := taskmasterref2_List.l0 k a0 ([] : List Int) 0
set_option maxHeartbeats 8000000 in
set_option maxRecDepth 100000 in
theorem taskmasterref2_List.calls (k : Nat) (a0 : Int) (r : List Int) (w : World) (h : taskmasterref2_List.f k a0 = some r) :
    Calls Tryz.prog 53 #[.int .u64 a0] w fun e w' => ∃ v0_ : Value, e = .returned (v0_) ∧ Kd.R (Kd.int .i64) 3 w' w.heap.size (fun _ => True) v0_ r ∧ Below w.heap.size w w' := by
  have HB := Aside0.mk (Below.refl w.heap.size w)
  have H : (taskmasterref2_List.l0 k a0 ([] : List Int) 0) = some r := h
  clear h
  have H' := Aside0.mk H
  clear H
  go_enter Tryz.func53, Tryz.ntmps53
  go_wp2
  go_loopg [3, 4] k (fun kq v3 v4 w' => ∃ (x3_1 : List Int) (x4_1 : Int), v4 = .int .i64 x4_1 ∧ Aside0 (taskmasterref2_List.l0 kq a0 x3_1 x4_1 = some r) ∧ Aside0 (kq ≤ k) ∧ Aside0 (Kd.R (Kd.int .i64) 3 w' w.heap.size (fun _ => True) v3 x3_1) ∧ Aside0 (Below w.heap.size w w'))
  case atStart => exact ⟨(([] : List Int)), (0), (by first | rfl | (simp; done) | (simp [*]; done)), H', ⟨Nat.le_refl _⟩, ⟨by first | exact Kd.R_nil _ _ _ _ _ | exact Kd.N_nil _ _ _ _ _ | exact Kd.V_nil _ _ _ _ _ | exact Kd.Q_nil _ _ _ _ _ | exact Kd.S_nil _ _ _ _ _⟩, ⟨by repeat (first | (with_reducible first | exact HB.out | apply below_alloc | apply pw_below_drewN | apply below_drew1) | exact HB.out)⟩⟩
  case round =>
    clear H'
    obtain ⟨x3_1, x4_1, rfl, HA, HK1, HO_3, HB⟩ := hrel
    cases gk with
    | zero => exact absurd HA.out (by simp [taskmasterref2_List.l0])
    | succ k1 =>
      have H := HA.out
      clear HA
      simp only [taskmasterref2_List.l0] at H
      by_cases c2 : x4_1 < 64
      · rw [if_pos c2] at H
        have c2b0 : decide (x4_1 < 64) = true := decide_eq_true c2
        clear c2
        replace H := Option.bind_eq_some_iff.mp H
        obtain ⟨t318, A30, H⟩ := H
        replace H : (if t318 = true then (if x3_1.length < 17592186044416 then (taskmasterref2_List.l0 k1 a0 (x3_1 ++ [x4_1]) (wrap64 (x4_1 + 1))) else (none)) else (taskmasterref2_List.l0 k1 a0 x3_1 (wrap64 (x4_1 + 1)))) = some r := H
        have A3 := Aside0.mk A30
        clear A30
        by_cases c4 : t318 = true
        · subst c4
          have H1 : (if x3_1.length < 17592186044416 then (taskmasterref2_List.l0 k1 a0 (x3_1 ++ [x4_1]) (wrap64 (x4_1 + 1))) else (none)) = some r := by rw [if_pos rfl] at H; exact H
          clear H
          have H := H1
          clear H1
          by_cases c5 : x3_1.length < 17592186044416
          · rw [if_pos c5] at H
            have LMc5 := Aside0.mk c5
            clear c5
            obtain ⟨y319, hy319⟩ : ∃ y_ : List Int, y_ = (x3_1 ++ [x4_1]) := ⟨_, rfl⟩
            replace H : (taskmasterref2_List.l0 k1 a0 y319 (wrap64 (x4_1 + 1))) = some r := by first | (rw [hy319]; with_reducible exact H) | (have H2_ := (Option.bind_some _ _).symm.trans H; rw [hy319]; with_reducible exact H2_) | (have H2_ := (Option.bind_some _ _).symm.trans H; with_reducible exact H2_) | with_reducible exact H | (rw [hy319]; exact H) | exact H
            have Ny319 := Aside0.mk hy319
            clear hy319
            have H' := Aside0.mk H
            clear H
            go_wp2_with (first | ((with_reducible refine gate_callee (f := 93) rfl ?_); refine goesL_ (some 11) rfl rfl Tryz.func93 (by kernel_rfl) rfl #[.int .u64 a0, .int .i64 x4_1] rfl (by (try simp only [List.map_toArray, List.map_cons, List.map_nil]); first | done | rfl | (simp only [List.length_drop, List.length_take]; rfl)) ?_; (with_reducible refine (taskmasterref2_Has.calls a0 x4_1 true _ A3.out).mono ?_); rintro e w' ⟨rfl, ⟨nd, rfl⟩⟩; refine ⟨_, rfl, ?_⟩) | ((with_reducible refine gate_builtin (b := .append) (xs := #[.tmp 12, .tmp 14]) rfl ?_); at_builtin; refine Kd.R_append (Kd.int .i64) (w0 := w) w.heap.size rfl (.tmp 12) (.tmp 14) 86 3 (.int .i64 0) 8 rfl Tryz.underlying86 info3 rfl (by decide) (by omega) u3 x3_1 x4_1 [.int .i64 x4_1] (fun _ => True) (fun _ => False) rfl rfl ?aP (fun _ hk => hk.elim) ?aF ?aO ?aB ?aS ?aL ?_; (case aP => exact rfl); (case aB => exact (by repeat (first | (with_reducible first | exact HB.out | apply below_alloc | apply pw_below_drewN | apply below_drew1) | exact HB.out))); (case aF => exact (fun _ _ => trivial)); (case aO => exact (by (with_reducible repeat (first | apply Kd.R_alloc | apply Kd.R_drewN | apply Kd.R_drew)); exact HO_3.out)); (case aS => exact (below_size (by repeat (first | (with_reducible first | exact HB.out | apply below_alloc | apply pw_below_drewN | apply below_drew1) | exact HB.out)))); (case aL => have := LMc5.out; omega); intro v320 w6 ho hb hg hat; rw [← Ny319.out] at ho; have n0_ := Aside0.mk (hb); have n1_ := Aside0.mk (ho); clear HB; clear HO_3; have HB := n0_; have HO321 := n1_; clear n0_ n1_; clear ho hb hg hat))
            go_roundg k1
            case measure => have := HK1.out; omega
            case rel => exact ⟨(y319), (wrap64 (x4_1 + 1)), (by first | rfl | (simp; done) | (simp [*]; done)), H', ⟨by have := HK1.out; omega⟩, ⟨by (with_reducible repeat (first | apply Kd.R_alloc | apply Kd.R_drewN | apply Kd.R_drew)); exact HO321.out⟩, ⟨by repeat (first | (with_reducible first | exact HB.out | apply below_alloc | apply pw_below_drewN | apply below_drew1) | exact HB.out)⟩⟩
          · rw [if_neg c5] at H
            exact absurd H (by simp)
        · replace c4 := Bool.eq_false_iff.mpr c4
          subst c4
          have H1 : (taskmasterref2_List.l0 k1 a0 x3_1 (wrap64 (x4_1 + 1))) = some r := by rw [if_neg (show ¬ (false = true) by decide)] at H; exact H
          clear H
          have H := H1
          clear H1
          have H' := Aside0.mk H
          clear H
          go_wp2_with (first | ((with_reducible refine gate_callee (f := 93) rfl ?_); refine goesL_ (some 11) rfl rfl Tryz.func93 (by kernel_rfl) rfl #[.int .u64 a0, .int .i64 x4_1] rfl (by (try simp only [List.map_toArray, List.map_cons, List.map_nil]); first | done | rfl | (simp only [List.length_drop, List.length_take]; rfl)) ?_; (with_reducible refine (taskmasterref2_Has.calls a0 x4_1 false _ A3.out).mono ?_); rintro e w' ⟨rfl, ⟨nd, rfl⟩⟩; refine ⟨_, rfl, ?_⟩))
          go_roundg k1
          case measure => have := HK1.out; omega
          case rel => exact ⟨(x3_1), (wrap64 (x4_1 + 1)), (by first | rfl | (simp; done) | (simp [*]; done)), H', ⟨by have := HK1.out; omega⟩, ⟨by (with_reducible repeat (first | apply Kd.R_alloc | apply Kd.R_drewN | apply Kd.R_drew)); exact HO_3.out⟩, ⟨by repeat (first | (with_reducible first | exact HB.out | apply below_alloc | apply pw_below_drewN | apply below_drew1) | exact HB.out)⟩⟩
      · rw [if_neg c2] at H
        have c2b0 : decide (x4_1 < 64) = false := decide_eq_false c2
        clear c2
        obtain rfl := Option.some.inj H
        go_wp2; go_ret
        exact ⟨_, by first | rfl | (simp [errW_none, errW_some] <;> rfl) | (simp [*, errW_none, errW_some] <;> rfl), by (with_reducible repeat (first | apply Kd.R_alloc | apply Kd.R_drewN | apply Kd.R_drew)); exact HO_3.out, by repeat (first | (with_reducible first | exact HB.out | apply below_alloc | apply pw_below_drewN | apply below_drew1) | exact HB.out)⟩
def taskmasterref2_Count.f (k : Nat) (a0 : Int) : Option (Int) := (taskmasterref2_List.f k a0).bind fun t322 => (some (t322.length : Int))
set_option maxHeartbeats 8000000 in
set_option maxRecDepth 100000 in
theorem taskmasterref2_Count.calls (k : Nat) (a0 : Int) (r : Int) (w : World) (h : taskmasterref2_Count.f k a0 = some r) :
    Calls Tryz.prog 32 #[.int .u64 a0] w fun e w' => e = .returned (.int .i64 r) ∧ Below w.heap.size w w' := by
  have HB := Aside0.mk (Below.refl w.heap.size w)
  have H : ((taskmasterref2_List.f k a0).bind fun t322 => (some (t322.length : Int))) = some r := h
  clear h
  replace H := Option.bind_eq_some_iff.mp H
  obtain ⟨t322, A20, H⟩ := H
  replace H : (some (t322.length : Int)) = some r := H
  have A2 := Aside0.mk A20
  clear A20
  obtain rfl := Option.some.inj H
  go_enter Tryz.func32, Tryz.ntmps32
  go_wp2_with (first | ((with_reducible refine gate_callee (f := 53) rfl ?_); refine goesL_ (some 4) rfl rfl Tryz.func53 (by kernel_rfl) rfl #[.int .u64 a0] rfl (by (try simp only [List.map_toArray, List.map_cons, List.map_nil]); first | done | rfl | (simp only [List.length_drop, List.length_take]; rfl)) ?_; (with_reducible refine (taskmasterref2_List.calls k a0 t322 _ A2.out).mono ?_); rintro e w3 ⟨v323, rfl, ho0, hb⟩; refine ⟨_, rfl, ?_⟩; have n0_ := Aside0.mk (Kd.R_lower ho0 (below_size (by repeat (first | (with_reducible first | exact HB.out | apply below_alloc | apply pw_below_drewN | apply below_drew1) | exact HB.out)))); have n1_ := Aside0.mk (below_step (by repeat (first | (with_reducible first | exact HB.out | apply below_alloc | apply pw_below_drewN | apply below_drew1) | exact HB.out)) hb); clear HB; have HO324 := n0_; have HB := n1_; clear n0_ n1_; (try clear hb); (try clear hb2); (try clear hk); (try clear hi); (try clear ho0); obtain ⟨Ao4, co4, eo4⟩ := Kd.R_slice HO324.out; subst eo4))
  go_ret
  exact ⟨by first | rfl | (simp [errW_none, errW_some] <;> rfl) | (simp [*, errW_none, errW_some] <;> rfl), by repeat (first | (with_reducible first | exact HB.out | apply below_alloc | apply pw_below_drewN | apply below_drew1) | exact HB.out)⟩
attribute [local go_sem] max2_int min2_int max_two min_two max_three min_three max_four min_four   -- for this text's walks alone
set_option linter.unusedVariables false
set_option linter.unusedSimpArgs false
mutual
def taskmasterref8_Made.j0 : Nat → Int → Bool → Int → List (S46) → Option (Int)
  | 0, _, _, _, _ => none
  | k + 1, x1, x15, x326000, x326001 => if x15 = true then (some 0) else (taskmasterref8_Made.l0 k x1 0 (wrap64 (x1 + 1)) x326000 x326001)
def taskmasterref8_Made.l0 : Nat → Int → Int → Int → Int → List (S46) → Option (Int)
  | 0, _, _, _, _, _ => none
  | k + 1, x1, x5, x6, x326000, x326001 => if x6 < (x326001.length : Int) then (if 0 ≤ x6 then (taskmasterref8_Made.l0 k x1 (Go.bits .or .u64 x5 ((rd_T46 x326001 x6).f8)) (wrap64 (x6 + 1)) x326000 x326001) else (none)) else (if 0 ≤ x1 then (if x1 < (x326001.length : Int) then ((taskmasterref2_Count.f k (Go.bits .and .u64 x5 ((rd_T46 x326001 x1).f7))).bind fun t328 => (some (wrap64 (x326000 * t328)))) else (none)) else (none))
end
def taskmasterref8_Made.f (k : Nat) (a0_0 : Int) (l0_1 : List (S46)) (a1 : Int) : Option (Int) := if a1 < 0 then (taskmasterref8_Made.j0 k a1 true a0_0 l0_1) else (taskmasterref8_Made.j0 k a1 (decide (a1 ≥ (l0_1.length : Int))) a0_0 l0_1)
def taskmasterref8_Made.T8 : Bool × List (List Nat × List Nat) := (true, [([], []), ([0], [0]), ([], []), ([], []), ([3], [3]), ([], []), ([4, 5], [4, 5]), ([6], [6]), ([7], [7]), ([2, 8], [2, 8]), ([9], [9]), ([1, 10], [1, 10]), ([11, 10, 0, 1, 2, 3, 4, 5, 6, 7, 8, 9, 10, 11], [11])])
def taskmasterref8_Made.B8 : List Nat := [0, 1, 0, 0, 8, 0, 56, 120, 248, 508, 1020, 2047, 4095]
theorem taskmasterref8_Made.tab8 : rtab .any (opsOf Tryz.f16 8) = taskmasterref8_Made.T8 := by kernel_rfl
theorem taskmasterref8_Made.bits8 : waitsOk taskmasterref8_Made.T8.2 taskmasterref8_Made.B8 = true := by kernel_rfl
set_option maxHeartbeats 8000000 in
set_option maxRecDepth 100000 in
theorem taskmasterref8_Made.calls (k : Nat) (a0_0 : Int) (A0_1 : Option Addr) (c0_1 : Nat) (l0_1 : List (S46)) (a1 : Int) (r : Int) (w : World) (hr0_1 : Kd.C k46 w A0_1 l0_1.length l0_1) (hc0_1 : l0_1.length ≤ c0_1) (h : taskmasterref8_Made.f k a0_0 l0_1 a1 = some r) :
    Calls Tryz.prog 16 #[.agg #[.int .i64 a0_0, .slice A0_1 l0_1.length c0_1], .int .i64 a1] w fun e w' => e = .returned (.int .i64 r) ∧ Below w.heap.size w w' := by
  have hu24 := Tryz.underlying24
  have HR0_1 := Aside0.mk hr0_1
  have HC0_1 := Aside0.mk hc0_1
  clear hr0_1 hc0_1
  have HB := Aside0.mk (Below.refl w.heap.size w)
  have H : (if a1 < 0 then (taskmasterref8_Made.j0 k a1 true a0_0 l0_1) else (taskmasterref8_Made.j0 k a1 (decide (a1 ≥ (l0_1.length : Int))) a0_0 l0_1)) = some r := h
  clear h
  have HC3 := Aside0.mk H
  clear H
  go_enter Tryz.func16, Tryz.ntmps16
  go_upto_region 1 with (first | ((with_reducible refine gate_dst (N := 2) rfl ?_); (try (refine gate_guard (by rfl) ?_; dsimp only)); refine box_event ?hg (N := 2) ?hd (cs := #[.int .i64 a0_0, .slice A0_1 l0_1.length c0_1]) (t := 24) ?hr ?_; (case hd => rfl); (case hg => rfl); (case hr => first | (go_simp; done) | (go_simp; rfl)); intro gb325 hg w4 hbox hb; have n0_ := Aside0.mk (below_step (by repeat (first | (with_reducible first | exact HB.out | apply below_alloc | apply pw_below_drewN | apply below_drew1) | exact HB.out)) hb); have n1_ := Aside0.mk (hbox); have n2_ := Aside0.mk ((by rw [hg]; exact (below_size (by repeat (first | (with_reducible first | exact HB.out | apply below_alloc | apply pw_below_drewN | apply below_drew1) | exact HB.out))) : w.heap.size ≤ gb325)); have n3_ := Aside0.mk ((by rw [hg]; exact (below_size (by repeat (first | (with_reducible first | exact HB.out | apply below_alloc | apply pw_below_drewN | apply below_drew1) | exact HB.out))) : w.heap.size ≤ gb325)); clear HB; have HB := n0_; have BK325 := n1_; have GW325 := n2_; have GE325 := n3_; clear n0_ n1_ n2_ n3_; clear hb hbox hg))
  (try simp only [Act.put, List.setIfInBounds_toArray, List.set_cons_zero, List.set_cons_succ])
  go_cut [15] (fun v15 wc => ∃ (kq : Nat) (x15_2 : Bool), v15 = .bool x15_2 ∧ Aside0 (taskmasterref8_Made.j0 kq a1 x15_2 a0_0 l0_1 = some r) ∧ Aside0 (kq ≤ k) ∧ Aside0 (wc.heap[gb325]? = some (.cells #[.int .i64 a0_0, (.slice A0_1 l0_1.length c0_1)] 24 (0, 0))) ∧ Aside0 (Below w.heap.size w wc))
  case first =>
    have H := HC3.out
    clear HC3
    by_cases c5 : a1 < 0
    · rw [if_pos c5] at H
      have c5b0 : decide (a1 < 0) = true := decide_eq_true c5
      clear c5
      (first | rw [c5b0] | (simp only [i64_w, i32_w]; rw [c5b0]) | skip)
      have H' := Aside0.mk H
      clear H; go_wp2
      go_meet
      case rel => exact ⟨_, (true), (by first | rfl | (simp; done) | (simp [*]; done)), H', ⟨by first | omega | exact Nat.le_refl _⟩, ⟨by (with_reducible repeat (first | refine blk_drewN ?_ _ | refine blk_drew ?_ | refine blk_alloc ?_ _)); exact BK325.out⟩, ⟨by repeat (first | (with_reducible first | exact HB.out | apply below_alloc | apply pw_below_drewN | apply below_drew1 | refine below_set ?_ GE325.out) | exact HB.out)⟩⟩
    · rw [if_neg c5] at H
      have c5b0 : decide (a1 < 0) = false := decide_eq_false c5
      clear c5
      (first | rw [c5b0] | (simp only [i64_w, i32_w]; rw [c5b0]) | skip)
      have H' := Aside0.mk H
      clear H
      have hcz6_0 : w4.cell? ⟨gb325, 0, none⟩ = some (.int .i64 a0_0) := (blk_cell BK325.out 0).trans rfl
      have hcz6_1 : w4.cell? ⟨gb325, 1, none⟩ = some (.slice A0_1 l0_1.length c0_1) := (blk_cell BK325.out 1).trans rfl
      have hfz6_0 := blk_frozen BK325.out 0
      have hfz6_1 := blk_frozen BK325.out 1
      go_wp2
      go_meet
      case rel => exact ⟨_, (decide (a1 ≥ (l0_1.length : Int))), (by first | rfl | (simp; done) | (simp [*]; done)), H', ⟨by first | omega | exact Nat.le_refl _⟩, ⟨by (with_reducible repeat (first | refine blk_drewN ?_ _ | refine blk_drew ?_ | refine blk_alloc ?_ _)); exact BK325.out⟩, ⟨by repeat (first | (with_reducible first | exact HB.out | apply below_alloc | apply pw_below_drewN | apply below_drew1 | refine below_set ?_ GE325.out) | exact HB.out)⟩⟩
  case rest =>
    clear HC3; (try clear c1); (try clear p2); (try clear c5); (try clear c5b0); (try clear hcz6_0); (try clear hcz6_1); (try clear hfz6_0); (try clear hfz6_1)
    obtain ⟨kq, x15_2, rfl, HA, HJ2, BK325, HB⟩ := hcut
    cases kq with
    | zero => exact absurd HA.out (by simp [taskmasterref8_Made.j0])
    | succ kj2 =>
      have H := HA.out
      clear HA
      simp only [taskmasterref8_Made.j0] at H
      by_cases c7 : x15_2 = true
      · subst c7
        have H1 : (some 0) = some r := by rw [if_pos rfl] at H; exact H
        clear H
        have H := H1
        clear H1
        obtain rfl := Option.some.inj H
        go_wp2; go_ret
        exact ⟨by first | rfl | (simp [errW_none, errW_some] <;> rfl) | (simp [*, errW_none, errW_some] <;> rfl), by repeat (first | (with_reducible first | exact HB.out | apply below_alloc | apply pw_below_drewN | apply below_drew1 | refine below_set ?_ GE325.out) | exact HB.out)⟩
      · replace c7 := Bool.eq_false_iff.mpr c7
        subst c7
        have H1 : (taskmasterref8_Made.l0 kj2 a1 0 (wrap64 (a1 + 1)) a0_0 l0_1) = some r := by rw [if_neg (show ¬ (false = true) by decide)] at H; exact H
        clear H
        have H := H1
        clear H1
        have H' := Aside0.mk H
        clear H; go_wp2
        go_loopg [5, 6] kj2 (fun kq v5 v6 w' => ∃ (x5_2 : Int) (x6_2 : Int), v5 = .int .u64 x5_2 ∧ v6 = .int .i64 x6_2 ∧ Aside0 (taskmasterref8_Made.l0 kq a1 x5_2 x6_2 a0_0 l0_1 = some r) ∧ Aside0 (kq ≤ kj2) ∧ Aside0 (w'.heap[gb325]? = some (.cells #[.int .i64 a0_0, (.slice A0_1 l0_1.length c0_1)] 24 (0, 0))) ∧ Aside0 (Below w.heap.size w w'))
        case atStart => exact ⟨(0), (wrap64 (a1 + 1)), (by first | rfl | (simp; done) | (simp [*]; done)), (by first | rfl | (simp; done) | (simp [*]; done)), H', ⟨Nat.le_refl _⟩, ⟨by (with_reducible repeat (first | refine blk_drewN ?_ _ | refine blk_drew ?_ | refine blk_alloc ?_ _)); exact BK325.out⟩, ⟨by repeat (first | (with_reducible first | exact HB.out | apply below_alloc | apply pw_below_drewN | apply below_drew1 | refine below_set ?_ GE325.out) | exact HB.out)⟩⟩
        case round =>
          clear H'; (try clear c1); (try clear p2); (try clear c5); (try clear c5b0); (try clear p6); (try clear c7); (try clear hcz6_0); (try clear hcz6_1); (try clear hfz6_0); (try clear hfz6_1); (try clear p2)
          obtain ⟨x5_2, x6_2, rfl, rfl, HA, HK2, BK325, HB⟩ := hrel
          cases gk with
          | zero => exact absurd HA.out (by simp [taskmasterref8_Made.l0])
          | succ k2 =>
            have H := HA.out
            clear HA
            simp only [taskmasterref8_Made.l0] at H
            by_cases c8 : x6_2 < (l0_1.length : Int)
            · rw [if_pos c8] at H
              have c8b0 : decide (x6_2 < (l0_1.length : Int)) = true := decide_eq_true c8
              clear c8
              by_cases c9 : 0 ≤ x6_2
              · rw [if_pos c9] at H
                have c9b0 : decide (0 ≤ x6_2) = true := decide_eq_true c9
                clear c9
                have H' := Aside0.mk H
                clear H
                have hcz10_0 : wr.cell? ⟨gb325, 0, none⟩ = some (.int .i64 a0_0) := (blk_cell BK325.out 0).trans rfl
                have hcz10_1 : wr.cell? ⟨gb325, 1, none⟩ = some (.slice A0_1 l0_1.length c0_1) := (blk_cell BK325.out 1).trans rfl
                have hfz10_0 := blk_frozen BK325.out 0
                have hfz10_1 := blk_frozen BK325.out 1
                have p326 : 0 ≤ (x6_2 : Int) := of_decide_eq_true (by first | (with_reducible assumption) | assumption)
                have q326 : x6_2 < (l0_1.length : Int) := of_decide_eq_true (by first | (with_reducible assumption) | assumption)
                obtain ⟨ad326, A326_6, c326_6, e326, hx326_0, hx326_1, hx326_2, hx326_3, hx326_4, hx326_5, hx326_6, hx326_7, hx326_8, hl326_6, hi326_6⟩ := at_T46 HR0_1.out x6_2 p326 q326
                cases e326
                replace hx326_0 := (HB.out.cell (wbl w _ hx326_0)).trans hx326_0
                replace hx326_1 := (HB.out.cell (wbl w _ hx326_1)).trans hx326_1
                replace hx326_2 := (HB.out.cell (wbl w _ hx326_2)).trans hx326_2
                replace hx326_3 := (HB.out.cell (wbl w _ hx326_3)).trans hx326_3
                replace hx326_4 := (HB.out.cell (wbl w _ hx326_4)).trans hx326_4
                replace hx326_5 := (HB.out.cell (wbl w _ hx326_5)).trans hx326_5
                replace hx326_6 := (HB.out.cell (wbl w _ hx326_6)).trans hx326_6
                replace hx326_7 := (HB.out.cell (wbl w _ hx326_7)).trans hx326_7
                replace hx326_8 := (HB.out.cell (wbl w _ hx326_8)).trans hx326_8
                have HR326_6 := Aside0.mk hi326_6
                have HC326_6 := Aside0.mk hl326_6
                clear hi326_6 hl326_6
                replace p326 := eq_true p326
                replace q326 := eq_true q326
                go_wp2
                go_roundg k2
                case measure => have := HJ2.out; have := HK2.out; omega
                case rel => exact ⟨(Go.bits .or .u64 x5_2 ((rd_T46 l0_1 x6_2).f8)), (wrap64 (x6_2 + 1)), (by first | rfl | (simp; done) | (simp [*]; done)), (by first | rfl | (simp; done) | (simp [*]; done)), H', ⟨by have := HJ2.out; have := HK2.out; omega⟩, ⟨by (with_reducible repeat (first | refine blk_drewN ?_ _ | refine blk_drew ?_ | refine blk_alloc ?_ _)); exact BK325.out⟩, ⟨by repeat (first | (with_reducible first | exact HB.out | apply below_alloc | apply pw_below_drewN | apply below_drew1 | refine below_set ?_ GE325.out) | exact HB.out)⟩⟩
              · rw [if_neg c9] at H
                exact absurd H (by simp)
            · rw [if_neg c8] at H
              have c8b0 : decide (x6_2 < (l0_1.length : Int)) = false := decide_eq_false c8
              clear c8
              by_cases c11 : 0 ≤ a1
              · rw [if_pos c11] at H
                have c11b0 : decide (0 ≤ a1) = true := decide_eq_true c11
                clear c11
                by_cases c12 : a1 < (l0_1.length : Int)
                · rw [if_pos c12] at H
                  have c12b0 : decide (a1 < (l0_1.length : Int)) = true := decide_eq_true c12
                  clear c12
                  replace H := Option.bind_eq_some_iff.mp H
                  obtain ⟨t328, A130, H⟩ := H
                  replace H : (some (wrap64 (a0_0 * t328))) = some r := H
                  have A13 := Aside0.mk A130
                  clear A130
                  obtain rfl := Option.some.inj H
                  have hcz14_0 : wr.cell? ⟨gb325, 0, none⟩ = some (.int .i64 a0_0) := (blk_cell BK325.out 0).trans rfl
                  have hcz14_1 : wr.cell? ⟨gb325, 1, none⟩ = some (.slice A0_1 l0_1.length c0_1) := (blk_cell BK325.out 1).trans rfl
                  have hfz14_0 := blk_frozen BK325.out 0
                  have hfz14_1 := blk_frozen BK325.out 1
                  try go_wp2
                  have n0_ := Aside0.mk (blk_drew BK325.out)
                  have n1_ := Aside0.mk (below_drew1 HB.out)
                  clear BK325; clear HB
                  have BK325 := n0_
                  have HB := n1_
                  clear n0_ n1_
                  have p327 : 0 ≤ (a1 : Int) := of_decide_eq_true (by first | (with_reducible assumption) | assumption)
                  have q327 : a1 < (l0_1.length : Int) := of_decide_eq_true (by first | (with_reducible assumption) | assumption)
                  obtain ⟨ad327, A327_6, c327_6, e327, hx327_0, hx327_1, hx327_2, hx327_3, hx327_4, hx327_5, hx327_6, hx327_7, hx327_8, hl327_6, hi327_6⟩ := at_T46 HR0_1.out a1 p327 q327
                  have hw327_8 := hx327_8
                  have hw327_7 := hx327_7
                  have hw327_6 := hx327_6
                  have hw327_5 := hx327_5
                  have hw327_4 := hx327_4
                  have hw327_3 := hx327_3
                  have hw327_2 := hx327_2
                  have hw327_1 := hx327_1
                  have hw327_0 := hx327_0
                  cases e327
                  replace hx327_0 := (HB.out.cell (wbl w _ hx327_0)).trans hx327_0
                  replace hx327_1 := (HB.out.cell (wbl w _ hx327_1)).trans hx327_1
                  replace hx327_2 := (HB.out.cell (wbl w _ hx327_2)).trans hx327_2
                  replace hx327_3 := (HB.out.cell (wbl w _ hx327_3)).trans hx327_3
                  replace hx327_4 := (HB.out.cell (wbl w _ hx327_4)).trans hx327_4
                  replace hx327_5 := (HB.out.cell (wbl w _ hx327_5)).trans hx327_5
                  replace hx327_6 := (HB.out.cell (wbl w _ hx327_6)).trans hx327_6
                  replace hx327_7 := (HB.out.cell (wbl w _ hx327_7)).trans hx327_7
                  replace hx327_8 := (HB.out.cell (wbl w _ hx327_8)).trans hx327_8
                  have HR327_6 := Aside0.mk hi327_6
                  have HC327_6 := Aside0.mk hl327_6
                  clear hi327_6 hl327_6
                  replace p327 := eq_true p327
                  replace q327 := eq_true q327
                  refine start_ (n := 13) (S := fun w' => w'.cell? ⟨gb325, 0, none⟩ = some (.int .i64 a0_0) ∧ w'.cell? ⟨gb325, 1, none⟩ = some (.slice (some ad327) l0_1.length c0_1) ∧ w'.cell? (ad327.add ((a1).toNat * 9)) = some (.string ((rd_T46 l0_1 a1).f0)) ∧ w'.cell? ⟨(ad327.add ((a1).toNat * 9)).block, (ad327.add ((a1).toNat * 9)).off + 1, none⟩ = some (.int .i64 ((rd_T46 l0_1 a1).f1)) ∧ w'.cell? ⟨(ad327.add ((a1).toNat * 9)).block, (ad327.add ((a1).toNat * 9)).off + 2, none⟩ = some (.int .i64 ((rd_T46 l0_1 a1).f2)) ∧ w'.cell? ⟨(ad327.add ((a1).toNat * 9)).block, (ad327.add ((a1).toNat * 9)).off + 3, none⟩ = some (.int .i64 ((rd_T46 l0_1 a1).f3)) ∧ w'.cell? ⟨(ad327.add ((a1).toNat * 9)).block, (ad327.add ((a1).toNat * 9)).off + 4, none⟩ = some (.int .i64 ((rd_T46 l0_1 a1).f4)) ∧ w'.cell? ⟨(ad327.add ((a1).toNat * 9)).block, (ad327.add ((a1).toNat * 9)).off + 5, none⟩ = some (.int .i64 ((rd_T46 l0_1 a1).f5)) ∧ w'.cell? ⟨(ad327.add ((a1).toNat * 9)).block, (ad327.add ((a1).toNat * 9)).off + 6, none⟩ = some (.slice A327_6 ((rd_T46 l0_1 a1).f6).length c327_6) ∧ w'.cell? ⟨(ad327.add ((a1).toNat * 9)).block, (ad327.add ((a1).toNat * 9)).off + 7, none⟩ = some (.int .u64 ((rd_T46 l0_1 a1).f7)) ∧ w'.cell? ⟨(ad327.add ((a1).toNat * 9)).block, (ad327.add ((a1).toNat * 9)).off + 8, none⟩ = some (.int .u64 ((rd_T46 l0_1 a1).f8))) (ds := []) #[false, false, false, false, false, false, false, false, false, false, false, false, false] (by kernel_rfl) rfl rfl ⟨(blk_cell BK325.out 0).trans rfl, (blk_cell BK325.out 1).trans rfl, ((HB.out.cell (wbl w _ hw327_0)).trans hw327_0), ((HB.out.cell (wbl w _ hw327_1)).trans hw327_1), ((HB.out.cell (wbl w _ hw327_2)).trans hw327_2), ((HB.out.cell (wbl w _ hw327_3)).trans hw327_3), ((HB.out.cell (wbl w _ hw327_4)).trans hw327_4), ((HB.out.cell (wbl w _ hw327_5)).trans hw327_5), ((HB.out.cell (wbl w _ hw327_6)).trans hw327_6), ((HB.out.cell (wbl w _ hw327_7)).trans hw327_7), ((HB.out.cell (wbl w _ hw327_8)).trans hw327_8)⟩ (fun hHeld => ?_); refine with_tabW taskmasterref8_Made.tab8 taskmasterref8_Made.bits8 (fun HT_ HW_ => ?_)
                  generalize wr.drew = w15 at BK325 HB HR327_6 hx327_0 hx327_1 hx327_2 hx327_3 hx327_4 hx327_5 hx327_6 hx327_7 hx327_8 hHeld ⊢
                  refine pure_ (i := 0) (N := some 33) (v := ?_) (a' := ?_) #[true, false, false, false, false, false, false, false, false, false, false, false, false] rfl rfl (any_of HT_.out (by kernel_rfl)) (fun _ _ _ h => h) (Or.inl ⟨by rfl, ?_⟩) ?_ ?_
                  rotate_left
                  · intro w'
                    go_simp
                    with_reducible rfl
                  rotate_left
                  · simp only [Act.put, List.setIfInBounds_toArray, List.set_cons_zero, List.set_cons_succ, i64_w, i32_w]
                    rfl
                  refine pure_ (i := 2) (N := some 35) (v := ?_) (a' := ?_) #[true, false, true, false, false, false, false, false, false, false, false, false, false] rfl rfl (any_of HT_.out (by kernel_rfl)) (fun _ _ _ h => h) (Or.inl ⟨by rfl, ?_⟩) ?_ ?_
                  rotate_left
                  · intro w'
                    go_simp
                    with_reducible rfl
                  rotate_left
                  · simp only [Act.put, List.setIfInBounds_toArray, List.set_cons_zero, List.set_cons_succ, i64_w, i32_w]
                    rfl
                  refine pure_ (i := 3) (N := some 36) (v := ?_) (a' := ?_) #[true, false, true, true, false, false, false, false, false, false, false, false, false] rfl rfl (any_of HT_.out (by kernel_rfl)) (fun _ _ _ h => h) (Or.inl ⟨by rfl, ?_⟩) ?_ ?_
                  rotate_left
                  · intro w'
                    go_simp
                    with_reducible rfl
                  rotate_left
                  · simp only [Act.put, List.setIfInBounds_toArray, List.set_cons_zero, List.set_cons_succ, i64_w, i32_w]
                    rfl
                  refine pure_ (i := 5) (N := some 38) (v := ?_) (a' := ?_) #[true, false, true, true, false, true, false, false, false, false, false, false, false] rfl rfl (any_of HT_.out (by kernel_rfl)) (fun _ _ _ h => h) (Or.inl ⟨by rfl, ?_⟩) ?_ ?_
                  rotate_left
                  · intro w'
                    go_simp
                    with_reducible rfl
                  rotate_left
                  · simp only [Act.put, List.setIfInBounds_toArray, List.set_cons_zero, List.set_cons_succ, i64_w, i32_w]
                    rfl
                  refine take_ (i := 1) (N := some 34) (v := ?_) (a' := ?_) #[true, true, true, true, false, true, false, false, false, false, false, false, false] rfl rfl (take_ofW HT_.out HW_.out (by kernel_rfl)) (fun _ _ _ h => h) (Or.inl ⟨by rfl, ?_⟩) hHeld ?_ ?_
                  rotate_left
                  · rintro w' ⟨s0, s1, s2, s3, s4, s5, s6, s7, s8, s9, s10⟩
                    go_simp
                    with_reducible rfl
                  rotate_left
                  · simp only [Act.put, List.setIfInBounds_toArray, List.set_cons_zero, List.set_cons_succ, i64_w, i32_w]
                    rfl
                  refine take_ (i := 4) (N := some 37) (v := ?_) (a' := ?_) #[true, true, true, true, true, true, false, false, false, false, false, false, false] rfl rfl (take_ofW HT_.out HW_.out (by kernel_rfl)) (fun _ _ _ h => h) (Or.inl ⟨by rfl, ?_⟩) hHeld ?_ ?_
                  rotate_left
                  · rintro w' ⟨s0, s1, s2, s3, s4, s5, s6, s7, s8, s9, s10⟩
                    go_simp
                    with_reducible rfl
                  rotate_left
                  · simp only [Act.put, List.setIfInBounds_toArray, List.set_cons_zero, List.set_cons_succ, i64_w, i32_w]
                    rfl
                  refine pure_ (i := 6) (N := some 39) (v := ?_) (a' := ?_) #[true, true, true, true, true, true, true, false, false, false, false, false, false] rfl rfl (any_of HT_.out (by kernel_rfl)) (fun _ _ _ h => h) (Or.inl ⟨by rfl, ?_⟩) ?_ ?_
                  rotate_left
                  · intro w'
                    go_simp
                    with_reducible rfl
                  rotate_left
                  · simp only [Act.put, List.setIfInBounds_toArray, List.set_cons_zero, List.set_cons_succ, i64_w, i32_w]
                    rfl
                  refine pure_ (i := 7) (N := some 40) (v := ?_) (a' := ?_) #[true, true, true, true, true, true, true, true, false, false, false, false, false] rfl rfl (any_of HT_.out (by kernel_rfl)) (fun _ _ _ h => h) (Or.inl ⟨by rfl, ?_⟩) ?_ ?_
                  rotate_left
                  · intro w'
                    go_simp
                    with_reducible rfl
                  rotate_left
                  · simp only [Act.put, List.setIfInBounds_toArray, List.set_cons_zero, List.set_cons_succ, i64_w, i32_w]
                    rfl
                  refine take_ (i := 8) (N := some 41) (v := ?_) (a' := ?_) #[true, true, true, true, true, true, true, true, true, false, false, false, false] rfl rfl (take_ofW HT_.out HW_.out (by kernel_rfl)) (fun _ _ _ h => h) (Or.inl ⟨by rfl, ?_⟩) hHeld ?_ ?_
                  rotate_left
                  · rintro w' ⟨s0, s1, s2, s3, s4, s5, s6, s7, s8, s9, s10⟩
                    go_simp
                    with_reducible rfl
                  rotate_left
                  · simp only [Act.put, List.setIfInBounds_toArray, List.set_cons_zero, List.set_cons_succ, i64_w, i32_w]
                    rfl
                  refine pure_ (i := 9) (N := some 42) (v := ?_) (a' := ?_) #[true, true, true, true, true, true, true, true, true, true, false, false, false] rfl rfl (any_of HT_.out (by kernel_rfl)) (fun _ _ _ h => h) (Or.inl ⟨by rfl, ?_⟩) ?_ ?_
                  rotate_left
                  · intro w'
                    go_simp
                    with_reducible rfl
                  rotate_left
                  · simp only [Act.put, List.setIfInBounds_toArray, List.set_cons_zero, List.set_cons_succ, i64_w, i32_w]
                    rfl
                  refine one_ (i := 10) (N := some 43) #[true, true, true, true, true, true, true, true, true, true, true, false, false] rfl rfl (one_of HT_.out (by kernel_rfl)) (by decide) (fun K hK => ?_)
                  refine goes_ Tryz.func32 (by kernel_rfl) rfl #[.int .u64 (Go.bits .and .u64 x5_2 ((rd_T46 l0_1 a1).f7))] (by rfl) rfl rfl (by (try simp only [List.map_toArray, List.map_cons, List.map_nil]); first | done | rfl | (simp only [List.length_drop, List.length_take]; rfl)) ?_
                  with_reducible refine (taskmasterref2_Count.calls k2 (Go.bits .and .u64 x5_2 ((rd_T46 l0_1 a1).f7)) t328 _ A13.out).mono ?_
                  rintro e w16 ⟨rfl, hb⟩
                  refine ⟨_, rfl, ?_⟩
                  have n0_ := Aside0.mk (blk_below (g := gb325) (o := .cells #[.int .i64 a0_0, .slice (some ad327) l0_1.length c0_1] 24 (0, 0)) (by (with_reducible repeat (first | refine blk_drewN ?_ _ | refine blk_drew ?_ | refine blk_alloc ?_ _)); exact BK325.out) hb)
                  have n1_ := Aside0.mk (below_step (by repeat (first | (with_reducible first | exact HB.out | apply below_alloc | apply pw_below_drewN | apply below_drew1 | refine below_set ?_ GE325.out) | exact HB.out)) hb)
                  clear BK325; clear HB
                  have BK325 := n0_
                  have HB := n1_
                  clear n0_ n1_
                  (try clear hb)
                  (try clear hb2)
                  (try clear hk)
                  (try clear hi)
                  refine hK.out _ _ ⟨(blk_cell BK325.out 0).trans rfl, (blk_cell BK325.out 1).trans rfl, ((HB.out.cell (wbl w _ hw327_0)).trans hw327_0), ((HB.out.cell (wbl w _ hw327_1)).trans hw327_1), ((HB.out.cell (wbl w _ hw327_2)).trans hw327_2), ((HB.out.cell (wbl w _ hw327_3)).trans hw327_3), ((HB.out.cell (wbl w _ hw327_4)).trans hw327_4), ((HB.out.cell (wbl w _ hw327_5)).trans hw327_5), ((HB.out.cell (wbl w _ hw327_6)).trans hw327_6), ((HB.out.cell (wbl w _ hw327_7)).trans hw327_7), ((HB.out.cell (wbl w _ hw327_8)).trans hw327_8)⟩ (fun hHeld => ?_)
                  clear hK K
                  refine norm_ (a' := ?_) ?_ ?_
                  rotate_left
                  · show Act.put _ (some 43) _ = _
                    simp only [Act.put, List.setIfInBounds_toArray, List.set_cons_zero, List.set_cons_succ, i64_w, i32_w]
                    rfl
                  refine pure_ (i := 11) (N := some 44) (v := ?_) (a' := ?_) #[true, true, true, true, true, true, true, true, true, true, true, true, false] rfl rfl (any_of HT_.out (by kernel_rfl)) (fun _ _ _ h => h) (Or.inl ⟨by rfl, ?_⟩) ?_ ?_
                  rotate_left
                  · intro w'
                    go_simp
                    with_reducible rfl
                  rotate_left
                  · simp only [Act.put, List.setIfInBounds_toArray, List.set_cons_zero, List.set_cons_succ, i64_w, i32_w]
                    rfl
                  refine pure_ (i := 12) (N := some 4) (v := ?_) (a' := ?_) #[true, true, true, true, true, true, true, true, true, true, true, true, true] rfl rfl (any_of HT_.out (by kernel_rfl)) (fun _ _ _ h => h) (Or.inl ⟨by rfl, ?_⟩) ?_ ?_
                  rotate_left
                  · intro w'
                    go_simp
                    with_reducible rfl
                  rotate_left
                  · simp only [Act.put, List.setIfInBounds_toArray, List.set_cons_zero, List.set_cons_succ, i64_w, i32_w]
                    rfl
                  refine done_ (done_of HT_.out (by kernel_rfl)) ?_
                  try go_wp2
                  go_ret
                  exact ⟨by first | rfl | (simp [errW_none, errW_some] <;> rfl) | (simp [*, errW_none, errW_some] <;> rfl), by repeat (first | (with_reducible first | exact HB.out | apply below_alloc | apply pw_below_drewN | apply below_drew1 | refine below_set ?_ GE325.out) | exact HB.out)⟩
                · rw [if_neg c12] at H
                  exact absurd H (by simp)
              · rw [if_neg c11] at H
                exact absurd H (by simp)
end Go.Proofs.YtdgfjpbjiccllaaGreatDoor.PTopLoads
