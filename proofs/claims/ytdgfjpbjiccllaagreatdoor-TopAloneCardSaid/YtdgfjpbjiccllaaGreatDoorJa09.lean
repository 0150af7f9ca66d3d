/- Joined texts: PTopLoadsx1, All. -/
import Derived.Test.YtdgfjpbjiccllaaGreatDoorJa04
import Derived.Test.YtdgfjpbjiccllaaGreatDoorJa08
-- PRINTED BY print.sh 35421559b90ae4d0a3588c463048766b98c2df88dd9212a6774a882060cdf62d: not written by this session
namespace Go.Proofs.YtdgfjpbjiccllaaGreatDoor.PTopLoads
open Go.RowKit Go.Proofs.YtdgfjpbjiccllaaGreatDoorW.PrintWords Go.Proofs.YtdgfjpbjiccllaaGreatDoorW.PrintLast Go.Proofs.YtdgfjpbjiccllaaGreatDoorW.PrintMore
attribute [local go_sem] max2_int min2_int max_two min_two max_three min_three max_four min_four   -- for this text's walks alone
set_option linter.unusedVariables false
set_option linter.unusedSimpArgs false
/-! ### taskmastertop_long: function 7 -/
mutual
def taskmastertop_long.l0 : Nat → List (S57) → Int → Option (Bool)
  | 0, _, _ => none
  | k + 1, x0, x3 => if x3 < (x0.length : Int) then (taskmastertop_long.j1 k x0 x3 (decide (x3 < 300))) else (taskmastertop_long.j1 k x0 x3 false)
def taskmastertop_long.j1 : Nat → List (S57) → Int → Bool → Option (Bool)
  | 0, _, _, _ => none
  | k + 1, x0, x3, x12 => if x12 = true then (if 0 ≤ x3 then (if x3 < (x0.length : Int) then (if (((rd_T57 x0 x3).f1).length : Int) > 20 then (some true) else (taskmastertop_long.l1 k x0 x3 0)) else (none)) else (none)) else (some (decide ((x0.length : Int) > 250)))
def taskmastertop_long.l1 : Nat → List (S57) → Int → Int → Option (Bool)
  | 0, _, _, _ => none
  | k + 1, x0, x3, x4 => if 0 ≤ x3 then (if x3 < (x0.length : Int) then (if x4 < (((rd_T57 x0 x3).f1).length : Int) then (if 0 ≤ x4 then (if ((rd_L2 ((rd_T57 x0 x3).f1) x4).length : Int) > 20 then (some true) else (taskmastertop_long.l1 k x0 x3 (wrap64 (x4 + 1)))) else (none)) else (taskmastertop_long.l0 k x0 (wrap64 (x3 + 1)))) else (none)) else (none)
end
def taskmastertop_long.f (k : Nat) (l0 : List (S57)) : Option (Bool) := taskmastertop_long.l0 k l0 0
set_option maxHeartbeats 8000000 in
set_option maxRecDepth 100000 in
theorem taskmastertop_long.calls (k : Nat) (A0 : Option Addr) (c0 : Nat) (l0 : List (S57)) (r : Bool) (w : World) (hr0 : Kd.C k57 w A0 l0.length l0) (hc0 : l0.length ≤ c0) (h : taskmastertop_long.f k l0 = some r) :
    Calls Tryz.prog 7 #[.slice A0 l0.length c0] w fun e w' => e = .returned (.bool r) ∧ Drawn0 w w' := by
  have HR0 := Aside0.mk hr0
  have HC0 := Aside0.mk hc0
  clear hr0 hc0
  have H : (taskmastertop_long.l0 k l0 0) = some r := h
  clear h
  have H' := Aside0.mk H
  clear H
  go_enter Tryz.func7, Tryz.ntmps7
  go_wp2
  go_loopg [3] k (fun kq v3 w' => ∃ (x3_1 : Int), v3 = .int .i64 x3_1 ∧ Aside0 (taskmastertop_long.l0 kq l0 x3_1 = some r) ∧ Aside0 (kq ≤ k) ∧ Drawn0 w w')
  case atStart => exact ⟨(0), (by first | rfl | (simp; done) | (simp [*]; done)), H', ⟨Nat.le_refl _⟩, by repeat (first | exact Drawn0.refl _ | apply Drawn0.step)⟩
  case round =>
    clear H'
    obtain ⟨x3_1, rfl, HA, HK1, ⟨m1, rfl⟩⟩ := hrel
    cases gk with
    | zero => exact absurd HA.out (by simp [taskmastertop_long.l0])
    | succ k1 =>
      have H := HA.out
      clear HA
      simp only [taskmastertop_long.l0] at H
      have HC2 := Aside0.mk H
      clear H
      go_upto_region 2 with (fail)
      go_cut [12] (fun v12 wc => ∃ (kq : Nat) (x12_1 : Bool), v12 = .bool x12_1 ∧ Aside0 (taskmastertop_long.j1 kq l0 x3_1 x12_1 = some r) ∧ Aside0 (kq ≤ k1) ∧ Drawn0 w wc)
      case first =>
        have H := HC2.out
        clear HC2
        by_cases c3 : x3_1 < (l0.length : Int)
        · rw [if_pos c3] at H
          have c3b0 : decide (x3_1 < (l0.length : Int)) = true := decide_eq_true c3
          clear c3
          (first | rw [c3b0] | (simp only [i64_w, i32_w]; rw [c3b0]) | skip)
          have H' := Aside0.mk H
          clear H
          go_wp2
          go_meet
          case rel => exact ⟨_, (decide (x3_1 < 300)), (by first | rfl | (simp; done) | (simp [*]; done)), H', ⟨by have := HK1.out; first | omega | exact Nat.le_refl _⟩, by repeat (first | exact Drawn0.refl _ | apply Drawn0.step)⟩
        · rw [if_neg c3] at H
          have c3b0 : decide (x3_1 < (l0.length : Int)) = false := decide_eq_false c3
          clear c3
          (first | rw [c3b0] | (simp only [i64_w, i32_w]; rw [c3b0]) | skip)
          have H' := Aside0.mk H
          clear H
          go_wp2
          go_meet
          case rel => exact ⟨_, (false), (by first | rfl | (simp; done) | (simp [*]; done)), H', ⟨by have := HK1.out; first | omega | exact Nat.le_refl _⟩, by repeat (first | exact Drawn0.refl _ | apply Drawn0.step)⟩
      case rest =>
        clear HC2
        try clear p2
        try clear c3
        try clear c3b0
        obtain ⟨kq, x12_1, rfl, HA, HJ1, ⟨mc1, rfl⟩⟩ := hcut
        cases kq with
        | zero => exact absurd HA.out (by simp [taskmastertop_long.j1])
        | succ kj1 =>
          have H := HA.out
          clear HA
          simp only [taskmastertop_long.j1] at H
          by_cases c4 : x12_1 = true
          · subst c4
            have H1 : (if 0 ≤ x3_1 then (if x3_1 < (l0.length : Int) then (if (((rd_T57 l0 x3_1).f1).length : Int) > 20 then (some true) else (taskmastertop_long.l1 kj1 l0 x3_1 0)) else (none)) else (none)) = some r := by rw [if_pos rfl] at H; exact H
            clear H
            have H := H1
            clear H1
            by_cases c5 : 0 ≤ x3_1
            · rw [if_pos c5] at H
              have c5b0 : decide (0 ≤ x3_1) = true := decide_eq_true c5
              clear c5
              by_cases c6 : x3_1 < (l0.length : Int)
              · rw [if_pos c6] at H
                have c6b0 : decide (x3_1 < (l0.length : Int)) = true := decide_eq_true c6
                clear c6
                by_cases c7 : (((rd_T57 l0 x3_1).f1).length : Int) > 20
                · rw [if_pos c7] at H
                  have c7b0 : decide (20 < (((rd_T57 l0 x3_1).f1).length : Int)) = true := decide_eq_true c7
                  have c7b1 : decide (20 < ((rd_T57 l0 x3_1).f1).length) = true := decide_eq_true (by omega)
                  clear c7
                  obtain rfl := Option.some.inj H
                  have p101 : 0 ≤ (x3_1 : Int) := of_decide_eq_true (by first | (with_reducible assumption) | assumption)
                  have q101 : x3_1 < (l0.length : Int) := of_decide_eq_true (by first | (with_reducible assumption) | assumption)
                  obtain ⟨ad101, A101_1, c101_1, e101, hx101_0, hx101_1, hx101_2, hl101_1, hi101_1⟩ := at_T57 HR0.out x3_1 p101 q101
                  cases e101
                  have HR101_1 := Aside0.mk hi101_1
                  have HC101_1 := Aside0.mk hl101_1
                  clear hi101_1 hl101_1
                  replace p101 := eq_true p101
                  replace q101 := eq_true q101
                  go_wp2
                  go_ret
                  exact ⟨by first | rfl | (simp; done) | (simp [*]; done), by repeat (first | exact Drawn0.refl _ | apply Drawn0.step)⟩
                · rw [if_neg c7] at H
                  have c7b0 : decide (20 < (((rd_T57 l0 x3_1).f1).length : Int)) = false := decide_eq_false c7
                  have c7b1 : decide (20 < ((rd_T57 l0 x3_1).f1).length) = false := decide_eq_false (by omega)
                  clear c7
                  have H' := Aside0.mk H
                  clear H
                  have p101 : 0 ≤ (x3_1 : Int) := of_decide_eq_true (by first | (with_reducible assumption) | assumption)
                  have q101 : x3_1 < (l0.length : Int) := of_decide_eq_true (by first | (with_reducible assumption) | assumption)
                  obtain ⟨ad101, A101_1, c101_1, e101, hx101_0, hx101_1, hx101_2, hl101_1, hi101_1⟩ := at_T57 HR0.out x3_1 p101 q101
                  cases e101
                  have HR101_1 := Aside0.mk hi101_1
                  have HC101_1 := Aside0.mk hl101_1
                  clear hi101_1 hl101_1
                  replace p101 := eq_true p101
                  replace q101 := eq_true q101
                  go_wp2
                  go_loopg [4] kj1 (fun kq v4 w' => ∃ (x4_3 : Int), v4 = .int .i64 x4_3 ∧ Aside0 (taskmastertop_long.l1 kq l0 x3_1 x4_3 = some r) ∧ Aside0 (kq ≤ kj1) ∧ Drawn0 w w')
                  case atStart => exact ⟨(0), (by first | rfl | (simp; done) | (simp [*]; done)), H', ⟨Nat.le_refl _⟩, by repeat (first | exact Drawn0.refl _ | apply Drawn0.step)⟩
                  case round =>
                    clear H'
                    try clear c1
                    try clear p1
                    try clear q1
                    try clear hx1
                    try clear p2
                    try clear c3
                    try clear c3b0
                    try clear c4
                    try clear c5
                    try clear c5b0
                    try clear c6
                    try clear c6b0
                    try clear c7
                    try clear c7b0
                    try clear c7b1
                    try clear hx101_0
                    try clear hx101_1
                    try clear hx101_2
                    try clear p101
                    try clear p2
                    try clear q101
                    obtain ⟨x4_3, rfl, HA, HK3, ⟨m3, rfl⟩⟩ := hrel
                    cases gk with
                    | zero => exact absurd HA.out (by simp [taskmastertop_long.l1])
                    | succ k3 =>
                      have H := HA.out
                      clear HA
                      simp only [taskmastertop_long.l1] at H
                      by_cases c8 : 0 ≤ x3_1
                      · rw [if_pos c8] at H
                        have c8b0 : decide (0 ≤ x3_1) = true := decide_eq_true c8
                        clear c8
                        by_cases c9 : x3_1 < (l0.length : Int)
                        · rw [if_pos c9] at H
                          have c9b0 : decide (x3_1 < (l0.length : Int)) = true := decide_eq_true c9
                          clear c9
                          by_cases c10 : x4_3 < (((rd_T57 l0 x3_1).f1).length : Int)
                          · rw [if_pos c10] at H
                            have c10b0 : decide (x4_3 < (((rd_T57 l0 x3_1).f1).length : Int)) = true := decide_eq_true c10
                            clear c10
                            by_cases c11 : 0 ≤ x4_3
                            · rw [if_pos c11] at H
                              have c11b0 : decide (0 ≤ x4_3) = true := decide_eq_true c11
                              clear c11
                              by_cases c12 : ((rd_L2 ((rd_T57 l0 x3_1).f1) x4_3).length : Int) > 20
                              · rw [if_pos c12] at H
                                have c12b0 : decide (20 < ((rd_L2 ((rd_T57 l0 x3_1).f1) x4_3).length : Int)) = true := decide_eq_true c12
                                have c12b1 : decide (20 < (rd_L2 ((rd_T57 l0 x3_1).f1) x4_3).length) = true := decide_eq_true (by omega)
                                clear c12
                                obtain rfl := Option.some.inj H
                                have p102 : 0 ≤ (x3_1 : Int) := of_decide_eq_true (by first | (with_reducible assumption) | assumption)
                                have q102 : x3_1 < (l0.length : Int) := of_decide_eq_true (by first | (with_reducible assumption) | assumption)
                                obtain ⟨ad102, A102_1, c102_1, e102, hx102_0, hx102_1, hx102_2, hl102_1, hi102_1⟩ := at_T57 HR0.out x3_1 p102 q102
                                obtain rfl : ad101 = ad102 := (by injection e102)
                                have HR102_1 := Aside0.mk hi102_1
                                have HC102_1 := Aside0.mk hl102_1
                                clear hi102_1 hl102_1
                                replace p102 := eq_true p102
                                replace q102 := eq_true q102
                                have p103 : 0 ≤ (x3_1 : Int) := of_decide_eq_true (by first | (with_reducible assumption) | assumption)
                                have q103 : x3_1 < (l0.length : Int) := of_decide_eq_true (by first | (with_reducible assumption) | assumption)
                                obtain ⟨ad103, A103_1, c103_1, e103, hx103_0, hx103_1, hx103_2, hl103_1, hi103_1⟩ := at_T57 HR0.out x3_1 p103 q103
                                obtain rfl : ad101 = ad103 := (by injection e103)
                                have HR103_1 := Aside0.mk hi103_1
                                have HC103_1 := Aside0.mk hl103_1
                                clear hi103_1 hl103_1
                                replace p103 := eq_true p103
                                replace q103 := eq_true q103
                                have ea_ := Option.some.inj (hx102_1.symm.trans hx103_1)
                                injection ea_ with ea_ en_ ec_
                                subst ea_
                                subst ec_
                                clear en_
                                have p104 : 0 ≤ (x4_3 : Int) := of_decide_eq_true (by first | (with_reducible assumption) | assumption)
                                have q104 : x4_3 < (((rd_T57 l0 x3_1).f1).length : Int) := of_decide_eq_true (by first | (with_reducible assumption) | assumption)
                                obtain ⟨ad104, A104_0, c104_0, e104, hx104_0, hl104_0, hi104_0⟩ := at_L2 HR103_1.out x4_3 p104 q104
                                cases e104
                                have HR104_0 := Aside0.mk hi104_0
                                have HC104_0 := Aside0.mk hl104_0
                                clear hi104_0 hl104_0
                                replace p104 := eq_true p104
                                replace q104 := eq_true q104
                                go_wp2
                                go_ret
                                exact ⟨by first | rfl | (simp; done) | (simp [*]; done), by repeat (first | exact Drawn0.refl _ | apply Drawn0.step)⟩
                              · rw [if_neg c12] at H
                                have c12b0 : decide (20 < ((rd_L2 ((rd_T57 l0 x3_1).f1) x4_3).length : Int)) = false := decide_eq_false c12
                                have c12b1 : decide (20 < (rd_L2 ((rd_T57 l0 x3_1).f1) x4_3).length) = false := decide_eq_false (by omega)
                                clear c12
                                have H' := Aside0.mk H
                                clear H
                                have p102 : 0 ≤ (x3_1 : Int) := of_decide_eq_true (by first | (with_reducible assumption) | assumption)
                                have q102 : x3_1 < (l0.length : Int) := of_decide_eq_true (by first | (with_reducible assumption) | assumption)
                                obtain ⟨ad102, A102_1, c102_1, e102, hx102_0, hx102_1, hx102_2, hl102_1, hi102_1⟩ := at_T57 HR0.out x3_1 p102 q102
                                obtain rfl : ad101 = ad102 := (by injection e102)
                                have HR102_1 := Aside0.mk hi102_1
                                have HC102_1 := Aside0.mk hl102_1
                                clear hi102_1 hl102_1
                                replace p102 := eq_true p102
                                replace q102 := eq_true q102
                                have p103 : 0 ≤ (x3_1 : Int) := of_decide_eq_true (by first | (with_reducible assumption) | assumption)
                                have q103 : x3_1 < (l0.length : Int) := of_decide_eq_true (by first | (with_reducible assumption) | assumption)
                                obtain ⟨ad103, A103_1, c103_1, e103, hx103_0, hx103_1, hx103_2, hl103_1, hi103_1⟩ := at_T57 HR0.out x3_1 p103 q103
                                obtain rfl : ad101 = ad103 := (by injection e103)
                                have HR103_1 := Aside0.mk hi103_1
                                have HC103_1 := Aside0.mk hl103_1
                                clear hi103_1 hl103_1
                                replace p103 := eq_true p103
                                replace q103 := eq_true q103
                                have ea_ := Option.some.inj (hx102_1.symm.trans hx103_1)
                                injection ea_ with ea_ en_ ec_
                                subst ea_
                                subst ec_
                                clear en_
                                have p104 : 0 ≤ (x4_3 : Int) := of_decide_eq_true (by first | (with_reducible assumption) | assumption)
                                have q104 : x4_3 < (((rd_T57 l0 x3_1).f1).length : Int) := of_decide_eq_true (by first | (with_reducible assumption) | assumption)
                                obtain ⟨ad104, A104_0, c104_0, e104, hx104_0, hl104_0, hi104_0⟩ := at_L2 HR103_1.out x4_3 p104 q104
                                cases e104
                                have HR104_0 := Aside0.mk hi104_0
                                have HC104_0 := Aside0.mk hl104_0
                                clear hi104_0 hl104_0
                                replace p104 := eq_true p104
                                replace q104 := eq_true q104
                                go_wp2
                                go_roundg k3
                                case measure => have := HK1.out; have := HJ1.out; have := HK3.out; omega
                                case rel => exact ⟨(wrap64 (x4_3 + 1)), (by first | rfl | (simp; done) | (simp [*]; done)), H', ⟨by have := HK1.out; have := HJ1.out; have := HK3.out; omega⟩, by repeat (first | exact Drawn0.refl _ | apply Drawn0.step)⟩
                            · rw [if_neg c11] at H
                              exact absurd H (by simp)
                          · rw [if_neg c10] at H
                            have c10b0 : decide (x4_3 < (((rd_T57 l0 x3_1).f1).length : Int)) = false := decide_eq_false c10
                            clear c10
                            have H' := Aside0.mk H
                            clear H
                            have p102 : 0 ≤ (x3_1 : Int) := of_decide_eq_true (by first | (with_reducible assumption) | assumption)
                            have q102 : x3_1 < (l0.length : Int) := of_decide_eq_true (by first | (with_reducible assumption) | assumption)
                            obtain ⟨ad102, A102_1, c102_1, e102, hx102_0, hx102_1, hx102_2, hl102_1, hi102_1⟩ := at_T57 HR0.out x3_1 p102 q102
                            obtain rfl : ad101 = ad102 := (by injection e102)
                            have HR102_1 := Aside0.mk hi102_1
                            have HC102_1 := Aside0.mk hl102_1
                            clear hi102_1 hl102_1
                            replace p102 := eq_true p102
                            replace q102 := eq_true q102
                            go_wp2
                            go_roundg k3
                            case measure => have := HK1.out; have := HJ1.out; have := HK3.out; omega
                            case rel => exact ⟨(wrap64 (x3_1 + 1)), (by first | rfl | (simp; done) | (simp [*]; done)), H', ⟨by have := HK1.out; have := HJ1.out; have := HK3.out; omega⟩, by repeat (first | exact Drawn0.refl _ | apply Drawn0.step)⟩
                        · rw [if_neg c9] at H
                          exact absurd H (by simp)
                      · rw [if_neg c8] at H
                        exact absurd H (by simp)
              · rw [if_neg c6] at H
                exact absurd H (by simp)
            · rw [if_neg c5] at H
              exact absurd H (by simp)
          · replace c4 := Bool.eq_false_iff.mpr c4
            subst c4
            have H1 : (some (decide ((l0.length : Int) > 250))) = some r := by rw [if_neg (show ¬ (false = true) by decide)] at H; exact H
            clear H
            have H := H1
            clear H1
            obtain rfl := Option.some.inj H
            go_wp2
            go_ret
            exact ⟨by first | rfl | (simp; done) | (simp [*]; done), by repeat (first | exact Drawn0.refl _ | apply Drawn0.step)⟩
-- NOT PRINTED: function 9 (exec_New)

/-! ### exec_errs: function 19 -/
/-! ### task_isTime: function 70 -/
def task_isTime.f (a0 : Int) (a1 : Int) : Option (Bool) := if a0 ≥ a1 then (some (decide (a0 ≤ 10000))) else (some false)
set_option maxHeartbeats 8000000 in
set_option maxRecDepth 100000 in
theorem task_isTime.calls (a0 : Int) (a1 : Int) (r : Bool) (w : World) (h : task_isTime.f a0 a1 = some r) :
    Calls Tryz.prog 70 #[.int .i64 a0, .int .i64 a1] w fun e w' => e = .returned (.bool r) ∧ Drawn0 w w' := by
  have H : (if a0 ≥ a1 then (some (decide (a0 ≤ 10000))) else (some false)) = some r := h
  clear h
  by_cases c3 : a0 ≥ a1
  · rw [if_pos c3] at H
    have c3b0 : decide (a1 ≤ a0) = true := decide_eq_true c3
    clear c3
    obtain rfl := Option.some.inj H
    go_enter Tryz.func70, Tryz.ntmps70
    go_wp2
    go_ret
    exact ⟨by first | rfl | (simp; done) | (simp [*]; done), by repeat (first | exact Drawn0.refl _ | apply Drawn0.step)⟩
  · rw [if_neg c3] at H
    have c3b0 : decide (a1 ≤ a0) = false := decide_eq_false c3
    clear c3
    obtain rfl := Option.some.inj H
    go_enter Tryz.func70, Tryz.ntmps70
    go_wp2
    go_ret
    exact ⟨by first | rfl | (simp; done) | (simp [*]; done), by repeat (first | exact Drawn0.refl _ | apply Drawn0.step)⟩
/-! ### task_Work: function 65 -/
def task_Work.l0 : Nat → Int → List Int → Int → Int → Option (Int)
  | 0, _, _, _, _ => none
  | k + 1, x3, x7, x8, x9 => if x9 < x8 then (if 0 ≤ x9 then (if x9 < (x7.length : Int) then (task_Work.l0 k (wrap64 (x3 + (rd x7 x9))) x7 x8 (wrap64 (x9 + 1))) else (none)) else (none)) else (some x3)
def task_Work.f (k : Nat) (a0_0 : ByteArray) (a0_1 : Int) (a0_2 : Int) (a0_3 : Int) (a0_4 : Int) (a0_5 : Int) (l0_6 : List Int) (a0_7 : Int) (a0_8 : Int) : Option (Int) := task_Work.l0 k 0 l0_6 (l0_6.length : Int) 0
set_option maxHeartbeats 8000000 in
set_option maxRecDepth 100000 in
theorem task_Work.calls (k : Nat) (a0_0 : ByteArray) (a0_1 : Int) (a0_2 : Int) (a0_3 : Int) (a0_4 : Int) (a0_5 : Int) (A0_6 : Option Addr) (c0_6 : Nat) (l0_6 : List Int) (a0_7 : Int) (a0_8 : Int) (r : Int) (w : World) (hr0_6 : Kd.C (Kd.int .i64) w A0_6 l0_6.length l0_6) (hc0_6 : l0_6.length ≤ c0_6) (h : task_Work.f k a0_0 a0_1 a0_2 a0_3 a0_4 a0_5 l0_6 a0_7 a0_8 = some r) :
    Calls Tryz.prog 65 #[.agg #[.string a0_0, .int .i64 a0_1, .int .i64 a0_2, .int .i64 a0_3, .int .i64 a0_4, .int .i64 a0_5, .slice A0_6 l0_6.length c0_6, .int .u64 a0_7, .int .u64 a0_8]] w fun e w' => e = .returned (.int .i64 r) ∧ Below w.heap.size w w' := by
  have hu46 := Tryz.underlying46
  have HR0_6 := Aside0.mk hr0_6
  have HC0_6 := Aside0.mk hc0_6
  clear hr0_6 hc0_6
  have HB := Aside0.mk (Below.refl w.heap.size w)
  have H : (task_Work.l0 k 0 l0_6 (l0_6.length : Int) 0) = some r := h
  clear h
  have H' := Aside0.mk H
  clear H
  go_enter Tryz.func65, Tryz.ntmps65
  go_wp2_with (first | ((with_reducible refine gate_dst (N := 1) rfl ?_); refine box_event ?hg (N := 1) ?hd (cs := #[.string a0_0, .int .i64 a0_1, .int .i64 a0_2, .int .i64 a0_3, .int .i64 a0_4, .int .i64 a0_5, .slice A0_6 l0_6.length c0_6, .int .u64 a0_7, .int .u64 a0_8]) (t := 46) ?hr ?_; (case hd => rfl); (case hg => rfl); (case hr => first | (go_simp; done) | (go_simp; rfl)); intro gb106 hg w2 hbox hb; have n0_ := Aside0.mk (below_step (by repeat (first | (with_reducible first | exact HB.out | apply below_alloc | apply pw_below_drewN | apply below_drew1) | exact HB.out)) hb); have n1_ := Aside0.mk (hbox); have n2_ := Aside0.mk ((by rw [hg]; exact (below_size (by repeat (first | (with_reducible first | exact HB.out | apply below_alloc | apply pw_below_drewN | apply below_drew1) | exact HB.out))) : w.heap.size ≤ gb106)); have n3_ := Aside0.mk ((by rw [hg]; exact (below_size (by repeat (first | (with_reducible first | exact HB.out | apply below_alloc | apply pw_below_drewN | apply below_drew1) | exact HB.out))) : w.heap.size ≤ gb106)); clear HB; have HB := n0_; have BK106 := n1_; have GW106 := n2_; have GE106 := n3_; clear n0_ n1_ n2_ n3_; clear hb hbox hg; have hcz3_0 : w2.cell? ⟨gb106, 0, none⟩ = some (.string a0_0) := (blk_cell BK106.out 0).trans rfl; have hcz3_1 : w2.cell? ⟨gb106, 1, none⟩ = some (.int .i64 a0_1) := (blk_cell BK106.out 1).trans rfl; have hcz3_2 : w2.cell? ⟨gb106, 2, none⟩ = some (.int .i64 a0_2) := (blk_cell BK106.out 2).trans rfl; have hcz3_3 : w2.cell? ⟨gb106, 3, none⟩ = some (.int .i64 a0_3) := (blk_cell BK106.out 3).trans rfl; have hcz3_4 : w2.cell? ⟨gb106, 4, none⟩ = some (.int .i64 a0_4) := (blk_cell BK106.out 4).trans rfl; have hcz3_5 : w2.cell? ⟨gb106, 5, none⟩ = some (.int .i64 a0_5) := (blk_cell BK106.out 5).trans rfl; have hcz3_6 : w2.cell? ⟨gb106, 6, none⟩ = some (.slice A0_6 l0_6.length c0_6) := (blk_cell BK106.out 6).trans rfl; have hcz3_7 : w2.cell? ⟨gb106, 7, none⟩ = some (.int .u64 a0_7) := (blk_cell BK106.out 7).trans rfl; have hcz3_8 : w2.cell? ⟨gb106, 8, none⟩ = some (.int .u64 a0_8) := (blk_cell BK106.out 8).trans rfl; have hfz3_0 := blk_frozen BK106.out 0; have hfz3_1 := blk_frozen BK106.out 1; have hfz3_2 := blk_frozen BK106.out 2; have hfz3_3 := blk_frozen BK106.out 3; have hfz3_4 := blk_frozen BK106.out 4; have hfz3_5 := blk_frozen BK106.out 5; have hfz3_6 := blk_frozen BK106.out 6; have hfz3_7 := blk_frozen BK106.out 7; have hfz3_8 := blk_frozen BK106.out 8))
  go_loopg [3, 9] k (fun kq v3 v9 w' => ∃ (x3_1 : Int) (x9_1 : Int), v3 = .int .i64 x3_1 ∧ v9 = .int .i64 x9_1 ∧ Aside0 (task_Work.l0 kq x3_1 l0_6 (l0_6.length : Int) x9_1 = some r) ∧ Aside0 (kq ≤ k) ∧ Aside0 (w'.heap[gb106]? = some (.cells #[.string a0_0, .int .i64 a0_1, .int .i64 a0_2, .int .i64 a0_3, .int .i64 a0_4, .int .i64 a0_5, (.slice A0_6 l0_6.length c0_6), .int .u64 a0_7, .int .u64 a0_8] 46 (0, 0))) ∧ Aside0 (Below w.heap.size w w'))
  case atStart => exact ⟨(0), (0), (by first | rfl | (simp; done) | (simp [*]; done)), (by first | rfl | (simp; done) | (simp [*]; done)), H', ⟨Nat.le_refl _⟩, ⟨by (with_reducible repeat (first | refine blk_drewN ?_ _ | refine blk_drew ?_ | refine blk_alloc ?_ _)); exact BK106.out⟩, ⟨by repeat (first | (with_reducible first | exact HB.out | apply below_alloc | apply pw_below_drewN | apply below_drew1 | refine below_set ?_ GE106.out) | exact HB.out)⟩⟩
  case round =>
    clear H'
    try clear p2
    try clear hcz3_0
    try clear hcz3_1
    try clear hcz3_2
    try clear hcz3_3
    try clear hcz3_4
    try clear hcz3_5
    try clear hcz3_6
    try clear hcz3_7
    try clear hcz3_8
    try clear hfz3_0
    try clear hfz3_1
    try clear hfz3_2
    try clear hfz3_3
    try clear hfz3_4
    try clear hfz3_5
    try clear hfz3_6
    try clear hfz3_7
    try clear hfz3_8
    obtain ⟨x3_1, x9_1, rfl, rfl, HA, HK1, BK106, HB⟩ := hrel
    cases gk with
    | zero => exact absurd HA.out (by simp [task_Work.l0])
    | succ k1 =>
      have H := HA.out
      clear HA
      simp only [task_Work.l0] at H
      by_cases c4 : x9_1 < (l0_6.length : Int)
      · rw [if_pos c4] at H
        have c4b0 : decide (x9_1 < (l0_6.length : Int)) = true := decide_eq_true c4
        clear c4
        by_cases c5 : 0 ≤ x9_1
        · rw [if_pos c5] at H
          have c5b0 : decide (0 ≤ x9_1) = true := decide_eq_true c5
          clear c5
          by_cases c6 : x9_1 < (l0_6.length : Int)
          · rw [if_pos c6] at H
            have c6b0 : decide (x9_1 < (l0_6.length : Int)) = true := decide_eq_true c6
            clear c6
            have H' := Aside0.mk H
            clear H
            have p107 : 0 ≤ (x9_1 : Int) := of_decide_eq_true (by first | (with_reducible assumption) | assumption)
            have q107 : x9_1 < (l0_6.length : Int) := of_decide_eq_true (by first | (with_reducible assumption) | assumption)
            obtain ⟨ad107, e107, hx107_0⟩ := Kd.at_int HR0_6.out x9_1 p107 q107
            cases e107
            replace hx107_0 := (HB.out.cell (World.block_lt_of_cell? w _ hx107_0)).trans hx107_0
            replace p107 := eq_true p107
            replace q107 := eq_true q107
            go_wp2
            go_roundg k1
            case measure => have := HK1.out; omega
            case rel => exact ⟨(wrap64 (x3_1 + (rd l0_6 x9_1))), (wrap64 (x9_1 + 1)), (by first | rfl | (simp; done) | (simp [*]; done)), (by first | rfl | (simp; done) | (simp [*]; done)), H', ⟨by have := HK1.out; omega⟩, ⟨by (with_reducible repeat (first | refine blk_drewN ?_ _ | refine blk_drew ?_ | refine blk_alloc ?_ _)); exact BK106.out⟩, ⟨by repeat (first | (with_reducible first | exact HB.out | apply below_alloc | apply pw_below_drewN | apply below_drew1 | refine below_set ?_ GE106.out) | exact HB.out)⟩⟩
          · rw [if_neg c6] at H
            exact absurd H (by simp)
        · rw [if_neg c5] at H
          exact absurd H (by simp)
      · rw [if_neg c4] at H
        have c4b0 : decide (x9_1 < (l0_6.length : Int)) = false := decide_eq_false c4
        clear c4
        obtain rfl := Option.some.inj H
        go_wp2
        go_ret
        exact ⟨by first | rfl | (simp [errW_none, errW_some] <;> rfl) | (simp [*, errW_none, errW_some] <;> rfl), by repeat (first | (with_reducible first | exact HB.out | apply below_alloc | apply pw_below_drewN | apply below_drew1 | refine below_set ?_ GE106.out) | exact HB.out)⟩
-- NOT PRINTED: function 125 (lex_run)

-- NOT PRINTED: function 94 (lex_gap)

/-! ### lex_isLetter: function 127 -/
/-! ### lex_isDigit: function 129 -/
/-! ### lex_isMore: function 148 -/
/-! ### slices_Index_string_string: function 163 -/
def slices_Index_string_string.l0 : Nat → List ByteArray → ByteArray → Int → Int → Option (Int)
  | 0, _, _, _, _ => none
  | k + 1, x0, x1, x7, x8 => if x8 < x7 then (if 0 ≤ x8 then (if x8 < (x0.length : Int) then (if x1.toList = (rdOf ByteArray.empty x0 x8).toList then (some x8) else (slices_Index_string_string.l0 k x0 x1 x7 (wrap64 (x8 + 1)))) else (none)) else (none)) else (some (-1))
def slices_Index_string_string.f (k : Nat) (l0 : List ByteArray) (a1 : ByteArray) : Option (Int) := slices_Index_string_string.l0 k l0 a1 (l0.length : Int) 0
set_option maxHeartbeats 8000000 in
set_option maxRecDepth 100000 in
theorem slices_Index_string_string.calls (k : Nat) (A0 : Option Addr) (c0 : Nat) (l0 : List ByteArray) (a1 : ByteArray) (r : Int) (w : World) (hr0 : Kd.C Kd.string w A0 l0.length l0) (hc0 : l0.length ≤ c0) (h : slices_Index_string_string.f k l0 a1 = some r) :
    Calls Tryz.prog 163 #[.slice A0 l0.length c0, .string a1] w fun e w' => e = .returned (.int .i64 r) ∧ Drawn0 w w' := by
  have HR0 := Aside0.mk hr0
  have HC0 := Aside0.mk hc0
  clear hr0 hc0
  have H : (slices_Index_string_string.l0 k l0 a1 (l0.length : Int) 0) = some r := h
  clear h
  have H' := Aside0.mk H
  clear H
  go_enter Tryz.func163, Tryz.ntmps163
  go_wp2
  go_loopg [8] k (fun kq v8 w' => ∃ (x8_1 : Int), v8 = .int .i64 x8_1 ∧ Aside0 (slices_Index_string_string.l0 kq l0 a1 (l0.length : Int) x8_1 = some r) ∧ Aside0 (kq ≤ k) ∧ Drawn0 w w')
  case atStart => exact ⟨(0), (by first | rfl | (simp; done) | (simp [*]; done)), H', ⟨Nat.le_refl _⟩, by repeat (first | exact Drawn0.refl _ | apply Drawn0.step)⟩
  case round =>
    clear H'
    try clear c1
    try clear p2
    obtain ⟨x8_1, rfl, HA, HK1, ⟨m1, rfl⟩⟩ := hrel
    cases gk with
    | zero => exact absurd HA.out (by simp [slices_Index_string_string.l0])
    | succ k1 =>
      have H := HA.out
      clear HA
      simp only [slices_Index_string_string.l0] at H
      by_cases c3 : x8_1 < (l0.length : Int)
      · rw [if_pos c3] at H
        have c3b0 : decide (x8_1 < (l0.length : Int)) = true := decide_eq_true c3
        clear c3
        by_cases c4 : 0 ≤ x8_1
        · rw [if_pos c4] at H
          have c4b0 : decide (0 ≤ x8_1) = true := decide_eq_true c4
          clear c4
          by_cases c5 : x8_1 < (l0.length : Int)
          · rw [if_pos c5] at H
            have c5b0 : decide (x8_1 < (l0.length : Int)) = true := decide_eq_true c5
            clear c5
            by_cases c6 : a1.toList = (rdOf ByteArray.empty l0 x8_1).toList
            · rw [if_pos c6] at H
              have c6b0 : (a1.toList == (rdOf ByteArray.empty l0 x8_1).toList) = true := beq_iff_eq.mpr c6
              have c6b1 : (a1.toList != (rdOf ByteArray.empty l0 x8_1).toList) = false := bne_eq_false_iff_eq.mpr c6
              clear c6
              obtain rfl := Option.some.inj H
              have p110 : 0 ≤ (x8_1 : Int) := of_decide_eq_true (by first | (with_reducible assumption) | assumption)
              have q110 : x8_1 < (l0.length : Int) := of_decide_eq_true (by first | (with_reducible assumption) | assumption)
              obtain ⟨ad110, e110, hx110_0⟩ := Kd.at_string HR0.out x8_1 p110 q110
              cases e110
              replace p110 := eq_true p110
              replace q110 := eq_true q110
              go_wp2
              go_ret
              exact ⟨by first | rfl | (simp; done) | (simp [*]; done), by repeat (first | exact Drawn0.refl _ | apply Drawn0.step)⟩
            · rw [if_neg c6] at H
              have c6b0 : (a1.toList == (rdOf ByteArray.empty l0 x8_1).toList) = false := beq_eq_false_iff_ne.mpr c6
              have c6b1 : (a1.toList != (rdOf ByteArray.empty l0 x8_1).toList) = true := bne_iff_ne.mpr c6
              have H' := Aside0.mk H
              clear H
              have p110 : 0 ≤ (x8_1 : Int) := of_decide_eq_true (by first | (with_reducible assumption) | assumption)
              have q110 : x8_1 < (l0.length : Int) := of_decide_eq_true (by first | (with_reducible assumption) | assumption)
              obtain ⟨ad110, e110, hx110_0⟩ := Kd.at_string HR0.out x8_1 p110 q110
              cases e110
              replace p110 := eq_true p110
              replace q110 := eq_true q110
              go_wp2
              go_roundg k1
              case measure => have := HK1.out; omega
              case rel => exact ⟨(wrap64 (x8_1 + 1)), (by first | rfl | (simp; done) | (simp [*]; done)), H', ⟨by have := HK1.out; omega⟩, by repeat (first | exact Drawn0.refl _ | apply Drawn0.step)⟩
          · rw [if_neg c5] at H
            exact absurd H (by simp)
        · rw [if_neg c4] at H
          exact absurd H (by simp)
      · rw [if_neg c3] at H
        have c3b0 : decide (x8_1 < (l0.length : Int)) = false := decide_eq_false c3
        clear c3
        obtain rfl := Option.some.inj H
        go_wp2
        go_ret
        exact ⟨by first | rfl | (simp; done) | (simp [*]; done), by repeat (first | exact Drawn0.refl _ | apply Drawn0.step)⟩
/-! ### slices_Contains_string_string: function 149 -/
def slices_Contains_string_string.f (k : Nat) (l0 : List ByteArray) (a1 : ByteArray) : Option (Bool) := (slices_Index_string_string.f k l0 a1).bind fun t111 => (some (decide (t111 ≥ 0)))
set_option maxHeartbeats 8000000 in
set_option maxRecDepth 100000 in
theorem slices_Contains_string_string.calls (k : Nat) (A0 : Option Addr) (c0 : Nat) (l0 : List ByteArray) (a1 : ByteArray) (r : Bool) (w : World) (hr0 : Kd.C Kd.string w A0 l0.length l0) (hc0 : l0.length ≤ c0) (h : slices_Contains_string_string.f k l0 a1 = some r) :
    Calls Tryz.prog 149 #[.slice A0 l0.length c0, .string a1] w fun e w' => e = .returned (.bool r) ∧ Drawn0 w w' := by
  have HR0 := Aside0.mk hr0
  have HC0 := Aside0.mk hc0
  clear hr0 hc0
  have H : ((slices_Index_string_string.f k l0 a1).bind fun t111 => (some (decide (t111 ≥ 0)))) = some r := h
  clear h
  replace H := Option.bind_eq_some_iff.mp H
  obtain ⟨t111, A30, H⟩ := H
  replace H : (some (decide (t111 ≥ 0))) = some r := H
  have A3 := Aside0.mk A30
  clear A30
  obtain rfl := Option.some.inj H
  go_enter Tryz.func149, Tryz.ntmps149
  go_wp2_with (first | ((with_reducible refine gate_callee (f := 163) rfl ?_); refine goesL_ (some 7) rfl rfl Tryz.func163 (by kernel_rfl) rfl #[.slice A0 l0.length c0, .string a1] rfl (by (try simp only [List.map_toArray, List.map_cons, List.map_nil]); first | done | rfl | (simp only [List.length_drop, List.length_take]; rfl)) ?_; (with_reducible refine (slices_Index_string_string.calls k _ _ l0 a1 t111 _ ?side1 ?side2 A3.out).mono ?_); (case side1 => repeat (first | exact HR0.out | (with_reducible refine Kd.C_alloc ?_ _) | (with_reducible refine Kd.C_drewN ?_ _) | (with_reducible refine Kd.C_drew ?_))); (case side2 => exact HC0.out); rintro e w' ⟨rfl, ⟨nd, rfl⟩⟩; refine ⟨_, rfl, ?_⟩))
  go_ret
  exact ⟨by first | rfl | (simp; done) | (simp [*]; done), by repeat (first | exact Drawn0.refl _ | apply Drawn0.step)⟩
-- NOT PRINTED: function 179 (strings_FieldsFunc)

-- NOT PRINTED: function 192 (unicode_is16)

-- NOT PRINTED: function 193 (unicode_is32)

-- NOT PRINTED: function 188 (unicode_isExcludingLatin)

-- NOT PRINTED: function 180 (unicode_IsSpace)

-- NOT PRINTED: function 164 (strings_Fields)

-- NOT PRINTED: function 150 (lex_Words)

-- NOT PRINTED: function 128 (lex_name)

-- NOT PRINTED: function 130 (lex_number)

/-! ### stringslite_HasPrefix: function 151 -/
def stringslite_HasPrefix.f (a0 : ByteArray) (a1 : ByteArray) : Option (Bool) := if (a0.size : Int) ≥ (a1.size : Int) then (if 0 ≤ (a1.size : Int) then (if (a1.size : Int) ≤ (a0.size : Int) then (some ((a0.extract 0 ((a1.size : Int) : Int).toNat).toList == a1.toList)) else (none)) else (none)) else (some false)
set_option maxHeartbeats 8000000 in
set_option maxRecDepth 100000 in
theorem stringslite_HasPrefix.calls (a0 : ByteArray) (a1 : ByteArray) (r : Bool) (w : World) (h : stringslite_HasPrefix.f a0 a1 = some r) :
    Calls Tryz.prog 151 #[.string a0, .string a1] w fun e w' => e = .returned (.bool r) ∧ Drawn0 w w' := by
  have H : (if (a0.size : Int) ≥ (a1.size : Int) then (if 0 ≤ (a1.size : Int) then (if (a1.size : Int) ≤ (a0.size : Int) then (some ((a0.extract 0 ((a1.size : Int) : Int).toNat).toList == a1.toList)) else (none)) else (none)) else (some false)) = some r := h
  clear h
  by_cases c3 : (a0.size : Int) ≥ (a1.size : Int)
  · rw [if_pos c3] at H
    have c3b0 : decide ((a1.size : Int) ≤ (a0.size : Int)) = true := decide_eq_true c3
    have c3b1 : decide (a1.size ≤ a0.size) = true := decide_eq_true (Int.ofNat_le.mp c3)
    clear c3
    by_cases c4 : 0 ≤ (a1.size : Int)
    · rw [if_pos c4] at H
      have c4b0 := eq_true c4
      have c4b1 : decide (0 ≤ (a1.size : Int)) = true := decide_eq_true c4
      clear c4
      by_cases c5 : (a1.size : Int) ≤ (a0.size : Int)
      · rw [if_pos c5] at H
        have c5b0 := eq_true c5
        have c5b1 : decide ((a1.size : Int) ≤ (a0.size : Int)) = true := decide_eq_true c5
        clear c5
        obtain rfl := Option.some.inj H
        go_enter Tryz.func151, Tryz.ntmps151
        go_wp2
        go_ret
        exact ⟨by first | rfl | (simp; done) | (simp [*]; done), by repeat (first | exact Drawn0.refl _ | apply Drawn0.step)⟩
      · rw [if_neg c5] at H
        exact absurd H (by simp)
    · rw [if_neg c4] at H
      exact absurd H (by simp)
  · rw [if_neg c3] at H
    have c3b0 : decide ((a1.size : Int) ≤ (a0.size : Int)) = false := decide_eq_false c3
    have c3b1 : decide (a1.size ≤ a0.size) = false := decide_eq_false (fun h => c3 (Int.ofNat_le.mpr h))
    clear c3
    obtain rfl := Option.some.inj H
    go_enter Tryz.func151, Tryz.ntmps151
    go_wp2
    go_ret
    exact ⟨by first | rfl | (simp; done) | (simp [*]; done), by repeat (first | exact Drawn0.refl _ | apply Drawn0.step)⟩
/-! ### strings_HasPrefix: function 131 -/
def strings_HasPrefix.f (a0 : ByteArray) (a1 : ByteArray) : Option (Bool) := (stringslite_HasPrefix.f a0 a1).bind fun t117 => (some t117)
set_option maxHeartbeats 8000000 in
set_option maxRecDepth 100000 in
theorem strings_HasPrefix.calls (a0 : ByteArray) (a1 : ByteArray) (r : Bool) (w : World) (h : strings_HasPrefix.f a0 a1 = some r) :
    Calls Tryz.prog 131 #[.string a0, .string a1] w fun e w' => e = .returned (.bool r) ∧ Drawn0 w w' := by
  have H : ((stringslite_HasPrefix.f a0 a1).bind fun t117 => (some t117)) = some r := h
  clear h
  replace H := Option.bind_eq_some_iff.mp H
  obtain ⟨t117, A30, H⟩ := H
  replace H : (some t117) = some r := H
  have A3 := Aside0.mk A30
  clear A30
  obtain rfl := Option.some.inj H
  go_enter Tryz.func131, Tryz.ntmps131
  go_wp2_with (first | ((with_reducible refine gate_callee (f := 151) rfl ?_); refine goesL_ (some 7) rfl rfl Tryz.func151 (by kernel_rfl) rfl #[.string a0, .string a1] rfl (by (try simp only [List.map_toArray, List.map_cons, List.map_nil]); first | done | rfl | (simp only [List.length_drop, List.length_take]; rfl)) ?_; (with_reducible refine (stringslite_HasPrefix.calls a0 a1 t117 _ A3.out).mono ?_); rintro e w' ⟨rfl, ⟨nd, rfl⟩⟩; refine ⟨_, rfl, ?_⟩))
  go_ret
  exact ⟨by first | rfl | (simp; done) | (simp [*]; done), by repeat (first | exact Drawn0.refl _ | apply Drawn0.step)⟩
-- NOT PRINTED: function 95 (lex_token)

-- NOT PRINTED: function 54 (lex_Tokens)

-- NOT PRINTED: function 114 (task_isName)

-- NOT PRINTED: function 117 (slices_IndexFunc_int64_int64)

-- NOT PRINTED: function 72 (slices_ContainsFunc_int64_int64)

-- NOT PRINTED: function 115 (task_isRegions)

end Go.Proofs.YtdgfjpbjiccllaaGreatDoor.PTopLoads
/- task.All of the reference ends, whatever the set is (turned from seat 24's texts). -/
namespace Go.Proofs.YtdgfjpbjiccllaaGreatDoor.A
open Go.RowKit
open Go.Proofs.YtdgfjpbjiccllaaGreatDoorW.PrintWords Go.Proofs.YtdgfjpbjiccllaaGreatDoorW.PrintLast Go.Proofs.YtdgfjpbjiccllaaGreatDoorW.PrintMore
open Go.Proofs.YtdgfjpbjiccllaaGreatDoor.PTopLoads
set_option maxRecDepth 100000
/-- From some number of rounds on the answer is r. -/
def Evt {α : Type} (g : Nat → Option α) (r : α) : Prop := ∃ K, ∀ k, K ≤ k → g k = some r
theorem Evt.now {α : Type} {g : Nat → Option α} {r : α} (h : ∀ k, g k = some r) : Evt g r := ⟨0, fun k _ => h k⟩
theorem Evt.step {α : Type} {g : Nat → Option α} {r : α} (h : Evt (fun k => g (k + 1)) r) : Evt g r := by
  obtain ⟨K, h⟩ := h
  refine ⟨K + 1, fun k hk => ?_⟩
  obtain ⟨k, rfl⟩ : ∃ m, k = m + 1 := ⟨k - 1, by omega⟩
  exact h k (by omega)
theorem Evt.bind {α β : Type} {g : Nat → Option α} {r : α} {h : Nat → α → Option β} {s : β} (h1 : Evt g r) (h2 : Evt (fun k => h k r) s) : Evt (fun k => (g k).bind fun t => h k t) s := by
  obtain ⟨K1, h1⟩ := h1
  obtain ⟨K2, h2⟩ := h2
  exact ⟨K1 + K2, fun k hk => by simp only [h1 k (by omega), Option.bind_some]; exact h2 k (by omega)⟩
theorem Evt.congr {α : Type} {g g' : Nat → Option α} {r : α} (h : Evt g r) (e : ∀ k, g' k = g k) : Evt g' r := by
  obtain ⟨K, h⟩ := h
  exact ⟨K, fun k hk => by rw [e]; exact h k hk⟩
theorem wrap_up {i : Int} (h0 : 0 ≤ i) (h : i < 9223372036854775807) : wrap64 (i + 1) = i + 1 := by
  unfold wrap64
  omega
/-! ### What is there, and in which rank -/
/-- It ends with some answer. -/
def Tot {α : Type} (g : Nat → Option α) : Prop := ∃ r, Evt g r
theorem Tot.now {α : Type} (r : α) : Tot (fun _ => some r) := ⟨r, Evt.now fun _ => rfl⟩
theorem Tot.step {α : Type} {g : Nat → Option α} (h : Tot (fun k => g (k + 1))) : Tot g := let ⟨r, h⟩ := h; ⟨r, h.step⟩
theorem Tot.bind {α β : Type} {g : Nat → Option α} {h : Nat → α → Option β} (h1 : Tot g) (h2 : ∀ r, Tot (fun k => h k r)) : Tot (fun k => (g k).bind fun t => h k t) := by
  obtain ⟨r, h1⟩ := h1
  obtain ⟨s, h2⟩ := h2 r
  exact ⟨s, h1.bind h2⟩
theorem Tot.ite {α : Type} {c : Prop} [Decidable c] {g g' : Nat → Option α} (h1 : c → Tot g) (h2 : ¬ c → Tot g') : Tot (fun k => if c then g k else g' k) := by
  by_cases h : c
  · simp only [if_pos h]; exact h1 h
  · simp only [if_neg h]; exact h2 h
theorem Tot.no {α : Type} {c : Prop} (h : ¬ c) (h' : c) : Tot (fun _ => (none : Option α)) := absurd h' h
theorem small_tot (c : Int) : ∃ b, taskmasterref4_small.f c = some b := by unfold taskmasterref4_small.f; split <;> exact ⟨_, rfl⟩
theorem digit_tot (c : Int) : ∃ b, taskmasterref4_digit.f c = some b := by unfold taskmasterref4_digit.f; split <;> exact ⟨_, rfl⟩
theorem in_tot (a b c : Int) : ∃ r, taskmasterref5_in.f a b c = some r := by unfold taskmasterref5_in.f; split <;> exact ⟨_, rfl⟩
theorem Tot.some_ {α : Type} {x : Option α} (h : ∃ b, x = some b) : Tot (fun _ => x) := by
  obtain ⟨b, rfl⟩ := h
  exact Tot.now b
theorem word_from (s : ByteArray) (ws : List ByteArray) (hw : (ws.length : Int) < 9223372036854775807) (d : Nat) : ∀ i : Nat, i + d = ws.length → Tot (fun k => taskmasterref4_word.l0 k s ws i) := by
  induction d with
  | zero =>
    intro i hi
    apply Tot.step
    simp only [taskmasterref4_word.l0]
    exact Tot.ite (fun h => by omega) fun _ => Tot.now _
  | succ d ih =>
    intro i hi
    have := ih (i + 1) (by omega)
    apply Tot.step
    simp only [taskmasterref4_word.l0]
    refine Tot.ite (fun h => Tot.ite (fun _ => Tot.ite (fun _ => Tot.now _) fun _ => ?_) fun h => by omega) fun _ => Tot.now _
    rw [wrap_up (by omega) (by omega)]
    exact this
theorem word_tot (s : ByteArray) : Tot (fun k => taskmasterref4_word.f k s) := by
  unfold taskmasterref4_word.f taskmasterref4_Words.f
  simp only [Option.bind_some]
  exact word_from s _ (by simp) 10 0 (by simp)
theorem num_from (s : ByteArray) (hs : (s.size : Int) ≤ 9223372036854775807) (h0 : 0 < s.size) (d : Nat) : ∀ (i : Nat) (x : Int), i + d = s.size → Tot (fun k => taskmasterref4_one.l0 k s i x) := by
  induction d with
  | zero =>
    intro i x hi
    apply Tot.step
    simp only [taskmasterref4_one.l0]
    refine Tot.ite (fun h => by omega) fun _ => ?_
    apply Tot.step
    simp only [taskmasterref4_one.j1]
    refine Tot.ite (fun h => by cases h) fun _ => Tot.ite (fun _ => Tot.now _) fun _ => Tot.ite (fun _ => Tot.ite (fun _ => Tot.ite (fun _ => Tot.now _) fun _ => Tot.now _) fun h => by omega) fun _ => Tot.now _
  | succ d ih =>
    intro i x hi
    apply Tot.step
    simp only [taskmasterref4_one.l0]
    refine Tot.ite (fun h => Tot.ite (fun _ => Tot.bind (Tot.some_ (digit_tot _)) fun b => ?_) fun h => by omega) fun h => by omega
    apply Tot.step
    simp only [taskmasterref4_one.j1]
    refine Tot.ite (fun _ => Tot.ite (fun _ => Tot.ite (fun _ => Tot.ite (fun _ => ?_) fun h => by omega) fun h => by omega) fun _ => ?_) fun _ => Tot.ite (fun _ => Tot.now _) fun _ => Tot.ite (fun _ => Tot.ite (fun _ => Tot.ite (fun _ => Tot.now _) fun _ => Tot.now _) fun h => by omega) fun _ => Tot.now _
    · rw [wrap_up (by omega) (by omega)]
      exact ih (i + 1) _ (by omega)
    · rw [wrap_up (by omega) (by omega)]
      exact ih (i + 1) _ (by omega)
theorem nam_end (s : ByteArray) (i : Nat) (hi : i ≤ s.size) : Tot (fun k => taskmasterref4_one.j3 k s i) := by
  apply Tot.step
  simp only [taskmasterref4_one.j3]
  exact Tot.ite (fun _ => Tot.ite (fun _ => Tot.bind (word_tot _) fun b => Tot.ite (fun _ => Tot.now _) fun _ => Tot.ite (fun _ => Tot.now _) fun _ => Tot.now _) fun h => by omega) fun h => by omega
theorem nam_from (s : ByteArray) (hs : (s.size : Int) ≤ 9223372036854775807) (d : Nat) : ∀ (i : Nat), i + d = s.size → Tot (fun k => taskmasterref4_one.l1 k s i) := by
  induction d with
  | zero =>
    intro i hi
    apply Tot.step
    simp only [taskmasterref4_one.l1]
    exact Tot.ite (fun h => by omega) fun _ => nam_end s i (by omega)
  | succ d ih =>
    intro i hi
    have := ih (i + 1) (by omega)
    rw [show ((i + 1 : Nat) : Int) = (i : Int) + 1 from by omega, ← wrap_up (i := i) (by omega) (by omega)] at this
    apply Tot.step
    simp only [taskmasterref4_one.l1]
    exact Tot.ite (fun h => Tot.ite (fun _ => Tot.bind (Tot.some_ (small_tot _)) fun b => Tot.ite (fun _ => this) fun _ => Tot.bind (Tot.some_ (digit_tot _)) fun c => Tot.ite (fun _ => this) fun _ => Tot.ite (fun _ => this) fun _ => nam_end s i (by omega)) fun h => by omega) fun h => by omega
theorem one_tot (s : ByteArray) (hs : (s.size : Int) ≤ 9223372036854775807) (h0 : 0 < s.size) : Tot (fun k => taskmasterref4_one.f k s) := by
  unfold taskmasterref4_one.f
  exact Tot.ite (fun _ => Tot.ite (fun _ => Tot.now _) fun _ => Tot.bind (Tot.some_ (digit_tot _)) fun b => Tot.ite (fun _ => num_from s hs h0 s.size 0 0 (by omega)) fun _ =>
    Tot.bind (Tot.some_ (small_tot _)) fun c => Tot.ite (fun _ => nam_from s hs s.size 0 (by omega)) fun _ => Tot.now _) fun h => by omega
theorem name_tot (s : ByteArray) (hs : (s.size : Int) ≤ 9223372036854775807) : Tot (fun k => taskmasterref4_Name.f k s) := by
  unfold taskmasterref4_Name.f
  exact Tot.ite (fun _ => Tot.now _) fun _ => Tot.ite (fun h => Tot.bind (Tot.some_ (small_tot _)) fun b => Tot.ite (fun _ => Tot.bind (one_tot s hs (by omega)) fun r => Tot.ite (fun _ => Tot.now _) fun _ => Tot.now _) fun _ => Tot.now _) fun h => by omega
theorem work_from (a0 : ByteArray) (a1 a2 a3 a4 a5 a7 a8 : Int) (l : List Int) (hl : (l.length : Int) < 9223372036854775807) (d : Nat) : ∀ (i : Nat) (x : Int), i + d = l.length → Tot (fun k => taskmasterref5_Work.l0 k x i a0 a1 a2 a3 a4 a5 l a7 a8) := by
  induction d with
  | zero =>
    intro i x hi
    apply Tot.step
    simp only [taskmasterref5_Work.l0]
    exact Tot.ite (fun h => by omega) fun _ => Tot.now _
  | succ d ih =>
    intro i x hi
    apply Tot.step
    simp only [taskmasterref5_Work.l0]
    refine Tot.ite (fun h => Tot.ite (fun _ => ?_) fun h => by omega) fun h => by omega
    rw [wrap_up (by omega) (by omega)]
    exact ih (i + 1) _ (by omega)
theorem is2_tot (p : Int) (b : Bool) (a0 : ByteArray) (a1 a2 a3 a4 a5 a7 a8 : Int) (l : List Int) : Tot (fun k => taskmasterref5_Is.j2 k p b a0 a1 a2 a3 a4 a5 l a7 a8) := by
  apply Tot.step
  simp only [taskmasterref5_Is.j2]
  exact Tot.ite (fun _ => Tot.now _) fun _ => Tot.ite (fun _ => Tot.ite (fun _ => Tot.now _) fun _ => Tot.now _) fun _ => Tot.ite (fun _ => Tot.bind (Tot.some_ (in_tot _ _ _)) fun r => Tot.ite (fun _ => Tot.now _) fun _ => Tot.now _) fun _ =>
    Tot.ite (fun _ => Tot.ite (fun _ => Tot.ite (fun _ => Tot.now _) fun _ => Tot.now _) fun _ => Tot.now _) fun _ => Tot.now _
theorem is0_from (p : Int) (a0 : ByteArray) (a1 a2 a3 a4 a5 a7 a8 : Int) (l : List Int) (hl : (l.length : Int) < 9223372036854775807) (d : Nat) : ∀ (i : Nat), i + d = l.length → Tot (fun k => taskmasterref5_Is.l0 k p i a0 a1 a2 a3 a4 a5 l a7 a8) := by
  induction d with
  | zero =>
    intro i hi
    apply Tot.step
    simp only [taskmasterref5_Is.l0]
    refine Tot.ite (fun h => by omega) fun _ => Tot.bind ?_ fun r => Tot.ite (fun _ => is2_tot _ _ _ _ _ _ _ _ _ _ _) fun _ => Tot.ite (fun _ => is2_tot _ _ _ _ _ _ _ _ _ _ _) fun _ => is2_tot _ _ _ _ _ _ _ _ _ _ _
    unfold taskmasterref5_Work.f
    exact work_from a0 a1 a2 a3 a4 a5 a7 a8 l hl l.length 0 0 (by omega)
  | succ d ih =>
    intro i hi
    apply Tot.step
    simp only [taskmasterref5_Is.l0]
    refine Tot.ite (fun h => Tot.ite (fun _ => Tot.bind (Tot.some_ (in_tot _ _ _)) fun r => Tot.ite (fun _ => ?_) fun _ => Tot.now _) fun h => by omega) fun h => by omega
    rw [wrap_up (by omega) (by omega)]
    exact ih (i + 1) (by omega)
theorem isj_tot (p : Int) (b : Bool) (a0 : ByteArray) (a1 a2 a3 a4 a5 a7 a8 : Int) (l : List Int) (hl : b = false → (l.length : Int) < 9223372036854775807) : Tot (fun k => taskmasterref5_Is.j0 k p b a0 a1 a2 a3 a4 a5 l a7 a8) := by
  apply Tot.step
  simp only [taskmasterref5_Is.j0]
  exact Tot.ite (fun _ => Tot.now _) fun h => is0_from p a0 a1 a2 a3 a4 a5 a7 a8 l (hl (by simpa using h)) l.length 0 (by omega)
theorem Is_tot (a0 : ByteArray) (hs : (a0.size : Int) ≤ 9223372036854775807) (a1 a2 a3 a4 a5 a7 a8 p : Int) (l : List Int) : Tot (fun k => taskmasterref5_Is.f k a0 a1 a2 a3 a4 a5 l a7 a8 p) := by
  unfold taskmasterref5_Is.f
  refine Tot.bind (name_tot a0 hs) fun b => Tot.ite (fun _ => Tot.ite (fun _ => ?_) fun _ => Tot.ite (fun _ => ?_) fun _ => ?_) fun _ => ?_
  · exact isj_tot _ _ _ _ _ _ _ _ _ _ _ (fun h => by cases h)
  · exact isj_tot _ _ _ _ _ _ _ _ _ _ _ (fun h => by cases h)
  · exact isj_tot _ _ _ _ _ _ _ _ _ _ _ (fun _ => by omega)
  · exact isj_tot _ _ _ _ _ _ _ _ _ _ _ (fun h => by cases h)
/-- No name is longer than a machine holds. -/
def Small (T : List S46) : Prop := ∀ x ∈ T, (x.f0.size : Int) ≤ 9223372036854775807
theorem same_from (T : List S46) (hl : (T.length : Int) < 9223372036854775807) (a : Int) (i : Nat) (hi : i < T.length) (hnext : Tot (fun k => taskmasterref5_All.l0 k ((i + 1 : Nat) : Int) a T)) (d : Nat) : ∀ (j : Nat), j + d = i → Tot (fun k => taskmasterref5_All.l1 k i j a T) := by
  induction d with
  | zero =>
    intro j hj
    apply Tot.step
    simp only [taskmasterref5_All.l1]
    refine Tot.ite (fun h => by omega) fun _ => ?_
    rw [wrap_up (by omega) (by omega)]
    exact hnext
  | succ d ih =>
    intro j hj
    apply Tot.step
    simp only [taskmasterref5_All.l1]
    refine Tot.ite (fun _ => Tot.ite (fun _ => Tot.ite (fun _ => Tot.ite (fun _ => Tot.ite (fun _ => Tot.ite (fun _ => Tot.now _) fun _ => ?_) fun h => by omega) fun h => by omega) fun h => by omega) fun h => by omega) fun h => by omega
    rw [wrap_up (by omega) (by omega)]
    exact ih (j + 1) (by omega)
theorem all_from (T : List S46) (hT : Small T) (hl : (T.length : Int) < 9223372036854775807) (a : Int) (d : Nat) : ∀ (i : Nat), i + d = T.length → Tot (fun k => taskmasterref5_All.l0 k i a T) := by
  induction d with
  | zero =>
    intro i hi
    apply Tot.step
    simp only [taskmasterref5_All.l0]
    exact Tot.ite (fun h => by omega) fun _ => Tot.now _
  | succ d ih =>
    intro i hi
    apply Tot.step
    simp only [taskmasterref5_All.l0]
    refine Tot.ite (fun _ => Tot.ite (fun _ => Tot.bind (Is_tot _ ?_ _ _ _ _ _ _ _ _ _) fun b => Tot.ite (fun _ => ?_) fun _ => Tot.now _) fun h => by omega) fun h => by omega
    · have hlt : i < T.length := by omega
      have : rd_T46 T i = T[i] := by simp [rd_T46, hlt, List.getD]
      rw [this]
      exact hT _ (List.getElem_mem hlt)
    · exact same_from T hl a i (by omega) (ih (i + 1) (by omega)) i 0 (by omega)
theorem allj_tot (b : Bool) (T : List S46) (hT : Small T) (a : Int) (hl : b = false → (T.length : Int) < 9223372036854775807) : Tot (fun k => taskmasterref5_All.j0 k b a T) := by
  apply Tot.step
  simp only [taskmasterref5_All.j0]
  exact Tot.ite (fun _ => Tot.now _) fun h => all_from T hT (hl (by simpa using h)) a T.length 0 (by omega)
theorem All_tot (a : Int) (T : List S46) (hT : Small T) : Tot (fun k => taskmasterref5_All.f k a T) := by
  unfold taskmasterref5_All.f
  exact Tot.bind (Tot.some_ (in_tot _ _ _)) fun b => Tot.ite (fun _ => Tot.ite (fun _ => allj_tot _ T hT a (fun h => by cases h)) fun _ => allj_tot _ T hT a (fun h => by simp at h; omega)) fun _ => allj_tot _ T hT a (fun h => by cases h)
end Go.Proofs.YtdgfjpbjiccllaaGreatDoor.A
