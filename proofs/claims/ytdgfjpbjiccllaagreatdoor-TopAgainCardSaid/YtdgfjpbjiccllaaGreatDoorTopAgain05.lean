/- Joined texts: Px3, All, Lng, Rul. -/
import Derived.Test.YtdgfjpbjiccllaaGreatDoorTopAgain03
import Derived.Test.YtdgfjpbjiccllaaGreatDoorTopAgain04
namespace Go.Proofs.YtdgfjpbjiccllaaGreatDoor.PTopLoads
open Go.RowKit YtdgfjpbjiccllaaGreatDoorW.PrintWords YtdgfjpbjiccllaaGreatDoorW.PrintLast YtdgfjpbjiccllaaGreatDoorW.PrintMore
attribute [local go_sem] max2_int min2_int max_two min_two max_three min_three max_four min_four   -- for this text's walks alone
set_option linter.unusedVariables false
set_option linter.unusedSimpArgs false
def num_told.f (a0 : Int) (a1 : Bool) : Option (Int × Bool) := if a1 = true then ((num_Is.f a0).bind fun t186 => (if t186 = true then (some (a0, true)) else (some (0, false)))) else (some (0, false))
set_option maxHeartbeats 8000000 in
set_option maxRecDepth 100000 in
theorem num_told.calls (a0 : Int) (a1 : Bool) (r1 : Int) (r2 : Bool) (w : World) (h : num_told.f a0 a1 = some (r1, r2)) :
  Calls Tryz.prog 186 #[.int .i64 a0, .bool a1] w fun e w' => e = .returned (.tuple #[.int .i64 r1, .bool r2]) ∧ Drawn0 w w' := by
 have H : (if a1 = true then ((num_Is.f a0).bind fun t186 => (if t186 = true then (some (a0, true)) else (some (0, false)))) else (some (0, false))) = some (r1, r2) := h
 clear h
 by_cases c3 : a1 = true
 ·subst c3
  have H1 : ((num_Is.f a0).bind fun t186 => (if t186 = true then (some (a0, true)) else (some (0, false)))) = some (r1, r2) := by rw [if_pos rfl] at H; exact H
  clear H
  have H := H1
  clear H1
  replace H := Option.bind_eq_some_iff.mp H
  obtain ⟨t186, A40, H⟩ := H
  replace H : (if t186 = true then (some (a0, true)) else (some (0, false))) = some (r1, r2) := H
  have A4 := Aside0.mk A40
  clear A40
  by_cases c5 : t186 = true
  ·subst c5
   have H1 : (some (a0, true)) = some (r1, r2) := by rw [if_pos rfl] at H; exact H
   clear H
   have H := H1
   clear H1
   simp only [Option.some.injEq, Prod.mk.injEq] at H
   obtain ⟨rfl, rfl⟩ := H
   go_enter Tryz.func186, Tryz.ntmps186
   go_wp2_with (first | (go_at_call 184; (with_reducible refine (num_Is.calls a0 true _ A4.out).mono ?_); rintro e w' ⟨rfl, ⟨nd, rfl⟩⟩))
   go_ret2
   exact ⟨by first | rfl | (simp; done) | (simp [*]; done), by repeat (first | exact Drawn0.refl _ | apply Drawn0.step)⟩
  ·replace c5 := Bool.eq_false_iff.mpr c5
   subst c5
   have H1 : (some (0, false)) = some (r1, r2) := by rw [if_neg (show ¬ (false = true) by decide)] at H; exact H
   clear H
   have H := H1
   clear H1
   simp only [Option.some.injEq, Prod.mk.injEq] at H
   obtain ⟨rfl, rfl⟩ := H
   go_enter Tryz.func186, Tryz.ntmps186
   go_wp2_with (first | (go_at_call 184; (with_reducible refine (num_Is.calls a0 false _ A4.out).mono ?_); rintro e w' ⟨rfl, ⟨nd, rfl⟩⟩))
   go_ret2
   exact ⟨by first | rfl | (simp; done) | (simp [*]; done), by repeat (first | exact Drawn0.refl _ | apply Drawn0.step)⟩
 ·replace c3 := Bool.eq_false_iff.mpr c3
  subst c3
  have H1 : (some (0, false)) = some (r1, r2) := by rw [if_neg (show ¬ (false = true) by decide)] at H; exact H
  clear H
  have H := H1
  clear H1
  simp only [Option.some.injEq, Prod.mk.injEq] at H
  obtain ⟨rfl, rfl⟩ := H
  go_enter Tryz.func186, Tryz.ntmps186
  go_wp2
  go_ret2
  exact ⟨by first | rfl | (simp; done) | (simp [*]; done), by repeat (first | exact Drawn0.refl _ | apply Drawn0.step)⟩
def num_Add.f (a0 : Int) (a1 : Int) : Option (Int × Bool) := (num_Is.f a0).bind fun t187 => (if t187 = true then ((num_Is.f a1).bind fun t188 => (if t188 = true then ((num_told.f (wrap64 (a0 + a1)) true).bind fun bt189 => (some (bt189.1, bt189.2))) else (some (0, false)))) else (some (0, false)))
set_option maxHeartbeats 8000000 in
set_option maxRecDepth 100000 in
theorem num_Add.calls (a0 : Int) (a1 : Int) (r1 : Int) (r2 : Bool) (w : World) (h : num_Add.f a0 a1 = some (r1, r2)) :
  Calls Tryz.prog 170 #[.int .i64 a0, .int .i64 a1] w fun e w' => e = .returned (.tuple #[.int .i64 r1, .bool r2]) ∧ Drawn0 w w' := by
 have H : ((num_Is.f a0).bind fun t187 => (if t187 = true then ((num_Is.f a1).bind fun t188 => (if t188 = true then ((num_told.f (wrap64 (a0 + a1)) true).bind fun bt189 => (some (bt189.1, bt189.2))) else (some (0, false)))) else (some (0, false)))) = some (r1, r2) := h
 clear h
 replace H := Option.bind_eq_some_iff.mp H
 obtain ⟨t187, A30, H⟩ := H
 replace H : (if t187 = true then ((num_Is.f a1).bind fun t188 => (if t188 = true then ((num_told.f (wrap64 (a0 + a1)) true).bind fun bt189 => (some (bt189.1, bt189.2))) else (some (0, false)))) else (some (0, false))) = some (r1, r2) := H
 have A3 := Aside0.mk A30
 clear A30
 by_cases c4 : t187 = true
 ·subst c4
  have H1 : ((num_Is.f a1).bind fun t188 => (if t188 = true then ((num_told.f (wrap64 (a0 + a1)) true).bind fun bt189 => (some (bt189.1, bt189.2))) else (some (0, false)))) = some (r1, r2) := by rw [if_pos rfl] at H; exact H
  clear H
  have H := H1
  clear H1
  replace H := Option.bind_eq_some_iff.mp H
  obtain ⟨t188, A50, H⟩ := H
  replace H : (if t188 = true then ((num_told.f (wrap64 (a0 + a1)) true).bind fun bt189 => (some (bt189.1, bt189.2))) else (some (0, false))) = some (r1, r2) := H
  have A5 := Aside0.mk A50
  clear A50
  by_cases c6 : t188 = true
  ·subst c6
   have H1 : ((num_told.f (wrap64 (a0 + a1)) true).bind fun bt189 => (some (bt189.1, bt189.2))) = some (r1, r2) := by rw [if_pos rfl] at H; exact H
   clear H
   have H := H1
   clear H1
   replace H := Option.bind_eq_some_iff.mp H
   obtain ⟨⟨t189, t190⟩, A70, H⟩ := H
   replace H : (some (t189, t190)) = some (r1, r2) := H
   have A7 := Aside0.mk A70
   clear A70
   simp only [Option.some.injEq, Prod.mk.injEq] at H
   obtain ⟨rfl, rfl⟩ := H
   go_enter Tryz.func170, Tryz.ntmps170
   go_wp2_with (first | ((with_reducible refine gate_callee (f := 184) rfl ?_); refine goesL_ (some 7) rfl rfl Tryz.func184 (by kernel_rfl) rfl #[.int .i64 a0] rfl (by (try simp only [List.map_toArray, List.map_cons, List.map_nil]); first | done | rfl | (simp only [List.length_drop, List.length_take]; rfl)) ?_; (with_reducible refine (num_Is.calls a0 true _ A3.out).mono ?_); rintro e w' ⟨rfl, ⟨nd, rfl⟩⟩; refine ⟨_, rfl, ?_⟩) | (go_at_call 184; (with_reducible refine (num_Is.calls a1 true _ A5.out).mono ?_); rintro e w' ⟨rfl, ⟨nd, rfl⟩⟩) | ((with_reducible refine gate_callee (f := 186) rfl ?_); refine goesL_ (some 17) rfl rfl Tryz.func186 (by kernel_rfl) rfl #[.int .i64 (wrap64 (a0 + a1)), .bool true] rfl (by (try simp only [List.map_toArray, List.map_cons, List.map_nil]); first | done | rfl | (simp only [List.length_drop, List.length_take]; rfl)) ?_; (with_reducible refine (num_told.calls (wrap64 (a0 + a1)) true t189 t190 _ A7.out).mono ?_); rintro e w' ⟨rfl, ⟨nd, rfl⟩⟩; refine ⟨_, rfl, ?_⟩))
   go_ret2
   exact ⟨by first | rfl | (simp; done) | (simp [*]; done), by repeat (first | exact Drawn0.refl _ | apply Drawn0.step)⟩
  ·replace c6 := Bool.eq_false_iff.mpr c6
   subst c6
   have H1 : (some (0, false)) = some (r1, r2) := by rw [if_neg (show ¬ (false = true) by decide)] at H; exact H
   clear H
   have H := H1
   clear H1
   simp only [Option.some.injEq, Prod.mk.injEq] at H
   obtain ⟨rfl, rfl⟩ := H
   go_enter Tryz.func170, Tryz.ntmps170
   go_wp2_with (first | ((with_reducible refine gate_callee (f := 184) rfl ?_); refine goesL_ (some 7) rfl rfl Tryz.func184 (by kernel_rfl) rfl #[.int .i64 a0] rfl (by (try simp only [List.map_toArray, List.map_cons, List.map_nil]); first | done | rfl | (simp only [List.length_drop, List.length_take]; rfl)) ?_; (with_reducible refine (num_Is.calls a0 true _ A3.out).mono ?_); rintro e w' ⟨rfl, ⟨nd, rfl⟩⟩; refine ⟨_, rfl, ?_⟩) | (go_at_call 184; (with_reducible refine (num_Is.calls a1 false _ A5.out).mono ?_); rintro e w' ⟨rfl, ⟨nd, rfl⟩⟩))
   go_ret2
   exact ⟨by first | rfl | (simp; done) | (simp [*]; done), by repeat (first | exact Drawn0.refl _ | apply Drawn0.step)⟩
 ·replace c4 := Bool.eq_false_iff.mpr c4
  subst c4
  have H1 : (some (0, false)) = some (r1, r2) := by rw [if_neg (show ¬ (false = true) by decide)] at H; exact H
  clear H
  have H := H1
  clear H1
  simp only [Option.some.injEq, Prod.mk.injEq] at H
  obtain ⟨rfl, rfl⟩ := H
  go_enter Tryz.func170, Tryz.ntmps170
  go_wp2_with (first | ((with_reducible refine gate_callee (f := 184) rfl ?_); refine goesL_ (some 7) rfl rfl Tryz.func184 (by kernel_rfl) rfl #[.int .i64 a0] rfl (by (try simp only [List.map_toArray, List.map_cons, List.map_nil]); first | done | rfl | (simp only [List.length_drop, List.length_take]; rfl)) ?_; (with_reducible refine (num_Is.calls a0 false _ A3.out).mono ?_); rintro e w' ⟨rfl, ⟨nd, rfl⟩⟩; refine ⟨_, rfl, ?_⟩))
  go_ret2
  exact ⟨by first | rfl | (simp; done) | (simp [*]; done), by repeat (first | exact Drawn0.refl _ | apply Drawn0.step)⟩
def num_Floor.f (a0 : Int) (a1 : Int) : Option (Int × Bool) := (num_Is.f a0).bind fun t199 => (if t199 = true then ((num_Is.f a1).bind fun t200 => (if t200 = true then (if a1 = 0 then (some (0, false)) else (some (wrap64 (Int.tdiv a0 a1), true))) else (some (0, false)))) else (some (0, false)))
set_option maxHeartbeats 8000000 in
set_option maxRecDepth 100000 in
theorem num_Floor.calls (a0 : Int) (a1 : Int) (r1 : Int) (r2 : Bool) (w : World) (h : num_Floor.f a0 a1 = some (r1, r2)) :
  Calls Tryz.prog 190 #[.int .i64 a0, .int .i64 a1] w fun e w' => e = .returned (.tuple #[.int .i64 r1, .bool r2]) ∧ Drawn0 w w' := by
 have H : ((num_Is.f a0).bind fun t199 => (if t199 = true then ((num_Is.f a1).bind fun t200 => (if t200 = true then (if a1 = 0 then (some (0, false)) else (some (wrap64 (Int.tdiv a0 a1), true))) else (some (0, false)))) else (some (0, false)))) = some (r1, r2) := h
 clear h
 replace H := Option.bind_eq_some_iff.mp H
 obtain ⟨t199, A30, H⟩ := H
 replace H : (if t199 = true then ((num_Is.f a1).bind fun t200 => (if t200 = true then (if a1 = 0 then (some (0, false)) else (some (wrap64 (Int.tdiv a0 a1), true))) else (some (0, false)))) else (some (0, false))) = some (r1, r2) := H
 have A3 := Aside0.mk A30
 clear A30
 by_cases c4 : t199 = true
 ·subst c4
  have H1 : ((num_Is.f a1).bind fun t200 => (if t200 = true then (if a1 = 0 then (some (0, false)) else (some (wrap64 (Int.tdiv a0 a1), true))) else (some (0, false)))) = some (r1, r2) := by rw [if_pos rfl] at H; exact H
  clear H
  have H := H1
  clear H1
  replace H := Option.bind_eq_some_iff.mp H
  obtain ⟨t200, A50, H⟩ := H
  replace H : (if t200 = true then (if a1 = 0 then (some (0, false)) else (some (wrap64 (Int.tdiv a0 a1), true))) else (some (0, false))) = some (r1, r2) := H
  have A5 := Aside0.mk A50
  clear A50
  by_cases c6 : t200 = true
  ·subst c6
   have H1 : (if a1 = 0 then (some (0, false)) else (some (wrap64 (Int.tdiv a0 a1), true))) = some (r1, r2) := by rw [if_pos rfl] at H; exact H
   clear H
   have H := H1
   clear H1
   by_cases c7 : a1 = 0
   ·rw [if_pos c7] at H
    have c7b0 : (a1 == 0) = true := beq_iff_eq.mpr c7
    have c7b1 : (a1 != 0) = false := bne_eq_false_iff_eq.mpr c7
    clear c7
    simp only [Option.some.injEq, Prod.mk.injEq] at H
    obtain ⟨rfl, rfl⟩ := H
    go_enter Tryz.func190, Tryz.ntmps190
    go_wp2_with (first | ((with_reducible refine gate_callee (f := 184) rfl ?_); refine goesL_ (some 7) rfl rfl Tryz.func184 (by kernel_rfl) rfl #[.int .i64 a0] rfl (by (try simp only [List.map_toArray, List.map_cons, List.map_nil]); first | done | rfl | (simp only [List.length_drop, List.length_take]; rfl)) ?_; (with_reducible refine (num_Is.calls a0 true _ A3.out).mono ?_); rintro e w' ⟨rfl, ⟨nd, rfl⟩⟩; refine ⟨_, rfl, ?_⟩) | (go_at_call 184; (with_reducible refine (num_Is.calls a1 true _ A5.out).mono ?_); rintro e w' ⟨rfl, ⟨nd, rfl⟩⟩))
    go_ret2
    exact ⟨by first | rfl | (simp; done) | (simp [*]; done), by repeat (first | exact Drawn0.refl _ | apply Drawn0.step)⟩
   ·rw [if_neg c7] at H
    have c7b0 : (a1 == 0) = false := beq_eq_false_iff_ne.mpr c7
    have c7b1 : (a1 != 0) = true := bne_iff_ne.mpr c7
    simp only [Option.some.injEq, Prod.mk.injEq] at H
    obtain ⟨rfl, rfl⟩ := H
    go_enter Tryz.func190, Tryz.ntmps190
    go_wp2_with (first | ((with_reducible refine gate_callee (f := 184) rfl ?_); refine goesL_ (some 7) rfl rfl Tryz.func184 (by kernel_rfl) rfl #[.int .i64 a0] rfl (by (try simp only [List.map_toArray, List.map_cons, List.map_nil]); first | done | rfl | (simp only [List.length_drop, List.length_take]; rfl)) ?_; (with_reducible refine (num_Is.calls a0 true _ A3.out).mono ?_); rintro e w' ⟨rfl, ⟨nd, rfl⟩⟩; refine ⟨_, rfl, ?_⟩) | (go_at_call 184; (with_reducible refine (num_Is.calls a1 true _ A5.out).mono ?_); rintro e w' ⟨rfl, ⟨nd, rfl⟩⟩))
    go_ret2
    exact ⟨by first | rfl | (simp; done) | (simp [*]; done), by repeat (first | exact Drawn0.refl _ | apply Drawn0.step)⟩
  ·replace c6 := Bool.eq_false_iff.mpr c6
   subst c6
   have H1 : (some (0, false)) = some (r1, r2) := by rw [if_neg (show ¬ (false = true) by decide)] at H; exact H
   clear H
   have H := H1
   clear H1
   simp only [Option.some.injEq, Prod.mk.injEq] at H
   obtain ⟨rfl, rfl⟩ := H
   go_enter Tryz.func190, Tryz.ntmps190
   go_wp2_with (first | ((with_reducible refine gate_callee (f := 184) rfl ?_); refine goesL_ (some 7) rfl rfl Tryz.func184 (by kernel_rfl) rfl #[.int .i64 a0] rfl (by (try simp only [List.map_toArray, List.map_cons, List.map_nil]); first | done | rfl | (simp only [List.length_drop, List.length_take]; rfl)) ?_; (with_reducible refine (num_Is.calls a0 true _ A3.out).mono ?_); rintro e w' ⟨rfl, ⟨nd, rfl⟩⟩; refine ⟨_, rfl, ?_⟩) | (go_at_call 184; (with_reducible refine (num_Is.calls a1 false _ A5.out).mono ?_); rintro e w' ⟨rfl, ⟨nd, rfl⟩⟩))
   go_ret2
   exact ⟨by first | rfl | (simp; done) | (simp [*]; done), by repeat (first | exact Drawn0.refl _ | apply Drawn0.step)⟩
 ·replace c4 := Bool.eq_false_iff.mpr c4
  subst c4
  have H1 : (some (0, false)) = some (r1, r2) := by rw [if_neg (show ¬ (false = true) by decide)] at H; exact H
  clear H
  have H := H1
  clear H1
  simp only [Option.some.injEq, Prod.mk.injEq] at H
  obtain ⟨rfl, rfl⟩ := H
  go_enter Tryz.func190, Tryz.ntmps190
  go_wp2_with (first | ((with_reducible refine gate_callee (f := 184) rfl ?_); refine goesL_ (some 7) rfl rfl Tryz.func184 (by kernel_rfl) rfl #[.int .i64 a0] rfl (by (try simp only [List.map_toArray, List.map_cons, List.map_nil]); first | done | rfl | (simp only [List.length_drop, List.length_take]; rfl)) ?_; (with_reducible refine (num_Is.calls a0 false _ A3.out).mono ?_); rintro e w' ⟨rfl, ⟨nd, rfl⟩⟩; refine ⟨_, rfl, ?_⟩))
  go_ret2
  exact ⟨by first | rfl | (simp; done) | (simp [*]; done), by repeat (first | exact Drawn0.refl _ | apply Drawn0.step)⟩
def num_Ceil.f (a0 : Int) (a1 : Int) : Option (Int × Bool) := (num_Floor.f a0 a1).bind fun bt201 => (if bt201.2 = true then (if (wrap64 (bt201.1 * a1)) < a0 then (some (wrap64 (bt201.1 + 1), bt201.2)) else (some (bt201.1, bt201.2))) else (some (bt201.1, bt201.2)))
set_option maxHeartbeats 8000000 in
set_option maxRecDepth 100000 in
theorem num_Ceil.calls (a0 : Int) (a1 : Int) (r1 : Int) (r2 : Bool) (w : World) (h : num_Ceil.f a0 a1 = some (r1, r2)) :
  Calls Tryz.prog 183 #[.int .i64 a0, .int .i64 a1] w fun e w' => e = .returned (.tuple #[.int .i64 r1, .bool r2]) ∧ Drawn0 w w' := by
 have H : ((num_Floor.f a0 a1).bind fun bt201 => (if bt201.2 = true then (if (wrap64 (bt201.1 * a1)) < a0 then (some (wrap64 (bt201.1 + 1), bt201.2)) else (some (bt201.1, bt201.2))) else (some (bt201.1, bt201.2)))) = some (r1, r2) := h
 clear h
 replace H := Option.bind_eq_some_iff.mp H
 obtain ⟨⟨t201, t202⟩, A30, H⟩ := H
 replace H : (if t202 = true then (if (wrap64 (t201 * a1)) < a0 then (some (wrap64 (t201 + 1), t202)) else (some (t201, t202))) else (some (t201, t202))) = some (r1, r2) := H
 have A3 := Aside0.mk A30
 clear A30
 by_cases c4 : t202 = true
 ·subst c4
  have H1 : (if (wrap64 (t201 * a1)) < a0 then (some (wrap64 (t201 + 1), true)) else (some (t201, true))) = some (r1, r2) := by rw [if_pos rfl] at H; exact H
  clear H
  have H := H1
  clear H1
  by_cases c5 : (wrap64 (t201 * a1)) < a0
  ·rw [if_pos c5] at H
   have c5b0 : decide ((wrap64 (t201 * a1)) < a0) = true := decide_eq_true c5
   clear c5
   simp only [Option.some.injEq, Prod.mk.injEq] at H
   obtain ⟨rfl, rfl⟩ := H
   go_enter Tryz.func183, Tryz.ntmps183
   go_wp2_with (first | ((with_reducible refine gate_callee (f := 190) rfl ?_); refine goesL_ (some 11) rfl rfl Tryz.func190 (by kernel_rfl) rfl #[.int .i64 a0, .int .i64 a1] rfl (by (try simp only [List.map_toArray, List.map_cons, List.map_nil]); first | done | rfl | (simp only [List.length_drop, List.length_take]; rfl)) ?_; (with_reducible refine (num_Floor.calls a0 a1 t201 true _ A3.out).mono ?_); rintro e w' ⟨rfl, ⟨nd, rfl⟩⟩; refine ⟨_, rfl, ?_⟩))
   go_ret2
   exact ⟨by first | rfl | (simp; done) | (simp [*]; done), by repeat (first | exact Drawn0.refl _ | apply Drawn0.step)⟩
  ·rw [if_neg c5] at H
   have c5b0 : decide ((wrap64 (t201 * a1)) < a0) = false := decide_eq_false c5
   clear c5
   simp only [Option.some.injEq, Prod.mk.injEq] at H
   obtain ⟨rfl, rfl⟩ := H
   go_enter Tryz.func183, Tryz.ntmps183
   go_wp2_with (first | ((with_reducible refine gate_callee (f := 190) rfl ?_); refine goesL_ (some 11) rfl rfl Tryz.func190 (by kernel_rfl) rfl #[.int .i64 a0, .int .i64 a1] rfl (by (try simp only [List.map_toArray, List.map_cons, List.map_nil]); first | done | rfl | (simp only [List.length_drop, List.length_take]; rfl)) ?_; (with_reducible refine (num_Floor.calls a0 a1 t201 true _ A3.out).mono ?_); rintro e w' ⟨rfl, ⟨nd, rfl⟩⟩; refine ⟨_, rfl, ?_⟩))
   go_ret2
   exact ⟨by first | rfl | (simp; done) | (simp [*]; done), by repeat (first | exact Drawn0.refl _ | apply Drawn0.step)⟩
 ·replace c4 := Bool.eq_false_iff.mpr c4
  subst c4
  have H1 : (some (t201, false)) = some (r1, r2) := by rw [if_neg (show ¬ (false = true) by decide)] at H; exact H
  clear H
  have H := H1
  clear H1
  simp only [Option.some.injEq, Prod.mk.injEq] at H
  obtain ⟨rfl, rfl⟩ := H
  go_enter Tryz.func183, Tryz.ntmps183
  go_wp2_with (first | ((with_reducible refine gate_callee (f := 190) rfl ?_); refine goesL_ (some 11) rfl rfl Tryz.func190 (by kernel_rfl) rfl #[.int .i64 a0, .int .i64 a1] rfl (by (try simp only [List.map_toArray, List.map_cons, List.map_nil]); first | done | rfl | (simp only [List.length_drop, List.length_take]; rfl)) ?_; (with_reducible refine (num_Floor.calls a0 a1 t201 false _ A3.out).mono ?_); rintro e w' ⟨rfl, ⟨nd, rfl⟩⟩; refine ⟨_, rfl, ?_⟩))
  go_ret2
  exact ⟨by first | rfl | (simp; done) | (simp [*]; done), by repeat (first | exact Drawn0.refl _ | apply Drawn0.step)⟩
def fix_sum.l0 : Nat → Int → Int → List (S212) → Int → Int → Option (Int)
 | 0, _, _, _, _, _ => none
 | k + 1, x0, x2, x11, x12, x13 => if x13 < x12 then (if 0 ≤ x13 then (if x13 < (x11.length : Int) then ((num_Ceil.f x2 ((rd_T212 x11 x13).f0)).bind fun bt205 => (fix_sum.l0 k (wrap64 (x0 + (wrap64 (((rd_T212 x11 x13).f1) * bt205.1)))) x2 x11 x12 (wrap64 (x13 + 1)))) else (none)) else (none)) else (some x0)
def fix_sum.f (k : Nat) (a0 : Int) (l1 : List (S212)) (a2 : Int) : Option (Int) := fix_sum.l0 k a0 a2 l1 (l1.length : Int) 0
set_option maxHeartbeats 8000000 in
set_option maxRecDepth 100000 in
theorem fix_sum.calls (k : Nat) (a0 : Int) (A1 : Option Addr) (c1 : Nat) (l1 : List (S212)) (a2 : Int) (r : Int) (w : World) (hr1 : Kd.C k212 w A1 l1.length l1) (hc1 : l1.length ≤ c1) (h : fix_sum.f k a0 l1 a2 = some r) :
  Calls Tryz.prog 166 #[.int .i64 a0, .slice A1 l1.length c1, .int .i64 a2] w fun e w' => e = .returned (.int .i64 r) ∧ Below w.heap.size w w' := by
 have hu212 := Tryz.underlying212
 have HR1 := Aside0.mk hr1
 have HC1 := Aside0.mk hc1
 clear hr1 hc1
 have HB := Aside0.mk (Below.refl w.heap.size w)
 have H : (fix_sum.l0 k a0 a2 l1 (l1.length : Int) 0) = some r := h
 clear h
 have H' := Aside0.mk H
 clear H
 go_enter Tryz.func166, Tryz.ntmps166
 go_wp2
 go_loopg [0, 13] k (fun kq v0 v13 w' => ∃ (x0_1 : Int) (x13_1 : Int), v0 = .int .i64 x0_1 ∧ v13 = .int .i64 x13_1 ∧ Aside0 (fix_sum.l0 kq x0_1 a2 l1 (l1.length : Int) x13_1 = some r) ∧ Aside0 (kq ≤ k) ∧ Aside0 (Below w.heap.size w w'))
 case atStart => exact ⟨(a0), (0), (by first | rfl | (simp; done) | (simp [*]; done)), (by first | rfl | (simp; done) | (simp [*]; done)), H', ⟨Nat.le_refl _⟩, ⟨by repeat (first | (with_reducible first | exact HB.out | apply below_alloc | apply pw_below_drewN | apply below_drew1) | exact HB.out)⟩⟩
 case round =>
  clear H'; (try clear c1); (try clear p2)
  obtain ⟨x0_1, x13_1, rfl, rfl, HA, HK1, HB⟩ := hrel
  cases gk with
  | zero => exact absurd HA.out (by simp [fix_sum.l0])
  | succ k1 =>
   have H := HA.out
   clear HA
   simp only [fix_sum.l0] at H
   by_cases c4 : x13_1 < (l1.length : Int)
   ·rw [if_pos c4] at H
    have c4b0 : decide (x13_1 < (l1.length : Int)) = true := decide_eq_true c4
    clear c4
    by_cases c5 : 0 ≤ x13_1
    ·rw [if_pos c5] at H
     have c5b0 : decide (0 ≤ x13_1) = true := decide_eq_true c5
     clear c5
     by_cases c6 : x13_1 < (l1.length : Int)
     ·rw [if_pos c6] at H
      have c6b0 : decide (x13_1 < (l1.length : Int)) = true := decide_eq_true c6
      clear c6
      replace H := Option.bind_eq_some_iff.mp H
      obtain ⟨⟨t205, t206⟩, A70, H⟩ := H
      replace H : (fix_sum.l0 k1 (wrap64 (x0_1 + (wrap64 (((rd_T212 l1 x13_1).f1) * t205)))) a2 l1 (l1.length : Int) (wrap64 (x13_1 + 1))) = some r := H
      have A7 := Aside0.mk A70
      clear A70
      have H' := Aside0.mk H
      clear H
      have p203 : 0 ≤ (x13_1 : Int) := of_decide_eq_true (by first | (with_reducible assumption) | assumption)
      have q203 : x13_1 < (l1.length : Int) := of_decide_eq_true (by first | (with_reducible assumption) | assumption)
      obtain ⟨ad203, e203, hx203_0, hx203_1⟩ := at_T212 HR1.out x13_1 p203 q203
      cases e203
      replace hx203_0 := (HB.out.cell (wbl w _ hx203_0)).trans hx203_0
      replace hx203_1 := (HB.out.cell (wbl w _ hx203_1)).trans hx203_1
      replace p203 := eq_true p203
      replace q203 := eq_true q203
      go_wp2_with (first | ((with_reducible refine gate_dst (N := 8) rfl ?_); refine box_event ?hg (N := 8) ?hd (cs := #[.int .i64 0, .int .i64 0]) (t := 212) ?hr ?_; (case hd => rfl); (case hg => rfl); (case hr => first | (go_simp; done) | (go_simp; rfl)); intro gb204 hg w8 hbox hb; have n0_ := Aside0.mk (below_step (by repeat (first | (with_reducible first | exact HB.out | apply below_alloc | apply pw_below_drewN | apply below_drew1) | exact HB.out)) hb); have n1_ := Aside0.mk (hbox); have n2_ := Aside0.mk ((by rw [hg]; exact (below_size (by repeat (first | (with_reducible first | exact HB.out | apply below_alloc | apply pw_below_drewN | apply below_drew1) | exact HB.out))) : w.heap.size ≤ gb204)); have n3_ := Aside0.mk ((by rw [hg]; exact (below_size (by repeat (first | (with_reducible first | exact HB.out | apply below_alloc | apply pw_below_drewN | apply below_drew1) | exact HB.out))) : w.heap.size ≤ gb204)); clear HB; have HB := n0_; have BK204 := n1_; have GW204 := n2_; have GE204 := n3_; clear n0_ n1_ n2_ n3_; clear hb hbox hg; have hcz9_0 : w8.cell? ⟨gb204, 0, none⟩ = some (.int .i64 0) := (blk_cell BK204.out 0).trans rfl; have hcz9_1 : w8.cell? ⟨gb204, 1, none⟩ = some (.int .i64 0) := (blk_cell BK204.out 1).trans rfl; have hfz9_0 := blk_frozen BK204.out 0; have hfz9_1 := blk_frozen BK204.out 1) | ((with_reducible refine gate_callee (f := 183) rfl ?_); refine goesL_ (some 21) rfl rfl Tryz.func183 (by kernel_rfl) rfl #[.int .i64 a2, .int .i64 ((rd_T212 l1 x13_1).f0)] rfl (by (try simp only [List.map_toArray, List.map_cons, List.map_nil]); first | done | rfl | (simp only [List.length_drop, List.length_take]; rfl)) ?_; (with_reducible refine (num_Ceil.calls a2 ((rd_T212 l1 x13_1).f0) t205 t206 _ A7.out).mono ?_); rintro e w' ⟨rfl, ⟨nd, rfl⟩⟩; refine ⟨_, rfl, ?_⟩))
      go_roundg k1
      case measure => have := HK1.out; omega
      case rel => exact ⟨(wrap64 (x0_1 + (wrap64 (((rd_T212 l1 x13_1).f1) * t205)))), (wrap64 (x13_1 + 1)), (by first | rfl | (simp; done) | (simp [*]; done)), (by first | rfl | (simp; done) | (simp [*]; done)), H', ⟨by have := HK1.out; omega⟩, ⟨by repeat (first | (with_reducible first | exact HB.out | apply below_alloc | apply pw_below_drewN | apply below_drew1 | refine below_set ?_ GE204.out) | exact HB.out)⟩⟩
     ·rw [if_neg c6] at H
      exact absurd H (by simp)
    ·rw [if_neg c5] at H
     exact absurd H (by simp)
   ·rw [if_neg c4] at H
    have c4b0 : decide (x13_1 < (l1.length : Int)) = false := decide_eq_false c4
    clear c4
    obtain rfl := Option.some.inj H
    go_wp2; go_ret
    exact ⟨by first | rfl | (simp [errW_none, errW_some] <;> rfl) | (simp [*, errW_none, errW_some] <;> rfl), by repeat (first | (with_reducible first | exact HB.out | apply below_alloc | apply pw_below_drewN | apply below_drew1) | exact HB.out)⟩
def again_Own.f (a0_0 : Int) (l0_1 : List (S46)) (a1 : Int) : Option (Int) := (again_is.f a0_0 l0_1 a1).bind fun t210 => (if t210 = true then (if 0 ≤ a1 then (if a1 < (l0_1.length : Int) then ((again_ticks.f a0_0 l0_1 ((rd_T46 l0_1 a1).f8)).bind fun t212 => (some t212)) else (none)) else (none)) else (some 0))
def again_Own.T3 : Bool × List (List Nat × List Nat) := (true, [([], []), ([], []), ([1], [1]), ([], []), ([2, 3], [2, 3]), ([4], [4]), ([5], [5]), ([0, 6], [0, 6]), ([7, 7, 0, 1, 2, 3, 4, 5, 6, 7], [7])])
def again_Own.B3 : List Nat := [0, 0, 2, 0, 14, 30, 62, 127, 255]
theorem again_Own.tab3 : rtab .any (opsOf Tryz.f67 3) = again_Own.T3 := by kernel_rfl
theorem again_Own.bits3 : waitsOk again_Own.T3.2 again_Own.B3 = true := by kernel_rfl
set_option maxHeartbeats 8000000 in
set_option maxRecDepth 100000 in
theorem again_Own.calls (a0_0 : Int) (A0_1 : Option Addr) (c0_1 : Nat) (l0_1 : List (S46)) (a1 : Int) (r : Int) (w : World) (hr0_1 : Kd.C k46 w A0_1 l0_1.length l0_1) (hc0_1 : l0_1.length ≤ c0_1) (h : again_Own.f a0_0 l0_1 a1 = some r) :
  Calls Tryz.prog 67 #[.agg #[.int .i64 a0_0, .slice A0_1 l0_1.length c0_1], .int .i64 a1] w fun e w' => e = .returned (.int .i64 r) ∧ Below w.heap.size w w' := by
 have hu24 := Tryz.underlying24
 have HR0_1 := Aside0.mk hr0_1
 have HC0_1 := Aside0.mk hc0_1
 clear hr0_1 hc0_1
 have HB := Aside0.mk (Below.refl w.heap.size w)
 have H : ((again_is.f a0_0 l0_1 a1).bind fun t210 => (if t210 = true then (if 0 ≤ a1 then (if a1 < (l0_1.length : Int) then ((again_ticks.f a0_0 l0_1 ((rd_T46 l0_1 a1).f8)).bind fun t212 => (some t212)) else (none)) else (none)) else (some 0))) = some r := h
 clear h
 replace H := Option.bind_eq_some_iff.mp H
 obtain ⟨t210, A30, H⟩ := H
 replace H : (if t210 = true then (if 0 ≤ a1 then (if a1 < (l0_1.length : Int) then ((again_ticks.f a0_0 l0_1 ((rd_T46 l0_1 a1).f8)).bind fun t212 => (some t212)) else (none)) else (none)) else (some 0)) = some r := H
 have A3 := Aside0.mk A30
 clear A30
 by_cases c4 : t210 = true
 ·subst c4
  have H1 : (if 0 ≤ a1 then (if a1 < (l0_1.length : Int) then ((again_ticks.f a0_0 l0_1 ((rd_T46 l0_1 a1).f8)).bind fun t212 => (some t212)) else (none)) else (none)) = some r := by rw [if_pos rfl] at H; exact H
  clear H
  have H := H1
  clear H1
  by_cases c5 : 0 ≤ a1
  ·rw [if_pos c5] at H
   have c5b0 : decide (0 ≤ a1) = true := decide_eq_true c5
   clear c5
   by_cases c6 : a1 < (l0_1.length : Int)
   ·rw [if_pos c6] at H
    have c6b0 : decide (a1 < (l0_1.length : Int)) = true := decide_eq_true c6
    clear c6
    replace H := Option.bind_eq_some_iff.mp H
    obtain ⟨t212, A70, H⟩ := H
    replace H : (some t212) = some r := H
    have A7 := Aside0.mk A70
    clear A70
    obtain rfl := Option.some.inj H
    go_enter Tryz.func67, Tryz.ntmps67
    try go_wp2_with (first | ((with_reducible refine gate_dst (N := 2) rfl ?_); refine box_event ?hg (N := 2) ?hd (cs := #[.int .i64 a0_0, .slice A0_1 l0_1.length c0_1]) (t := 24) ?hr ?_; (case hd => rfl); (case hg => rfl); (case hr => first | (go_simp; done) | (go_simp; rfl)); intro gb209 hg w8 hbox hb; have n0_ := Aside0.mk (below_step (by repeat (first | (with_reducible first | exact HB.out | apply below_alloc | apply pw_below_drewN | apply below_drew1) | exact HB.out)) hb); have n1_ := Aside0.mk (hbox); have n2_ := Aside0.mk ((by rw [hg]; exact (below_size (by repeat (first | (with_reducible first | exact HB.out | apply below_alloc | apply pw_below_drewN | apply below_drew1) | exact HB.out))) : w.heap.size ≤ gb209)); have n3_ := Aside0.mk ((by rw [hg]; exact (below_size (by repeat (first | (with_reducible first | exact HB.out | apply below_alloc | apply pw_below_drewN | apply below_drew1) | exact HB.out))) : w.heap.size ≤ gb209)); clear HB; have HB := n0_; have BK209 := n1_; have GW209 := n2_; have GE209 := n3_; clear n0_ n1_ n2_ n3_; clear hb hbox hg; have hcz9_0 : w8.cell? ⟨gb209, 0, none⟩ = some (.int .i64 a0_0) := (blk_cell BK209.out 0).trans rfl; have hcz9_1 : w8.cell? ⟨gb209, 1, none⟩ = some (.slice A0_1 l0_1.length c0_1) := (blk_cell BK209.out 1).trans rfl; have hfz9_0 := blk_frozen BK209.out 0; have hfz9_1 := blk_frozen BK209.out 1) | ((with_reducible refine gate_callee (f := 110) rfl ?_); refine goesL_ (some 7) rfl rfl Tryz.func110 (by kernel_rfl) rfl #[.agg #[.int .i64 a0_0, .slice A0_1 l0_1.length c0_1], .int .i64 a1] rfl (by (try simp only [List.map_toArray, List.map_cons, List.map_nil]); first | done | rfl | (simp only [List.length_drop, List.length_take]; rfl)) ?_; (with_reducible refine (again_is.calls a0_0 _ _ l0_1 a1 true _ ?side1 ?side2 A3.out).mono ?_); (case side1 => repeat (first | exact (Kd.C_below HR0_1.out HB.out) | (with_reducible refine Kd.C_alloc ?_ _) | (with_reducible refine Kd.C_drewN ?_ _) | (with_reducible refine Kd.C_drew ?_))); (case side2 => exact HC0_1.out); rintro e w10 ⟨rfl, hb⟩; refine ⟨_, rfl, ?_⟩; have n0_ := Aside0.mk (blk_below (g := gb209) (o := .cells #[.int .i64 a0_0, .slice A0_1 l0_1.length c0_1] 24 (0, 0)) (by (with_reducible repeat (first | refine blk_drewN ?_ _ | refine blk_drew ?_ | refine blk_alloc ?_ _)); exact BK209.out) hb); have n1_ := Aside0.mk (below_step (by repeat (first | (with_reducible first | exact HB.out | apply below_alloc | apply pw_below_drewN | apply below_drew1 | refine below_set ?_ GE209.out) | exact HB.out)) hb); clear BK209; clear HB; have BK209 := n0_; have HB := n1_; clear n0_ n1_; (try clear hb); (try clear hb2); (try clear hk); (try clear hi)))
    have n0_ := Aside0.mk (blk_drew BK209.out)
    have n1_ := Aside0.mk (below_drew1 HB.out)
    clear BK209; clear HB
    have BK209 := n0_
    have HB := n1_
    clear n0_ n1_
    have p211 : 0 ≤ (a1 : Int) := of_decide_eq_true (by first | (with_reducible assumption) | assumption)
    have q211 : a1 < (l0_1.length : Int) := of_decide_eq_true (by first | (with_reducible assumption) | assumption)
    obtain ⟨ad211, A211_6, c211_6, e211, hx211_0, hx211_1, hx211_2, hx211_3, hx211_4, hx211_5, hx211_6, hx211_7, hx211_8, hl211_6, hi211_6⟩ := at_T46 HR0_1.out a1 p211 q211
    have hw211_8 := hx211_8
    have hw211_7 := hx211_7
    have hw211_6 := hx211_6
    have hw211_5 := hx211_5
    have hw211_4 := hx211_4
    have hw211_3 := hx211_3
    have hw211_2 := hx211_2
    have hw211_1 := hx211_1
    have hw211_0 := hx211_0
    cases e211
    replace hx211_0 := (HB.out.cell (wbl w _ hx211_0)).trans hx211_0
    replace hx211_1 := (HB.out.cell (wbl w _ hx211_1)).trans hx211_1
    replace hx211_2 := (HB.out.cell (wbl w _ hx211_2)).trans hx211_2
    replace hx211_3 := (HB.out.cell (wbl w _ hx211_3)).trans hx211_3
    replace hx211_4 := (HB.out.cell (wbl w _ hx211_4)).trans hx211_4
    replace hx211_5 := (HB.out.cell (wbl w _ hx211_5)).trans hx211_5
    replace hx211_6 := (HB.out.cell (wbl w _ hx211_6)).trans hx211_6
    replace hx211_7 := (HB.out.cell (wbl w _ hx211_7)).trans hx211_7
    replace hx211_8 := (HB.out.cell (wbl w _ hx211_8)).trans hx211_8
    have HR211_6 := Aside0.mk hi211_6
    have HC211_6 := Aside0.mk hl211_6
    clear hi211_6 hl211_6
    replace p211 := eq_true p211
    replace q211 := eq_true q211
    refine start_ (n := 9) (S := fun w' => w'.cell? ⟨gb209, 0, none⟩ = some (.int .i64 a0_0) ∧ w'.cell? ⟨gb209, 1, none⟩ = some (.slice (some ad211) l0_1.length c0_1) ∧ w'.cell? (ad211.add ((a1).toNat * 9)) = some (.string ((rd_T46 l0_1 a1).f0)) ∧ w'.cell? ⟨(ad211.add ((a1).toNat * 9)).block, (ad211.add ((a1).toNat * 9)).off + 1, none⟩ = some (.int .i64 ((rd_T46 l0_1 a1).f1)) ∧ w'.cell? ⟨(ad211.add ((a1).toNat * 9)).block, (ad211.add ((a1).toNat * 9)).off + 2, none⟩ = some (.int .i64 ((rd_T46 l0_1 a1).f2)) ∧ w'.cell? ⟨(ad211.add ((a1).toNat * 9)).block, (ad211.add ((a1).toNat * 9)).off + 3, none⟩ = some (.int .i64 ((rd_T46 l0_1 a1).f3)) ∧ w'.cell? ⟨(ad211.add ((a1).toNat * 9)).block, (ad211.add ((a1).toNat * 9)).off + 4, none⟩ = some (.int .i64 ((rd_T46 l0_1 a1).f4)) ∧ w'.cell? ⟨(ad211.add ((a1).toNat * 9)).block, (ad211.add ((a1).toNat * 9)).off + 5, none⟩ = some (.int .i64 ((rd_T46 l0_1 a1).f5)) ∧ w'.cell? ⟨(ad211.add ((a1).toNat * 9)).block, (ad211.add ((a1).toNat * 9)).off + 6, none⟩ = some (.slice A211_6 ((rd_T46 l0_1 a1).f6).length c211_6) ∧ w'.cell? ⟨(ad211.add ((a1).toNat * 9)).block, (ad211.add ((a1).toNat * 9)).off + 7, none⟩ = some (.int .u64 ((rd_T46 l0_1 a1).f7)) ∧ w'.cell? ⟨(ad211.add ((a1).toNat * 9)).block, (ad211.add ((a1).toNat * 9)).off + 8, none⟩ = some (.int .u64 ((rd_T46 l0_1 a1).f8))) (ds := []) #[false, false, false, false, false, false, false, false, false] (by kernel_rfl) rfl rfl ⟨(blk_cell BK209.out 0).trans rfl, (blk_cell BK209.out 1).trans rfl, ((HB.out.cell (wbl w _ hw211_0)).trans hw211_0), ((HB.out.cell (wbl w _ hw211_1)).trans hw211_1), ((HB.out.cell (wbl w _ hw211_2)).trans hw211_2), ((HB.out.cell (wbl w _ hw211_3)).trans hw211_3), ((HB.out.cell (wbl w _ hw211_4)).trans hw211_4), ((HB.out.cell (wbl w _ hw211_5)).trans hw211_5), ((HB.out.cell (wbl w _ hw211_6)).trans hw211_6), ((HB.out.cell (wbl w _ hw211_7)).trans hw211_7), ((HB.out.cell (wbl w _ hw211_8)).trans hw211_8)⟩ (fun hHeld => ?_); refine with_tabW again_Own.tab3 again_Own.bits3 (fun HT_ HW_ => ?_)
    generalize w10.drew = w11 at BK209 HB HR211_6 hx211_0 hx211_1 hx211_2 hx211_3 hx211_4 hx211_5 hx211_6 hx211_7 hx211_8 hHeld ⊢
    refine pure_ (i := 1) (N := some 10) (v := ?_) (a' := ?_) #[false, true, false, false, false, false, false, false, false] rfl rfl (any_of HT_.out (by kernel_rfl)) (fun _ _ _ h => h) (Or.inl ⟨by rfl, ?_⟩) ?_ ?_
    rotate_left
    ·intro w'
     go_simp
     with_reducible rfl
    rotate_left
    ·simp only [Act.put, List.setIfInBounds_toArray, List.set_cons_zero, List.set_cons_succ, i64_w, i32_w]
     rfl
    refine pure_ (i := 3) (N := some 12) (v := ?_) (a' := ?_) #[false, true, false, true, false, false, false, false, false] rfl rfl (any_of HT_.out (by kernel_rfl)) (fun _ _ _ h => h) (Or.inl ⟨by rfl, ?_⟩) ?_ ?_
    rotate_left
    ·intro w'
     go_simp
     with_reducible rfl
    rotate_left
    ·simp only [Act.put, List.setIfInBounds_toArray, List.set_cons_zero, List.set_cons_succ, i64_w, i32_w]
     rfl
    refine take_ (i := 0) (N := some 9) (v := ?_) (a' := ?_) #[true, true, false, true, false, false, false, false, false] rfl rfl (take_ofW HT_.out HW_.out (by kernel_rfl)) (fun _ _ _ h => h) (Or.inl ⟨by rfl, ?_⟩) hHeld ?_ ?_
    rotate_left
    ·rintro w' ⟨s0, s1, s2, s3, s4, s5, s6, s7, s8, s9, s10⟩
     go_simp
     with_reducible rfl
    rotate_left
    ·simp only [Act.put, List.setIfInBounds_toArray, List.set_cons_zero, List.set_cons_succ, i64_w, i32_w]
     rfl
    refine take_ (i := 2) (N := some 11) (v := ?_) (a' := ?_) #[true, true, true, true, false, false, false, false, false] rfl rfl (take_ofW HT_.out HW_.out (by kernel_rfl)) (fun _ _ _ h => h) (Or.inl ⟨by rfl, ?_⟩) hHeld ?_ ?_
    rotate_left
    ·rintro w' ⟨s0, s1, s2, s3, s4, s5, s6, s7, s8, s9, s10⟩
     go_simp
     with_reducible rfl
    rotate_left
    ·simp only [Act.put, List.setIfInBounds_toArray, List.set_cons_zero, List.set_cons_succ, i64_w, i32_w]
     rfl
    refine pure_ (i := 4) (N := some 13) (v := ?_) (a' := ?_) #[true, true, true, true, true, false, false, false, false] rfl rfl (any_of HT_.out (by kernel_rfl)) (fun _ _ _ h => h) (Or.inl ⟨by rfl, ?_⟩) ?_ ?_
    rotate_left
    ·intro w'
     go_simp
     with_reducible rfl
    rotate_left
    ·simp only [Act.put, List.setIfInBounds_toArray, List.set_cons_zero, List.set_cons_succ, i64_w, i32_w]
     rfl
    refine pure_ (i := 5) (N := some 14) (v := ?_) (a' := ?_) #[true, true, true, true, true, true, false, false, false] rfl rfl (any_of HT_.out (by kernel_rfl)) (fun _ _ _ h => h) (Or.inl ⟨by rfl, ?_⟩) ?_ ?_
    rotate_left
    ·intro w'
     go_simp
     with_reducible rfl
    rotate_left
    ·simp only [Act.put, List.setIfInBounds_toArray, List.set_cons_zero, List.set_cons_succ, i64_w, i32_w]
     rfl
    refine take_ (i := 6) (N := some 15) (v := ?_) (a' := ?_) #[true, true, true, true, true, true, true, false, false] rfl rfl (take_ofW HT_.out HW_.out (by kernel_rfl)) (fun _ _ _ h => h) (Or.inl ⟨by rfl, ?_⟩) hHeld ?_ ?_
    rotate_left
    ·rintro w' ⟨s0, s1, s2, s3, s4, s5, s6, s7, s8, s9, s10⟩
     go_simp
     with_reducible rfl
    rotate_left
    ·simp only [Act.put, List.setIfInBounds_toArray, List.set_cons_zero, List.set_cons_succ, i64_w, i32_w]
     rfl
    refine one_ (i := 7) (N := some 16) #[true, true, true, true, true, true, true, true, false] rfl rfl (one_of HT_.out (by kernel_rfl)) (by decide) (fun K hK => ?_)
    refine goes_ Tryz.func111 (by kernel_rfl) rfl #[.agg #[.int .i64 a0_0, .slice (some ad211) l0_1.length c0_1], .int .u64 ((rd_T46 l0_1 a1).f8)] (by rfl) rfl rfl (by (try simp only [List.map_toArray, List.map_cons, List.map_nil]); first | done | rfl | (simp only [List.length_drop, List.length_take]; rfl)) ?_
    with_reducible refine (again_ticks.calls a0_0 _ _ l0_1 ((rd_T46 l0_1 a1).f8) t212 _ ?side1 ?side2 A7.out).mono ?_
    (case side1 => repeat (first | exact (Kd.C_below HR0_1.out HB.out) | (with_reducible refine Kd.C_alloc ?_ _) | (with_reducible refine Kd.C_drewN ?_ _) | (with_reducible refine Kd.C_drew ?_)))
    (case side2 => exact HC0_1.out)
    rintro e w12 ⟨rfl, hb⟩
    refine ⟨_, rfl, ?_⟩
    have n0_ := Aside0.mk (blk_below (g := gb209) (o := .cells #[.int .i64 a0_0, .slice (some ad211) l0_1.length c0_1] 24 (0, 0)) (by (with_reducible repeat (first | refine blk_drewN ?_ _ | refine blk_drew ?_ | refine blk_alloc ?_ _)); exact BK209.out) hb)
    have n1_ := Aside0.mk (below_step (by repeat (first | (with_reducible first | exact HB.out | apply below_alloc | apply pw_below_drewN | apply below_drew1 | refine below_set ?_ GE209.out) | exact HB.out)) hb)
    clear BK209; clear HB
    have BK209 := n0_
    have HB := n1_
    clear n0_ n1_
    (try clear hb)
    (try clear hb2)
    (try clear hk)
    (try clear hi)
    refine hK.out _ _ ⟨(blk_cell BK209.out 0).trans rfl, (blk_cell BK209.out 1).trans rfl, ((HB.out.cell (wbl w _ hw211_0)).trans hw211_0), ((HB.out.cell (wbl w _ hw211_1)).trans hw211_1), ((HB.out.cell (wbl w _ hw211_2)).trans hw211_2), ((HB.out.cell (wbl w _ hw211_3)).trans hw211_3), ((HB.out.cell (wbl w _ hw211_4)).trans hw211_4), ((HB.out.cell (wbl w _ hw211_5)).trans hw211_5), ((HB.out.cell (wbl w _ hw211_6)).trans hw211_6), ((HB.out.cell (wbl w _ hw211_7)).trans hw211_7), ((HB.out.cell (wbl w _ hw211_8)).trans hw211_8)⟩ (fun hHeld => ?_)
    clear hK K
    refine norm_ (a' := ?_) ?_ ?_
    rotate_left
    ·show Act.put _ (some 16) _ = _
     simp only [Act.put, List.setIfInBounds_toArray, List.set_cons_zero, List.set_cons_succ, i64_w, i32_w]
     rfl
    refine pure_ (i := 8) (N := some 4) (v := ?_) (a' := ?_) #[true, true, true, true, true, true, true, true, true] rfl rfl (any_of HT_.out (by kernel_rfl)) (fun _ _ _ h => h) (Or.inl ⟨by rfl, ?_⟩) ?_ ?_
    rotate_left
    ·intro w'
     go_simp
     with_reducible rfl
    rotate_left
    ·simp only [Act.put, List.setIfInBounds_toArray, List.set_cons_zero, List.set_cons_succ, i64_w, i32_w]
     rfl
    refine done_ (done_of HT_.out (by kernel_rfl)) ?_
    try go_wp2
    go_ret
    exact ⟨by first | rfl | (simp [errW_none, errW_some] <;> rfl) | (simp [*, errW_none, errW_some] <;> rfl), by repeat (first | (with_reducible first | exact HB.out | apply below_alloc | apply pw_below_drewN | apply below_drew1 | refine below_set ?_ GE209.out) | exact HB.out)⟩
   ·rw [if_neg c6] at H
    exact absurd H (by simp)
  ·rw [if_neg c5] at H
   exact absurd H (by simp)
 ·replace c4 := Bool.eq_false_iff.mpr c4
  subst c4
  have H1 : (some 0) = some r := by rw [if_neg (show ¬ (false = true) by decide)] at H; exact H
  clear H
  have H := H1
  clear H1
  obtain rfl := Option.some.inj H
  go_enter Tryz.func67, Tryz.ntmps67
  go_wp2_with (first | ((with_reducible refine gate_dst (N := 2) rfl ?_); refine box_event ?hg (N := 2) ?hd (cs := #[.int .i64 a0_0, .slice A0_1 l0_1.length c0_1]) (t := 24) ?hr ?_; (case hd => rfl); (case hg => rfl); (case hr => first | (go_simp; done) | (go_simp; rfl)); intro gb209 hg w13 hbox hb; have n0_ := Aside0.mk (below_step (by repeat (first | (with_reducible first | exact HB.out | apply below_alloc | apply pw_below_drewN | apply below_drew1) | exact HB.out)) hb); have n1_ := Aside0.mk (hbox); have n2_ := Aside0.mk ((by rw [hg]; exact (below_size (by repeat (first | (with_reducible first | exact HB.out | apply below_alloc | apply pw_below_drewN | apply below_drew1) | exact HB.out))) : w.heap.size ≤ gb209)); have n3_ := Aside0.mk ((by rw [hg]; exact (below_size (by repeat (first | (with_reducible first | exact HB.out | apply below_alloc | apply pw_below_drewN | apply below_drew1) | exact HB.out))) : w.heap.size ≤ gb209)); clear HB; have HB := n0_; have BK209 := n1_; have GW209 := n2_; have GE209 := n3_; clear n0_ n1_ n2_ n3_; clear hb hbox hg; have hcz14_0 : w13.cell? ⟨gb209, 0, none⟩ = some (.int .i64 a0_0) := (blk_cell BK209.out 0).trans rfl; have hcz14_1 : w13.cell? ⟨gb209, 1, none⟩ = some (.slice A0_1 l0_1.length c0_1) := (blk_cell BK209.out 1).trans rfl; have hfz14_0 := blk_frozen BK209.out 0; have hfz14_1 := blk_frozen BK209.out 1) | ((with_reducible refine gate_callee (f := 110) rfl ?_); refine goesL_ (some 7) rfl rfl Tryz.func110 (by kernel_rfl) rfl #[.agg #[.int .i64 a0_0, .slice A0_1 l0_1.length c0_1], .int .i64 a1] rfl (by (try simp only [List.map_toArray, List.map_cons, List.map_nil]); first | done | rfl | (simp only [List.length_drop, List.length_take]; rfl)) ?_; (with_reducible refine (again_is.calls a0_0 _ _ l0_1 a1 false _ ?side1 ?side2 A3.out).mono ?_); (case side1 => repeat (first | exact (Kd.C_below HR0_1.out HB.out) | (with_reducible refine Kd.C_alloc ?_ _) | (with_reducible refine Kd.C_drewN ?_ _) | (with_reducible refine Kd.C_drew ?_))); (case side2 => exact HC0_1.out); rintro e w15 ⟨rfl, hb⟩; refine ⟨_, rfl, ?_⟩; have n0_ := Aside0.mk (blk_below (g := gb209) (o := .cells #[.int .i64 a0_0, .slice A0_1 l0_1.length c0_1] 24 (0, 0)) (by (with_reducible repeat (first | refine blk_drewN ?_ _ | refine blk_drew ?_ | refine blk_alloc ?_ _)); exact BK209.out) hb); have n1_ := Aside0.mk (below_step (by repeat (first | (with_reducible first | exact HB.out | apply below_alloc | apply pw_below_drewN | apply below_drew1 | refine below_set ?_ GE209.out) | exact HB.out)) hb); clear BK209; clear HB; have BK209 := n0_; have HB := n1_; clear n0_ n1_; (try clear hb); (try clear hb2); (try clear hk); (try clear hi)))
  go_ret
  exact ⟨by first | rfl | (simp [errW_none, errW_some] <;> rfl) | (simp [*, errW_none, errW_some] <;> rfl), by repeat (first | (with_reducible first | exact HB.out | apply below_alloc | apply pw_below_drewN | apply below_drew1 | refine below_set ?_ GE209.out) | exact HB.out)⟩
end Go.Proofs.YtdgfjpbjiccllaaGreatDoor.PTopLoads
namespace Go.Proofs.YtdgfjpbjiccllaaGreatDoor.A
open Go.RowKit
open YtdgfjpbjiccllaaGreatDoorW.PrintWords YtdgfjpbjiccllaaGreatDoorW.PrintLast YtdgfjpbjiccllaaGreatDoorW.PrintMore
open PTopLoads
set_option maxRecDepth 100000
def Evt {α : Type} (g : Nat → Option α) (r : α) : Prop := ∃ K, ∀ k, K ≤ k → g k = some r
theorem Evt.now {α : Type} {g : Nat → Option α} {r : α} (h : ∀ k, g k = some r) : Evt g r := ⟨0, fun k _ => h k⟩
theorem Evt.step {α : Type} {g : Nat → Option α} {r : α} (h : Evt (fun k => g (k + 1)) r) : Evt g r := by
 obtain ⟨K, h⟩ := h
 refine ⟨K + 1, fun k hk => ?_⟩
 obtain ⟨k, rfl⟩ : ∃ m, k = m + 1 := ⟨k - 1, by omega⟩
 exact h k (by omega)
theorem Evt.bind {α β : Type} {g : Nat → Option α} {r : α} {h : Nat → α → Option β} {s : β} (h1 : Evt g r) (h2 : Evt (fun k => h k r) s) : Evt (fun k => (g k).bind fun t => h k t) s := by
 obtain ⟨K1, h1⟩ := h1
 obtain ⟨K2, h2⟩ := h2
 exact ⟨K1 + K2, fun k hk => by simp only [h1 k (by omega), Option.bind_some]; exact h2 k (by omega)⟩
theorem Evt.congr {α : Type} {g g' : Nat → Option α} {r : α} (h : Evt g r) (e : ∀ k, g' k = g k) : Evt g' r := by
 obtain ⟨K, h⟩ := h
 exact ⟨K, fun k hk => by rw [e]; exact h k hk⟩
theorem wrap_up {i : Int} (h0 : 0 ≤ i) (h : i < 9223372036854775807) : wrap64 (i + 1) = i + 1 := by
 unfold wrap64
 omega
def Tot {α : Type} (g : Nat → Option α) : Prop := ∃ r, Evt g r
theorem Tot.now {α : Type} (r : α) : Tot (fun _ => some r) := ⟨r, Evt.now fun _ => rfl⟩
theorem Tot.step {α : Type} {g : Nat → Option α} (h : Tot (fun k => g (k + 1))) : Tot g := let ⟨r, h⟩ := h; ⟨r, h.step⟩
theorem Tot.bind {α β : Type} {g : Nat → Option α} {h : Nat → α → Option β} (h1 : Tot g) (h2 : ∀ r, Tot (fun k => h k r)) : Tot (fun k => (g k).bind fun t => h k t) := by
 obtain ⟨r, h1⟩ := h1
 obtain ⟨s, h2⟩ := h2 r
 exact ⟨s, h1.bind h2⟩
theorem Tot.ite {α : Type} {c : Prop} [Decidable c] {g g' : Nat → Option α} (h1 : c → Tot g) (h2 : ¬ c → Tot g') : Tot (fun k => if c then g k else g' k) := by
 by_cases h : c
 ·simp only [if_pos h]; exact h1 h
 ·simp only [if_neg h]; exact h2 h
theorem Tot.no {α : Type} {c : Prop} (h : ¬ c) (h' : c) : Tot (fun _ => (none : Option α)) := absurd h' h
theorem word_from (s : ByteArray) (ws : List ByteArray) (hw : (ws.length : Int) < 9223372036854775807) (d : Nat) : ∀ i : Nat, i + d = ws.length → Tot (fun k => taskmasterref4_word.l0 k s ws i) := by
 induction d with
 | zero =>
  intro i hi
  apply Tot.step
  simp only [taskmasterref4_word.l0]
  exact Tot.ite (fun h => by omega) fun _ => Tot.now _
 | succ d ih =>
  intro i hi
  have := ih (i + 1) (by omega)
  apply Tot.step
  simp only [taskmasterref4_word.l0]
  refine Tot.ite (fun h => Tot.ite (fun _ => Tot.ite (fun _ => Tot.now _) fun _ => ?_) fun h => by omega) fun _ => Tot.now _
  rw [wrap_up (by omega) (by omega)]
  exact this
theorem word_tot (s : ByteArray) : Tot (fun k => taskmasterref4_word.f k s) := by
 unfold taskmasterref4_word.f taskmasterref4_Words.f
 simp only [Option.bind_some]
 exact word_from s _ (by simp) 10 0 (by simp)
def SmallI (l : List S57) : Prop := (l.length : Int) ≤ 9223372036854775807 ∧ ∀ x ∈ l, (x.f1.length : Int) ≤ 9223372036854775807
theorem rd57 {l : List S57} {i : Nat} (h : i < l.length) : rd_T57 l i = l[i] := by simp [rd_T57, List.getD_eq_getElem?_getD, h]
theorem inner_tot {l : List S57} (hs : SmallI l) (i : Nat) (hi : i < l.length) (hn : Tot (fun k => taskmastertop_long.l0 k l ((i + 1 : Nat) : Int))) (d : Nat) : ∀ (j : Nat), j + d = (l[i]).f1.length → Tot (fun k => taskmastertop_long.l1 k l i j) := by
 have hx := hs.2 l[i] (List.getElem_mem hi)
 have hl := hs.1
 induction d with
 | zero =>
  intro j hj
  apply Tot.step
  simp only [taskmastertop_long.l1, rd57 hi]
  refine Tot.ite (fun _ => Tot.ite (fun _ => Tot.ite (fun h => by omega) fun _ => ?_) fun h => by omega) fun h => by omega
  rw [wrap_up (by omega) (by omega)]
  exact hn
 | succ d ih =>
  intro j hj
  apply Tot.step
  simp only [taskmastertop_long.l1, rd57 hi]
  refine Tot.ite (fun _ => Tot.ite (fun _ => Tot.ite (fun _ => Tot.ite (fun _ => Tot.ite (fun _ => Tot.now _) fun _ => ?_) fun h => by omega) fun h => by omega) fun h => by omega) fun h => by omega
  rw [wrap_up (by omega) (by omega)]
  exact ih (j + 1) (by omega)
theorem outer_tot {l : List S57} (hs : SmallI l) (d : Nat) : ∀ (i : Nat), i + d = l.length → Tot (fun k => taskmastertop_long.l0 k l i) := by
 have hl := hs.1
 have out : ∀ i : Int, Tot (fun k => taskmastertop_long.j1 k l i false) := fun i => by
  apply Tot.step
  simp only [taskmastertop_long.j1]
  exact Tot.ite (fun h => by simp at h) fun _ => Tot.now _
 induction d with
 | zero =>
  intro i hi
  apply Tot.step
  simp only [taskmastertop_long.l0]
  exact Tot.ite (fun h => by omega) fun _ => out _
 | succ d ih =>
  intro i hi
  apply Tot.step
  simp only [taskmastertop_long.l0]
  refine Tot.ite (fun _ => ?_) fun _ => out _
  cases decide ((i : Int) < 300) with
  | false => exact out _
  | true =>
   apply Tot.step
   simp only [taskmastertop_long.j1, rd57 (show i < l.length by omega)]
   exact Tot.ite (fun _ => Tot.ite (fun _ => Tot.ite (fun _ => Tot.ite (fun _ => Tot.now _) fun _ => inner_tot hs i (by omega) (ih (i + 1) (by omega)) _ 0 (Nat.zero_add _)) fun h => by omega) fun h => by omega) fun h => by simp at h
theorem long_tot {l : List S57} (hs : SmallI l) : Tot (fun k => taskmastertop_long.f k l) := outer_tot hs l.length 0 (Nat.zero_add _)
theorem long_inv (l : List S57) (hl : (l.length : Int) ≤ 9223372036854775807) : ∀ (k : Nat), (∀ i : Nat, taskmastertop_long.l0 k l i = some false → l.length ≤ 250 ∧ ∀ j (h : j < l.length), i ≤ j → (l[j]).f1.length ≤ 20) ∧
  (∀ (i : Nat) (b : Bool), (b = true → i < l.length) → taskmastertop_long.j1 k l i b = some false → l.length ≤ 250 ∧ (b = true → ∀ j (h : j < l.length), i ≤ j → (l[j]).f1.length ≤ 20)) ∧
  (∀ (i : Nat) (j : Int), i < l.length → taskmastertop_long.l1 k l i j = some false → l.length ≤ 250 ∧ ∀ j (h : j < l.length), i < j → (l[j]).f1.length ≤ 20)
 | 0 => ⟨fun i h => by simp [taskmastertop_long.l0] at h, fun i b _ h => by simp [taskmastertop_long.j1] at h, fun i j _ h => by simp [taskmastertop_long.l1] at h⟩
 | k + 1 => by
  obtain ⟨ih0, ih1, ih2⟩ := long_inv l hl k
  refine ⟨fun i h => ?_, fun i b hb h => ?_, fun i j hi h => ?_⟩
  ·simp only [taskmastertop_long.l0] at h
   split at h
   ·rename_i hlt
    obtain ⟨h1, h2⟩ := ih1 i _ (fun _ => by omega) h
    exact ⟨h1, h2 (by simp; omega)⟩
   ·rename_i hge
    obtain ⟨h1, _⟩ := ih1 i _ (fun e => by simp at e) h
    exact ⟨h1, fun j hj hij => by omega⟩
  ·simp only [taskmastertop_long.j1] at h
   cases b with
   | false =>
    rw [if_neg (by simp)] at h
    simp at h
    exact ⟨by omega, fun e => by simp at e⟩
   | true =>
    have hi := hb rfl
    rw [if_pos rfl, if_pos (by omega), if_pos (by omega), rd57 hi] at h
    split at h
    ·simp at h
    ·rename_i hle
     obtain ⟨h1, h2⟩ := ih2 i 0 hi h
     refine ⟨h1, fun _ j hj hij => ?_⟩
     by_cases e : j = i
     ·subst e; omega
     ·exact h2 j hj (by omega)
  ·simp only [taskmastertop_long.l1] at h
   rw [if_pos (by omega), if_pos (by omega)] at h
   split at h
   ·split at h
    ·split at h
     ·simp at h
     ·exact ih2 i _ hi h
    ·simp at h
   ·rw [wrap_up (by omega) (by omega)] at h
    obtain ⟨h1, h2⟩ := ih0 (i + 1) h
    exact ⟨h1, fun j hj hij => h2 j hj hij⟩
theorem long_no {l : List S57} (hl : (l.length : Int) ≤ 9223372036854775807) {k : Nat} (h : taskmastertop_long.f k l = some false) : l.length ≤ 250 ∧ ∀ x ∈ l, x.f1.length ≤ 20 := by
 obtain ⟨h1, h2⟩ := (long_inv l hl k).1 0 h
 refine ⟨h1, fun x hx => ?_⟩
 obtain ⟨j, hj, rfl⟩ := List.getElem_of_mem hx
 exact h2 j hj (Nat.zero_le _)
end Go.Proofs.YtdgfjpbjiccllaaGreatDoor.A
namespace Go.Proofs.YtdgfjpbjiccllaaGreatDoor.Q
open Go.RowKit
open YtdgfjpbjiccllaaGreatDoorW.PrintWords YtdgfjpbjiccllaaGreatDoorW.PrintLast YtdgfjpbjiccllaaGreatDoorW.PrintMore
open PTopLoads
set_option maxRecDepth 100000
theorem wrap_up {i : Int} (h0 : 0 ≤ i) (h : i < 9223372036854775807) : wrap64 (i + 1) = i + 1 := by
 unfold wrap64
 omega
def pend (L : List S142) (i : Int) : Bool := decide (0 ≤ i) && (L[i.toNat]?.map S142.f0).getD false
def rank (T : List S46) (L : List S142) (i : Int) : Int := if pend L i then (if (rd_T46 T i).f3 = 2 ∧ (rd_T142 L i).f1 = true then (rd_T46 T i).f5 else i) else -1
theorem pend_in {L : List S142} {i : Int} (h : pend L i = true) : 0 ≤ i ∧ i < L.length := by
 simp only [pend, Bool.and_eq_true, decide_eq_true_eq] at h
 refine ⟨h.1, ?_⟩
 by_cases hl : i.toNat < L.length
 ·omega
 ·rw [List.getElem?_eq_none (by omega)] at h
  simp at h
theorem pend_rd {L : List S142} {i : Int} (h0 : 0 ≤ i) (h1 : i < L.length) : (rd_T142 L i).f0 = pend L i := by
 have hl : i.toNat < L.length := by omega
 simp [pend, rd_T142, h0, hl, List.getD]
theorem pend_out {L : List S142} {i : Int} (h : i < 0 ∨ (L.length : Int) ≤ i) : pend L i = false := by
 cases hp : pend L i with
 | false => rfl
 | true => have := pend_in hp; omega
def oldStep (r : Int × Bool) (x : S142) : Int × Bool := if x.f0 && (!r.2 || decide (x.f3 < r.1)) then (x.f3, true) else r
def old (L : List S142) : Int × Bool := L.foldl oldStep (0, false)
theorem old_snoc (L : List S142) (k : Nat) (h : k < L.length) : old (L.take (k + 1)) = oldStep (old (L.take k)) (rd_T142 L k) := by
 unfold old
 rw [List.take_succ_eq_append_getElem h, List.foldl_append]
 simp [rd_T142, h, List.getD]
def held (T : List S46) (L : List S142) (last tick : Int) : Bool :=
 pend L last && (rd_T142 L last).f1 &&
  (if (rd_T46 T last).f3 = 0 then (rd_T142 L last).f2
   else if (rd_T46 T last).f3 = 1 then (old (L.take last.toNat)).2 && decide (tick < wrap64 ((rd_T46 T last).f4 + (old (L.take last.toNat)).1)) else false)
def bestStep (T : List S46) (L : List S142) (b i : Int) : Int := if pend L i && (decide (b = -1) || decide (rank T L i ≤ rank T L b)) then i else b
def best (T : List S46) (L : List S142) (n : Nat) : Int := ((List.range n).map (fun j : Nat => (j : Int))).foldl (bestStep T L) (-1)
def choose (T : List S46) (L : List S142) (last tick : Int) : Int := if held T L last tick then last else best T L L.length
theorem best_succ (T : List S46) (L : List S142) (n : Nat) : best T L (n + 1) = bestStep T L (best T L n) n := by
 unfold best
 rw [List.range_succ, List.map_append, List.foldl_append]
 rfl
theorem best_spec (T : List S46) (L : List S142) (n : Nat) (hn : n ≤ L.length) :
  (best T L n = -1 ∧ ∀ j : Nat, j < n → pend L j = false) ∨
  (pend L (best T L n) = true ∧ ∀ j : Nat, j < n → pend L j = true → rank T L (best T L n) ≤ rank T L j) := by
 induction n with
 | zero => exact .inl ⟨rfl, fun j h => by omega⟩
 | succ n ih =>
  rw [best_succ]
  unfold bestStep
  cases hp : pend L n with
  | false =>
   simp only [Bool.false_and, Bool.false_eq_true, if_false]
   rcases ih (by omega) with ⟨h1, h2⟩ | ⟨h1, h2⟩
   ·refine .inl ⟨h1, fun j hj => ?_⟩
    by_cases e : j = n
    ·rw [e]; exact hp
    ·exact h2 j (by omega)
   ·refine .inr ⟨h1, fun j hj hpj => ?_⟩
    by_cases e : j = n
    ·rw [e, hp] at hpj; cases hpj
    ·exact h2 j (by omega) hpj
  | true =>
   rcases ih (by omega) with ⟨h1, h2⟩ | ⟨h1, h2⟩
   ·simp only [h1, decide_true, Bool.true_or, Bool.and_self, if_true]
    refine .inr ⟨hp, fun j hj hpj => ?_⟩
    by_cases e : j = n
    ·rw [e]; exact Int.le_refl _
    ·rw [h2 j (by omega)] at hpj; cases hpj
   ·have hne : best T L n ≠ -1 := by
     intro e
     rw [e, pend_out (by omega)] at h1
     cases h1
    by_cases hr : rank T L n ≤ rank T L (best T L n)
    ·simp only [hr, decide_true, Bool.or_true, Bool.and_self, if_true]
     refine .inr ⟨hp, fun j hj hpj => ?_⟩
     by_cases e : j = n
     ·rw [e]; exact Int.le_refl _
     ·exact Int.le_trans hr (h2 j (by omega) hpj)
    ·simp only [hne, hr, decide_false, Bool.or_self, Bool.and_false, Bool.false_eq_true, if_false]
     refine .inr ⟨h1, fun j hj hpj => ?_⟩
     by_cases e : j = n
     ·rw [e]; omega
     ·exact h2 j (by omega) hpj
theorem held_pend {T : List S46} {L : List S142} {last tick : Int} (h : held T L last tick = true) : pend L last = true ∧ (rd_T142 L last).f1 = true := by
 simp only [held, Bool.and_eq_true] at h
 exact ⟨h.1.1, h.1.2⟩
end Go.Proofs.YtdgfjpbjiccllaaGreatDoor.Q
