/- What the reference's Step and Mid come to. -/
import Derived.Test.YtdamkcneecoimaaRef
namespace Go.Proofs.Ytdamkcneecoimaa
open Go.RowKit

theorem rmid_any {base p a ca b cb : Nat} {j : Jb} (w : World) (h : RJobAt w base p a ca b cb j) :
    Calls Try.prog 15 #[.pointer (some ⟨p, 0, none⟩)] w fun e w' => e = .returned (.bool (decide (0 < j.had))) ∧ w = w' := by
  have q3 : w.cell? ⟨p, 3, none⟩ = some (.int .i64 j.had) := h.hd.cell 3
  clear h
  go_enter Try.func15, Try.ntmps15
  go_wp2
  go_ret
  exact ⟨rfl, rfl⟩

set_option maxHeartbeats 4000000 in
theorem rstep_any {base p a ca b cb : Nat} {j : Jb} (w : World) (h : RJobAt w base p a ca b cb j) (hk : j.how = 0 → j.k < j.rs.length) (hn : j.rs.length ≤ 8) (h0 : 0 ≤ j.had) (h1 : j.had ≤ 1000000) (h2 : 0 ≤ j.all) (h3 : j.all ≤ 1000000) :
    Calls Try.prog 14 #[.pointer (some ⟨p, 0, none⟩)] w fun e w' => e = .returned (.tuple #[.int .i64 (tick j).2.1, .int .i64 (tick j).2.2]) ∧ RJobAt w' base p a ca b cb (tick j).1 ∧ w.grownBy w' (some p) := by
  obtain ⟨rs, ds, k, had, all, how⟩ := j
  simp only at hk hn h0 h1 h2 h3
  have B := h.hd
  have q0 : w.cell? ⟨p, 0, none⟩ = some (.slice (some ⟨a, 0, none⟩) rs.length ca) := B.cell 0
  have q1 : w.cell? ⟨p, 1, none⟩ = some (.slice (some ⟨b, 0, none⟩) rs.length cb) := B.cell 1
  have q2 : w.cell? ⟨p, 2, none⟩ = some (.int .i64 k) := B.cell 2
  have q3 : w.cell? ⟨p, 3, none⟩ = some (.int .i64 had) := B.cell 3
  have q4 : w.cell? ⟨p, 4, none⟩ = some (.int .i64 all) := B.cell 4
  have q5 : w.cell? ⟨p, 5, none⟩ = some (.int .i64 how) := B.cell 5
  have f2 := B.frozen 2
  have f3 := B.frozen 3
  have f4 := B.frozen 4
  have f5 := B.frozen 5
  by_cases hh : how = 0
  · subst hh
    have hk := hk rfl
    have cr := h.cr (i := k) hk
    have cd := h.cd (i := k) hk
    simp only at cr cd
    obtain ⟨r, hr⟩ : ∃ r, rs.getD k 0 = r := ⟨_, rfl⟩
    obtain ⟨d, hd⟩ : ∃ d, ds.getD k 0 = d := ⟨_, rfl⟩
    rw [hr] at cr
    rw [hd] at cd
    have i0 : (0 : Int) ≤ (k : Int) := by omega
    have i1 : (k : Int) < (rs.length : Int) := by omega
    obtain ⟨w2, hw2⟩ : ∃ w2, (w.setCell ⟨p, 3, none⟩ (.int .i64 (had + 1))).setCell ⟨p, 4, none⟩ (.int .i64 (all + 1)) = w2 := ⟨_, rfl⟩
    have B2 : Blk w2 p 40 #[.slice (some ⟨a, 0, none⟩) rs.length ca, .slice (some ⟨b, 0, none⟩) rs.length cb, .int .i64 k, .int .i64 (had + 1), .int .i64 (all + 1), .int .i64 0] := by
      rw [← hw2]; exact (B.set_ 3 _).set_ 4 _
    have g2 : w.grownBy w2 (some p) := by
      rw [← hw2]; exact only_setCell (only_setCell (World.grownBy.refl w (some p)) (p := ⟨p, 3, none⟩) (.inl rfl) _) (p := ⟨p, 4, none⟩) (.inl rfl) _
    have T : RJobAt w2 base p a ca b cb ⟨rs, ds, k, had + 1, all + 1, 0⟩ := h.turn g2 B2
    have HW2 := Lib.hid hw2
    clear hw2
    have s0 : w2.cell? ⟨p, 0, none⟩ = some (.slice (some ⟨a, 0, none⟩) rs.length ca) := B2.cell 0
    have s1 : w2.cell? ⟨p, 1, none⟩ = some (.slice (some ⟨b, 0, none⟩) rs.length cb) := B2.cell 1
    have s2 : w2.cell? ⟨p, 2, none⟩ = some (.int .i64 k) := B2.cell 2
    have s3 : w2.cell? ⟨p, 3, none⟩ = some (.int .i64 (had + 1)) := B2.cell 3
    have s5 : w2.cell? ⟨p, 5, none⟩ = some (.int .i64 0) := B2.cell 5
    have t2 := B2.frozen 2
    have t3 := B2.frozen 3
    have t5 := B2.frozen 5
    have dr := T.cr (i := k) hk
    have dd := T.cd (i := k) hk
    simp only at dr dd
    rw [hr] at dr
    rw [hd] at dd
    by_cases c1 : had + 1 = d
    · subst c1
      have B3 := (B2.set_ 2 (.int .i64 ((k + 1 : Nat) : Int))).set_ 3 (.int .i64 0)
      have g3 : w2.grownBy ((w2.setCell ⟨p, 2, none⟩ (.int .i64 ((k + 1 : Nat) : Int))).setCell ⟨p, 3, none⟩ (.int .i64 0)) (some p) :=
        only_setCell (only_setCell (World.grownBy.refl w2 (some p)) (p := ⟨p, 2, none⟩) (.inl rfl) _) (p := ⟨p, 3, none⟩) (.inl rfl) _
      have T3 := T.turn g3 (k := k + 1) (had := 0) (all := all + 1) (how := 0) B3
      obtain ⟨w3, hw3⟩ : ∃ w3, (w2.setCell ⟨p, 2, none⟩ (.int .i64 ((k + 1 : Nat) : Int))).setCell ⟨p, 3, none⟩ (.int .i64 0) = w3 := ⟨_, rfl⟩
      rw [hw3] at B3 g3 T3
      have g33 := g2.trans g3
      have u0 : w3.cell? ⟨p, 0, none⟩ = some (.slice (some ⟨a, 0, none⟩) rs.length ca) := B3.cell 0
      have u2 : w3.cell? ⟨p, 2, none⟩ = some (.int .i64 ((k + 1 : Nat) : Int)) := B3.cell 2
      have u5 : w3.cell? ⟨p, 5, none⟩ = some (.int .i64 0) := B3.cell 5
      have v5 := B3.frozen 5
      have ew : ∀ nq, ((w2.drewN nq).setCell ⟨p, 2, none⟩ (.int .i64 ((k : Int) + 1))).setCell ⟨p, 3, none⟩ (.int .i64 0) = w3.drewN nq := fun nq => by rw [← hw3]; rfl
      have HW3 := Lib.hid ew
      have HT3 := Lib.hid T3
      clear ew
      clear hw3 T3
      by_cases c2 : k + 1 = rs.length
      · have ht : tick ⟨rs, ds, k, had, all, 0⟩ = (⟨rs, ds, k + 1, 0, all + 1, 2⟩, (k : Int), 2) := by unfold tick; rw [if_neg (by simp), if_pos hd.symm, if_pos c2]
        rw [ht]
        have hl : (((k + 1 : Nat) : Int) == (rs.length : Int)) = true := by rw [beq_iff_eq]; omega
        have hl2 : ((k : Int) + 1 == (rs.length : Int)) = true := by rw [beq_iff_eq]; omega
        clear ht c2 hr hd h hk T
        go_enter Try.func14, Try.ntmps14
        go_wp2_with fail
        rw [HW2.out]
        clear q0 q1 q2 q3 q4 q5 f2 f3 f4 f5 B HW2 cr cd
        go_quiet (fail)
        go_wp2_with fail
        rw [HW3.out]
        clear HW3 s0 s1 s2 s3 s5 t2 t3 t5 dr dd B2
        go_quiet (fail)
        go_wp2_with fail
        go_ret2
        exact ⟨ret2 rfl rfl, ((HT3.out).turn (only_setCell (World.grownBy.refl w3 (some p)) (p := ⟨p, 5, none⟩) (.inl rfl) (.int .i64 2)) (k := k + 1) (had := 0) (all := all + 1) (how := 2) (B3.set_ 5 (.int .i64 2))).drewN _, only_drewN (only_setCell g33 (p := ⟨p, 5, none⟩) (.inl rfl) (.int .i64 2)) _⟩
      · have ht : tick ⟨rs, ds, k, had, all, 0⟩ = (⟨rs, ds, k + 1, 0, all + 1, 0⟩, (k : Int), 1) := by unfold tick; rw [if_neg (by simp), if_pos hd.symm, if_neg c2]
        rw [ht]
        have hl : (((k + 1 : Nat) : Int) == (rs.length : Int)) = false := by rw [beq_eq_false_iff_ne]; omega
        have hl2 : ((k : Int) + 1 == (rs.length : Int)) = false := by rw [beq_eq_false_iff_ne]; omega
        clear ht c2 hr hd h hk T
        go_enter Try.func14, Try.ntmps14
        go_wp2_with fail
        rw [HW2.out]
        clear q0 q1 q2 q3 q4 q5 f2 f3 f4 f5 B HW2 cr cd
        go_quiet (fail)
        go_wp2_with fail
        rw [HW3.out]
        clear HW3 s0 s1 s2 s3 s5 t2 t3 t5 dr dd B2
        go_quiet (fail)
        go_wp2_with fail
        go_ret2
        exact ⟨ret2 rfl rfl, ((HT3.out).drewN _).drewN _, only_drewN (only_drewN g33 _) _⟩
    · have b1 : (had + 1 == d) = false := by simpa using c1
      by_cases c3 : had + 1 = r
      · subst c3
        have ht : tick ⟨rs, ds, k, had, all, 0⟩ = (⟨rs, ds, k, had + 1, all + 1, 3⟩, (k : Int), 3) := by unfold tick; rw [if_neg (by simp), if_neg (by rw [hd]; exact c1), if_pos hr.symm]
        rw [ht]
        clear ht c1 hr hd h hk
        go_enter Try.func14, Try.ntmps14
        go_wp2_with fail
        rw [HW2.out]
        clear q0 q1 q2 q3 q4 q5 f2 f3 f4 f5 B HW2 cr cd
        go_quiet (fail)
        go_wp2_with fail
        go_quiet (fail)
        go_wp2_with fail
        go_ret2
        exact ⟨ret2 rfl rfl, ((T.turn (only_setCell (World.grownBy.refl w2 (some p)) (p := ⟨p, 5, none⟩) (.inl rfl) (.int .i64 3)) (k := k) (had := had + 1) (all := all + 1) (how := 3) (B2.set_ 5 (.int .i64 3))).drewN _), only_drewN (only_setCell g2 (p := ⟨p, 5, none⟩) (.inl rfl) (.int .i64 3)) _⟩
      · have b3 : (had + 1 == r) = false := by simpa using c3
        have ht : tick ⟨rs, ds, k, had, all, 0⟩ = (⟨rs, ds, k, had + 1, all + 1, 0⟩, (k : Int), 0) := by unfold tick; rw [if_neg (by simp), if_neg (by rw [hd]; exact c1), if_neg (by rw [hr]; exact c3)]
        rw [ht]
        clear ht c1 c3 hr hd h hk
        go_enter Try.func14, Try.ntmps14
        go_wp2_with fail
        rw [HW2.out]
        clear q0 q1 q2 q3 q4 q5 f2 f3 f4 f5 B HW2 cr cd
        go_quiet (fail)
        go_wp2_with fail
        go_quiet (fail)
        go_wp2_with fail
        go_ret2
        exact ⟨ret2 rfl rfl, (T.drewN _).drewN _, only_drewN (only_drewN g2 _) _⟩
  · have ht : tick ⟨rs, ds, k, had, all, how⟩ = (⟨rs, ds, k, had, all, how⟩, -1, how) := by simp [tick, hh]
    rw [ht]
    have b0 : (how != 0) = true := by rw [bne_iff_ne]; exact hh
    clear ht hk
    go_enter Try.func14, Try.ntmps14
    go_wp2_with fail
    go_quiet (fail)
    go_wp2
    go_ret2
    exact ⟨rfl, h.drewN _, only_drewN (World.grownBy.refl _ _) _⟩

end Go.Proofs.Ytdamkcneecoimaa
