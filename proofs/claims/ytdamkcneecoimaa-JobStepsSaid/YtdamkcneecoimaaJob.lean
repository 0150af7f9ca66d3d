/- What a job is, and what one of its ticks comes to. -/
import Derived.Test.YtdamkcneecoimaaOdd
namespace Go.Proofs.Ytdamkcneecoimaa
open Go.RowKit

/-- A job: its regions, its demands, which region it is in, that one's ticks, all ticks, how it ended. -/
structure Jb where
  rs : List Int
  ds : List Int
  k : Nat
  had : Int
  all : Int
  how : Int
deriving DecidableEq

/-- One tick: the job behind it, which region it was, how it came out. -/
def tick (j : Jb) : Jb × Int × Int :=
  if j.how ≠ 0 then (j, -1, j.how)
  else if j.had + 1 = j.ds.getD j.k 0 then
    if j.k + 1 = j.rs.length then (⟨j.rs, j.ds, j.k + 1, 0, j.all + 1, 2⟩, j.k, 2)
    else (⟨j.rs, j.ds, j.k + 1, 0, j.all + 1, 0⟩, j.k, 1)
  else if j.had + 1 = j.rs.getD j.k 0 then (⟨j.rs, j.ds, j.k, j.had + 1, j.all + 1, 3⟩, j.k, 3)
  else (⟨j.rs, j.ds, j.k, j.had + 1, j.all + 1, 0⟩, j.k, 0)

def jcells (j : Jb) (a ca b cb : Nat) : Array Value :=
  #[.slice (some ⟨a, 0, none⟩) j.rs.length ca, .slice (some ⟨b, 0, none⟩) j.rs.length cb, .int .i64 j.k, .int .i64 j.had, .int .i64 j.all, .int .i64 j.how]

/-- A job at block p; its regions' and its demands' rows at blocks a and b. -/
structure JobAt (w : World) (base p a ca b cb : Nat) (j : Jb) : Prop where
  hd : Blk w p 46 (jcells j a ca b cb)
  rs : w.ownsRow base 2 1 (.slice (some ⟨a, 0, none⟩) j.rs.length ca) j.rs.length (ints j.rs)
  ds : w.ownsRow base 2 1 (.slice (some ⟨b, 0, none⟩) j.rs.length cb) j.rs.length (ints j.ds)
  same : j.ds.length = j.rs.length
  ap : a ≠ p
  bp : b ≠ p

theorem own_at {w : World} {base a c n : Nat} {e : TypeId} {xs : List Value} (h : w.ownsRow base e 1 (.slice (some ⟨a, 0, none⟩) n c) n xs) :
    base ≤ a ∧ ∃ cur, Blk w a e cur ∧ cur.size = c ∧ n ≤ c ∧ cur.toList.take n = xs := by
  rcases h.2 with ⟨h0, _⟩ | ⟨g, c', cur, h0, hb, hh, hn, hm, hs, ht⟩
  · cases h0
  · injection h0 with h0 h1 h2
    injection h0 with h0
    injection h0 with h0
    subst h0 h2
    exact ⟨hb, cur, hh, by simpa using hs, hn, by simpa using ht⟩
theorem own_cell {w : World} {base a c n : Nat} {e : TypeId} {xs : List Value} (h : w.ownsRow base e 1 (.slice (some ⟨a, 0, none⟩) n c) n xs) (i : Nat) (hi : i < n) : w.cell? ⟨a, i, none⟩ = xs[i]? := by
  obtain ⟨_, cur, hb, hs, hn, ht⟩ := own_at h
  rw [hb.cell, ← ht, List.getElem?_take_of_lt hi]
  simp
theorem own_keep {w w' : World} {base : Nat} {v : Value} {row : Option Nat} {e : TypeId} {n : Nat} {xs : List Value} (h : w.ownsRow base e 1 v n xs) (hg : w.grownBy w' row) (h2 : v.ownBlock = none ∨ v.ownBlock ≠ row) : w'.ownsRow base e 1 v n xs := by
  refine ⟨h.1, ?_⟩
  rcases h.2 with h0 | ⟨g, c, cur, rfl, hb, hh, rest⟩
  · exact .inl h0
  · refine .inr ⟨g, c, cur, rfl, hb, ?_, rest⟩
    have hne : some g ≠ row := by
      rcases h2 with h2 | h2
      · simp [Value.ownBlock] at h2
      · exact h2
    exact Blk.grown hh hg hne

section
variable {w w' : World} {base p a ca b cb : Nat} {j : Jb}
theorem JobAt.keep {row : Option Nat} (h : JobAt w base p a ca b cb j) (hg : w.grownBy w' row) (h1 : some p ≠ row) (h2 : some a ≠ row) (h3 : some b ≠ row) : JobAt w' base p a ca b cb j :=
  ⟨h.hd.grown hg h1, own_keep h.rs hg (.inr (by simpa [Value.ownBlock] using h2)), own_keep h.ds hg (.inr (by simpa [Value.ownBlock] using h3)), h.same, h.ap, h.bp⟩
theorem JobAt.drewN (h : JobAt w base p a ca b cb j) (n : Nat) : JobAt (w.drewN n) base p a ca b cb j := ⟨h.hd, h.rs, h.ds, h.same, h.ap, h.bp⟩
theorem JobAt.drew (h : JobAt w base p a ca b cb j) : JobAt w.drew base p a ca b cb j := ⟨h.hd, h.rs, h.ds, h.same, h.ap, h.bp⟩
theorem JobAt.below (h : JobAt w base p a ca b cb j) (hb : Below w.heap.size w w') : JobAt w' base p a ca b cb j := h.keep (only_of_below hb none) (by simp) (by simp) (by simp)
theorem JobAt.lt (h : JobAt w base p a ca b cb j) : p < w.heap.size := h.hd.lt
theorem JobAt.cr (h : JobAt w base p a ca b cb j) {i : Nat} (hi : i < j.rs.length) : w.cell? ⟨a, i, none⟩ = some (.int .i64 (j.rs.getD i 0)) := by
  rw [own_cell h.rs i hi]; simp [ints, hi, List.getD]
theorem JobAt.cd (h : JobAt w base p a ca b cb j) {i : Nat} (hi : i < j.rs.length) : w.cell? ⟨b, i, none⟩ = some (.int .i64 (j.ds.getD i 0)) := by
  have hi' : i < j.ds.length := by rw [h.same]; exact hi
  rw [own_cell h.ds i hi]; simp [ints, hi', List.getD]
/-- The job's own block has turned. -/
theorem JobAt.turn (h : JobAt w base p a ca b cb j) (hg : w.grownBy w' (some p)) {k : Nat} {had all how : Int}
    (hb : Blk w' p 46 #[.slice (some ⟨a, 0, none⟩) j.rs.length ca, .slice (some ⟨b, 0, none⟩) j.rs.length cb, .int .i64 k, .int .i64 had, .int .i64 all, .int .i64 how]) :
    JobAt w' base p a ca b cb ⟨j.rs, j.ds, k, had, all, how⟩ :=
  ⟨hb, own_keep h.rs hg (.inr (by simpa [Value.ownBlock] using h.ap)), own_keep h.ds hg (.inr (by simpa [Value.ownBlock] using h.bp)), h.same, h.ap, h.bp⟩
end

theorem ret2 {a b c d : Int} (h1 : a = c) (h2 : b = d) : Ending.returned (.tuple #[.int .i64 a, .int .i64 b]) = .returned (.tuple #[.int .i64 c, .int .i64 d]) := by rw [h1, h2]

theorem step_nil (w : World) : Calls Try.prog 9 #[.pointer none] w fun e w' => e = .returned (.tuple #[.int .i64 (-1), .int .i64 2]) ∧ w = w' := by
  go_enter Try.func9, Try.ntmps9
  go_wp2
  go_ret2
  exact ⟨rfl, rfl⟩

set_option maxHeartbeats 4000000 in
theorem step_any {base p a ca b cb : Nat} {j : Jb} (w : World) (h : JobAt w base p a ca b cb j) (hk : j.how = 0 → j.k < j.rs.length) (hn : j.rs.length ≤ 8) (h0 : 0 ≤ j.had) (h1 : j.had ≤ 1000000) (h2 : 0 ≤ j.all) (h3 : j.all ≤ 1000000) :
    Calls Try.prog 9 #[.pointer (some ⟨p, 0, none⟩)] w fun e w' => e = .returned (.tuple #[.int .i64 (tick j).2.1, .int .i64 (tick j).2.2]) ∧ JobAt w' base p a ca b cb (tick j).1 ∧ w.grownBy w' (some p) := by
  obtain ⟨rs, ds, k, had, all, how⟩ := j
  simp only at hk hn h0 h1 h2 h3
  have B := h.hd
  have q0 : w.cell? ⟨p, 0, none⟩ = some (.slice (some ⟨a, 0, none⟩) rs.length ca) := B.cell 0
  have q1 : w.cell? ⟨p, 1, none⟩ = some (.slice (some ⟨b, 0, none⟩) rs.length cb) := B.cell 1
  have q2 : w.cell? ⟨p, 2, none⟩ = some (.int .i64 k) := B.cell 2
  have q3 : w.cell? ⟨p, 3, none⟩ = some (.int .i64 had) := B.cell 3
  have q4 : w.cell? ⟨p, 4, none⟩ = some (.int .i64 all) := B.cell 4
  have q5 : w.cell? ⟨p, 5, none⟩ = some (.int .i64 how) := B.cell 5
  have f2 := B.frozen 2
  have f3 := B.frozen 3
  have f4 := B.frozen 4
  have f5 := B.frozen 5
  by_cases hh : how = 0
  · subst hh
    have hk := hk rfl
    have cr := h.cr (i := k) hk
    have cd := h.cd (i := k) hk
    simp only at cr cd
    obtain ⟨r, hr⟩ : ∃ r, rs.getD k 0 = r := ⟨_, rfl⟩
    obtain ⟨d, hd⟩ : ∃ d, ds.getD k 0 = d := ⟨_, rfl⟩
    rw [hr] at cr
    rw [hd] at cd
    have i0 : (0 : Int) ≤ (k : Int) := by omega
    have i1 : (k : Int) < (rs.length : Int) := by omega
    have e1 : IntKind.i64.wrap ((rs.length : Int) - 1) = (rs.length : Int) - 1 := IntWalk.i64_in _ (by omega)
    obtain ⟨w2, hw2⟩ : ∃ w2, (w.setCell ⟨p, 4, none⟩ (.int .i64 (all + 1))).setCell ⟨p, 3, none⟩ (.int .i64 (had + 1)) = w2 := ⟨_, rfl⟩
    have B2 : Blk w2 p 46 #[.slice (some ⟨a, 0, none⟩) rs.length ca, .slice (some ⟨b, 0, none⟩) rs.length cb, .int .i64 k, .int .i64 (had + 1), .int .i64 (all + 1), .int .i64 0] := by
      rw [← hw2]; exact (B.set_ 4 _).set_ 3 _
    have g2 : w.grownBy w2 (some p) := by
      rw [← hw2]; exact only_setCell (only_setCell (World.grownBy.refl w (some p)) (p := ⟨p, 4, none⟩) (.inl rfl) _) (p := ⟨p, 3, none⟩) (.inl rfl) _
    have T : JobAt w2 base p a ca b cb ⟨rs, ds, k, had + 1, all + 1, 0⟩ := h.turn g2 B2
    have HW2 := Lib.hid hw2
    clear hw2
    have s0 : w2.cell? ⟨p, 0, none⟩ = some (.slice (some ⟨a, 0, none⟩) rs.length ca) := B2.cell 0
    have s1 : w2.cell? ⟨p, 1, none⟩ = some (.slice (some ⟨b, 0, none⟩) rs.length cb) := B2.cell 1
    have s2 : w2.cell? ⟨p, 2, none⟩ = some (.int .i64 k) := B2.cell 2
    have s3 : w2.cell? ⟨p, 3, none⟩ = some (.int .i64 (had + 1)) := B2.cell 3
    have s5 : w2.cell? ⟨p, 5, none⟩ = some (.int .i64 0) := B2.cell 5
    have t2 := B2.frozen 2
    have t3 := B2.frozen 3
    have t5 := B2.frozen 5
    have dr := T.cr (i := k) hk
    have dd := T.cd (i := k) hk
    simp only at dr dd
    rw [hr] at dr
    rw [hd] at dd
    by_cases c1 : had + 1 = d
    · subst c1
      by_cases c2 : k + 1 = rs.length
      · have l1 : rs.length ≤ k + 1 := by omega
        have ht : tick ⟨rs, ds, k, had, all, 0⟩ = (⟨rs, ds, k + 1, 0, all + 1, 2⟩, (k : Int), 2) := by unfold tick; rw [if_neg (by simp), if_pos hd.symm, if_pos c2]
        rw [ht]
        clear ht c2 hr hd h hk
        go_enter Try.func9, Try.ntmps9
        go_wp2_with fail
        rw [HW2.out]
        clear q0 q1 q2 q3 q4 q5 f2 f3 f4 f5 B HW2 cr cd
        go_quiet (fail)
        go_wp2_with fail
        go_ret2
        exact ⟨ret2 (by simp) rfl, (T.turn (only_setCell (only_setCell (only_setCell (World.grownBy.refl w2 (some p)) (p := ⟨p, 5, none⟩) (.inl rfl) (.int .i64 2)) (p := ⟨p, 2, none⟩) (.inl rfl) (.int .i64 ((k + 1 : Nat) : Int))) (p := ⟨p, 3, none⟩) (.inl rfl) (.int .i64 0)) (k := k + 1) (had := 0) (all := all + 1) (how := 2) (((B2.set_ 5 (.int .i64 2)).set_ 2 (.int .i64 ((k + 1 : Nat) : Int))).set_ 3 (.int .i64 0))).drewN _, only_drewN (only_setCell (only_setCell (only_setCell g2 (p := ⟨p, 5, none⟩) (.inl rfl) (.int .i64 2)) (p := ⟨p, 2, none⟩) (.inl rfl) (.int .i64 ((k + 1 : Nat) : Int))) (p := ⟨p, 3, none⟩) (.inl rfl) (.int .i64 0)) _⟩
      · have l1 : k + 2 ≤ rs.length := by omega
        have ht : tick ⟨rs, ds, k, had, all, 0⟩ = (⟨rs, ds, k + 1, 0, all + 1, 0⟩, (k : Int), 1) := by unfold tick; rw [if_neg (by simp), if_pos hd.symm, if_neg c2]
        rw [ht]
        clear ht c2 hr hd h hk
        go_enter Try.func9, Try.ntmps9
        go_wp2_with fail
        rw [HW2.out]
        clear q0 q1 q2 q3 q4 q5 f2 f3 f4 f5 B HW2 cr cd
        go_quiet (fail)
        go_wp2_with fail
        go_quiet (fail)
        go_wp2_with fail
        go_ret2
        exact ⟨ret2 (by simp) rfl, (T.turn (only_setCell (only_setCell (World.grownBy.refl w2 (some p)) (p := ⟨p, 2, none⟩) (.inl rfl) (.int .i64 ((k + 1 : Nat) : Int))) (p := ⟨p, 3, none⟩) (.inl rfl) (.int .i64 0)) (k := k + 1) (had := 0) (all := all + 1) (how := 0) ((B2.set_ 2 (.int .i64 ((k + 1 : Nat) : Int))).set_ 3 (.int .i64 0))).drewN _, only_drewN (only_setCell (only_setCell g2 (p := ⟨p, 2, none⟩) (.inl rfl) (.int .i64 ((k + 1 : Nat) : Int))) (p := ⟨p, 3, none⟩) (.inl rfl) (.int .i64 0)) _⟩
    · have b1 : (had + 1 == d) = false := by simpa using c1
      by_cases c3 : had + 1 = r
      · subst c3
        have ht : tick ⟨rs, ds, k, had, all, 0⟩ = (⟨rs, ds, k, had + 1, all + 1, 3⟩, (k : Int), 3) := by unfold tick; rw [if_neg (by simp), if_neg (by rw [hd]; exact c1), if_pos hr.symm]
        rw [ht]
        clear ht c1 hr hd h hk
        go_enter Try.func9, Try.ntmps9
        go_wp2_with fail
        rw [HW2.out]
        clear q0 q1 q2 q3 q4 q5 f2 f3 f4 f5 B HW2 cr cd
        go_quiet (fail)
        go_wp2_with fail
        go_quiet (fail)
        go_wp2_with fail
        go_quiet (fail)
        go_wp2_with fail
        go_ret2
        exact ⟨ret2 (by simp) rfl, (T.turn (only_setCell (World.grownBy.refl w2 (some p)) (p := ⟨p, 5, none⟩) (.inl rfl) (.int .i64 3)) (k := k) (had := had + 1) (all := all + 1) (how := 3) (B2.set_ 5 (.int .i64 3))).drewN _, only_drewN (only_setCell g2 (p := ⟨p, 5, none⟩) (.inl rfl) (.int .i64 3)) _⟩
      · have b3 : (had + 1 == r) = false := by simpa using c3
        have ht : tick ⟨rs, ds, k, had, all, 0⟩ = (⟨rs, ds, k, had + 1, all + 1, 0⟩, (k : Int), 0) := by unfold tick; rw [if_neg (by simp), if_neg (by rw [hd]; exact c1), if_neg (by rw [hr]; exact c3)]
        rw [ht]
        clear ht c1 c3 hr hd h hk
        go_enter Try.func9, Try.ntmps9
        go_wp2_with fail
        rw [HW2.out]
        clear q0 q1 q2 q3 q4 q5 f2 f3 f4 f5 B HW2 cr cd
        go_quiet (fail)
        go_wp2_with fail
        go_quiet (fail)
        go_wp2_with fail
        go_quiet (fail)
        go_wp2_with fail
        go_ret2
        exact ⟨ret2 rfl rfl, ((T.drewN _).drewN _).drewN _, only_drewN (only_drewN (only_drewN g2 _) _) _⟩
  · have ht : tick ⟨rs, ds, k, had, all, how⟩ = (⟨rs, ds, k, had, all, how⟩, -1, how) := by simp [tick, hh]
    rw [ht]
    have b0 : (how != 0) = true := by rw [bne_iff_ne]; exact hh
    clear ht hk
    go_enter Try.func9, Try.ntmps9
    go_wp2_with fail
    go_quiet (fail)
    go_wp2
    go_ret2
    exact ⟨rfl, h.drewN _, only_drewN (World.grownBy.refl _ _) _⟩

end Go.Proofs.Ytdamkcneecoimaa
