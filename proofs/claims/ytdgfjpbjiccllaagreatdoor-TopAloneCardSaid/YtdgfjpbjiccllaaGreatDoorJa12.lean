/- Joined texts: Job, Pol. -/
import Derived.Test.YtdgfjpbjiccllaaGreatDoorJa01
/- What the functions of package job come to. -/
namespace Go.Proofs.YtdgfjpbjiccllaaGreatDoor.J
open Go.RowKit
set_option maxRecDepth 100000
def odd (z : Int) : Bool := decide (z < 1) || decide (10000 < z)
theorem odd_any (z : Int) (w : World) : Calls Tryz.prog 121 #[.int .i64 z] w fun e w' => e = .returned (.bool (odd z)) ∧ w = w' := by
  unfold odd
  by_cases h1 : z < 1
  · have d1 : decide (z < 1) = true := by simpa using h1
    rw [d1]
    go_enter Tryz.func121, Tryz.ntmps121
    go_wp2
    go_ret
    exact ⟨rfl, rfl⟩
  · have d1 : decide (z < 1) = false := by simpa using h1
    rw [d1]
    go_enter Tryz.func121, Tryz.ntmps121
    go_wp2
    go_ret
    exact ⟨rfl, rfl⟩
set_option maxHeartbeats 400000 in
theorem index_none (A : Option Addr) (c : Nat) (zs : List Int) (w : World) (h : Nums w A zs) (hl : zs.length ≤ 8) (ho : ∀ i (h : i < zs.length), odd zs[i] = false) :
    Calls Tryz.prog 117 #[.slice A zs.length c, .func (.func 121) #[] #[]] w fun e w' => e = .returned (.int .i64 (-1)) ∧ w = w' := by
  have HO := Lib.hid ho
  clear ho
  go_enter Tryz.func117, Tryz.ntmps117
  go_wp2_with fail
  go_loop [8] (fun z => ∃ k : Nat, k ≤ zs.length ∧ z = .int .i64 k) (fun z => zs.length - (intOf z).toNat)
  case atStart => exact ⟨0, Nat.zero_le _, rfl⟩
  case round =>
    obtain ⟨k, hk, rfl⟩ := hrel
    by_cases hlt : k < zs.length
    · rcases h with h | ⟨b, off, rfl, hb, hc⟩
      · rw [h] at hlt; simp at hlt
      have c0 := hc k hlt
      have HK := HO.out k hlt
      have HK := Lib.hid HK
      go_wp2_with (go_at_call 121; refine (odd_any _ _).mono ?_; rintro e w' ⟨rfl, rfl⟩; rw [HK.out])
      go_round
      case rel => exact ⟨k + 1, by omega, by go_num⟩
      case measure => simp [intOf]; omega
    · go_wp2
      go_ret
      exact ⟨rfl, rfl⟩
set_option maxHeartbeats 400000 in
theorem index_some (A : Option Addr) (c : Nat) (zs : List Int) (w : World) (h : Nums w A zs) (hl : zs.length ≤ 8) (m : Nat) (hm : m < zs.length) (hom : odd zs[m] = true) (ho : ∀ i (h : i < m), odd (zs[i]'(by omega)) = false) :
    Calls Tryz.prog 117 #[.slice A zs.length c, .func (.func 121) #[] #[]] w fun e w' => e = .returned (.int .i64 m) ∧ w = w' := by
  have HO := Lib.hid ho
  have HM := Lib.hid hom
  clear ho hom
  rcases h with h | ⟨b, off, rfl, hb, hc⟩
  · rw [h] at hm; simp at hm
  go_enter Tryz.func117, Tryz.ntmps117
  go_wp2_with fail
  go_loop [8] (fun z => ∃ k : Nat, k ≤ m ∧ z = .int .i64 k) (fun z => zs.length - (intOf z).toNat)
  case atStart => exact ⟨0, Nat.zero_le _, rfl⟩
  case round =>
    obtain ⟨k, hk, rfl⟩ := hrel
    have hlt : k < zs.length := by omega
    have c0 := hc k hlt
    by_cases hkm : k = m
    · subst hkm
      go_wp2_with (go_at_call 121; refine (odd_any _ _).mono ?_; rintro e w' ⟨rfl, rfl⟩; rw [HM.out])
      go_ret
      exact ⟨rfl, rfl⟩
    · have HK := HO.out k (by omega)
      have HK := Lib.hid HK
      go_wp2_with (go_at_call 121; refine (odd_any _ _).mono ?_; rintro e w' ⟨rfl, rfl⟩; rw [HK.out])
      go_round
      case rel => exact ⟨k + 1, by omega, by go_num⟩
      case measure => simp [intOf]; omega
theorem contains_any (A : Option Addr) (c : Nat) (zs : List Int) (w : World) (h : Nums w A zs) (hl : zs.length ≤ 8) :
    Calls Tryz.prog 72 #[.slice A zs.length c, .func (.func 121) #[] #[]] w fun e w' => e = .returned (.bool (zs.any odd)) ∧ w = w' := by
  cases ha : zs.any odd with
  | false =>
    have ho : ∀ i (h : i < zs.length), odd zs[i] = false := by
      intro i hi
      have := List.any_eq_false.1 ha zs[i] (List.getElem_mem hi)
      simpa using this
    have HO := Lib.hid ho
    clear ho ha
    go_enter Tryz.func72, Tryz.ntmps72
    go_wp2_with (go_at_call 117; refine (index_none A c zs _ h hl HO.out).mono ?_; rintro e w' ⟨rfl, rfl⟩)
    go_ret
    exact ⟨rfl, rfl⟩
  | true =>
    obtain ⟨m, hm, hom, ho⟩ : ∃ m, ∃ (hm : m < zs.length), odd zs[m] = true ∧ ∀ i (h : i < m), odd (zs[i]'(by omega)) = false := by
      have hf : zs.findIdx odd < zs.length := by
        rw [List.findIdx_lt_length]
        obtain ⟨x, hx, hox⟩ := List.any_eq_true.1 ha
        exact ⟨x, hx, hox⟩
      refine ⟨zs.findIdx odd, hf, List.findIdx_getElem, fun i hi => ?_⟩
      have := List.not_of_lt_findIdx hi
      simpa using this
    have HO := Lib.hid ho
    have HM := Lib.hid hom
    clear ho hom ha
    go_enter Tryz.func72, Tryz.ntmps72
    go_wp2_with (go_at_call 117; refine (index_some A c zs _ h hl m hm HM.out HO.out).mono ?_; rintro e w' ⟨rfl, rfl⟩)
    go_ret
    exact ⟨rfl, rfl⟩
theorem Tryz.info2 : (Tryz.prog.info? 2).map (fun i => (i.zero, i.size, i.bytes)) = some (some (.int .i64 0), 1, 8) := by kernel_rfl
def ints (zs : List Int) : List Value := zs.map (Value.int .i64)
theorem ints_one (zs : List Int) : ∀ u ∈ ints zs, u.oneCell' = true := by
  intro u hu
  obtain ⟨x, _, rfl⟩ := List.mem_map.1 hu
  rfl
set_option maxHeartbeats 400000 in
theorem clone_any (A : Option Addr) (c : Nat) (zs : List Int) (w : World) (h : Nums w A zs) (hl : zs.length ≤ 8) (h0 : 0 < zs.length) :
    Calls Tryz.prog 39 #[.slice A zs.length c] w fun e w' => ∃ a cap, e = .returned (.slice (some ⟨a, 0, none⟩) zs.length cap) ∧ w'.ownsRow w.heap.size 2 1 (.slice (some ⟨a, 0, none⟩) zs.length cap) zs.length (ints zs) ∧ Below w.heap.size w w' := by
  rcases h with h | ⟨b, off, rfl, hb, hc⟩
  · rw [h] at h0; simp at h0
  have hne := fun W => Lib.run_eql_slice_nil (P := Tryz.prog) W 32 2 (some ⟨b, off, none⟩) zs.length c 0 0 Tryz.underlying32
  obtain ⟨i0, hi0, hz0, hz1, hz2⟩ := info_parts Tryz.info2
  have Hz0 := Lib.hid hz0; clear hz0
  have Hz1 := Lib.hid hz1; clear hz1
  have Hz2 := Lib.hid hz2; clear hz2
  have Hi := Lib.hid hi0; clear hi0
  have HC := Lib.hid hc; clear hc
  have hm : zs.length ≤ maxLen := by unfold maxLen; omega
  go_enter Tryz.func39, Tryz.ntmps39
  go_wp2_with (at_builtin; refine wpList_append_own _ rfl (.tmp 5) (.tmp 6) 32 rfl w.heap.size 2 i0 _ 1 8 Tryz.underlying32 Hi.out Hz0.out Hz1.out Hz2.out rfl (by decide) (.slice (some ⟨w.heap.size, 0, none⟩) 0 0) 0 [] rfl ?c1 ⟨b, off, none⟩ zs.length c (ints zs) rfl (by simp [ints]) ?c2 (ints_one zs) (by omega) (by omega) (by simp) ?c3)
  case c1 => exact World.ownsRow_made w #[] 0 (Nat.le_refl _) (by unfold maxLen; omega) (by simp)
  case c2 =>
    intro j u hj
    have hjl : j < zs.length := by
      have := (List.getElem?_eq_some_iff.1 hj).1
      simpa [ints] using this
    rw [add_none, World.cell?_alloc_past _ _ _ hb, HC.out j hjl]
    simpa [ints, hjl] using hj
  case c3 =>
    intro v' w' hown hg _
    have hb : Below w.heap.size w w' := ((Below.refl _ _).alloc (Nat.le_refl _) _).grown hg (by simp) (fun k e => by simp [Value.ownBlock] at e; omega)
    obtain ⟨g, cap', rfl⟩ : ∃ g cap', v' = .slice (some ⟨g, 0, none⟩) zs.length cap' := by
      rcases hown.2 with ⟨_, h⟩ | ⟨g, cap', _, h, _⟩
      · omega
      · exact ⟨g, cap', h⟩
    go_wp2
    go_ret
    exact ⟨g, cap', rfl, by simpa using hown, hb⟩
/-- A job: its regions, its demands, which region it is in, that one's ticks, all ticks, how it ended. -/
structure Jb where
  rs : List Int
  ds : List Int
  k : Nat
  had : Int
  all : Int
  how : Int
deriving DecidableEq
/-- One tick: the job behind it, which region it was, how it came out. -/
def tick (j : Jb) : Jb × Int × Int :=
  if j.how ≠ 0 then (j, -1, j.how)
  else if j.had + 1 = j.ds.getD j.k 0 then
    if j.k + 1 = j.rs.length then (⟨j.rs, j.ds, j.k + 1, 0, j.all + 1, 2⟩, j.k, 2)
    else (⟨j.rs, j.ds, j.k + 1, 0, j.all + 1, 0⟩, j.k, 1)
  else if j.had + 1 = j.rs.getD j.k 0 then (⟨j.rs, j.ds, j.k, j.had + 1, j.all + 1, 3⟩, j.k, 3)
  else (⟨j.rs, j.ds, j.k, j.had + 1, j.all + 1, 0⟩, j.k, 0)
def jcells (j : Jb) (a ca b cb : Nat) : Array Value :=
  #[.slice (some ⟨a, 0, none⟩) j.rs.length ca, .slice (some ⟨b, 0, none⟩) j.rs.length cb, .int .i64 j.k, .int .i64 j.had, .int .i64 j.all, .int .i64 j.how]
/-- A job at block p; its regions' and its demands' rows at blocks a and b. -/
structure JobAt (w : World) (base p a ca b cb : Nat) (j : Jb) : Prop where
  hd : Blk w p 186 (jcells j a ca b cb)
  rs : w.ownsRow base 2 1 (.slice (some ⟨a, 0, none⟩) j.rs.length ca) j.rs.length (ints j.rs)
  ds : w.ownsRow base 2 1 (.slice (some ⟨b, 0, none⟩) j.rs.length cb) j.rs.length (ints j.ds)
  same : j.ds.length = j.rs.length
  ap : a ≠ p
  bp : b ≠ p
theorem own_at {w : World} {base a c n : Nat} {e : TypeId} {xs : List Value} (h : w.ownsRow base e 1 (.slice (some ⟨a, 0, none⟩) n c) n xs) :
    base ≤ a ∧ ∃ cur, Blk w a e cur ∧ cur.size = c ∧ n ≤ c ∧ cur.toList.take n = xs := by
  rcases h.2 with ⟨h0, _⟩ | ⟨g, c', cur, h0, hb, hh, hn, hm, hs, ht⟩
  · cases h0
  · injection h0 with h0 h1 h2
    injection h0 with h0
    injection h0 with h0
    subst h0 h2
    exact ⟨hb, cur, hh, by simpa using hs, hn, by simpa using ht⟩
theorem own_cell {w : World} {base a c n : Nat} {e : TypeId} {xs : List Value} (h : w.ownsRow base e 1 (.slice (some ⟨a, 0, none⟩) n c) n xs) (i : Nat) (hi : i < n) : w.cell? ⟨a, i, none⟩ = xs[i]? := by
  obtain ⟨_, cur, hb, hs, hn, ht⟩ := own_at h
  rw [hb.cell, ← ht, List.getElem?_take_of_lt hi]
  simp
theorem own_keep {w w' : World} {base : Nat} {v : Value} {row : Option Nat} {e : TypeId} {n : Nat} {xs : List Value} (h : w.ownsRow base e 1 v n xs) (hg : w.grownBy w' row) (h2 : v.ownBlock = none ∨ v.ownBlock ≠ row) : w'.ownsRow base e 1 v n xs := by
  refine ⟨h.1, ?_⟩
  rcases h.2 with h0 | ⟨g, c, cur, rfl, hb, hh, rest⟩
  · exact .inl h0
  · refine .inr ⟨g, c, cur, rfl, hb, ?_, rest⟩
    have hne : some g ≠ row := by
      rcases h2 with h2 | h2
      · simp [Value.ownBlock] at h2
      · exact h2
    exact Blk.grown hh hg hne
section
variable {w w' : World} {base p a ca b cb : Nat} {j : Jb}
theorem JobAt.keep {row : Option Nat} (h : JobAt w base p a ca b cb j) (hg : w.grownBy w' row) (h1 : some p ≠ row) (h2 : some a ≠ row) (h3 : some b ≠ row) : JobAt w' base p a ca b cb j :=
  ⟨h.hd.grown hg h1, own_keep h.rs hg (.inr (by simpa [Value.ownBlock] using h2)), own_keep h.ds hg (.inr (by simpa [Value.ownBlock] using h3)), h.same, h.ap, h.bp⟩
theorem JobAt.drewN (h : JobAt w base p a ca b cb j) (n : Nat) : JobAt (w.drewN n) base p a ca b cb j := ⟨h.hd, h.rs, h.ds, h.same, h.ap, h.bp⟩
theorem JobAt.drew (h : JobAt w base p a ca b cb j) : JobAt w.drew base p a ca b cb j := ⟨h.hd, h.rs, h.ds, h.same, h.ap, h.bp⟩
theorem JobAt.below (h : JobAt w base p a ca b cb j) (hb : Below w.heap.size w w') : JobAt w' base p a ca b cb j := h.keep (only_of_below hb none) (by simp) (by simp) (by simp)
theorem JobAt.lt (h : JobAt w base p a ca b cb j) : p < w.heap.size := h.hd.lt
theorem JobAt.cr (h : JobAt w base p a ca b cb j) {i : Nat} (hi : i < j.rs.length) : w.cell? ⟨a, i, none⟩ = some (.int .i64 (j.rs.getD i 0)) := by
  rw [own_cell h.rs i hi]; simp [ints, hi, List.getD]
theorem JobAt.cd (h : JobAt w base p a ca b cb j) {i : Nat} (hi : i < j.rs.length) : w.cell? ⟨b, i, none⟩ = some (.int .i64 (j.ds.getD i 0)) := by
  have hi' : i < j.ds.length := by rw [h.same]; exact hi
  rw [own_cell h.ds i hi]; simp [ints, hi', List.getD]
/-- The job's own block has turned. -/
theorem JobAt.turn (h : JobAt w base p a ca b cb j) (hg : w.grownBy w' (some p)) {k : Nat} {had all how : Int}
    (hb : Blk w' p 186 #[.slice (some ⟨a, 0, none⟩) j.rs.length ca, .slice (some ⟨b, 0, none⟩) j.rs.length cb, .int .i64 k, .int .i64 had, .int .i64 all, .int .i64 how]) :
    JobAt w' base p a ca b cb ⟨j.rs, j.ds, k, had, all, how⟩ :=
  ⟨hb, own_keep h.rs hg (.inr (by simpa [Value.ownBlock] using h.ap)), own_keep h.ds hg (.inr (by simpa [Value.ownBlock] using h.bp)), h.same, h.ap, h.bp⟩
end
theorem ret2 {a b c d : Int} (h1 : a = c) (h2 : b = d) : Ending.returned (.tuple #[.int .i64 a, .int .i64 b]) = .returned (.tuple #[.int .i64 c, .int .i64 d]) := by rw [h1, h2]
set_option maxHeartbeats 4000000 in
theorem step_any {base p a ca b cb : Nat} {j : Jb} (w : World) (h : JobAt w base p a ca b cb j) (hk : j.how = 0 → j.k < j.rs.length) (hn : j.rs.length ≤ 8) (h0 : 0 ≤ j.had) (h1 : j.had ≤ 1000000) (h2 : 0 ≤ j.all) (h3 : j.all ≤ 1000000) :
    Calls Tryz.prog 90 #[.pointer (some ⟨p, 0, none⟩)] w fun e w' => e = .returned (.tuple #[.int .i64 (tick j).2.1, .int .i64 (tick j).2.2]) ∧ JobAt w' base p a ca b cb (tick j).1 ∧ w.grownBy w' (some p) := by
  obtain ⟨rs, ds, k, had, all, how⟩ := j
  simp only at hk hn h0 h1 h2 h3
  have B := h.hd
  have q0 : w.cell? ⟨p, 0, none⟩ = some (.slice (some ⟨a, 0, none⟩) rs.length ca) := B.cell 0
  have q1 : w.cell? ⟨p, 1, none⟩ = some (.slice (some ⟨b, 0, none⟩) rs.length cb) := B.cell 1
  have q2 : w.cell? ⟨p, 2, none⟩ = some (.int .i64 k) := B.cell 2
  have q3 : w.cell? ⟨p, 3, none⟩ = some (.int .i64 had) := B.cell 3
  have q4 : w.cell? ⟨p, 4, none⟩ = some (.int .i64 all) := B.cell 4
  have q5 : w.cell? ⟨p, 5, none⟩ = some (.int .i64 how) := B.cell 5
  have f2 := B.frozen 2
  have f3 := B.frozen 3
  have f4 := B.frozen 4
  have f5 := B.frozen 5
  by_cases hh : how = 0
  · subst hh
    have hk := hk rfl
    have cr := h.cr (i := k) hk
    have cd := h.cd (i := k) hk
    simp only at cr cd
    obtain ⟨r, hr⟩ : ∃ r, rs.getD k 0 = r := ⟨_, rfl⟩
    obtain ⟨d, hd⟩ : ∃ d, ds.getD k 0 = d := ⟨_, rfl⟩
    rw [hr] at cr
    rw [hd] at cd
    have i0 : (0 : Int) ≤ (k : Int) := by omega
    have i1 : (k : Int) < (rs.length : Int) := by omega
    have e1 : IntKind.i64.wrap ((rs.length : Int) - 1) = (rs.length : Int) - 1 := IntWalk.i64_in _ (by omega)
    obtain ⟨w2, hw2⟩ : ∃ w2, (w.setCell ⟨p, 4, none⟩ (.int .i64 (all + 1))).setCell ⟨p, 3, none⟩ (.int .i64 (had + 1)) = w2 := ⟨_, rfl⟩
    have B2 : Blk w2 p 186 #[.slice (some ⟨a, 0, none⟩) rs.length ca, .slice (some ⟨b, 0, none⟩) rs.length cb, .int .i64 k, .int .i64 (had + 1), .int .i64 (all + 1), .int .i64 0] := by
      rw [← hw2]; exact (B.set_ 4 _).set_ 3 _
    have g2 : w.grownBy w2 (some p) := by
      rw [← hw2]; exact only_setCell (only_setCell (World.grownBy.refl w (some p)) (p := ⟨p, 4, none⟩) (.inl rfl) _) (p := ⟨p, 3, none⟩) (.inl rfl) _
    have T : JobAt w2 base p a ca b cb ⟨rs, ds, k, had + 1, all + 1, 0⟩ := h.turn g2 B2
    have HW2 := Lib.hid hw2
    clear hw2
    have s0 : w2.cell? ⟨p, 0, none⟩ = some (.slice (some ⟨a, 0, none⟩) rs.length ca) := B2.cell 0
    have s1 : w2.cell? ⟨p, 1, none⟩ = some (.slice (some ⟨b, 0, none⟩) rs.length cb) := B2.cell 1
    have s2 : w2.cell? ⟨p, 2, none⟩ = some (.int .i64 k) := B2.cell 2
    have s3 : w2.cell? ⟨p, 3, none⟩ = some (.int .i64 (had + 1)) := B2.cell 3
    have s5 : w2.cell? ⟨p, 5, none⟩ = some (.int .i64 0) := B2.cell 5
    have t2 := B2.frozen 2
    have t3 := B2.frozen 3
    have t5 := B2.frozen 5
    have dr := T.cr (i := k) hk
    have dd := T.cd (i := k) hk
    simp only at dr dd
    rw [hr] at dr
    rw [hd] at dd
    by_cases c1 : had + 1 = d
    · subst c1
      by_cases c2 : k + 1 = rs.length
      · have l1 : rs.length ≤ k + 1 := by omega
        have ht : tick ⟨rs, ds, k, had, all, 0⟩ = (⟨rs, ds, k + 1, 0, all + 1, 2⟩, (k : Int), 2) := by unfold tick; rw [if_neg (by simp), if_pos hd.symm, if_pos c2]
        rw [ht]
        clear ht c2 hr hd h hk
        go_enter Tryz.func90, Tryz.ntmps90
        go_wp2_with fail
        rw [HW2.out]
        clear q0 q1 q2 q3 q4 q5 f2 f3 f4 f5 B HW2 cr cd
        go_quiet (fail)
        go_wp2_with fail
        go_ret2
        exact ⟨ret2 (by simp) rfl, (T.turn (only_setCell (only_setCell (only_setCell (World.grownBy.refl w2 (some p)) (p := ⟨p, 5, none⟩) (.inl rfl) (.int .i64 2)) (p := ⟨p, 2, none⟩) (.inl rfl) (.int .i64 ((k + 1 : Nat) : Int))) (p := ⟨p, 3, none⟩) (.inl rfl) (.int .i64 0)) (k := k + 1) (had := 0) (all := all + 1) (how := 2) (((B2.set_ 5 (.int .i64 2)).set_ 2 (.int .i64 ((k + 1 : Nat) : Int))).set_ 3 (.int .i64 0))).drewN _, only_drewN (only_setCell (only_setCell (only_setCell g2 (p := ⟨p, 5, none⟩) (.inl rfl) (.int .i64 2)) (p := ⟨p, 2, none⟩) (.inl rfl) (.int .i64 ((k + 1 : Nat) : Int))) (p := ⟨p, 3, none⟩) (.inl rfl) (.int .i64 0)) _⟩
      · have l1 : k + 2 ≤ rs.length := by omega
        have ht : tick ⟨rs, ds, k, had, all, 0⟩ = (⟨rs, ds, k + 1, 0, all + 1, 0⟩, (k : Int), 1) := by unfold tick; rw [if_neg (by simp), if_pos hd.symm, if_neg c2]
        rw [ht]
        clear ht c2 hr hd h hk
        go_enter Tryz.func90, Tryz.ntmps90
        go_wp2_with fail
        rw [HW2.out]
        clear q0 q1 q2 q3 q4 q5 f2 f3 f4 f5 B HW2 cr cd
        go_quiet (fail)
        go_wp2_with fail
        go_quiet (fail)
        go_wp2_with fail
        go_ret2
        exact ⟨ret2 (by simp) rfl, (T.turn (only_setCell (only_setCell (World.grownBy.refl w2 (some p)) (p := ⟨p, 2, none⟩) (.inl rfl) (.int .i64 ((k + 1 : Nat) : Int))) (p := ⟨p, 3, none⟩) (.inl rfl) (.int .i64 0)) (k := k + 1) (had := 0) (all := all + 1) (how := 0) ((B2.set_ 2 (.int .i64 ((k + 1 : Nat) : Int))).set_ 3 (.int .i64 0))).drewN _, only_drewN (only_setCell (only_setCell g2 (p := ⟨p, 2, none⟩) (.inl rfl) (.int .i64 ((k + 1 : Nat) : Int))) (p := ⟨p, 3, none⟩) (.inl rfl) (.int .i64 0)) _⟩
    · have b1 : (had + 1 == d) = false := by simpa using c1
      by_cases c3 : had + 1 = r
      · subst c3
        have ht : tick ⟨rs, ds, k, had, all, 0⟩ = (⟨rs, ds, k, had + 1, all + 1, 3⟩, (k : Int), 3) := by unfold tick; rw [if_neg (by simp), if_neg (by rw [hd]; exact c1), if_pos hr.symm]
        rw [ht]
        clear ht c1 hr hd h hk
        go_enter Tryz.func90, Tryz.ntmps90
        go_wp2_with fail
        rw [HW2.out]
        clear q0 q1 q2 q3 q4 q5 f2 f3 f4 f5 B HW2 cr cd
        go_quiet (fail)
        go_wp2_with fail
        go_quiet (fail)
        go_wp2_with fail
        go_quiet (fail)
        go_wp2_with fail
        go_ret2
        exact ⟨ret2 (by simp) rfl, (T.turn (only_setCell (World.grownBy.refl w2 (some p)) (p := ⟨p, 5, none⟩) (.inl rfl) (.int .i64 3)) (k := k) (had := had + 1) (all := all + 1) (how := 3) (B2.set_ 5 (.int .i64 3))).drewN _, only_drewN (only_setCell g2 (p := ⟨p, 5, none⟩) (.inl rfl) (.int .i64 3)) _⟩
      · have b3 : (had + 1 == r) = false := by simpa using c3
        have ht : tick ⟨rs, ds, k, had, all, 0⟩ = (⟨rs, ds, k, had + 1, all + 1, 0⟩, (k : Int), 0) := by unfold tick; rw [if_neg (by simp), if_neg (by rw [hd]; exact c1), if_neg (by rw [hr]; exact c3)]
        rw [ht]
        clear ht c1 c3 hr hd h hk
        go_enter Tryz.func90, Tryz.ntmps90
        go_wp2_with fail
        rw [HW2.out]
        clear q0 q1 q2 q3 q4 q5 f2 f3 f4 f5 B HW2 cr cd
        go_quiet (fail)
        go_wp2_with fail
        go_quiet (fail)
        go_wp2_with fail
        go_quiet (fail)
        go_wp2_with fail
        go_ret2
        exact ⟨ret2 rfl rfl, ((T.drewN _).drewN _).drewN _, only_drewN (only_drewN (only_drewN g2 _) _) _⟩
  · have ht : tick ⟨rs, ds, k, had, all, how⟩ = (⟨rs, ds, k, had, all, how⟩, -1, how) := by simp [tick, hh]
    rw [ht]
    have b0 : (how != 0) = true := by rw [bne_iff_ne]; exact hh
    clear ht hk
    go_enter Tryz.func90, Tryz.ntmps90
    go_wp2_with fail
    go_quiet (fail)
    go_wp2
    go_ret2
    exact ⟨rfl, h.drewN _, only_drewN (World.grownBy.refl _ _) _⟩
def dmd (dm : List Int) (i : Nat) : Int := max 1 (dm.getD i 1)
def dems (rs dm : List Int) : List Int := (List.range rs.length).map (dmd dm)
def jb0 (rs dm : List Int) : Jb := ⟨rs, dems rs dm, 0, 0, 0, 0⟩
theorem dems_length (rs dm : List Int) : (dems rs dm).length = rs.length := by simp [dems]
theorem dems_snoc (rs dm : List Int) (k : Nat) (h : k < rs.length) : (dems rs dm).take (k + 1) = (dems rs dm).take k ++ [dmd dm k] := by
  rw [List.take_succ_eq_append_getElem (by rw [dems_length]; exact h)]
  simp [dems]
theorem ints_snoc (l : List Int) (x : Int) : ints (l ++ [x]) = ints l ++ [.int .i64 x] := by simp [ints]
theorem own_far {w : World} {base : Nat} {e : TypeId} {size n : Nat} {v : Value} {xs : List Value} (h : w.ownsRow base e size v n xs) {p : Nat} {o : Nat} (hp : v.ownBlock ≠ some p) (u : Value) : (w.setCell ⟨p, o, none⟩ u).ownsRow base e size v n xs := by
  refine ⟨h.1, ?_⟩
  rcases h.2 with h0 | ⟨g, cap, cur, rfl, hb, hh, rest⟩
  · exact .inl h0
  · exact .inr ⟨g, cap, cur, rfl, hb, (Below.heap_setCell w ⟨p, o, none⟩ u g (fun e => hp (by simp [Value.ownBlock]; exact e))).trans hh, rest⟩
/-- The job that is being made, with the first k demands. -/
structure Mk (w wr : World) (p a ca : Nat) (rs : List Int) (v : Value) (ds : List Int) : Prop where
  hd : Blk wr p 186 #[.slice (some ⟨a, 0, none⟩) rs.length ca, v, .int .i64 0, .int .i64 0, .int .i64 0, .int .i64 0]
  rs : wr.ownsRow w.heap.size 2 1 (.slice (some ⟨a, 0, none⟩) rs.length ca) rs.length (ints rs)
  ds : wr.ownsRow (p + 1) 2 1 v ds.length (ints ds)
  b : Below w.heap.size w wr
  pw : w.heap.size ≤ p
  ap : a < p
set_option maxHeartbeats 4000000 in
theorem new_yes (A A' : Option Addr) (c c' : Nat) (rs dm : List Int) (w : World) (h : Nums w A rs) (h' : Nums w A' dm) (h0 : 0 < rs.length) (h8 : rs.length ≤ 8) (ho : rs.any odd = false) :
    Calls Tryz.prog 79 #[.slice A rs.length c, .slice A' dm.length c'] w fun e w' => ∃ p a ca b cb, e = .returned (.pointer (some ⟨p, 0, none⟩)) ∧ JobAt w' w.heap.size p a ca b cb (jb0 rs dm) ∧ Below w.heap.size w w' ∧ w.heap.size ≤ p := by
  obtain ⟨i0, hi0, hz0, hz1, hz2⟩ := info_parts Tryz.info2
  have Hz0 := Lib.hid hz0; clear hz0
  have Hz1 := Lib.hid hz1; clear hz1
  have Hz2 := Lib.hid hz2; clear hz2
  have Hi := Lib.hid hi0; clear hi0
  have HO := Lib.hid ho
  clear ho
  go_enter Tryz.func79, Tryz.ntmps79
  go_wp2_with (first
    | (go_at_call 72; refine (contains_any A c rs _ h h8).mono ?_; rintro e w' ⟨rfl, rfl⟩; rw [HO.out])
    | (go_at_call 39; refine (clone_any A c rs w h h8 h0).mono ?_; rintro e w1 ⟨a, ca, rfl, hown, hb⟩))
  obtain ⟨p, hp⟩ : ∃ p, w1.heap.size = p := ⟨_, rfl⟩
  have hap : a < p := by
    have := hown.lt a rfl
    omega
  have hpw : w.heap.size ≤ p := by rw [← hp]; exact hb.size
  have hM : Mk w (w1.alloc (.cells #[.slice (some ⟨a, 0, none⟩) rs.length ca, .slice none 0 0, .int .i64 0, .int .i64 0, .int .i64 0, .int .i64 0] 186)) p a ca rs (.slice none 0 0) [] := by
    refine ⟨?_, hown.alloc _, ?_, hb.alloc hb.size _, hpw, hap⟩
    · rw [← hp]; exact Blk.new w1 186 _
    · simpa [ints] using World.ownsRow_nil _ _ _ _
  obtain ⟨w2, hw2⟩ : ∃ w2, w1.alloc (.cells #[.slice (some ⟨a, 0, none⟩) rs.length ca, .slice none 0 0, .int .i64 0, .int .i64 0, .int .i64 0, .int .i64 0] 186) = w2 := ⟨_, rfl⟩
  rw [hw2] at hM ⊢
  rw [hp]
  clear hw2 hp hown hb
  go_loopw [28] (fun z wr => ∃ (k : Nat) (v : Value), k ≤ rs.length ∧ z = .int .i64 k ∧ Mk w wr p a ca rs v ((dems rs dm).take k)) (fun z _ => rs.length - (intOf z).toNat)
  case atStart => exact ⟨0, _, Nat.zero_le _, rfl, by simpa using hM⟩
  case round =>
    obtain ⟨k, v, hk, rfl, hR⟩ := hrel
    clear hM
    by_cases hlt : k < rs.length
    · have hds : ((dems rs dm).take k).length = k := by rw [List.length_take, dems_length]; omega
      have hO := hR.ds
      rw [hds] at hO
      have HD := Lib.hid hds
      have cp : wr.cell? ⟨p, 1, none⟩ = some v := hR.hd.cell 1
      have hpr : p < wr.heap.size := hR.hd.lt
      rcases h.below hR.b with hz | ⟨b1, off1, rfl, hb1, hc1⟩
      · rw [hz] at hlt; simp at hlt
      by_cases hkd : k < dm.length
      · rcases h'.below hR.b with hz | ⟨b2, off2, rfl, hb2, hc2⟩
        · rw [hz] at hkd; simp at hkd
        have d1 := hc2 k hkd
        clear hc1 hc2
        obtain ⟨y, hy⟩ : ∃ y, dm[k] = y := ⟨_, rfl⟩
        rw [hy] at d1
        have hg : dm.getD k 1 = y := by rw [List.getD_eq_getElem?_getD, List.getElem?_eq_getElem hkd]; simpa using hy
        by_cases hm : y ≤ 1
        · clear hy
          have hx : dmd dm k = 1 := by unfold dmd; rw [hg]; omega
          have HX := Lib.hid hx
          clear hx h h' hds hg
          go_wp2_with (at_builtin; refine wpList_append_own_at _ rfl (.tmp 45) (.tmp 47) 32 rfl (p + 1) 2 i0 _ 1 8 Tryz.underlying32 Hi.out Hz0.out Hz1.out Hz2.out rfl (by decide) v k (ints ((dems rs dm).take k)) rfl (hO.alloc _) ⟨wr.heap.size, 0, none⟩ 1 1 [.int .i64 1] rfl rfl ?c1 ?c2 (by unfold maxLen; omega) (by omega) (by simp; omega) ?c3)
          case c1 =>
            intro j u hj
            rw [add_none, Nat.zero_add, (Blk.new wr 2 _).cell j]
            simpa using hj
          case c2 =>
            intro u hu
            simp at hu
            rw [hu]
            rfl
          case c3 =>
            intro v' w' hown hgr _ _
            obtain ⟨g, cap', rfl⟩ : ∃ g cap', v' = .slice (some ⟨g, 0, none⟩) (k + 1) cap' := by
              rcases hown.2 with ⟨_, h⟩ | ⟨g, cap', _, h, _⟩
              · omega
              · exact ⟨g, cap', h⟩
            have hne : some p ≠ v.ownBlock := fun e => own_blk_ne hO hR.hd (by decide) e.symm
            have hna : some a ≠ v.ownBlock := by
              intro e
              have := hO.lt a e.symm
              have := hR.ap
              omega
            have hB2 := (hR.hd.alloc (.cells #[.int .i64 1] 2)).grown hgr hne
            have hA2 := own_keep (hR.rs.alloc (.cells #[.int .i64 1] 2)) hgr (.inr (by simpa [Value.ownBlock] using hna))
            have hne2 := own_blk_ne hown hB2 (by decide)
            have k0 : w'.cell? ⟨p, 1, none⟩ = some v := hB2.cell 1
            have k1 := hB2.frozen 1
            have hW2 : Below w.heap.size w w' := (hR.b.alloc hR.b.size _).grown hgr (by have := hR.b.size; simp; omega) (fun q e => by
              have := hO.lt q e
              have := hR.pw
              omega)
            have hap2 : (Value.slice (some ⟨a, 0, none⟩) rs.length ca).ownBlock ≠ some p := by
              simp only [Value.ownBlock]
              intro e
              injection e with e
              have := hR.ap
              omega
            have hM2 : Mk w (w'.setCell ⟨p, 1, none⟩ (.slice (some ⟨g, 0, none⟩) (k + 1) cap')) p a ca rs (.slice (some ⟨g, 0, none⟩) (k + 1) cap') ((dems rs dm).take (k + 1)) := by
              refine ⟨hB2.set_ 1 _, own_far (o := 1) hA2 hap2 _, ?_, hW2.setCell (p := ⟨p, 1, none⟩) hR.pw _, hR.pw, hR.ap⟩
              rw [dems_snoc rs dm k hlt, ints_snoc, List.length_append, HD.out, HX.out]
              exact own_far (o := 1) hown hne2 _
            have HM2 := Lib.hid hM2
            clear hB2 hA2 hne hna hne2 hW2 hap2 hM2 hown hgr hO hR HD HX
            go_wp2_with fail
            exact ⟨⟨k + 1, _, by omega, by go_num, HM2.out⟩, by simp [intOf]; omega⟩
        · have hm2 : 1 < y := by omega
          clear hy hm
          have hx : dmd dm k = y := by unfold dmd; rw [hg]; omega
          have HX := Lib.hid hx
          clear hx h h' hds hg
          go_wp2_with (at_builtin; refine wpList_append_own_at _ rfl (.tmp 45) (.tmp 47) 32 rfl (p + 1) 2 i0 _ 1 8 Tryz.underlying32 Hi.out Hz0.out Hz1.out Hz2.out rfl (by decide) v k (ints ((dems rs dm).take k)) rfl (hO.alloc _) ⟨wr.heap.size, 0, none⟩ 1 1 [.int .i64 y] rfl rfl ?c1 ?c2 (by unfold maxLen; omega) (by omega) (by simp; omega) ?c3)
          case c1 =>
            intro j u hj
            rw [add_none, Nat.zero_add, (Blk.new wr 2 _).cell j]
            simpa using hj
          case c2 =>
            intro u hu
            simp at hu
            rw [hu]
            rfl
          case c3 =>
            intro v' w' hown hgr _ _
            obtain ⟨g, cap', rfl⟩ : ∃ g cap', v' = .slice (some ⟨g, 0, none⟩) (k + 1) cap' := by
              rcases hown.2 with ⟨_, h⟩ | ⟨g, cap', _, h, _⟩
              · omega
              · exact ⟨g, cap', h⟩
            have hne : some p ≠ v.ownBlock := fun e => own_blk_ne hO hR.hd (by decide) e.symm
            have hna : some a ≠ v.ownBlock := by
              intro e
              have := hO.lt a e.symm
              have := hR.ap
              omega
            have hB2 := (hR.hd.alloc (.cells #[.int .i64 y] 2)).grown hgr hne
            have hA2 := own_keep (hR.rs.alloc (.cells #[.int .i64 y] 2)) hgr (.inr (by simpa [Value.ownBlock] using hna))
            have hne2 := own_blk_ne hown hB2 (by decide)
            have k0 : w'.cell? ⟨p, 1, none⟩ = some v := hB2.cell 1
            have k1 := hB2.frozen 1
            have hW2 : Below w.heap.size w w' := (hR.b.alloc hR.b.size _).grown hgr (by have := hR.b.size; simp; omega) (fun q e => by
              have := hO.lt q e
              have := hR.pw
              omega)
            have hap2 : (Value.slice (some ⟨a, 0, none⟩) rs.length ca).ownBlock ≠ some p := by
              simp only [Value.ownBlock]
              intro e
              injection e with e
              have := hR.ap
              omega
            have hM2 : Mk w (w'.setCell ⟨p, 1, none⟩ (.slice (some ⟨g, 0, none⟩) (k + 1) cap')) p a ca rs (.slice (some ⟨g, 0, none⟩) (k + 1) cap') ((dems rs dm).take (k + 1)) := by
              refine ⟨hB2.set_ 1 _, own_far (o := 1) hA2 hap2 _, ?_, hW2.setCell (p := ⟨p, 1, none⟩) hR.pw _, hR.pw, hR.ap⟩
              rw [dems_snoc rs dm k hlt, ints_snoc, List.length_append, HD.out, HX.out]
              exact own_far (o := 1) hown hne2 _
            have HM2 := Lib.hid hM2
            clear hB2 hA2 hne hna hne2 hW2 hap2 hM2 hown hgr hO hR HD HX
            go_wp2_with fail
            exact ⟨⟨k + 1, _, by omega, by go_num, HM2.out⟩, by simp [intOf]; omega⟩
      · clear hc1
        have hx : dmd dm k = 1 := by unfold dmd; rw [List.getD_eq_getElem?_getD, List.getElem?_eq_none (by omega)]; rfl
        have HX := Lib.hid hx
        clear hx h h' hds
        go_wp2_with (at_builtin; refine wpList_append_own_at _ rfl (.tmp 45) (.tmp 47) 32 rfl (p + 1) 2 i0 _ 1 8 Tryz.underlying32 Hi.out Hz0.out Hz1.out Hz2.out rfl (by decide) v k (ints ((dems rs dm).take k)) rfl (hO.alloc _) ⟨wr.heap.size, 0, none⟩ 1 1 [.int .i64 1] rfl rfl ?c1 ?c2 (by unfold maxLen; omega) (by omega) (by simp; omega) ?c3)
        case c1 =>
          intro j u hj
          rw [add_none, Nat.zero_add, (Blk.new wr 2 _).cell j]
          simpa using hj
        case c2 =>
          intro u hu
          simp at hu
          rw [hu]
          rfl
        case c3 =>
          intro v' w' hown hgr _ _
          obtain ⟨g, cap', rfl⟩ : ∃ g cap', v' = .slice (some ⟨g, 0, none⟩) (k + 1) cap' := by
            rcases hown.2 with ⟨_, h⟩ | ⟨g, cap', _, h, _⟩
            · omega
            · exact ⟨g, cap', h⟩
          have hne : some p ≠ v.ownBlock := fun e => own_blk_ne hO hR.hd (by decide) e.symm
          have hna : some a ≠ v.ownBlock := by
            intro e
            have := hO.lt a e.symm
            have := hR.ap
            omega
          have hB2 := (hR.hd.alloc (.cells #[.int .i64 1] 2)).grown hgr hne
          have hA2 := own_keep (hR.rs.alloc (.cells #[.int .i64 1] 2)) hgr (.inr (by simpa [Value.ownBlock] using hna))
          have hne2 := own_blk_ne hown hB2 (by decide)
          have k0 : w'.cell? ⟨p, 1, none⟩ = some v := hB2.cell 1
          have k1 := hB2.frozen 1
          have hW2 : Below w.heap.size w w' := (hR.b.alloc hR.b.size _).grown hgr (by have := hR.b.size; simp; omega) (fun q e => by
            have := hO.lt q e
            have := hR.pw
            omega)
          have hap2 : (Value.slice (some ⟨a, 0, none⟩) rs.length ca).ownBlock ≠ some p := by
            simp only [Value.ownBlock]
            intro e
            injection e with e
            have := hR.ap
            omega
          have hM2 : Mk w (w'.setCell ⟨p, 1, none⟩ (.slice (some ⟨g, 0, none⟩) (k + 1) cap')) p a ca rs (.slice (some ⟨g, 0, none⟩) (k + 1) cap') ((dems rs dm).take (k + 1)) := by
            refine ⟨hB2.set_ 1 _, own_far (o := 1) hA2 hap2 _, ?_, hW2.setCell (p := ⟨p, 1, none⟩) hR.pw _, hR.pw, hR.ap⟩
            rw [dems_snoc rs dm k hlt, ints_snoc, List.length_append, HD.out, HX.out]
            exact own_far (o := 1) hown hne2 _
          have HM2 := Lib.hid hM2
          clear hB2 hA2 hne hna hne2 hW2 hap2 hM2 hown hgr hO hR HD HX
          go_wp2_with fail
          exact ⟨⟨k + 1, _, by omega, by go_num, HM2.out⟩, by simp [intOf]; omega⟩
    · obtain rfl : k = rs.length := by omega
      have ht : (dems rs dm).take rs.length = dems rs dm := by rw [List.take_of_length_le (by rw [dems_length]; exact Nat.le_refl _)]
      rw [ht] at hR
      have hO := hR.ds
      rw [dems_length] at hO
      obtain ⟨b, cb, rfl⟩ : ∃ b cb, v = .slice (some ⟨b, 0, none⟩) rs.length cb := by
        rcases hO.2 with ⟨_, h⟩ | ⟨g, cap, _, h, _⟩
        · omega
        · exact ⟨g, cap, h⟩
      have hbp : b ≠ p := by
        have := hO.lt b rfl
        omega
      go_wp2_with fail
      go_ret
      refine ⟨p, a, ca, b, cb, rfl, ⟨hR.hd, hR.rs, ?_, dems_length rs dm, Nat.ne_of_lt hR.ap, hbp⟩, hR.b, hR.pw⟩
      rcases hO with ⟨q1, q2⟩
      refine ⟨q1, ?_⟩
      rcases q2 with q2 | ⟨g, cap, cur, e, hg, rest⟩
      · exact .inl q2
      · exact .inr ⟨g, cap, cur, e, by have := hR.pw; omega, rest⟩
theorem mid_any {base p a ca b cb : Nat} {j : Jb} (w : World) (h : JobAt w base p a ca b cb j) :
    Calls Tryz.prog 91 #[.pointer (some ⟨p, 0, none⟩)] w fun e w' => e = .returned (.bool (decide (0 < j.had))) ∧ w = w' := by
  have q3 : w.cell? ⟨p, 3, none⟩ = some (.int .i64 j.had) := h.hd.cell 3
  clear h
  go_enter Tryz.func91, Tryz.ntmps91
  go_wp2
  go_ret
  exact ⟨rfl, rfl⟩
end Go.Proofs.YtdgfjpbjiccllaaGreatDoor.J
/- What the functions of package police come to. -/
namespace Go.Proofs.YtdgfjpbjiccllaaGreatDoor.P
open Go.RowKit
set_option maxRecDepth 100000
/-- A watch: its period, the last tick that was noted, whether there was one. -/
structure Wt where
  t : Int
  last : Int
  on : Bool
def Wt.cells (x : Wt) : List Value := [.int .i64 x.t, .int .i64 x.last, .bool x.on]
def flat (L : List Wt) : List Value := L.flatMap Wt.cells
theorem flat_length (L : List Wt) : (flat L).length = L.length * 3 := by
  unfold flat
  induction L with
  | nil => rfl
  | cons x L ih => simp only [List.flatMap_cons, List.length_append, ih, List.length_cons]; show 3 + _ = _; omega
theorem flat_at (L : List Wt) : ∀ (i j : Nat) (hi : i < L.length), j < 3 → (flat L)[i * 3 + j]? = (L[i]'hi).cells[j]? := by
  unfold flat
  induction L with
  | nil => intro i j hi; simp at hi
  | cons x L ih =>
    intro i j hi hj
    rcases i with _ | i
    · simp only [List.flatMap_cons, Nat.zero_mul, Nat.zero_add, List.getElem_cons_zero]
      exact List.getElem?_append_left hj
    · have := ih i j (by simpa using hi) hj
      simp only [List.flatMap_cons, List.getElem_cons_succ]
      rw [List.getElem?_append_right (by show 3 ≤ _; omega)]
      rw [show (i + 1) * 3 + j - x.cells.length = i * 3 + j from by show (i + 1) * 3 + j - 3 = _; omega]
      exact this
theorem flat_set (L : List Wt) : ∀ (i : Nat) (x : Wt), i < L.length → ∀ (h : i < L.length), x.t = L[i].t →
    ((flat L).set (i * 3 + 1) (.int .i64 x.last)).set (i * 3 + 2) (.bool x.on) = flat (L.set i x) := by
  unfold flat
  induction L with
  | nil => intro i x hi; simp at hi
  | cons y L ih =>
    intro i x hi h ht
    rcases i with _ | i
    · simp at ht
      simp [Wt.cells, ht]
    · have := ih i x (by simpa using hi) (by simpa using hi) (by simpa using ht)
      simp only [List.set_cons_succ, List.flatMap_cons, ← this]
      have e : ∀ (l r : List Value) (k : Nat) (v : Value), l.length = 3 → (l ++ r).set (k + 3) v = l ++ r.set k v := by
        intro l r k v hl
        rw [List.set_append_right _ _ (by omega)]
        congr 2
        omega
      rw [show (i + 1) * 3 + 1 = (i * 3 + 1) + 3 from by omega, e _ _ _ _ rfl, show (i + 1) * 3 + 2 = (i * 3 + 2) + 3 from by omega, e _ _ _ _ rfl]
/-- A Police at block p: its slice v is a row of the call's own. -/
structure Pol (w : World) (base p : Nat) (v : Value) (L : List Wt) : Prop where
  hd : Blk w p 138 #[v]
  own : w.ownsRow base 140 3 v L.length (flat L)
/-- The same with the row's block named. -/
structure PolAt (w : World) (base p a cap : Nat) (L : List Wt) : Prop where
  pol : Pol w base p (.slice (some ⟨a, 0, none⟩) L.length cap) L
  ne : a ≠ p
section
variable {w w' : World} {base p a cap : Nat} {v : Value} {L : List Wt}
theorem Pol.keep {row : Option Nat} (h : Pol w base p v L) (hg : w.grownBy w' row) (h1 : some p ≠ row) (h2 : v.ownBlock = none ∨ v.ownBlock ≠ row) : Pol w' base p v L := by
  refine ⟨h.hd.grown hg h1, h.own.1, ?_⟩
  rcases h.own.2 with h0 | ⟨g, c, cur, rfl, hb, hh, rest⟩
  · exact .inl h0
  · refine .inr ⟨g, c, cur, rfl, hb, ?_, rest⟩
    have hne : some g ≠ row := by
      rcases h2 with h2 | h2
      · simp [Value.ownBlock] at h2
      · exact h2
    exact Blk.grown hh hg hne
theorem Pol.nil (h : Pol w base p v []) : v = .slice none 0 0 ∨ ∃ a c, v = .slice (some ⟨a, 0, none⟩) 0 c := by
  rcases h.own.2 with ⟨h0, _⟩ | ⟨g, c, cur, h0, _⟩
  · exact .inl h0
  · exact .inr ⟨g, c, h0⟩
theorem PolAt.row (h : PolAt w base p a cap L) : ∃ cur, Blk w a 140 cur ∧ cur.size = cap * 3 ∧ L.length ≤ cap ∧ cur.toList.take (L.length * 3) = flat L := by
  rcases h.pol.own.2 with ⟨h0, _⟩ | ⟨g, c, cur, h0, hb, hh, hn, hm, hs, ht⟩
  · cases h0
  · injection h0 with h0 h1 h2
    injection h0 with h0
    injection h0 with h0
    subst h0 h2
    exact ⟨cur, hh, hs, hn, ht⟩
theorem PolAt.at_ (h : PolAt w base p a cap L) {i j : Nat} (hi : i < L.length) (hj : j < 3) : w.cell? ⟨a, i * 3 + j, none⟩ = L[i].cells[j]? := by
  obtain ⟨cur, hb, hs, hn, ht⟩ := h.row
  rw [hb.cell, ← flat_at L i j hi hj, ← ht, List.getElem?_take_of_lt (by omega)]
  simp
theorem PolAt.c0 (h : PolAt w base p a cap L) {i : Nat} (hi : i < L.length) : w.cell? ⟨a, i * 3, none⟩ = some (.int .i64 L[i].t) := h.at_ hi (j := 0) (by omega)
theorem PolAt.c1 (h : PolAt w base p a cap L) {i : Nat} (hi : i < L.length) : w.cell? ⟨a, i * 3 + 1, none⟩ = some (.int .i64 L[i].last) := h.at_ hi (j := 1) (by omega)
theorem PolAt.c2 (h : PolAt w base p a cap L) {i : Nat} (hi : i < L.length) : w.cell? ⟨a, i * 3 + 2, none⟩ = some (.bool L[i].on) := h.at_ hi (j := 2) (by omega)
theorem PolAt.fr (h : PolAt w base p a cap L) (i : Nat) : w.frozen? ⟨a, i, none⟩ = false := by
  obtain ⟨cur, hb, _⟩ := h.row
  exact hb.frozen i
theorem PolAt.slice (h : PolAt w base p a cap L) : w.cell? ⟨p, 0, none⟩ = some (.slice (some ⟨a, 0, none⟩) L.length cap) := by rw [h.pol.hd.cell]; rfl
theorem PolAt.keep {row : Option Nat} (h : PolAt w base p a cap L) (hg : w.grownBy w' row) (h1 : some p ≠ row) (h2 : some a ≠ row) : PolAt w' base p a cap L :=
  ⟨h.pol.keep hg h1 (.inr (by simpa [Value.ownBlock] using h2)), h.ne⟩
theorem PolAt.drew (h : PolAt w base p a cap L) : PolAt w.drew base p a cap L := ⟨⟨h.pol.hd, h.pol.own⟩, h.ne⟩
theorem PolAt.drewN (h : PolAt w base p a cap L) (n : Nat) : PolAt (w.drewN n) base p a cap L := ⟨⟨h.pol.hd, h.pol.own⟩, h.ne⟩
theorem PolAt.lt (h : PolAt w base p a cap L) : a < w.heap.size ∧ p < w.heap.size ∧ base ≤ a := by
  obtain ⟨cur, hb, _⟩ := h.row
  refine ⟨hb.lt, h.pol.hd.lt, ?_⟩
  rcases h.pol.own.2 with ⟨h0, _⟩ | ⟨g, c, cur, h0, hb, _⟩
  · cases h0
  · injection h0 with h0
    injection h0 with h0
    injection h0 with h0
    subst h0
    exact hb
theorem PolAt.set (h : PolAt w base p a cap L) {i : Nat} (hi : i < L.length) (t : Int) :
    PolAt ((w.setCell ⟨a, i * 3 + 1, none⟩ (.int .i64 t)).setCell ⟨a, i * 3 + 2, none⟩ (.bool true)) base p a cap (L.set i ⟨L[i].t, t, true⟩) := by
  refine ⟨⟨?_, ?_⟩, h.ne⟩
  · rw [List.length_set]
    exact (h.pol.hd.far (fun e => h.ne e.symm) _).far (fun e => h.ne e.symm) _
  · rw [List.length_set]
    refine ⟨by rw [flat_length, List.length_set], .inr ?_⟩
    rcases h.pol.own.2 with ⟨h0, _⟩ | ⟨g, c, cur, h0, hb, hh, hn, hm, hs, ht⟩
    · cases h0
    · injection h0 with h0 h1 h2
      injection h0 with h0
      injection h0 with h0
      subst h0 h2
      have hB : Blk w a 140 cur := hh
      refine ⟨a, cap, _, rfl, hb, (hB.set_ (i * 3 + 1) (.int .i64 t)).set_ (i * 3 + 2) (.bool true), hn, hm, by simpa using hs, ?_⟩
      rw [← flat_set L i ⟨L[i].t, t, true⟩ hi hi rfl, ← ht]
      simp only [Array.toList_setIfInBounds]
      rw [List.take_set, List.take_set]
end
def early (x : Wt) (t : Int) : Bool := x.on && (decide (t < x.last) || decide (t - x.last < x.t))
def earlyL (L : List Wt) (i t : Int) : Bool := decide (0 ≤ i) && (L[i.toNat]?.map (early · t)).getD false
def noteOk (L : List Wt) (i t : Int) : Bool := decide (0 ≤ i) && decide (i < L.length) && decide (0 ≤ t) && !earlyL L i t
def noteAt (L : List Wt) (n : Nat) (t : Int) : List Wt := L.set n ⟨(L[n]?.map Wt.t).getD 0, t, true⟩
def noteL (L : List Wt) (i t : Int) : List Wt := if noteOk L i t then noteAt L i.toNat t else L
def OkL (L : List Wt) : Prop := ∀ x ∈ L, 0 ≤ x.last ∧ x.last ≤ 9223372036854775807
theorem noteAt_in {L : List Wt} {n : Nat} (h : n < L.length) (t : Int) : noteAt L n t = L.set n ⟨L[n].t, t, true⟩ := by simp [noteAt, h]
theorem earlyL_in {L : List Wt} {n : Nat} (h : n < L.length) (t : Int) : earlyL L n t = early L[n] t := by simp [earlyL, h]
theorem OkL.note {L : List Wt} (h : OkL L) (i t : Int) (h0 : t ≤ 9223372036854775807) : OkL (noteL L i t) := by
  unfold noteL
  split
  · rename_i hk
    intro x hx
    unfold noteAt at hx
    rcases List.mem_or_eq_of_mem_set hx with hx | rfl
    · exact h x hx
    · simp [noteOk] at hk
      exact ⟨by simpa using hk.1.2, h0⟩
  · exact h
theorem noteL_length (L : List Wt) (i t : Int) : (noteL L i t).length = L.length := by
  unfold noteL noteAt
  split <;> simp
theorem at_yes {base p a cap : Nat} {L : List Wt} (n : Nat) (hn : n < L.length) (w : World) (h : PolAt w base p a cap L) :
    Calls Tryz.prog 120 #[.pointer (some ⟨p, 0, none⟩), .int .i64 n] w fun e w' => e = .returned (.pointer (some ⟨a, n * 3, none⟩)) ∧ w = w' := by
  have c := h.slice
  clear h
  go_enter Tryz.func120, Tryz.ntmps120
  go_wp2
  go_ret
  exact ⟨rfl, rfl⟩
set_option maxHeartbeats 1000000 in
theorem early_yes {base p a cap : Nat} {L : List Wt} (n : Nat) (t : Int) (hn : n < L.length) (hL : OkL L) (h0 : -9223372036854775808 ≤ t) (h1 : t ≤ 9223372036854775807) (w : World) (h : PolAt w base p a cap L) :
    Calls Tryz.prog 76 #[.pointer (some ⟨p, 0, none⟩), .int .i64 n, .int .i64 t] w fun e w' => e = .returned (.bool (earlyL L n t)) ∧ ∃ m, w.drewN m = w' := by
  rw [earlyL_in hn]
  obtain ⟨hl0, hl1⟩ := hL L[n] (List.getElem_mem hn)
  have c0 := h.c0 hn
  have c1 := h.c1 hn
  have c2 := h.c2 hn
  obtain ⟨x, hx⟩ : ∃ x, L[n] = x := ⟨_, rfl⟩
  rw [hx] at c0 c1 c2 hl0 hl1 ⊢
  obtain ⟨pe, la, on⟩ := x
  simp only at c0 c1 c2 hl0 hl1
  cases on with
  | false =>
    rw [show early ⟨pe, la, false⟩ t = false from by simp [early]]
    clear hL hx
    go_enter Tryz.func76, Tryz.ntmps76
    go_wp2_with (go_at_call 120; refine (at_yes n hn _ h).mono ?_; rintro e w' ⟨rfl, rfl⟩)
    go_quiet (fail)
    go_wp2
    go_ret
    exact ⟨rfl, _, rfl⟩
  | true =>
    by_cases hlt : t < la
    · rw [show early ⟨pe, la, true⟩ t = true from by simp [early, hlt]]
      have hd : decide (t < la) = true := by simpa using hlt
      clear hL hx
      go_enter Tryz.func76, Tryz.ntmps76
      go_wp2_with (go_at_call 120; refine (at_yes n hn _ h).mono ?_; rintro e w' ⟨rfl, rfl⟩)
      go_quiet (fail)
      go_wp2
      go_ret
      exact ⟨rfl, _, rfl⟩
    · rw [show early ⟨pe, la, true⟩ t = decide (t - la < pe) from by simp [early, hlt]]
      have hd : decide (t < la) = false := by simpa using hlt
      have hs : IntKind.i64.wrap (t - la) = t - la := IntWalk.i64_in _ (by omega)
      clear hL hx h0 h1 hl0 hl1
      go_enter Tryz.func76, Tryz.ntmps76
      go_wp2_with (go_at_call 120; refine (at_yes n hn _ h).mono ?_; rintro e w' ⟨rfl, rfl⟩)
      go_quiet (fail)
      go_wp2
      go_ret
      exact ⟨rfl, _, rfl⟩
set_option maxHeartbeats 1000000 in
theorem note_yes {base p a cap : Nat} {L : List Wt} (n : Nat) (t : Int) (hn : n < L.length) (hL : OkL L) (h0 : -9223372036854775808 ≤ t) (h1 : t ≤ 9223372036854775807) (w : World) (h : PolAt w base p a cap L) :
    Calls Tryz.prog 78 #[.pointer (some ⟨p, 0, none⟩), .int .i64 n, .int .i64 t] w fun e w' =>
      e = .returned (.bool (noteOk L n t)) ∧ PolAt w' base p a cap (noteL L n t) ∧ w.grownBy w' (some a) := by
  have Hat := fun W h => at_yes (base := base) (p := p) (a := a) (cap := cap) (L := L) n hn W h
  by_cases ht : t < 0
  · have e1 : noteOk L n t = false := by simp [noteOk, show ¬ 0 ≤ t from by omega]
    have e2 : noteL L n t = L := by simp [noteL, e1]
    rw [e1, e2]
    clear e1 e2
    go_enter Tryz.func78, Tryz.ntmps78
    go_wp2_with (go_at_call 120; refine (at_yes n hn _ h).mono ?_; rintro e w' ⟨rfl, rfl⟩)
    go_ret
    exact ⟨rfl, h, World.grownBy.refl _ _⟩
  · have hE := fun W h => early_yes (base := base) (p := p) (a := a) (cap := cap) (L := L) n t hn hL h0 h1 W h
    cases he : earlyL L n t with
    | true =>
      have e1 : noteOk L n t = false := by simp [noteOk, he]
      have e2 : noteL L n t = L := by simp [noteL, e1]
      rw [e1, e2]
      have HE := Lib.hid he
      clear e1 e2 he hL h0 h1
      go_enter Tryz.func78, Tryz.ntmps78
      go_wp2_with (first
        | (go_at_call 120; refine (at_yes n hn _ h).mono ?_; rintro e w' ⟨rfl, rfl⟩)
        | (go_at_call 76; refine (hE _ h).mono ?_; rintro e w' ⟨rfl, m, rfl⟩; rw [HE.out]))
      go_ret
      exact ⟨rfl, h.drewN m, only_drewN (World.grownBy.refl _ _) _⟩
    | false =>
      have e1 : noteOk L n t = true := by simp [noteOk, he, hn]; omega
      have e2 : noteL L n t = L.set n ⟨L[n].t, t, true⟩ := by simp [noteL, e1, noteAt_in hn]
      rw [e1, e2]
      have HE := Lib.hid he
      have c1 := h.c1 hn
      have c2 := h.c2 hn
      have f1 := h.fr (n * 3 + 1)
      have f2 := h.fr (n * 3 + 2)
      clear e1 e2 he hL h0 h1
      go_enter Tryz.func78, Tryz.ntmps78
      go_wp2_with (first
        | (go_at_call 120; refine (at_yes n hn _ h).mono ?_; rintro e w' ⟨rfl, rfl⟩)
        | (go_at_call 76; refine (hE _ h).mono ?_; rintro e w' ⟨rfl, m, rfl⟩; rw [HE.out]))
      go_ret
      exact ⟨rfl, (h.set hn t).drewN m, only_drewN (only_setCell (only_setCell (World.grownBy.refl w (some a)) (p := ⟨a, n * 3 + 1, none⟩) (.inl rfl) _) (p := ⟨a, n * 3 + 2, none⟩) (.inl rfl) _) m⟩
def odd (z : Int) : Bool := decide (z < 1) || decide (10000 < z)
def mkW (z : Int) : Wt := ⟨z, 0, false⟩
theorem odd_any (z : Int) (w : World) : Calls Tryz.prog 73 #[.int .i64 z] w fun e w' => e = .returned (.bool (odd z)) ∧ w = w' := by
  unfold odd
  by_cases h1 : z < 1
  · have d1 : decide (z < 1) = true := by simpa using h1
    rw [d1]
    go_enter Tryz.func73, Tryz.ntmps73
    go_wp2
    go_ret
    exact ⟨rfl, rfl⟩
  · have d1 : decide (z < 1) = false := by simpa using h1
    rw [d1]
    go_enter Tryz.func73, Tryz.ntmps73
    go_wp2
    go_ret
    exact ⟨rfl, rfl⟩
set_option maxHeartbeats 400000 in
theorem index_none (A : Option Addr) (c : Nat) (zs : List Int) (w : World) (h : Nums w A zs) (hl : zs.length ≤ 8) (ho : ∀ i (h : i < zs.length), odd zs[i] = false) :
    Calls Tryz.prog 117 #[.slice A zs.length c, .func (.func 73) #[] #[]] w fun e w' => e = .returned (.int .i64 (-1)) ∧ w = w' := by
  have HO := Lib.hid ho
  clear ho
  go_enter Tryz.func117, Tryz.ntmps117
  go_wp2_with fail
  go_loop [8] (fun z => ∃ k : Nat, k ≤ zs.length ∧ z = .int .i64 k) (fun z => zs.length - (intOf z).toNat)
  case atStart => exact ⟨0, Nat.zero_le _, rfl⟩
  case round =>
    obtain ⟨k, hk, rfl⟩ := hrel
    by_cases hlt : k < zs.length
    · rcases h with h | ⟨b, off, rfl, hb, hc⟩
      · rw [h] at hlt; simp at hlt
      have c0 := hc k hlt
      have HK := HO.out k hlt
      have HK := Lib.hid HK
      go_wp2_with (go_at_call 73; refine (odd_any _ _).mono ?_; rintro e w' ⟨rfl, rfl⟩; rw [HK.out])
      go_round
      case rel => exact ⟨k + 1, by omega, by go_num⟩
      case measure => simp [intOf]; omega
    · go_wp2
      go_ret
      exact ⟨rfl, rfl⟩
set_option maxHeartbeats 400000 in
theorem index_some (A : Option Addr) (c : Nat) (zs : List Int) (w : World) (h : Nums w A zs) (hl : zs.length ≤ 8) (m : Nat) (hm : m < zs.length) (hom : odd zs[m] = true) (ho : ∀ i (h : i < m), odd (zs[i]'(by omega)) = false) :
    Calls Tryz.prog 117 #[.slice A zs.length c, .func (.func 73) #[] #[]] w fun e w' => e = .returned (.int .i64 m) ∧ w = w' := by
  have HO := Lib.hid ho
  have HM := Lib.hid hom
  clear ho hom
  rcases h with h | ⟨b, off, rfl, hb, hc⟩
  · rw [h] at hm; simp at hm
  go_enter Tryz.func117, Tryz.ntmps117
  go_wp2_with fail
  go_loop [8] (fun z => ∃ k : Nat, k ≤ m ∧ z = .int .i64 k) (fun z => zs.length - (intOf z).toNat)
  case atStart => exact ⟨0, Nat.zero_le _, rfl⟩
  case round =>
    obtain ⟨k, hk, rfl⟩ := hrel
    have hlt : k < zs.length := by omega
    have c0 := hc k hlt
    by_cases hkm : k = m
    · subst hkm
      go_wp2_with (go_at_call 73; refine (odd_any _ _).mono ?_; rintro e w' ⟨rfl, rfl⟩; rw [HM.out])
      go_ret
      exact ⟨rfl, rfl⟩
    · have HK := HO.out k (by omega)
      have HK := Lib.hid HK
      go_wp2_with (go_at_call 73; refine (odd_any _ _).mono ?_; rintro e w' ⟨rfl, rfl⟩; rw [HK.out])
      go_round
      case rel => exact ⟨k + 1, by omega, by go_num⟩
      case measure => simp [intOf]; omega
theorem contains_any (A : Option Addr) (c : Nat) (zs : List Int) (w : World) (h : Nums w A zs) (hl : zs.length ≤ 8) :
    Calls Tryz.prog 72 #[.slice A zs.length c, .func (.func 73) #[] #[]] w fun e w' => e = .returned (.bool (zs.any odd)) ∧ w = w' := by
  cases ha : zs.any odd with
  | false =>
    have ho : ∀ i (h : i < zs.length), odd zs[i] = false := by
      intro i hi
      have := List.any_eq_false.1 ha zs[i] (List.getElem_mem hi)
      simpa using this
    have HO := Lib.hid ho
    clear ho ha
    go_enter Tryz.func72, Tryz.ntmps72
    go_wp2_with (go_at_call 117; refine (index_none A c zs _ h hl HO.out).mono ?_; rintro e w' ⟨rfl, rfl⟩)
    go_ret
    exact ⟨rfl, rfl⟩
  | true =>
    obtain ⟨m, hm, hom, ho⟩ : ∃ m, ∃ (hm : m < zs.length), odd zs[m] = true ∧ ∀ i (h : i < m), odd (zs[i]'(by omega)) = false := by
      have hf : zs.findIdx odd < zs.length := by
        rw [List.findIdx_lt_length]
        obtain ⟨x, hx, hox⟩ := List.any_eq_true.1 ha
        exact ⟨x, hx, hox⟩
      refine ⟨zs.findIdx odd, hf, List.findIdx_getElem, fun i hi => ?_⟩
      have := List.not_of_lt_findIdx hi
      simpa using this
    have HO := Lib.hid ho
    have HM := Lib.hid hom
    clear ho hom ha
    go_enter Tryz.func72, Tryz.ntmps72
    go_wp2_with (go_at_call 117; refine (index_some A c zs _ h hl m hm HM.out HO.out).mono ?_; rintro e w' ⟨rfl, rfl⟩)
    go_ret
    exact ⟨rfl, rfl⟩
theorem Tryz.info140 : (Tryz.prog.info? 140).map (fun i => (i.zero, i.size, i.bytes)) = some (some (.agg #[.int .i64 0, .int .i64 0, .bool false]), 3, 24) := by kernel_rfl
theorem flat_snoc (L : List Wt) (x : Wt) : flat (L ++ [x]) = flat L ++ x.cells := by simp [flat]
theorem take_snoc (zs : List Int) (k : Nat) (h : k < zs.length) : (zs.map mkW).take (k + 1) = (zs.map mkW).take k ++ [mkW zs[k]] := by
  rw [List.take_succ_eq_append_getElem (by simpa using h)]; simp
theorem own_far {w : World} {base : Nat} {e : TypeId} {size n : Nat} {v : Value} {xs : List Value} (h : w.ownsRow base e size v n xs) {p : Nat} {o : Nat} (hp : v.ownBlock ≠ some p) (u : Value) : (w.setCell ⟨p, o, none⟩ u).ownsRow base e size v n xs := by
  refine ⟨h.1, ?_⟩
  rcases h.2 with h0 | ⟨g, cap, cur, rfl, hb, hh, rest⟩
  · exact .inl h0
  · exact .inr ⟨g, cap, cur, rfl, hb, (Below.heap_setCell w ⟨p, o, none⟩ u g (fun e => hp (by simp [Value.ownBlock]; exact e))).trans hh, rest⟩
set_option maxHeartbeats 1000000 in
theorem new_yes (A : Option Addr) (c : Nat) (zs : List Int) (w : World) (h : Nums w A zs) (h8 : zs.length ≤ 8) (ha : zs.any odd = false) :
    Calls Tryz.prog 45 #[.slice A zs.length c] w fun e w' => ∃ v, e = .returned (.pointer (some ⟨w.heap.size, 0, none⟩)) ∧ Pol w' (w.heap.size + 1) w.heap.size v (zs.map mkW) ∧ Below w.heap.size w w' := by
  obtain ⟨i0, hi0, hz0, hz1, hz2⟩ := info_parts Tryz.info140
  have Hz0 := Lib.hid hz0; clear hz0
  have Hz1 := Lib.hid hz1; clear hz1
  have Hz2 := Lib.hid hz2; clear hz2
  have Hi := Lib.hid hi0; clear hi0
  have HA := Lib.hid ha
  clear ha
  go_enter Tryz.func45, Tryz.ntmps45
  go_wp2_with (go_at_call 72; refine (contains_any A c zs _ h h8).mono ?_; rintro e w' ⟨rfl, rfl⟩; rw [HA.out])
  have hN : Nums (w.alloc (.cells #[.slice none 0 0] 138)) A zs := h.below ((Below.refl _ _).alloc (Nat.le_refl _) _)
  go_loopw [17] (fun z wr => ∃ (k : Nat) (v : Value), k ≤ zs.length ∧ z = .int .i64 k ∧ Blk wr w.heap.size 138 #[v] ∧ wr.ownsRow (w.heap.size + 1) 140 3 v k (flat ((zs.map mkW).take k)) ∧ Below w.heap.size w wr ∧ w.heap.size < wr.heap.size) (fun z _ => zs.length - (intOf z).toNat)
  case atStart =>
    refine ⟨0, .slice none 0 0, Nat.zero_le _, rfl, Blk.new w 138 _, ?_, (Below.refl _ _).alloc (Nat.le_refl _) _, by simp⟩
    simpa [flat] using World.ownsRow_nil _ _ _ _
  case round =>
    obtain ⟨k, v, hk, rfl, hB, hO, hW, hS⟩ := hrel
    by_cases hlt : k < zs.length
    · have hNr := h.below hW
      rcases hNr with h0 | ⟨b, off, rfl, hb, hc⟩
      · rw [h0] at hlt; simp at hlt
      have c0 := hc k hlt
      have cp : wr.cell? ⟨w.heap.size, 0, none⟩ = some v := hB.cell 0
      clear h hN hc
      go_wp2_with (at_builtin; refine wpList_append_own_at _ rfl (.tmp 25) (.tmp 28) 136 rfl (w.heap.size + 1) 140 i0 _ 3 24 Tryz.underlying136 Hi.out Hz0.out Hz1.out Hz2.out rfl (by decide) v k (flat ((zs.map mkW).take k)) rfl (hO.alloc _) ⟨wr.heap.size, 0, none⟩ 1 1 [.int .i64 zs[k], .int .i64 0, .bool false] rfl rfl ?c1 ?c2 (by unfold maxLen; omega) (by omega) (by simp; omega) ?c3)
      case c1 =>
        intro j u hj
        rw [add_none, Nat.zero_add, (Blk.new wr 140 _).cell j]
        simpa using hj
      case c2 =>
        intro u hu
        simp at hu
        rcases hu with rfl | rfl | rfl <;> rfl
      case c3 =>
        intro v' w' hown hgr _ _
        obtain ⟨g, cap', rfl⟩ : ∃ g cap', v' = .slice (some ⟨g, 0, none⟩) (k + 1) cap' := by
          rcases hown.2 with ⟨_, h⟩ | ⟨g, cap', _, h, _⟩
          · omega
          · exact ⟨g, cap', h⟩
        have hne : some w.heap.size ≠ v.ownBlock := fun e => own_blk_ne hO hB (by decide) e.symm
        have hB2 : Blk w' w.heap.size 138 #[v] := (hB.alloc _).grown hgr hne
        have hne2 := own_blk_ne hown hB2 (by decide)
        have k0 : w'.cell? ⟨w.heap.size, 0, none⟩ = some v := hB2.cell 0
        have k1 := hB2.frozen 0
        have hlt' : w.heap.size < w'.heap.size := hB2.lt
        have hW2 : Below w.heap.size w w' := (hW.alloc hW.size _).grown hgr (by simp; omega) (fun q e => by
          have := hO.lt q e.symm.symm
          omega)
        have HW := Lib.hid (⟨hB2.set_ 0 (.slice (some ⟨g, 0, none⟩) (k + 1) cap'), own_far (o := 0) hown hne2 (.slice (some ⟨g, 0, none⟩) (k + 1) cap'), hW2.setCell (p := ⟨w.heap.size, 0, none⟩) (Nat.le_refl _) (.slice (some ⟨g, 0, none⟩) (k + 1) cap')⟩ : _ ∧ _ ∧ _)
        clear hB hO hW hown hgr hB2 hne hne2 hW2 cp c0 hS
        go_wp2_with fail
        obtain ⟨q1, q2, q3⟩ := HW.out
        refine ⟨⟨k + 1, _, by omega, by go_num, q1, ?_, q3, by simpa [World.setCell] using hlt'⟩, by simp [intOf]; omega⟩
        rw [take_snoc zs k hlt, flat_snoc]
        exact q2
    · obtain rfl : k = zs.length := by omega
      have ho : wr.ownsRow (w.heap.size + 1) 140 3 v (zs.map mkW).length (flat (zs.map mkW)) := by
        rw [List.take_of_length_le (by simp)] at hO
        simpa using hO
      clear hO
      go_wp2_with fail
      go_ret
      exact ⟨v, rfl, ⟨hB, ho⟩, hW⟩
theorem Pol.at_ {w : World} {base p : Nat} {v : Value} {L : List Wt} (h : Pol w base p v L) (hL : 0 < L.length) : ∃ a cap, v = .slice (some ⟨a, 0, none⟩) L.length cap ∧ PolAt w base p a cap L := by
  rcases h.own.2 with ⟨_, h0⟩ | ⟨g, c, cur, hv, _⟩
  · omega
  · subst hv
    refine ⟨g, c, rfl, h, ?_⟩
    intro e
    exact own_blk_ne h.own h.hd (by decide) (by simp [Value.ownBlock, e])
end Go.Proofs.YtdgfjpbjiccllaaGreatDoor.P
