/- What New of package job comes to; what its small methods tell; the statements' closed part. -/
import Derived.Test.YtdamkcneecoimaaJob
namespace Go.Proofs.Ytdamkcneecoimaa
open Go.RowKit

def dmd (dm : List Int) (i : Nat) : Int := max 1 (dm.getD i 1)
def dems (rs dm : List Int) : List Int := (List.range rs.length).map (dmd dm)
def jb0 (rs dm : List Int) : Jb := ⟨rs, dems rs dm, 0, 0, 0, 0⟩

theorem dems_length (rs dm : List Int) : (dems rs dm).length = rs.length := by simp [dems]
theorem dems_snoc (rs dm : List Int) (k : Nat) (h : k < rs.length) : (dems rs dm).take (k + 1) = (dems rs dm).take k ++ [dmd dm k] := by
  rw [List.take_succ_eq_append_getElem (by rw [dems_length]; exact h)]
  simp [dems]
theorem ints_snoc (l : List Int) (x : Int) : ints (l ++ [x]) = ints l ++ [.int .i64 x] := by simp [ints]

theorem new_no (A A' : Option Addr) (c c' m : Nat) (rs : List Int) (w : World) (h : Nums w A rs) (ho : rs.length < 1 ∨ 8 < rs.length ∨ rs.any odd = true) :
    Calls Try.prog 8 #[.slice A rs.length c, .slice A' m c'] w fun e w' => e = .returned (.pointer none) ∧ w = w' := by
  by_cases h1 : rs.length < 1
  · clear ho
    go_enter Try.func8, Try.ntmps8
    go_wp2_with fail
    go_ret
    exact ⟨rfl, rfl⟩
  by_cases h8 : 8 < rs.length
  · clear ho
    go_enter Try.func8, Try.ntmps8
    go_wp2_with fail
    go_ret
    exact ⟨rfl, rfl⟩
  · have hA : rs.any odd = true := by
      rcases ho with ho | ho | ho
      · omega
      · omega
      · exact ho
    have HA := Lib.hid hA
    have h9 : rs.length ≤ 8 := by omega
    clear ho hA
    go_enter Try.func8, Try.ntmps8
    go_wp2_with (go_at_call 18; refine (contains_any A c rs _ h h9).mono ?_; rintro e w' ⟨rfl, rfl⟩; rw [HA.out])
    go_ret
    exact ⟨rfl, rfl⟩

theorem own_far {w : World} {base : Nat} {e : TypeId} {size n : Nat} {v : Value} {xs : List Value} (h : w.ownsRow base e size v n xs) {p : Nat} {o : Nat} (hp : v.ownBlock ≠ some p) (u : Value) : (w.setCell ⟨p, o, none⟩ u).ownsRow base e size v n xs := by
  refine ⟨h.1, ?_⟩
  rcases h.2 with h0 | ⟨g, cap, cur, rfl, hb, hh, rest⟩
  · exact .inl h0
  · exact .inr ⟨g, cap, cur, rfl, hb, (Below.heap_setCell w ⟨p, o, none⟩ u g (fun e => hp (by simp [Value.ownBlock]; exact e))).trans hh, rest⟩

/-- The job that is being made, with the first k demands. -/
structure Mk (w wr : World) (p a ca : Nat) (rs : List Int) (v : Value) (ds : List Int) : Prop where
  hd : Blk wr p 46 #[.slice (some ⟨a, 0, none⟩) rs.length ca, v, .int .i64 0, .int .i64 0, .int .i64 0, .int .i64 0]
  rs : wr.ownsRow w.heap.size 2 1 (.slice (some ⟨a, 0, none⟩) rs.length ca) rs.length (ints rs)
  ds : wr.ownsRow (p + 1) 2 1 v ds.length (ints ds)
  b : Below w.heap.size w wr
  pw : w.heap.size ≤ p
  ap : a < p

set_option maxHeartbeats 4000000 in
theorem new_yes (A A' : Option Addr) (c c' : Nat) (rs dm : List Int) (w : World) (h : Nums w A rs) (h' : Nums w A' dm) (h0 : 0 < rs.length) (h8 : rs.length ≤ 8) (ho : rs.any odd = false) :
    Calls Try.prog 8 #[.slice A rs.length c, .slice A' dm.length c'] w fun e w' => ∃ p a ca b cb, e = .returned (.pointer (some ⟨p, 0, none⟩)) ∧ JobAt w' w.heap.size p a ca b cb (jb0 rs dm) ∧ Below w.heap.size w w' ∧ w.heap.size ≤ p := by
  obtain ⟨i0, hi0, hz0, hz1, hz2⟩ := info_parts Try.info2
  have Hz0 := Lib.hid hz0; clear hz0
  have Hz1 := Lib.hid hz1; clear hz1
  have Hz2 := Lib.hid hz2; clear hz2
  have Hi := Lib.hid hi0; clear hi0
  have HO := Lib.hid ho
  clear ho
  go_enter Try.func8, Try.ntmps8
  go_wp2_with (first
    | (go_at_call 18; refine (contains_any A c rs _ h h8).mono ?_; rintro e w' ⟨rfl, rfl⟩; rw [HO.out])
    | (go_at_call 19; refine (clone_any A c rs w h h8 h0).mono ?_; rintro e w1 ⟨a, ca, rfl, hown, hb⟩))
  obtain ⟨p, hp⟩ : ∃ p, w1.heap.size = p := ⟨_, rfl⟩
  have hap : a < p := by
    have := hown.lt a rfl
    omega
  have hpw : w.heap.size ≤ p := by rw [← hp]; exact hb.size
  have hM : Mk w (w1.alloc (.cells #[.slice (some ⟨a, 0, none⟩) rs.length ca, .slice none 0 0, .int .i64 0, .int .i64 0, .int .i64 0, .int .i64 0] 46)) p a ca rs (.slice none 0 0) [] := by
    refine ⟨?_, hown.alloc _, ?_, hb.alloc hb.size _, hpw, hap⟩
    · rw [← hp]; exact Blk.new w1 46 _
    · simpa [ints] using World.ownsRow_nil _ _ _ _
  obtain ⟨w2, hw2⟩ : ∃ w2, w1.alloc (.cells #[.slice (some ⟨a, 0, none⟩) rs.length ca, .slice none 0 0, .int .i64 0, .int .i64 0, .int .i64 0, .int .i64 0] 46) = w2 := ⟨_, rfl⟩
  rw [hw2] at hM ⊢
  rw [hp]
  clear hw2 hp hown hb
  go_loopw [28] (fun z wr => ∃ (k : Nat) (v : Value), k ≤ rs.length ∧ z = .int .i64 k ∧ Mk w wr p a ca rs v ((dems rs dm).take k)) (fun z _ => rs.length - (intOf z).toNat)
  case atStart => exact ⟨0, _, Nat.zero_le _, rfl, by simpa using hM⟩
  case round =>
    obtain ⟨k, v, hk, rfl, hR⟩ := hrel
    clear hM
    by_cases hlt : k < rs.length
    · have hds : ((dems rs dm).take k).length = k := by rw [List.length_take, dems_length]; omega
      have hO := hR.ds
      rw [hds] at hO
      have HD := Lib.hid hds
      have cp : wr.cell? ⟨p, 1, none⟩ = some v := hR.hd.cell 1
      have hpr : p < wr.heap.size := hR.hd.lt
      rcases h.below hR.b with hz | ⟨b1, off1, rfl, hb1, hc1⟩
      · rw [hz] at hlt; simp at hlt
      by_cases hkd : k < dm.length
      · rcases h'.below hR.b with hz | ⟨b2, off2, rfl, hb2, hc2⟩
        · rw [hz] at hkd; simp at hkd
        have d1 := hc2 k hkd
        clear hc1 hc2
        obtain ⟨y, hy⟩ : ∃ y, dm[k] = y := ⟨_, rfl⟩
        rw [hy] at d1
        have hg : dm.getD k 1 = y := by rw [List.getD_eq_getElem?_getD, List.getElem?_eq_getElem hkd]; simpa using hy
        by_cases hm : y ≤ 1
        · clear hy
          have hx : dmd dm k = 1 := by unfold dmd; rw [hg]; omega
          have HX := Lib.hid hx
          clear hx h h' hds hg
          go_wp2_with (at_builtin; refine wpList_append_own_at _ rfl (.tmp 45) (.tmp 47) 22 rfl (p + 1) 2 i0 _ 1 8 Try.underlying22 Hi.out Hz0.out Hz1.out Hz2.out rfl (by decide) v k (ints ((dems rs dm).take k)) rfl (hO.alloc _) ⟨wr.heap.size, 0, none⟩ 1 1 [.int .i64 1] rfl rfl ?c1 ?c2 (by unfold maxLen; omega) (by omega) (by simp; omega) ?c3)
          case c1 =>
            intro j u hj
            rw [add_none, Nat.zero_add, (Blk.new wr 2 _).cell j]
            simpa using hj
          case c2 =>
            intro u hu
            simp at hu
            rw [hu]
            rfl
          case c3 =>
            intro v' w' hown hgr _ _
            obtain ⟨g, cap', rfl⟩ : ∃ g cap', v' = .slice (some ⟨g, 0, none⟩) (k + 1) cap' := by
              rcases hown.2 with ⟨_, h⟩ | ⟨g, cap', _, h, _⟩
              · omega
              · exact ⟨g, cap', h⟩
            have hne : some p ≠ v.ownBlock := fun e => own_blk_ne hO hR.hd (by decide) e.symm
            have hna : some a ≠ v.ownBlock := by
              intro e
              have := hO.lt a e.symm
              have := hR.ap
              omega
            have hB2 := (hR.hd.alloc (.cells #[.int .i64 1] 2)).grown hgr hne
            have hA2 := own_keep (hR.rs.alloc (.cells #[.int .i64 1] 2)) hgr (.inr (by simpa [Value.ownBlock] using hna))
            have hne2 := own_blk_ne hown hB2 (by decide)
            have k0 : w'.cell? ⟨p, 1, none⟩ = some v := hB2.cell 1
            have k1 := hB2.frozen 1
            have hW2 : Below w.heap.size w w' := (hR.b.alloc hR.b.size _).grown hgr (by have := hR.b.size; simp; omega) (fun q e => by
              have := hO.lt q e
              have := hR.pw
              omega)
            have hap2 : (Value.slice (some ⟨a, 0, none⟩) rs.length ca).ownBlock ≠ some p := by
              simp only [Value.ownBlock]
              intro e
              injection e with e
              have := hR.ap
              omega
            have hM2 : Mk w (w'.setCell ⟨p, 1, none⟩ (.slice (some ⟨g, 0, none⟩) (k + 1) cap')) p a ca rs (.slice (some ⟨g, 0, none⟩) (k + 1) cap') ((dems rs dm).take (k + 1)) := by
              refine ⟨hB2.set_ 1 _, own_far (o := 1) hA2 hap2 _, ?_, hW2.setCell (p := ⟨p, 1, none⟩) hR.pw _, hR.pw, hR.ap⟩
              rw [dems_snoc rs dm k hlt, ints_snoc, List.length_append, HD.out, HX.out]
              exact own_far (o := 1) hown hne2 _
            have HM2 := Lib.hid hM2
            clear hB2 hA2 hne hna hne2 hW2 hap2 hM2 hown hgr hO hR HD HX
            go_wp2_with fail
            exact ⟨⟨k + 1, _, by omega, by go_num, HM2.out⟩, by simp [intOf]; omega⟩
        · have hm2 : 1 < y := by omega
          clear hy hm
          have hx : dmd dm k = y := by unfold dmd; rw [hg]; omega
          have HX := Lib.hid hx
          clear hx h h' hds hg
          go_wp2_with (at_builtin; refine wpList_append_own_at _ rfl (.tmp 45) (.tmp 47) 22 rfl (p + 1) 2 i0 _ 1 8 Try.underlying22 Hi.out Hz0.out Hz1.out Hz2.out rfl (by decide) v k (ints ((dems rs dm).take k)) rfl (hO.alloc _) ⟨wr.heap.size, 0, none⟩ 1 1 [.int .i64 y] rfl rfl ?c1 ?c2 (by unfold maxLen; omega) (by omega) (by simp; omega) ?c3)
          case c1 =>
            intro j u hj
            rw [add_none, Nat.zero_add, (Blk.new wr 2 _).cell j]
            simpa using hj
          case c2 =>
            intro u hu
            simp at hu
            rw [hu]
            rfl
          case c3 =>
            intro v' w' hown hgr _ _
            obtain ⟨g, cap', rfl⟩ : ∃ g cap', v' = .slice (some ⟨g, 0, none⟩) (k + 1) cap' := by
              rcases hown.2 with ⟨_, h⟩ | ⟨g, cap', _, h, _⟩
              · omega
              · exact ⟨g, cap', h⟩
            have hne : some p ≠ v.ownBlock := fun e => own_blk_ne hO hR.hd (by decide) e.symm
            have hna : some a ≠ v.ownBlock := by
              intro e
              have := hO.lt a e.symm
              have := hR.ap
              omega
            have hB2 := (hR.hd.alloc (.cells #[.int .i64 y] 2)).grown hgr hne
            have hA2 := own_keep (hR.rs.alloc (.cells #[.int .i64 y] 2)) hgr (.inr (by simpa [Value.ownBlock] using hna))
            have hne2 := own_blk_ne hown hB2 (by decide)
            have k0 : w'.cell? ⟨p, 1, none⟩ = some v := hB2.cell 1
            have k1 := hB2.frozen 1
            have hW2 : Below w.heap.size w w' := (hR.b.alloc hR.b.size _).grown hgr (by have := hR.b.size; simp; omega) (fun q e => by
              have := hO.lt q e
              have := hR.pw
              omega)
            have hap2 : (Value.slice (some ⟨a, 0, none⟩) rs.length ca).ownBlock ≠ some p := by
              simp only [Value.ownBlock]
              intro e
              injection e with e
              have := hR.ap
              omega
            have hM2 : Mk w (w'.setCell ⟨p, 1, none⟩ (.slice (some ⟨g, 0, none⟩) (k + 1) cap')) p a ca rs (.slice (some ⟨g, 0, none⟩) (k + 1) cap') ((dems rs dm).take (k + 1)) := by
              refine ⟨hB2.set_ 1 _, own_far (o := 1) hA2 hap2 _, ?_, hW2.setCell (p := ⟨p, 1, none⟩) hR.pw _, hR.pw, hR.ap⟩
              rw [dems_snoc rs dm k hlt, ints_snoc, List.length_append, HD.out, HX.out]
              exact own_far (o := 1) hown hne2 _
            have HM2 := Lib.hid hM2
            clear hB2 hA2 hne hna hne2 hW2 hap2 hM2 hown hgr hO hR HD HX
            go_wp2_with fail
            exact ⟨⟨k + 1, _, by omega, by go_num, HM2.out⟩, by simp [intOf]; omega⟩
      · clear hc1
        have hx : dmd dm k = 1 := by unfold dmd; rw [List.getD_eq_getElem?_getD, List.getElem?_eq_none (by omega)]; rfl
        have HX := Lib.hid hx
        clear hx h h' hds
        go_wp2_with (at_builtin; refine wpList_append_own_at _ rfl (.tmp 45) (.tmp 47) 22 rfl (p + 1) 2 i0 _ 1 8 Try.underlying22 Hi.out Hz0.out Hz1.out Hz2.out rfl (by decide) v k (ints ((dems rs dm).take k)) rfl (hO.alloc _) ⟨wr.heap.size, 0, none⟩ 1 1 [.int .i64 1] rfl rfl ?c1 ?c2 (by unfold maxLen; omega) (by omega) (by simp; omega) ?c3)
        case c1 =>
          intro j u hj
          rw [add_none, Nat.zero_add, (Blk.new wr 2 _).cell j]
          simpa using hj
        case c2 =>
          intro u hu
          simp at hu
          rw [hu]
          rfl
        case c3 =>
          intro v' w' hown hgr _ _
          obtain ⟨g, cap', rfl⟩ : ∃ g cap', v' = .slice (some ⟨g, 0, none⟩) (k + 1) cap' := by
            rcases hown.2 with ⟨_, h⟩ | ⟨g, cap', _, h, _⟩
            · omega
            · exact ⟨g, cap', h⟩
          have hne : some p ≠ v.ownBlock := fun e => own_blk_ne hO hR.hd (by decide) e.symm
          have hna : some a ≠ v.ownBlock := by
            intro e
            have := hO.lt a e.symm
            have := hR.ap
            omega
          have hB2 := (hR.hd.alloc (.cells #[.int .i64 1] 2)).grown hgr hne
          have hA2 := own_keep (hR.rs.alloc (.cells #[.int .i64 1] 2)) hgr (.inr (by simpa [Value.ownBlock] using hna))
          have hne2 := own_blk_ne hown hB2 (by decide)
          have k0 : w'.cell? ⟨p, 1, none⟩ = some v := hB2.cell 1
          have k1 := hB2.frozen 1
          have hW2 : Below w.heap.size w w' := (hR.b.alloc hR.b.size _).grown hgr (by have := hR.b.size; simp; omega) (fun q e => by
            have := hO.lt q e
            have := hR.pw
            omega)
          have hap2 : (Value.slice (some ⟨a, 0, none⟩) rs.length ca).ownBlock ≠ some p := by
            simp only [Value.ownBlock]
            intro e
            injection e with e
            have := hR.ap
            omega
          have hM2 : Mk w (w'.setCell ⟨p, 1, none⟩ (.slice (some ⟨g, 0, none⟩) (k + 1) cap')) p a ca rs (.slice (some ⟨g, 0, none⟩) (k + 1) cap') ((dems rs dm).take (k + 1)) := by
            refine ⟨hB2.set_ 1 _, own_far (o := 1) hA2 hap2 _, ?_, hW2.setCell (p := ⟨p, 1, none⟩) hR.pw _, hR.pw, hR.ap⟩
            rw [dems_snoc rs dm k hlt, ints_snoc, List.length_append, HD.out, HX.out]
            exact own_far (o := 1) hown hne2 _
          have HM2 := Lib.hid hM2
          clear hB2 hA2 hne hna hne2 hW2 hap2 hM2 hown hgr hO hR HD HX
          go_wp2_with fail
          exact ⟨⟨k + 1, _, by omega, by go_num, HM2.out⟩, by simp [intOf]; omega⟩
    · obtain rfl : k = rs.length := by omega
      have ht : (dems rs dm).take rs.length = dems rs dm := by rw [List.take_of_length_le (by rw [dems_length]; exact Nat.le_refl _)]
      rw [ht] at hR
      have hO := hR.ds
      rw [dems_length] at hO
      obtain ⟨b, cb, rfl⟩ : ∃ b cb, v = .slice (some ⟨b, 0, none⟩) rs.length cb := by
        rcases hO.2 with ⟨_, h⟩ | ⟨g, cap, _, h, _⟩
        · omega
        · exact ⟨g, cap, h⟩
      have hbp : b ≠ p := by
        have := hO.lt b rfl
        omega
      go_wp2_with fail
      go_ret
      refine ⟨p, a, ca, b, cb, rfl, ⟨hR.hd, hR.rs, ?_, dems_length rs dm, Nat.ne_of_lt hR.ap, hbp⟩, hR.b, hR.pw⟩
      rcases hO with ⟨q1, q2⟩
      refine ⟨q1, ?_⟩
      rcases q2 with q2 | ⟨g, cap, cur, e, hg, rest⟩
      · exact .inl q2
      · exact .inr ⟨g, cap, cur, e, by have := hR.pw; omega, rest⟩

theorem mid_any {base p a ca b cb : Nat} {j : Jb} (w : World) (h : JobAt w base p a ca b cb j) :
    Calls Try.prog 12 #[.pointer (some ⟨p, 0, none⟩)] w fun e w' => e = .returned (.bool (decide (0 < j.had))) ∧ w = w' := by
  have q3 : w.cell? ⟨p, 3, none⟩ = some (.int .i64 j.had) := h.hd.cell 3
  clear h
  go_enter Try.func12, Try.ntmps12
  go_wp2
  go_ret
  exact ⟨rfl, rfl⟩
theorem mid_nil (w : World) : Calls Try.prog 12 #[.pointer none] w fun e w' => e = .returned (.bool false) ∧ w = w' := by
  go_enter Try.func12, Try.ntmps12
  go_wp2
  go_ret
  exact ⟨rfl, rfl⟩
theorem ticks_any {base p a ca b cb : Nat} {j : Jb} (w : World) (h : JobAt w base p a ca b cb j) :
    Calls Try.prog 11 #[.pointer (some ⟨p, 0, none⟩)] w fun e w' => e = .returned (.int .i64 j.all) ∧ w = w' := by
  have q4 : w.cell? ⟨p, 4, none⟩ = some (.int .i64 j.all) := h.hd.cell 4
  clear h
  go_enter Try.func11, Try.ntmps11
  go_wp2
  go_ret
  exact ⟨rfl, rfl⟩
theorem ticks_nil (w : World) : Calls Try.prog 11 #[.pointer none] w fun e w' => e = .returned (.int .i64 0) ∧ w = w' := by
  go_enter Try.func11, Try.ntmps11
  go_wp2
  go_ret
  exact ⟨rfl, rfl⟩
theorem region_any {base p a ca b cb : Nat} {j : Jb} (w : World) (h : JobAt w base p a ca b cb j) :
    Calls Try.prog 16 #[.pointer (some ⟨p, 0, none⟩)] w fun e w' => e = .returned (.int .i64 j.k) ∧ w = w' := by
  have q2 : w.cell? ⟨p, 2, none⟩ = some (.int .i64 j.k) := h.hd.cell 2
  clear h
  go_enter Try.func16, Try.ntmps16
  go_wp2
  go_ret
  exact ⟨rfl, rfl⟩
theorem region_nil (w : World) : Calls Try.prog 16 #[.pointer none] w fun e w' => e = .returned (.int .i64 0) ∧ w = w' := by
  go_enter Try.func16, Try.ntmps16
  go_wp2
  go_ret
  exact ⟨rfl, rfl⟩

theorem newNums1 {w : World} (z : Int) : Nums (w.alloc (.cells #[.int .i64 z] 2)) (some ⟨w.heap.size, 0, none⟩) [z] := by
  refine .inr ⟨w.heap.size, 0, rfl, by simp, fun i hi => ?_⟩
  obtain rfl : i = 0 := by simpa using hi
  simp
theorem newNums2 {w : World} (z y : Int) : Nums (w.alloc (.cells #[.int .i64 z, .int .i64 y] 2)) (some ⟨w.heap.size, 0, none⟩) [z, y] := by
  refine .inr ⟨w.heap.size, 0, rfl, by simp, fun i hi => ?_⟩
  have hi : i < 2 := by simpa using hi
  obtain rfl | rfl : i = 0 ∨ i = 1 := by omega
  · simp
  · simp

theorem jb_known : jb0 [2, 1] [1, 5] = ⟨[2, 1], [1, 5], 0, 0, 0, 0⟩ := by decide +kernel
theorem tick_known1 : tick ⟨[2, 1], [1, 5], 0, 0, 0, 0⟩ = (⟨[2, 1], [1, 5], 1, 0, 1, 0⟩, 0, 1) := by decide +kernel
theorem tick_known2 : tick ⟨[2, 1], [1, 5], 1, 0, 1, 0⟩ = (⟨[2, 1], [1, 5], 1, 1, 2, 3⟩, 1, 3) := by decide +kernel

set_option maxHeartbeats 2000000 in
theorem known_any (w : World) : Calls Try.prog 10 #[] w fun e w' => e = .returned (.bool true) ∧ Below w.heap.size w w' := by
  go_enter Try.func10, Try.ntmps10
  go_wp2_with fail
  have n1 : Nums ((w.alloc (.cells #[.int .i64 2, .int .i64 1] 2)).alloc (.cells #[.int .i64 1, .int .i64 5] 2)) (some ⟨w.heap.size, 0, none⟩) [2, 1] :=
    (newNums2 (w := w) 2 1).below ((Below.refl _ _).alloc (Nat.le_refl _) _)
  have n2 : Nums ((w.alloc (.cells #[.int .i64 2, .int .i64 1] 2)).alloc (.cells #[.int .i64 1, .int .i64 5] 2)) (some ⟨w.heap.size + 1, 0, none⟩) [1, 5] := by
    have := newNums2 (w := w.alloc (.cells #[.int .i64 2, .int .i64 1] 2)) 1 5
    rwa [World.size_alloc] at this
  refine (new_yes (some ⟨w.heap.size, 0, none⟩) (some ⟨w.heap.size + 1, 0, none⟩) 2 2 [2, 1] [1, 5] _ n1 n2 (by decide) (by decide) (by decide)).mono ?_
  rintro e w1 ⟨p, a, ca, b, cb, rfl, h1, b1, hp⟩
  rw [jb_known] at h1
  have k1 : Below w.heap.size w w1 := (((Below.refl _ _).alloc (Nat.le_refl _) _).alloc (by simp) _).trans (b1.mono (by simp; omega))
  have hwp : w.heap.size ≤ p := by simp at hp; omega
  clear b1 hp n1 n2
  go_wp2_with fail
  refine (step_any w1 h1 (by decide) (by decide) (by decide) (by decide) (by decide) (by decide)).mono ?_
  rintro e w2 ⟨rfl, h2, g2⟩
  rw [tick_known1] at h2 ⊢
  have k2 := below_only k1 (Nat.le_refl _) g2 (fun k e => by injection e with e; omega)
  clear h1 k1 g2
  go_wp2_with fail
  refine (step_any w2 h2 (by decide) (by decide) (by decide) (by decide) (by decide) (by decide)).mono ?_
  rintro e w3 ⟨rfl, h3, g3⟩
  rw [tick_known2]
  have k3 := below_only k2 (Nat.le_refl _) g3 (fun k e => by injection e with e; omega)
  clear h2 k2 g3 h3
  go_wp2_with fail
  refine (new_no none none 0 0 0 [] w3 (.inl rfl) (by decide)).mono ?_
  rintro e w4 ⟨rfl, rfl⟩
  go_wp2
  go_ret
  exact ⟨rfl, k3⟩

end Go.Proofs.Ytdamkcneecoimaa
