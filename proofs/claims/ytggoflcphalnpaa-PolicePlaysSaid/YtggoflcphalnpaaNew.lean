/- What New of package police comes to: a Police of the periods, where each may be. -/
import Derived.Test.YtggoflcphalnpaaNote
namespace Go.Proofs.Ytggoflcphalnpaa
open Go.RowKit

def odd (z : Int) : Bool := decide (z < 1) || decide (10000 < z)
def mkW (z : Int) : Wt := ⟨z, 0, false⟩

theorem odd_any (z : Int) (w : World) : Calls Try.prog 14 #[.int .i64 z] w fun e w' => e = .returned (.bool (odd z)) ∧ w = w' := by
  unfold odd
  by_cases h1 : z < 1
  · have d1 : decide (z < 1) = true := by simpa using h1
    rw [d1]
    go_enter Try.func14, Try.ntmps14
    go_wp2
    go_ret
    exact ⟨rfl, rfl⟩
  · have d1 : decide (z < 1) = false := by simpa using h1
    rw [d1]
    go_enter Try.func14, Try.ntmps14
    go_wp2
    go_ret
    exact ⟨rfl, rfl⟩

set_option maxHeartbeats 400000 in
theorem index_none (A : Option Addr) (c : Nat) (zs : List Int) (w : World) (h : Nums w A zs) (hl : zs.length ≤ 8) (ho : ∀ i (h : i < zs.length), odd zs[i] = false) :
    Calls Try.prog 17 #[.slice A zs.length c, .func (.func 14) #[] #[]] w fun e w' => e = .returned (.int .i64 (-1)) ∧ w = w' := by
  have HO := Lib.hid ho
  clear ho
  go_enter Try.func17, Try.ntmps17
  go_wp2_with fail
  go_loop [8] (fun z => ∃ k : Nat, k ≤ zs.length ∧ z = .int .i64 k) (fun z => zs.length - (intOf z).toNat)
  case atStart => exact ⟨0, Nat.zero_le _, rfl⟩
  case round =>
    obtain ⟨k, hk, rfl⟩ := hrel
    by_cases hlt : k < zs.length
    · rcases h with h | ⟨b, off, rfl, hb, hc⟩
      · rw [h] at hlt; simp at hlt
      have c0 := hc k hlt
      have HK := HO.out k hlt
      have HK := Lib.hid HK
      go_wp2_with (go_at_call 14; refine (odd_any _ _).mono ?_; rintro e w' ⟨rfl, rfl⟩; rw [HK.out])
      go_round
      case rel => exact ⟨k + 1, by omega, by go_num⟩
      case measure => simp [intOf]; omega
    · go_wp2
      go_ret
      exact ⟨rfl, rfl⟩

set_option maxHeartbeats 400000 in
theorem index_some (A : Option Addr) (c : Nat) (zs : List Int) (w : World) (h : Nums w A zs) (hl : zs.length ≤ 8) (m : Nat) (hm : m < zs.length) (hom : odd zs[m] = true) (ho : ∀ i (h : i < m), odd (zs[i]'(by omega)) = false) :
    Calls Try.prog 17 #[.slice A zs.length c, .func (.func 14) #[] #[]] w fun e w' => e = .returned (.int .i64 m) ∧ w = w' := by
  have HO := Lib.hid ho
  have HM := Lib.hid hom
  clear ho hom
  rcases h with h | ⟨b, off, rfl, hb, hc⟩
  · rw [h] at hm; simp at hm
  go_enter Try.func17, Try.ntmps17
  go_wp2_with fail
  go_loop [8] (fun z => ∃ k : Nat, k ≤ m ∧ z = .int .i64 k) (fun z => zs.length - (intOf z).toNat)
  case atStart => exact ⟨0, Nat.zero_le _, rfl⟩
  case round =>
    obtain ⟨k, hk, rfl⟩ := hrel
    have hlt : k < zs.length := by omega
    have c0 := hc k hlt
    by_cases hkm : k = m
    · subst hkm
      go_wp2_with (go_at_call 14; refine (odd_any _ _).mono ?_; rintro e w' ⟨rfl, rfl⟩; rw [HM.out])
      go_ret
      exact ⟨rfl, rfl⟩
    · have HK := HO.out k (by omega)
      have HK := Lib.hid HK
      go_wp2_with (go_at_call 14; refine (odd_any _ _).mono ?_; rintro e w' ⟨rfl, rfl⟩; rw [HK.out])
      go_round
      case rel => exact ⟨k + 1, by omega, by go_num⟩
      case measure => simp [intOf]; omega

theorem contains_any (A : Option Addr) (c : Nat) (zs : List Int) (w : World) (h : Nums w A zs) (hl : zs.length ≤ 8) :
    Calls Try.prog 13 #[.slice A zs.length c, .func (.func 14) #[] #[]] w fun e w' => e = .returned (.bool (zs.any odd)) ∧ w = w' := by
  cases ha : zs.any odd with
  | false =>
    have ho : ∀ i (h : i < zs.length), odd zs[i] = false := by
      intro i hi
      have := List.any_eq_false.1 ha zs[i] (List.getElem_mem hi)
      simpa using this
    have HO := Lib.hid ho
    clear ho ha
    go_enter Try.func13, Try.ntmps13
    go_wp2_with (go_at_call 17; refine (index_none A c zs _ h hl HO.out).mono ?_; rintro e w' ⟨rfl, rfl⟩)
    go_ret
    exact ⟨rfl, rfl⟩
  | true =>
    obtain ⟨m, hm, hom, ho⟩ : ∃ m, ∃ (hm : m < zs.length), odd zs[m] = true ∧ ∀ i (h : i < m), odd (zs[i]'(by omega)) = false := by
      have hf : zs.findIdx odd < zs.length := by
        rw [List.findIdx_lt_length]
        obtain ⟨x, hx, hox⟩ := List.any_eq_true.1 ha
        exact ⟨x, hx, hox⟩
      refine ⟨zs.findIdx odd, hf, List.findIdx_getElem, fun i hi => ?_⟩
      have := List.not_of_lt_findIdx hi
      simpa using this
    have HO := Lib.hid ho
    have HM := Lib.hid hom
    clear ho hom ha
    go_enter Try.func13, Try.ntmps13
    go_wp2_with (go_at_call 17; refine (index_some A c zs _ h hl m hm HM.out HO.out).mono ?_; rintro e w' ⟨rfl, rfl⟩)
    go_ret
    exact ⟨rfl, rfl⟩

theorem new_no (A : Option Addr) (c : Nat) (zs : List Int) (w : World) (h : Nums w A zs) (ho : 8 < zs.length ∨ zs.any odd = true) :
    Calls Try.prog 6 #[.slice A zs.length c] w fun e w' => e = .returned (.pointer none) ∧ w = w' := by
  by_cases h8 : 8 < zs.length
  · clear ho
    go_enter Try.func6, Try.ntmps6
    go_wp2_with fail
    go_ret
    exact ⟨rfl, rfl⟩
  · have hA : zs.any odd = true := by rcases ho with ho | ho; exact absurd ho h8; exact ho
    have HA := Lib.hid hA
    have h9 : zs.length ≤ 8 := by omega
    clear ho hA
    go_enter Try.func6, Try.ntmps6
    go_wp2_with (go_at_call 13; refine (contains_any A c zs _ h h9).mono ?_; rintro e w' ⟨rfl, rfl⟩; rw [HA.out])
    go_ret
    exact ⟨rfl, rfl⟩

theorem Try.info41 : (Try.prog.info? 41).map (fun i => (i.zero, i.size, i.bytes)) = some (some (.agg #[.int .i64 0, .int .i64 0, .bool false]), 3, 24) := by kernel_rfl

theorem flat_snoc (L : List Wt) (x : Wt) : flat (L ++ [x]) = flat L ++ x.cells := by simp [flat]
theorem take_snoc (zs : List Int) (k : Nat) (h : k < zs.length) : (zs.map mkW).take (k + 1) = (zs.map mkW).take k ++ [mkW zs[k]] := by
  rw [List.take_succ_eq_append_getElem (by simpa using h)]; simp

theorem own_far {w : World} {base : Nat} {e : TypeId} {size n : Nat} {v : Value} {xs : List Value} (h : w.ownsRow base e size v n xs) {p : Nat} {o : Nat} (hp : v.ownBlock ≠ some p) (u : Value) : (w.setCell ⟨p, o, none⟩ u).ownsRow base e size v n xs := by
  refine ⟨h.1, ?_⟩
  rcases h.2 with h0 | ⟨g, cap, cur, rfl, hb, hh, rest⟩
  · exact .inl h0
  · exact .inr ⟨g, cap, cur, rfl, hb, (Below.heap_setCell w ⟨p, o, none⟩ u g (fun e => hp (by simp [Value.ownBlock]; exact e))).trans hh, rest⟩

set_option maxHeartbeats 1000000 in
theorem new_yes (A : Option Addr) (c : Nat) (zs : List Int) (w : World) (h : Nums w A zs) (h8 : zs.length ≤ 8) (ha : zs.any odd = false) :
    Calls Try.prog 6 #[.slice A zs.length c] w fun e w' => ∃ v, e = .returned (.pointer (some ⟨w.heap.size, 0, none⟩)) ∧ Pol w' (w.heap.size + 1) w.heap.size v (zs.map mkW) ∧ Below w.heap.size w w' := by
  obtain ⟨i0, hi0, hz0, hz1, hz2⟩ := info_parts Try.info41
  have Hz0 := Lib.hid hz0; clear hz0
  have Hz1 := Lib.hid hz1; clear hz1
  have Hz2 := Lib.hid hz2; clear hz2
  have Hi := Lib.hid hi0; clear hi0
  have HA := Lib.hid ha
  clear ha
  go_enter Try.func6, Try.ntmps6
  go_wp2_with (go_at_call 13; refine (contains_any A c zs _ h h8).mono ?_; rintro e w' ⟨rfl, rfl⟩; rw [HA.out])
  have hN : Nums (w.alloc (.cells #[.slice none 0 0] 39)) A zs := h.below ((Below.refl _ _).alloc (Nat.le_refl _) _)
  go_loopw [17] (fun z wr => ∃ (k : Nat) (v : Value), k ≤ zs.length ∧ z = .int .i64 k ∧ Blk wr w.heap.size 39 #[v] ∧ wr.ownsRow (w.heap.size + 1) 41 3 v k (flat ((zs.map mkW).take k)) ∧ Below w.heap.size w wr ∧ w.heap.size < wr.heap.size) (fun z _ => zs.length - (intOf z).toNat)
  case atStart =>
    refine ⟨0, .slice none 0 0, Nat.zero_le _, rfl, Blk.new w 39 _, ?_, (Below.refl _ _).alloc (Nat.le_refl _) _, by simp⟩
    simpa [flat] using World.ownsRow_nil _ _ _ _
  case round =>
    obtain ⟨k, v, hk, rfl, hB, hO, hW, hS⟩ := hrel
    by_cases hlt : k < zs.length
    · have hNr := h.below hW
      rcases hNr with h0 | ⟨b, off, rfl, hb, hc⟩
      · rw [h0] at hlt; simp at hlt
      have c0 := hc k hlt
      have cp : wr.cell? ⟨w.heap.size, 0, none⟩ = some v := hB.cell 0
      clear h hN hc
      go_wp2_with (at_builtin; refine wpList_append_own_at _ rfl (.tmp 25) (.tmp 28) 37 rfl (w.heap.size + 1) 41 i0 _ 3 24 Try.underlying37 Hi.out Hz0.out Hz1.out Hz2.out rfl (by decide) v k (flat ((zs.map mkW).take k)) rfl (hO.alloc _) ⟨wr.heap.size, 0, none⟩ 1 1 [.int .i64 zs[k], .int .i64 0, .bool false] rfl rfl ?c1 ?c2 (by unfold maxLen; omega) (by omega) (by simp; omega) ?c3)
      case c1 =>
        intro j u hj
        rw [add_none, Nat.zero_add, (Blk.new wr 41 _).cell j]
        simpa using hj
      case c2 =>
        intro u hu
        simp at hu
        rcases hu with rfl | rfl | rfl <;> rfl
      case c3 =>
        intro v' w' hown hgr _ _
        obtain ⟨g, cap', rfl⟩ : ∃ g cap', v' = .slice (some ⟨g, 0, none⟩) (k + 1) cap' := by
          rcases hown.2 with ⟨_, h⟩ | ⟨g, cap', _, h, _⟩
          · omega
          · exact ⟨g, cap', h⟩
        have hne : some w.heap.size ≠ v.ownBlock := fun e => own_blk_ne hO hB (by decide) e.symm
        have hB2 : Blk w' w.heap.size 39 #[v] := (hB.alloc _).grown hgr hne
        have hne2 := own_blk_ne hown hB2 (by decide)
        have k0 : w'.cell? ⟨w.heap.size, 0, none⟩ = some v := hB2.cell 0
        have k1 := hB2.frozen 0
        have hlt' : w.heap.size < w'.heap.size := hB2.lt
        have hW2 : Below w.heap.size w w' := (hW.alloc hW.size _).grown hgr (by simp; omega) (fun q e => by
          have := hO.lt q e.symm.symm
          omega)
        have HW := Lib.hid (⟨hB2.set_ 0 (.slice (some ⟨g, 0, none⟩) (k + 1) cap'), own_far (o := 0) hown hne2 (.slice (some ⟨g, 0, none⟩) (k + 1) cap'), hW2.setCell (p := ⟨w.heap.size, 0, none⟩) (Nat.le_refl _) (.slice (some ⟨g, 0, none⟩) (k + 1) cap')⟩ : _ ∧ _ ∧ _)
        clear hB hO hW hown hgr hB2 hne hne2 hW2 cp c0 hS
        go_wp2_with fail
        obtain ⟨q1, q2, q3⟩ := HW.out
        refine ⟨⟨k + 1, _, by omega, by go_num, q1, ?_, q3, by simpa [World.setCell] using hlt'⟩, by simp [intOf]; omega⟩
        rw [take_snoc zs k hlt, flat_snoc]
        exact q2
    · obtain rfl : k = zs.length := by omega
      have ho : wr.ownsRow (w.heap.size + 1) 41 3 v (zs.map mkW).length (flat (zs.map mkW)) := by
        rw [List.take_of_length_le (by simp)] at hO
        simpa using hO
      clear hO
      go_wp2_with fail
      go_ret
      exact ⟨v, rfl, ⟨hB, ho⟩, hW⟩

end Go.Proofs.Ytggoflcphalnpaa
