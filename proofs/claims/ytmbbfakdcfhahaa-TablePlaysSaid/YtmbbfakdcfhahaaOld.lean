/- The oldest of higher tasks; all states; what a Table is asked for that is none. -/
import Derived.Test.YtmbbfakdcfhahaaTbl
import Derived.Deep.QuietTactic
import Derived.BigQuiet
namespace Go.Proofs.Ytmbbfakdcfhahaa
open Go.RowKit

theorem oldL_snoc (L : List St) (k : Nat) (h : k < L.length) : oldL (L.take (k + 1)) = oldStep (oldL (L.take k)) L[k] := by
  unfold oldL
  rw [List.take_succ_eq_append_getElem h, List.foldl_append]
  rfl

set_option maxHeartbeats 400000 in
theorem toldest_any (g a : Nat) (L : List St) (i : Int) (w : World) (h : Tab w 48 g a L) (hl : L.length ≤ 8) (h1 : 1 ≤ L.length) :
    Calls Try.prog 8 #[.pointer (some ⟨g, 0, none⟩), .int .i64 i] w fun e w' =>
      e = .returned (.tuple #[.int .i64 (oldL (L.take i.toNat)).1, .bool (oldL (L.take i.toNat)).2]) ∧ w.grownBy w' none := by
  have c := h.slice
  by_cases hi : 0 ≤ i ∧ i ≤ L.length
  · obtain ⟨hi0, hi1⟩ := hi
    obtain ⟨K, rfl⟩ := Int.eq_ofNat_of_zero_le hi0
    rw [Int.toNat_natCast]
    go_enter Try.func8, Try.ntmps8
    go_wp2
    go_quiet (fail)
    go_wp2
    go_loopw [6, 7, 26] (fun x y z wr => ∃ k : Nat, k ≤ K ∧ z = .int .i64 k ∧ x = .int .i64 (oldL (L.take k)).1 ∧ y = .bool (oldL (L.take k)).2 ∧ w.grownBy wr none) (fun _ _ z _ => K - (intOf z).toNat)
    case atStart => exact ⟨0, Nat.zero_le _, rfl, by simp [oldL], by simp [oldL], only_drewN (World.grownBy.refl _ _) _⟩
    case round =>
      obtain ⟨k, hk, rfl, rfl, rfl, hg⟩ := hrel
      have hT := h.keep hg (by simp) (by simp)
      clear h c
      by_cases hlt : k < K
      · have hkL : k < L.length := by omega
        have c0 := hT.c0 hkL
        have c1 := hT.c1 hkL
        have c2 := hT.c2 hkL
        have c3 := hT.c3 hkL
        have HS := Lib.hid (oldL_snoc L k hkL)
        go_wp2
        all_goals
          refine ⟨⟨k + 1, by omega, by go_num, ?_, ?_, only_alloc hg _⟩, by simp [intOf]; omega⟩
          all_goals
            rw [HS.out]
            first
              | (simp [oldStep, *]; done)
              | (rw [show oldStep (oldL (L.take k)) L[k] = oldL (L.take k) from by unfold oldStep; rw [if_neg (by simp [*])]]; done)
              | (rw [show oldStep (oldL (L.take k)) L[k] = oldL (L.take k) from by unfold oldStep; rw [if_neg (by simp [*])]]; simp [*]; done)
      · obtain rfl : k = K := by omega
        go_wp2
        go_ret2
        exact ⟨rfl, hg⟩
  · by_cases hi0 : i < 0
    · have e : L.take i.toNat = L.take 0 := by rw [show i.toNat = 0 from by omega]
      rw [e]; clear e
      go_enter Try.func8, Try.ntmps8
      go_wp2
      go_quiet (fail)
      go_wp2
      go_loopw [6, 7, 26] (fun x y z wr => ∃ k : Nat, k ≤ 0 ∧ z = .int .i64 k ∧ x = .int .i64 (oldL (L.take k)).1 ∧ y = .bool (oldL (L.take k)).2 ∧ w.grownBy wr none) (fun _ _ z _ => 0 - (intOf z).toNat)
      case atStart => exact ⟨0, Nat.zero_le _, rfl, by simp [oldL], by simp [oldL], only_drewN (World.grownBy.refl _ _) _⟩
      case round =>
        obtain ⟨k, hk, rfl, rfl, rfl, hg⟩ := hrel
        have hT := h.keep hg (by simp) (by simp)
        clear h c
        by_cases hlt : k < 0
        · have hkL : k < L.length := by omega
          have c0 := hT.c0 hkL
          have c1 := hT.c1 hkL
          have c2 := hT.c2 hkL
          have c3 := hT.c3 hkL
          have HS := Lib.hid (oldL_snoc L k hkL)
          go_wp2
          all_goals
            refine ⟨⟨k + 1, by omega, by go_num, ?_, ?_, only_alloc hg _⟩, by simp [intOf]; omega⟩
            all_goals
              rw [HS.out]
              first
                | (simp [oldStep, *]; done)
                | (rw [show oldStep (oldL (L.take k)) L[k] = oldL (L.take k) from by unfold oldStep; rw [if_neg (by simp [*])]]; done)
                | (rw [show oldStep (oldL (L.take k)) L[k] = oldL (L.take k) from by unfold oldStep; rw [if_neg (by simp [*])]]; simp [*]; done)
        · obtain rfl : k = 0 := by omega
          go_wp2
          go_ret2
          exact ⟨rfl, hg⟩
    · have hi1 : (L.length : Int) < i := by omega
      have hi2 : 0 < i := by omega
      clear hi hi0
      have e : L.take i.toNat = L.take L.length := by rw [List.take_of_length_le (by omega), List.take_of_length_le (Nat.le_refl _)]
      rw [e]; clear e
      go_enter Try.func8, Try.ntmps8
      go_wp2
      go_quiet (fail)
      go_wp2
      go_loopw [6, 7, 26] (fun x y z wr => ∃ k : Nat, k ≤ L.length ∧ z = .int .i64 k ∧ x = .int .i64 (oldL (L.take k)).1 ∧ y = .bool (oldL (L.take k)).2 ∧ w.grownBy wr none) (fun _ _ z _ => L.length - (intOf z).toNat)
      case atStart => exact ⟨0, Nat.zero_le _, rfl, by simp [oldL], by simp [oldL], only_drewN (World.grownBy.refl _ _) _⟩
      case round =>
        obtain ⟨k, hk, rfl, rfl, rfl, hg⟩ := hrel
        have hT := h.keep hg (by simp) (by simp)
        clear h c
        by_cases hlt : k < L.length
        · have hkL : k < L.length := by omega
          have c0 := hT.c0 hkL
          have c1 := hT.c1 hkL
          have c2 := hT.c2 hkL
          have c3 := hT.c3 hkL
          have HS := Lib.hid (oldL_snoc L k hkL)
          go_wp2
          all_goals
            refine ⟨⟨k + 1, by omega, by go_num, ?_, ?_, only_alloc hg _⟩, by simp [intOf]; omega⟩
            all_goals
              rw [HS.out]
              first
                | (simp [oldStep, *]; done)
                | (rw [show oldStep (oldL (L.take k)) L[k] = oldL (L.take k) from by unfold oldStep; rw [if_neg (by simp [*])]]; done)
                | (rw [show oldStep (oldL (L.take k)) L[k] = oldL (L.take k) from by unfold oldStep; rw [if_neg (by simp [*])]]; simp [*]; done)
        · obtain rfl : k = L.length := by omega
          go_wp2
          go_ret2
          exact ⟨rfl, hg⟩

theorem toldest_nil (i : Int) (w : World) : Calls Try.prog 8 #[.pointer none, .int .i64 i] w fun e w' => e = .returned (.tuple #[.int .i64 0, .bool false]) ∧ w = w' := by
  go_enter Try.func8, Try.ntmps8
  go_wp2
  go_ret2
  exact ⟨rfl, rfl⟩

end Go.Proofs.Ytmbbfakdcfhahaa
