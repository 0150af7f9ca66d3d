/- What the reference's two plain functions come to: the oldest one of a row of states; whether two rows that hold the same states are one. -/
import Derived.Test.YtmbbfakdcfhahaaAll
namespace Go.Proofs.Ytmbbfakdcfhahaa
open Go.RowKit

/-- Block g begins with the states L. -/
structure Rw (w : World) (g : Nat) (L : List St) : Prop where
  c0 : ∀ i (h : i < L.length), w.cell? ⟨g, i * 4, none⟩ = some (.bool L[i].p)
  c1 : ∀ i (h : i < L.length), w.cell? ⟨g, i * 4 + 1, none⟩ = some (.bool L[i].s)
  c2 : ∀ i (h : i < L.length), w.cell? ⟨g, i * 4 + 2, none⟩ = some (.bool L[i].m)
  c3 : ∀ i (h : i < L.length), w.cell? ⟨g, i * 4 + 3, none⟩ = some (.int .i64 L[i].a)

theorem Tab.rw {w : World} {tt : TypeId} {g a : Nat} {L : List St} (h : Tab w tt g a L) : Rw w a L := ⟨fun _ hi => h.c0 hi, fun _ hi => h.c1 hi, fun _ hi => h.c2 hi, fun _ hi => h.c3 hi⟩

theorem flat_at (L : List St) (i j : Nat) (hi : i < L.length) (hj : j < 4) : (L.flatMap St.cells)[i * 4 + j]? = (L[i]'hi).cells[j]? := by
  have := cellsOf_at L i j hi hj
  simpa [cellsOf] using this

theorem Rw.own {w : World} {base g c n : Nat} {L : List St} (h : w.ownsRow base 44 4 (.slice (some ⟨g, 0, none⟩) n c) n (L.flatMap St.cells)) : Rw w g L := by
  have hc := h.cells (g := g) rfl
  have e : ∀ j, (⟨g, 0, none⟩ : Addr).add j = ⟨g, j, none⟩ := by
    intro j
    unfold Addr.add
    by_cases hj : j = 0 <;> simp [hj]
  constructor
  · intro i hi; have := hc (i * 4 + 0) _ ((flat_at L i 0 hi (by omega)).trans rfl); rw [e] at this; exact this
  · intro i hi; have := hc (i * 4 + 1) _ ((flat_at L i 1 hi (by omega)).trans rfl); rw [e] at this; exact this
  · intro i hi; have := hc (i * 4 + 2) _ ((flat_at L i 2 hi (by omega)).trans rfl); rw [e] at this; exact this
  · intro i hi; have := hc (i * 4 + 3) _ ((flat_at L i 3 hi (by omega)).trans rfl); rw [e] at this; exact this

set_option maxHeartbeats 400000 in
theorem rold_any (a c : Nat) (L : List St) (i : Int) (w : World) (h : Rw w a L) (hl : L.length ≤ 8) :
    Calls Try.prog 18 #[.slice (some ⟨a, 0, none⟩) L.length c, .int .i64 i] w fun e w' =>
      e = .returned (.tuple #[.int .i64 (oldL (L.take i.toNat)).1, .bool (oldL (L.take i.toNat)).2]) ∧ w = w' := by
  obtain ⟨R, hR⟩ : ∃ R, oldL (L.take i.toNat) = R := ⟨_, rfl⟩
  rw [hR]
  have HR := Lib.hid hR
  clear hR
  go_enter Try.func18, Try.ntmps18
  go_wp2
  go_loop [6, 7, 8] (fun x y z => ∃ k : Nat, k ≤ L.length ∧ (k : Int) ≤ max i 0 ∧ z = .int .i64 k ∧ x = .int .i64 (oldL (L.take k)).1 ∧ y = .bool (oldL (L.take k)).2) (fun _ _ z => L.length - (intOf z).toNat)
  case atStart => exact ⟨0, Nat.zero_le _, by omega, rfl, by simp [oldL], by simp [oldL]⟩
  case round =>
    obtain ⟨k, hk, hki, rfl, rfl, rfl⟩ := hrel
    by_cases hlt : k < L.length
    · by_cases hi : (k : Int) < i
      · have d0 := h.c0 k hlt
        have d3 := h.c3 k hlt
        have HS := Lib.hid (oldL_snoc L k hlt)
        clear h
        go_wp2
        all_goals
          refine ⟨⟨k + 1, by omega, by omega, by go_num, ?_, ?_⟩, by simp [intOf]; omega⟩
          all_goals
            rw [HS.out]
            first
              | (simp [oldStep, *]; done)
              | (rw [show oldStep (oldL (L.take k)) L[k] = oldL (L.take k) from by unfold oldStep; rw [if_neg (by simp [*])]]; done)
              | (rw [show oldStep (oldL (L.take k)) L[k] = oldL (L.take k) from by unfold oldStep; rw [if_neg (by simp [*])]]; simp [*]; done)
      · have e : L.take i.toNat = L.take k := by rw [show i.toNat = k from by omega]
        have hR := HR.out
        rw [e] at hR
        have HR := Lib.hid hR
        clear e hR
        go_wp2
        go_ret2
        exact ⟨by rw [← HR.out]; rfl, rfl⟩
    · have e : L.take i.toNat = L.take k := by rw [List.take_of_length_le (by omega), List.take_of_length_le (by omega)]
      have hR := HR.out
      rw [e] at hR
      have HR := Lib.hid hR
      clear e hR
      by_cases hi : (k : Int) < i
      · go_wp2
        go_ret2
        exact ⟨by rw [← HR.out]; rfl, rfl⟩
      · go_wp2
        go_ret2
        exact ⟨by rw [← HR.out]; rfl, rfl⟩

set_option maxHeartbeats 400000 in
theorem rsame_any (g a c d n : Nat) (L : List St) (w : World) (h1 : Rw w g L) (h2 : Rw w a L) (hn : L.length = n) (hl : n ≤ 8) :
    Calls Try.prog 19 #[.slice (some ⟨g, 0, none⟩) n c, .slice (some ⟨a, 0, none⟩) n d] w fun e w' => e = .returned (.bool true) ∧ w.grownBy w' none := by
  have HN := Lib.hid hn
  clear hn
  go_enter Try.func19, Try.ntmps19
  go_wp2
  go_loopw [5] (fun z wr => ∃ k : Nat, k ≤ n ∧ z = .int .i64 k ∧ ∃ m, wr = w.drewN m) (fun z _ => n - (intOf z).toNat)
  case atStart => exact ⟨0, Nat.zero_le _, rfl, 0, rfl⟩
  case round =>
    obtain ⟨k, hk, rfl, m, rfl⟩ := hrel
    by_cases hlt : k < n
    · have hkL : k < L.length := by rw [HN.out]; exact hlt
      have a0 := h1.c0 k hkL
      have a1 := h1.c1 k hkL
      have a2 := h1.c2 k hkL
      have a3 := h1.c3 k hkL
      have b0 := h2.c0 k hkL
      have b1 := h2.c1 k hkL
      have b2 := h2.c2 k hkL
      have b3 := h2.c3 k hkL
      clear h1 h2
      go_wp2
      go_quiet (fail)
      go_wp2
      all_goals
        exact ⟨⟨k + 1, by omega, by go_num, _, rfl⟩, by simp [intOf]; omega⟩
    · go_wp2
      go_ret
      exact ⟨rfl, only_drewN (World.grownBy.refl _ _) _⟩

end Go.Proofs.Ytmbbfakdcfhahaa
