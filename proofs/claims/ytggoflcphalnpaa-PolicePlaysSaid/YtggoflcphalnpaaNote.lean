/- What Note of package police comes to; what its functions answer of a Police that is none, or of a task that is none. -/
import Derived.Test.YtggoflcphalnpaaEarly
namespace Go.Proofs.Ytggoflcphalnpaa
open Go.RowKit

theorem note_nil (i t : Int) (w : World) : Calls Try.prog 10 #[.pointer none, .int .i64 i, .int .i64 t] w fun e w' => e = .returned (.bool false) ∧ w = w' := by
  go_enter Try.func10, Try.ntmps10
  go_wp2_with (go_at_call 15; refine (at_nil i _).mono ?_; rintro e w' ⟨rfl, rfl⟩)
  go_ret
  exact ⟨rfl, rfl⟩

theorem noteOk_out {L : List Wt} {i : Int} (h : i < 0 ∨ (L.length : Int) ≤ i) (t : Int) : noteOk L i t = false := by
  unfold noteOk
  rcases h with h | h
  · simp [show ¬ 0 ≤ i from by omega]
  · simp [show ¬ i < (L.length : Int) from by omega]

theorem note_no {base p : Nat} {v : Value} {L : List Wt} (i t : Int) (hi : i < 0 ∨ (L.length : Int) ≤ i) (w : World) (h : Pol w base p v L) :
    Calls Try.prog 10 #[.pointer (some ⟨p, 0, none⟩), .int .i64 i, .int .i64 t] w fun e w' => e = .returned (.bool (noteOk L i t)) ∧ w = w' := by
  rw [noteOk_out hi]
  have H := Lib.hid hi
  clear hi
  go_enter Try.func10, Try.ntmps10
  go_wp2_with (go_at_call 15; refine (at_no i H.out _ h).mono ?_; rintro e w' ⟨rfl, rfl⟩)
  go_ret
  exact ⟨rfl, rfl⟩

set_option maxHeartbeats 1000000 in
theorem note_yes {base p a cap : Nat} {L : List Wt} (n : Nat) (t : Int) (hn : n < L.length) (hL : OkL L) (h0 : -9223372036854775808 ≤ t) (h1 : t ≤ 9223372036854775807) (w : World) (h : PolAt w base p a cap L) :
    Calls Try.prog 10 #[.pointer (some ⟨p, 0, none⟩), .int .i64 n, .int .i64 t] w fun e w' =>
      e = .returned (.bool (noteOk L n t)) ∧ PolAt w' base p a cap (noteL L n t) ∧ w.grownBy w' (some a) := by
  have Hat := fun W h => at_yes (base := base) (p := p) (a := a) (cap := cap) (L := L) n hn W h
  by_cases ht : t < 0
  · have e1 : noteOk L n t = false := by simp [noteOk, show ¬ 0 ≤ t from by omega]
    have e2 : noteL L n t = L := by simp [noteL, e1]
    rw [e1, e2]
    clear e1 e2
    go_enter Try.func10, Try.ntmps10
    go_wp2_with (go_at_call 15; refine (at_yes n hn _ h).mono ?_; rintro e w' ⟨rfl, rfl⟩)
    go_ret
    exact ⟨rfl, h, World.grownBy.refl _ _⟩
  · have hE := fun W h => early_yes (base := base) (p := p) (a := a) (cap := cap) (L := L) n t hn hL h0 h1 W h
    cases he : earlyL L n t with
    | true =>
      have e1 : noteOk L n t = false := by simp [noteOk, he]
      have e2 : noteL L n t = L := by simp [noteL, e1]
      rw [e1, e2]
      have HE := Lib.hid he
      clear e1 e2 he hL h0 h1
      go_enter Try.func10, Try.ntmps10
      go_wp2_with (first
        | (go_at_call 15; refine (at_yes n hn _ h).mono ?_; rintro e w' ⟨rfl, rfl⟩)
        | (go_at_call 8; refine (hE _ h).mono ?_; rintro e w' ⟨rfl, m, rfl⟩; rw [HE.out]))
      go_ret
      exact ⟨rfl, h.drewN m, only_drewN (World.grownBy.refl _ _) _⟩
    | false =>
      have e1 : noteOk L n t = true := by simp [noteOk, he, hn]; omega
      have e2 : noteL L n t = L.set n ⟨L[n].t, t, true⟩ := by simp [noteL, e1, noteAt_in hn]
      rw [e1, e2]
      have HE := Lib.hid he
      have c1 := h.c1 hn
      have c2 := h.c2 hn
      have f1 := h.fr (n * 3 + 1)
      have f2 := h.fr (n * 3 + 2)
      clear e1 e2 he hL h0 h1
      go_enter Try.func10, Try.ntmps10
      go_wp2_with (first
        | (go_at_call 15; refine (at_yes n hn _ h).mono ?_; rintro e w' ⟨rfl, rfl⟩)
        | (go_at_call 8; refine (hE _ h).mono ?_; rintro e w' ⟨rfl, m, rfl⟩; rw [HE.out]))
      go_ret
      exact ⟨rfl, (h.set hn t).drewN m, only_drewN (only_setCell (only_setCell (World.grownBy.refl w (some a)) (p := ⟨a, n * 3 + 1, none⟩) (.inl rfl) _) (p := ⟨a, n * 3 + 2, none⟩) (.inl rfl) _) m⟩

end Go.Proofs.Ytggoflcphalnpaa
