/- What at, Early and Note of package police come to. -/
import Derived.Test.YtggoflcphalnpaaPol
namespace Go.Proofs.Ytggoflcphalnpaa
open Go.RowKit

def early (x : Wt) (t : Int) : Bool := x.on && (decide (t < x.last) || decide (t - x.last < x.t))
def earlyL (L : List Wt) (i t : Int) : Bool := decide (0 ≤ i) && (L[i.toNat]?.map (early · t)).getD false
def noteOk (L : List Wt) (i t : Int) : Bool := decide (0 ≤ i) && decide (i < L.length) && decide (0 ≤ t) && !earlyL L i t
def noteAt (L : List Wt) (n : Nat) (t : Int) : List Wt := L.set n ⟨(L[n]?.map Wt.t).getD 0, t, true⟩
def noteL (L : List Wt) (i t : Int) : List Wt := if noteOk L i t then noteAt L i.toNat t else L
def OkL (L : List Wt) : Prop := ∀ x ∈ L, 0 ≤ x.last ∧ x.last ≤ 9223372036854775807

theorem noteAt_in {L : List Wt} {n : Nat} (h : n < L.length) (t : Int) : noteAt L n t = L.set n ⟨L[n].t, t, true⟩ := by simp [noteAt, h]
theorem earlyL_in {L : List Wt} {n : Nat} (h : n < L.length) (t : Int) : earlyL L n t = early L[n] t := by simp [earlyL, h]
theorem earlyL_out {L : List Wt} {i : Int} (h : i < 0 ∨ (L.length : Int) ≤ i) (t : Int) : earlyL L i t = false := by
  unfold earlyL
  by_cases h0 : 0 ≤ i
  · rw [List.getElem?_eq_none (by omega)]; simp
  · simp [h0]
theorem OkL.note {L : List Wt} (h : OkL L) (i t : Int) (h0 : t ≤ 9223372036854775807) : OkL (noteL L i t) := by
  unfold noteL
  split
  · rename_i hk
    intro x hx
    unfold noteAt at hx
    rcases List.mem_or_eq_of_mem_set hx with hx | rfl
    · exact h x hx
    · simp [noteOk] at hk
      exact ⟨by simpa using hk.1.2, h0⟩
  · exact h
theorem noteL_length (L : List Wt) (i t : Int) : (noteL L i t).length = L.length := by
  unfold noteL noteAt
  split <;> simp

theorem at_nil (i : Int) (w : World) : Calls Try.prog 15 #[.pointer none, .int .i64 i] w fun e w' => e = .returned (.pointer none) ∧ w = w' := by
  go_enter Try.func15, Try.ntmps15
  go_wp2
  go_ret
  exact ⟨rfl, rfl⟩

theorem at_yes {base p a cap : Nat} {L : List Wt} (n : Nat) (hn : n < L.length) (w : World) (h : PolAt w base p a cap L) :
    Calls Try.prog 15 #[.pointer (some ⟨p, 0, none⟩), .int .i64 n] w fun e w' => e = .returned (.pointer (some ⟨a, n * 3, none⟩)) ∧ w = w' := by
  have c := h.slice
  clear h
  go_enter Try.func15, Try.ntmps15
  go_wp2
  go_ret
  exact ⟨rfl, rfl⟩

theorem at_no {base p : Nat} {v : Value} {L : List Wt} (i : Int) (hi : i < 0 ∨ (L.length : Int) ≤ i) (w : World) (h : Pol w base p v L) :
    Calls Try.prog 15 #[.pointer (some ⟨p, 0, none⟩), .int .i64 i] w fun e w' => e = .returned (.pointer none) ∧ w = w' := by
  obtain ⟨A, cap, hv⟩ : ∃ A cap, v = .slice A L.length cap := by
    rcases h.own.2 with ⟨h0, h1⟩ | ⟨g, c, cur, h0, _⟩
    · exact ⟨none, 0, by rw [h0, h1]⟩
    · exact ⟨_, c, h0⟩
  have c : w.cell? ⟨p, 0, none⟩ = some (.slice A L.length cap) := by rw [h.hd.cell, hv]; rfl
  clear h hv
  by_cases h0 : i < 0
  · clear hi
    go_enter Try.func15, Try.ntmps15
    go_wp2
    go_ret
    exact ⟨rfl, rfl⟩
  · have h1 : (L.length : Int) ≤ i := by omega
    clear hi
    go_enter Try.func15, Try.ntmps15
    go_wp2
    go_ret
    exact ⟨rfl, rfl⟩

theorem early_nil (i t : Int) (w : World) : Calls Try.prog 8 #[.pointer none, .int .i64 i, .int .i64 t] w fun e w' => e = .returned (.bool false) ∧ ∃ m, w.drewN m = w' := by
  go_enter Try.func8, Try.ntmps8
  go_wp2_with (go_at_call 15; refine (at_nil i _).mono ?_; rintro e w' ⟨rfl, rfl⟩)
  go_quiet (fail)
  go_wp2
  go_ret
  exact ⟨rfl, _, rfl⟩

theorem early_no {base p : Nat} {v : Value} {L : List Wt} (i t : Int) (hi : i < 0 ∨ (L.length : Int) ≤ i) (w : World) (h : Pol w base p v L) :
    Calls Try.prog 8 #[.pointer (some ⟨p, 0, none⟩), .int .i64 i, .int .i64 t] w fun e w' => e = .returned (.bool (earlyL L i t)) ∧ ∃ m, w.drewN m = w' := by
  rw [earlyL_out hi]
  have H := Lib.hid hi
  clear hi
  go_enter Try.func8, Try.ntmps8
  go_wp2_with (go_at_call 15; refine (at_no i H.out _ h).mono ?_; rintro e w' ⟨rfl, rfl⟩)
  go_quiet (fail)
  go_wp2
  go_ret
  exact ⟨rfl, _, rfl⟩

set_option maxHeartbeats 1000000 in
theorem early_yes {base p a cap : Nat} {L : List Wt} (n : Nat) (t : Int) (hn : n < L.length) (hL : OkL L) (h0 : -9223372036854775808 ≤ t) (h1 : t ≤ 9223372036854775807) (w : World) (h : PolAt w base p a cap L) :
    Calls Try.prog 8 #[.pointer (some ⟨p, 0, none⟩), .int .i64 n, .int .i64 t] w fun e w' => e = .returned (.bool (earlyL L n t)) ∧ ∃ m, w.drewN m = w' := by
  rw [earlyL_in hn]
  obtain ⟨hl0, hl1⟩ := hL L[n] (List.getElem_mem hn)
  have c0 := h.c0 hn
  have c1 := h.c1 hn
  have c2 := h.c2 hn
  obtain ⟨x, hx⟩ : ∃ x, L[n] = x := ⟨_, rfl⟩
  rw [hx] at c0 c1 c2 hl0 hl1 ⊢
  obtain ⟨pe, la, on⟩ := x
  simp only at c0 c1 c2 hl0 hl1
  cases on with
  | false =>
    rw [show early ⟨pe, la, false⟩ t = false from by simp [early]]
    clear hL hx
    go_enter Try.func8, Try.ntmps8
    go_wp2_with (go_at_call 15; refine (at_yes n hn _ h).mono ?_; rintro e w' ⟨rfl, rfl⟩)
    go_quiet (fail)
    go_wp2
    go_ret
    exact ⟨rfl, _, rfl⟩
  | true =>
    by_cases hlt : t < la
    · rw [show early ⟨pe, la, true⟩ t = true from by simp [early, hlt]]
      have hd : decide (t < la) = true := by simpa using hlt
      clear hL hx
      go_enter Try.func8, Try.ntmps8
      go_wp2_with (go_at_call 15; refine (at_yes n hn _ h).mono ?_; rintro e w' ⟨rfl, rfl⟩)
      go_quiet (fail)
      go_wp2
      go_ret
      exact ⟨rfl, _, rfl⟩
    · rw [show early ⟨pe, la, true⟩ t = decide (t - la < pe) from by simp [early, hlt]]
      have hd : decide (t < la) = false := by simpa using hlt
      have hs : IntKind.i64.wrap (t - la) = t - la := IntWalk.i64_in _ (by omega)
      clear hL hx h0 h1 hl0 hl1
      go_enter Try.func8, Try.ntmps8
      go_wp2_with (go_at_call 15; refine (at_yes n hn _ h).mono ?_; rintro e w' ⟨rfl, rfl⟩)
      go_quiet (fail)
      go_wp2
      go_ret
      exact ⟨rfl, _, rfl⟩

end Go.Proofs.Ytggoflcphalnpaa
