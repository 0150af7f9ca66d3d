/- A Police and the reference's Police of the same watches: each call of the one and of the other. -/
import Derived.Test.YtggoflcphalnpaaRefNew
import Derived.Test.YtggoflcphalnpaaActs
namespace Go.Proofs.Ytggoflcphalnpaa
open Go.RowKit

theorem noteL_out {L : List Wt} {i : Int} (h : i < 0 ∨ (L.length : Int) ≤ i) (t : Int) : noteL L i t = L := by
  unfold noteL
  rw [noteOk_out h]
  rfl
theorem in_or_out (L : List Wt) (i : Int) : (i < 0 ∨ (L.length : Int) ≤ i) ∨ ∃ n : Nat, i = n ∧ n < L.length := by
  by_cases h : i < 0 ∨ (L.length : Int) ≤ i
  · exact .inl h
  · exact .inr ⟨i.toNat, by omega, by omega⟩
theorem blk_of_own {w : World} {base : Nat} {e : TypeId} {size n : Nat} {v : Value} {xs : List Value} (h : w.ownsRow base e size v n xs) : v.ownBlock = none ∨ ∃ g cs, v.ownBlock = some g ∧ Blk w g e cs := by
  rcases h.2 with ⟨rfl, _⟩ | ⟨g, c, cur, rfl, hb, hh, _⟩
  · exact .inl rfl
  · exact .inr ⟨g, cur, rfl, hh⟩

section
variable {w w' : World} {base p p' base' : Nat} {v u v' : Value} {L L' : List Wt}
theorem early_any (i t : Int) (hL : OkL L) (h0 : -9223372036854775808 ≤ t) (h1 : t ≤ 9223372036854775807) (w : World) (h : Pol w base p v L) :
    Calls Try.prog 8 #[.pointer (some ⟨p, 0, none⟩), .int .i64 i, .int .i64 t] w fun e w' => e = .returned (.bool (earlyL L i t)) ∧ ∃ m, w.drewN m = w' := by
  rcases in_or_out L i with hi | ⟨n, rfl, hn⟩
  · exact early_no i t hi w h
  · obtain ⟨a, cap, _, hp⟩ := h.at_ (by omega)
    exact early_yes n t hn hL h0 h1 w hp
theorem rearly_any (i t : Int) (hL : OkL L) (h0 : -9223372036854775808 ≤ t) (h1 : t ≤ 9223372036854775807) (w : World) (h : RPol w base p v u L) :
    Calls Try.prog 9 #[.pointer (some ⟨p, 0, none⟩), .int .i64 i, .int .i64 t] w fun e w' => e = .returned (.bool (earlyL L i t)) ∧ ∃ m, w.drewN m = w' := by
  rcases in_or_out L i with hi | ⟨n, rfl, hn⟩
  · exact rearly_out i t hi w h
  · obtain ⟨a, ca, b, cb, _, _, hp⟩ := h.at_ (by omega)
    exact rearly_in n t hn hL h0 h1 w hp
theorem note_any (i t : Int) (hL : OkL L) (h0 : -9223372036854775808 ≤ t) (h1 : t ≤ 9223372036854775807) (w : World) (h : Pol w base p v L) :
    Calls Try.prog 10 #[.pointer (some ⟨p, 0, none⟩), .int .i64 i, .int .i64 t] w fun e w' => e = .returned (.bool (noteOk L i t)) ∧ Pol w' base p v (noteL L i t) ∧ w.grownBy w' v.ownBlock := by
  rcases in_or_out L i with hi | ⟨n, rfl, hn⟩
  · refine (note_no i t hi w h).mono ?_
    rintro e w' ⟨rfl, rfl⟩
    exact ⟨rfl, by rw [noteL_out hi]; exact h, World.grownBy.refl _ _⟩
  · obtain ⟨a, cap, hv, hp⟩ := h.at_ (by omega)
    refine (note_yes n t hn hL h0 h1 w hp).mono ?_
    rintro e w' ⟨rfl, q, g⟩
    refine ⟨rfl, ?_, by rw [hv]; exact g⟩
    have := q.pol
    rw [noteL_length] at this
    rw [hv]
    exact this
theorem rnote_any (i t : Int) (hL : OkL L) (h0 : -9223372036854775808 ≤ t) (h1 : t ≤ 9223372036854775807) (w : World) (h : RPol w base p v u L) :
    Calls Try.prog 11 #[.pointer (some ⟨p, 0, none⟩), .int .i64 i, .int .i64 t] w fun e w' => e = .returned (.bool (noteOk L i t)) ∧ RPol w' base p v u (noteL L i t) ∧ w.grownBy w' u.ownBlock := by
  rcases in_or_out L i with hi | ⟨n, rfl, hn⟩
  · refine (rnote_out i t hi w h).mono ?_
    rintro e w' ⟨rfl, rfl⟩
    exact ⟨rfl, by rw [noteL_out hi]; exact h, World.grownBy.refl _ _⟩
  · obtain ⟨a, ca, b, cb, hv, hu, hp⟩ := h.at_ (by omega)
    refine (rnote_in n t hn hL h0 h1 w hp).mono ?_
    rintro e w' ⟨rfl, q, g⟩
    refine ⟨rfl, ?_, by rw [hu]; exact g⟩
    have := q.pol
    rw [noteL_length] at this
    rw [hv, hu]
    exact this
theorem own_own_ne {e e' : TypeId} {s s' n n' : Nat} {xs xs' : List Value} (h : w.ownsRow base e s v n xs) (h' : w.ownsRow base' e' s' v' n' xs') (hne : e ≠ e') : v.ownBlock = none ∨ v.ownBlock ≠ v'.ownBlock := by
  rcases blk_of_own h with h0 | ⟨g, cs, hg, hb⟩
  · exact .inl h0
  · refine .inr (fun eq => ?_)
    rcases blk_of_own h' with h1 | ⟨g', cs', hg', hb'⟩
    · rw [hg, h1] at eq; cases eq
    · rw [hg, hg'] at eq
      injection eq with eq
      exact hb.ne_ hb' hne eq

/-- The two, of the same watches. -/
structure Duo (w wr : World) (B1 p1 : Nat) (v1 : Value) (B2 p2 : Nat) (v2 u2 : Value) (L : List Wt) : Prop where
  one : Pol wr B1 p1 v1 L
  two : RPol wr B2 p2 v2 u2 L
  ok : OkL L
  b : Below w.heap.size w wr
  l1 : w.heap.size ≤ B1
  l2 : w.heap.size ≤ B2

theorem own_ge {e : TypeId} {s n : Nat} {xs : List Value} (h : w.ownsRow base e s v n xs) {q : Nat} (hq : v.ownBlock = some q) : base ≤ q := by
  rcases h.2 with ⟨rfl, _⟩ | ⟨g, c, cur, rfl, hb, _⟩
  · simp [Value.ownBlock] at hq
  · simp [Value.ownBlock] at hq
    omega

variable {wr : World} {B1 p1 B2 p2 : Nat} {v1 v2 u2 : Value}
theorem Duo.drewN (h : Duo w wr B1 p1 v1 B2 p2 v2 u2 L) (n : Nat) : Duo w (wr.drewN n) B1 p1 v1 B2 p2 v2 u2 L := ⟨⟨h.one.hd, h.one.own⟩, h.two.drewN n, h.ok, below_drewN h.b n, h.l1, h.l2⟩
theorem Duo.drew (h : Duo w wr B1 p1 v1 B2 p2 v2 u2 L) : Duo w wr.drew B1 p1 v1 B2 p2 v2 u2 L := ⟨⟨h.one.hd, h.one.own⟩, h.two.drew, h.ok, h.b.drew, h.l1, h.l2⟩
theorem Duo.alloc (h : Duo w wr B1 p1 v1 B2 p2 v2 u2 L) (o : Obj) : Duo w (wr.alloc o) B1 p1 v1 B2 p2 v2 u2 L := by
  have g0 : wr.grownBy (wr.alloc o) none := only_alloc (World.grownBy.refl wr none) _
  have f : ∀ v : Value, v.ownBlock = none ∨ v.ownBlock ≠ none := fun v => by cases v.ownBlock <;> simp
  exact ⟨h.one.keep g0 (by simp) (f _), h.two.keep g0 (by simp) (f _) (f _), h.ok, below_only h.b (Nat.le_refl _) g0 (fun k e => by cases e), h.l1, h.l2⟩
/-- Only the first has turned. -/
structure Half (w wr : World) (B1 p1 : Nat) (v1 : Value) (B2 p2 : Nat) (v2 u2 : Value) (L L' : List Wt) : Prop where
  one : Pol wr B1 p1 v1 L'
  two : RPol wr B2 p2 v2 u2 L
  ok : OkL L
  b : Below w.heap.size w wr
  l1 : w.heap.size ≤ B1
  l2 : w.heap.size ≤ B2
theorem Duo.half (h : Duo w wr B1 p1 v1 B2 p2 v2 u2 L) (h1 : Pol w' B1 p1 v1 L') (g : wr.grownBy w' v1.ownBlock) : Half w w' B1 p1 v1 B2 p2 v2 u2 L L' :=
  ⟨h1, h.two.keep g (own_blk_ne h.one.own h.two.hd (by decide)).symm (own_own_ne h.two.per h.one.own (by decide)) (own_own_ne h.two.last h.one.own (by decide)), h.ok,
   below_only h.b (Nat.le_refl _) g (fun k e => Nat.le_trans h.l1 (own_ge h.one.own e)), h.l1, h.l2⟩
theorem Half.duo (h : Half w wr B1 p1 v1 B2 p2 v2 u2 L L') (hok : OkL L') (h2 : RPol w' B2 p2 v2 u2 L') (g : wr.grownBy w' u2.ownBlock) : Duo w w' B1 p1 v1 B2 p2 v2 u2 L' :=
  ⟨h.one.keep g (own_blk_ne h.two.last h.one.hd (by decide)).symm (own_own_ne h.one.own h.two.last (by decide)), h2, hok,
   below_only h.b (Nat.le_refl _) g (fun k e => Nat.le_trans h.l2 (own_ge h.two.last e)), h.l1, h.l2⟩
end

end Go.Proofs.Ytggoflcphalnpaa
