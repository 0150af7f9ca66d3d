/- What the reference's Police comes to: two rows of numbers, the periods and the last ticks (-1: none). -/
import Derived.Test.YtggoflcphalnpaaKnown
namespace Go.Proofs.Ytggoflcphalnpaa
open Go.RowKit

theorem hide {p : Prop} (h : p) : Hid p := h

def perC (L : List Wt) : List Value := L.map fun x => .int .i64 x.t
/-- The last tick as the reference keeps it. -/
def lastI (x : Wt) : Int := if x.on then x.last else -1
def lastC (L : List Wt) : List Value := L.map fun x => .int .i64 (lastI x)

/-- The reference's Police at block p: a slice of periods, a slice of last ticks. -/
structure RPol (w : World) (base p : Nat) (v u : Value) (L : List Wt) : Prop where
  hd : Blk w p 43 #[v, u]
  per : w.ownsRow base 2 1 v L.length (perC L)
  last : w.ownsRow base 2 1 u L.length (lastC L)
  ne : v.ownBlock = none ∨ v.ownBlock ≠ u.ownBlock

/-- The same with the rows' blocks named. -/
structure RAt (w : World) (base p a ca b cb : Nat) (L : List Wt) : Prop where
  pol : RPol w base p (.slice (some ⟨a, 0, none⟩) L.length ca) (.slice (some ⟨b, 0, none⟩) L.length cb) L
  ab : a ≠ b
  ap : a ≠ p
  bp : b ≠ p

theorem own_at {w : World} {base a c n : Nat} {e : TypeId} {xs : List Value} (h : w.ownsRow base e 1 (.slice (some ⟨a, 0, none⟩) n c) n xs) :
    base ≤ a ∧ ∃ cur, Blk w a e cur ∧ cur.size = c ∧ n ≤ c ∧ cur.toList.take n = xs := by
  rcases h.2 with ⟨h0, _⟩ | ⟨g, c', cur, h0, hb, hh, hn, hm, hs, ht⟩
  · cases h0
  · injection h0 with h0 h1 h2
    injection h0 with h0
    injection h0 with h0
    subst h0 h2
    exact ⟨hb, cur, hh, by simpa using hs, hn, by simpa using ht⟩

theorem own_cell {w : World} {base a c n : Nat} {e : TypeId} {xs : List Value} (h : w.ownsRow base e 1 (.slice (some ⟨a, 0, none⟩) n c) n xs) (i : Nat) (hi : i < n) : w.cell? ⟨a, i, none⟩ = xs[i]? := by
  obtain ⟨_, cur, hb, hs, hn, ht⟩ := own_at h
  rw [hb.cell, ← ht, List.getElem?_take_of_lt hi]
  simp

section
variable {w w' : World} {base p a ca b cb : Nat} {v u : Value} {L : List Wt}
theorem RAt.cp (h : RAt w base p a ca b cb L) : w.cell? ⟨p, 0, none⟩ = some (.slice (some ⟨a, 0, none⟩) L.length ca) := by rw [h.pol.hd.cell]; rfl
theorem RAt.cl (h : RAt w base p a ca b cb L) : w.cell? ⟨p, 1, none⟩ = some (.slice (some ⟨b, 0, none⟩) L.length cb) := by rw [h.pol.hd.cell]; rfl
theorem RAt.c0 (h : RAt w base p a ca b cb L) {i : Nat} (hi : i < L.length) : w.cell? ⟨a, i, none⟩ = some (.int .i64 L[i].t) := by
  rw [own_cell h.pol.per i hi]; simp [perC, hi]
theorem RAt.c1 (h : RAt w base p a ca b cb L) {i : Nat} (hi : i < L.length) : w.cell? ⟨b, i, none⟩ = some (.int .i64 (lastI L[i])) := by
  rw [own_cell h.pol.last i hi]; simp [lastC, hi]
theorem RAt.fr (h : RAt w base p a ca b cb L) (i : Nat) : w.frozen? ⟨b, i, none⟩ = false := by
  obtain ⟨_, cur, hb, _⟩ := own_at h.pol.last
  exact hb.frozen i
theorem RAt.lt (h : RAt w base p a ca b cb L) : a < w.heap.size ∧ b < w.heap.size ∧ p < w.heap.size ∧ base ≤ a ∧ base ≤ b := by
  obtain ⟨h1, cur, hb, _⟩ := own_at h.pol.per
  obtain ⟨h2, cur', hb', _⟩ := own_at h.pol.last
  exact ⟨hb.lt, hb'.lt, h.pol.hd.lt, h1, h2⟩
theorem own_keep {row : Option Nat} {e : TypeId} {n : Nat} {xs : List Value} (h : w.ownsRow base e 1 v n xs) (hg : w.grownBy w' row) (h2 : v.ownBlock = none ∨ v.ownBlock ≠ row) : w'.ownsRow base e 1 v n xs := by
  refine ⟨h.1, ?_⟩
  rcases h.2 with h0 | ⟨g, c, cur, rfl, hb, hh, rest⟩
  · exact .inl h0
  · refine .inr ⟨g, c, cur, rfl, hb, ?_, rest⟩
    have hne : some g ≠ row := by
      rcases h2 with h2 | h2
      · simp [Value.ownBlock] at h2
      · exact h2
    exact Blk.grown hh hg hne
theorem RPol.keep {row : Option Nat} (h : RPol w base p v u L) (hg : w.grownBy w' row) (h1 : some p ≠ row) (h2 : v.ownBlock = none ∨ v.ownBlock ≠ row) (h3 : u.ownBlock = none ∨ u.ownBlock ≠ row) : RPol w' base p v u L :=
  ⟨h.hd.grown hg h1, own_keep h.per hg h2, own_keep h.last hg h3, h.ne⟩
theorem RPol.drewN (h : RPol w base p v u L) (n : Nat) : RPol (w.drewN n) base p v u L := ⟨h.hd, h.per, h.last, h.ne⟩
theorem RPol.drew (h : RPol w base p v u L) : RPol w.drew base p v u L := ⟨h.hd, h.per, h.last, h.ne⟩
theorem RAt.keep {row : Option Nat} (h : RAt w base p a ca b cb L) (hg : w.grownBy w' row) (h1 : some p ≠ row) (h2 : some a ≠ row) (h3 : some b ≠ row) : RAt w' base p a ca b cb L :=
  ⟨h.pol.keep hg h1 (.inr (by simpa [Value.ownBlock] using h2)) (.inr (by simpa [Value.ownBlock] using h3)), h.ab, h.ap, h.bp⟩
theorem RAt.drewN (h : RAt w base p a ca b cb L) (n : Nat) : RAt (w.drewN n) base p a ca b cb L := ⟨h.pol.drewN n, h.ab, h.ap, h.bp⟩
theorem RAt.drew (h : RAt w base p a ca b cb L) : RAt w.drew base p a ca b cb L := ⟨h.pol.drew, h.ab, h.ap, h.bp⟩
theorem RPol.at_ (h : RPol w base p v u L) (hL : 0 < L.length) : ∃ a ca b cb, v = .slice (some ⟨a, 0, none⟩) L.length ca ∧ u = .slice (some ⟨b, 0, none⟩) L.length cb ∧ RAt w base p a ca b cb L := by
  rcases h.per.2 with ⟨_, h0⟩ | ⟨g, c, cur, hv, _⟩
  · omega
  rcases h.last.2 with ⟨_, h0⟩ | ⟨g', c', cur', hu, _⟩
  · omega
  subst hv hu
  refine ⟨g, c, g', c', rfl, rfl, h, ?_, ?_, ?_⟩
  · have := h.ne
    simpa [Value.ownBlock] using this
  · intro e
    exact own_blk_ne h.per h.hd (by decide) (by simp [Value.ownBlock, e])
  · intro e
    exact own_blk_ne h.last h.hd (by decide) (by simp [Value.ownBlock, e])

theorem RAt.set (h : RAt w base p a ca b cb L) {i : Nat} (hi : i < L.length) (t : Int) :
    RAt (w.setCell ⟨b, i, none⟩ (.int .i64 t)) base p a ca b cb (L.set i ⟨L[i].t, t, true⟩) := by
  have hg : w.grownBy (w.setCell ⟨b, i, none⟩ (.int .i64 t)) (some b) := only_setCell (World.grownBy.refl w _) (.inl rfl) _
  obtain ⟨hb2, cur, hB, hs, hn, ht⟩ := own_at h.pol.last
  refine ⟨⟨?_, ?_, ?_, .inr (by simpa [Value.ownBlock] using h.ab)⟩, h.ab, h.ap, h.bp⟩
  · rw [List.length_set]
    exact h.pol.hd.grown hg (fun e => h.bp (by injection e with e; exact e.symm))
  · rw [List.length_set]
    have e : perC (L.set i ⟨L[i].t, t, true⟩) = perC L := by
      unfold perC
      rw [List.map_set]
      apply List.ext_getElem
      · simp
      · intro j h1 h2
        rw [List.getElem_set]
        split
        · next hij => subst hij; simp
        · rfl
    rw [e]
    exact own_keep h.pol.per hg (.inr (by simpa [Value.ownBlock] using h.ab))
  · rw [List.length_set]
    refine ⟨by simp [lastC], .inr ⟨b, cb, _, rfl, hb2, hB.set_ i (.int .i64 t), hn, ?_, by simpa using hs, ?_⟩⟩
    · rcases h.pol.last.2 with ⟨h0, _⟩ | ⟨g, c, cur, h0, _, _, _, hm, _⟩
      · cases h0
      · injection h0 with _ _ h0
        subst h0
        exact hm
    · simp only [Array.toList_setIfInBounds, Nat.mul_one, lastC, List.map_set, lastI]
      rw [List.take_set, ht]
      rfl
end

theorem is_in {base p a ca b cb : Nat} {L : List Wt} (n : Nat) (hn : n < L.length) (w : World) (h : RAt w base p a ca b cb L) :
    Calls Try.prog 16 #[.pointer (some ⟨p, 0, none⟩), .int .i64 n] w fun e w' => e = .returned (.bool true) ∧ w = w' := by
  have c := h.cp
  clear h
  go_enter Try.func16, Try.ntmps16
  go_wp2
  go_ret
  exact ⟨rfl, rfl⟩
theorem is_out {base p : Nat} {v u : Value} {L : List Wt} (i : Int) (hi : i < 0 ∨ (L.length : Int) ≤ i) (w : World) (h : RPol w base p v u L) :
    Calls Try.prog 16 #[.pointer (some ⟨p, 0, none⟩), .int .i64 i] w fun e w' => e = .returned (.bool false) ∧ w = w' := by
  obtain ⟨A, cap, hv⟩ : ∃ A cap, v = .slice A L.length cap := by
    rcases h.per.2 with ⟨h0, h1⟩ | ⟨g, c, cur, h0, _⟩
    · exact ⟨none, 0, by rw [h0, h1]⟩
    · exact ⟨_, c, h0⟩
  have c : w.cell? ⟨p, 0, none⟩ = some (.slice A L.length cap) := by rw [h.hd.cell, hv]; rfl
  clear h hv
  by_cases h0 : i < 0
  · clear hi
    go_enter Try.func16, Try.ntmps16
    go_wp2
    go_ret
    exact ⟨rfl, rfl⟩
  · have h1 : (L.length : Int) ≤ i := by omega
    have d1 : decide (i < (L.length : Int)) = false := by simp; omega
    clear hi
    go_enter Try.func16, Try.ntmps16
    go_wp2
    go_ret
    exact ⟨rfl, rfl⟩

theorem rearly_out {base p : Nat} {v u : Value} {L : List Wt} (i t : Int) (hi : i < 0 ∨ (L.length : Int) ≤ i) (w : World) (h : RPol w base p v u L) :
    Calls Try.prog 9 #[.pointer (some ⟨p, 0, none⟩), .int .i64 i, .int .i64 t] w fun e w' => e = .returned (.bool (earlyL L i t)) ∧ ∃ m, w.drewN m = w' := by
  rw [earlyL_out hi]
  have hI : ∀ n, Calls Try.prog 16 #[.pointer (some ⟨p, 0, none⟩), .int .i64 i] (w.drewN n) fun e w' => e = .returned (.bool false) ∧ w' = w.drewN n :=
    fun n => (is_out i hi _ (h.drewN n)).mono fun _ _ ⟨he, hw⟩ => ⟨he, hw.symm⟩
  have HI := hide hI
  clear hI hi h
  go_enter Try.func9, Try.ntmps9
  go_wp2_with fail
  go_quiet ((go_at_call 16; exact Calls.quiet_of_same (HI.out _)))
  go_wp2
  go_ret
  exact ⟨rfl, _, rfl⟩

set_option maxHeartbeats 2000000 in
theorem rearly_in {base p a ca b cb : Nat} {L : List Wt} (n : Nat) (t : Int) (hn : n < L.length) (hL : OkL L) (h0 : -9223372036854775808 ≤ t) (h1 : t ≤ 9223372036854775807) (w : World) (h : RAt w base p a ca b cb L) :
    Calls Try.prog 9 #[.pointer (some ⟨p, 0, none⟩), .int .i64 n, .int .i64 t] w fun e w' => e = .returned (.bool (earlyL L n t)) ∧ ∃ m, w.drewN m = w' := by
  rw [earlyL_in hn]
  obtain ⟨hl0, hl1⟩ := hL L[n] (List.getElem_mem hn)
  have hI : ∀ m, Calls Try.prog 16 #[.pointer (some ⟨p, 0, none⟩), .int .i64 n] (w.drewN m) fun e w' => e = .returned (.bool true) ∧ w' = w.drewN m :=
    fun m => (is_in n hn _ (h.drewN m)).mono fun _ _ ⟨he, hw⟩ => ⟨he, hw.symm⟩
  have HI := hide hI
  have cp := h.cp
  have cl := h.cl
  have c0 := h.c0 hn
  have c1 := h.c1 hn
  obtain ⟨x, hx⟩ : ∃ x, L[n] = x := ⟨_, rfl⟩
  rw [hx] at c0 c1 hl0 hl1 ⊢
  obtain ⟨pe, la, on⟩ := x
  simp only [lastI] at c0 c1 hl0 hl1
  have i0 : (0 : Int) ≤ (n : Int) := by omega
  have i1 : (n : Int) < (L.length : Int) := by omega
  cases on with
  | false =>
    rw [show early ⟨pe, la, false⟩ t = false from by simp [early]]
    simp only [Bool.false_eq_true, if_false] at c1
    clear hL hx hI h
    go_enter Try.func9, Try.ntmps9
    go_wp2_with fail
    go_quiet ((go_at_call 16; exact Calls.quiet_of_same (HI.out _)))
    go_wp2
    go_ret
    exact ⟨rfl, _, rfl⟩
  | true =>
    simp only [if_true] at c1
    have hd0 : decide (0 ≤ la) = true := by simpa using hl0
    by_cases hlt : t < la
    · rw [show early ⟨pe, la, true⟩ t = true from by simp [early, hlt]]
      have hd : decide (t < la) = true := by simpa using hlt
      clear hL hx hI h
      go_enter Try.func9, Try.ntmps9
      go_wp2_with fail
      go_quiet ((go_at_call 16; exact Calls.quiet_of_same (HI.out _)))
      go_wp2
      go_ret
      exact ⟨rfl, _, rfl⟩
    · rw [show early ⟨pe, la, true⟩ t = decide (t - la < pe) from by simp [early, hlt]]
      have hd : decide (t < la) = false := by simpa using hlt
      have hs : IntKind.i64.wrap (t - la) = t - la := IntWalk.i64_in _ (by omega)
      clear hL hx h0 h1 hl0 hl1 hI h
      go_enter Try.func9, Try.ntmps9
      go_wp2_with fail
      go_quiet ((go_at_call 16; exact Calls.quiet_of_same (HI.out _)))
      go_wp2
      go_ret
      exact ⟨rfl, _, rfl⟩

end Go.Proofs.Ytggoflcphalnpaa
