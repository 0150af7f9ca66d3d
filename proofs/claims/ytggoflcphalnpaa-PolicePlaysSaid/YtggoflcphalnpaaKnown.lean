/- What the statements' closed part comes to: a Police of one period, asked by hand. -/
import Derived.Test.YtggoflcphalnpaaNew
namespace Go.Proofs.Ytggoflcphalnpaa
open Go.RowKit

theorem Pol.at_ {w : World} {base p : Nat} {v : Value} {L : List Wt} (h : Pol w base p v L) (hL : 0 < L.length) : ∃ a cap, v = .slice (some ⟨a, 0, none⟩) L.length cap ∧ PolAt w base p a cap L := by
  rcases h.own.2 with ⟨_, h0⟩ | ⟨g, c, cur, hv, _⟩
  · omega
  · subst hv
    refine ⟨g, c, rfl, h, ?_⟩
    intro e
    exact own_blk_ne h.own h.hd (by decide) (by simp [Value.ownBlock, e])

theorem Below.newNums {w : World} (z : Int) : Nums (w.alloc (.cells #[.int .i64 z] 2)) (some ⟨w.heap.size, 0, none⟩) [z] := by
  refine .inr ⟨w.heap.size, 0, rfl, by simp, fun i hi => ?_⟩
  obtain rfl : i = 0 := by simpa using hi
  simp

theorem new_one {A : Option Addr} {c : Nat} (z : Int) (W : World) (h : Nums W A [z]) (hz : odd z = false) :
    Calls Try.prog 6 #[.slice A 1 c] W fun e w' => ∃ a cap, e = .returned (.pointer (some ⟨W.heap.size, 0, none⟩)) ∧ PolAt w' (W.heap.size + 1) W.heap.size a cap [mkW z] ∧ Below W.heap.size W w' := by
  refine (new_yes A c [z] W h (by simp) (by simp [hz])).mono ?_
  rintro e w' ⟨v, rfl, hp, hb⟩
  obtain ⟨a, cap, _, hpa⟩ := hp.at_ (by simp)
  exact ⟨a, cap, rfl, hpa, hb⟩

theorem new_none {A : Option Addr} {c : Nat} (z : Int) (W : World) (h : Nums W A [z]) (hz : odd z = true) : Calls Try.prog 6 #[.slice A 1 c] W fun e w' => e = .returned (.pointer none) ∧ W = w' :=
  new_no A c [z] W h (.inr (by simp [hz]))

theorem ok_one {x : Wt} (h0 : 0 ≤ x.last) (h1 : x.last ≤ 9223372036854775807) : OkL [x] := by
  intro y hy
  obtain rfl : y = x := by simpa using hy
  exact ⟨h0, h1⟩

set_option maxHeartbeats 1000000 in
theorem known_any (w : World) : Calls Try.prog 12 #[] w fun e w' => e = .returned (.bool true) ∧ Below w.heap.size w w' := by
  go_enter Try.func12, Try.ntmps12
  go_wp2_with fail
  refine (new_one 5 _ (Below.newNums 5) (by decide)).mono ?_
  rintro e w1 ⟨a, cap, rfl, h1, b1⟩
  rw [World.size_alloc] at h1 ⊢
  have k1 : Below w.heap.size w w1 := ((Below.refl _ _).alloc (Nat.le_refl _) _).trans (b1.mono (by simp))
  clear b1
  obtain ⟨p, hp⟩ : ∃ p, w.heap.size + 1 = p := ⟨_, rfl⟩
  have hwp : w.heap.size < p := by omega
  rw [hp] at h1 ⊢
  clear hp
  have hpa := h1.lt
  go_wp2_with fail
  refine (note_yes (base := p + 1) (p := p) (a := a) (cap := cap) (L := [mkW 5]) 0 0 (by simp) (ok_one (by simp [mkW]) (by simp [mkW])) (by omega) (by omega) w1 h1).mono ?_
  rintro e w2 ⟨rfl, h2, g2⟩
  rw [show noteOk [mkW 5] ((0 : Nat) : Int) 0 = true from by decide]
  rw [show noteL [mkW 5] ((0 : Nat) : Int) 0 = [⟨5, 0, true⟩] from by rfl] at h2
  have k2 := below_only k1 (Nat.le_refl _) g2 (fun k e => by injection e with e; omega)
  clear h1 k1 g2
  go_wp2_with fail
  refine (early_yes (base := p + 1) (p := p) (a := a) (cap := cap) (L := [⟨5, 0, true⟩]) 0 4 (by simp) (ok_one (by simp) (by simp)) (by omega) (by omega) w2 h2).mono ?_
  rintro e w3 ⟨rfl, m3, rfl⟩
  rw [show earlyL [⟨5, 0, true⟩] ((0 : Nat) : Int) 4 = true from by decide]
  go_wp2_with fail
  refine (early_yes (base := p + 1) (p := p) (a := a) (cap := cap) (L := [⟨5, 0, true⟩]) 0 5 (by simp) (ok_one (by simp) (by simp)) (by omega) (by omega) _ (h2.drewN m3)).mono ?_
  rintro e w4 ⟨rfl, m4, rfl⟩
  rw [show earlyL [⟨5, 0, true⟩] ((0 : Nat) : Int) 5 = false from by decide]
  go_wp2_with fail
  refine (note_yes (base := p + 1) (p := p) (a := a) (cap := cap) (L := [⟨5, 0, true⟩]) 0 4 (by simp) (ok_one (by simp) (by simp)) (by omega) (by omega) _ (h2.drewN _)).mono ?_
  rintro e w5 ⟨rfl, h5, g5⟩
  rw [show noteOk [⟨5, 0, true⟩] ((0 : Nat) : Int) 4 = false from by decide]
  have k5 := below_only (below_drewN k2 (m3 + m4)) (Nat.le_refl _) g5 (fun k e => by injection e with e; omega)
  clear h2 k2 g5 h5
  go_wp2_with fail
  refine (new_none 0 _ (Below.newNums 0) (by decide)).mono ?_
  rintro e w6 ⟨rfl, rfl⟩
  go_wp2
  go_ret
  exact ⟨rfl, k5.alloc k5.size _⟩

end Go.Proofs.Ytggoflcphalnpaa
