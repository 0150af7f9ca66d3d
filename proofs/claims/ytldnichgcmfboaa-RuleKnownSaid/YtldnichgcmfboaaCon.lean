/- What the functions of rule and of its reference come to in Go, in the plain model's words. -/
import Derived.Test.YtldnichgcmfboaaMay
import Derived.Test.YtldnichgcmfboaaArgs
import Derived.Test.YtldnichgcmfboaaRows
import Derived.WalkKit
import Derived.WalkSpells
import Derived.WalkLawsBesides
import Derived.Lib.Hide
import Derived.Laws.Rows
import Derived.Deep.RegionHeld3
import Derived.Deep.RegionWith
namespace Go.Proofs.Ytldnichgcmfboaa
open Go.RowKit Go.Proofs.YtldnichgcmfboaaW.PrintWords Go.Proofs.YtldnichgcmfboaaW.PrintLast Go.Proofs.YtldnichgcmfboaaW.PrintMore
open Go.Proofs.Ytldnichgcmfboaa.PRuleTells

/-- A set's tasks and as many states lie in the world. -/
structure In (w : World) (A : Option Addr) (c : Nat) (T : List S37) (B : Option Addr) (d : Nat) (L : List S33) : Prop where
  t : Kd.C k37 w A T.length T
  tc : T.length ≤ c
  l : Kd.C k33 w B L.length L
  lc : L.length ≤ d

theorem In.below {w w' : World} {A B : Option Addr} {c d : Nat} {T : List S37} {L : List S33} (h : In w A c T B d L) (hb : Below w.heap.size w w') : In w' A c T B d L :=
  ⟨Kd.C_below h.t hb, h.tc, Kd.C_below h.l hb, h.lc⟩

section
variable {w : World} {A B : Option Addr} {c d : Nat} {T : List S37} {L : List S33}

theorem c_may (hT : Small T) (a t : Int) : ∃ b, (b = true → T.length = L.length ∧ T.length ≤ 10) ∧ ∀ W, In W A c T B d L →
    Calls Try.prog 9 #[.agg #[.int .i64 a, .slice A T.length c], .slice B L.length d, .int .i64 t] W fun e w' => e = .returned (.bool b) ∧ Below W.heap.size W w' := by
  obtain ⟨b, ⟨K, hK⟩, hf⟩ := may_evt a T hT L t
  exact ⟨b, hf, fun W h => taskmasterlaw24_may.calls K a A c T B d L t b W h.t h.tc h.l h.lc (hK K (Nat.le_refl _))⟩

theorem c_rank (h : In w A c T B d L) (hn : T.length = L.length) (a i : Int) :
    Calls Try.prog 10 #[.agg #[.int .i64 a, .slice A T.length c], .slice B L.length d, .int .i64 i] w fun e w' => e = .returned (.int .i64 (rank T L i)) ∧ Below w.heap.size w w' :=
  rule_Rank.calls a A c T B d L i _ w h.t h.tc h.l h.lc (rank_eq hn a i)
theorem c_rrank (h : In w A c T B d L) (hn : T.length = L.length) (a i : Int) :
    Calls Try.prog 11 #[.agg #[.int .i64 a, .slice A T.length c], .slice B L.length d, .int .i64 i] w fun e w' => e = .returned (.int .i64 (rank T L i)) ∧ Below w.heap.size w w' :=
  taskmasterref24_Rank.calls a A c T B d L i _ w h.t h.tc h.l h.lc (rrank_eq hn a i)
theorem c_held (h : In w A c T B d L) (hn : T.length = L.length) (h10 : T.length ≤ 10) (a i t : Int) :
    Calls Try.prog 12 #[.agg #[.int .i64 a, .slice A T.length c], .slice B L.length d, .int .i64 i, .int .i64 t] w fun e w' => e = .returned (.bool (held T L i t)) ∧ Below w.heap.size w w' := by
  obtain ⟨K, hK⟩ := held_evt hn (by omega) a i t
  exact rule_Held.calls K a A c T B d L i t _ w h.t h.tc h.l h.lc (hK K (Nat.le_refl _))
theorem c_rheld (h : In w A c T B d L) (hn : T.length = L.length) (h10 : T.length ≤ 10) (a i t : Int) :
    Calls Try.prog 13 #[.agg #[.int .i64 a, .slice A T.length c], .slice B L.length d, .int .i64 i, .int .i64 t] w fun e w' => e = .returned (.bool (held T L i t)) ∧ Below w.heap.size w w' := by
  obtain ⟨K, hK⟩ := rheld_evt hn (by omega) a i t
  exact taskmasterref24_Held.calls K a A c T B d L i t _ w h.t h.tc h.l h.lc (hK K (Nat.le_refl _))
theorem c_choose (h : In w A c T B d L) (hn : T.length = L.length) (h10 : T.length ≤ 10) (a i t : Int) :
    Calls Try.prog 14 #[.agg #[.int .i64 a, .slice A T.length c], .slice B L.length d, .int .i64 i, .int .i64 t] w fun e w' => e = .returned (.int .i64 (choose T L i t)) ∧ Below w.heap.size w w' := by
  obtain ⟨K, hK⟩ := choose_evt hn (by omega) a i t
  exact rule_Choose.calls K a A c T B d L i t _ w h.t h.tc h.l h.lc (hK K (Nat.le_refl _))
theorem c_rchoose (h : In w A c T B d L) (hn : T.length = L.length) (h10 : T.length ≤ 10) (a i t : Int) :
    Calls Try.prog 15 #[.agg #[.int .i64 a, .slice A T.length c], .slice B L.length d, .int .i64 i, .int .i64 t] w fun e w' => e = .returned (.int .i64 (choose T L i t)) ∧ Below w.heap.size w w' := by
  obtain ⟨K, hK⟩ := rchoose_evt hn (by omega) a i t
  exact taskmasterref24_Choose.calls K a A c T B d L i t _ w h.t h.tc h.l h.lc (hK K (Nat.le_refl _))
theorem c_known (w : World) : Calls Try.prog 16 #[] w fun e w' => e = .returned (.bool true) ∧ Below w.heap.size w w' := by
  obtain ⟨k, hk⟩ := known_evt
  exact taskmasterlaw24_known.calls k true w hk
end

/-- A law's world: the set is boxed in the first new block; what came in lies as it did. -/
structure At (w wr : World) (a : Int) (A : Option Addr) (c : Nat) (T : List S37) (B : Option Addr) (d : Nat) (L : List S33) : Prop where
  in_ : In wr A c T B d L
  box : wr.heap[w.heap.size]? = some (.cells #[.int .i64 a, .slice A T.length c] 24 (0, 0))
  b : Below w.heap.size w wr

theorem At.start {w : World} {a : Int} {A B : Option Addr} {c d : Nat} {T : List S37} {L : List S33} (h : In w A c T B d L) : At w (w.alloc (.cells #[.int .i64 a, .slice A T.length c] 24)) a A c T B d L :=
  ⟨h.below ((Below.refl _ _).alloc (Nat.le_refl _) _), heap_alloc_new w _, (Below.refl _ _).alloc (Nat.le_refl _) _⟩
section
variable {w wr w' : World} {a : Int} {A B : Option Addr} {c d : Nat} {T : List S37} {L : List S33}
theorem At.lt (h : At w wr a A c T B d L) : w.heap.size < wr.heap.size := by
  rcases Nat.lt_or_ge w.heap.size wr.heap.size with hlt | hge
  · exact hlt
  · have := h.box; rw [Array.getElem?_eq_none hge] at this; cases this
theorem At.next (h : At w wr a A c T B d L) (hb : Below wr.heap.size wr w') : At w w' a A c T B d L :=
  ⟨h.in_.below hb, (hb.block _ h.lt).trans h.box, h.b.trans (hb.mono h.b.size)⟩
theorem At.drew (h : At w wr a A c T B d L) : At w wr.drew a A c T B d L := ⟨h.in_.below (Below.refl _ _).drew, h.box, h.b.drew⟩
theorem At.c0 (h : At w wr a A c T B d L) : wr.cell? ⟨w.heap.size, 0, none⟩ = some (.int .i64 a) := by rw [cell_of_row wr _ _ _ _ _ h.box]; rfl
theorem At.c1 (h : At w wr a A c T B d L) : wr.cell? ⟨w.heap.size, 1, none⟩ = some (.slice A T.length c) := by rw [cell_of_row wr _ _ _ _ _ h.box]; rfl
end

end Go.Proofs.Ytldnichgcmfboaa
