/- The plain side: what the printed functions of rule and of its reference come to, once there are as many states as tasks. No Go in sight. -/
import Derived.Test.YtldnichgcmfboaaPRuleTellsx9
import Derived.Test.YtldnichgcmfboaaPRuleTellsx10
import Derived.Test.YtldnichgcmfboaaPRuleTellsx11
namespace Go.Proofs.Ytldnichgcmfboaa
open Go.RowKit Go.Proofs.YtldnichgcmfboaaW.PrintWords Go.Proofs.YtldnichgcmfboaaW.PrintLast Go.Proofs.YtldnichgcmfboaaW.PrintMore
open Go.Proofs.Ytldnichgcmfboaa.PRuleTells

/-- From some number of rounds on the answer is r. -/
def Evt {α : Type} (g : Nat → Option α) (r : α) : Prop := ∃ K, ∀ k, K ≤ k → g k = some r

theorem Evt.now {α : Type} {g : Nat → Option α} {r : α} (h : ∀ k, g k = some r) : Evt g r := ⟨0, fun k _ => h k⟩
theorem Evt.step {α : Type} {g : Nat → Option α} {r : α} (h : Evt (fun k => g (k + 1)) r) : Evt g r := by
  obtain ⟨K, h⟩ := h
  refine ⟨K + 1, fun k hk => ?_⟩
  obtain ⟨k, rfl⟩ : ∃ m, k = m + 1 := ⟨k - 1, by omega⟩
  exact h k (by omega)
theorem Evt.bind {α β : Type} {g : Nat → Option α} {r : α} {h : Nat → α → Option β} {s : β} (h1 : Evt g r) (h2 : Evt (fun k => h k r) s) : Evt (fun k => (g k).bind fun t => h k t) s := by
  obtain ⟨K1, h1⟩ := h1
  obtain ⟨K2, h2⟩ := h2
  exact ⟨K1 + K2, fun k hk => by simp only [h1 k (by omega), Option.bind_some]; exact h2 k (by omega)⟩
theorem Evt.congr {α : Type} {g g' : Nat → Option α} {r : α} (h : Evt g r) (e : ∀ k, g' k = g k) : Evt g' r := by
  obtain ⟨K, h⟩ := h
  exact ⟨K, fun k hk => by rw [e]; exact h k hk⟩
theorem Evt.of_eq {α : Type} {g : Nat → Option α} {r r' : α} (h : Evt g r) (e : r = r') : Evt g r' := e ▸ h
theorem Evt.both {α β : Type} {g : Nat → Option α} {g' : Nat → Option β} {r : α} {r' : β} (h : Evt g r) (h' : Evt g' r') : ∃ k, g k = some r ∧ g' k = some r' := by
  obtain ⟨K, h⟩ := h
  obtain ⟨K', h'⟩ := h'
  exact ⟨K + K', h _ (by omega), h' _ (by omega)⟩

theorem wrap_up {i : Int} (h0 : 0 ≤ i) (h : i < 9223372036854775807) : wrap64 (i + 1) = i + 1 := by
  unfold wrap64
  omega

/-! ### What is there, and in which rank -/
def pend (L : List S33) (i : Int) : Bool := decide (0 ≤ i) && (L[i.toNat]?.map S33.f0).getD false
def rank (T : List S37) (L : List S33) (i : Int) : Int := if pend L i then (if (rd_T37 T i).f3 = 2 ∧ (rd_T33 L i).f1 = true then (rd_T37 T i).f5 else i) else -1

theorem pend_in {L : List S33} {i : Int} (h : pend L i = true) : 0 ≤ i ∧ i < L.length := by
  simp only [pend, Bool.and_eq_true, decide_eq_true_eq] at h
  refine ⟨h.1, ?_⟩
  by_cases hl : i.toNat < L.length
  · omega
  · rw [List.getElem?_eq_none (by omega)] at h
    simp at h
theorem pend_rd {L : List S33} {i : Int} (h0 : 0 ≤ i) (h1 : i < L.length) : (rd_T33 L i).f0 = pend L i := by
  have hl : i.toNat < L.length := by omega
  simp [pend, rd_T33, h0, hl, List.getD]
theorem pend_out {L : List S33} {i : Int} (h : i < 0 ∨ (L.length : Int) ≤ i) : pend L i = false := by
  cases hp : pend L i with
  | false => rfl
  | true => have := pend_in hp; omega

theorem is_eq {T : List S37} {L : List S33} (hn : T.length = L.length) (a i : Int) : rule_is.f a T L i = some (pend L i) := by
  unfold rule_is.f
  by_cases h0 : i ≥ 0
  · rw [if_pos h0]
    by_cases h1 : i < (T.length : Int)
    · rw [if_pos h1, if_pos h0, if_pos (by omega), pend_rd h0 (by omega)]
    · rw [if_neg h1, pend_out (by omega)]
  · rw [if_neg h0, pend_out (by omega)]
theorem there_eq (L : List S33) (i : Int) : taskmasterref24_there.f L i = some (pend L i) := by
  unfold taskmasterref24_there.f
  by_cases h0 : i ≥ 0
  · rw [if_pos h0]
    by_cases h1 : i < (L.length : Int)
    · rw [if_pos h1, if_pos h0, pend_rd h0 (by omega)]
    · rw [if_neg h1, pend_out (by omega)]
  · rw [if_neg h0, pend_out (by omega)]

theorem rank_eq {T : List S37} {L : List S33} (hn : T.length = L.length) (a i : Int) : rule_Rank.f a T L i = some (rank T L i) := by
  unfold rule_Rank.f rank
  rw [is_eq hn, Option.bind_some]
  cases hp : pend L i with
  | false => simp
  | true =>
    have := pend_in hp
    rw [if_pos rfl, if_pos this.1, if_pos (by omega), if_pos rfl]
    by_cases hm : (rd_T37 T i).f3 = 2
    · rw [if_pos hm, if_pos this.2]
      by_cases hs : (rd_T33 L i).f1 = true
      · rw [if_pos hs, if_pos ⟨hm, hs⟩]
      · rw [if_neg hs, if_neg (fun h => hs h.2)]
    · rw [if_neg hm, if_neg (fun h => hm h.1)]
theorem rrank_eq {T : List S37} {L : List S33} (hn : T.length = L.length) (a i : Int) : taskmasterref24_Rank.f a T L i = some (rank T L i) := by
  unfold taskmasterref24_Rank.f rank
  rw [there_eq, Option.bind_some]
  cases hp : pend L i with
  | false => simp
  | true =>
    have := pend_in hp
    rw [if_pos rfl, if_pos this.1, if_pos (by omega), if_pos rfl]
    by_cases hm : (rd_T37 T i).f3 = 2
    · rw [if_pos hm, if_pos this.2]
      by_cases hs : (rd_T33 L i).f1 = true
      · rw [if_pos hs, if_pos ⟨hm, hs⟩]
      · rw [if_neg hs, if_neg (fun h => hs h.2)]
    · rw [if_neg hm, if_neg (fun h => hm h.1)]

/-! ### The oldest of higher ones -/
def oldStep (r : Int × Bool) (x : S33) : Int × Bool := if x.f0 && (!r.2 || decide (x.f3 < r.1)) then (x.f3, true) else r
def old (L : List S33) : Int × Bool := L.foldl oldStep (0, false)

theorem old_snoc (L : List S33) (k : Nat) (h : k < L.length) : old (L.take (k + 1)) = oldStep (old (L.take k)) (rd_T33 L k) := by
  unfold old
  rw [List.take_succ_eq_append_getElem h, List.foldl_append]
  simp [rd_T33, h, List.getD]

theorem waits_from (l : List S33) (hl : (l.length : Int) ≤ 9223372036854775807) (q t : Int) (d : Nat) : ∀ i : Nat, i + d = l.length →
    Evt (fun k => rule_waits.l0 k q t (old (l.take i)).1 (old (l.take i)).2 l l.length i) ((old l).2 && decide (t < wrap64 (q + (old l).1))) := by
  induction d with
  | zero =>
    intro i hi
    obtain rfl : i = l.length := by omega
    apply Evt.step
    apply Evt.now
    intro k
    simp only [rule_waits.l0]
    rw [if_neg (by omega), List.take_of_length_le (Nat.le_refl _)]
    cases (old l).2 <;> simp
  | succ d ih =>
    intro i hi
    have hlt : i < l.length := by omega
    have := ih (i + 1) (by omega)
    rw [old_snoc l i hlt] at this
    apply Evt.step
    refine this.congr fun k => ?_
    simp only [rule_waits.l0]
    rw [if_pos (by omega), if_pos (by omega), if_pos (by omega), wrap_up (by omega) (by omega)]
    unfold oldStep
    rw [show ((i + 1 : Nat) : Int) = (i : Int) + 1 from by omega]
    obtain ⟨a, b⟩ := old (l.take i)
    by_cases hp : (rd_T33 l i).f0 = true
    · rw [if_pos hp]
      cases b with
      | false => simp [hp]
      | true =>
        by_cases hlt' : (rd_T33 l i).f3 < a
        · simp [hp, hlt']
        · simp [hp, hlt']
    · rw [if_neg hp]
      simp [hp]

theorem waits_evt (l : List S33) (hl : (l.length : Int) ≤ 9223372036854775807) (q t : Int) : Evt (fun k => rule_waits.f k l q t) ((old l).2 && decide (t < wrap64 (q + (old l).1))) := by
  have := waits_from l hl q t l.length 0 (by omega)
  simpa [rule_waits.f, old] using this

theorem oldest_from (L : List S33) (hl : (L.length : Int) < 9223372036854775807) (n : Nat) (hn : n ≤ L.length) (d : Nat) : ∀ i : Nat, i + d = n →
    Evt (fun k => taskmasterref21_Oldest.l0 k L n (old (L.take i)).1 (old (L.take i)).2 i) (old (L.take n)) := by
  induction d with
  | zero =>
    intro i hi
    obtain rfl : i = n := by omega
    apply Evt.step
    apply Evt.step
    apply Evt.now
    intro k
    simp only [taskmasterref21_Oldest.l0, taskmasterref21_Oldest.j1]
    rw [if_neg (by omega)]
    simp
  | succ d ih =>
    intro i hi
    have hlt : i < L.length := by omega
    have := ih (i + 1) (by omega)
    rw [old_snoc L i hlt] at this
    apply Evt.step
    apply Evt.step
    refine this.congr fun k => ?_
    simp only [taskmasterref21_Oldest.l0, taskmasterref21_Oldest.j1]
    rw [if_pos (by omega)]
    rw [show decide ((i : Int) < (L.length : Int)) = true from by simp; omega]
    rw [if_pos rfl, if_pos (by omega), if_pos (by omega), wrap_up (by omega) (by omega)]
    unfold oldStep
    rw [show ((i + 1 : Nat) : Int) = (i : Int) + 1 from by omega]
    obtain ⟨a, b⟩ := old (L.take i)
    by_cases hp : (rd_T33 L i).f0 = true
    · rw [if_pos hp]
      cases b with
      | false => simp [hp]
      | true =>
        by_cases hlt' : (rd_T33 L i).f3 < a
        · simp [hp, hlt']
        · simp [hp, hlt']
    · rw [if_neg hp]
      simp [hp]

theorem oldest_evt (L : List S33) (hl : (L.length : Int) < 9223372036854775807) (i : Int) (h0 : 0 ≤ i) (h1 : i ≤ L.length) : Evt (fun k => taskmasterref21_Oldest.f k L i) (old (L.take i.toNat)) := by
  have := oldest_from L hl i.toNat (by omega) i.toNat 0 (by omega)
  rw [show ((i.toNat : Nat) : Int) = i from by omega] at this
  simpa [taskmasterref21_Oldest.f, old] using this

/-! ### Who is held -/
def held (T : List S37) (L : List S33) (last tick : Int) : Bool :=
  pend L last && (rd_T33 L last).f1 &&
    (if (rd_T37 T last).f3 = 0 then (rd_T33 L last).f2
     else if (rd_T37 T last).f3 = 1 then (old (L.take last.toNat)).2 && decide (tick < wrap64 ((rd_T37 T last).f4 + (old (L.take last.toNat)).1)) else false)

theorem held_evt {T : List S37} {L : List S33} (hn : T.length = L.length) (hl : (L.length : Int) < 9223372036854775807) (a last tick : Int) : Evt (fun k => rule_Held.f k a T L last tick) (held T L last tick) := by
  unfold rule_Held.f held
  simp only [is_eq hn, Option.bind_some]
  cases hp : pend L last with
  | false =>
    apply Evt.step
    apply Evt.now
    intro k
    simp [rule_Held.j0]
  | true =>
    have hi := pend_in hp
    simp only [if_true, if_pos hi.1, if_pos hi.2]
    apply Evt.step
    simp only [rule_Held.j0]
    cases hs : (rd_T33 L last).f1 with
    | false => exact Evt.now fun k => by simp
    | true =>
      by_cases h0 : (rd_T37 T last).f3 = 0
      · exact Evt.now fun k => by simp [h0, hi.1, hi.2, show last < (T.length : Int) from by omega]
      · by_cases h1 : (rd_T37 T last).f3 = 1
        · have hw := waits_evt (L.take last.toNat) (by simp; omega) (rd_T37 T last).f4 tick
          refine (hw.congr fun k => ?_).of_eq ?_
          · simp [h1, hi.1, show last ≤ (L.length : Int) from by omega, show last < (T.length : Int) from by omega]
          · simp [h1]
        · exact Evt.now fun k => by simp [h0, h1, hi.1, show last < (T.length : Int) from by omega]

theorem rheld_evt {T : List S37} {L : List S33} (hn : T.length = L.length) (hl : (L.length : Int) < 9223372036854775807) (a last tick : Int) : Evt (fun k => taskmasterref24_Held.f k a T L last tick) (held T L last tick) := by
  unfold taskmasterref24_Held.f held
  simp only [there_eq, Option.bind_some]
  cases hp : pend L last with
  | false =>
    apply Evt.step
    apply Evt.now
    intro k
    simp [taskmasterref24_Held.j0]
  | true =>
    have hi := pend_in hp
    simp only [if_true, if_pos hi.1, if_pos hi.2]
    apply Evt.step
    simp only [taskmasterref24_Held.j0]
    cases hs : (rd_T33 L last).f1 with
    | false => exact Evt.now fun k => by simp
    | true =>
      by_cases h0 : (rd_T37 T last).f3 = 0
      · exact Evt.now fun k => by simp [h0, hi.1, hi.2, show last < (T.length : Int) from by omega]
      · by_cases h1 : (rd_T37 T last).f3 = 1
        · have hw := oldest_evt L hl last hi.1 (by omega)
          obtain ⟨K, hK⟩ := hw
          refine ⟨K, fun k hk => ?_⟩
          simp only [h1, hi.1, show last < (T.length : Int) from by omega, hK k hk]
          obtain ⟨o1, o2⟩ := old (L.take last.toNat)
          rw [Int.add_comm _ o1]
          cases o2 <;> simp
        · exact Evt.now fun k => by simp [h0, h1, hi.1, show last < (T.length : Int) from by omega]

/-! ### Who runs -/
def bestStep (T : List S37) (L : List S33) (b i : Int) : Int := if pend L i && (decide (b = -1) || decide (rank T L i ≤ rank T L b)) then i else b
def best (T : List S37) (L : List S33) (n : Nat) : Int := ((List.range n).map (fun j : Nat => (j : Int))).foldl (bestStep T L) (-1)
def choose (T : List S37) (L : List S33) (last tick : Int) : Int := if held T L last tick then last else best T L L.length

theorem best_succ (T : List S37) (L : List S33) (n : Nat) : best T L (n + 1) = bestStep T L (best T L n) n := by
  unfold best
  rw [List.range_succ, List.map_append, List.foldl_append]
  rfl

theorem choose_from {T : List S37} {L : List S33} (hn : T.length = L.length) (hl : (L.length : Int) < 9223372036854775807) (a : Int) (d : Nat) : ∀ i : Nat, i + d = L.length →
    Evt (fun k => rule_Choose.l0 k L (best T L i) (T.length : Int) i a T) (best T L L.length) := by
  induction d with
  | zero =>
    intro i hi
    obtain rfl : i = L.length := by omega
    apply Evt.step
    apply Evt.now
    intro k
    simp only [rule_Choose.l0]
    rw [if_neg (by omega)]
  | succ d ih =>
    intro i hi
    have := ih (i + 1) (by omega)
    rw [best_succ] at this
    apply Evt.step
    refine this.congr fun k => ?_
    simp only [rule_Choose.l0]
    rw [if_pos (by omega), is_eq hn, wrap_up (by omega) (by omega)]
    simp only [rank_eq hn, Option.bind_some]
    unfold bestStep
    rw [show ((i + 1 : Nat) : Int) = (i : Int) + 1 from by omega]
    cases hp : pend L i with
    | false => simp
    | true =>
      by_cases hb : best T L i = -1
      · simp [hb]
      · by_cases hr : rank T L i ≤ rank T L (best T L i)
        · simp [hb, hr]
        · simp [hb, hr]

theorem choose_evt {T : List S37} {L : List S33} (hn : T.length = L.length) (hl : (L.length : Int) < 9223372036854775807) (a last tick : Int) : Evt (fun k => rule_Choose.f k a T L last tick) (choose T L last tick) := by
  unfold rule_Choose.f choose
  refine Evt.bind (held_evt hn hl a last tick) ?_
  cases held T L last tick with
  | true => exact Evt.now fun k => by simp
  | false => exact (choose_from hn hl a L.length 0 (by omega)).congr fun k => by simp [best]

theorem rchoose_from {T : List S37} {L : List S33} (hn : T.length = L.length) (hl : (L.length : Int) < 9223372036854775807) (a : Int) (d : Nat) : ∀ i : Nat, i + d = L.length →
    Evt (fun k => taskmasterref24_Choose.l0 k L (best T L i) i a T) (best T L L.length) := by
  induction d with
  | zero =>
    intro i hi
    obtain rfl : i = L.length := by omega
    apply Evt.step
    apply Evt.now
    intro k
    simp only [taskmasterref24_Choose.l0]
    rw [if_neg (by omega)]
  | succ d ih =>
    intro i hi
    have := ih (i + 1) (by omega)
    rw [best_succ] at this
    apply Evt.step
    refine this.congr fun k => ?_
    simp only [taskmasterref24_Choose.l0]
    rw [if_pos (by omega), there_eq, wrap_up (by omega) (by omega)]
    simp only [rrank_eq hn, Option.bind_some]
    unfold bestStep
    rw [show ((i + 1 : Nat) : Int) = (i : Int) + 1 from by omega]
    cases hp : pend L i with
    | false => simp
    | true =>
      by_cases hb : best T L i = -1
      · simp [hb]
      · by_cases hr : rank T L i ≤ rank T L (best T L i)
        · simp [hb, hr]
        · simp [hb, hr]

theorem rchoose_evt {T : List S37} {L : List S33} (hn : T.length = L.length) (hl : (L.length : Int) < 9223372036854775807) (a last tick : Int) : Evt (fun k => taskmasterref24_Choose.f k a T L last tick) (choose T L last tick) := by
  unfold taskmasterref24_Choose.f choose
  refine Evt.bind (rheld_evt hn hl a last tick) ?_
  cases held T L last tick with
  | true => exact Evt.now fun k => by simp
  | false => exact (rchoose_from hn hl a L.length 0 (by omega)).congr fun k => by simp [best]

/-! ### What is known of who runs -/
theorem best_spec (T : List S37) (L : List S33) (n : Nat) (hn : n ≤ L.length) :
    (best T L n = -1 ∧ ∀ j : Nat, j < n → pend L j = false) ∨
    (pend L (best T L n) = true ∧ ∀ j : Nat, j < n → pend L j = true → rank T L (best T L n) ≤ rank T L j) := by
  induction n with
  | zero => exact .inl ⟨rfl, fun j h => by omega⟩
  | succ n ih =>
    rw [best_succ]
    unfold bestStep
    cases hp : pend L n with
    | false =>
      simp only [Bool.false_and, Bool.false_eq_true, if_false]
      rcases ih (by omega) with ⟨h1, h2⟩ | ⟨h1, h2⟩
      · refine .inl ⟨h1, fun j hj => ?_⟩
        by_cases e : j = n
        · rw [e]; exact hp
        · exact h2 j (by omega)
      · refine .inr ⟨h1, fun j hj hpj => ?_⟩
        by_cases e : j = n
        · rw [e, hp] at hpj; cases hpj
        · exact h2 j (by omega) hpj
    | true =>
      rcases ih (by omega) with ⟨h1, h2⟩ | ⟨h1, h2⟩
      · simp only [h1, decide_true, Bool.true_or, Bool.and_self, if_true]
        refine .inr ⟨hp, fun j hj hpj => ?_⟩
        by_cases e : j = n
        · rw [e]; exact Int.le_refl _
        · rw [h2 j (by omega)] at hpj; cases hpj
      · have hne : best T L n ≠ -1 := by
          intro e
          rw [e, pend_out (by omega)] at h1
          cases h1
        by_cases hr : rank T L n ≤ rank T L (best T L n)
        · simp only [hr, decide_true, Bool.or_true, Bool.and_self, if_true]
          refine .inr ⟨hp, fun j hj hpj => ?_⟩
          by_cases e : j = n
          · rw [e]; exact Int.le_refl _
          · exact Int.le_trans hr (h2 j (by omega) hpj)
        · simp only [hne, hr, decide_false, Bool.or_self, Bool.and_false, Bool.false_eq_true, if_false]
          refine .inr ⟨h1, fun j hj hpj => ?_⟩
          by_cases e : j = n
          · rw [e]; omega
          · exact h2 j (by omega) hpj

theorem held_pend {T : List S37} {L : List S33} {last tick : Int} (h : held T L last tick = true) : pend L last = true ∧ (rd_T33 L last).f1 = true := by
  simp only [held, Bool.and_eq_true] at h
  exact ⟨h.1.1, h.1.2⟩

end Go.Proofs.Ytldnichgcmfboaa
