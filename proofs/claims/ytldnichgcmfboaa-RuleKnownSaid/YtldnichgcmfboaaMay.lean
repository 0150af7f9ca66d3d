/- The plain side: the test of a set and its states ends, whatever they are; where it says yes there are as many states as tasks. -/
import Derived.Test.YtldnichgcmfboaaModel
namespace Go.Proofs.Ytldnichgcmfboaa
open Go.RowKit Go.Proofs.YtldnichgcmfboaaW.PrintWords Go.Proofs.YtldnichgcmfboaaW.PrintLast Go.Proofs.YtldnichgcmfboaaW.PrintMore
open Go.Proofs.Ytldnichgcmfboaa.PRuleTells

/-- It ends with some answer. -/
def Tot {α : Type} (g : Nat → Option α) : Prop := ∃ r, Evt g r
theorem Tot.now {α : Type} (r : α) : Tot (fun _ => some r) := ⟨r, Evt.now fun _ => rfl⟩
theorem Tot.step {α : Type} {g : Nat → Option α} (h : Tot (fun k => g (k + 1))) : Tot g := let ⟨r, h⟩ := h; ⟨r, h.step⟩
theorem Tot.bind {α β : Type} {g : Nat → Option α} {h : Nat → α → Option β} (h1 : Tot g) (h2 : ∀ r, Tot (fun k => h k r)) : Tot (fun k => (g k).bind fun t => h k t) := by
  obtain ⟨r, h1⟩ := h1
  obtain ⟨s, h2⟩ := h2 r
  exact ⟨s, h1.bind h2⟩
theorem Tot.ite {α : Type} {c : Prop} [Decidable c] {g g' : Nat → Option α} (h1 : c → Tot g) (h2 : ¬ c → Tot g') : Tot (fun k => if c then g k else g' k) := by
  by_cases h : c
  · simp only [if_pos h]; exact h1 h
  · simp only [if_neg h]; exact h2 h
theorem Tot.no {α : Type} {c : Prop} (h : ¬ c) (h' : c) : Tot (fun _ => (none : Option α)) := absurd h' h

theorem small_tot (c : Int) : ∃ b, taskmasterref4_small.f c = some b := by unfold taskmasterref4_small.f; split <;> exact ⟨_, rfl⟩
theorem digit_tot (c : Int) : ∃ b, taskmasterref4_digit.f c = some b := by unfold taskmasterref4_digit.f; split <;> exact ⟨_, rfl⟩
theorem in_tot (a b c : Int) : ∃ r, taskmasterref5_in.f a b c = some r := by unfold taskmasterref5_in.f; split <;> exact ⟨_, rfl⟩
theorem Tot.some_ {α : Type} {x : Option α} (h : ∃ b, x = some b) : Tot (fun _ => x) := by
  obtain ⟨b, rfl⟩ := h
  exact Tot.now b

theorem word_from (s : ByteArray) (ws : List ByteArray) (hw : (ws.length : Int) < 9223372036854775807) (d : Nat) : ∀ i : Nat, i + d = ws.length → Tot (fun k => taskmasterref4_word.l0 k s ws i) := by
  induction d with
  | zero =>
    intro i hi
    apply Tot.step
    simp only [taskmasterref4_word.l0]
    exact Tot.ite (fun h => by omega) fun _ => Tot.now _
  | succ d ih =>
    intro i hi
    have := ih (i + 1) (by omega)
    apply Tot.step
    simp only [taskmasterref4_word.l0]
    refine Tot.ite (fun h => Tot.ite (fun _ => Tot.ite (fun _ => Tot.now _) fun _ => ?_) fun h => by omega) fun _ => Tot.now _
    rw [wrap_up (by omega) (by omega)]
    exact this
theorem word_tot (s : ByteArray) : Tot (fun k => taskmasterref4_word.f k s) := by
  unfold taskmasterref4_word.f taskmasterref4_Words.f
  simp only [Option.bind_some]
  exact word_from s _ (by simp) 10 0 (by simp)

theorem num_from (s : ByteArray) (hs : (s.size : Int) ≤ 9223372036854775807) (h0 : 0 < s.size) (d : Nat) : ∀ (i : Nat) (x : Int), i + d = s.size → Tot (fun k => taskmasterref4_one.l0 k s i x) := by
  induction d with
  | zero =>
    intro i x hi
    apply Tot.step
    simp only [taskmasterref4_one.l0]
    refine Tot.ite (fun h => by omega) fun _ => ?_
    apply Tot.step
    simp only [taskmasterref4_one.j1]
    refine Tot.ite (fun h => by cases h) fun _ => Tot.ite (fun _ => Tot.now _) fun _ => Tot.ite (fun _ => Tot.ite (fun _ => Tot.ite (fun _ => Tot.now _) fun _ => Tot.now _) fun h => by omega) fun _ => Tot.now _
  | succ d ih =>
    intro i x hi
    apply Tot.step
    simp only [taskmasterref4_one.l0]
    refine Tot.ite (fun h => Tot.ite (fun _ => Tot.bind (Tot.some_ (digit_tot _)) fun b => ?_) fun h => by omega) fun h => by omega
    apply Tot.step
    simp only [taskmasterref4_one.j1]
    refine Tot.ite (fun _ => Tot.ite (fun _ => Tot.ite (fun _ => Tot.ite (fun _ => ?_) fun h => by omega) fun h => by omega) fun _ => ?_) fun _ => Tot.ite (fun _ => Tot.now _) fun _ => Tot.ite (fun _ => Tot.ite (fun _ => Tot.ite (fun _ => Tot.now _) fun _ => Tot.now _) fun h => by omega) fun _ => Tot.now _
    · rw [wrap_up (by omega) (by omega)]
      exact ih (i + 1) _ (by omega)
    · rw [wrap_up (by omega) (by omega)]
      exact ih (i + 1) _ (by omega)

theorem nam_end (s : ByteArray) (i : Nat) (hi : i ≤ s.size) : Tot (fun k => taskmasterref4_one.j3 k s i) := by
  apply Tot.step
  simp only [taskmasterref4_one.j3]
  exact Tot.ite (fun _ => Tot.ite (fun _ => Tot.bind (word_tot _) fun b => Tot.ite (fun _ => Tot.now _) fun _ => Tot.ite (fun _ => Tot.now _) fun _ => Tot.now _) fun h => by omega) fun h => by omega

theorem nam_from (s : ByteArray) (hs : (s.size : Int) ≤ 9223372036854775807) (d : Nat) : ∀ (i : Nat), i + d = s.size → Tot (fun k => taskmasterref4_one.l1 k s i) := by
  induction d with
  | zero =>
    intro i hi
    apply Tot.step
    simp only [taskmasterref4_one.l1]
    exact Tot.ite (fun h => by omega) fun _ => nam_end s i (by omega)
  | succ d ih =>
    intro i hi
    have := ih (i + 1) (by omega)
    rw [show ((i + 1 : Nat) : Int) = (i : Int) + 1 from by omega, ← wrap_up (i := i) (by omega) (by omega)] at this
    apply Tot.step
    simp only [taskmasterref4_one.l1]
    exact Tot.ite (fun h => Tot.ite (fun _ => Tot.bind (Tot.some_ (small_tot _)) fun b => Tot.ite (fun _ => this) fun _ => Tot.bind (Tot.some_ (digit_tot _)) fun c => Tot.ite (fun _ => this) fun _ => Tot.ite (fun _ => this) fun _ => nam_end s i (by omega)) fun h => by omega) fun h => by omega

theorem one_tot (s : ByteArray) (hs : (s.size : Int) ≤ 9223372036854775807) (h0 : 0 < s.size) : Tot (fun k => taskmasterref4_one.f k s) := by
  unfold taskmasterref4_one.f
  exact Tot.ite (fun _ => Tot.ite (fun _ => Tot.now _) fun _ => Tot.bind (Tot.some_ (digit_tot _)) fun b => Tot.ite (fun _ => num_from s hs h0 s.size 0 0 (by omega)) fun _ =>
    Tot.bind (Tot.some_ (small_tot _)) fun c => Tot.ite (fun _ => nam_from s hs s.size 0 (by omega)) fun _ => Tot.now _) fun h => by omega

theorem name_tot (s : ByteArray) (hs : (s.size : Int) ≤ 9223372036854775807) : Tot (fun k => taskmasterref4_Name.f k s) := by
  unfold taskmasterref4_Name.f
  exact Tot.ite (fun _ => Tot.now _) fun _ => Tot.ite (fun h => Tot.bind (Tot.some_ (small_tot _)) fun b => Tot.ite (fun _ => Tot.bind (one_tot s hs (by omega)) fun r => Tot.ite (fun _ => Tot.now _) fun _ => Tot.now _) fun _ => Tot.now _) fun h => by omega

theorem work_from (a0 : ByteArray) (a1 a2 a3 a4 a5 a7 a8 : Int) (l : List Int) (hl : (l.length : Int) < 9223372036854775807) (d : Nat) : ∀ (i : Nat) (x : Int), i + d = l.length → Tot (fun k => taskmasterref5_Work.l0 k x i a0 a1 a2 a3 a4 a5 l a7 a8) := by
  induction d with
  | zero =>
    intro i x hi
    apply Tot.step
    simp only [taskmasterref5_Work.l0]
    exact Tot.ite (fun h => by omega) fun _ => Tot.now _
  | succ d ih =>
    intro i x hi
    apply Tot.step
    simp only [taskmasterref5_Work.l0]
    refine Tot.ite (fun h => Tot.ite (fun _ => ?_) fun h => by omega) fun h => by omega
    rw [wrap_up (by omega) (by omega)]
    exact ih (i + 1) _ (by omega)

theorem is2_tot (p : Int) (b : Bool) (a0 : ByteArray) (a1 a2 a3 a4 a5 a7 a8 : Int) (l : List Int) : Tot (fun k => taskmasterref5_Is.j2 k p b a0 a1 a2 a3 a4 a5 l a7 a8) := by
  apply Tot.step
  simp only [taskmasterref5_Is.j2]
  exact Tot.ite (fun _ => Tot.now _) fun _ => Tot.ite (fun _ => Tot.ite (fun _ => Tot.now _) fun _ => Tot.now _) fun _ => Tot.ite (fun _ => Tot.bind (Tot.some_ (in_tot _ _ _)) fun r => Tot.ite (fun _ => Tot.now _) fun _ => Tot.now _) fun _ =>
    Tot.ite (fun _ => Tot.ite (fun _ => Tot.ite (fun _ => Tot.now _) fun _ => Tot.now _) fun _ => Tot.now _) fun _ => Tot.now _

theorem is0_from (p : Int) (a0 : ByteArray) (a1 a2 a3 a4 a5 a7 a8 : Int) (l : List Int) (hl : (l.length : Int) < 9223372036854775807) (d : Nat) : ∀ (i : Nat), i + d = l.length → Tot (fun k => taskmasterref5_Is.l0 k p i a0 a1 a2 a3 a4 a5 l a7 a8) := by
  induction d with
  | zero =>
    intro i hi
    apply Tot.step
    simp only [taskmasterref5_Is.l0]
    refine Tot.ite (fun h => by omega) fun _ => Tot.bind ?_ fun r => Tot.ite (fun _ => is2_tot _ _ _ _ _ _ _ _ _ _ _) fun _ => Tot.ite (fun _ => is2_tot _ _ _ _ _ _ _ _ _ _ _) fun _ => is2_tot _ _ _ _ _ _ _ _ _ _ _
    unfold taskmasterref5_Work.f
    exact work_from a0 a1 a2 a3 a4 a5 a7 a8 l hl l.length 0 0 (by omega)
  | succ d ih =>
    intro i hi
    apply Tot.step
    simp only [taskmasterref5_Is.l0]
    refine Tot.ite (fun h => Tot.ite (fun _ => Tot.bind (Tot.some_ (in_tot _ _ _)) fun r => Tot.ite (fun _ => ?_) fun _ => Tot.now _) fun h => by omega) fun h => by omega
    rw [wrap_up (by omega) (by omega)]
    exact ih (i + 1) (by omega)

theorem isj_tot (p : Int) (b : Bool) (a0 : ByteArray) (a1 a2 a3 a4 a5 a7 a8 : Int) (l : List Int) (hl : b = false → (l.length : Int) < 9223372036854775807) : Tot (fun k => taskmasterref5_Is.j0 k p b a0 a1 a2 a3 a4 a5 l a7 a8) := by
  apply Tot.step
  simp only [taskmasterref5_Is.j0]
  exact Tot.ite (fun _ => Tot.now _) fun h => is0_from p a0 a1 a2 a3 a4 a5 a7 a8 l (hl (by simpa using h)) l.length 0 (by omega)

theorem Is_tot (a0 : ByteArray) (hs : (a0.size : Int) ≤ 9223372036854775807) (a1 a2 a3 a4 a5 a7 a8 p : Int) (l : List Int) : Tot (fun k => taskmasterref5_Is.f k a0 a1 a2 a3 a4 a5 l a7 a8 p) := by
  unfold taskmasterref5_Is.f
  refine Tot.bind (name_tot a0 hs) fun b => Tot.ite (fun _ => Tot.ite (fun _ => ?_) fun _ => Tot.ite (fun _ => ?_) fun _ => ?_) fun _ => ?_
  · exact isj_tot _ _ _ _ _ _ _ _ _ _ _ (fun h => by cases h)
  · exact isj_tot _ _ _ _ _ _ _ _ _ _ _ (fun h => by cases h)
  · exact isj_tot _ _ _ _ _ _ _ _ _ _ _ (fun _ => by omega)
  · exact isj_tot _ _ _ _ _ _ _ _ _ _ _ (fun h => by cases h)

/-- No name is longer than a machine holds. -/
def Small (T : List S37) : Prop := ∀ x ∈ T, (x.f0.size : Int) ≤ 9223372036854775807

theorem same_from (T : List S37) (hl : (T.length : Int) < 9223372036854775807) (a : Int) (i : Nat) (hi : i < T.length) (hnext : Tot (fun k => taskmasterref5_All.l0 k ((i + 1 : Nat) : Int) a T)) (d : Nat) : ∀ (j : Nat), j + d = i → Tot (fun k => taskmasterref5_All.l1 k i j a T) := by
  induction d with
  | zero =>
    intro j hj
    apply Tot.step
    simp only [taskmasterref5_All.l1]
    refine Tot.ite (fun h => by omega) fun _ => ?_
    rw [wrap_up (by omega) (by omega)]
    exact hnext
  | succ d ih =>
    intro j hj
    apply Tot.step
    simp only [taskmasterref5_All.l1]
    refine Tot.ite (fun _ => Tot.ite (fun _ => Tot.ite (fun _ => Tot.ite (fun _ => Tot.ite (fun _ => Tot.ite (fun _ => Tot.now _) fun _ => ?_) fun h => by omega) fun h => by omega) fun h => by omega) fun h => by omega) fun h => by omega
    rw [wrap_up (by omega) (by omega)]
    exact ih (j + 1) (by omega)

theorem all_from (T : List S37) (hT : Small T) (hl : (T.length : Int) < 9223372036854775807) (a : Int) (d : Nat) : ∀ (i : Nat), i + d = T.length → Tot (fun k => taskmasterref5_All.l0 k i a T) := by
  induction d with
  | zero =>
    intro i hi
    apply Tot.step
    simp only [taskmasterref5_All.l0]
    exact Tot.ite (fun h => by omega) fun _ => Tot.now _
  | succ d ih =>
    intro i hi
    apply Tot.step
    simp only [taskmasterref5_All.l0]
    refine Tot.ite (fun _ => Tot.ite (fun _ => Tot.bind (Is_tot _ ?_ _ _ _ _ _ _ _ _ _) fun b => Tot.ite (fun _ => ?_) fun _ => Tot.now _) fun h => by omega) fun h => by omega
    · have hlt : i < T.length := by omega
      have : rd_T37 T i = T[i] := by simp [rd_T37, hlt, List.getD]
      rw [this]
      exact hT _ (List.getElem_mem hlt)
    · exact same_from T hl a i (by omega) (ih (i + 1) (by omega)) i 0 (by omega)

theorem allj_tot (b : Bool) (T : List S37) (hT : Small T) (a : Int) (hl : b = false → (T.length : Int) < 9223372036854775807) : Tot (fun k => taskmasterref5_All.j0 k b a T) := by
  apply Tot.step
  simp only [taskmasterref5_All.j0]
  exact Tot.ite (fun _ => Tot.now _) fun h => all_from T hT (hl (by simpa using h)) a T.length 0 (by omega)

theorem All_tot (a : Int) (T : List S37) (hT : Small T) : Tot (fun k => taskmasterref5_All.f k a T) := by
  unfold taskmasterref5_All.f
  exact Tot.bind (Tot.some_ (in_tot _ _ _)) fun b => Tot.ite (fun _ => Tot.ite (fun _ => allj_tot _ T hT a (fun h => by cases h)) fun _ => allj_tot _ T hT a (fun h => by simp at h; omega)) fun _ => allj_tot _ T hT a (fun h => by cases h)

theorem mayl_from (L : List S33) (hl : (L.length : Int) < 9223372036854775807) (d : Nat) : ∀ (i : Nat), i + d = L.length → Tot (fun k => taskmasterlaw24_may.l0 k L i) := by
  induction d with
  | zero =>
    intro i hi
    apply Tot.step
    simp only [taskmasterlaw24_may.l0]
    exact Tot.ite (fun h => by omega) fun _ => Tot.now _
  | succ d ih =>
    intro i hi
    apply Tot.step
    simp only [taskmasterlaw24_may.l0]
    refine Tot.ite (fun _ => Tot.ite (fun _ => Tot.ite (fun _ => Tot.now _) fun _ => Tot.ite (fun _ => Tot.now _) fun _ => ?_) fun h => by omega) fun h => by omega
    rw [wrap_up (by omega) (by omega)]
    exact ih (i + 1) (by omega)

theorem mayj_no (L : List S33) : Evt (fun k => taskmasterlaw24_may.j0 k L true) false := by
  apply Evt.step
  exact Evt.now fun k => by simp [taskmasterlaw24_may.j0]

/-- It ends; where it says yes there are as many states as tasks, at most ten. -/
theorem may_evt (a : Int) (T : List S37) (hT : Small T) (L : List S33) (t : Int) : ∃ b, Evt (fun k => taskmasterlaw24_may.f k a T L t) b ∧ (b = true → T.length = L.length ∧ T.length ≤ 10) := by
  by_cases h10 : (T.length : Int) > 10
  · exact ⟨false, (mayj_no L).congr fun k => by simp [taskmasterlaw24_may.f, h10], fun h => by cases h⟩
  · obtain ⟨ba, hba⟩ := All_tot a T hT
    by_cases hn : T.length = L.length
    · have hj : ∀ c : Bool, Tot (fun k => taskmasterlaw24_may.j0 k L c) := by
        intro c
        apply Tot.step
        simp only [taskmasterlaw24_may.j0]
        exact Tot.ite (fun _ => Tot.now _) fun _ => mayl_from L (by omega) L.length 0 (by omega)
      have : Tot (fun k => taskmasterlaw24_may.f k a T L t) := by
        unfold taskmasterlaw24_may.f
        exact Tot.ite (fun _ => hj _) fun _ => Tot.bind ⟨ba, hba⟩ fun r => Tot.ite (fun _ => Tot.ite (fun _ => Tot.ite (fun _ => hj _) fun _ => hj _) fun _ => hj _) fun _ => hj _
      obtain ⟨b, hb⟩ := this
      exact ⟨b, hb, fun _ => ⟨hn, by omega⟩⟩
    · refine ⟨false, ?_, fun h => by cases h⟩
      unfold taskmasterlaw24_may.f
      simp only [if_neg h10]
      refine Evt.bind hba ?_
      have hne : ¬ (L.length : Int) = (T.length : Int) := by omega
      cases ba with
      | false => exact (mayj_no L).congr fun k => by simp
      | true => exact (mayj_no L).congr fun k => by simp [hne]

theorem known_evt : ∃ k, taskmasterlaw24_known.f k = some true := ⟨40, by decide +kernel⟩

end Go.Proofs.Ytldnichgcmfboaa
