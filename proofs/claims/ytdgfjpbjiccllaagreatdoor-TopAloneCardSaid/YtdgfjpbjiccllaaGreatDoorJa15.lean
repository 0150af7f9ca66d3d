/- Joined texts: Inv, Nam, Lng, Late, Arr. -/
import Derived.Test.YtdgfjpbjiccllaaGreatDoorJa09
import Derived.Test.YtdgfjpbjiccllaaGreatDoorJa14
import Derived.Test.YtdgfjpbjiccllaaGreatDoorJa13
/- What task.All of the reference tells when it is true. -/
namespace Go.Proofs.YtdgfjpbjiccllaaGreatDoor.A
open Go.RowKit
open Go.Proofs.YtdgfjpbjiccllaaGreatDoorW.PrintWords Go.Proofs.YtdgfjpbjiccllaaGreatDoorW.PrintLast Go.Proofs.YtdgfjpbjiccllaaGreatDoorW.PrintMore
open Go.Proofs.YtdgfjpbjiccllaaGreatDoor.PTopLoads
open Go.Proofs.YtdgfjpbjiccllaaGreatDoor.X
set_option maxRecDepth 100000
theorem in_inv {a b c : Int} (h : taskmasterref5_in.f a b c = some true) : b ≤ a ∧ a ≤ c := by
  unfold taskmasterref5_in.f at h
  split at h
  · simp at h
    omega
  · simp at h
theorem rd_nat {l : List Int} {i : Nat} (h : i < l.length) : rd l i = l[i] := by simp [rd, List.getD_eq_getElem?_getD, h]
theorem work_inv {a0 : ByteArray} {a1 a2 a3 a4 a5 a7 a8 : Int} {l : List Int} (h8 : l.length ≤ 8) (hl : ∀ i (h : i < l.length), 1 ≤ l[i] ∧ l[i] ≤ 10000) {r : Int} : ∀ (k i : Nat), i ≤ l.length → taskmasterref5_Work.l0 k (l.take i).sum i a0 a1 a2 a3 a4 a5 l a7 a8 = some r → r = l.sum
  | 0, _, _, h => by simp [taskmasterref5_Work.l0] at h
  | k + 1, i, hi, h => by
    simp only [taskmasterref5_Work.l0] at h
    by_cases hlt : i < l.length
    · rw [if_pos (by omega), if_pos (by omega)] at h
      have hb := sum_take l hl (i + 1) (by omega)
      have e2 : (l.take i).sum + rd l i = (l.take (i + 1)).sum := by
        rw [List.take_succ_eq_append_getElem hlt, List.sum_append, rd_nat hlt]
        simp
      rw [e2, show wrap64 (l.take (i + 1)).sum = (l.take (i + 1)).sum from by unfold wrap64; omega, show wrap64 ((i : Int) + 1) = ((i + 1 : Nat) : Int) from by unfold wrap64; omega] at h
      exact work_inv h8 hl k (i + 1) (by omega) h
    · rw [if_neg (by omega)] at h
      have e : i = l.length := by omega
      subst e
      rw [List.take_length] at h
      simpa using h.symm
theorem mode_inv {p : Int} {b : Bool} {a0 : ByteArray} {a1 a2 a3 a4 a5 a7 a8 : Int} {l : List Int} {k : Nat} (h : taskmasterref5_Is.j2 k p b a0 a1 a2 a3 a4 a5 l a7 a8 = some true) :
    b = false ∧ ((a3 = 0 ∧ a4 = 0 ∧ a5 = 0) ∨ (a3 = 1 ∧ 0 ≤ a4 ∧ a4 ≤ 10000 ∧ a5 = 0) ∨ (a3 = 2 ∧ a4 = 0 ∧ 0 ≤ a5 ∧ a5 ≤ p)) := by
  cases k with
  | zero => simp [taskmasterref5_Is.j2] at h
  | succ k =>
    simp only [taskmasterref5_Is.j2] at h
    cases b with
    | true => simp at h
    | false =>
      rw [if_neg (by simp)] at h
      refine ⟨rfl, ?_⟩
      split at h
      · split at h
        · simp at h; omega
        · simp at h
      · split at h
        · obtain ⟨t, h1, h2⟩ := Option.bind_eq_some_iff.1 h
          cases t with
          | true =>
            have := in_inv h1
            simp at h2
            omega
          | false => simp at h2
        · split at h
          · split at h
            · split at h
              · simp at h; omega
              · simp at h
            · simp at h
          · simp at h
theorem is0_inv {p : Int} {a0 : ByteArray} {a1 a2 a3 a4 a5 a7 a8 : Int} {l : List Int} (h8 : l.length ≤ 8) : ∀ (k i : Nat), i ≤ l.length → (∀ j (h : j < l.length), j < i → 1 ≤ l[j] ∧ l[j] ≤ 10000) → taskmasterref5_Is.l0 k p i a0 a1 a2 a3 a4 a5 l a7 a8 = some true →
    (∀ j (h : j < l.length), 1 ≤ l[j] ∧ l[j] ≤ 10000) ∧ l.sum ≤ a2 ∧ a2 ≤ a1 ∧ a1 ≤ 10000 ∧ ((a3 = 0 ∧ a4 = 0 ∧ a5 = 0) ∨ (a3 = 1 ∧ 0 ≤ a4 ∧ a4 ≤ 10000 ∧ a5 = 0) ∨ (a3 = 2 ∧ a4 = 0 ∧ 0 ≤ a5 ∧ a5 ≤ p))
  | 0, _, _, _, h => by simp [taskmasterref5_Is.l0] at h
  | k + 1, i, hi, hp, h => by
    simp only [taskmasterref5_Is.l0] at h
    by_cases hlt : i < l.length
    · rw [if_pos (by omega), if_pos (by omega)] at h
      obtain ⟨t, h1, h2⟩ := Option.bind_eq_some_iff.1 h
      cases t with
      | false => simp at h2
      | true =>
        rw [if_pos rfl, show wrap64 ((i : Int) + 1) = ((i + 1 : Nat) : Int) from by unfold wrap64; omega] at h2
        rw [rd_nat hlt] at h1
        have hb := in_inv h1
        refine is0_inv h8 k (i + 1) (by omega) (fun j hj hji => ?_) h2
        by_cases e : j = i
        · subst e; exact hb
        · exact hp j hj (by omega)
    · rw [if_neg (by omega)] at h
      have hall : ∀ j (h : j < l.length), 1 ≤ l[j] ∧ l[j] ≤ 10000 := fun j hj => hp j hj (by omega)
      obtain ⟨t, h1, h2⟩ := Option.bind_eq_some_iff.1 h
      have ht : t = l.sum := work_inv h8 hall k 0 (Nat.zero_le _) (by simpa [taskmasterref5_Work.f] using h1)
      subst ht
      split at h2
      · exact absurd (mode_inv h2).1 (by simp)
      · split at h2
        · exact absurd (mode_inv h2).1 (by simp)
        · have hm := mode_inv h2
          have := hm.1
          simp at this
          exact ⟨hall, by omega, by omega, by omega, hm.2⟩
/-- What Is tells of a task. -/
structure IsB (x : S46) (p : Int) : Prop where
  nm : ∃ k, taskmasterref4_Name.f k x.f0 = some true
  r1 : 1 ≤ x.f6.length
  r8 : x.f6.length ≤ 8
  rr : ∀ i (h : i < x.f6.length), 1 ≤ x.f6[i] ∧ x.f6[i] ≤ 10000
  wd : x.f6.sum ≤ x.f2
  dt : x.f2 ≤ x.f1
  t1 : x.f1 ≤ 10000
  md : ModeOk x p
  uc : Go.bits .andNot .u64 x.f8 x.f7 = 0
theorem j0_inv {p : Int} {b : Bool} {a0 : ByteArray} {a1 a2 a3 a4 a5 a7 a8 : Int} {l : List Int} {k : Nat} (h : taskmasterref5_Is.j0 k p b a0 a1 a2 a3 a4 a5 l a7 a8 = some true) :
    b = false ∧ ∃ k, taskmasterref5_Is.l0 k p 0 a0 a1 a2 a3 a4 a5 l a7 a8 = some true := by
  cases k with
  | zero => simp [taskmasterref5_Is.j0] at h
  | succ k =>
    simp only [taskmasterref5_Is.j0] at h
    cases b with
    | true => simp at h
    | false => exact ⟨rfl, k, by simpa using h⟩
theorem is_inv {x : S46} {p : Int} {k : Nat} (h : taskmasterref5_Is.f k x.f0 x.f1 x.f2 x.f3 x.f4 x.f5 x.f6 x.f7 x.f8 p = some true) : IsB x p := by
  unfold taskmasterref5_Is.f at h
  obtain ⟨t, h1, h2⟩ := Option.bind_eq_some_iff.1 h
  cases t with
  | false => exact absurd (j0_inv (by simpa using h2)).1 (by simp)
  | true =>
    rw [if_pos rfl] at h2
    split at h2
    · exact absurd (j0_inv h2).1 (by simp)
    · split at h2
      · exact absurd (j0_inv h2).1 (by simp)
      · obtain ⟨hb, k', h3⟩ := j0_inv h2
        have h8 : x.f6.length ≤ 8 := by omega
        obtain ⟨ha, hc, hd, he, hm⟩ := is0_inv h8 k' 0 (Nat.zero_le _) (fun j _ hj => by omega) h3
        exact ⟨⟨k, h1⟩, by omega, h8, ha, hc, hd, he, hm, by simpa using hb⟩
/-- What All tells of a set. -/
theorem all_inv (T : List S46) (hT : T.length ≤ 8) (a : Int) : ∀ (k : Nat), (∀ i : Nat, i ≤ T.length → taskmasterref5_All.l0 k i a T = some true → ∀ j (h : j < T.length), i ≤ j → IsB T[j] j ∧ ∀ m (hm : m < j), T[m].f0 ≠ T[j].f0) ∧
    (∀ i m : Nat, i < T.length → m ≤ i → taskmasterref5_All.l1 k i m a T = some true → (∀ m' (hm : m' < T.length) (hi : i < T.length), m ≤ m' → m' < i → T[m'].f0 ≠ T[i].f0) ∧ ∀ j (h : j < T.length), i < j → IsB T[j] j ∧ ∀ m (hm : m < j), T[m].f0 ≠ T[j].f0)
  | 0 => ⟨fun i _ h => by simp [taskmasterref5_All.l0] at h, fun i m _ _ h => by simp [taskmasterref5_All.l1] at h⟩
  | k + 1 => by
    have ih := all_inv T hT a k
    refine ⟨fun i hi h j hj hij => ?_, fun i m hi hm h => ?_⟩
    · simp only [taskmasterref5_All.l0] at h
      have hlt : i < T.length := by omega
      rw [if_pos (by omega), if_pos (by omega)] at h
      obtain ⟨t, h1, h2⟩ := Option.bind_eq_some_iff.1 h
      have er : rd_T46 T i = T[i] := by simp [rd_T46, List.getD_eq_getElem?_getD, hlt]
      rw [er] at h1
      cases t with
      | false => simp at h2
      | true =>
        rw [if_pos rfl] at h2
        obtain ⟨ha, hb⟩ := ih.2 i 0 hlt (Nat.zero_le _) h2
        by_cases e : j = i
        · subst e
          exact ⟨is_inv h1, fun m hm => ha m (by omega) hj (Nat.zero_le _) hm⟩
        · exact hb j hj (by omega)
    · simp only [taskmasterref5_All.l1] at h
      by_cases hlt : m < i
      · have hml : m < T.length := by omega
        have er : rd_T46 T i = T[i] := by simp [rd_T46, List.getD_eq_getElem?_getD, hi]
        have em : rd_T46 T m = T[m] := by simp [rd_T46, List.getD_eq_getElem?_getD, hml]
        rw [if_pos (by omega), if_pos (by omega), if_pos (by omega), if_pos (by omega), if_pos (by omega), er, em] at h
        split at h
        · simp at h
        · rename_i hne
          rw [show wrap64 ((m : Int) + 1) = ((m + 1 : Nat) : Int) from by unfold wrap64; omega] at h
          obtain ⟨ha, hb⟩ := ih.2 i (m + 1) hi (by omega) h
          refine ⟨fun m' hm' hi' h1 h2 => ?_, hb⟩
          by_cases e : m' = m
          · subst e
            exact fun e => hne (by rw [e])
          · exact ha m' hm' hi' (by omega) h2
      · rw [if_neg (by omega), show wrap64 ((i : Int) + 1) = ((i + 1 : Nat) : Int) from by unfold wrap64; omega] at h
        exact ⟨fun m' _ _ h1 h2 => by omega, fun j hj hij => ih.1 (i + 1) (by omega) h j hj (by omega)⟩
structure AllB (a : Int) (T : List S46) : Prop where
  a0 : 0 ≤ a
  a1 : a ≤ 10000
  n1 : 1 ≤ T.length
  n8 : T.length ≤ 8
  is : ∀ j (h : j < T.length), IsB T[j] j ∧ ∀ m (hm : m < j), T[m].f0 ≠ T[j].f0
theorem allj_inv {b : Bool} {a : Int} {T : List S46} {k : Nat} (h : taskmasterref5_All.j0 k b a T = some true) : b = false ∧ ∃ k, taskmasterref5_All.l0 k 0 a T = some true := by
  cases k with
  | zero => simp [taskmasterref5_All.j0] at h
  | succ k =>
    simp only [taskmasterref5_All.j0] at h
    cases b with
    | true => simp at h
    | false => exact ⟨rfl, k, by simpa using h⟩
theorem All_inv {a : Int} {T : List S46} {k : Nat} (h : taskmasterref5_All.f k a T = some true) : AllB a T := by
  unfold taskmasterref5_All.f at h
  obtain ⟨t, h1, h2⟩ := Option.bind_eq_some_iff.1 h
  cases t with
  | false => exact absurd (allj_inv (by simpa using h2)).1 (by simp)
  | true =>
    rw [if_pos rfl] at h2
    split at h2
    · exact absurd (allj_inv h2).1 (by simp)
    · obtain ⟨hb, k', h3⟩ := allj_inv h2
      have hi := in_inv h1
      simp at hb
      exact ⟨hi.1, hi.2, by omega, by omega, fun j hj => (all_inv T (by omega) a k').1 0 (Nat.zero_le _) h3 j hj (Nat.zero_le _)⟩
end Go.Proofs.YtdgfjpbjiccllaaGreatDoor.A
/- A name of the reference is a name of the lexer. -/
namespace Go.Proofs.YtdgfjpbjiccllaaGreatDoor.X
open Go.RowKit
open Go.Proofs.YtdgfjpbjiccllaaGreatDoorW.PrintWords Go.Proofs.YtdgfjpbjiccllaaGreatDoorW.PrintLast Go.Proofs.YtdgfjpbjiccllaaGreatDoorW.PrintMore
open Go.Proofs.YtdgfjpbjiccllaaGreatDoor.PTopLoads
open Go.Proofs.YtdgfjpbjiccllaaGreatDoor.A
set_option maxRecDepth 100000
theorem small_is (b : Int) : taskmasterref4_small.f b = some (letter b) := by
  unfold taskmasterref4_small.f letter
  by_cases h1 : b ≥ 97
  · rw [if_pos h1]
    simp; omega
  · rw [if_neg h1]
    simp; omega
theorem digit_is (b : Int) : taskmasterref4_digit.f b = some (digit b) := by
  unfold taskmasterref4_digit.f digit
  by_cases h1 : b ≥ 48
  · rw [if_pos h1]
    simp; omega
  · rw [if_neg h1]
    simp; omega
theorem bt_bytes (s : ByteArray) (i : Nat) (h : i < s.size) : bt s i = (bytes s).getD i 0 := by
  rw [← byte_at s i h]
  exact (bt_at s i (by simpa using h)).symm
/-- The words of the language are one list. -/
theorem words_one : taskmasterref4_Words.f = some wordsB := by kernel_rfl
theorem word_inv {s : ByteArray} {ws : List ByteArray} (hw : (ws.length : Int) < 1000000) : ∀ (k i : Nat), i ≤ ws.length → taskmasterref4_word.l0 k s ws i = some false → ∀ j (h : j < ws.length), i ≤ j → ws[j] ≠ s
  | 0, _, _, h => by simp [taskmasterref4_word.l0] at h
  | k + 1, i, hi, h => by
    intro j hj hij
    simp only [taskmasterref4_word.l0] at h
    rw [if_pos (by omega), if_pos (by omega)] at h
    have hlt : i < ws.length := by omega
    have er : rdOf ByteArray.empty ws i = ws[i] := by simp [rdOf, List.getD_eq_getElem?_getD, hlt]
    rw [er] at h
    split at h
    · simp at h
    · rename_i hne
      rw [show wrap64 ((i : Int) + 1) = ((i + 1 : Nat) : Int) from by unfold wrap64; omega] at h
      by_cases e : j = i
      · subst e
        exact fun e => hne (by rw [e])
      · exact word_inv hw k (i + 1) (by omega) h j hj (by omega)
theorem word_no {s : ByteArray} {k : Nat} (h : taskmasterref4_word.f k s = some false) : isWord s = false := by
  unfold taskmasterref4_word.f at h
  rw [words_one] at h
  simp only [Option.bind_some] at h
  have hl : wordsB.length = 10 := by unfold wordsB; rw [List.length_map]; exact wordsL_len
  have := word_inv (by rw [hl]; decide) k 0 (Nat.zero_le _) h
  unfold isWord
  rw [List.any_eq_false]
  intro x hx
  obtain ⟨j, hj, rfl⟩ := List.getElem_of_mem hx
  have := this j hj (Nat.zero_le _)
  simp
  exact fun e => this e.symm
theorem span_all (p : Int → Bool) : ∀ (l : List Int), (∀ x ∈ l, p x = true) → spanL p l = l.length
  | [], _ => rfl
  | b :: t, h => by
    unfold spanL
    rw [if_pos (h b (by simp)), span_all p t (fun x hx => h x (by simp [hx]))]
    rfl
theorem nam_inv {s : ByteArray} (hs : (s.size : Int) ≤ 9223372036854775807) {kd n : Int} {t : ByteArray} {u v : Int} : ∀ (k i : Nat), i ≤ s.size → (∀ j, j < i → more ((bytes s).getD j 0) = true) → taskmasterref4_one.l1 k s i = some (kd, t, u, v, n) → n = s.size → 0 < s.size → kd = 1 →
    (∀ j, j < s.size → more ((bytes s).getD j 0) = true) ∧ s.size ≤ 12 ∧ isWord s = false
  | 0, _, _, _, h, _, _, _ => by simp [taskmasterref4_one.l1] at h
  | k + 1, i, hi, hp, h, hn, h0, hk => by
    have fin : ∀ (k' : Nat), taskmasterref4_one.j3 k' s i = some (kd, t, u, v, n) → (∀ j, j < s.size → more ((bytes s).getD j 0) = true) ∧ s.size ≤ 12 ∧ isWord s = false := by
      intro k' h
      cases k' with
      | zero => simp [taskmasterref4_one.j3] at h
      | succ k' =>
        simp only [taskmasterref4_one.j3] at h
        rw [if_pos (by omega), if_pos (by omega)] at h
        obtain ⟨b, h1, h2⟩ := Option.bind_eq_some_iff.1 h
        cases b with
        | true => simp at h2; omega
        | false =>
          rw [if_neg (by simp)] at h2
          split at h2
          · simp at h2; omega
          · simp at h2
            have e : i = s.size := by omega
            subst e
            have hx : s.extract 0 ((s.size : Nat) : Int).toNat = s := by simp
            rw [hx] at h1
            exact ⟨hp, by omega, word_no h1⟩
    simp only [taskmasterref4_one.l1] at h
    by_cases hlt : i < s.size
    · rw [if_pos (by omega), if_pos (by omega), small_is, digit_is, bt_bytes s i hlt, show wrap64 ((i : Int) + 1) = ((i + 1 : Nat) : Int) from by unfold wrap64; omega] at h
      simp only [Option.bind_some] at h
      have next : more ((bytes s).getD i 0) = true → taskmasterref4_one.l1 k s ((i + 1 : Nat) : Int) = some (kd, t, u, v, n) → (∀ j, j < s.size → more ((bytes s).getD j 0) = true) ∧ s.size ≤ 12 ∧ isWord s = false := fun hm h =>
        nam_inv hs k (i + 1) (by omega) (fun j hj => by
          by_cases e : j = i
          · subst e; exact hm
          · exact hp j (by omega)) h hn h0 hk
      split at h
      · rename_i hl
        exact next (by unfold more; rw [hl]; rfl) h
      · split at h
        · rename_i hd
          exact next (by unfold more; rw [hd]; simp) h
        · split at h
          · rename_i hu
            exact next (by unfold more; rw [hu]; simp) h
          · exact fin k h
    · rw [if_neg (by omega)] at h
      exact fin k h
theorem name_inv {s : ByteArray} (hs : (s.size : Int) ≤ 9223372036854775807) {k : Nat} (h : taskmasterref4_Name.f k s = some true) : NameOk s := by
  unfold taskmasterref4_Name.f at h
  split at h
  · simp at h
  · rename_i hz
    rw [if_pos (by omega), small_is] at h
    have h0 : 0 < s.size := by omega
    have hb0 := bt_bytes s 0 h0
    simp only [Int.natCast_zero] at hb0
    rw [hb0] at h
    simp only [Option.bind_some] at h
    split at h
    · rename_i hl
      obtain ⟨⟨kd, t, u, v, n⟩, h1, h2⟩ := Option.bind_eq_some_iff.1 h
      simp only at h2
      split at h2
      · rename_i hn
        simp at h2
        have hlt := hl
        unfold letter at hlt
        simp only [Bool.and_eq_true, decide_eq_true_eq] at hlt
        unfold taskmasterref4_one.f at h1
        rw [if_pos (by omega), hb0, if_neg (by omega), digit_is, small_is] at h1
        simp only [Option.bind_some] at h1
        rw [if_neg (by unfold digit; simp only [Bool.and_eq_true, decide_eq_true_eq]; omega), if_pos hl] at h1
        obtain ⟨hm, h12, hw⟩ := nam_inv hs k 0 (Nat.zero_le _) (fun j hj => by omega) h1 hn h0 h2
        have hnN : nameN s = s.size := by
          unfold nameN
          rw [span_all more (bytes s) (fun x hx => by
            obtain ⟨j, hj, rfl⟩ := List.getElem_of_mem hx
            have := hm j (by rw [← bytes_length]; exact hj)
            simpa [List.getD_eq_getElem?_getD, hj] using this), bytes_length]
        have hx : s.extract 0 s.size = s := by simp
        have hr : restOf s 0 = s := hx
        have hg : gapL (bytes s) = 0 := by
          unfold gapL
          rw [if_neg (by omega), if_neg (by omega)]
        have htk : tokenL s = ⟨1, s, 0, s.size, true⟩ := by
          unfold tokenL
          rw [if_pos hl, hnN, hx]
          unfold kindOf
          rw [hw]
          simp
          omega
        refine ⟨by omega, ?_⟩
        unfold tokens
        rw [if_neg (by omega)]
        unfold toks
        rw [if_neg (by omega), hr, hg, if_neg (by omega), htk]
        simp only [if_true]
        obtain ⟨m, hm'⟩ : ∃ m, s.size = m + 1 := ⟨s.size - 1, by omega⟩
        rw [Nat.zero_add, hm']
        unfold toks
        rw [if_pos (by omega)]
        simp
      · simp at h2
    · simp at h
end Go.Proofs.YtdgfjpbjiccllaaGreatDoor.X
/- The law's own bound on inputs. -/
namespace Go.Proofs.YtdgfjpbjiccllaaGreatDoor.A
open Go.RowKit
open Go.Proofs.YtdgfjpbjiccllaaGreatDoorW.PrintWords Go.Proofs.YtdgfjpbjiccllaaGreatDoorW.PrintLast Go.Proofs.YtdgfjpbjiccllaaGreatDoorW.PrintMore
open Go.Proofs.YtdgfjpbjiccllaaGreatDoor.PTopLoads
set_option maxRecDepth 100000
/-- Lengths such as there are. -/
def SmallI (l : List S57) : Prop := (l.length : Int) ≤ 9223372036854775807 ∧ ∀ x ∈ l, (x.f1.length : Int) ≤ 9223372036854775807
theorem rd57 {l : List S57} {i : Nat} (h : i < l.length) : rd_T57 l i = l[i] := by simp [rd_T57, List.getD_eq_getElem?_getD, h]
theorem inner_tot {l : List S57} (hs : SmallI l) (i : Nat) (hi : i < l.length) (hn : Tot (fun k => taskmastertop_long.l0 k l ((i + 1 : Nat) : Int))) (d : Nat) : ∀ (j : Nat), j + d = (l[i]).f1.length → Tot (fun k => taskmastertop_long.l1 k l i j) := by
  have hx := hs.2 l[i] (List.getElem_mem hi)
  have hl := hs.1
  induction d with
  | zero =>
    intro j hj
    apply Tot.step
    simp only [taskmastertop_long.l1, rd57 hi]
    refine Tot.ite (fun _ => Tot.ite (fun _ => Tot.ite (fun h => by omega) fun _ => ?_) fun h => by omega) fun h => by omega
    rw [wrap_up (by omega) (by omega)]
    exact hn
  | succ d ih =>
    intro j hj
    apply Tot.step
    simp only [taskmastertop_long.l1, rd57 hi]
    refine Tot.ite (fun _ => Tot.ite (fun _ => Tot.ite (fun _ => Tot.ite (fun _ => Tot.ite (fun _ => Tot.now _) fun _ => ?_) fun h => by omega) fun h => by omega) fun h => by omega) fun h => by omega
    rw [wrap_up (by omega) (by omega)]
    exact ih (j + 1) (by omega)
theorem outer_tot {l : List S57} (hs : SmallI l) (d : Nat) : ∀ (i : Nat), i + d = l.length → Tot (fun k => taskmastertop_long.l0 k l i) := by
  have hl := hs.1
  have out : ∀ i : Int, Tot (fun k => taskmastertop_long.j1 k l i false) := fun i => by
    apply Tot.step
    simp only [taskmastertop_long.j1]
    exact Tot.ite (fun h => by simp at h) fun _ => Tot.now _
  induction d with
  | zero =>
    intro i hi
    apply Tot.step
    simp only [taskmastertop_long.l0]
    exact Tot.ite (fun h => by omega) fun _ => out _
  | succ d ih =>
    intro i hi
    apply Tot.step
    simp only [taskmastertop_long.l0]
    refine Tot.ite (fun _ => ?_) fun _ => out _
    cases decide ((i : Int) < 300) with
    | false => exact out _
    | true =>
      apply Tot.step
      simp only [taskmastertop_long.j1, rd57 (show i < l.length by omega)]
      exact Tot.ite (fun _ => Tot.ite (fun _ => Tot.ite (fun _ => Tot.ite (fun _ => Tot.now _) fun _ => inner_tot hs i (by omega) (ih (i + 1) (by omega)) _ 0 (Nat.zero_add _)) fun h => by omega) fun h => by omega) fun h => by simp at h
theorem long_tot {l : List S57} (hs : SmallI l) : Tot (fun k => taskmastertop_long.f k l) := outer_tot hs l.length 0 (Nat.zero_add _)
theorem long_inv (l : List S57) (hl : (l.length : Int) ≤ 9223372036854775807) : ∀ (k : Nat), (∀ i : Nat, taskmastertop_long.l0 k l i = some false → l.length ≤ 250 ∧ ∀ j (h : j < l.length), i ≤ j → (l[j]).f1.length ≤ 20) ∧
    (∀ (i : Nat) (b : Bool), (b = true → i < l.length) → taskmastertop_long.j1 k l i b = some false → l.length ≤ 250 ∧ (b = true → ∀ j (h : j < l.length), i ≤ j → (l[j]).f1.length ≤ 20)) ∧
    (∀ (i : Nat) (j : Int), i < l.length → taskmastertop_long.l1 k l i j = some false → l.length ≤ 250 ∧ ∀ j (h : j < l.length), i < j → (l[j]).f1.length ≤ 20)
  | 0 => ⟨fun i h => by simp [taskmastertop_long.l0] at h, fun i b _ h => by simp [taskmastertop_long.j1] at h, fun i j _ h => by simp [taskmastertop_long.l1] at h⟩
  | k + 1 => by
    obtain ⟨ih0, ih1, ih2⟩ := long_inv l hl k
    refine ⟨fun i h => ?_, fun i b hb h => ?_, fun i j hi h => ?_⟩
    · simp only [taskmastertop_long.l0] at h
      split at h
      · rename_i hlt
        obtain ⟨h1, h2⟩ := ih1 i _ (fun _ => by omega) h
        exact ⟨h1, h2 (by simp; omega)⟩
      · rename_i hge
        obtain ⟨h1, _⟩ := ih1 i _ (fun e => by simp at e) h
        exact ⟨h1, fun j hj hij => by omega⟩
    · simp only [taskmastertop_long.j1] at h
      cases b with
      | false =>
        rw [if_neg (by simp)] at h
        simp at h
        exact ⟨by omega, fun e => by simp at e⟩
      | true =>
        have hi := hb rfl
        rw [if_pos rfl, if_pos (by omega), if_pos (by omega), rd57 hi] at h
        split at h
        · simp at h
        · rename_i hle
          obtain ⟨h1, h2⟩ := ih2 i 0 hi h
          refine ⟨h1, fun _ j hj hij => ?_⟩
          by_cases e : j = i
          · subst e; omega
          · exact h2 j hj (by omega)
    · simp only [taskmastertop_long.l1] at h
      rw [if_pos (by omega), if_pos (by omega)] at h
      split at h
      · split at h
        · split at h
          · simp at h
          · exact ih2 i _ hi h
        · simp at h
      · rw [wrap_up (by omega) (by omega)] at h
        obtain ⟨h1, h2⟩ := ih0 (i + 1) h
        exact ⟨h1, fun j hj hij => h2 j hj hij⟩
theorem long_no {l : List S57} (hl : (l.length : Int) ≤ 9223372036854775807) {k : Nat} (h : taskmastertop_long.f k l = some false) : l.length ≤ 250 ∧ ∀ x ∈ l, x.f1.length ≤ 20 := by
  obtain ⟨h1, h2⟩ := (long_inv l hl k).1 0 h
  refine ⟨h1, fun x hx => ?_⟩
  obtain ⟨j, hj, rfl⟩ := List.getElem_of_mem hx
  exact h2 j hj (Nat.zero_le _)
end Go.Proofs.YtdgfjpbjiccllaaGreatDoor.A
/- Whose deadline is there. -/
namespace Go.Proofs.YtdgfjpbjiccllaaGreatDoor
open Go.RowKit
open Go.Proofs.YtdgfjpbjiccllaaGreatDoorW.PrintWords Go.Proofs.YtdgfjpbjiccllaaGreatDoorW.PrintLast Go.Proofs.YtdgfjpbjiccllaaGreatDoorW.PrintMore
open Go.Proofs.YtdgfjpbjiccllaaGreatDoor.PTopLoads (S46 k46 z46 k46_mk S57 k57)
set_option maxRecDepth 100000
variable {E : Nat}
/-- What a kernel's numbers are like. -/
structure KOk (K : Kst) : Prop where
  t0 : 0 ≤ K.tick
  t1 : K.tick ≤ 1099511627776
  regs : ∀ x ∈ K.tk, 1 ≤ x.f6.length ∧ x.f6.length ≤ 8 ∧ x.f6.any J.odd = false
  dl : ∀ x ∈ K.tk, 0 ≤ x.f2 ∧ x.f2 ≤ 10000
  ar : ∀ x ∈ K.tab, 0 ≤ x.a ∧ x.a ≤ K.tick
  pol : P.OkL K.pol
  sets : ∀ x ∈ K.tk, 0 ≤ x.f7 ∧ x.f7 < 18446744073709551616 ∧ 0 ≤ x.f8 ∧ x.f8 < 18446744073709551616
/-- What is noted of task i if its deadline is there. -/
def lateAt (K : Kst) (i : Nat) : List Ev := if (T.getL K.tab i).p && decide ((T.getL K.tab i).a + (K.tk.getD i z46).f2 = K.tick) then [⟨K.tick, 3, i, 0⟩] else []
def lateL (K : Kst) (k : Nat) : List Ev := (List.range k).flatMap (lateAt K)
theorem lateL_succ (K : Kst) (k : Nat) : lateL K (k + 1) = lateL K k ++ lateAt K k := by simp [lateL, List.range_succ]
theorem lateL_len (K : Kst) (k : Nat) : (lateL K k).length ≤ k := by
  induction k with
  | zero => simp [lateL]
  | succ k ih =>
    rw [lateL_succ, List.length_append]
    have : (lateAt K k).length ≤ 1 := by unfold lateAt; split <;> simp
    omega
def Kst.plus (K : Kst) (l : List Ev) : Kst := { K with ev := K.ev ++ l }
theorem Kst.plus_nil (K : Kst) : K.plus [] = K := by simp [Kst.plus]
theorem Kst.plus_plus (K : Kst) (a b : List Ev) : (K.plus a).plus b = K.plus (a ++ b) := by simp [Kst.plus]
/-- The post of a function of the kernel that hands back nothing. -/
def KPost (E : Nat) (w : World) (B kp : Nat) (A : Ad) (jv : List Value) (pd : Nat → Bool) (ts : List Nat) (K : Kst) (e : Ending) (w' : World) : Prop :=
  e = .returned (.tuple #[]) ∧ ∃ ev', KAt E w' B kp A jv ev' pd K ∧ Fr E ts B w w'
theorem note_post {w : World} {B kp : Nat} {A : Ad} {jv : List Value} {ev : Value} {pd : Nat → Bool} {K : Kst} (h : KAt E w B kp A jv ev pd K) (kind task n : Int) (hL : K.ev.length ≤ 100000000) :
    Calls Tryz.prog 50 #[.pointer (some ⟨kp, 0, none⟩), .int .i64 kind, .int .i64 task, .int .i64 n] w (KPost E w B kp A jv pd [97, 50] (K.plus [⟨K.tick, kind, task, n⟩])) := h.note kind task n hL
theorem getL_mem {L : List T.St} {i : Nat} (h : i < L.length) : T.getL L i ∈ L := by rw [T.getL_in h]; exact List.getElem_mem h
set_option maxHeartbeats 8000000 in
theorem late_any {w : World} {B kp : Nat} {A : Ad} {jv : List Value} {ev : Value} {pd : Nat → Bool} {K : Kst} (h : KAt E w B kp A jv ev pd K) (hK : KOk K) (hL : K.ev.length ≤ 1000000) :
    Calls Tryz.prog 46 #[.pointer (some ⟨kp, 0, none⟩)] w (KPost E w B kp A jv pd [97, 50] (K.plus (lateL K K.tk.length))) := by
  obtain ⟨a, c, hv⟩ := h.tasks.slice h.n1
  have q1 : w.cell? ⟨kp, 1, none⟩ = some (.slice (some ⟨a, 0, none⟩) K.tk.length c) := by rw [h.hd.cell]; simp [kcells, hv]
  have n8 := h.n8
  have n1 := h.n1
  have HL0 := Lib.hid hL
  obtain ⟨n, hn⟩ : ∃ n, K.tk.length = n := ⟨_, rfl⟩
  have HN := Lib.hid hn
  rw [hn] at q1 n8 n1 ⊢
  have HV := Lib.hid hv
  clear hn hv
  go_enter Tryz.func46, Tryz.ntmps46
  go_wp2_with fail
  go_loopw [11] (fun z wr => ∃ (k : Nat) (ev' : Value), k ≤ n ∧ z = .int .i64 k ∧ KAt E wr B kp A jv ev' pd (K.plus (lateL K k)) ∧ Fr E [97, 50] B w wr) (fun z _ => n - (intOf z).toNat)
  case atStart => exact ⟨0, ev, Nat.zero_le _, rfl, by rw [show lateL K 0 = [] from rfl, Kst.plus_nil]; exact h, Fr.refl _ _ _⟩
  case round =>
    obtain ⟨k, ev', hk, rfl, hA, hF⟩ := hrel
    clear h
    by_cases hlt : k < n
    · have hlk : k < K.tk.length := by rw [HN.out]; exact hlt
      obtain ⟨x, hx⟩ : ∃ x, K.tk[k]? = some x := ⟨_, List.getElem?_eq_getElem hlk⟩
      obtain ⟨a', c', ra, rc, hv', hal, hC, hrg⟩ := hA.tasks.task (T := K.tk) hx
      obtain ⟨rfl, rfl⟩ : a' = a ∧ c' = c := by
        rw [HV.out] at hv'
        injection hv' with h1 h2 h3
        injection h1 with h1
        injection h1 with h1
        exact ⟨h1.symm, h3.symm⟩
      obtain ⟨g0, g1, g2, g3, g4, g5, g6, g7, g8⟩ := hC
      have qt : wr.cell? ⟨kp, 6, none⟩ = some (.pointer (some ⟨A.tp, 0, none⟩)) := hA.hd.cell 6
      have hkl := hA.hd.lt
      have hxD : (K.tk.getD k z46).f2 = x.f2 := by rw [List.getD_eq_getElem?_getD, hx]; rfl
      have hD := hK.dl x (List.mem_of_getElem? hx)
      have hst : k < K.tab.length := by have := hA.lt; rw [show (K.plus (lateL K k)).tk = K.tk from rfl, show (K.plus (lateL K k)).tab = K.tab from rfl] at this; omega
      have hA2 := hK.ar _ (getL_mem hst)
      have hsl : T.stateL K.tab (k : Int) = if (T.getL K.tab k).p then T.getL K.tab k else ⟨false, false, false, 0⟩ := by
        unfold T.stateL
        rw [T.hasL_in hst, ← T.getL_in hst]
      have hla : lateAt K k = if (T.getL K.tab k).p && decide ((T.getL K.tab k).a + x.f2 = K.tick) then [⟨K.tick, 3, k, 0⟩] else [] := by unfold lateAt; rw [hxD]
      have hT := fun w1 (h1 : KAt E w1 B kp A jv ev' pd (K.plus (lateL K k))) => T.tstate_any A.tp A.ta K.tab (k : Int) w1 h1.tab
      obtain ⟨st, hs⟩ : ∃ st, T.getL K.tab k = st := ⟨_, rfl⟩
      rw [hs] at hA2 hsl hla
      obtain ⟨sp, ss, sm, sa⟩ := st
      simp only at hA2 hsl hla
      have HLA := Lib.hid hla
      have HSL := Lib.hid hsl
      have HA := Lib.hid hA
      have HT := Lib.hid hT
      have HF := Lib.hid hF
      clear hv' hrg hx hxD hst hs hsl hla hA hT hF
      have HB := Lib.hid (Blk.new wr 46 #[.string x.f0, .int .i64 x.f1, .int .i64 x.f2, .int .i64 x.f3, .int .i64 x.f4, .int .i64 x.f5, .slice ra x.f6.length rc, .int .u64 x.f7, .int .u64 x.f8])
      cases sp with
      | false =>
        have HE : Hid ((T.stateL K.tab (k : Int)).val = .agg #[.bool false, .bool false, .bool false, .int .i64 0]) := by unfold Hid; rw [HSL.out]; rfl
        have HN2 : Hid (lateL K (k + 1) = lateL K k) := by unfold Hid; rw [lateL_succ, HLA.out]; simp
        go_wp2_with fail
        refine (HT.out _ (HA.out.alloc _)).mono ?_
        rintro e w2 ⟨rfl, g⟩
        rw [HE.out]
        have K2 := (HA.out.alloc (.cells #[.string x.f0, .int .i64 x.f1, .int .i64 x.f2, .int .i64 x.f3, .int .i64 x.f4, .int .i64 x.f5, .slice ra x.f6.length rc, .int .u64 x.f7, .int .u64 x.f8] 46)).fr (Fr.of_none (ts := []) (B := 0) g) (by simp)
        have F2 := (HF.out.trans (Fr.of_none (only_alloc (World.grownBy.refl wr none) (.cells #[.string x.f0, .int .i64 x.f1, .int .i64 x.f2, .int .i64 x.f3, .int .i64 x.f4, .int .i64 x.f5, .slice ra x.f6.length rc, .int .u64 x.f7, .int .u64 x.f8] 46)))).trans (Fr.of_none g)
        have HK2 := Lib.hid K2
        have HF2 := Lib.hid F2
        clear K2 F2 HT HA HF HE HSL HB g g0 g1 g2 g3 g4 g5 g6 g7 g8 qt q1
        go_wp2_with fail
        go_quiet (fail)
        go_wp2_with fail
        go_roundw
        case rel => exact ⟨k + 1, _, by omega, by go_num, by rw [HN2.out]; exact (HK2.out.alloc _).drewN _, (HF2.out.trans (Fr.of_none (only_alloc (World.grownBy.refl w2 none) _))).drewN _⟩
        case measure => simp [intOf]; omega
      | true =>
        have HE : Hid ((T.stateL K.tab (k : Int)).val = .agg #[.bool true, .bool ss, .bool sm, .int .i64 sa]) := by unfold Hid; rw [HSL.out]; rfl
        have t0 := hK.t0
        have t1 := hK.t1
        have hs1 : IntKind.i64.wrap (sa + x.f2) = sa + x.f2 := IntWalk.i64_in _ (by omega)
        go_wp2_with fail
        refine (HT.out _ (HA.out.alloc _)).mono ?_
        rintro e w2 ⟨rfl, g⟩
        rw [HE.out]
        have K2 := (HA.out.alloc (.cells #[.string x.f0, .int .i64 x.f1, .int .i64 x.f2, .int .i64 x.f3, .int .i64 x.f4, .int .i64 x.f5, .slice ra x.f6.length rc, .int .u64 x.f7, .int .u64 x.f8] 46)).fr (Fr.of_none (ts := []) (B := 0) g) (by simp)
        have F2 := (HF.out.trans (Fr.of_none (only_alloc (World.grownBy.refl wr none) (.cells #[.string x.f0, .int .i64 x.f1, .int .i64 x.f2, .int .i64 x.f3, .int .i64 x.f4, .int .i64 x.f5, .slice ra x.f6.length rc, .int .u64 x.f7, .int .u64 x.f8] 46)))).trans (Fr.of_none g)
        have B2 := HB.out.grown g (by simp)
        have r2 : w2.cell? ⟨wr.heap.size, 2, none⟩ = some (.int .i64 x.f2) := B2.cell 2
        have rt : w2.cell? ⟨kp, 2, none⟩ = some (.int .i64 K.tick) := K2.hd.cell 2
        have hb2 := B2.lt
        have hk2 := K2.hd.lt
        have HK2 := Lib.hid K2
        have HF2 := Lib.hid F2
        clear K2 F2 HT HA HF HE HSL HB B2 g g0 g1 g2 g3 g4 g5 g6 g7 g8 qt q1
        by_cases hlate : sa + x.f2 = K.tick
        · have hd1 : (sa + x.f2 == K.tick) = true := by simpa using hlate
          have HN2 : Hid (lateL K (k + 1) = lateL K k ++ [⟨K.tick, 3, k, 0⟩]) := by unfold Hid; rw [lateL_succ, HLA.out]; simp [hlate]
          have HL2 : Hid ((K.plus (lateL K k)).ev.length ≤ 100000000) := by
            unfold Hid
            have := lateL_len K k
            have := HL0.out
            simp only [Kst.plus, List.length_append]
            omega
          have HLT := Lib.hid hlate
          clear hlate
          go_wp2_with fail
          go_quiet (fail)
          go_wp2_with fail
          refine (note_post ((HK2.out.alloc (.cells #[.bool true, .bool ss, .bool sm, .int .i64 sa] 142)).drewN _) 3 k 0 HL2.out).mono ?_
          rintro e w3 ⟨rfl, ev2, K3, F3⟩
          have HK3 := Lib.hid K3
          have F4 := ((HF2.out.trans (Fr.of_none (only_alloc (World.grownBy.refl w2 none) (.cells #[.bool true, .bool ss, .bool sm, .int .i64 sa] 142)))).drewN _).trans F3
          have HF4 := Lib.hid F4
          clear K3 F3 F4 HK2 HF2 HL2 hs1 hd1 r2 rt
          go_wp2_with fail
          go_roundw
          case rel => exact ⟨k + 1, _, by omega, by go_num, by rw [HN2.out, ← Kst.plus_plus]; exact HK3.out, HF4.out⟩
          case measure => simp [intOf]; omega
        · have hd1 : (sa + x.f2 == K.tick) = false := by simpa using hlate
          have HN2 : Hid (lateL K (k + 1) = lateL K k) := by unfold Hid; rw [lateL_succ, HLA.out]; simp [hlate]
          have HLT := Lib.hid hlate
          clear hlate
          go_wp2_with fail
          go_quiet (fail)
          clear hs1 hd1 r2 rt
          go_wp2_with fail
          go_roundw
          case rel => exact ⟨k + 1, _, by omega, by go_num, by rw [HN2.out]; exact (HK2.out.alloc _).drewN _, (HF2.out.trans (Fr.of_none (only_alloc (World.grownBy.refl w2 none) _))).drewN _⟩
          case measure => simp [intOf]; omega
    · obtain rfl : k = n := by omega
      have HA := Lib.hid hA
      go_wp2_with fail
      go_end0
      exact ⟨rfl, _, HA.out, hF⟩
end Go.Proofs.YtdgfjpbjiccllaaGreatDoor
/- Who comes is let in: the parts of a kernel that turn then. -/
namespace Go.Proofs.YtdgfjpbjiccllaaGreatDoor
open Go.RowKit
open Go.Proofs.YtdgfjpbjiccllaaGreatDoorW.PrintWords Go.Proofs.YtdgfjpbjiccllaaGreatDoorW.PrintLast Go.Proofs.YtdgfjpbjiccllaaGreatDoorW.PrintMore
open Go.Proofs.YtdgfjpbjiccllaaGreatDoor.PTopLoads (S46 k46 z46 k46_mk S57 k57)
set_option maxRecDepth 100000
variable {E : Nat}
section
variable {w w' : World} {B kp : Nat} {A : Ad} {jv : List Value} {ev : Value} {pd : Nat → Bool} {K : Kst}
theorem KAt.putTab (h : KAt E w B kp A jv ev pd K) {L : List T.St} (hT : T.Tab w' 133 A.tp A.ta L) (hg : w.grownBy w' (some A.ta)) (hl : L.length = K.tab.length) :
    KAt E w' B kp A jv ev pd { K with tab := L } ∧ Fr E [142] B w w' := by
  have hf : Fr E [142] B w w' := Fr.of_blk hg h.tab.row h.bta (by simp)
  exact ⟨⟨h.hd.fr hf (by decide), h.tasks.fr hf (by decide) (by decide), pol_fr h.pol hf (by decide) (by decide), ⟨h.cache.len, h.cache.hd.fr hf (by decide)⟩, hT, h.own.fr hf (by decide), own_fr h.evs hf (by decide),
    fun i hi hp => (h.jobs i hi hp).fr hf (by decide) (by decide), h.apart, h.n1, h.n8, h.lp, by simp only; rw [hl]; exact h.lt, h.lh, h.ll, h.lj, h.lv, h.bk, h.bp, h.bc, h.bt, h.bta, h.bo, h.be, Nat.le_trans h.eh hf.size⟩, hf⟩
theorem KAt.putPol (h : KAt E w B kp A jv ev pd K) {L : List P.Wt} (hT : P.PolAt w' B A.pp A.pa A.pc L) (hg : w.grownBy w' (some A.pa)) (hl : L.length = K.pol.length) :
    KAt E w' B kp A jv ev pd { K with pol := L } ∧ Fr E [140] B w w' := by
  have hf : Fr E [140] B w w' := Fr.of_own (v := .slice (some ⟨A.pa, 0, none⟩) K.pol.length A.pc) (by simpa [Value.ownBlock] using hg) h.pol.pol.own (Nat.le_refl _) (by simp)
  exact ⟨⟨h.hd.fr hf (by decide), h.tasks.fr hf (by decide) (by decide), hT, ⟨h.cache.len, h.cache.hd.fr hf (by decide)⟩, ⟨h.tab.hd.fr hf (by decide), h.tab.row.fr hf (by decide)⟩, h.own.fr hf (by decide), own_fr h.evs hf (by decide),
    fun i hi hp => (h.jobs i hi hp).fr hf (by decide) (by decide), h.apart, h.n1, h.n8, by simp only; rw [hl]; exact h.lp, h.lt, h.lh, h.ll, h.lj, h.lv, h.bk, h.bp, h.bc, h.bt, h.bta, h.bo, h.be, Nat.le_trans h.eh hf.size⟩, hf⟩
theorem own_lower {base base' e size n : Nat} {v : Value} {xs : List Value} (h : w.ownsRow base e size v n xs) (hb : base' ≤ base) : w.ownsRow base' e size v n xs := by
  refine ⟨h.1, ?_⟩
  rcases h.2 with h0 | ⟨g, c, cur, hv, hg, rest⟩
  · exact .inl h0
  · exact .inr ⟨g, c, cur, hv, Nat.le_trans hb hg, rest⟩
theorem job_lower {base base' p a ca b cb : Nat} {j : J.Jb} (h : J.JobAt w base p a ca b cb j) (hb : base' ≤ base) : J.JobAt w base' p a ca b cb j := ⟨h.hd, own_lower h.rs hb, own_lower h.ds hb, h.same, h.ap, h.bp⟩
theorem JobPt.lt {v : Value} {j : J.Jb} (h : JobPt w B v j) : ∃ p, v = .pointer (some ⟨p, 0, none⟩) ∧ p < w.heap.size := by
  obtain ⟨p, a, ca, b, cb, hv, _, hj⟩ := h
  exact ⟨p, hv, hj.hd.lt⟩
def ownSet (w : World) (oa i : Nat) (p : Value) (h l : Int) : World := ((w.setCell ⟨oa, i * 3, none⟩ p).setCell ⟨oa, i * 3 + 1, none⟩ (.int .u64 h)).setCell ⟨oa, i * 3 + 2, none⟩ (.int .i64 l)
theorem grown_ownSet (w : World) (oa i : Nat) (p : Value) (h l : Int) : w.grownBy (ownSet w oa i p h l) (some oa) :=
  only_setCell (only_setCell (only_setCell (World.grownBy.refl w (some oa)) (p := ⟨oa, i * 3, none⟩) (.inl rfl) _) (p := ⟨oa, i * 3 + 1, none⟩) (.inl rfl) _) (p := ⟨oa, i * 3 + 2, none⟩) (.inl rfl) _
/-- A task has a new job. -/
theorem KAt.setOwn (h : KAt E w B kp A jv ev pd K) {i : Nat} (hi : i < K.tk.length) {p a ca b cb : Nat} {j : J.Jb} (hj : J.JobAt w B p a ca b cb j) (hp : B ≤ p) (hnew : ∀ k (hk : k < jv.length), pd k = true → jv[k] ≠ .pointer (some ⟨p, 0, none⟩)) (hd l : Int) :
    KAt E (ownSet w A.oa i (.pointer (some ⟨p, 0, none⟩)) hd l) B kp A (jv.set i (.pointer (some ⟨p, 0, none⟩))) ev (fun k => k == i || pd k) { K with job := K.job.set i j, had := K.had.set i hd, loads := K.loads.set i l } ∧
      Fr E [148] B w (ownSet w A.oa i (.pointer (some ⟨p, 0, none⟩)) hd l) := by
  have hf : Fr E [148] B w (ownSet w A.oa i (.pointer (some ⟨p, 0, none⟩)) hd l) := Fr.of_blk (grown_ownSet _ _ _ _ _ _) h.own h.bo (by simp)
  have hlv := h.lv
  have hown : Blk (ownSet w A.oa i (.pointer (some ⟨p, 0, none⟩)) hd l) A.oa 148 (ocs (jv.set i (.pointer (some ⟨p, 0, none⟩))) (K.had.set i hd) (K.loads.set i l)).toArray := by
    have := ((h.own.set_ (i * 3) (.pointer (some ⟨p, 0, none⟩))).set_ (i * 3 + 1) (.int .u64 hd)).set_ (i * 3 + 2) (.int .i64 l)
    rw [← ocs_set jv K.had K.loads (by rw [h.lh, h.lv]) (by rw [h.ll, h.lv]) i (by rw [h.lv]; exact hi)]
    simpa [ownSet] using this
  refine ⟨⟨h.hd.fr hf (by decide), h.tasks.fr hf (by decide) (by decide), pol_fr h.pol hf (by decide) (by decide), ⟨h.cache.len, h.cache.hd.fr hf (by decide)⟩, ⟨h.tab.hd.fr hf (by decide), h.tab.row.fr hf (by decide)⟩, hown, own_fr h.evs hf (by decide),
    fun k hk hpk => ?_, fun k k' hk hk' hne hpk hpk' => ?_, h.n1, h.n8, h.lp, h.lt, by simp [h.lh], by simp [h.ll], by simp [h.lj], by simp [h.lv], h.bk, h.bp, h.bc, h.bt, h.bta, h.bo, h.be, Nat.le_trans h.eh hf.size⟩, hf⟩
  · by_cases hki : k = i
    · subst hki
      have hkj : k < K.job.length := by rw [h.lj]; exact hi
      have e : (K.job.set k j).getD k ⟨[], [], 0, 0, 0, 0⟩ = j := by simp [List.getD, hkj]
      simp only [e, List.getElem_set_self]
      exact (show JobPt w B _ j from ⟨p, a, ca, b, cb, rfl, hp, hj⟩).fr hf (by decide) (by decide)
    · have e : (K.job.set i j).getD k ⟨[], [], 0, 0, 0, 0⟩ = K.job.getD k ⟨[], [], 0, 0, 0, 0⟩ := by simp [List.getD, Ne.symm hki]
      simp only [e, List.getElem_set_ne (Ne.symm hki)]
      exact (h.jobs k (by simpa using hk) (by simpa [hki] using hpk)).fr hf (by decide) (by decide)
  · by_cases hki : k = i
    · subst hki
      have hne2 : k ≠ k' := hne
      simp only [List.getElem_set_self, List.getElem_set_ne hne2]
      exact (hnew k' (by simpa using hk') (by simpa [Ne.symm hne2] using hpk')).symm
    · by_cases hki' : k' = i
      · subst hki'
        simp only [List.getElem_set_self, List.getElem_set_ne (Ne.symm hki)]
        exact hnew k (by simpa using hk) (by simpa [hki] using hpk)
      · simp only [List.getElem_set_ne (Ne.symm hki), List.getElem_set_ne (Ne.symm hki')]
        exact h.apart k k' (by simpa using hk) (by simpa using hk') hne (by simpa [hki] using hpk) (by simpa [hki'] using hpk')
end
/-! ### What coming comes to -/
def admitK (K : Kst) (dm : List Int) (i : Nat) : Kst :=
  { K with tab := T.putL K.tab i K.tick, ev := K.ev ++ [⟨K.tick, 1, i, 0⟩], pol := P.noteL K.pol i K.tick, job := K.job.set i (J.jb0 (K.tk.getD i z46).f6 dm), had := K.had.set i 0, loads := K.loads.set i 0 }
def arriveK (D : List (List Int)) (K : Kst) (i : Nat) : Kst :=
  if K.tk.length ≤ i then K
  else if P.earlyL K.pol i K.tick then K.plus [⟨K.tick, 2, i, 1⟩]
  else if T.putOk K.tab i then admitK K (D.getD i []) i
  else K.plus [⟨K.tick, 2, i, 2⟩]
def pdOf (K : Kst) (i : Nat) : Bool := (T.getL K.tab i).p
end Go.Proofs.YtdgfjpbjiccllaaGreatDoor
