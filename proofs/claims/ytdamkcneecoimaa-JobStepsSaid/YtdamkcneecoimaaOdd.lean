/- Whether a row holds a number that is no region's length; a copy of a row of numbers. -/
import Derived.Test.YtdamkcneecoimaaMem
namespace Go.Proofs.Ytdamkcneecoimaa
open Go.RowKit

def odd (z : Int) : Bool := decide (z < 1) || decide (10000 < z)

theorem odd_any (z : Int) (w : World) : Calls Try.prog 17 #[.int .i64 z] w fun e w' => e = .returned (.bool (odd z)) ∧ w = w' := by
  unfold odd
  by_cases h1 : z < 1
  · have d1 : decide (z < 1) = true := by simpa using h1
    rw [d1]
    go_enter Try.func17, Try.ntmps17
    go_wp2
    go_ret
    exact ⟨rfl, rfl⟩
  · have d1 : decide (z < 1) = false := by simpa using h1
    rw [d1]
    go_enter Try.func17, Try.ntmps17
    go_wp2
    go_ret
    exact ⟨rfl, rfl⟩

set_option maxHeartbeats 400000 in
theorem index_none (A : Option Addr) (c : Nat) (zs : List Int) (w : World) (h : Nums w A zs) (hl : zs.length ≤ 8) (ho : ∀ i (h : i < zs.length), odd zs[i] = false) :
    Calls Try.prog 20 #[.slice A zs.length c, .func (.func 17) #[] #[]] w fun e w' => e = .returned (.int .i64 (-1)) ∧ w = w' := by
  have HO := Lib.hid ho
  clear ho
  go_enter Try.func20, Try.ntmps20
  go_wp2_with fail
  go_loop [8] (fun z => ∃ k : Nat, k ≤ zs.length ∧ z = .int .i64 k) (fun z => zs.length - (intOf z).toNat)
  case atStart => exact ⟨0, Nat.zero_le _, rfl⟩
  case round =>
    obtain ⟨k, hk, rfl⟩ := hrel
    by_cases hlt : k < zs.length
    · rcases h with h | ⟨b, off, rfl, hb, hc⟩
      · rw [h] at hlt; simp at hlt
      have c0 := hc k hlt
      have HK := HO.out k hlt
      have HK := Lib.hid HK
      go_wp2_with (go_at_call 17; refine (odd_any _ _).mono ?_; rintro e w' ⟨rfl, rfl⟩; rw [HK.out])
      go_round
      case rel => exact ⟨k + 1, by omega, by go_num⟩
      case measure => simp [intOf]; omega
    · go_wp2
      go_ret
      exact ⟨rfl, rfl⟩

set_option maxHeartbeats 400000 in
theorem index_some (A : Option Addr) (c : Nat) (zs : List Int) (w : World) (h : Nums w A zs) (hl : zs.length ≤ 8) (m : Nat) (hm : m < zs.length) (hom : odd zs[m] = true) (ho : ∀ i (h : i < m), odd (zs[i]'(by omega)) = false) :
    Calls Try.prog 20 #[.slice A zs.length c, .func (.func 17) #[] #[]] w fun e w' => e = .returned (.int .i64 m) ∧ w = w' := by
  have HO := Lib.hid ho
  have HM := Lib.hid hom
  clear ho hom
  rcases h with h | ⟨b, off, rfl, hb, hc⟩
  · rw [h] at hm; simp at hm
  go_enter Try.func20, Try.ntmps20
  go_wp2_with fail
  go_loop [8] (fun z => ∃ k : Nat, k ≤ m ∧ z = .int .i64 k) (fun z => zs.length - (intOf z).toNat)
  case atStart => exact ⟨0, Nat.zero_le _, rfl⟩
  case round =>
    obtain ⟨k, hk, rfl⟩ := hrel
    have hlt : k < zs.length := by omega
    have c0 := hc k hlt
    by_cases hkm : k = m
    · subst hkm
      go_wp2_with (go_at_call 17; refine (odd_any _ _).mono ?_; rintro e w' ⟨rfl, rfl⟩; rw [HM.out])
      go_ret
      exact ⟨rfl, rfl⟩
    · have HK := HO.out k (by omega)
      have HK := Lib.hid HK
      go_wp2_with (go_at_call 17; refine (odd_any _ _).mono ?_; rintro e w' ⟨rfl, rfl⟩; rw [HK.out])
      go_round
      case rel => exact ⟨k + 1, by omega, by go_num⟩
      case measure => simp [intOf]; omega

theorem contains_any (A : Option Addr) (c : Nat) (zs : List Int) (w : World) (h : Nums w A zs) (hl : zs.length ≤ 8) :
    Calls Try.prog 18 #[.slice A zs.length c, .func (.func 17) #[] #[]] w fun e w' => e = .returned (.bool (zs.any odd)) ∧ w = w' := by
  cases ha : zs.any odd with
  | false =>
    have ho : ∀ i (h : i < zs.length), odd zs[i] = false := by
      intro i hi
      have := List.any_eq_false.1 ha zs[i] (List.getElem_mem hi)
      simpa using this
    have HO := Lib.hid ho
    clear ho ha
    go_enter Try.func18, Try.ntmps18
    go_wp2_with (go_at_call 20; refine (index_none A c zs _ h hl HO.out).mono ?_; rintro e w' ⟨rfl, rfl⟩)
    go_ret
    exact ⟨rfl, rfl⟩
  | true =>
    obtain ⟨m, hm, hom, ho⟩ : ∃ m, ∃ (hm : m < zs.length), odd zs[m] = true ∧ ∀ i (h : i < m), odd (zs[i]'(by omega)) = false := by
      have hf : zs.findIdx odd < zs.length := by
        rw [List.findIdx_lt_length]
        obtain ⟨x, hx, hox⟩ := List.any_eq_true.1 ha
        exact ⟨x, hx, hox⟩
      refine ⟨zs.findIdx odd, hf, List.findIdx_getElem, fun i hi => ?_⟩
      have := List.not_of_lt_findIdx hi
      simpa using this
    have HO := Lib.hid ho
    have HM := Lib.hid hom
    clear ho hom ha
    go_enter Try.func18, Try.ntmps18
    go_wp2_with (go_at_call 20; refine (index_some A c zs _ h hl m hm HM.out HO.out).mono ?_; rintro e w' ⟨rfl, rfl⟩)
    go_ret
    exact ⟨rfl, rfl⟩


theorem Try.info2 : (Try.prog.info? 2).map (fun i => (i.zero, i.size, i.bytes)) = some (some (.int .i64 0), 1, 8) := by kernel_rfl

def ints (zs : List Int) : List Value := zs.map (Value.int .i64)
theorem ints_one (zs : List Int) : ∀ u ∈ ints zs, u.oneCell' = true := by
  intro u hu
  obtain ⟨x, _, rfl⟩ := List.mem_map.1 hu
  rfl

set_option maxHeartbeats 400000 in
theorem clone_any (A : Option Addr) (c : Nat) (zs : List Int) (w : World) (h : Nums w A zs) (hl : zs.length ≤ 8) (h0 : 0 < zs.length) :
    Calls Try.prog 19 #[.slice A zs.length c] w fun e w' => ∃ a cap, e = .returned (.slice (some ⟨a, 0, none⟩) zs.length cap) ∧ w'.ownsRow w.heap.size 2 1 (.slice (some ⟨a, 0, none⟩) zs.length cap) zs.length (ints zs) ∧ Below w.heap.size w w' := by
  rcases h with h | ⟨b, off, rfl, hb, hc⟩
  · rw [h] at h0; simp at h0
  have hne := fun W => Lib.run_eql_slice_nil (P := Try.prog) W 22 2 (some ⟨b, off, none⟩) zs.length c 0 0 Try.underlying22
  obtain ⟨i0, hi0, hz0, hz1, hz2⟩ := info_parts Try.info2
  have Hz0 := Lib.hid hz0; clear hz0
  have Hz1 := Lib.hid hz1; clear hz1
  have Hz2 := Lib.hid hz2; clear hz2
  have Hi := Lib.hid hi0; clear hi0
  have HC := Lib.hid hc; clear hc
  have hm : zs.length ≤ maxLen := by unfold maxLen; omega
  go_enter Try.func19, Try.ntmps19
  go_wp2_with (at_builtin; refine wpList_append_own _ rfl (.tmp 5) (.tmp 6) 22 rfl w.heap.size 2 i0 _ 1 8 Try.underlying22 Hi.out Hz0.out Hz1.out Hz2.out rfl (by decide) (.slice (some ⟨w.heap.size, 0, none⟩) 0 0) 0 [] rfl ?c1 ⟨b, off, none⟩ zs.length c (ints zs) rfl (by simp [ints]) ?c2 (ints_one zs) (by omega) (by omega) (by simp) ?c3)
  case c1 => exact World.ownsRow_made w #[] 0 (Nat.le_refl _) (by unfold maxLen; omega) (by simp)
  case c2 =>
    intro j u hj
    have hjl : j < zs.length := by
      have := (List.getElem?_eq_some_iff.1 hj).1
      simpa [ints] using this
    rw [add_none, World.cell?_alloc_past _ _ _ hb, HC.out j hjl]
    simpa [ints, hjl] using hj
  case c3 =>
    intro v' w' hown hg _
    have hb : Below w.heap.size w w' := ((Below.refl _ _).alloc (Nat.le_refl _) _).grown hg (by simp) (fun k e => by simp [Value.ownBlock] at e; omega)
    obtain ⟨g, cap', rfl⟩ : ∃ g cap', v' = .slice (some ⟨g, 0, none⟩) zs.length cap' := by
      rcases hown.2 with ⟨_, h⟩ | ⟨g, cap', _, h, _⟩
      · omega
      · exact ⟨g, cap', h⟩
    go_wp2
    go_ret
    exact ⟨g, cap', rfl, by simpa using hown, hb⟩

end Go.Proofs.Ytdamkcneecoimaa
