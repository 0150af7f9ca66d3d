/- What a copy of all states comes to: new memory with the same states; of a Table that is none: no states. -/
import Derived.Test.YtmbbfakdcfhahaaKnown
namespace Go.Proofs.Ytmbbfakdcfhahaa
open Go.RowKit

theorem cells_one (L : List St) : ∀ u ∈ L.flatMap St.cells, u.oneCell' = true := by
  intro u hu
  obtain ⟨x, _, hx⟩ := List.mem_flatMap.1 hu
  simp [St.cells] at hx
  rcases hx with rfl | rfl | rfl | rfl <;> rfl

theorem Blk.at_ {w : World} {a : Nat} {L : List St} (h : Blk w a 44 (cellsOf L)) : ∀ (j : Nat) (u : Value), (L.flatMap St.cells)[j]? = some u → w.cell? ((⟨a, 0, none⟩ : Addr).add j) = some u := by
  intro j u hu
  have e : (⟨a, 0, none⟩ : Addr).add j = ⟨a, j, none⟩ := by
    unfold Addr.add
    by_cases hj : j = 0 <;> simp [hj]
  rw [e, h.cell]
  simpa [cellsOf] using hu

set_option maxHeartbeats 400000 in
theorem clone_any (a : Nat) (L : List St) (w : World) (h : Blk w a 44 (cellsOf L)) (hl : L.length ≤ 8) :
    Calls Try.prog 25 #[.slice (some ⟨a, 0, none⟩) L.length L.length] w fun e w' => ∃ v, e = .returned v ∧ w'.ownsRow w.heap.size 44 4 v L.length (L.flatMap St.cells) ∧ Below w.heap.size w w' := by
  have hne := fun W => Lib.run_eql_slice_nil (P := Try.prog) W 38 44 (some ⟨a, 0, none⟩) L.length L.length 0 0 Try.underlying38
  obtain ⟨i0, hi0, hz0, hz1, hz2⟩ := info_parts Try.info44
  have Hz0 := Lib.hid hz0; clear hz0
  have Hz1 := Lib.hid hz1; clear hz1
  have Hz2 := Lib.hid hz2; clear hz2
  have Hi := Lib.hid hi0; clear hi0
  have hlt := h.lt
  have hm : L.length ≤ maxLen := by unfold maxLen; omega
  have hcl := cellsOf_length L
  have Hcl := Lib.hid hcl; clear hcl
  go_enter Try.func25, Try.ntmps25
  go_wp2_with (at_builtin; refine wpList_append_own _ rfl (.tmp 5) (.tmp 6) 38 rfl w.heap.size 44 i0 _ 4 16 Try.underlying38 Hi.out Hz0.out Hz1.out Hz2.out rfl (by decide) (.slice (some ⟨w.heap.size, 0, none⟩) 0 0) 0 [] rfl ?c1 ⟨a, 0, none⟩ L.length L.length (L.flatMap St.cells) rfl Hcl.out ?c2 (cells_one L) (by omega) (by omega) (by simp) ?c3)
  case c1 => exact World.ownsRow_made w #[] 0 (Nat.le_refl _) (by unfold maxLen; omega) (by simp)
  case c2 => exact (h.alloc _).at_
  case c3 =>
    intro v' w' hown hg _
    have hb : Below w.heap.size w w' := ((Below.refl _ _).alloc (Nat.le_refl _) _).grown hg (by simp) (fun k e => by simp [Value.ownBlock] at e; omega)
    go_wp2
    go_ret
    exact ⟨v', rfl, by simpa using hown, hb⟩

theorem tall_any (g a : Nat) (L : List St) (w : World) (h : Tab w 48 g a L) (hl : L.length ≤ 8) :
    Calls Try.prog 20 #[.pointer (some ⟨g, 0, none⟩)] w fun e w' => ∃ v, e = .returned v ∧ w'.ownsRow w.heap.size 44 4 v L.length (L.flatMap St.cells) ∧ Below w.heap.size w w' := by
  have c := h.slice
  go_enter Try.func20, Try.ntmps20
  go_wp2_with fail
  refine (clone_any a L w h.row hl).mono ?_
  rintro e w1 ⟨v, rfl, hown, hb⟩
  go_wp2
  go_ret
  exact ⟨v, rfl, hown, hb⟩

theorem tall_nil (w : World) : Calls Try.prog 20 #[.pointer none] w fun e w' => e = .returned (.slice none 0 0) ∧ w = w' := by
  go_enter Try.func20, Try.ntmps20
  go_wp2
  go_ret
  exact ⟨rfl, rfl⟩
theorem tput_nil (i v : Int) (w : World) : Calls Try.prog 7 #[.pointer none, .int .i64 i, .int .i64 v] w fun e w' => e = .returned (.bool false) ∧ w = w' := by
  go_enter Try.func7, Try.ntmps7
  go_wp2_with fail
  go_ret
  exact ⟨rfl, rfl⟩
theorem tbegin_nil (i : Int) (w : World) : Calls Try.prog 12 #[.pointer none, .int .i64 i] w fun e w' => e = .returned (.bool false) ∧ w = w' := by
  go_enter Try.func12, Try.ntmps12
  go_wp2_with (go_at_call 23; refine (thas_nil i _).mono ?_; rintro e w' ⟨rfl, rfl⟩)
  go_ret
  exact ⟨rfl, rfl⟩
theorem tmid_nil (i : Int) (b : Bool) (w : World) : Calls Try.prog 14 #[.pointer none, .int .i64 i, .bool b] w fun e w' => e = .returned (.bool false) ∧ w = w' := by
  go_enter Try.func14, Try.ntmps14
  go_wp2_with (go_at_call 23; refine (thas_nil i _).mono ?_; rintro e w' ⟨rfl, rfl⟩)
  go_ret
  exact ⟨rfl, rfl⟩
theorem tdrop_nil (i : Int) (w : World) : Calls Try.prog 16 #[.pointer none, .int .i64 i] w fun e w' => e = .returned (.bool false) ∧ w = w' := by
  go_enter Try.func16, Try.ntmps16
  go_wp2_with (go_at_call 23; refine (thas_nil i _).mono ?_; rintro e w' ⟨rfl, rfl⟩)
  go_ret
  exact ⟨rfl, rfl⟩
theorem tstate_nil (i : Int) (w : World) : Calls Try.prog 21 #[.pointer none, .int .i64 i] w fun e w' => e = .returned (St.mk false false false 0).val ∧ w.grownBy w' none := by
  go_enter Try.func21, Try.ntmps21
  go_wp2_with (go_at_call 23; refine (thas_nil i _).mono ?_; rintro e w' ⟨rfl, rfl⟩)
  refine bodyPost_ret (v := (St.mk false false false 0).val) (by simp [results, Try.results21, go_sem, St.val]) rfl ⟨rfl, ?_⟩
  exact only_alloc (World.grownBy.refl _ _) _

end Go.Proofs.Ytmbbfakdcfhahaa
