/- What the table's functions do, of the program's Table and of the reference's; a Table lies in two blocks. -/
import Derived.Test.YtmbbfakdcfhahaaMem
namespace Go.Proofs.Ytmbbfakdcfhahaa
open Go.RowKit

theorem Try.info44 : (Try.prog.info? 44).map (fun i => (i.zero, i.size, i.bytes)) = some (some (.agg #[.bool false, .bool false, .bool false, .int .i64 0]), 4, 16) := by kernel_rfl

theorem made_zero (n : Nat) (h : n ≤ 8) : madeCells (Value.agg #[.bool false, .bool false, .bool false, .int .i64 0]).cells (n * 4) = cellsOf (List.replicate n ⟨false, false, false, 0⟩) := by
  obtain rfl | rfl | rfl | rfl | rfl | rfl | rfl | rfl | rfl : n = 0 ∨ n = 1 ∨ n = 2 ∨ n = 3 ∨ n = 4 ∨ n = 5 ∨ n = 6 ∨ n = 7 ∨ n = 8 := by omega
  all_goals kernel_rfl

def zeros (n : Nat) : List St := List.replicate n ⟨false, false, false, 0⟩


/-! ### type 48 -/
theorem tnew_no (n : Int) (h : n < 1 ∨ 8 < n) (w : World) :
    Calls Try.prog 6 #[.int .i64 n] w fun e w' => e = .returned (.pointer none) ∧ w = w' := by
  by_cases h1 : n < 1
  · go_enter Try.func6, Try.ntmps6
    go_wp2
    go_ret
    exact ⟨rfl, rfl⟩
  · have h2 : 8 < n := by omega
    go_enter Try.func6, Try.ntmps6
    go_wp2
    go_ret
    exact ⟨rfl, rfl⟩

theorem tnew_yes (n : Nat) (h1 : 1 ≤ n) (h8 : n ≤ 8) (w : World) :
    Calls Try.prog 6 #[.int .i64 n] w fun e w' => e = .returned (.pointer (some ⟨w.heap.size + 1, 0, none⟩)) ∧ Tab w' 48 (w.heap.size + 1) w.heap.size (zeros n) ∧ Below w.heap.size w w' := by
  obtain ⟨i0, hi0, hz0, hz1, hz2⟩ := info_parts Try.info44
  have hmk : ∀ W : World, (Instr.makeSlice 38 (.int .i64 (n : Int)) (.int .i64 (n : Int))).run Try.prog W = .ok (.slice (some ⟨W.heap.size, 0, none⟩) n n) (W.alloc (.cells (cellsOf (zeros n)) 44)) := by
    intro W
    have hr := run_make (P := Try.prog) W 38 44 i0 _ Try.underlying38 hi0 hz0 .i64 .i64 n n (by omega) (by omega) (by rw [hz2]; omega) (by omega)
    rw [hr, hz1, Int.toNat_natCast, made_zero n h8]
    rfl
  have hlen : (zeros n).length = n := by simp [zeros]
  have H := Lib.hid hlen; clear hlen
  have Z1 := Lib.hid hz1; clear hz1
  have Z2 := Lib.hid hz2; clear hz2
  have Z0 := Lib.hid hz0; clear hz0
  have Zi := Lib.hid hi0; clear hi0
  have hb1 : (n : Int) < 1 ∨ (1 : Int) ≤ n := by omega
  have l1 : ¬ (n : Int) < 1 := by omega
  have l2 : ¬ (8 : Int) < n := by omega
  go_enter Try.func6, Try.ntmps6
  go_wp2
  go_ret
  refine ⟨by simp, ⟨?_, ?_⟩, ?_⟩
  · rw [H.out]
    have := Blk.new (w.alloc (.cells (cellsOf (zeros n)) 44)) 48 #[.slice (some ⟨w.heap.size, 0, none⟩) n n]
    simpa using this
  · exact (Blk.new w 44 _).alloc _
  · exact ((Below.refl _ _).alloc (Nat.le_refl _) _).alloc (by simp) _

theorem thas_nil (i : Int) (w : World) : Calls Try.prog 23 #[.pointer none, .int .i64 i] w fun e w' => e = .returned (.bool false) ∧ w = w' := by
  go_enter Try.func23, Try.ntmps23
  go_wp2
  go_ret
  exact ⟨rfl, rfl⟩

theorem thas_any (g a : Nat) (L : List St) (i : Int) (w : World) (h : Tab w 48 g a L) :
    Calls Try.prog 23 #[.pointer (some ⟨g, 0, none⟩), .int .i64 i] w fun e w' => e = .returned (.bool (hasL L i)) ∧ w = w' := by
  have c := h.slice
  by_cases h0 : i < 0
  · rw [hasL_neg h0]
    go_enter Try.func23, Try.ntmps23
    go_wp2
    go_ret
    exact ⟨rfl, rfl⟩
  · obtain ⟨i, rfl⟩ := Int.eq_ofNat_of_zero_le (show 0 ≤ i by omega)
    by_cases h1 : i < L.length
    · rw [hasL_in h1]
      have c0 := h.c0 h1
      go_enter Try.func23, Try.ntmps23
      go_wp2
      go_ret
      exact ⟨rfl, rfl⟩
    · rw [hasL_ge (by omega)]
      go_enter Try.func23, Try.ntmps23
      go_wp2
      go_ret
      exact ⟨rfl, rfl⟩

theorem tput_any (g a : Nat) (L : List St) (i v : Int) (w : World) (h : Tab w 48 g a L) :
    Calls Try.prog 7 #[.pointer (some ⟨g, 0, none⟩), .int .i64 i, .int .i64 v] w fun e w' =>
      e = .returned (.bool (putOk L i)) ∧ Tab w' 48 g a (putL L i v) ∧ w.grownBy w' (some a) := by
  have c := h.slice
  by_cases h0 : i < 0
  · have e1 : putOk L i = false := by simp [putOk, show ¬ 0 ≤ i from by omega]
    have e2 : putL L i v = L := by simp [putL, e1]
    rw [e1, e2]; clear e1 e2
    go_enter Try.func7, Try.ntmps7
    go_wp2_with fail
    go_ret
    exact ⟨rfl, h, World.grownBy.refl _ _⟩
  · obtain ⟨i, rfl⟩ := Int.eq_ofNat_of_zero_le (show 0 ≤ i by omega)
    by_cases h1 : i < L.length
    · by_cases h2 : hasL L i = true
      · have e1 : putOk L i = false := by simp [putOk, h2]
        have e2 : putL L i v = L := by simp [putL, e1]
        rw [e1, e2]; clear e1 e2
        have H := Lib.hid h2; clear h2
        go_enter Try.func7, Try.ntmps7
        go_wp2_with (go_at_call 23; refine (thas_any g a L i w h).mono ?_; rintro e w' ⟨rfl, rfl⟩; rw [H.out])
        go_ret
        exact ⟨rfl, h, World.grownBy.refl _ _⟩
      · have h2 : hasL L i = false := by simpa using h2
        have e1 : putOk L i = true := by simp [putOk, h2, h1]
        have e2 : putL L i v = L.set i ⟨true, false, false, v⟩ := by simp [putL, e1]
        rw [e1, e2]; clear e1 e2
        have H := Lib.hid h2; clear h2
        have c0 := h.c0 h1
        have c1 := h.c1 h1
        have c2 := h.c2 h1
        have c3 := h.c3 h1
        have f0 := h.fr (i * 4)
        have f1 := h.fr (i * 4 + 1)
        have f2 := h.fr (i * 4 + 2)
        have f3 := h.fr (i * 4 + 3)
        go_enter Try.func7, Try.ntmps7
        go_wp2_with (go_at_call 23; refine (thas_any g a L i w h).mono ?_; rintro e w' ⟨rfl, rfl⟩; rw [H.out])
        go_ret
        exact ⟨rfl, h.set (by decide) h1 ⟨true, false, false, v⟩, grown_setSt w a i ⟨true, false, false, v⟩⟩
    · have e1 : putOk L i = false := by simp [putOk, h1]
      have e2 : putL L i v = L := by simp [putL, e1]
      rw [e1, e2]; clear e1 e2
      go_enter Try.func7, Try.ntmps7
      go_wp2_with fail
      go_ret
      exact ⟨rfl, h, World.grownBy.refl _ _⟩

theorem tbegin_any (g a : Nat) (L : List St) (i : Int) (w : World) (h : Tab w 48 g a L) :
    Calls Try.prog 12 #[.pointer (some ⟨g, 0, none⟩), .int .i64 i] w fun e w' =>
      e = .returned (.bool (hasL L i)) ∧ Tab w' 48 g a (beginL L i) ∧ w.grownBy w' (some a) := by
  have c := h.slice
  by_cases h2 : hasL L i = true
  · obtain ⟨n, h1, rfl, _⟩ := hasL_true h2
    have e2 : beginL L n = L.set n ⟨L[n].p, true, L[n].m, L[n].a⟩ := by simp [beginL, h2, getL_in h1]
    rw [e2, h2]; clear e2
    have H := Lib.hid h2; clear h2
    have c0 := h.c1 h1
    have f0 := h.fr (n * 4 + 1)
    have hs : Tab (w.setCell ⟨a, n * 4 + 1, none⟩ (.bool true)) 48 g a (L.set n ⟨L[n].p, true, L[n].m, L[n].a⟩) := h.set1 (by decide) h1 (true)
    go_enter Try.func12, Try.ntmps12
    go_wp2_with (go_at_call 23; refine (thas_any g a L n w h).mono ?_; rintro e w' ⟨rfl, rfl⟩; rw [H.out])
    go_ret
    exact ⟨rfl, hs, only_setCell (World.grownBy.refl w _) (.inl rfl) _⟩
  · have h2 : hasL L i = false := by simpa using h2
    have e2 : beginL L i = L := by simp [beginL, h2]
    rw [e2, h2]; clear e2
    have H := Lib.hid h2; clear h2
    go_enter Try.func12, Try.ntmps12
    go_wp2_with (go_at_call 23; refine (thas_any g a L i w h).mono ?_; rintro e w' ⟨rfl, rfl⟩; rw [H.out])
    go_ret
    exact ⟨rfl, h, World.grownBy.refl _ _⟩

theorem tmid_any (g a : Nat) (L : List St) (i : Int) (b : Bool) (w : World) (h : Tab w 48 g a L) :
    Calls Try.prog 14 #[.pointer (some ⟨g, 0, none⟩), .int .i64 i, .bool b] w fun e w' =>
      e = .returned (.bool (hasL L i)) ∧ Tab w' 48 g a (midL L i b) ∧ w.grownBy w' (some a) := by
  have c := h.slice
  by_cases h2 : hasL L i = true
  · obtain ⟨n, h1, rfl, _⟩ := hasL_true h2
    have e2 : midL L n b = L.set n ⟨L[n].p, L[n].s, b, L[n].a⟩ := by simp [midL, h2, getL_in h1]
    rw [e2, h2]; clear e2
    have H := Lib.hid h2; clear h2
    have c0 := h.c2 h1
    have f0 := h.fr (n * 4 + 2)
    have hs : Tab (w.setCell ⟨a, n * 4 + 2, none⟩ (.bool b)) 48 g a (L.set n ⟨L[n].p, L[n].s, b, L[n].a⟩) := h.set2 (by decide) h1 (b)
    go_enter Try.func14, Try.ntmps14
    go_wp2_with (go_at_call 23; refine (thas_any g a L n w h).mono ?_; rintro e w' ⟨rfl, rfl⟩; rw [H.out])
    go_ret
    exact ⟨rfl, hs, only_setCell (World.grownBy.refl w _) (.inl rfl) _⟩
  · have h2 : hasL L i = false := by simpa using h2
    have e2 : midL L i b = L := by simp [midL, h2]
    rw [e2, h2]; clear e2
    have H := Lib.hid h2; clear h2
    go_enter Try.func14, Try.ntmps14
    go_wp2_with (go_at_call 23; refine (thas_any g a L i w h).mono ?_; rintro e w' ⟨rfl, rfl⟩; rw [H.out])
    go_ret
    exact ⟨rfl, h, World.grownBy.refl _ _⟩

theorem tdrop_any (g a : Nat) (L : List St) (i : Int) (w : World) (h : Tab w 48 g a L) :
    Calls Try.prog 16 #[.pointer (some ⟨g, 0, none⟩), .int .i64 i] w fun e w' =>
      e = .returned (.bool (hasL L i)) ∧ Tab w' 48 g a (dropL L i) ∧ w.grownBy w' (some a) := by
  have c := h.slice
  by_cases h2 : hasL L i = true
  · obtain ⟨n, h1, rfl, _⟩ := hasL_true h2
    have e2 : dropL L n = L.set n ⟨false, false, false, 0⟩ := by simp [dropL, h2]
    rw [e2, h2]; clear e2
    have H := Lib.hid h2; clear h2
    have c0 := h.c0 h1
    have c1 := h.c1 h1
    have c2 := h.c2 h1
    have c3 := h.c3 h1
    have f0 := h.fr (n * 4)
    have f1 := h.fr (n * 4 + 1)
    have f2 := h.fr (n * 4 + 2)
    have f3 := h.fr (n * 4 + 3)
    go_enter Try.func16, Try.ntmps16
    go_wp2_with (go_at_call 23; refine (thas_any g a L n w h).mono ?_; rintro e w' ⟨rfl, rfl⟩; rw [H.out])
    go_ret
    exact ⟨rfl, h.set (by decide) h1 ⟨false, false, false, 0⟩, grown_setSt w a n ⟨false, false, false, 0⟩⟩
  · have h2 : hasL L i = false := by simpa using h2
    have e2 : dropL L i = L := by simp [dropL, h2]
    rw [e2, h2]; clear e2
    have H := Lib.hid h2; clear h2
    go_enter Try.func16, Try.ntmps16
    go_wp2_with (go_at_call 23; refine (thas_any g a L i w h).mono ?_; rintro e w' ⟨rfl, rfl⟩; rw [H.out])
    go_ret
    exact ⟨rfl, h, World.grownBy.refl _ _⟩

theorem tstate_any (g a : Nat) (L : List St) (i : Int) (w : World) (h : Tab w 48 g a L) :
    Calls Try.prog 21 #[.pointer (some ⟨g, 0, none⟩), .int .i64 i] w fun e w' =>
      e = .returned (stateL L i).val ∧ w.grownBy w' none := by
  have c := h.slice
  have hlt := h.hd.lt
  have hlt2 := h.row.lt
  have h' : ∀ o, Tab (w.alloc o) 48 g a L := fun o => ⟨h.hd.alloc o, h.row.alloc o⟩
  by_cases h2 : hasL L i = true
  · obtain ⟨n, h1, rfl, hp⟩ := hasL_true h2
    have e2 : stateL L n = L[n] := by simp [stateL, h2, getL_in h1]
    rw [e2]; clear e2
    have H := Lib.hid h2; clear h2
    have c0 := h.c0 h1
    have c1 := h.c1 h1
    have c2 := h.c2 h1
    have c3 := h.c3 h1
    go_enter Try.func21, Try.ntmps21
    go_wp2_with (go_at_call 23; refine (thas_any g a L n _ (h' _)).mono ?_; rintro e w' ⟨rfl, rfl⟩; rw [H.out])
    refine bodyPost_ret (v := L[n].val) (by simp [results, Try.results21, go_sem, St.val, hp]) rfl ⟨rfl, ?_⟩
    exact only_alloc (World.grownBy.refl _ _) _
  · have h2 : hasL L i = false := by simpa using h2
    have e2 : stateL L i = ⟨false, false, false, 0⟩ := by simp [stateL, h2]
    rw [e2]; clear e2
    have H := Lib.hid h2; clear h2
    go_enter Try.func21, Try.ntmps21
    go_wp2_with (go_at_call 23; refine (thas_any g a L i _ (h' _)).mono ?_; rintro e w' ⟨rfl, rfl⟩; rw [H.out])
    refine bodyPost_ret (v := (St.mk false false false 0).val) (by simp [results, Try.results21, go_sem, St.val]) rfl ⟨rfl, ?_⟩
    exact only_alloc (World.grownBy.refl _ _) _

/-! ### type 40 -/
theorem rnew_no (n : Int) (h : n < 1 ∨ 8 < n) (w : World) :
    Calls Try.prog 10 #[.int .i64 n] w fun e w' => e = .returned (.pointer none) ∧ w = w' := by
  by_cases h1 : n < 1
  · go_enter Try.func10, Try.ntmps10
    go_wp2
    go_ret
    exact ⟨rfl, rfl⟩
  · have h2 : 8 < n := by omega
    go_enter Try.func10, Try.ntmps10
    go_wp2
    go_ret
    exact ⟨rfl, rfl⟩

theorem rnew_yes (n : Nat) (h1 : 1 ≤ n) (h8 : n ≤ 8) (w : World) :
    Calls Try.prog 10 #[.int .i64 n] w fun e w' => e = .returned (.pointer (some ⟨w.heap.size + 1, 0, none⟩)) ∧ Tab w' 40 (w.heap.size + 1) w.heap.size (zeros n) ∧ Below w.heap.size w w' := by
  obtain ⟨i0, hi0, hz0, hz1, hz2⟩ := info_parts Try.info44
  have hmk : ∀ W : World, (Instr.makeSlice 38 (.int .i64 (n : Int)) (.int .i64 (n : Int))).run Try.prog W = .ok (.slice (some ⟨W.heap.size, 0, none⟩) n n) (W.alloc (.cells (cellsOf (zeros n)) 44)) := by
    intro W
    have hr := run_make (P := Try.prog) W 38 44 i0 _ Try.underlying38 hi0 hz0 .i64 .i64 n n (by omega) (by omega) (by rw [hz2]; omega) (by omega)
    rw [hr, hz1, Int.toNat_natCast, made_zero n h8]
    rfl
  have hlen : (zeros n).length = n := by simp [zeros]
  have H := Lib.hid hlen; clear hlen
  have Z1 := Lib.hid hz1; clear hz1
  have Z2 := Lib.hid hz2; clear hz2
  have Z0 := Lib.hid hz0; clear hz0
  have Zi := Lib.hid hi0; clear hi0
  have hb1 : (n : Int) < 1 ∨ (1 : Int) ≤ n := by omega
  have l1 : ¬ (n : Int) < 1 := by omega
  have l2 : ¬ (8 : Int) < n := by omega
  go_enter Try.func10, Try.ntmps10
  go_wp2
  go_ret
  refine ⟨by simp, ⟨?_, ?_⟩, ?_⟩
  · rw [H.out]
    have := Blk.new (w.alloc (.cells (cellsOf (zeros n)) 44)) 40 #[.slice (some ⟨w.heap.size, 0, none⟩) n n]
    simpa using this
  · exact (Blk.new w 44 _).alloc _
  · exact ((Below.refl _ _).alloc (Nat.le_refl _) _).alloc (by simp) _

theorem rhas_any (g a : Nat) (L : List St) (i : Int) (w : World) (h : Tab w 40 g a L) :
    Calls Try.prog 24 #[.pointer (some ⟨g, 0, none⟩), .int .i64 i] w fun e w' => e = .returned (.bool (hasL L i)) ∧ w = w' := by
  have c := h.slice
  by_cases h0 : i < 0
  · rw [hasL_neg h0]
    go_enter Try.func24, Try.ntmps24
    go_wp2
    go_ret
    exact ⟨rfl, rfl⟩
  · obtain ⟨i, rfl⟩ := Int.eq_ofNat_of_zero_le (show 0 ≤ i by omega)
    by_cases h1 : i < L.length
    · rw [hasL_in h1]
      have c0 := h.c0 h1
      go_enter Try.func24, Try.ntmps24
      go_wp2
      go_ret
      exact ⟨rfl, rfl⟩
    · rw [hasL_ge (by omega)]
      go_enter Try.func24, Try.ntmps24
      go_wp2
      go_ret
      exact ⟨rfl, rfl⟩

theorem rput_any (g a : Nat) (L : List St) (i v : Int) (w : World) (h : Tab w 40 g a L) :
    Calls Try.prog 11 #[.pointer (some ⟨g, 0, none⟩), .int .i64 i, .int .i64 v] w fun e w' =>
      e = .returned (.bool (putOk L i)) ∧ Tab w' 40 g a (putL L i v) ∧ w.grownBy w' (some a) := by
  have c := h.slice
  by_cases h0 : i < 0
  · have e1 : putOk L i = false := by simp [putOk, show ¬ 0 ≤ i from by omega]
    have e2 : putL L i v = L := by simp [putL, e1]
    rw [e1, e2]; clear e1 e2
    go_enter Try.func11, Try.ntmps11
    go_wp2_with fail
    go_ret
    exact ⟨rfl, h, World.grownBy.refl _ _⟩
  · obtain ⟨i, rfl⟩ := Int.eq_ofNat_of_zero_le (show 0 ≤ i by omega)
    by_cases h1 : i < L.length
    · by_cases h2 : hasL L i = true
      · have e1 : putOk L i = false := by simp [putOk, h2]
        have e2 : putL L i v = L := by simp [putL, e1]
        rw [e1, e2]; clear e1 e2
        have H := Lib.hid h2; clear h2
        go_enter Try.func11, Try.ntmps11
        go_wp2_with (go_at_call 24; refine (rhas_any g a L i w h).mono ?_; rintro e w' ⟨rfl, rfl⟩; rw [H.out])
        go_ret
        exact ⟨rfl, h, World.grownBy.refl _ _⟩
      · have h2 : hasL L i = false := by simpa using h2
        have e1 : putOk L i = true := by simp [putOk, h2, h1]
        have e2 : putL L i v = L.set i ⟨true, false, false, v⟩ := by simp [putL, e1]
        rw [e1, e2]; clear e1 e2
        have H := Lib.hid h2; clear h2
        have c0 := h.c0 h1
        have c1 := h.c1 h1
        have c2 := h.c2 h1
        have c3 := h.c3 h1
        have f0 := h.fr (i * 4)
        have f1 := h.fr (i * 4 + 1)
        have f2 := h.fr (i * 4 + 2)
        have f3 := h.fr (i * 4 + 3)
        go_enter Try.func11, Try.ntmps11
        go_wp2_with (go_at_call 24; refine (rhas_any g a L i w h).mono ?_; rintro e w' ⟨rfl, rfl⟩; rw [H.out])
        go_ret
        exact ⟨rfl, h.set (by decide) h1 ⟨true, false, false, v⟩, grown_setSt w a i ⟨true, false, false, v⟩⟩
    · have e1 : putOk L i = false := by simp [putOk, h1]
      have e2 : putL L i v = L := by simp [putL, e1]
      rw [e1, e2]; clear e1 e2
      go_enter Try.func11, Try.ntmps11
      go_wp2_with fail
      go_ret
      exact ⟨rfl, h, World.grownBy.refl _ _⟩

theorem rbegin_any (g a : Nat) (L : List St) (i : Int) (w : World) (h : Tab w 40 g a L) :
    Calls Try.prog 13 #[.pointer (some ⟨g, 0, none⟩), .int .i64 i] w fun e w' =>
      e = .returned (.bool (hasL L i)) ∧ Tab w' 40 g a (beginL L i) ∧ w.grownBy w' (some a) := by
  have c := h.slice
  by_cases h2 : hasL L i = true
  · obtain ⟨n, h1, rfl, _⟩ := hasL_true h2
    have e2 : beginL L n = L.set n ⟨L[n].p, true, L[n].m, L[n].a⟩ := by simp [beginL, h2, getL_in h1]
    rw [e2, h2]; clear e2
    have H := Lib.hid h2; clear h2
    have c0 := h.c1 h1
    have f0 := h.fr (n * 4 + 1)
    have hs : Tab (w.setCell ⟨a, n * 4 + 1, none⟩ (.bool true)) 40 g a (L.set n ⟨L[n].p, true, L[n].m, L[n].a⟩) := h.set1 (by decide) h1 (true)
    go_enter Try.func13, Try.ntmps13
    go_wp2_with (go_at_call 24; refine (rhas_any g a L n w h).mono ?_; rintro e w' ⟨rfl, rfl⟩; rw [H.out])
    go_ret
    exact ⟨rfl, hs, only_setCell (World.grownBy.refl w _) (.inl rfl) _⟩
  · have h2 : hasL L i = false := by simpa using h2
    have e2 : beginL L i = L := by simp [beginL, h2]
    rw [e2, h2]; clear e2
    have H := Lib.hid h2; clear h2
    go_enter Try.func13, Try.ntmps13
    go_wp2_with (go_at_call 24; refine (rhas_any g a L i w h).mono ?_; rintro e w' ⟨rfl, rfl⟩; rw [H.out])
    go_ret
    exact ⟨rfl, h, World.grownBy.refl _ _⟩

theorem rmid_any (g a : Nat) (L : List St) (i : Int) (b : Bool) (w : World) (h : Tab w 40 g a L) :
    Calls Try.prog 15 #[.pointer (some ⟨g, 0, none⟩), .int .i64 i, .bool b] w fun e w' =>
      e = .returned (.bool (hasL L i)) ∧ Tab w' 40 g a (midL L i b) ∧ w.grownBy w' (some a) := by
  have c := h.slice
  by_cases h2 : hasL L i = true
  · obtain ⟨n, h1, rfl, _⟩ := hasL_true h2
    have e2 : midL L n b = L.set n ⟨L[n].p, L[n].s, b, L[n].a⟩ := by simp [midL, h2, getL_in h1]
    rw [e2, h2]; clear e2
    have H := Lib.hid h2; clear h2
    have c0 := h.c2 h1
    have f0 := h.fr (n * 4 + 2)
    have hs : Tab (w.setCell ⟨a, n * 4 + 2, none⟩ (.bool b)) 40 g a (L.set n ⟨L[n].p, L[n].s, b, L[n].a⟩) := h.set2 (by decide) h1 (b)
    go_enter Try.func15, Try.ntmps15
    go_wp2_with (go_at_call 24; refine (rhas_any g a L n w h).mono ?_; rintro e w' ⟨rfl, rfl⟩; rw [H.out])
    go_ret
    exact ⟨rfl, hs, only_setCell (World.grownBy.refl w _) (.inl rfl) _⟩
  · have h2 : hasL L i = false := by simpa using h2
    have e2 : midL L i b = L := by simp [midL, h2]
    rw [e2, h2]; clear e2
    have H := Lib.hid h2; clear h2
    go_enter Try.func15, Try.ntmps15
    go_wp2_with (go_at_call 24; refine (rhas_any g a L i w h).mono ?_; rintro e w' ⟨rfl, rfl⟩; rw [H.out])
    go_ret
    exact ⟨rfl, h, World.grownBy.refl _ _⟩

theorem rdrop_any (g a : Nat) (L : List St) (i : Int) (w : World) (h : Tab w 40 g a L) :
    Calls Try.prog 17 #[.pointer (some ⟨g, 0, none⟩), .int .i64 i] w fun e w' =>
      e = .returned (.bool (hasL L i)) ∧ Tab w' 40 g a (dropL L i) ∧ w.grownBy w' (some a) := by
  have c := h.slice
  by_cases h2 : hasL L i = true
  · obtain ⟨n, h1, rfl, _⟩ := hasL_true h2
    have e2 : dropL L n = L.set n ⟨false, false, false, 0⟩ := by simp [dropL, h2]
    rw [e2, h2]; clear e2
    have H := Lib.hid h2; clear h2
    have c0 := h.c0 h1
    have c1 := h.c1 h1
    have c2 := h.c2 h1
    have c3 := h.c3 h1
    have f0 := h.fr (n * 4)
    have f1 := h.fr (n * 4 + 1)
    have f2 := h.fr (n * 4 + 2)
    have f3 := h.fr (n * 4 + 3)
    go_enter Try.func17, Try.ntmps17
    go_wp2_with (go_at_call 24; refine (rhas_any g a L n w h).mono ?_; rintro e w' ⟨rfl, rfl⟩; rw [H.out])
    go_ret
    exact ⟨rfl, h.set (by decide) h1 ⟨false, false, false, 0⟩, grown_setSt w a n ⟨false, false, false, 0⟩⟩
  · have h2 : hasL L i = false := by simpa using h2
    have e2 : dropL L i = L := by simp [dropL, h2]
    rw [e2, h2]; clear e2
    have H := Lib.hid h2; clear h2
    go_enter Try.func17, Try.ntmps17
    go_wp2_with (go_at_call 24; refine (rhas_any g a L i w h).mono ?_; rintro e w' ⟨rfl, rfl⟩; rw [H.out])
    go_ret
    exact ⟨rfl, h, World.grownBy.refl _ _⟩

theorem rstate_any (g a : Nat) (L : List St) (i : Int) (w : World) (h : Tab w 40 g a L) :
    Calls Try.prog 22 #[.pointer (some ⟨g, 0, none⟩), .int .i64 i] w fun e w' =>
      e = .returned (stateL L i).val ∧ w.grownBy w' none := by
  have c := h.slice
  have hlt := h.hd.lt
  have hlt2 := h.row.lt
  have h' : ∀ o, Tab (w.alloc o) 40 g a L := fun o => ⟨h.hd.alloc o, h.row.alloc o⟩
  by_cases h2 : hasL L i = true
  · obtain ⟨n, h1, rfl, hp⟩ := hasL_true h2
    have e2 : stateL L n = L[n] := by simp [stateL, h2, getL_in h1]
    rw [e2]; clear e2
    have H := Lib.hid h2; clear h2
    have c0 := h.c0 h1
    have c1 := h.c1 h1
    have c2 := h.c2 h1
    have c3 := h.c3 h1
    go_enter Try.func22, Try.ntmps22
    go_wp2_with (go_at_call 24; refine (rhas_any g a L n _ (h' _)).mono ?_; rintro e w' ⟨rfl, rfl⟩; rw [H.out])
    refine bodyPost_ret (v := L[n].val) (by simp [results, Try.results22, go_sem, St.val, hp]) rfl ⟨rfl, ?_⟩
    exact only_alloc (World.grownBy.refl _ _) _
  · have h2 : hasL L i = false := by simpa using h2
    have e2 : stateL L i = ⟨false, false, false, 0⟩ := by simp [stateL, h2]
    rw [e2]; clear e2
    have H := Lib.hid h2; clear h2
    go_enter Try.func22, Try.ntmps22
    go_wp2_with (go_at_call 24; refine (rhas_any g a L i _ (h' _)).mono ?_; rintro e w' ⟨rfl, rfl⟩; rw [H.out])
    refine bodyPost_ret (v := (St.mk false false false 0).val) (by simp [results, Try.results22, go_sem, St.val]) rfl ⟨rfl, ?_⟩
    exact only_alloc (World.grownBy.refl _ _) _

end Go.Proofs.Ytmbbfakdcfhahaa
