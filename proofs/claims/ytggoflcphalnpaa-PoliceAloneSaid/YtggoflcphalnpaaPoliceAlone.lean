/- Of every script and every period the law PoliceAlone returns true; no condition. -/
import Derived.Test.YtggoflcphalnpaaActs
import Derived.Deep.RegionWith
import Derived.Test.YtggoflcphalnpaaRows
import Derived.WalkKit
import Derived.ProofKit
import Derived.OpenShut
import Derived.ShutString
import Derived.ChangeOld
import Derived.Below
namespace Go.Proofs.Ytggoflcphalnpaa.policeAlone
open Go.ChangeShapes Go.WideShapes Go.ChangeAt Go.RowKit
open Go.ChangeMaps (open_string shut_string)

theorem own : ownKnob Try.prog.godebug = none := by kernel_rfl
theorem laidOut : laidOutB Try.prog = true := by kernel_rfl

/-! ### The walk -/
theorem newNums2 {w : World} (z : Int) : Nums (w.alloc (.cells #[.int .i64 z, .int .i64 z] 2)) (some ⟨w.heap.size, 0, none⟩) [z, z] := by
  refine .inr ⟨w.heap.size, 0, rfl, by simp, fun i hi => ?_⟩
  have hi : i < 2 := by simpa using hi
  obtain rfl | rfl : i = 0 ∨ i = 1 := by omega
  · simp
  · simp

theorem new_two {A : Option Addr} {c : Nat} (z : Int) (W : World) (h : Nums W A [z, z]) (hz : odd z = false) :
    Calls Try.prog 6 #[.slice A 2 c] W fun e w' => ∃ a cap, e = .returned (.pointer (some ⟨W.heap.size, 0, none⟩)) ∧ PolAt w' (W.heap.size + 1) W.heap.size a cap [mkW z, mkW z] ∧ Below W.heap.size W w' := by
  refine (new_yes A c [z, z] W h (by simp) (by simp [hz])).mono ?_
  rintro e w' ⟨v, rfl, hp, hb⟩
  obtain ⟨a, cap, _, hpa⟩ := hp.at_ (by simp)
  exact ⟨a, cap, rfl, hpa, hb⟩

theorem hide {p : Prop} (h : p) : Hid p := h

def okW (x : Wt) (t : Int) : Bool := decide (0 ≤ t) && !early x t
def noteW (x : Wt) (t : Int) : Wt := if okW x t then ⟨x.t, t, true⟩ else x
theorem ok2 (x y : Wt) (t : Int) : noteOk [x, y] ((0 : Nat) : Int) t = okW x t := by simp [noteOk, okW, earlyL]
theorem ok1 (x : Wt) (t : Int) : noteOk [x] ((0 : Nat) : Int) t = okW x t := by simp [noteOk, okW, earlyL]
theorem note2 (x y : Wt) (t : Int) : noteL [x, y] ((0 : Nat) : Int) t = [noteW x t, y] := by
  unfold noteL noteW
  rw [ok2]
  by_cases h : okW x t = true
  · rw [if_pos h, if_pos h]; rfl
  · rw [if_neg h, if_neg h]
theorem note1 (x : Wt) (t : Int) : noteL [x] ((0 : Nat) : Int) t = [noteW x t] := by
  unfold noteL noteW
  rw [ok1]
  by_cases h : okW x t = true
  · rw [if_pos h, if_pos h]; rfl
  · rw [if_neg h, if_neg h]
theorem early2 (x y : Wt) (t : Int) : earlyL [x, y] ((0 : Nat) : Int) t = early x t := by simp [earlyL]
theorem early1 (x : Wt) (t : Int) : earlyL [x] ((0 : Nat) : Int) t = early x t := by simp [earlyL]
theorem other2 (x y : Wt) (t : Int) : ∃ y', noteL [x, y] ((1 : Nat) : Int) t = [x, y'] := by
  unfold noteL
  split
  · exact ⟨_, rfl⟩
  · exact ⟨y, rfl⟩

/-- Two Polices, apart: of one's first watch and the other's only watch the same is known. -/
structure Two (w wr : World) (B1 p1 a1 c1 B2 p2 a2 c2 : Nat) (x y : Wt) : Prop where
  one : PolAt wr B1 p1 a1 c1 [x, y]
  two : PolAt wr B2 p2 a2 c2 [x]
  ok : OkL [x, y]
  b : Below w.heap.size w wr

theorem Two.ok1 {w wr : World} {B1 p1 a1 c1 B2 p2 a2 c2 : Nat} {x y : Wt} (h : Two w wr B1 p1 a1 c1 B2 p2 a2 c2 x y) : OkL [x] := by
  intro z hz
  exact h.ok z (by simp at hz; simp [hz])

theorem Two.drew {w wr : World} {B1 p1 a1 c1 B2 p2 a2 c2 : Nat} {x y : Wt} (h : Two w wr B1 p1 a1 c1 B2 p2 a2 c2 x y) : Two w wr.drew B1 p1 a1 c1 B2 p2 a2 c2 x y := ⟨h.one.drew, h.two.drew, h.ok, h.b.drew⟩
theorem Two.drewN {w wr : World} {B1 p1 a1 c1 B2 p2 a2 c2 : Nat} {x y : Wt} (h : Two w wr B1 p1 a1 c1 B2 p2 a2 c2 x y) (n : Nat) : Two w (wr.drewN n) B1 p1 a1 c1 B2 p2 a2 c2 x y := ⟨h.one.drewN n, h.two.drewN n, h.ok, below_drewN h.b n⟩
theorem OkL.pair {x y : Wt} (h : OkL [x, y]) (t : Int) (ht : t ≤ 9223372036854775807) : OkL [noteW x t, y] := by
  have := OkL.note h ((0 : Nat) : Int) t ht
  rwa [note2] at this

set_option maxRecDepth 100000 in
set_option maxHeartbeats 8000000 in
theorem walk (a0 : Option Addr) (len0 cap0 : Nat) (X0 : Nat → Act) (a1 : Int) (w : World) (w0 : IsActs w a0 len0 X0) (_w1 : (Lit.int .i64 a1).wf = true) :
    Calls Try.prog 5 #[.slice a0 len0 cap0, .int .i64 a1] w fun e w' => e = .returned (.bool true) ∧ Below w.heap.size w w' := by
  by_cases h60 : 60 < len0
  · go_enter Try.func5, Try.ntmps5
    go_wp2
    go_ret
    exact ⟨rfl, Below.refl _ _⟩
  by_cases h1 : a1 < 1
  · go_enter Try.func5, Try.ntmps5
    go_wp2
    go_ret
    exact ⟨rfl, Below.refl _ _⟩
  by_cases h2 : 10000 < a1
  · go_enter Try.func5, Try.ntmps5
    go_wp2
    go_ret
    exact ⟨rfl, Below.refl _ _⟩
  have ho : odd a1 = false := by simp [odd, h1, h2]
  have HO := Lib.hid ho
  have HW := Lib.hid w0
  clear ho w0
  go_enter Try.func5, Try.ntmps5
  go_wp2_with fail
  refine (new_two a1 _ (newNums2 a1) HO.out).mono ?_
  rintro e w1 ⟨b1, c1, rfl, h1, k1⟩
  rw [World.size_alloc] at h1 ⊢
  have k1 : Below w.heap.size w w1 := ((Below.refl _ _).alloc (Nat.le_refl _) _).trans (k1.mono (by simp))
  obtain ⟨p1, hp1⟩ : ∃ p1, w.heap.size + 1 = p1 := ⟨_, rfl⟩
  have hwp1 : w.heap.size < p1 := by omega
  rw [hp1] at h1 ⊢
  clear hp1
  have hl1 := h1.lt
  go_wp2_with fail
  refine (new_one a1 _ (Below.newNums a1) HO.out).mono ?_
  rintro e w2 ⟨b2, c2, rfl, h2, k2⟩
  rw [World.size_alloc] at h2 ⊢
  have k2' : Below w1.heap.size w1 w2 := ((Below.refl _ _).alloc (Nat.le_refl _) _).trans (k2.mono (by simp))
  have h1' : PolAt w2 (p1 + 1) p1 b1 c1 [mkW a1, mkW a1] := h1.keep (only_of_below k2' none) (by simp) (by simp)
  have k2 : Below w.heap.size w w2 := k1.trans (k2'.mono k1.size)
  obtain ⟨p2, hp2⟩ : ∃ p2, w1.heap.size + 1 = p2 := ⟨_, rfl⟩
  have hwp2 : p1 < p2 ∧ b1 < p2 := by omega
  rw [hp2] at h2 ⊢
  clear hp2
  have hl2 := h2.lt
  have hT : Two w w2 (p1 + 1) p1 b1 c1 (p2 + 1) p2 b2 c2 (mkW a1) (mkW a1) := ⟨h1', h2, by intro z hz; simp at hz; subst hz; simp [mkW], k2⟩
  have hsz : p1 < w2.heap.size ∧ p2 < w2.heap.size := ⟨h1'.pol.hd.lt, h2.pol.hd.lt⟩
  clear h1 h1' h2 k1 k2 k2'
  go_wp2_with fail
  go_loopw [7] (fun z wr => ∃ (k : Nat) (x y : Wt), k ≤ len0 ∧ z = .int .i64 k ∧ Two w wr (p1 + 1) p1 b1 c1 (p2 + 1) p2 b2 c2 x y) (fun z _ => len0 - (intOf z).toNat)
  case atStart => exact ⟨0, _, _, Nat.zero_le _, rfl, hT⟩
  case round =>
    obtain ⟨k, x, y, hk, rfl, hb⟩ := hrel
    clear hT
    by_cases hlt : k < len0
    · rcases HW.out with h0 | ⟨b, off, rfl, hbl, hcell⟩
      · omega
      obtain ⟨⟨d0, d1, d2⟩, t0, t1⟩ := hcell k hlt
      obtain ⟨tk, ti, nt, hX⟩ : ∃ tk ti nt, X0 k = ⟨tk, ti, nt⟩ := ⟨_, _, _, rfl⟩
      rw [hX] at d0 d1 d2 t0 t1
      have q0 : wr.cell? ⟨b, off + k * 3, none⟩ = some (.int .i64 tk) := (hb.b.cell (p := ⟨b, off + k * 3, none⟩) hbl).trans d0
      have q1 : wr.cell? ⟨b, off + k * 3 + 1, none⟩ = some (.int .i64 ti) := (hb.b.cell (p := ⟨b, off + (k * 3 + 1), none⟩) hbl).trans d1
      have q2 : wr.cell? ⟨b, off + k * 3 + 2, none⟩ = some (.bool nt) := (hb.b.cell (p := ⟨b, off + (k * 3 + 2), none⟩) hbl).trans d2
      clear d0 d1 d2 hcell hX
      have A0 := Blk.new wr 29 #[.int .i64 tk, .int .i64 ti, .bool nt]
      have g0 : wr.grownBy (wr.alloc (.cells #[.int .i64 tk, .int .i64 ti, .bool nt] 29)) none := only_alloc (World.grownBy.refl wr none) _
      have A1 := hb.one.keep g0 (by simp) (by simp)
      have A2 := hb.two.keep g0 (by simp) (by simp)
      have A3 := below_only hb.b (Nat.le_refl _) g0 (fun k e => by cases e)
      have hga : p1 < wr.heap.size ∧ p2 < wr.heap.size ∧ b1 < wr.heap.size ∧ b2 < wr.heap.size := ⟨hb.one.lt.2.1, hb.two.lt.2.1, hb.one.lt.1, hb.two.lt.1⟩
      by_cases htk : tk = 0
      · subst htk
        have hd := hl1
        cases nt with
        | true =>
          go_wp2_with fail
          obtain ⟨wa, hwa⟩ : ∃ wa, wr.alloc (.cells #[.int .i64 0, .int .i64 ti, .bool true] 29) = wa := ⟨_, rfl⟩
          obtain ⟨ga, hgae⟩ : ∃ ga, wr.heap.size = ga := ⟨_, rfl⟩
          have T : Two w wa (p1 + 1) p1 b1 c1 (p2 + 1) p2 b2 c2 x y := by rw [← hwa]; exact ⟨A1, A2, hb.ok, A3⟩
          have D0 : Blk wa ga 29 #[.int .i64 0, .int .i64 ti, .bool true] := by rw [← hwa, ← hgae]; exact A0
          have r1 : wa.cell? ⟨ga, 1, none⟩ = some (.int .i64 ti) := D0.cell 1
          have r2 : wa.cell? ⟨ga, 2, none⟩ = some (.bool true) := D0.cell 2
          rw [hgae] at hga
          rw [hwa, hgae]
          clear hwa hgae A0 A1 A2 A3 hb g0 q0 q1 q2
          go_region_held3 (fun w' => w'.cell? ⟨ga, 1, none⟩ = some (.int .i64 ti) ∧ w'.cell? ⟨ga, 2, none⟩ = some (.bool true)) (go_keep) (first
            | (go_at_call_of 8 p1
               refine (early_yes (base := p1 + 1) (p := p1) (a := b1) (cap := c1) (L := [x, y]) 0 ti (by simp) T.ok t0 t1 _ T.drew.one).mono ?_
               rintro e w3 ⟨rfl, m3, hw3⟩
               rw [early2]
               have T3 : Two w w3 (p1 + 1) p1 b1 c1 (p2 + 1) p2 b2 c2 x y := by rw [← hw3]; exact T.drew.drewN m3
               have D3 : Blk w3 ga 29 #[.int .i64 0, .int .i64 ti, .bool true] := by rw [← hw3]; exact (D0.drew).drewN m3
               have r31 : w3.cell? ⟨ga, 1, none⟩ = some (.int .i64 ti) := D3.cell 1
               have r32 : w3.cell? ⟨ga, 2, none⟩ = some (.bool true) := D3.cell 2
               clear hw3)
            | (go_at_call_of 8 p2
               refine (early_yes (base := p2 + 1) (p := p2) (a := b2) (cap := c2) (L := [x]) 0 ti (by simp) T3.ok1 t0 t1 _ T3.two).mono ?_
               rintro e w4 ⟨rfl, m4, hw4⟩
               rw [early1]
               have T4 : Two w w4 (p1 + 1) p1 b1 c1 (p2 + 1) p2 b2 c2 x y := by rw [← hw4]; exact T3.drewN m4
               have D4 : Blk w4 ga 29 #[.int .i64 0, .int .i64 ti, .bool true] := by rw [← hw4]; exact D3.drewN m4
               have r41 : w4.cell? ⟨ga, 1, none⟩ = some (.int .i64 ti) := D4.cell 1
               have r42 : w4.cell? ⟨ga, 2, none⟩ = some (.bool true) := D4.cell 2
               clear hw4)
            | (go_at_call_of 10 p1
               refine (note_yes (base := p1 + 1) (p := p1) (a := b1) (cap := c1) (L := [x, y]) 0 ti (by simp) T4.ok t0 t1 _ T4.one).mono ?_
               rintro e w5 ⟨rfl, h5, g5⟩
               rw [ok2]
               rw [note2] at h5
               have D5 : Blk w5 ga 29 #[.int .i64 0, .int .i64 ti, .bool true] := D4.grown g5 (by simp; omega)
               have r51 : w5.cell? ⟨ga, 1, none⟩ = some (.int .i64 ti) := D5.cell 1
               have r52 : w5.cell? ⟨ga, 2, none⟩ = some (.bool true) := D5.cell 2
               have o5 := T4.two.keep g5 (by simp; omega) (by simp; omega)
               have e5 := below_only T4.b (Nat.le_refl _) g5 (fun k e => by injection e with e; omega))
            | (go_at_call_of 10 p2
               refine (note_yes (base := p2 + 1) (p := p2) (a := b2) (cap := c2) (L := [x]) 0 ti (by simp) T4.ok1 t0 t1 _ o5).mono ?_
               rintro e w6 ⟨rfl, h6, g6⟩
               rw [ok1]
               rw [note1] at h6
               have D6 : Blk w6 ga 29 #[.int .i64 0, .int .i64 ti, .bool true] := D5.grown g6 (by simp; omega)
               have r61 : w6.cell? ⟨ga, 1, none⟩ = some (.int .i64 ti) := D6.cell 1
               have r62 : w6.cell? ⟨ga, 2, none⟩ = some (.bool true) := D6.cell 2
               have T6 : Two w w6 (p1 + 1) p1 b1 c1 (p2 + 1) p2 b2 c2 (noteW x ti) y := ⟨h5.keep g6 (by simp; omega) (by simp; omega), h6, OkL.pair T4.ok ti t1, below_only e5 (Nat.le_refl _) g6 (fun k e => by injection e with e; omega)⟩))
          clear T T3 T4 D0 D3 D4 D5 D6 r31 r32 r41 r42 r51 r52 r61 r62 h5 g5 o5 e5 h6 g6
          go_wp2_with fail
          go_roundw
          case rel => exact ⟨k + 1, _, _, by omega, by go_num, T6⟩
          case measure => simp [intOf]; omega
        | false =>
          go_wp2_with fail
          obtain ⟨wa, hwa⟩ : ∃ wa, wr.alloc (.cells #[.int .i64 0, .int .i64 ti, .bool false] 29) = wa := ⟨_, rfl⟩
          obtain ⟨ga, hgae⟩ : ∃ ga, wr.heap.size = ga := ⟨_, rfl⟩
          have T : Two w wa (p1 + 1) p1 b1 c1 (p2 + 1) p2 b2 c2 x y := by rw [← hwa]; exact ⟨A1, A2, hb.ok, A3⟩
          have D0 : Blk wa ga 29 #[.int .i64 0, .int .i64 ti, .bool false] := by rw [← hwa, ← hgae]; exact A0
          have r1 : wa.cell? ⟨ga, 1, none⟩ = some (.int .i64 ti) := D0.cell 1
          have r2 : wa.cell? ⟨ga, 2, none⟩ = some (.bool false) := D0.cell 2
          rw [hgae] at hga
          rw [hwa, hgae]
          clear hwa hgae A0 A1 A2 A3 hb g0 q0 q1 q2
          have E1 : ∀ n, Calls Try.prog 8 #[.pointer (some ⟨p1, 0, none⟩), .int .i64 0, .int .i64 ti] (wa.drewN n) fun e w' => e = .returned (.bool (early x ti)) ∧ ∃ m, w' = (wa.drewN n).drewN m := by
            intro n
            refine (early_yes (base := p1 + 1) (p := p1) (a := b1) (cap := c1) (L := [x, y]) 0 ti (by simp) T.ok t0 t1 _ (T.one.drewN n)).mono ?_
            rintro e w' ⟨rfl, m, hm⟩
            exact ⟨by rw [early2], m, hm.symm⟩
          have E2 : ∀ n, Calls Try.prog 8 #[.pointer (some ⟨p2, 0, none⟩), .int .i64 0, .int .i64 ti] (wa.drewN n) fun e w' => e = .returned (.bool (early x ti)) ∧ ∃ m, w' = (wa.drewN n).drewN m := by
            intro n
            refine (early_yes (base := p2 + 1) (p := p2) (a := b2) (cap := c2) (L := [x]) 0 ti (by simp) T.ok1 t0 t1 _ (T.two.drewN n)).mono ?_
            rintro e w' ⟨rfl, m, hm⟩
            exact ⟨by rw [early1], m, hm.symm⟩
          have HE1 := hide E1
          have HE2 := hide E2
          clear E1 E2
          go_quiet (first | (go_at_call_of 8 p1; exact Calls.quiet_of (HE1.out _)) | (go_at_call_of 8 p2; exact Calls.quiet_of (HE2.out _)))
          obtain ⟨w4, hw4⟩ : ∃ w4, wa.drewN nq = w4 := ⟨_, rfl⟩
          have T4 : Two w w4 (p1 + 1) p1 b1 c1 (p2 + 1) p2 b2 c2 x y := by rw [← hw4]; exact T.drewN nq
          rw [hw4]
          clear hw4 T D0 r1 r2 HE1 HE2
          go_wp2_with fail
          go_roundw
          case rel => exact ⟨k + 1, _, _, by omega, by go_num, T4⟩
          case measure => simp [intOf]; omega
      · go_wp2_with fail
        obtain ⟨wa, hwa⟩ : ∃ wa, wr.alloc (.cells #[.int .i64 tk, .int .i64 ti, .bool nt] 29) = wa := ⟨_, rfl⟩
        obtain ⟨ga, hgae⟩ : ∃ ga, wr.heap.size = ga := ⟨_, rfl⟩
        have T : Two w wa (p1 + 1) p1 b1 c1 (p2 + 1) p2 b2 c2 x y := by rw [← hwa]; exact ⟨A1, A2, hb.ok, A3⟩
        have D0 : Blk wa ga 29 #[.int .i64 tk, .int .i64 ti, .bool nt] := by rw [← hwa, ← hgae]; exact A0
        have r1 : wa.cell? ⟨ga, 1, none⟩ = some (.int .i64 ti) := D0.cell 1
        have r2 : wa.cell? ⟨ga, 2, none⟩ = some (.bool nt) := D0.cell 2
        rw [hgae] at hga
        rw [hwa, hgae]
        clear hwa hgae A0 A1 A2 A3 hb g0 q0 q1 q2
        refine (note_yes (base := p1 + 1) (p := p1) (a := b1) (cap := c1) (L := [x, y]) 1 ti (by simp) T.ok t0 t1 _ T.one).mono ?_
        rintro e w5 ⟨rfl, h5, g5⟩
        obtain ⟨y', hy'⟩ := other2 x y ti
        have hok := OkL.note T.ok ((1 : Nat) : Int) ti t1
        rw [hy'] at h5 hok
        have T5 : Two w w5 (p1 + 1) p1 b1 c1 (p2 + 1) p2 b2 c2 x y' := ⟨h5, T.two.keep g5 (by simp; omega) (by simp; omega), hok, below_only T.b (Nat.le_refl _) g5 (fun k e => by injection e with e; omega)⟩
        clear T D0 r1 r2 h5 g5 hy' hok
        go_wp2_with fail
        go_roundw
        case rel => exact ⟨k + 1, _, _, by omega, by go_num, T5⟩
        case measure => simp [intOf]; omega
    · go_wp2_with fail
      refine (known_any wr).mono ?_
      rintro e w4 ⟨rfl, b4⟩
      go_wp2
      go_ret
      exact ⟨rfl, hb.b.trans (b4.mono hb.b.size)⟩

/-! ### The row's step -/
set_option linter.unusedVariables false in
set_option maxRecDepth 100000 in
theorem lifted (os : Os) (started : os.Started) (H : Type) (enc : TypeId × Value → H) :
    ReturnsInHanded {} Try.checked os 5 .any (Rows.policeAloneSpec.pre6 enc Try.prog Try.f5 Rows.policeAloneRow.domain false) (Rows.policeAloneSpec.post enc Try.prog Try.f5 false true false false) := by
  refine returnsInHanded_of_change (C := Try.checked) own started (by kernel_rfl) Try.func5
    (ChangeSpec.witness6 (enc := enc) (C := Try.checked) false ⟨#[], #[.slice none 0 0, .int .i64 0], []⟩ 8 (by kernel_rfl) (by kernel_rfl) (by kernel_rfl) (by kernel_rfl)) ?_
  intro W base args ds gs before hval0 hW hcnd _
  have hval : ∀ (j : Nat) t v, Try.f5.params[j]? = some t → args[j]? = some v → Value.okWide Try.prog W .any base t v := hval0
  have hW' := hW
  obtain ⟨p, q, hA0, hV, rfl, hfz, hnd⟩ := hW
  have hA : DataW.TrodAll enc Try.prog W 0 (fun _ => true) true Try.f5.params.toList args.toList ds p := hA0
  rw [Try.params5] at hA hval
  obtain ⟨v0, vs0, d0, ds0, p0, q0, hargs, rfl, rfl, h0, r0⟩ := trodAll_cons hA
  obtain ⟨v1, vs1, d1, ds1, p1, q1, rfl, rfl, rfl, h1, r1⟩ := trodAll_cons r0
  obtain ⟨rfl, rfl, rfl⟩ := trodAll_nil r1
  obtain rfl : args = #[v0, v1] := by cases args; simp_all
  obtain ⟨rfl, rfl⟩ := trodVars_none hV
  have k0 := h0
  have lt0 : ∀ x ∈ p0, x.block < W.heap.size := by obtain ⟨m, hm⟩ := k0; exact DataW.trod_lt m _ _ _ hm
  obtain ⟨a0, len0, cap0, rfl⟩ := okWide_slice Try.underlying23 (hval 0 23 v0 rfl rfl)
  obtain ⟨X0, w0⟩ : ∃ X, IsActs W a0 len0 X := by
    obtain ⟨fuel, hf⟩ := h0
    exact open_acts (by simpa [Value.cells] using hf)
  obtain ⟨a1, rfl, rfl, rfl, w1⟩ := open_int Try.underlying2 (hval 1 2 v1 rfl rfl) h1
  clear hA0 hval0
  refine (walk a0 len0 cap0 X0 a1 W w0 w1).mono fun e W' ⟨he, bel⟩ => ?_
  subst he
  exact ⟨_, rfl, _, _, _, [], _, [], hW', trodAll_mk1 (shut_bool Try.underlying4 _), (trodAll_cons_mk (Below.trod laidOut (by kernel_rfl) (of_decide_eq_true (by kernel_rfl)) k0 bel lt0) (trodAll_cons_mk (shut_int Try.underlying2 w1) trodAll_mk0)), rfl, bel.frame _, fun h => by cases h⟩

theorem over : Rows.policeAloneRow.holds Try.pinned (OpenSpec.ofChange Rows.policeAloneSpec) :=
  OpenClaim.holds_of_wide 5 Try.f5 rfl rfl rfl rfl rfl rfl rfl ⟨rfl, rfl, rfl, rfl, rfl⟩ rfl rfl rfl rfl rfl (by kernel_rfl) Try.func5 (by kernel_rfl)
    (of_decide_eq_true (by kernel_rfl)) (by unfold Func.isWrapper; first | (rw [if_pos (by decide +kernel)]; kernel_rfl) | (rw [if_neg (by decide +kernel)]; exact ⟨rfl, rfl⟩))
    (fun os started H enc _ => lifted os started H enc)

/-- The statement. -/
theorem proved : Rows.PoliceAloneSaid := over
end Go.Proofs.Ytggoflcphalnpaa.policeAlone
