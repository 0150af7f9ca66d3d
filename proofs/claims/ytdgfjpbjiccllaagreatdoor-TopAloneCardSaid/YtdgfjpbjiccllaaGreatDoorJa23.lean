/- Joined texts: Par3, Par4, Par5. -/
import Derived.Test.YtdgfjpbjiccllaaGreatDoorJa22
/- The parser where the text is well: sets. -/
namespace Go.Proofs.YtdgfjpbjiccllaaGreatDoor.X
open Go.RowKit
open Go.Proofs.YtdgfjpbjiccllaaGreatDoorW.PrintWords Go.Proofs.YtdgfjpbjiccllaaGreatDoorW.PrintLast Go.Proofs.YtdgfjpbjiccllaaGreatDoorW.PrintMore
open Go.Proofs.YtdgfjpbjiccllaaGreatDoor.PTopLoads (bits_Of.f bits_Of.l0 bits_Of.calls bits_is.f)
set_option maxRecDepth 100000
def setOne (n : Int) : Int := Go.bits .or .u64 0 (shl .u64 1 n)
theorem bits_of_one (n : Int) (h0 : 0 ≤ n) (h1 : n < 64) : bits_Of.f 2 [n] = some (setOne n) := by
  unfold bits_Of.f bits_Of.l0
  have e1 : rd [n] 0 = n := rfl
  rw [if_pos (by simp), if_pos (by omega), if_pos (by simp), e1]
  have e2 : bits_is.f n = some true := by
    unfold bits_is.f
    rw [if_pos h0]
    simp [h1]
  rw [e2]
  simp only [Option.bind_some, if_pos, h0]
  unfold bits_Of.l0
  rw [if_neg (by simp [wrap64])]
  rfl
theorem of_one {w : World} {a : Nat} (n : Int) (h0 : 0 ≤ n) (h1 : n < 64) (hc : w.cell? ⟨a, 0, none⟩ = some (.int .i64 n)) : Calls Tryz.prog 123 #[.slice (some ⟨a, 0, none⟩) 1 1] w fun e w' => e = .returned (.int .u64 (setOne n)) ∧ Drawn0 w w' := by
  refine bits_Of.calls 2 (some ⟨a, 0, none⟩) 1 [n] (setOne n) w ⟨rfl, by simp, fun _ => ⟨_, rfl, fun j p hp => ⟨[.int .i64 p], rfl, rfl, fun i u hu => ?_⟩⟩⟩ (Nat.le_refl _) (bits_of_one n h0 h1)
  obtain ⟨hj, rfl⟩ := List.getElem?_eq_some_iff.1 hp
  obtain rfl : j = 0 := by simp at hj; omega
  match i, hu with
  | 0, hu =>
    simp at hu
    subst hu
    rw [add_none]
    exact hc
theorem cell_new1 (w : World) (o : Obj) (u : Value) (t : TypeId) : ((w.alloc o).alloc (.cells #[u] t)).cell? ⟨w.heap.size + 1, 0, none⟩ = some u := by
  have h := (Blk.new (w.alloc o) t #[u]).cell 0
  have e : (w.alloc o).heap.size = w.heap.size + 1 := by simp
  rw [e] at h
  exact h
def orAll (l : List T4) : Int := l.foldl (fun a y => Go.bits .or .u64 a (setOne y.n)) 0
theorem orAll_snoc (l : List T4) (x : T4) : orAll (l ++ [x]) = Go.bits .or .u64 (orAll l) (setOne x.n) := by simp [orAll]
def lastN (l : List T4) : Nat → Int
  | 0 => -1
  | k + 1 => (l.getD k ⟨0, ⟨#[]⟩, 0, 0⟩).n
/-- Numbers that rise. -/
def Inc (l : List T4) : Prop := ∀ k x, l[k]? = some x → x.k = 2 ∧ lastN l k < x.n ∧ x.n < 64 ∧ 0 ≤ x.n
theorem lastN_lo {l : List T4} (h : Inc l) : ∀ k, k ≤ l.length → -1 ≤ lastN l k ∧ lastN l k < 64
  | 0, _ => by simp [lastN]
  | k + 1, hk => by
    have hx := h k l[k] (List.getElem?_eq_getElem hk)
    have e : lastN l (k + 1) = l[k].n := by simp [lastN, List.getD_eq_getElem?_getD, List.getElem?_eq_getElem hk]
    rw [e]
    omega
section
variable {w w' : World} {pp tb : Nat} {v : Value} {L : List T4} {x y z : T4}
theorem sets_no (h : PAt w pp tb v (z :: L)) (s : ByteArray) (hk : isTok z s = false) : Calls Tryz.prog 100 #[.pointer (some ⟨pp, 0, none⟩), .string s] w fun e w' => e = .returned (.int .u64 0) ∧ Below w.heap.size w w' := by
  have HI := Lib.hid (takes_no h s hk)
  clear h hk
  go_enter Tryz.func100, Tryz.ntmps100
  go_wp2_with (go_at_call 97; refine (HI.out).mono ?_; rintro e w2 ⟨rfl, hb⟩; have HB := Lib.hid hb; clear hb)
  go_ret
  exact ⟨rfl, HB.out⟩
set_option maxHeartbeats 4000000 in
theorem sets_yes {ys : List T4} (h : PAt w pp tb v (x :: (ys ++ z :: L))) (s : ByteArray) (hk : isTok x s = true) (h0 : ys ≠ []) (hys : Inc ys) (hz : z.k ≠ 2) :
    Calls Tryz.prog 100 #[.pointer (some ⟨pp, 0, none⟩), .string s] w fun e w' => e = .returned (.int .u64 (orAll ys)) ∧ (∃ v', PAt w' pp tb v' (z :: L)) ∧ w.grownBy w' (some pp) := by
  have HI := Lib.hid (takes_yes h s hk)
  have HYS := Lib.hid hys
  have hlen : 1 ≤ ys.length := by
    cases ys with
    | nil => exact absurd rfl h0
    | cons a l => simp
  have HZ := Lib.hid hz
  have q0 := field0
  have hpl := h.hd.lt
  have htl := h.tlt
  clear h hk hys h0 hz
  go_enter Tryz.func100, Tryz.ntmps100
  go_wp2_with (go_at_call 97; refine (HI.out).mono ?_; rintro e w2 ⟨rfl, ⟨v2, hP⟩, hg⟩; have HP := Lib.hid hP; have HG := Lib.hid hg; clear hP hg)
  clear HI
  go_loopw [5, 6, 7] (fun z5 z6 z7 wr => ∃ (k : Nat) (v3 : Value), k ≤ ys.length ∧ z5 = .int .u64 (orAll (ys.take k)) ∧ z6 = .int .i64 (lastN ys k) ∧ z7 = .bool (decide (k < ys.length)) ∧ PAt wr pp tb v3 (ys.drop k ++ z :: L) ∧ w.grownBy wr (some pp)) (fun _ z6 _ _ => 64 - (intOf z6 + 1).toNat)
  case atStart =>
    have e : decide (0 < ys.length) = true := by simp; omega
    exact ⟨0, v2, Nat.zero_le _, rfl, rfl, by rw [e], HP.out, HG.out⟩
  case round =>
    obtain ⟨k, v3, hk, rfl, rfl, rfl, hPr, hGr⟩ := hrel
    have hsz := hGr.size
    by_cases hlt : k < ys.length
    · obtain ⟨x, hx⟩ : ∃ x, ys[k]? = some x := ⟨_, List.getElem?_eq_getElem hlt⟩
      obtain ⟨hxk, hx1, hx2, hx3⟩ := HYS.out k x hx
      have hd : ys.drop k = x :: ys.drop (k + 1) := by
        obtain ⟨h1, rfl⟩ := List.getElem?_eq_some_iff.1 hx
        exact List.drop_eq_getElem_cons h1
      have ht : ys.take (k + 1) = ys.take k ++ [x] := by
        obtain ⟨h1, rfl⟩ := List.getElem?_eq_some_iff.1 hx
        rw [List.take_succ_eq_append_getElem h1]
      have hln : lastN ys (k + 1) = x.n := by
        obtain ⟨h1, rfl⟩ := List.getElem?_eq_some_iff.1 hx
        simp [lastN, List.getD_eq_getElem?_getD, List.getElem?_eq_getElem h1]
      have hll := (lastN_lo HYS.out k hk).1
      rw [hd, List.cons_append] at hPr
      have hde : decide (k < ys.length) = true := by simpa using hlt
      -- the head of what is left behind x
      obtain ⟨nx, M, hM⟩ : ∃ nx M, ys.drop (k + 1) ++ z :: L = nx :: M := by
        cases hq : ys.drop (k + 1) with
        | nil => exact ⟨z, L, rfl⟩
        | cons a l => exact ⟨a, l ++ z :: L, rfl⟩
      have hnx : (nx.k == 2) = decide (k + 1 < ys.length) := by
        by_cases h1 : k + 1 < ys.length
        · rw [List.drop_eq_getElem_cons h1, List.cons_append] at hM
          injection hM with hM _
          have h2 := (HYS.out (k + 1) ys[k + 1] (List.getElem?_eq_getElem h1)).1
          rw [hM] at h2
          simp [h1, h2]
        · rw [List.drop_eq_nil_of_le (by omega), List.nil_append] at hM
          injection hM with hM _
          have h2 := HZ.out
          rw [hM] at h2
          simp [h1, h2]
      have hPM := hPr
      rw [hM] at hPM
      have HKD := Lib.hid (kind_yes hPM (by omega) 2 hxk)
      have HM := Lib.hid hM
      have HT := Lib.hid ht
      have HLN := Lib.hid hln
      have HGR := Lib.hid hGr
      have HX1 := Lib.hid hx1
      have HSZ := Lib.hid hsz
      have HNX := Lib.hid hnx
      obtain ⟨ln, hln0⟩ : ∃ ln, lastN ys k = ln := ⟨_, rfl⟩
      rw [hln0] at hx1 hll HX1 ⊢
      have g1 : ¬ (64 : Int) ≤ x.n := by omega
      have g2 : ¬ x.n ≤ ln := by omega
      have g3 : decide ((64 : Int) ≤ x.n) = false := by simp; omega
      have g4 : decide (x.n ≤ ln) = false := by simp; omega
      rw [hde]
      clear hPr hPM hGr hd ht hx hxk hsz hM hnx hln hde hln0
      unfold T4.v at HKD
      go_wp2_with (first | (go_at_call 96; refine (HKD.out).mono ?_; rintro e w3 ⟨rfl, ⟨v4, hP⟩, hg⟩; have HP4 := Lib.hid hP; have HG4 := Lib.hid (HGR.out.trans hg); clear hP hg) | (go_at_call 123; go_loud (refine (of_one x.n hx3 hx2 (cell_new1 _ _ _ _)).mono ?_; rintro e w4 ⟨rfl, hdr⟩; have hP5 := HP4.out.below ((((Below.refl w3.heap.size w3).alloc (Nat.le_refl _) _).alloc (by simp) _).trans (hdr.below.mono (by simp <;> omega))); have HP5 := Lib.hid hP5; have hG5 := (only_alloc (only_alloc HG4.out _) _).trans (grown_of_below hdr.below); have HG5 := Lib.hid hG5; have HNE := Lib.hid (next_any hP5); unfold T4.v at HNE; clear hP5 hG5 hdr)) | (go_at_call 57; refine (HNE.out).mono ?_; rintro e w5 ⟨rfl, hb⟩; have HB5 := Lib.hid hb; clear hb))
      go_roundw
      case rel =>
        refine ⟨k + 1, v4, by omega, ?_, by rw [HLN.out], ?_, ?_, HG5.out.trans (grown_of_below HB5.out)⟩
        · rw [HT.out, orAll_snoc]
        · rw [HNX.out]
        · rw [HM.out]
          exact HP5.out.below HB5.out
      case measure =>
        show 64 - (intOf (.int .i64 x.n) + 1).toNat < 64 - (intOf (.int .i64 ln) + 1).toNat
        simp only [intOf]
        omega
    · have e : k = ys.length := by omega
      subst e
      rw [List.drop_length, List.nil_append] at hPr
      rw [List.take_length]
      have hde : decide (ys.length < ys.length) = false := by simp
      rw [hde]
      have HPR := Lib.hid hPr
      have HGR := Lib.hid hGr
      clear hPr hGr hsz hde
      go_wp2
      go_ret
      exact ⟨rfl, ⟨v3, HPR.out⟩, HGR.out⟩
end
end Go.Proofs.YtdgfjpbjiccllaaGreatDoor.X
/- The parser where the text is well: mode. -/
namespace Go.Proofs.YtdgfjpbjiccllaaGreatDoor.X
open Go.RowKit
open Go.Proofs.YtdgfjpbjiccllaaGreatDoorW.PrintWords Go.Proofs.YtdgfjpbjiccllaaGreatDoorW.PrintLast Go.Proofs.YtdgfjpbjiccllaaGreatDoorW.PrintMore
set_option maxRecDepth 100000
/-- Of the old blocks only two have turned. -/
structure Gr2 (w w' : World) (a b : Nat) : Prop where
  os : w'.os = w.os
  tape : w'.tape = w.tape
  output : w'.output = w.output
  size : w.heap.size ≤ w'.heap.size
  block : ∀ i, i < w.heap.size → i ≠ a → i ≠ b → w'.heap[i]? = w.heap[i]?
section
variable {w w' w2 : World} {pp tb tk : Nat} {v : Value} {L : List T4} {x y z : T4}
theorem Gr2.of (h : w.grownBy w' (some pp)) : Gr2 w w' pp tk := ⟨h.os, h.tape, h.output, h.size, fun i hi h1 _ => h.block i hi (fun e => h1 (by injection e))⟩
theorem Gr2.set_ (h : Gr2 w w' pp tk) (i : Nat) (u : Value) : Gr2 w (w'.setCell ⟨tk, i, none⟩ u) pp tk :=
  ⟨h.os, h.tape, h.output, by simpa [World.setCell] using h.size, fun j hj h1 h2 => (Below.heap_setCell w' ⟨tk, i, none⟩ u j h2).trans (h.block j hj h1 h2)⟩
theorem Gr2.only (h0 : w.grownBy w' (some pp)) (h : Gr2 w' w2 pp tk) (hk : w.heap.size ≤ tk) : w.grownBy w2 (some pp) :=
  ⟨h.os.trans h0.os, h.tape.trans h0.tape, h.output.trans h0.output, Nat.le_trans h0.size h.size, fun i hi hne => (h.block i (Nat.lt_of_lt_of_le hi h0.size) (fun e => hne (by rw [e])) (by omega)).trans (h0.block i hi hne)⟩
def sFixed : ByteArray := ⟨#[102, 105, 120, 101, 100]⟩
def sFloat : ByteArray := ⟨#[102, 108, 111, 97, 116]⟩
def sThresh : ByteArray := ⟨#[116, 104, 114, 101, 115, 104]⟩
/-- A mode's tokens. -/
inductive ModeP : List T4 → Int → Int → Int → Prop
  | fixed (x : T4) (h : isTok x sFixed = true) : ModeP [x] 0 0 0
  | float (x y : T4) (h0 : isTok x sFixed = false) (h : isTok x sFloat = true) (hy : y.k = 2) : ModeP [x, y] 1 y.n 0
  | thresh (x y : T4) (h0 : isTok x sFixed = false) (h1 : isTok x sFloat = false) (h : isTok x sThresh = true) (hy : y.k = 2) : ModeP [x, y] 2 0 y.n
set_option maxHeartbeats 2000000 in
theorem mode_yes {ts : List T4} {m q th : Int} (hm : ModeP ts m q th) (h : PAt w pp tb v (ts ++ L)) {nm cT cD r e u : Value} (hB : Blk w tk 46 #[nm, cT, cD, .int .i64 0, .int .i64 0, .int .i64 0, r, e, u]) (h1 : tk ≠ pp) (h2 : tk ≠ tb) :
    Calls Tryz.prog 98 #[.pointer (some ⟨pp, 0, none⟩), .pointer (some ⟨tk, 0, none⟩)] w fun e' w' => e' = .returned (.tuple #[]) ∧ (∃ v', PAt w' pp tb v' L) ∧ Blk w' tk 46 #[nm, cT, cD, .int .i64 m, .int .i64 q, .int .i64 th, r, e, u] ∧ Gr2 w w' pp tk := by
  have HB := Lib.hid hB
  cases hm with
  | fixed x hx =>
    have HI := Lib.hid (takes_yes h sFixed hx)
    clear h hB hx
    unfold sFixed at HI
    go_enter Tryz.func98, Tryz.ntmps98
    go_wp2_with (go_at_call 97; refine (HI.out).mono ?_; rintro e w2 ⟨rfl, ⟨v2, hP⟩, hg⟩; have HP := Lib.hid hP; have HG := Lib.hid hg; have D := HB.out.grown hg (by intro e; injection e with e; exact h1 e); have g3 := D.cell 3; have f3 := D.frozen 3; clear hP hg)
    go_end0
    exact ⟨rfl, ⟨v2, HP.out.far h1 h2 _⟩, D.set_ 3 _, (Gr2.of HG.out).set_ 3 _⟩
  | float x y hx0 hx hy =>
    have HI0 := Lib.hid (takes_no h sFixed hx0)
    have HH := Lib.hid h
    have HX := Lib.hid hx
    clear h hB hx0 hx
    unfold sFixed at HI0
    go_enter Tryz.func98, Tryz.ntmps98
    go_wp2_with (first | (go_at_call 97; refine (HI0.out).mono ?_; rintro e w2 ⟨rfl, hb⟩; have HB2 := Lib.hid hb; have hI := is_any (HH.out.below hb) sFloat; rw [HX.out] at hI; have HI := Lib.hid hI; unfold sFloat at HI; clear hb hI) | (go_at_call 133; refine (HI.out).mono ?_; rintro e w3 ⟨rfl, hb⟩; have HB3 := Lib.hid hb; have HA := Lib.hid (after_yes ((HH.out.below HB2.out).below hb) sFloat HX.out hy); unfold sFloat at HA; clear hb) | (go_at_call 55; refine (HA.out).mono ?_; rintro e w4 ⟨rfl, ⟨v4, hP⟩, hg⟩; have HP := Lib.hid hP; have hg := ((grown_of_below HB2.out).trans (grown_of_below HB3.out)).trans hg; have HG := Lib.hid hg; have D := HB.out.grown hg (by intro e; injection e with e; exact h1 e); have g3 := D.cell 3; have f3 := D.frozen 3; have g4 := D.cell 4; have f4 := D.frozen 4; clear hP hg))
    go_end0
    exact ⟨rfl, ⟨v4, (HP.out.far h1 h2 _).far h1 h2 _⟩, (D.set_ 3 _).set_ 4 _, ((Gr2.of HG.out).set_ 3 _).set_ 4 _⟩
  | thresh x y hx0 hx1 hx hy =>
    have HI0 := Lib.hid (takes_no h sFixed hx0)
    have HH := Lib.hid h
    have HX1 := Lib.hid hx1
    have HX := Lib.hid hx
    clear h hB hx0 hx hx1
    unfold sFixed at HI0
    go_enter Tryz.func98, Tryz.ntmps98
    go_wp2_with (first | (go_at_call 97; refine (HI0.out).mono ?_; rintro e w2 ⟨rfl, hb⟩; have HB2 := Lib.hid hb; have hI := is_any (HH.out.below hb) sFloat; rw [HX1.out] at hI; have HI := Lib.hid hI; unfold sFloat at HI; clear hb hI) | (go_at_call 133; refine (HI.out).mono ?_; rintro e w3 ⟨rfl, hb⟩; have HB3 := Lib.hid hb; have hI := is_any ((HH.out.below HB2.out).below hb) sThresh; rw [HX.out] at hI; have HI2 := Lib.hid hI; unfold sThresh at HI2; clear hb hI HI) | (go_at_call 133; refine (HI2.out).mono ?_; rintro e w4 ⟨rfl, hb⟩; have HB4 := Lib.hid hb; have HA := Lib.hid (after_yes (((HH.out.below HB2.out).below HB3.out).below hb) sThresh HX.out hy); unfold sThresh at HA; clear hb) | (go_at_call 55; refine (HA.out).mono ?_; rintro e w5 ⟨rfl, ⟨v4, hP⟩, hg⟩; have HP := Lib.hid hP; have hg := (((grown_of_below HB2.out).trans (grown_of_below HB3.out)).trans (grown_of_below HB4.out)).trans hg; have HG := Lib.hid hg; have D := HB.out.grown hg (by intro e; injection e with e; exact h1 e); have g3 := D.cell 3; have f3 := D.frozen 3; have g5 := D.cell 5; have f5 := D.frozen 5; clear hP hg))
    go_end0
    exact ⟨rfl, ⟨v4, (HP.out.far h1 h2 _).far h1 h2 _⟩, (D.set_ 3 _).set_ 5 _, ((Gr2.of HG.out).set_ 3 _).set_ 5 _⟩
end
end Go.Proofs.YtdgfjpbjiccllaaGreatDoor.X
/- The parser where the text is well: task. -/
namespace Go.Proofs.YtdgfjpbjiccllaaGreatDoor.X
open Go.RowKit
open Go.Proofs.YtdgfjpbjiccllaaGreatDoorW.PrintWords Go.Proofs.YtdgfjpbjiccllaaGreatDoorW.PrintLast Go.Proofs.YtdgfjpbjiccllaaGreatDoorW.PrintMore
open Go.Proofs.YtdgfjpbjiccllaaGreatDoor.PTopLoads (S46)
set_option maxRecDepth 100000
def sTask : ByteArray := ⟨#[116, 97, 115, 107]⟩
def sPeriod : ByteArray := ⟨#[112, 101, 114, 105, 111, 100]⟩
def sDeadline : ByteArray := ⟨#[100, 101, 97, 100, 108, 105, 110, 101]⟩
def sRegions : ByteArray := ⟨#[114, 101, 103, 105, 111, 110, 115]⟩
def sEcb : ByteArray := ⟨#[101, 99, 98]⟩
def sUcb : ByteArray := ⟨#[117, 99, 98]⟩
def sSemi : ByteArray := ⟨#[59]⟩
def sReload : ByteArray := ⟨#[114, 101, 108, 111, 97, 100]⟩
/-- A word and cache sets behind it, or nothing. -/
inductive SetsP (s : ByteArray) : List T4 → Int → Prop
  | none : SetsP s [] 0
  | some (x : T4) (ys : List T4) (h : isTok x s = true) (h0 : ys ≠ []) (hi : Inc ys) : SetsP s (x :: ys) (orAll ys)
/-- A task's tokens. -/
structure TaskP (ts : List T4) (x : S46) : Prop where
  out : ∃ a n p1 p2 d1 d2 ms g ys es us s m q th e u, ts = a :: n :: p1 :: p2 :: d1 :: d2 :: (ms ++ g :: (ys ++ (es ++ (us ++ [s])))) ∧ isTok a sTask = true ∧ n.k = 1 ∧ isTok p1 sPeriod = true ∧ p2.k = 2 ∧ isTok d1 sDeadline = true ∧ d2.k = 2 ∧
    ModeP ms m q th ∧ isTok g sRegions = true ∧ ys ≠ [] ∧ (∀ y ∈ ys, y.k = 2) ∧ SetsP sEcb es e ∧ SetsP sUcb us u ∧ isTok s sSemi = true ∧ x = ⟨n.s, p2.n, d2.n, m, q, th, ys.map T4.n, e, u⟩
theorem isTok_k {x : T4} {s : ByteArray} (h : isTok x s = true) : x.k = 3 := by simp [isTok] at h; exact h.1
theorem isTok_ne {x : T4} {s t : ByteArray} (h : isTok x s = true) (hn : s.toList ≠ t.toList) : isTok x t = false := by
  simp [isTok] at h ⊢
  intro _ e
  exact hn (h.2.symm.trans e)
theorem heads_u {us : List T4} {u : Int} {s : T4} {L : List T4} (h : SetsP sUcb us u) (hs : isTok s sSemi = true) : ∃ z M, us ++ (s :: L) = z :: M ∧ z.k = 3 ∧ isTok z sEcb = false := by
  cases h with
  | none => exact ⟨s, L, rfl, isTok_k hs, isTok_ne hs (by rw [Ne, toList_inj']; decide)⟩
  | some x ys h h0 hi => exact ⟨x, ys ++ s :: L, rfl, isTok_k h, isTok_ne h (by rw [Ne, toList_inj']; decide)⟩
theorem heads_e {es us : List T4} {e u : Int} {s : T4} {L : List T4} (he : SetsP sEcb es e) (h : SetsP sUcb us u) (hs : isTok s sSemi = true) : ∃ z M, es ++ (us ++ (s :: L)) = z :: M ∧ z.k = 3 := by
  obtain ⟨z, M, h1, h2, _⟩ := heads_u (L := L) h hs
  cases he with
  | none => exact ⟨z, M, h1, h2⟩
  | some x ys hx h0 hi => exact ⟨x, ys ++ (us ++ (s :: L)), rfl, isTok_k hx⟩
theorem t4s_length (L : List T4) : (t4s L).length = L.length * 4 := by
  induction L with
  | nil => rfl
  | cons x L ih =>
    have : t4s (x :: L) = x.cells ++ t4s L := rfl
    rw [this, List.length_append, ih]
    simp only [T4.cells, List.length_cons, List.length_nil]
    omega
theorem t4s_at : ∀ (L : List T4) (i j : Nat) (x : T4), L[i]? = some x → j < 4 → (t4s L)[i * 4 + j]? = x.cells[j]?
  | [], i, j, x, h, _ => by simp at h
  | y :: L, 0, j, x, h, hj => by
    simp at h
    subst h
    have e : t4s (y :: L) = y.cells ++ t4s L := rfl
    rw [e, Nat.zero_mul, Nat.zero_add, List.getElem?_append_left (by simpa [T4.cells] using hj)]
  | y :: L, i + 1, j, x, h, hj => by
    have e : t4s (y :: L) = y.cells ++ t4s L := rfl
    rw [e, List.getElem?_append_right (by simp [T4.cells]; omega)]
    rw [show (i + 1) * 4 + j - y.cells.length = i * 4 + j from by simp [T4.cells]; omega]
    exact t4s_at L i j x (by simpa using h) hj
section
variable {w w' w2 wr : World} {pp tb tk rb : Nat} {v v' : Value} {L L' : List T4} {x y z : T4} {cs : Array Value}
theorem sets_any {s : ByteArray} {es : List T4} {r : Int} (hp : SetsP s es r) (h : PAt w pp tb v (es ++ z :: L)) (hz : z.k = 3) (hzs : isTok z s = false) :
    Calls Tryz.prog 100 #[.pointer (some ⟨pp, 0, none⟩), .string s] w fun e w' => e = .returned (.int .u64 r) ∧ (∃ v', PAt w' pp tb v' (z :: L)) ∧ w.grownBy w' (some pp) := by
  cases hp with
  | none =>
    refine (sets_no h s hzs).mono ?_
    rintro e w' ⟨rfl, hb⟩
    exact ⟨rfl, ⟨v, PAt.below h hb⟩, grown_of_below hb⟩
  | some x ys hx h0 hi => exact sets_yes h s hx h0 hi (by omega)
/-- A task that is being read. -/
structure TSt (w wr : World) (pp tb tk rb : Nat) (v : Value) (L : List T4) (cs : Array Value) : Prop where
  p : PAt wr pp tb v L
  t : Blk wr tk 46 cs
  r : Blk wr rb 46 #[.string ⟨#[]⟩, .int .i64 0, .int .i64 0, .int .i64 0, .int .i64 0, .int .i64 0, .slice none 0 0, .int .u64 0, .int .u64 0]
  g : w.grownBy wr (some pp)
  hr : w.heap.size ≤ rb
  hk : rb < tk
  hp : pp < w.heap.size
  ht : tb < w.heap.size
theorem TSt.next (h : TSt w wr pp tb tk rb v L cs) (hP : PAt w' pp tb v' L') (hg : wr.grownBy w' (some pp)) : TSt w w' pp tb tk rb v' L' cs := by
  have := h.hr; have := h.hk; have := h.hp
  exact ⟨hP, h.t.grown hg (by intro e; injection e with e; omega), h.r.grown hg (by intro e; injection e with e; omega), h.g.trans hg, h.hr, h.hk, h.hp, h.ht⟩
theorem TSt.set_ (h : TSt w wr pp tb tk rb v L cs) (i : Nat) (u : Value) : TSt w (wr.setCell ⟨tk, i, none⟩ u) pp tb tk rb v L (cs.setIfInBounds i u) := by
  have := h.hr; have := h.hk; have := h.hp; have := h.ht
  exact ⟨h.p.far (by omega) (by omega) _, h.t.set_ i u, h.r.far (by show rb ≠ tk; omega) _, only_setCell h.g (.inr (by show _ ≤ tk; omega)) _, h.hr, h.hk, h.hp, h.ht⟩
theorem TSt.nextM {cs' : Array Value} (h : TSt w wr pp tb tk rb v L cs) (hP : PAt w' pp tb v' L') (hB : Blk w' tk 46 cs') (hG : Gr2 wr w' pp tk) : TSt w w' pp tb tk rb v' L' cs' := by
  have := h.hr; have := h.hk; have := h.hp
  exact ⟨hP, hB, (hG.block rb h.r.lt (by omega) (by omega)).trans h.r, hG.only h.g (by omega), h.hr, h.hk, h.hp, h.ht⟩
theorem TSt.alloc (h : TSt w wr pp tb tk rb v L cs) (o : Obj) : TSt w (wr.alloc o) pp tb tk rb v L cs :=
  h.next (h.p.below ((Below.refl _ _).alloc (Nat.le_refl _) _)) (only_alloc (World.grownBy.refl _ _) _)
theorem TSt.own (h : TSt w wr pp tb tk rb v L cs) {u : Value} {m : Nat} {xs : List Value} (ho : wr.ownsRow rb 2 1 u m xs) (hg : wr.grownBy w' u.ownBlock) : TSt w w' pp tb tk rb v L cs := by
  have := h.hr; have := h.hp; have := h.ht
  have hb : ∀ g, u.ownBlock = some g → rb ≤ g := fun g hg => (ho.lt g hg).1
  exact ⟨h.p.grown hg (fun g hg => by have := hb g hg; omega), h.t.grown hg (fun e => own_blk_ne ho h.t (by decide) e.symm), h.r.grown hg (fun e => own_blk_ne ho h.r (by decide) e.symm), only_above h.g hg (fun g hg => by have := hb g hg; omega), h.hr, h.hk, h.hp, h.ht⟩
set_option maxHeartbeats 16000000 in
theorem task_yes {ts : List T4} {x : S46} (hT : TaskP ts x) (h : PAt w pp tb v (ts ++ L)) (hx6 : x.f6.length ≤ 100000) :
    Calls Tryz.prog 58 #[.pointer (some ⟨pp, 0, none⟩)] w fun e w' => ∃ r, e = .returned (.agg #[.string x.f0, .int .i64 x.f1, .int .i64 x.f2, .int .i64 x.f3, .int .i64 x.f4, .int .i64 x.f5, r, .int .u64 x.f7, .int .u64 x.f8]) ∧ w'.ownsRow w.heap.size 2 1 r x.f6.length (J.ints x.f6) ∧ (∃ v', PAt w' pp tb v' L) ∧ w.grownBy w' (some pp) := by
  obtain ⟨a, n, p1, p2, d1, d2, ms, g, ys, es, us, s, m, q, th, e, u, rfl, ha, hn, hp1, hp2, hd1, hd2, hms, hg, hy0, hys, hes, hus, hs, rfl⟩ := hT.out
  simp only [List.cons_append, List.append_assoc, List.nil_append] at h
  have hpl := h.hd.lt
  have htl := h.tlt
  have hB0 := (Below.refl w.heap.size w).alloc (Nat.le_refl _) (.cells #[.string ⟨#[]⟩, .int .i64 0, .int .i64 0, .int .i64 0, .int .i64 0, .int .i64 0, .slice none 0 0, .int .u64 0, .int .u64 0] 46)
  have HR := Lib.hid (Blk.new w 46 #[.string ⟨#[]⟩, .int .i64 0, .int .i64 0, .int .i64 0, .int .i64 0, .int .i64 0, .slice none 0 0, .int .u64 0, .int .u64 0])
  have H1 := Lib.hid (must_yes (h.below hB0) sTask ha)
  have HB0 := Lib.hid hB0
  have HN := Lib.hid hn
  have q1 := field1
  have hn4 : n.k ≠ 4 := by omega
  clear h hB0 ha hn hT
  unfold sTask at H1
  go_enter Tryz.func58, Tryz.ntmps58
  go_upto_region 3 with (first | (go_at_call 56; refine (H1.out).mono ?_; rintro e w2 ⟨rfl, ⟨v2, hP⟩, hg⟩; have HG2 := Lib.hid hg; have H2 := Lib.hid (kind_yes hP hn4 1 HN.out); unfold T4.v at H2; clear hP hg H1) | (go_at_call 96; refine (H2.out).mono ?_; rintro e w3 ⟨rfl, ⟨v3, hP⟩, hg⟩; have HP3 := Lib.hid hP; have HG3 := Lib.hid hg; clear hP hg H2))
  have S3 : TSt w (w3.alloc (.cells #[.string n.s, .int .i64 0, .int .i64 0, .int .i64 0, .int .i64 0, .int .i64 0, .slice none 0 0, .int .u64 0, .int .u64 0] 46)) pp tb w3.heap.size w.heap.size v3 (p1 :: p2 :: d1 :: d2 :: (ms ++ g :: (ys ++ (es ++ (us ++ (s :: L)))))) #[.string n.s, .int .i64 0, .int .i64 0, .int .i64 0, .int .i64 0, .int .i64 0, .slice none 0 0, .int .u64 0, .int .u64 0] := by
    have e : some w.heap.size ≠ some pp := by intro e; injection e with e; omega
    have D := ((HR.out.grown HG2.out e).grown HG3.out e)
    exact ⟨HP3.out.below ((Below.refl _ _).alloc (Nat.le_refl _) _), Blk.new w3 46 _, D.alloc _, only_alloc (((grown_of_below HB0.out).trans HG2.out).trans HG3.out) _, Nat.le_refl _, D.lt, hpl, htl⟩
  obtain ⟨w4, hw4⟩ : ∃ w4, w3.alloc (.cells #[.string n.s, .int .i64 0, .int .i64 0, .int .i64 0, .int .i64 0, .int .i64 0, .slice none 0 0, .int .u64 0, .int .u64 0] 46) = w4 := ⟨_, rfl⟩
  obtain ⟨tk, htk⟩ : ∃ tk, w3.heap.size = tk := ⟨_, rfl⟩
  obtain ⟨rb, hrb⟩ : ∃ rb, w.heap.size = rb := ⟨_, rfl⟩
  rw [hw4, htk] at S3 ⊢
  have S3 : TSt w w4 pp tb tk rb v3 (p1 :: p2 :: d1 :: d2 :: (ms ++ g :: (ys ++ (es ++ (us ++ (s :: L)))))) #[.string n.s, .int .i64 0, .int .i64 0, .int .i64 0, .int .i64 0, .int .i64 0, .slice none 0 0, .int .u64 0, .int .u64 0] := by rw [← hrb]; exact S3
  rw [hrb]
  have HRB := Lib.hid hrb
  have hkp : tk ≠ pp := by have := S3.hr; have := S3.hk; have := S3.hp; omega
  have hkt : tk ≠ tb := by have := S3.hr; have := S3.hk; have := S3.ht; omega
  have A1 := Lib.hid (after_yes S3.p sPeriod hp1 hp2)
  have HS3 := Lib.hid S3
  have HD1 := Lib.hid hd1
  have HD2 := Lib.hid hd2
  have HMS := Lib.hid hms
  have HGG := Lib.hid hg
  have HY0 := Lib.hid hy0
  have HYS := Lib.hid hys
  have HES := Lib.hid hes
  have HUS := Lib.hid hus
  have HSS := Lib.hid hs
  clear hw4 htk hrb S3 hp1 hp2 hd1 hd2 hms hg hy0 hys hes hus hs HG2 HP3 HG3 HR HB0 hpl htl hn4 q1
  obtain ⟨z, M, hzM, hz3⟩ := heads_e (L := L) HES.out HUS.out HSS.out
  have hz2 : z.k ≠ 2 := by omega
  have HZM := Lib.hid hzM
  have HZ2 := Lib.hid hz2
  have hylen : 0 < ys.length := by
    cases hq : ys with
    | nil => exact absurd hq HY0.out
    | cons a l => simp
  have hylim : ys.length ≤ 100000 := by simpa using hx6
  clear hzM hz2 hz3
  unfold sPeriod at A1
  go_wp2_with (first | (go_at_call 55; refine (A1.out).mono ?_; rintro e w5 ⟨rfl, ⟨v5, hP⟩, hg⟩; have HS5 := Lib.hid (HS3.out.next hP hg); have g1 := HS5.out.t.cell 1; have f1 := HS5.out.t.frozen 1; have HS6 := Lib.hid (HS5.out.set_ 1 (.int .i64 p2.n)); have A2 := Lib.hid (after_yes HS6.out.p sDeadline HD1.out HD2.out); unfold sDeadline at A2; clear hP hg A1) | (go_at_call 55; refine (A2.out).mono ?_; rintro e w7 ⟨rfl, ⟨v7, hP⟩, hg⟩; have HS7 := Lib.hid (HS6.out.next hP hg); have g2 := HS7.out.t.cell 2; have f2 := HS7.out.t.frozen 2; have HS8 := Lib.hid (HS7.out.set_ 2 (.int .i64 d2.n)); have D8 : Blk (w7.setCell ⟨tk, 2, none⟩ (.int .i64 d2.n)) tk 46 #[.string n.s, .int .i64 p2.n, .int .i64 d2.n, .int .i64 0, .int .i64 0, .int .i64 0, .slice none 0 0, .int .u64 0, .int .u64 0] := HS8.out.t; have A3 := Lib.hid (mode_yes HMS.out HS8.out.p D8 hkp hkt); clear hP hg A2 g1 f1 D8) | (go_at_call 98; refine (A3.out).mono ?_; rintro e w9 ⟨rfl, ⟨v9, hP⟩, hB, hG⟩; have HS9 := Lib.hid (HS8.out.nextM hP hB hG); have A4 := Lib.hid (must_yes HS9.out.p sRegions HGG.out); unfold sRegions at A4; clear hP hB hG A3 g2 f2) | (go_at_call 56; refine (A4.out).mono ?_; rintro e wa ⟨rfl, ⟨va, hP⟩, hg⟩; have HSa := Lib.hid (HS9.out.next hP hg); have hPa := HSa.out.p; rw [HZM.out] at hPa; have A5 := Lib.hid (row_yes hPa HY0.out HYS.out HZ2.out); clear hP hg A4 hPa) | (go_at_call 99; refine (A5.out).mono ?_; rintro e wb ⟨u, rfl, hown, ⟨vb, hP⟩, hg⟩; have HSb := Lib.hid (HSa.out.next hP hg); obtain ⟨gr, gc, gcs, rfl, hgb, hgB, hgc⟩ := own_cells hown hylen; have HGB := Lib.hid hgB; have HGC := Lib.hid hgc; have HGL := Lib.hid hgb; clear hP hg A5 hown hgb hgB hgc))
  obtain ⟨i0, hi0, hz0, hz1, hz2⟩ := info_parts J.Tryz.info2
  have Hz0 := Lib.hid hz0; clear hz0
  have Hz1 := Lib.hid hz1; clear hz1
  have Hz2 := Lib.hid hz2; clear hz2
  have Hi := Lib.hid hi0; clear hi0
  clear HS3 HS5 HS6 HS7 HS8 HS9 HSa
  go_loopw [25] (fun z25 wr => ∃ (k : Nat) (rv : Value), k ≤ ys.length ∧ z25 = .int .i64 k ∧ TSt w wr pp tb tk rb vb (z :: M) #[.string n.s, .int .i64 p2.n, .int .i64 d2.n, .int .i64 m, .int .i64 q, .int .i64 th, rv, .int .u64 0, .int .u64 0] ∧ wr.ownsRow rb 2 1 rv k (J.ints ((ys.map T4.n).take k)) ∧ Blk wr gr 116 gcs) (fun z25 _ => ys.length - (intOf z25).toNat)
  case atStart => exact ⟨0, _, Nat.zero_le _, rfl, HSb.out, by simpa [J.ints] using World.ownsRow_nil _ _ _ _, HGB.out⟩
  case round =>
    obtain ⟨k, rv, hk, rfl, hS, hO, hG⟩ := hrel
    obtain ⟨RA, rc, rfl, hrc, _⟩ := row_read hO
    by_cases hlt : k < ys.length
    · obtain ⟨y, hy⟩ : ∃ y, ys[k]? = some y := ⟨_, List.getElem?_eq_getElem hlt⟩
      have hc : ∀ j, j < 4 → wr.cell? ⟨gr, k * 4 + j, none⟩ = y.cells[j]? := fun j hj => by
        rw [hG.cell, HGC.out _ (by rw [t4s_length]; omega), t4s_at ys k j y hy hj]
      have c0 : wr.cell? ⟨gr, k * 4, none⟩ = some (.int .i64 y.k) := hc 0 (by decide)
      have c1 : wr.cell? ⟨gr, k * 4 + 1, none⟩ = some (.string y.s) := hc 1 (by decide)
      have c2 : wr.cell? ⟨gr, k * 4 + 2, none⟩ = some (.int .i64 y.n) := hc 2 (by decide)
      have c3 : wr.cell? ⟨gr, k * 4 + 3, none⟩ = some (.int .i64 y.at_) := hc 3 (by decide)
      have t6 : wr.cell? ⟨tk, 6, none⟩ = some (.slice RA k rc) := hS.t.cell 6
      have hgl := hG.lt
      have hkl := hS.t.lt
      have hne := own_blk_ne hO hS.t (by decide)
      have hng := own_blk_ne hO hG (by decide)
      have hrl := hS.hr
      have hrk := hS.hk
      have hex : (ys.map T4.n).take (k + 1) = (ys.map T4.n).take k ++ [y.n] := by
        obtain ⟨h1, rfl⟩ := List.getElem?_eq_some_iff.1 hy
        rw [List.take_succ_eq_append_getElem (by simpa using h1)]
        simp
      have HE := Lib.hid hex
      have HS := Lib.hid hS
      have HG := Lib.hid hG
      have HV := Lib.hid ((hO.alloc (.cells #[.int .i64 y.k, .string y.s, .int .i64 y.n, .int .i64 y.at_] 116)).alloc (.cells #[.int .i64 y.n] 2))
      have H1 : Hid (∀ j u, [Value.int .i64 y.n][j]? = some u → ((wr.alloc (.cells #[.int .i64 y.k, .string y.s, .int .i64 y.n, .int .i64 y.at_] 116)).alloc (.cells #[.int .i64 y.n] 2)).cell? ((⟨(wr.alloc (.cells #[.int .i64 y.k, .string y.s, .int .i64 y.n, .int .i64 y.at_] 116)).heap.size, 0, none⟩ : Addr).add j) = some u) := cells_new (l := [Value.int .i64 y.n])
      have hsz : (wr.alloc (.cells #[.int .i64 y.k, .string y.s, .int .i64 y.n, .int .i64 y.at_] 116)).heap.size = wr.heap.size + 1 := by simp
      rw [hsz] at H1
      have H5 : Hid (rb ≤ ((wr.alloc (.cells #[.int .i64 y.k, .string y.s, .int .i64 y.n, .int .i64 y.at_] 116)).alloc (.cells #[.int .i64 y.n] 2)).heap.size) := by unfold Hid; simp; omega
      have HNE := Lib.hid hne
      have HNG := Lib.hid hng
      have hOb : Hid (∀ g, (Value.slice RA k rc).ownBlock = some g → rb ≤ g) := fun g hg => (hO.lt g hg).1
      clear hO hS hG hy hc hex hne hng hsz hrl hrk
      go_wp2_with (at_builtin; refine wpList_append_own _ rfl (.tmp 30) (.tmp 33) 32 rfl rb 2 i0 _ 1 8 Tryz.underlying32 Hi.out Hz0.out Hz1.out Hz2.out rfl (Nat.succ_pos 0) (.slice RA k rc) k (J.ints ((ys.map T4.n).take k)) rfl HV.out ⟨wr.heap.size + 1, 0, none⟩ 1 1 [.int .i64 y.n] rfl rfl H1.out (J.ints_one [y.n]) (by unfold maxLen; omega) (by omega) H5.out ?_; intro v' w5 own gr' _; obtain ⟨g', m', rfl⟩ := own_shape own; have T5 := ((HS.out.t.alloc (.cells #[.int .i64 y.k, .string y.s, .int .i64 y.n, .int .i64 y.at_] 116)).alloc (.cells #[.int .i64 y.n] 2)).grown gr' (fun e => HNE.out e.symm); have f6 := T5.frozen 6; have d6 := T5.cell 6)
      have S5 := ((((HS.out.alloc (.cells #[.int .i64 y.k, .string y.s, .int .i64 y.n, .int .i64 y.at_] 116)).alloc (.cells #[.int .i64 y.n] 2)).own HV.out gr').set_ 6 (.slice (some ⟨g', 0, none⟩) (k + 1) m'))
      have HT5 := T5
      refine ⟨⟨k + 1, _, by omega, by go_num, S5, ?_, ?_⟩, by simp [intOf]; omega⟩
      · rw [HE.out]
        have : J.ints ((ys.map T4.n).take k ++ [y.n]) = J.ints ((ys.map T4.n).take k) ++ [.int .i64 y.n] := J.ints_snoc _ _
        rw [this]
        exact own_far own (own_blk_ne own T5 (by decide)) _
      · have D := ((HG.out.alloc (.cells #[.int .i64 y.k, .string y.s, .int .i64 y.n, .int .i64 y.at_] 116)).alloc (.cells #[.int .i64 y.n] 2)).grown gr' (fun e => HNG.out e.symm)
        exact D.far (p := ⟨tk, 6, none⟩) (D.ne_ T5 (by decide)) _
    · have e : k = ys.length := by omega
      subst e
      obtain ⟨z2, M2, h21, h22, h23⟩ := heads_u (L := L) HUS.out HSS.out
      have hps := hS.p
      rw [← HZM.out, h21] at hps
      have A6 := Lib.hid (sets_any HES.out hps h22 h23)
      unfold sEcb at A6
      have H21 := Lib.hid h21
      have HS := Lib.hid hS
      have HO := Lib.hid hO
      clear hps h21 h22 h23 hS hO hG
      go_upto_region 15 with (first | (go_at_call 100; refine (A6.out).mono ?_; rintro e' w6 ⟨rfl, ⟨v6, hP⟩, hg⟩; have HS6 := Lib.hid (HS.out.next hP hg); have HO6 := Lib.hid (J.own_keep HO.out hg (.inr (own_blk_ne HO.out HS.out.p.hd (by decide)))); have g7 := HS6.out.t.cell 7; have f7 := HS6.out.t.frozen 7; have HO7 := Lib.hid (own_far HO6.out (own_blk_ne HO6.out HS6.out.t (by decide)) (o := 7) (.int .u64 e)); have HS7 := Lib.hid (HS6.out.set_ 7 (.int .u64 e)); have hp7 := HS7.out.p; rw [← H21.out] at hp7; have A8 := Lib.hid (sets_any HUS.out hp7 (isTok_k HSS.out) (isTok_ne HSS.out (by rw [Ne, toList_inj']; decide))); unfold sUcb at A8; clear hP hg A6 hp7) | (go_at_call 100; refine (A8.out).mono ?_; rintro e' w8 ⟨rfl, ⟨v8, hP⟩, hg⟩; have HS8 := Lib.hid (HS7.out.next hP hg); have HO8 := Lib.hid (J.own_keep HO7.out hg (.inr (own_blk_ne HO7.out HS7.out.p.hd (by decide)))); have g8 := HS8.out.t.cell 8; have f8 := HS8.out.t.frozen 8; have HO9 := Lib.hid (own_far HO8.out (own_blk_ne HO8.out HS8.out.t (by decide)) (o := 8) (.int .u64 u)); have HS9 := Lib.hid (HS8.out.set_ 8 (.int .u64 u)); have A9 := Lib.hid (must_yes HS9.out.p sSemi HSS.out); unfold sSemi at A9; clear hP hg A8 g7 f7) | (go_at_call 56; refine (A9.out).mono ?_; rintro e' w9 ⟨rfl, ⟨v9, hP⟩, hg⟩; have HSa := Lib.hid (HS9.out.next hP hg); have HOa := Lib.hid (J.own_keep HO9.out hg (.inr (own_blk_ne HO9.out HS9.out.p.hd (by decide)))); clear hP hg A9 g8 f8))
      have S9 := HSa.out
      have b0 : w9.cell? ⟨tk, 0, none⟩ = some (.string n.s) := S9.t.cell 0
      have b1 : w9.cell? ⟨tk, 1, none⟩ = some (.int .i64 p2.n) := S9.t.cell 1
      have b2 : w9.cell? ⟨tk, 2, none⟩ = some (.int .i64 d2.n) := S9.t.cell 2
      have b3 : w9.cell? ⟨tk, 3, none⟩ = some (.int .i64 m) := S9.t.cell 3
      have b4 : w9.cell? ⟨tk, 4, none⟩ = some (.int .i64 q) := S9.t.cell 4
      have b5 : w9.cell? ⟨tk, 5, none⟩ = some (.int .i64 th) := S9.t.cell 5
      have b6 : w9.cell? ⟨tk, 6, none⟩ = some (.slice RA ys.length rc) := S9.t.cell 6
      have b7 : w9.cell? ⟨tk, 7, none⟩ = some (.int .u64 e) := S9.t.cell 7
      have b8 : w9.cell? ⟨tk, 8, none⟩ = some (.int .u64 u) := S9.t.cell 8
      have r0 := S9.r.cell 0
      have r1 := S9.r.cell 1
      have r2 := S9.r.cell 2
      have r3 := S9.r.cell 3
      have r4 := S9.r.cell 4
      have r5 := S9.r.cell 5
      have r6 := S9.r.cell 6
      have r7 := S9.r.cell 7
      have r8 := S9.r.cell 8
      have k0 := S9.r.frozen 0
      have k1 := S9.r.frozen 1
      have k2 := S9.r.frozen 2
      have k3 := S9.r.frozen 3
      have k4 := S9.r.frozen 4
      have k5 := S9.r.frozen 5
      have k6 := S9.r.frozen 6
      have k7 := S9.r.frozen 7
      have k8 := S9.r.frozen 8
      have hrp : rb ≠ pp := by have := S9.hr; have := S9.hp; omega
      have hrt : rb ≠ tb := by have := S9.hr; have := S9.ht; omega
      have hrw : w.heap.size ≤ rb := S9.hr
      have DR : Blk (((((((((w9.setCell ⟨rb, 0, none⟩ (.string n.s)).setCell ⟨rb, 1, none⟩ (.int .i64 p2.n)).setCell ⟨rb, 2, none⟩ (.int .i64 d2.n)).setCell ⟨rb, 3, none⟩ (.int .i64 m)).setCell ⟨rb, 4, none⟩ (.int .i64 q)).setCell ⟨rb, 5, none⟩ (.int .i64 th)).setCell ⟨rb, 6, none⟩ (.slice RA ys.length rc)).setCell ⟨rb, 7, none⟩ (.int .u64 e)).setCell ⟨rb, 8, none⟩ (.int .u64 u)) rb 46 #[.string n.s, .int .i64 p2.n, .int .i64 d2.n, .int .i64 m, .int .i64 q, .int .i64 th, .slice RA ys.length rc, .int .u64 e, .int .u64 u] := (((((((((S9.r.set_ 0 (.string n.s)).set_ 1 (.int .i64 p2.n)).set_ 2 (.int .i64 d2.n)).set_ 3 (.int .i64 m)).set_ 4 (.int .i64 q)).set_ 5 (.int .i64 th)).set_ 6 (.slice RA ys.length rc)).set_ 7 (.int .u64 e)).set_ 8 (.int .u64 u))
      have PR : PAt (((((((((w9.setCell ⟨rb, 0, none⟩ (.string n.s)).setCell ⟨rb, 1, none⟩ (.int .i64 p2.n)).setCell ⟨rb, 2, none⟩ (.int .i64 d2.n)).setCell ⟨rb, 3, none⟩ (.int .i64 m)).setCell ⟨rb, 4, none⟩ (.int .i64 q)).setCell ⟨rb, 5, none⟩ (.int .i64 th)).setCell ⟨rb, 6, none⟩ (.slice RA ys.length rc)).setCell ⟨rb, 7, none⟩ (.int .u64 e)).setCell ⟨rb, 8, none⟩ (.int .u64 u)) pp tb v9 L := (((((((((S9.p.far hrp hrt _).far hrp hrt _).far hrp hrt _).far hrp hrt _).far hrp hrt _).far hrp hrt _).far hrp hrt _).far hrp hrt _).far hrp hrt _)
      have GR : w.grownBy (((((((((w9.setCell ⟨rb, 0, none⟩ (.string n.s)).setCell ⟨rb, 1, none⟩ (.int .i64 p2.n)).setCell ⟨rb, 2, none⟩ (.int .i64 d2.n)).setCell ⟨rb, 3, none⟩ (.int .i64 m)).setCell ⟨rb, 4, none⟩ (.int .i64 q)).setCell ⟨rb, 5, none⟩ (.int .i64 th)).setCell ⟨rb, 6, none⟩ (.slice RA ys.length rc)).setCell ⟨rb, 7, none⟩ (.int .u64 e)).setCell ⟨rb, 8, none⟩ (.int .u64 u)) (some pp) := only_setCell (only_setCell (only_setCell (only_setCell (only_setCell (only_setCell (only_setCell (only_setCell (only_setCell S9.g (.inr hrw) _) (.inr hrw) _) (.inr hrw) _) (.inr hrw) _) (.inr hrw) _) (.inr hrw) _) (.inr hrw) _) (.inr hrw) _) (.inr hrw) _
      have hon := own_blk_ne HOa.out S9.r (by decide)
      have OR : (((((((((w9.setCell ⟨rb, 0, none⟩ (.string n.s)).setCell ⟨rb, 1, none⟩ (.int .i64 p2.n)).setCell ⟨rb, 2, none⟩ (.int .i64 d2.n)).setCell ⟨rb, 3, none⟩ (.int .i64 m)).setCell ⟨rb, 4, none⟩ (.int .i64 q)).setCell ⟨rb, 5, none⟩ (.int .i64 th)).setCell ⟨rb, 6, none⟩ (.slice RA ys.length rc)).setCell ⟨rb, 7, none⟩ (.int .u64 e)).setCell ⟨rb, 8, none⟩ (.int .u64 u)).ownsRow rb 2 1 (.slice RA ys.length rc) ys.length (J.ints ((ys.map T4.n).take ys.length)) := own_far (own_far (own_far (own_far (own_far (own_far (own_far (own_far (own_far HOa.out hon _) hon _) hon _) hon _) hon _) hon _) hon _) hon _) hon _
      have HDR := Lib.hid DR
      have HPR := Lib.hid PR
      have HGR := Lib.hid GR
      have HOR := Lib.hid OR
      clear S9 DR PR GR OR hon hrp hrt hrw
      go_wp2_with fail
      refine bodyPost_ret (results_cell1 rfl _ _ rb 46 #[.string n.s, .int .i64 p2.n, .int .i64 d2.n, .int .i64 m, .int .i64 q, .int .i64 th, .slice RA ys.length rc, .int .u64 e, .int .u64 u] _ rfl HDR.out Tryz.underlying46 rfl (by kernel_rfl)) rfl ⟨_, rfl, ?_, ⟨v9, HPR.out⟩, HGR.out⟩
      rw [HRB.out]
      have ho := HOR.out
      rw [show (ys.map T4.n).take ys.length = ys.map T4.n from by rw [← List.length_map (f := T4.n), List.take_length]] at ho
      simpa using ho
end
end Go.Proofs.YtdgfjpbjiccllaaGreatDoor.X
