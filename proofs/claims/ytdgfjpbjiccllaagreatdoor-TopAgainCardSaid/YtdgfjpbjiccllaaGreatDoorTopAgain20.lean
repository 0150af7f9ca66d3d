/- Joined texts: Lex4, Lex5, Lex6, Lex7, Lex8, Lex9, Lex10. -/
import Derived.Test.YtdgfjpbjiccllaaGreatDoorTopAgain18
import Derived.Deep.DeepCutAuto
import Derived.Lib.AppendIntMem
import Derived.Laws.IdiomStrings
import Derived.ScopeJumps
import Derived.WalkMore
namespace Go.Proofs.YtdgfjpbjiccllaaGreatDoor.X
open Go.RowKit
open YtdgfjpbjiccllaaGreatDoorW.PrintWords YtdgfjpbjiccllaaGreatDoorW.PrintLast YtdgfjpbjiccllaaGreatDoorW.PrintMore
set_option maxRecDepth 100000
def tok (k : Int) (s : ByteArray) (n at_ : Int) : Value := .agg #[.int .i64 k, .string s, .int .i64 n, .int .i64 at_]
def kindOf (s : ByteArray) : Int := if isWord s then 3 else 1
def nameN (s : ByteArray) : Nat := spanL more (bytes s)
theorem results_cell3 {P : Program} {fn : Func} {p u v : Tmp} {ty : TypeId} (h : fn.results = #[.cell p ty, .tmp u, .tmp v]) (tmps : Array Value) (w : World) (g : Nat) (t : TypeId) (cs : Array Value) (d : TypeDesc)
  (hp : tmps.getD p undef = .pointer (some ⟨g, 0, none⟩)) (hg : Blk w g t cs)
  (hu : P.underlying ty = some d) (hd : (match d with | .struct _ | .array _ _ => true | _ => false) = true) (hi : (P.info? ty).map (·.size) = some cs.size) :
  (results fn tmps).run P w = .ok (.tuple #[.agg cs, tmps.getD u undef, tmps.getD v undef]) w := by
 have hp' : tmps[p]?.getD undef = .pointer (some ⟨g, 0, none⟩) := by simpa using hp
 simp [results, h, hp', asAddr, run_loadVar_row w g t ty cs (0, 0) d hg hu hd hi]
set_option maxHeartbeats 4000000 in
theorem name_any (s : ByteArray) (hs : s.size ≤ 1000000) (w : World) (htab : Lib.TabIs Tryz.prog w "strings.asciiSpace" .u8 Lib.asciiSpaceTab) :
  Calls Tryz.prog 128 #[.string s] w fun e w' => e = .returned (.tuple #[tok (kindOf (s.extract 0 (nameN s))) (s.extract 0 (nameN s)) 0 0, .int .i64 (nameN s), .bool (decide ((nameN s : Int) ≤ 12))]) ∧ Below w.heap.size w w' := by
 have hTB := Lib.tabBelow_of_tabIs htab
 have HTB := Lib.hid hTB
 have hle : nameN s ≤ s.size := by unfold nameN; rw [← bytes_length]; exact spanL_le _ _
 have hrun := run_more s hs
 have hc := contains_any
 have HRUN := Lib.hid hrun
 have HCON := Lib.hid hc
 obtain ⟨n, hn⟩ : ∃ n, nameN s = n := ⟨_, rfl⟩
 have hn2 : spanL more (bytes s) = n := hn
 rw [hn2] at HRUN
 rw [hn] at hle ⊢
 obtain ⟨x, hx⟩ : ∃ x, s.extract 0 n = x := ⟨_, rfl⟩
 have HX := Lib.hid hx
 clear hTB htab hrun hc hn hn2
 rw [hx]
 clear hx
 go_enter Tryz.func128, Tryz.ntmps128
 go_upto_region 3 with (go_at_call 125; refine (HRUN.out _).mono ?_; rintro e w' ⟨rfl, rfl⟩)
 obtain ⟨g, hg⟩ : ∃ g, w.heap.size = g := ⟨_, rfl⟩
 have B0 : Blk ((w.alloc (.cells #[.int .i64 0, .string ⟨#[]⟩, .int .i64 0, .int .i64 0] 116)).alloc (.cells #[.int .i64 1, .string (s.extract 0 n), .int .i64 0, .int .i64 0] 116)) w.heap.size 116 #[.int .i64 0, .string ⟨#[]⟩, .int .i64 0, .int .i64 0] := (Blk.new w 116 _).alloc _
 have B1 : Blk ((w.alloc (.cells #[.int .i64 0, .string ⟨#[]⟩, .int .i64 0, .int .i64 0] 116)).alloc (.cells #[.int .i64 1, .string (s.extract 0 n), .int .i64 0, .int .i64 0] 116)) (w.heap.size + 1) 116 #[.int .i64 1, .string (s.extract 0 n), .int .i64 0, .int .i64 0] := by
  have h := Blk.new (w.alloc (.cells #[.int .i64 0, .string ⟨#[]⟩, .int .i64 0, .int .i64 0] 116)) 116 #[.int .i64 1, .string (s.extract 0 n), .int .i64 0, .int .i64 0]
  simpa using h
 have hb : Below w.heap.size w ((w.alloc (.cells #[.int .i64 0, .string ⟨#[]⟩, .int .i64 0, .int .i64 0] 116)).alloc (.cells #[.int .i64 1, .string (s.extract 0 n), .int .i64 0, .int .i64 0] 116)) := ((Below.refl _ _).alloc (Nat.le_refl _) _).alloc (by simp) _
 have ht := HTB.out _ hb
 obtain ⟨w2, hw2⟩ : ∃ w2, (w.alloc (.cells #[.int .i64 0, .string ⟨#[]⟩, .int .i64 0, .int .i64 0] 116)).alloc (.cells #[.int .i64 1, .string (s.extract 0 n), .int .i64 0, .int .i64 0] 116) = w2 := ⟨_, rfl⟩
 rw [hw2] at B0 B1 hb ht ⊢
 rw [hg] at B0 hb ⊢
 rw [HX.out] at B1 ⊢
 have HT := Lib.hid (HTB.out _ (by rw [hg]; exact hb.drew))
 have HB := Lib.hid hb
 rw [hg] at B1
 obtain ⟨tb, htb⟩ : ∃ tb, g + 1 = tb := ⟨_, rfl⟩
 have hgt : g ≠ tb := by omega
 have HG := Lib.hid hg
 rw [htb] at B1 ⊢
 have hgl : g ≤ tb := by omega
 clear hg; clear htb
 have c1 : w2.cell? ⟨tb, 1, none⟩ = some (.string x) := B1.cell 1
 have hl1 := B1.lt
 clear hw2 ht hb
 go_region_held3 (fun w' => w'.cell? ⟨tb, 1, none⟩ = some (.string x)) (go_keep) (first | (go_at_call 150; refine (words_any _ HT.out).mono ?_; rintro e w4 ⟨rfl, rfl⟩) | (go_at_call 149; refine (HCON.out _ _ (by first | exact Blk.new _ _ _ | exact (Blk.new _ _ _).drew) _).mono ?_; rintro e w5 ⟨rfl, hd⟩; have hd1 : w5.cell? ⟨tb, 1, none⟩ = some (.string x) := by (obtain ⟨⟨m, rfl⟩⟩ := hd; exact (World.cell?_alloc_past _ _ _ hl1).trans c1)))
 have hb5 : Below w2.heap.size w2 w5 := by
  obtain ⟨⟨m, rfl⟩⟩ := hd
  exact ((Below.refl _ _).alloc (Nat.le_refl _) _).trans ⟨rfl, rfl, rfl, Nat.le_refl _, fun _ _ => rfl⟩
 have D0 := B0.below hb5 B0.lt
 have D1 := B1.below hb5 B1.lt
 have hB5 := HB.out.trans (hb5.mono (by have := B0.lt; omega))
 have t0 := D1.cell 0
 have t1 := D1.cell 1
 have t2 := D1.cell 2
 have t3 := D1.cell 3
 have u0 := D1.frozen 0
 have g0 := D0.cell 0
 have g1 := D0.cell 1
 have g2 := D0.cell 2
 have g3 := D0.cell 3
 have f0 := D0.frozen 0
 have f1 := D0.frozen 1
 have f2 := D0.frozen 2
 have f3 := D0.frozen 3
 clear hd hd1 hb5 B0 B1
 cases hw : isWord x with
 | true =>
  have hk : kindOf x = 3 := by simp [kindOf, hw]
  have HK := Lib.hid hk
  clear hk
  go_wp2_with fail
  refine bodyPost_ret (results_cell3 rfl _ _ g 116 (((#[Value.int .i64 0, .string ⟨#[]⟩, .int .i64 0, .int .i64 0].setIfInBounds 0 (.int .i64 3)).setIfInBounds 1 (.string x)).setIfInBounds 2 (.int .i64 0) |>.setIfInBounds 3 (.int .i64 0)) _ rfl ((((((D0.far (p := ⟨tb, 0, none⟩) hgt _).set_ 0 _).set_ 1 _).set_ 2 _).set_ 3 _)) Tryz.underlying116 rfl (by kernel_rfl)) rfl ⟨by rw [HK.out]; rfl, ?_⟩
  rw [HG.out]
  exact ((((hB5.setCell hgl _).setCell (Nat.le_refl _) _).setCell (Nat.le_refl _) _).setCell (Nat.le_refl _) _).setCell (Nat.le_refl _) _
 | false =>
  have hk : kindOf x = 1 := by simp [kindOf, hw]
  have HK := Lib.hid hk
  clear hk
  go_wp2_with fail
  refine bodyPost_ret (results_cell3 rfl _ _ g 116 (((#[Value.int .i64 0, .string ⟨#[]⟩, .int .i64 0, .int .i64 0].setIfInBounds 0 (.int .i64 1)).setIfInBounds 1 (.string x)).setIfInBounds 2 (.int .i64 0) |>.setIfInBounds 3 (.int .i64 0)) _ rfl (((((D0.set_ 0 _).set_ 1 _).set_ 2 _).set_ 3 _)) Tryz.underlying116 rfl (by kernel_rfl)) rfl ⟨by rw [HK.out]; rfl, ?_⟩
  rw [HG.out]
  exact (((hB5.setCell (Nat.le_refl _) _).setCell (Nat.le_refl _) _).setCell (Nat.le_refl _) _).setCell (Nat.le_refl _) _
def numL (l : List Int) : Int := l.foldl (fun a c => a * 10 + (c - 48)) 0
def digN (s : ByteArray) : Nat := spanL digit (bytes s)
def badNum (s : ByteArray) : Bool := decide (9 < digN s) || (decide (1 < digN s) && (bytes s).getD 0 0 == 48)
set_option maxHeartbeats 4000000 in
theorem number_bad (s : ByteArray) (hs : s.size ≤ 1000000) (w : World) (hb : badNum s = true) :
  Calls Tryz.prog 130 #[.string s] w fun e w' => e = .returned (.tuple #[tok 2 ⟨#[]⟩ 0 0, .int .i64 (digN s), .bool false]) ∧ Below w.heap.size w w' := by
 have hle : digN s ≤ s.size := by unfold digN; rw [← bytes_length]; exact spanL_le _ _
 have hrun := run_digit s hs
 have HRUN := Lib.hid hrun
 unfold badNum at hb
 obtain ⟨n, hn⟩ : ∃ n, digN s = n := ⟨_, rfl⟩
 have hn2 : spanL digit (bytes s) = n := hn
 rw [hn2] at HRUN
 rw [hn] at hle hb ⊢
 clear hrun hn hn2
 by_cases h9 : 9 < n
 ·clear hb
  go_enter Tryz.func130, Tryz.ntmps130
  go_wp2_with (go_at_call 125; refine (HRUN.out _).mono ?_; rintro e w' ⟨rfl, rfl⟩)
  refine bodyPost_ret (results_cell3 rfl _ _ w.heap.size 116 #[.int .i64 2, .string ⟨#[]⟩, .int .i64 0, .int .i64 0] _ rfl ((Blk.new w 116 _).alloc _) Tryz.underlying116 rfl (by kernel_rfl)) rfl ⟨rfl, ?_⟩
  exact ((Below.refl _ _).alloc (Nat.le_refl _) _).alloc (by simp) _
 ·have h1 : 1 < n := by
   by_cases h : 1 < n
   ·exact h
   ·simp [h9, h] at hb
  have hz : (bytes s).getD 0 0 = 48 := by simpa [h9, h1] using hb
  have hlt : 0 < s.size := by omega
  have hb0 := byte_at s 0 hlt
  rw [hz] at hb0
  have d0 : (((s[0]'hlt).toNat : Int) == 48) = true := by simpa using hb0
  clear hb hz hb0
  go_enter Tryz.func130, Tryz.ntmps130
  go_wp2_with (go_at_call 125; refine (HRUN.out _).mono ?_; rintro e w' ⟨rfl, rfl⟩)
  refine bodyPost_ret (results_cell3 rfl _ _ w.heap.size 116 #[.int .i64 2, .string ⟨#[]⟩, .int .i64 0, .int .i64 0] _ rfl ((Blk.new w 116 _).alloc _) Tryz.underlying116 rfl (by kernel_rfl)) rfl ⟨rfl, ?_⟩
  exact ((Below.refl _ _).alloc (Nat.le_refl _) _).alloc (by simp) _
theorem conv_bytes (W : World) (x : ByteArray) : ∃ C cap k, (convert 9 76 (.string x)).run Tryz.prog W = .ok (.slice (some ⟨W.heap.size, 0, none⟩) x.size cap) (W.drew.alloc (.cells C 5 (k, k + 1))) ∧ ∀ i, i < x.size → C[i]? = some (.int .u8 ((bytes x).getD i 0)) := by
 refine ⟨_, _, _, run_bytes_of_string W 9 76 5 x Tryz.underlying9 Tryz.underlying76 Tryz.underlying5, fun i hi => ?_⟩
 rw [← byte_at x i hi]
 exact bytesRow_at x _ i hi
theorem bytes_extract (s : ByteArray) (n : Nat) : bytes (s.extract 0 n) = (bytes s).take n := by
 unfold bytes
 rw [Lib.extract_data, List.drop_zero, Nat.sub_zero, List.map_take]
theorem numL_snoc (l : List Int) (c : Int) : numL (l ++ [c]) = numL l * 10 + (c - 48) := by simp [numL]
theorem take_snoc' (l : List Int) (k : Nat) (h : k < l.length) : l.take (k + 1) = l.take k ++ [l.getD k 0] := by
 rw [List.take_add_one, List.getElem?_eq_getElem h, List.getD_eq_getElem?_getD, List.getElem?_eq_getElem h]
 rfl
theorem digit_in {b : Int} (h : digit b = true) : 48 ≤ b ∧ b ≤ 57 := by
 unfold digit at h
 simpa using h
theorem numL_in (l : List Int) (hl : ∀ i, i < l.length → digit (l.getD i 0) = true) : ∀ k, k ≤ l.length → 0 ≤ numL (l.take k) ∧ numL (l.take k) < 10 ^ k
 | 0, _ => by simp [numL]
 | k + 1, h => by
  obtain ⟨h1, h2⟩ := numL_in l hl k (by omega)
  obtain ⟨h3, h4⟩ := digit_in (hl k (by omega))
  rw [take_snoc' l k (by omega), numL_snoc, Int.pow_succ]
  omega
set_option maxHeartbeats 4000000 in
theorem number_ok (s : ByteArray) (hs : s.size ≤ 1000000) (h0 : 0 < s.size) (w : World) (hb : badNum s = false) :
  Calls Tryz.prog 130 #[.string s] w fun e w' => e = .returned (.tuple #[tok 2 ⟨#[]⟩ (numL ((bytes s).take (digN s))) 0, .int .i64 (digN s), .bool true]) ∧ Below w.heap.size w w' := by
 have hle : digN s ≤ s.size := by unfold digN; rw [← bytes_length]; exact spanL_le _ _
 have hrun := run_digit s hs
 have HRUN := Lib.hid hrun
 have hdig : ∀ i, i < digN s → digit ((bytes s).getD i 0) = true := fun i hi => spanL_lt digit (bytes s) i hi
 have HDG := Lib.hid hdig
 unfold badNum at hb
 obtain ⟨n, hn⟩ : ∃ n, digN s = n := ⟨_, rfl⟩
 have hn2 : spanL digit (bytes s) = n := hn
 rw [hn2] at HRUN
 rw [hn] at hle hb HDG ⊢
 clear hrun hn hn2 hdig
 have h9 : n ≤ 9 := by
  by_cases h : 9 < n
  ·simp [h] at hb
  ·omega
 have hcase : (decide (1 < (n : Int)) = true ∧ (((s[0]'h0).toNat : Int) == 48) = false) ∨ decide (1 < (n : Int)) = false := by
  by_cases h : 1 < n
  ·refine .inl ⟨by simp; omega, ?_⟩
   rw [byte_at s 0 h0]
   have h8 : decide (9 < n) = false := by simp; omega
   rw [h8, Bool.false_or, decide_eq_true h, Bool.true_and] at hb
   exact hb
  ·exact .inr (by simp; omega)
 clear hb
 have hsz : (s.extract 0 n).size = n := by rw [ByteArray.size_extract]; omega
 obtain ⟨C, cap, kk, hconv, hC⟩ := conv_bytes ((w.alloc (.cells #[.int .i64 0, .string ⟨#[]⟩, .int .i64 0, .int .i64 0] 116)).alloc (.cells #[.int .i64 2, .string ⟨#[]⟩, .int .i64 0, .int .i64 0] 116)) (s.extract 0 n)
 rw [hsz, bytes_extract] at hC
 rw [hsz] at hconv
 have HC := Lib.hid hC
 clear hC
 rcases hcase with ⟨h1, d0⟩ | h1
 all_goals
  go_enter Tryz.func130, Tryz.ntmps130
  go_wp2_with (go_at_call 125; refine (HRUN.out _).mono ?_; rintro e w' ⟨rfl, rfl⟩)
  have B0 : Blk (((w.alloc (.cells #[.int .i64 0, .string ⟨#[]⟩, .int .i64 0, .int .i64 0] 116)).alloc (.cells #[.int .i64 2, .string ⟨#[]⟩, .int .i64 0, .int .i64 0] 116)).alloc (.cells C 5 (kk, kk + 1))).drew w.heap.size 116 #[.int .i64 0, .string ⟨#[]⟩, .int .i64 0, .int .i64 0] := (((Blk.new w 116 _).alloc _).alloc _).drew
  have B1 : Blk (((w.alloc (.cells #[.int .i64 0, .string ⟨#[]⟩, .int .i64 0, .int .i64 0] 116)).alloc (.cells #[.int .i64 2, .string ⟨#[]⟩, .int .i64 0, .int .i64 0] 116)).alloc (.cells C 5 (kk, kk + 1))).drew (w.heap.size + 1) 116 #[.int .i64 2, .string ⟨#[]⟩, .int .i64 0, .int .i64 0] := by
   have h := ((Blk.new (w.alloc (.cells #[.int .i64 0, .string ⟨#[]⟩, .int .i64 0, .int .i64 0] 116)) 116 #[.int .i64 2, .string ⟨#[]⟩, .int .i64 0, .int .i64 0]).alloc (.cells C 5 (kk, kk + 1))).drew
   simpa using h
  have BC := heap_alloc_new ((w.alloc (.cells #[.int .i64 0, .string ⟨#[]⟩, .int .i64 0, .int .i64 0] 116)).alloc (.cells #[.int .i64 2, .string ⟨#[]⟩, .int .i64 0, .int .i64 0] 116)) (.cells C 5 (kk, kk + 1))
  have BC2 : (((w.alloc (.cells #[.int .i64 0, .string ⟨#[]⟩, .int .i64 0, .int .i64 0] 116)).alloc (.cells #[.int .i64 2, .string ⟨#[]⟩, .int .i64 0, .int .i64 0] 116)).alloc (.cells C 5 (kk, kk + 1))).drew.heap[w.heap.size + 1 + 1]? = some (.cells C 5 (kk, kk + 1)) := by
   rw [show ((w.alloc (.cells #[.int .i64 0, .string ⟨#[]⟩, .int .i64 0, .int .i64 0] 116)).alloc (.cells #[.int .i64 2, .string ⟨#[]⟩, .int .i64 0, .int .i64 0] 116)).heap.size = w.heap.size + 1 + 1 by simp] at BC
   exact BC
  have hbw : Below w.heap.size w (((w.alloc (.cells #[.int .i64 0, .string ⟨#[]⟩, .int .i64 0, .int .i64 0] 116)).alloc (.cells #[.int .i64 2, .string ⟨#[]⟩, .int .i64 0, .int .i64 0] 116)).alloc (.cells C 5 (kk, kk + 1))).drew := ((((Below.refl _ _).alloc (Nat.le_refl _) _).alloc (by simp) _).alloc (by simp; omega) _).drew
  clear BC hconv
  obtain ⟨w1, hw1⟩ : ∃ w1, (((w.alloc (.cells #[.int .i64 0, .string ⟨#[]⟩, .int .i64 0, .int .i64 0] 116)).alloc (.cells #[.int .i64 2, .string ⟨#[]⟩, .int .i64 0, .int .i64 0] 116)).alloc (.cells C 5 (kk, kk + 1))).drew = w1 := ⟨_, rfl⟩
  rw [hw1] at B0 B1 BC2 hbw ⊢
  obtain ⟨g, hg⟩ : ∃ g, w.heap.size = g := ⟨_, rfl⟩
  have HG := Lib.hid hg
  rw [hg] at B0 B1 BC2 hbw ⊢
  clear hw1 hg
  obtain ⟨tb, htb⟩ : ∃ tb, g + 1 = tb := ⟨_, rfl⟩
  rw [htb] at B1 BC2 ⊢
  have hgt : g < tb := by omega
  obtain ⟨cb, hcb⟩ : ∃ cb, tb + 1 = cb := ⟨_, rfl⟩
  rw [hcb] at BC2 ⊢
  have htc : tb < cb := by omega
  clear htb hcb
  go_loopw [30] (fun z wr => ∃ k : Nat, k ≤ n ∧ z = .int .i64 k ∧ Blk wr tb 116 #[.int .i64 2, .string ⟨#[]⟩, .int .i64 (numL ((bytes s).take k)), .int .i64 0] ∧ w1.grownBy wr (some tb)) (fun z _ => n - (intOf z).toNat)
  case atStart => exact ⟨0, Nat.zero_le _, rfl, by simpa [numL] using B1, World.grownBy.refl _ _⟩
  case round =>
   obtain ⟨k, hk, rfl, hT, hgr⟩ := hrel
   have hcl : cb < w1.heap.size := by
    rcases Nat.lt_or_ge cb w1.heap.size with h | h
    ·exact h
    ·rw [Array.getElem?_eq_none h] at BC2; cases BC2
   have t0 := hT.cell 0
   have t1 := hT.cell 1
   have t2 := hT.cell 2
   have t3 := hT.cell 3
   have u2 := hT.frozen 2
   by_cases hlt : k < n
   ·have hcc : wr.cell? ⟨cb, k, none⟩ = some (.int .u8 ((bytes s).getD k 0)) := by
     have h1 := cell_of_row wr cb k C 5 (kk, kk + 1) ((hgr.block cb hcl (by simp; omega)).trans BC2)
     rw [h1, HC.out k hlt]
     have hkl : k < (bytes s).length := by rw [bytes_length]; omega
     simp [List.getD, List.getElem?_take_of_lt hlt, hkl]
    obtain ⟨d1, d2⟩ := digit_in (HDG.out k hlt)
    obtain ⟨v1, v2⟩ := numL_in ((bytes s).take n) (by
     intro i hi
     have hin : i < n := by rw [List.length_take] at hi; omega
     have := HDG.out i hin
     simpa [List.getD, List.getElem?_take_of_lt hin] using this) k (by rw [List.length_take, bytes_length]; omega)
    rw [List.take_take, Nat.min_eq_left hk] at v1 v2
    have v3 : numL ((bytes s).take k) < 1000000000 := Int.lt_of_lt_of_le v2 (by
     have : (10 : Int) ^ k ≤ 10 ^ 9 := by exact_mod_cast Nat.pow_le_pow_right (n := 10) (by decide) (show k ≤ 9 by omega)
     simpa using this)
    obtain ⟨b, hb⟩ : ∃ b, (bytes s).getD k 0 = b := ⟨_, rfl⟩
    obtain ⟨v, hv⟩ : ∃ v, numL ((bytes s).take k) = v := ⟨_, rfl⟩
    have HBB := Lib.hid hb
    have HVV := Lib.hid hv
    rw [hb] at hcc d1 d2
    rw [hv] at t2 hT v1 v3
    clear hb hv v2
    go_wp2_with fail
    refine ⟨⟨k + 1, hlt, rfl, ?_, only_setCell hgr (p := ⟨tb, 2, none⟩) (.inl rfl) _⟩, by simp [intOf]; omega⟩
    rw [take_snoc' _ k (by rw [bytes_length]; omega), numL_snoc, HVV.out, HBB.out]
    exact hT.set_ 2 _
   ·have hkn : k = n := by omega
    have HKN := Lib.hid hkn
    have D0 := B0.grown hgr (by simp; omega)
    have g0 := D0.cell 0
    have g1 := D0.cell 1
    have g2 := D0.cell 2
    have g3 := D0.cell 3
    have f0 := D0.frozen 0
    have f1 := D0.frozen 1
    have f2 := D0.frozen 2
    have f3 := D0.frozen 3
    clear hkn
    go_wp2_with fail
    have hbr : Below g w wr := hbw.grown hgr (by have := B0.lt; omega) fun q e => by
     injection e with e
     omega
    refine bodyPost_ret (results_cell3 rfl _ _ g 116 (((#[Value.int .i64 0, .string ⟨#[]⟩, .int .i64 0, .int .i64 0].setIfInBounds 0 (.int .i64 2)).setIfInBounds 1 (.string ⟨#[]⟩)).setIfInBounds 2 (.int .i64 (numL ((bytes s).take k))) |>.setIfInBounds 3 (.int .i64 0)) _ rfl (((((D0.set_ 0 _).set_ 1 _).set_ 2 _).set_ 3 _)) Tryz.underlying116 rfl (by kernel_rfl)) rfl ⟨by rw [← HKN.out]; rfl, ?_⟩
    rw [HG.out]
    exact (((hbr.setCell (Nat.le_refl _) _).setCell (Nat.le_refl _) _).setCell (Nat.le_refl _) _).setCell (Nat.le_refl _) _
end Go.Proofs.YtdgfjpbjiccllaaGreatDoor.X
namespace Go.Proofs.YtdgfjpbjiccllaaGreatDoor.X
open Go.RowKit
open YtdgfjpbjiccllaaGreatDoorW.PrintWords YtdgfjpbjiccllaaGreatDoorW.PrintLast YtdgfjpbjiccllaaGreatDoorW.PrintMore
open PTopLoads
set_option maxRecDepth 100000
theorem hp_f (s : ByteArray) (h0 : 0 < s.size) : strings_HasPrefix.f s ⟨#[59]⟩ = some ((bytes s).getD 0 0 == 59) := by
 unfold strings_HasPrefix.f stringslite_HasPrefix.f
 have h1 : ((⟨#[59]⟩ : ByteArray).size : Int) = 1 := rfl
 rw [h1, if_pos (by omega), if_pos (by decide), if_pos (by omega), Option.bind_some]
 congr 1
 rw [show ((1 : Int).toNat) = 1 from rfl, Lib.toList_data, Lib.toList_data, Lib.extract_data, List.drop_zero]
 obtain ⟨⟨l⟩⟩ := s
 cases l with
 | nil => exact absurd h0 (by decide)
 | cons b t =>
  have e1 : (bytes ⟨⟨b :: t⟩⟩).getD 0 0 = (b.toNat : Int) := rfl
  rw [e1]
  simp only [Nat.sub_zero, List.take_succ_cons, List.take_zero]
  by_cases h : b = 59
  ·subst h; rfl
  ·have h2 : ¬ ((b.toNat : Int) = 59) := fun e => h (by
    apply UInt8.toNat_inj.1
    have : b.toNat = 59 := by omega
    simpa using this)
   have e2 : ((b.toNat : Int) == 59) = false := by simpa using h2
   rw [e2]
   simpa using h
theorem hp_any (s : ByteArray) (h0 : 0 < s.size) (w : World) : Calls Tryz.prog 131 #[.string s, .string ⟨#[59]⟩] w fun e w' => e = .returned (.bool ((bytes s).getD 0 0 == 59)) ∧ Drawn0 w w' :=
 strings_HasPrefix.calls s ⟨#[59]⟩ _ w (hp_f s h0)
structure Tk where
 k : Int
 s : ByteArray
 n : Int
 len : Nat
 ok : Bool
def Tk.v (t : Tk) : Value := .tuple #[tok t.k t.s t.n 0, .int .i64 t.len, .bool t.ok]
def tokenL (s : ByteArray) : Tk :=
 if letter ((bytes s).getD 0 0) then ⟨kindOf (s.extract 0 (nameN s)), s.extract 0 (nameN s), 0, nameN s, decide ((nameN s : Int) ≤ 12)⟩
 else if digit ((bytes s).getD 0 0) then (if badNum s then ⟨2, ⟨#[]⟩, 0, digN s, false⟩ else ⟨2, ⟨#[]⟩, numL ((bytes s).take (digN s)), digN s, true⟩)
 else if (bytes s).getD 0 0 == 59 then ⟨3, ⟨#[59]⟩, 0, 1, true⟩ else ⟨0, ⟨#[]⟩, 0, 0, false⟩
theorem name_tk (s : ByteArray) (hs : s.size ≤ 1000000) (w : World) (htab : Lib.TabIs Tryz.prog w "strings.asciiSpace" .u8 Lib.asciiSpaceTab) (hl : letter ((bytes s).getD 0 0) = true) :
  Calls Tryz.prog 128 #[.string s] w fun e w' => e = .returned (tokenL s).v ∧ Below w.heap.size w w' := by
 have h := name_any s hs w htab
 unfold tokenL
 rw [if_pos hl]
 exact h
theorem number_tk (s : ByteArray) (hs : s.size ≤ 1000000) (h0 : 0 < s.size) (w : World) (hl : letter ((bytes s).getD 0 0) = false) (hd : digit ((bytes s).getD 0 0) = true) :
  Calls Tryz.prog 130 #[.string s] w fun e w' => e = .returned (tokenL s).v ∧ Below w.heap.size w w' := by
 unfold tokenL
 rw [if_neg (by rw [hl]; decide), if_pos hd]
 cases hb : badNum s with
 | true => exact number_bad s hs w hb
 | false => exact number_ok s hs h0 w hb
end Go.Proofs.YtdgfjpbjiccllaaGreatDoor.X
namespace Go.Proofs.YtdgfjpbjiccllaaGreatDoor.X
open Go.RowKit
open YtdgfjpbjiccllaaGreatDoorW.PrintWords YtdgfjpbjiccllaaGreatDoorW.PrintLast YtdgfjpbjiccllaaGreatDoorW.PrintMore
set_option maxRecDepth 100000
set_option maxHeartbeats 8000000 in
theorem token_any (s : ByteArray) (hs : s.size ≤ 1000000) (h0 : 0 < s.size) (w : World) (htab : Lib.TabIs Tryz.prog w "strings.asciiSpace" .u8 Lib.asciiSpaceTab) :
  Calls Tryz.prog 95 #[.string s] w fun e w' => e = .returned (tokenL s).v ∧ Below w.heap.size w w' := by
 have hTB := Lib.tabBelow_of_tabIs htab
 have hb0 := byte_at s 0 h0
 have hB := Blk.new w 116 #[.int .i64 0, .string ⟨#[]⟩, .int .i64 0, .int .i64 0]
 have hW : Below w.heap.size w (w.alloc (.cells #[.int .i64 0, .string ⟨#[]⟩, .int .i64 0, .int .i64 0] 116)) := (Below.refl _ _).alloc (Nat.le_refl _) _
 have ht := hTB _ hW
 clear htab hTB
 cases hl : letter ((bytes s).getD 0 0) with
 | true =>
  have hn := name_tk s hs (w.alloc (.cells #[.int .i64 0, .string ⟨#[]⟩, .int .i64 0, .int .i64 0] 116)) ht hl
  have HN := Lib.hid hn
  have HL := Lib.hid hl
  have HB := Lib.hid hB
  have HW := Lib.hid hW
  have HB0 := Lib.hid hb0
  obtain ⟨T, hT⟩ : ∃ T, tokenL s = T := ⟨_, rfl⟩
  rw [hT] at HN ⊢
  clear hn hl hB hW hb0 ht hT
  go_enter Tryz.func95, Tryz.ntmps95
  go_wp2_with (first | (go_at_call 127; refine (letter_any _ _).mono ?_; rintro e w' ⟨rfl, rfl⟩; rw [HB0.out, HL.out]) | (go_at_call 128; refine (HN.out).mono ?_; rintro e w2 ⟨rfl, hb⟩; have D := HB.out.below hb (by simp); have g0 := D.cell 0; have g1 := D.cell 1; have g2 := D.cell 2; have g3 := D.cell 3; have f0 := D.frozen 0; have f1 := D.frozen 1; have f2 := D.frozen 2; have f3 := D.frozen 3; unfold Tk.v tok))
  refine bodyPost_ret (results_cell3 rfl _ _ w.heap.size 116 (((#[Value.int .i64 0, .string ⟨#[]⟩, .int .i64 0, .int .i64 0].setIfInBounds 0 (.int .i64 T.k)).setIfInBounds 1 (.string T.s)).setIfInBounds 2 (.int .i64 T.n) |>.setIfInBounds 3 (.int .i64 0)) _ rfl (((((D.set_ 0 _).set_ 1 _).set_ 2 _).set_ 3 _)) Tryz.underlying116 rfl (by kernel_rfl)) rfl ⟨rfl, ?_⟩
  exact ((((HW.out.trans (hb.mono (by simp))).setCell (Nat.le_refl _) _).setCell (Nat.le_refl _) _).setCell (Nat.le_refl _) _).setCell (Nat.le_refl _) _
 | false =>
  cases hd : digit ((bytes s).getD 0 0) with
  | true =>
   have hn := number_tk s hs h0 (w.alloc (.cells #[.int .i64 0, .string ⟨#[]⟩, .int .i64 0, .int .i64 0] 116)) hl hd
   have HN := Lib.hid hn
   have HD := Lib.hid hd
   have HL := Lib.hid hl
   have HB := Lib.hid hB
   have HW := Lib.hid hW
   have HB0 := Lib.hid hb0
   obtain ⟨T, hT⟩ : ∃ T, tokenL s = T := ⟨_, rfl⟩
   rw [hT] at HN ⊢
   clear hn hl hd hB hW hb0 ht hT
   go_enter Tryz.func95, Tryz.ntmps95
   go_wp2_with (first | (go_at_call 127; refine (letter_any _ _).mono ?_; rintro e w' ⟨rfl, rfl⟩; rw [HB0.out, HL.out]) | (go_at_call 129; refine (digit_any _ _).mono ?_; rintro e w' ⟨rfl, rfl⟩; rw [HB0.out, HD.out]) | (go_at_call 130; refine (HN.out).mono ?_; rintro e w2 ⟨rfl, hb⟩; have D := HB.out.below hb (by simp); have g0 := D.cell 0; have g1 := D.cell 1; have g2 := D.cell 2; have g3 := D.cell 3; have f0 := D.frozen 0; have f1 := D.frozen 1; have f2 := D.frozen 2; have f3 := D.frozen 3; unfold Tk.v tok))
   refine bodyPost_ret (results_cell3 rfl _ _ w.heap.size 116 (((#[Value.int .i64 0, .string ⟨#[]⟩, .int .i64 0, .int .i64 0].setIfInBounds 0 (.int .i64 T.k)).setIfInBounds 1 (.string T.s)).setIfInBounds 2 (.int .i64 T.n) |>.setIfInBounds 3 (.int .i64 0)) _ rfl (((((D.set_ 0 _).set_ 1 _).set_ 2 _).set_ 3 _)) Tryz.underlying116 rfl (by kernel_rfl)) rfl ⟨rfl, ?_⟩
   exact ((((HW.out.trans (hb.mono (by simp))).setCell (Nat.le_refl _) _).setCell (Nat.le_refl _) _).setCell (Nat.le_refl _) _).setCell (Nat.le_refl _) _
  | false =>
   have hT : tokenL s = if (bytes s).getD 0 0 == 59 then ⟨3, ⟨#[59]⟩, 0, 1, true⟩ else ⟨0, ⟨#[]⟩, 0, 0, false⟩ := by
    unfold tokenL
    rw [if_neg (by rw [hl]; decide), if_neg (by rw [hd]; decide)]
   have HD := Lib.hid hd
   have HL := Lib.hid hl
   have HB := Lib.hid hB
   have HW := Lib.hid hW
   have HB0 := Lib.hid hb0
   cases hq : ((bytes s).getD 0 0 == 59) with
   | true =>
    rw [hq, if_pos rfl] at hT
    rw [hT]
    have HQ := Lib.hid hq
    clear hl hd hB hW hb0 ht hT hq
    go_enter Tryz.func95, Tryz.ntmps95
    go_wp2_with (first | (go_at_call 127; refine (letter_any _ _).mono ?_; rintro e w' ⟨rfl, rfl⟩; rw [HB0.out, HL.out]) | (go_at_call 129; refine (digit_any _ _).mono ?_; rintro e w' ⟨rfl, rfl⟩; rw [HB0.out, HD.out]) | (go_at_call 131; refine (hp_any s h0 _).mono ?_; rintro e w2 ⟨rfl, hd⟩; have hb := hd.below; have D := HB.out.below hb (by simp); have g0 := D.cell 0; have g1 := D.cell 1; have g2 := D.cell 2; have g3 := D.cell 3; have f0 := D.frozen 0; have f1 := D.frozen 1; have f2 := D.frozen 2; have f3 := D.frozen 3; rw [HQ.out]))
    refine bodyPost_ret (results_cell3 rfl _ _ w.heap.size 116 (((#[Value.int .i64 0, .string ⟨#[]⟩, .int .i64 0, .int .i64 0].setIfInBounds 0 (.int .i64 3)).setIfInBounds 1 (.string ⟨#[59]⟩)).setIfInBounds 2 (.int .i64 0) |>.setIfInBounds 3 (.int .i64 0)) _ rfl (((((D.set_ 0 _).set_ 1 _).set_ 2 _).set_ 3 _)) Tryz.underlying116 rfl (by kernel_rfl)) rfl ⟨rfl, ?_⟩
    exact ((((HW.out.trans (hb.mono (by simp))).setCell (Nat.le_refl _) _).setCell (Nat.le_refl _) _).setCell (Nat.le_refl _) _).setCell (Nat.le_refl _) _
   | false =>
    rw [hq, if_neg (by decide)] at hT
    rw [hT]
    have HQ := Lib.hid hq
    clear hl hd hB hW hb0 ht hT hq
    go_enter Tryz.func95, Tryz.ntmps95
    go_wp2_with (first | (go_at_call 127; refine (letter_any _ _).mono ?_; rintro e w' ⟨rfl, rfl⟩; rw [HB0.out, HL.out]) | (go_at_call 129; refine (digit_any _ _).mono ?_; rintro e w' ⟨rfl, rfl⟩; rw [HB0.out, HD.out]) | (go_at_call 131; refine (hp_any s h0 _).mono ?_; rintro e w2 ⟨rfl, hd⟩; have hb := hd.below; have D := HB.out.below hb (by simp); have g0 := D.cell 0; have g1 := D.cell 1; have g2 := D.cell 2; have g3 := D.cell 3; have f0 := D.frozen 0; have f1 := D.frozen 1; have f2 := D.frozen 2; have f3 := D.frozen 3; rw [HQ.out]))
    refine bodyPost_ret (results_cell3 rfl _ _ w.heap.size 116 (((#[Value.int .i64 0, .string ⟨#[]⟩, .int .i64 0, .int .i64 0].setIfInBounds 0 (.int .i64 0)).setIfInBounds 1 (.string ⟨#[]⟩)).setIfInBounds 2 (.int .i64 0) |>.setIfInBounds 3 (.int .i64 0)) _ rfl (((((D.set_ 0 _).set_ 1 _).set_ 2 _).set_ 3 _)) Tryz.underlying116 rfl (by kernel_rfl)) rfl ⟨rfl, ?_⟩
    exact ((((HW.out.trans (hb.mono (by simp))).setCell (Nat.le_refl _) _).setCell (Nat.le_refl _) _).setCell (Nat.le_refl _) _).setCell (Nat.le_refl _) _
end Go.Proofs.YtdgfjpbjiccllaaGreatDoor.X
namespace Go.Proofs.YtdgfjpbjiccllaaGreatDoor.X
open Go.RowKit
structure T4 where
 k : Int
 s : ByteArray
 n : Int
 at_ : Int
def T4.cells (t : T4) : List Value := [.int .i64 t.k, .string t.s, .int .i64 t.n, .int .i64 t.at_]
def restOf (s : ByteArray) (a : Nat) : ByteArray := s.extract a s.size
def toks : Nat → ByteArray → Nat → List T4 → List T4 × Nat × Int
 | 0, _, a, _ => ([], a, 2)
 | f + 1, s, a, l =>
  if a = s.size then (l ++ [⟨4, ⟨#[]⟩, 0, a⟩], a, 0)
  else if 0 < gapL (bytes (restOf s a)) then toks f s (a + gapL (bytes (restOf s a))) l
  else if (tokenL (restOf s a)).ok then toks f s (a + (tokenL (restOf s a)).len) (l ++ [⟨(tokenL (restOf s a)).k, (tokenL (restOf s a)).s, (tokenL (restOf s a)).n, a⟩])
  else ([], a, 2)
def tokens (s : ByteArray) : List T4 × Nat × Int := if 4000 < s.size then ([], 0, 3) else toks (s.size + 1) s 0 []
theorem rest_size (s : ByteArray) (a : Nat) (h : a ≤ s.size) : (restOf s a).size = s.size - a := by
 unfold restOf
 rw [ByteArray.size_extract]
 omega
theorem gapL_le (l : List Int) (h : 0 < l.length) : gapL l ≤ l.length := by
 unfold gapL
 split
 ·omega
 ·split
  ·exact spanL_le _ _
  ·omega
theorem tokenL_len (s : ByteArray) (h : 0 < s.size) (hok : (tokenL s).ok = true) : 0 < (tokenL s).len ∧ (tokenL s).len ≤ s.size := by
 have hsp : ∀ p : Int → Bool, p ((bytes s).getD 0 0) = true → 0 < spanL p (bytes s) := by
  intro p hp
  have hl : 0 < (bytes s).length := by rw [bytes_length]; exact h
  cases hb : bytes s with
  | nil => rw [hb] at hl; exact absurd hl (by decide)
  | cons b t =>
   rw [hb] at hp
   have hp' : p b = true := hp
   unfold spanL
   rw [if_pos hp']
   omega
 have hn : nameN s ≤ s.size := by unfold nameN; rw [← bytes_length]; exact spanL_le _ _
 have hd : digN s ≤ s.size := by unfold digN; rw [← bytes_length]; exact spanL_le _ _
 unfold tokenL at hok ⊢
 by_cases c1 : letter ((bytes s).getD 0 0) = true
 ·rw [if_pos c1]
  exact ⟨hsp more (by unfold more; rw [c1]; rfl), hn⟩
 ·rw [if_neg c1] at hok ⊢
  by_cases c2 : digit ((bytes s).getD 0 0) = true
  ·rw [if_pos c2] at hok ⊢
   split
   ·exact ⟨hsp digit c2, hd⟩
   ·exact ⟨hsp digit c2, hd⟩
  ·rw [if_neg c2] at hok ⊢
   by_cases c3 : ((bytes s).getD 0 0 == 59) = true
   ·rw [if_pos c3]
    exact ⟨Nat.one_pos, h⟩
   ·rw [if_neg c3] at hok
    cases hok
end Go.Proofs.YtdgfjpbjiccllaaGreatDoor.X
namespace Go.Proofs.YtdgfjpbjiccllaaGreatDoor.X
open Go.RowKit
set_option maxRecDepth 100000
theorem results_three {fn : Func} {t u v : Tmp} (h : fn.results = #[.tmp t, .tmp u, .tmp v]) (tmps : Array Value) (P : Program) (w : World) :
  (results fn tmps).run P w = .ok (.tuple #[tmps.getD t undef, tmps.getD u undef, tmps.getD v undef]) w := by
 simp [results, h]
end Go.Proofs.YtdgfjpbjiccllaaGreatDoor.X
namespace Go.Proofs.YtdgfjpbjiccllaaGreatDoor.X
open Go.RowKit
open YtdgfjpbjiccllaaGreatDoorW.PrintWords YtdgfjpbjiccllaaGreatDoorW.PrintLast YtdgfjpbjiccllaaGreatDoorW.PrintMore
set_option maxRecDepth 100000
theorem Tryz.info116 : (Tryz.prog.info? 116).map (fun i => (i.zero, i.size, i.bytes)) = some (some (.agg #[.int .i64 0, .string ⟨#[]⟩, .int .i64 0, .int .i64 0]), 4, 40) := by kernel_rfl
def t4s (l : List T4) : List Value := l.flatMap T4.cells
theorem t4s_snoc (l : List T4) (x : T4) : t4s (l ++ [x]) = t4s l ++ x.cells := by simp [t4s]
theorem code_mono {c : Code} {P : Program} {Q Q' : Exit → Act → World → Prop} {a : Act} {w : World} (hc : c.wp P Q a w) (h : ∀ e a w, Q e a w → Q' e a w) : c.wp P Q' a w := by
 intro b k cs
 obtain ⟨e, a', w', hq, harr⟩ := hc b k cs
 exact ⟨e, a', w', h _ _ _ hq, harr⟩
theorem scope_once {P : Program} {a : Act} {w : World} {Q : Exit → Act → World → Prop} {c rest : Code} (l : Nat) (J : Act → World → Prop) (μ : Act → World → Nat) (hf : findLabel c l = some (Code.skip.seq rest))
  (pass : ∀ a w, J a w → rest.wp P (Exit.jump l (fun a' w' => J a' w' ∧ μ a' w' < μ a w) Q) a w)
  (first : Hid (∀ a w, J a w → rest.wp P (Exit.jump l J Q) a w) → c.wp P (Exit.jump l J Q) a w) : (Code.scope c).wp P Q a w := by
 refine wp_scope_jumps l J μ hf (first (Lib.hid fun a w hJ => code_mono (pass a w hJ) fun e a' w' h => ?_)) fun a w hJ => wp_seq (wp_skip (pass a w hJ))
 cases e with
 | goto l' => exact ⟨h.1, h.2.1⟩
 | _ => exact h
structure TJ (w wr : World) (s : ByteArray) (R : List T4 × Nat × Int) (a tb : Nat) (v : Value) (l : List T4) : Prop where
 le : a ≤ s.size
 ll : l.length ≤ a
 own : wr.ownsRow w.heap.size 116 4 v l.length (t4s l)
 t : ∃ k x n p, Blk wr tb 116 #[.int .i64 k, .string x, .int .i64 n, .int .i64 p]
 bt : w.heap.size ≤ tb
 nb : v.ownBlock ≠ some tb
 below : Below w.heap.size w wr
 res : ∃ f, s.size + 1 - a ≤ f ∧ toks f s a l = R
def JT (w : World) (s : ByteArray) (R : List T4 × Nat × Int) (a' : Act) (wr : World) : Prop :=
 ∃ (a tb : Nat) (v : Value) (l : List T4) (u1 u6 u7 u8 u9 u10 u11 u12 u13 u14 u15 u16 u17 u18 u19 u20 u21 u22 u23 u24 u25 u26 u27 u28 u29 u30 u31 u32 u33 u34 u35 u36 u37 u38 u39 u40 u41 u42 u43 u44 u45 u46 u47 u48 u49 : Value), TJ w wr s R a tb v l ∧ a' = { tmps := #[.string s, u1, v, .int .i64 a, .int .i64 0, .pointer (some ⟨tb, 0, none⟩), u6, u7, u8, u9, u10, u11, u12, u13, u14, u15, u16, u17, u18, u19, u20, u21, u22, u23, u24, u25, u26, u27, u28, u29, u30, u31, u32, u33, u34, u35, u36, u37, u38, u39, u40, u41, u42, u43, u44, u45, u46, u47, u48, u49], defers := [] }
set_option maxHeartbeats 8000000 in
theorem tokens_any (s : ByteArray) (h : s.size ≤ 4000) (w : World) (htab : Lib.TabIs Tryz.prog w "strings.asciiSpace" .u8 Lib.asciiSpaceTab) (R : List T4 × Nat × Int) (hR : tokens s = R) :
  Calls Tryz.prog 54 #[.string s] w fun e w' => ∃ v, e = .returned (.tuple #[v, .int .i64 R.2.1, .int .i64 R.2.2]) ∧ w'.ownsRow w.heap.size 116 4 v R.1.length (t4s R.1) ∧ Below w.heap.size w w' := by
 have HTB := Lib.hid (Lib.tabBelow_of_tabIs htab)
 have HR := Lib.hid hR
 clear htab hR
 go_enter Tryz.func54, Tryz.ntmps54
 go_wp2
 refine scope_once 0 (JT w s R) (fun a' _ => s.size - (intOf (a'.tmps.getD 3 undef)).toNat) (by rfl) ?_ ?_
 ·rintro a' wr ⟨a, tb, v, l, u1, u6, u7, u8, u9, u10, u11, u12, u13, u14, u15, u16, u17, u18, u19, u20, u21, u22, u23, u24, u25, u26, u27, u28, u29, u30, u31, u32, u33, u34, u35, u36, u37, u38, u39, u40, u41, u42, u43, u44, u45, u46, u47, u48, u49, H, rfl⟩
  obtain ⟨i0, hi0, hz0, hz1, hz2⟩ := info_parts Tryz.info116
  have Hz0 := Lib.hid hz0; clear hz0
  have Hz1 := Lib.hid hz1; clear hz1
  have Hz2 := Lib.hid hz2; clear hz2
  have Hi := Lib.hid hi0; clear hi0
  have hale := H.le
  have HH := Lib.hid H
  by_cases ce : a = s.size
  ·obtain ⟨f, hf, hr⟩ := H.res
   obtain ⟨f, rfl⟩ : ∃ f', f = f' + 1 := ⟨f - 1, by omega⟩
   unfold toks at hr
   rw [if_pos ce] at hr
   have HRR := Lib.hid hr
   have ee : ((a : Int) == (s.size : Int)) = true := by rw [ce]; simp
   have hll := H.ll
   have hwr := H.below.size
   have HV := Lib.hid (H.own.alloc (.cells #[.int .i64 4, .string ⟨#[]⟩, .int .i64 0, .int .i64 a] 116))
   have H1 : Hid (∀ j u, [Value.int .i64 4, .string ⟨#[]⟩, .int .i64 0, .int .i64 a][j]? = some u → (wr.alloc (.cells #[.int .i64 4, .string ⟨#[]⟩, .int .i64 0, .int .i64 a] 116)).cell? ((⟨wr.heap.size, 0, none⟩ : Addr).add j) = some u) :=
    cells_new (l := [Value.int .i64 4, .string ⟨#[]⟩, .int .i64 0, .int .i64 a])
   have H2 : Hid (∀ u ∈ [Value.int .i64 4, .string ⟨#[]⟩, .int .i64 0, .int .i64 a], u.oneCell' = true) := by
    intro u hu
    simp at hu
    rcases hu with rfl | rfl | rfl | rfl <;> rfl
   have H3 : Hid (l.length + 1 ≤ maxLen) := by unfold Hid maxLen; omega
   have H4 : Hid ((l.length + 1) * 40 ≤ 140737488355328) := by unfold Hid; omega
   have H5 : Hid (w.heap.size ≤ (wr.alloc (.cells #[.int .i64 4, .string ⟨#[]⟩, .int .i64 0, .int .i64 a] 116)).heap.size) := by unfold Hid; simp; omega
   clear H hr hf ce hll hwr
   go_wp2_with (at_builtin; refine wpList_append_own_at _ rfl (.tmp 15) (.tmp 18) 107 rfl w.heap.size 116 i0 _ 4 40 Tryz.underlying107 Hi.out Hz0.out Hz1.out Hz2.out rfl (Nat.succ_pos 3) v l.length (t4s l) rfl HV.out ⟨wr.heap.size, 0, none⟩ 1 1 [.int .i64 4, .string ⟨#[]⟩, .int .i64 0, .int .i64 a] rfl rfl H1.out H2.out H3.out H4.out H5.out ?_; intro v' w' own gr _ _)
   simp only [Exit.jump]
   refine bodyPost_ret (results_three rfl _ _ _) rfl ⟨v', ?_, ?_, ?_⟩
   ·rw [← HRR.out]; rfl
   ·rw [← HRR.out]
    simp only [t4s_snoc, List.length_append, List.length_singleton]
    exact own
   ·exact (HH.out.below.alloc HH.out.below.size _).grown gr (by simp; have := HH.out.below.size; omega) (fun k hk => by
     rcases HH.out.own.2 with ⟨h0, _⟩ | ⟨g, c, cur, h0, hb, _⟩
     ·rw [h0] at hk; simp [Value.ownBlock] at hk
     ·rw [h0] at hk; simp [Value.ownBlock] at hk; omega)
  ·have hlt : a < s.size := by omega
   have hrs := rest_size s a (by omega)
   obtain ⟨f, hf, hr⟩ := H.res
   obtain ⟨f, rfl⟩ : ∃ f', f = f' + 1 := ⟨f - 1, by omega⟩
   unfold toks at hr
   rw [if_neg ce] at hr
   have ee : ((a : Int) == (s.size : Int)) = false := by simp; omega
   have hgap := gap_any (restOf s a) (by omega) (by omega) wr
   obtain ⟨g, hg⟩ : ∃ g, gapL (bytes (restOf s a)) = g := ⟨_, rfl⟩
   have hgl : g ≤ s.size - a := by
    have := gapL_le (bytes (restOf s a)) (by rw [bytes_length]; omega)
    rw [bytes_length, hrs, hg] at this
    exact this
   rw [hg] at hgap hr
   have HG := Lib.hid hgap
   have HRS := Lib.hid hrs
   have h4 : s.size ≤ 4000 := h
   by_cases cg : 0 < g
   ·rw [if_pos cg] at hr
    have HRR := Lib.hid hr
    have cgi : (0 : Int) < (g : Int) := by omega
    have hag : a + g ≤ 4000 := by omega
    clear H hr ce hg hgap hrs
    go_wp2_with (go_at_call 94; refine (HG.out).mono ?_; rintro e w' ⟨rfl, rfl⟩)
    go_step3
    have ew : IntKind.i64.wrap ((a : Int) + (g : Int)) = ((a + g : Nat) : Int)   := by rw [IntWalk.i64_in _ (by omega)]; omega
    first | rw [ew] | skip
    refine ⟨rfl, ⟨a + g, tb, v, l, _, _, _, _, _, _, _, _, _, _, _, _, _, _, _, _, _, _, _, _, _, _, _, _, _, _, _, _, _, _, _, _, _, _, _, _, _, _, _, _, _, _, _, _, _, ⟨by omega, by have := HH.out.ll; omega, HH.out.own, HH.out.t, HH.out.bt, HH.out.nb, HH.out.below, ⟨f, by omega, HRR.out⟩⟩, rfl⟩, ?_⟩
    show s.size - (intOf (.int .i64 ((a + g : Nat) : Int))).toNat < s.size - (intOf (.int .i64 (a : Int))).toNat
    simp only [intOf, Int.toNat_natCast]
    omega
   ·rw [if_neg cg] at hr
    have HRR := Lib.hid hr
    have cgi : ¬ (0 : Int) < (g : Int) := by omega
    obtain ⟨tk, tx, tn, tp, hT⟩ := H.t
    have hbt := H.bt
    have htl := hT.lt
    have htk := token_any (restOf s a) (by omega) (by omega) wr (HTB.out wr H.below)
    obtain ⟨K, hK⟩ : ∃ K, tokenL (restOf s a) = K := ⟨_, rfl⟩
    have htl' := tokenL_len (restOf s a) (by omega)
    rw [hK] at htk hr htl'
    rw [hrs] at htl'
    have HTK := Lib.hid htk
    have HHT := Lib.hid hT
    have hte : wr.heap.size = wr.heap.size := rfl
    cases hok : K.ok with
    | true =>
     rw [if_pos hok] at hr
     obtain ⟨q1, q2⟩ := htl' hok
     obtain ⟨Kk, Ks, Kn, Kl, Ko⟩ := K
     simp only at hok q1 q2 hr
     subst hok
     have HRR := Lib.hid hr
     have hag : a + Kl ≤ 4000 := by omega
     clear H hr ce hg hgap hrs htk hT htl' hK hte
     unfold Tk.v tok at HTK
     go_upto_region 15 with (first | (go_at_call 94; refine (HG.out).mono ?_; rintro e w' ⟨rfl, rfl⟩) | (go_at_call 95; refine (HTK.out).mono ?_; rintro e w2 ⟨rfl, hb⟩; have D := HHT.out.below hb htl; have g0 := D.cell 0; have g1 := D.cell 1; have g2 := D.cell 2; have g3 := D.cell 3; have f0 := D.frozen 0; have f1 := D.frozen 1; have f2 := D.frozen 2; have f3 := D.frozen 3))
     clear g0 g1 g2 g3 f0 f1 f2 f3
     have ND := Lib.hid (((((D.set_ 0 (.int .i64 Kk)).set_ 1 (.string Ks)).set_ 2 (.int .i64 Kn)).set_ 3 (.int .i64 0)).set_ 3 (.int .i64 (a : Int)))
     have hf2 : Below wr.heap.size wr w2 := hb
     have hw0 := HH.out.below.size
     have NB := Lib.hid ((((((HH.out.below.trans (hb.mono hw0)).setCell hbt (.int .i64 Kk) (p := ⟨tb, 0, none⟩)).setCell hbt (.string Ks) (p := ⟨tb, 1, none⟩)).setCell hbt (.int .i64 Kn) (p := ⟨tb, 2, none⟩)).setCell hbt (.int .i64 0) (p := ⟨tb, 3, none⟩)).setCell hbt (.int .i64 (a : Int)) (p := ⟨tb, 3, none⟩))
     have hv2 : w2.ownsRow w.heap.size 116 4 v l.length (t4s l) := by
      refine ⟨HH.out.own.1, ?_⟩
      rcases HH.out.own.2 with h0 | ⟨g', c, cur, hv, hgb, hh, rest⟩
      ·exact .inl h0
      ·exact .inr ⟨g', c, cur, hv, hgb, (hb.block g' (Blk.lt (t := 116) hh)).trans hh, rest⟩
     have NV := Lib.hid (own_far (own_far (own_far (own_far (own_far hv2 HH.out.nb (o := 0) (.int .i64 Kk)) HH.out.nb (o := 1) (.string Ks)) HH.out.nb (o := 2) (.int .i64 Kn)) HH.out.nb (o := 3) (.int .i64 0)) HH.out.nb (o := 3) (.int .i64 (a : Int)))
     have hs2 := hb.size
     have hs3 : (((((w2.setCell ⟨tb, 0, none⟩ (.int .i64 Kk)).setCell ⟨tb, 1, none⟩ (.string Ks)).setCell ⟨tb, 2, none⟩ (.int .i64 Kn)).setCell ⟨tb, 3, none⟩ (.int .i64 0)).setCell ⟨tb, 3, none⟩ (.int .i64 (a : Int))).heap.size = w2.heap.size := by simp [World.setCell]
     obtain ⟨w3, hw3⟩ : ∃ w3, ((((w2.setCell ⟨tb, 0, none⟩ (.int .i64 Kk)).setCell ⟨tb, 1, none⟩ (.string Ks)).setCell ⟨tb, 2, none⟩ (.int .i64 Kn)).setCell ⟨tb, 3, none⟩ (.int .i64 0)).setCell ⟨tb, 3, none⟩ (.int .i64 (a : Int)) = w3 := ⟨_, rfl⟩
     rw [hw3] at ND NB NV hs3 ⊢
     have q0 : w3.cell? ⟨tb, 0, none⟩ = some (.int .i64 Kk) := ND.out.cell 0
     have q1' : w3.cell? ⟨tb, 1, none⟩ = some (.string Ks) := ND.out.cell 1
     have q2' : w3.cell? ⟨tb, 2, none⟩ = some (.int .i64 Kn) := ND.out.cell 2
     have q3 : w3.cell? ⟨tb, 3, none⟩ = some (.int .i64 (a : Int)) := ND.out.cell 3
     have htl3 : tb < w3.heap.size := by omega
     have hwl3 : w.heap.size ≤ w3.heap.size := by omega
     have hll := HH.out.ll
     have HV := Lib.hid (NV.out.alloc (.cells #[.int .i64 Kk, .string Ks, .int .i64 Kn, .int .i64 a] 116))
     have H1 : Hid (∀ j u, [Value.int .i64 Kk, .string Ks, .int .i64 Kn, .int .i64 a][j]? = some u → (w3.alloc (.cells #[.int .i64 Kk, .string Ks, .int .i64 Kn, .int .i64 a] 116)).cell? ((⟨w3.heap.size, 0, none⟩ : Addr).add j) = some u) :=
      cells_new (l := [Value.int .i64 Kk, .string Ks, .int .i64 Kn, .int .i64 a])
     have H2 : Hid (∀ u ∈ [Value.int .i64 Kk, .string Ks, .int .i64 Kn, .int .i64 a], u.oneCell' = true) := by
      intro u hu
      simp at hu
      rcases hu with rfl | rfl | rfl | rfl <;> rfl
     have H3 : Hid (l.length + 1 ≤ maxLen) := by unfold Hid maxLen; omega
     have H4 : Hid ((l.length + 1) * 40 ≤ 140737488355328) := by unfold Hid; omega
     have H5 : Hid (w.heap.size ≤ (w3.alloc (.cells #[.int .i64 Kk, .string Ks, .int .i64 Kn, .int .i64 a] 116)).heap.size) := by unfold Hid; simp; omega
     have HN := Lib.hid HH.out.nb
     have HS := Lib.hid htl3
     have HSW := Lib.hid hwl3
     have HB3 := Lib.hid hbt
     clear hv2 hs2 hs3 hw3 hf2 hw0 hb D htl3 hwl3
     go_wp2_with (at_builtin; refine wpList_append_own_at _ rfl (.tmp 43) (.tmp 45) 107 rfl w.heap.size 116 i0 _ 4 40 Tryz.underlying107 Hi.out Hz0.out Hz1.out Hz2.out rfl (Nat.succ_pos 3) v l.length (t4s l) rfl HV.out ⟨w3.heap.size, 0, none⟩ 1 1 [.int .i64 Kk, .string Ks, .int .i64 Kn, .int .i64 a] rfl rfl H1.out H2.out H3.out H4.out H5.out ?_; intro v' w' own gr _ wh)
     go_step3
     have ew : IntKind.i64.wrap ((a : Int) + (Kl : Int)) = ((a + Kl : Nat) : Int) := by rw [IntWalk.i64_in _ (by omega)]; omega
     first | rw [ew] | skip
     have hs3' : (w3.alloc (.cells #[.int .i64 Kk, .string Ks, .int .i64 Kn, .int .i64 a] 116)).heap.size = w3.heap.size + 1 := by simp
     refine ⟨rfl, ⟨a + Kl, tb, v', l ++ [⟨Kk, Ks, Kn, a⟩], _, _, _, _, _, _, _, _, _, _, _, _, _, _, _, _, _, _, _, _, _, _, _, _, _, _, _, _, _, _, _, _, _, _, _, _, _, _, _, _, _, _, _, _, _, ⟨by omega, by simp; omega, ?_, ?_, hbt, ?_, ?_, ⟨f, by omega, HRR.out⟩⟩, rfl⟩, ?_⟩
     ·rw [t4s_snoc, List.length_append]
      exact own
     ·exact ⟨Kk, Ks, Kn, a, (ND.out.alloc _).grown gr (fun e => HN.out e.symm)⟩
     ·rcases wh with e | e
      ·rw [e]; exact HN.out
      ·rw [e]
       intro e
       injection e with e
       have := HS.out
       omega
     ·refine (NB.out.alloc HSW.out _).grown gr (by have := HSW.out; omega) (fun k hk => ?_)
      rcases HH.out.own.2 with ⟨h0, _⟩ | ⟨g, c, cur, h0, hb, _⟩
      ·rw [h0] at hk; simp [Value.ownBlock] at hk
      ·rw [h0] at hk; simp [Value.ownBlock] at hk; omega
     ·show s.size - (intOf (.int .i64 ((a + Kl : Nat) : Int))).toNat < s.size - (intOf (.int .i64 (a : Int))).toNat
      simp only [intOf, Int.toNat_natCast]
      omega
    | false =>
     rw [if_neg (by rw [hok]; decide)] at hr
     obtain ⟨Kk, Ks, Kn, Kl, Ko⟩ := K
     simp only at hok
     subst hok
     have HRR := Lib.hid hr
     clear H hr ce hg hgap hrs htk hT htl' hK hte
     unfold Tk.v tok at HTK
     go_wp2_with (first | (go_at_call 94; refine (HG.out).mono ?_; rintro e w' ⟨rfl, rfl⟩) | (go_at_call 95; refine (HTK.out).mono ?_; rintro e w2 ⟨rfl, hb⟩; have D := HHT.out.below hb htl; have g0 := D.cell 0; have g1 := D.cell 1; have g2 := D.cell 2; have g3 := D.cell 3; have f0 := D.frozen 0; have f1 := D.frozen 1; have f2 := D.frozen 2; have f3 := D.frozen 3))
     simp only [Exit.jump]
     refine bodyPost_ret (results_three rfl _ _ _) rfl ⟨.slice none 0 0, ?_, ?_, ?_⟩
     ·rw [← HRR.out]; rfl
     ·rw [← HRR.out]
      exact World.ownsRow_nil _ _ _ _
     ·exact ((((HH.out.below.trans (hb.mono HH.out.below.size)).setCell hbt _).setCell hbt _).setCell hbt _).setCell hbt _
 ·intro hp
  go_wp2
  go_step3
  rename_i hk
  refine hk _ _ ?_
  refine hp.out _ _ ?_
  have HQ : TJ w (w.alloc (.cells #[.int .i64 0, .string ⟨#[]⟩, .int .i64 0, .int .i64 0] 116)) s R 0 w.heap.size (.slice none 0 0) [] := by
   refine ⟨Nat.zero_le _, Nat.le_refl _, World.ownsRow_nil _ _ _ _, ⟨_, _, _, _, Blk.new w 116 #[.int .i64 0, .string ⟨#[]⟩, .int .i64 0, .int .i64 0]⟩, Nat.le_refl _, by simp [Value.ownBlock], (Below.refl _ _).alloc (Nat.le_refl _) _, ?_⟩
   have hr := HR.out
   unfold tokens at hr
   rw [if_neg (by omega)] at hr
   exact ⟨_, by omega, hr⟩
  exact ⟨0, w.heap.size, .slice none 0 0, [], _, _, _, _, _, _, _, _, _, _, _, _, _, _, _, _, _, _, _, _, _, _, _, _, _, _, _, _, _, _, _, _, _, _, _, _, _, _, _, _, _, _, _, _, _, HQ, rfl⟩
end Go.Proofs.YtdgfjpbjiccllaaGreatDoor.X
