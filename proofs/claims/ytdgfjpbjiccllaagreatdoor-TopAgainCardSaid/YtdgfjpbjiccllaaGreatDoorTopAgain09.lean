/- Joined texts: Bits, Cache. -/
import Derived.Test.YtdgfjpbjiccllaaGreatDoorTopAgain06
import Derived.Shelf.Spec.TrailingZeros
import Derived.Laws.Bits64b
namespace Go.Proofs.YtdgfjpbjiccllaaGreatDoor
open Go.RowKit
set_option maxRecDepth 100000
def DeB (w : World) : Prop := TabAt 0 Lib.deBruijn64tab w
theorem DeB.below {w w' : World} (h : DeB w) (hB : 0 < w.heap.size) (hb : Below w.heap.size w w') : DeB w' := fun j hj => (hb.cell (p := ⟨0, j, none⟩) hB).trans (h j hj)
theorem DeB.cellB {w w' : World} {B : Nat} (h : DeB w) (hB : 0 < B) (hb : Below B w w') : DeB w' := fun j hj => (hb.cell (p := ⟨0, j, none⟩) hB).trans (h j hj)
theorem tz_core (x k idx : Nat) (w : World) (hx0 : ((x : Int) == 0) = false)
  (key : IntKind.u64.wrap (bits BinOp.and IntKind.u64 (x : Int) (IntKind.u64.wrap (-(x : Int))) * 285870213051353865) / 288230376151711744 = (idx : Int))
  (hi : idx < 64) (hk : k < 64) (hcell : w.cell? ⟨0, idx, none⟩ = some (.int .u8 k)) :
  Calls Tryz.prog 119 #[.int .u64 x] w fun e w' => e = .returned (.int .i64 k) ∧ w = w' := by
 go_enter Tryz.func119, Tryz.ntmps119
 go_wp2_with (simp only [key])
 go_ret
 exact ⟨rfl, rfl⟩
theorem tz_any (x : Nat) (hx : x < 18446744073709551616) (h0 : x ≠ 0) (w : World) (hT : DeB w) :
  Calls Tryz.prog 119 #[.int .u64 x] w fun e w' => e = .returned (.int .i64 (Lib.ctz 64 x)) ∧ w = w' := by
 obtain ⟨hlow, hk⟩ := Lib.lowest_bit 64 x h0 hx
 obtain ⟨hi, htab⟩ := Lib.deBruijn64_at _ hk
 have hcell := hT _ hi
 rw [htab] at hcell
 exact tz_core x _ _ w (by simp; omega) (tz64_key x _ hx h0 hlow) hi hk hcell
def bitsF : Nat → Nat → List Nat
 | 0, _ => []
 | f + 1, y => if y = 0 then [] else Lib.ctz 64 y :: bitsF f (y &&& (y - 1))
def bitsL (x : Nat) : List Nat := bitsF 64 x
theorem and_even (x : Nat) (h : 0 < x) : (2 * x) &&& (2 * x - 1) = 2 * (x &&& (x - 1)) := by
 apply Nat.eq_of_testBit_eq
 intro i
 cases i with
 | zero => simp [Nat.testBit_zero]
 | succ i =>
  rw [Nat.testBit_and, Nat.testBit_succ, Nat.testBit_succ, Nat.testBit_succ, show 2 * x / 2 = x from by omega, show (2 * x - 1) / 2 = x - 1 from by omega, show 2 * (x &&& (x - 1)) / 2 = x &&& (x - 1) from by omega, Nat.testBit_and]
theorem and_odd (m : Nat) : (2 * m + 1) &&& (2 * m) = 2 * m := by
 apply Nat.eq_of_testBit_eq
 intro i
 cases i with
 | zero => simp [Nat.testBit_zero]
 | succ i =>
  rw [Nat.testBit_and, Nat.testBit_succ, Nat.testBit_succ, show (2 * m + 1) / 2 = m from by omega, show 2 * m / 2 = m from by omega, Bool.and_self]
theorem and_pred (k m : Nat) : (2 ^ k * (2 * m + 1)) &&& (2 ^ k * (2 * m + 1) - 1) = 2 ^ k * (2 * m) := by
 induction k with
 | zero => simp; exact and_odd m
 | succ k ih =>
  have hp : 0 < 2 ^ k := Nat.two_pow_pos k
  have e : 2 ^ (k + 1) * (2 * m + 1) = 2 * (2 ^ k * (2 * m + 1)) := by rw [Nat.pow_succ, Nat.mul_comm (2 ^ k) 2, Nat.mul_assoc]
  rw [e, and_even _ (Nat.mul_pos hp (by omega)), ih, Nat.pow_succ, Nat.mul_comm (2 ^ k) 2, Nat.mul_assoc]
theorem ctz_spec (y : Nat) (h0 : y ≠ 0) (h : y < 18446744073709551616) : ∃ m, y = 2 ^ Lib.ctz 64 y * (2 * m + 1) ∧ Lib.ctz 64 y < 64 ∧ y &&& (y - 1) = 2 ^ Lib.ctz 64 y * (2 * m) := by
 obtain ⟨m, hm, hk⟩ := Lib.ctzFrom_spec 64 y (by omega) h
 have e : Lib.ctz 64 y = Lib.ctzFrom 64 y := by unfold Lib.ctz; rw [if_neg h0]
 rw [e]
 refine ⟨m, hm, hk, ?_⟩
 conv => lhs; rw [hm]
 exact and_pred _ m
theorem and_lt (y : Nat) (h0 : y ≠ 0) : y &&& (y - 1) < y := by
 have := Nat.and_le_right (n := y) (m := y - 1)
 omega
theorem pow_le_of_dvd {j k m : Nat} (h : 2 ^ j ∣ 2 ^ k * (2 * m + 1)) : j ≤ k := by
 apply Nat.le_of_not_lt
 intro hlt
 obtain ⟨d, rfl⟩ : ∃ d, j = k + (d + 1) := ⟨j - k - 1, by omega⟩
 rw [Nat.pow_add, Nat.mul_dvd_mul_iff_left (Nat.two_pow_pos k), Nat.pow_succ] at h
 have : 2 ∣ 2 * m + 1 := Nat.dvd_trans (Nat.dvd_mul_left 2 (2 ^ d)) h
 omega
theorem dvd_next {j y : Nat} (h0 : y ≠ 0) (h : y < 18446744073709551616) (hd : 2 ^ j ∣ y) : 2 ^ (j + 1) ∣ y &&& (y - 1) := by
 obtain ⟨m, hm, hk, ha⟩ := ctz_spec y h0 h
 rw [ha]
 have hj : j ≤ Lib.ctz 64 y := pow_le_of_dvd (m := m) (by rw [← hm]; exact hd)
 have e : 2 ^ Lib.ctz 64 y * (2 * m) = 2 ^ (Lib.ctz 64 y + 1) * m := by rw [Nat.pow_succ, Nat.mul_assoc]
 rw [e]
 exact Nat.dvd_trans (Nat.pow_dvd_pow 2 (by omega)) (Nat.dvd_mul_right _ _)
theorem bitsF_lt : ∀ (f y : Nat), y < 18446744073709551616 → ∀ i ∈ bitsF f y, i < 64
 | 0, _, _, i, h => by simp [bitsF] at h
 | f + 1, y, hy, i, h => by
  unfold bitsF at h
  split at h
  ·simp at h
  ·rename_i h0
   rcases List.mem_cons.1 h with rfl | h
   ·exact (ctz_spec y h0 hy).choose_spec.2.1
   ·exact bitsF_lt f _ (Nat.lt_trans (and_lt y h0) hy) i h
theorem bitsL_lt (x : Nat) (h : x < 18446744073709551616) : ∀ i ∈ bitsL x, i < 64 := bitsF_lt 64 x h
theorem bitsF_len : ∀ (f y : Nat), (bitsF f y).length ≤ f
 | 0, _ => by simp [bitsF]
 | f + 1, y => by
  unfold bitsF
  split
  ·simp
  ·simp only [List.length_cons]
   have := bitsF_len f (y &&& (y - 1))
   omega
def nums (l : List Nat) : List Value := l.map fun (i : Nat) => Value.int .i64 (i : Int)
theorem nums_snoc (l : List Nat) (i : Nat) : nums (l ++ [i]) = nums l ++ [.int .i64 (i : Int)] := by simp [nums]
theorem Tryz.info3 : (Tryz.prog.info? 3).map (fun i => (i.zero, i.size, i.bytes)) = some (some (.int .i64 0), 1, 8) := by kernel_rfl
set_option maxHeartbeats 4000000 in
theorem list_any (x : Nat) (hx : x < 18446744073709551616) (w : World) (hT : DeB w) (h0 : 0 < w.heap.size) :
  Calls Tryz.prog 75 #[.int .u64 x] w fun e w' => ∃ v, e = .returned v ∧ w'.ownsRow w.heap.size 3 1 v (bitsL x).length (nums (bitsL x)) ∧ Below w.heap.size w w' := by
 obtain ⟨i0, hi0, hz0, hz1, hz2⟩ := info_parts Tryz.info3
 have Hz0 := Lib.hid hz0; clear hz0
 have Hz1 := Lib.hid hz1; clear hz1
 have Hz2 := Lib.hid hz2; clear hz2
 have Hi := Lib.hid hi0; clear hi0
 have HT := Lib.hid hT
 clear hT
 go_enter Tryz.func75, Tryz.ntmps75
 go_wp2_with fail
 go_loopw [0, 3] (fun z l wr => ∃ (y : Nat) (acc : List Nat) (f : Nat) (v : Value), v = l ∧ y < 18446744073709551616 ∧ z = .int .u64 y ∧ acc.length + f = 64 ∧ acc ++ bitsF f y = bitsL x ∧ 2 ^ acc.length ∣ y ∧ wr.ownsRow w.heap.size 3 1 l acc.length (nums acc) ∧ Below w.heap.size w wr) (fun z _ _ => (intOf z).toNat)
 case atStart => exact ⟨x, [], 64, _, rfl, hx, rfl, rfl, rfl, by simp, by simpa [nums] using World.ownsRow_nil _ _ _ _, Below.refl _ _⟩
 case round =>
  obtain ⟨y, acc, f, v, rfl, hy, rfl, hf, hacc, hd, hO, hW⟩ := hrel
  have HA := Lib.hid hacc
  clear hacc
  by_cases hz : y = 0
  ·subst hz
   have e : acc = bitsL x := by
    rw [← HA.out]
    cases f <;> simp [bitsF]
   have HE := Lib.hid e
   clear e hd
   go_wp2_with fail
   go_ret
   refine ⟨_, rfl, ?_, hW⟩
   rw [← HE.out]
   exact hO
  ·have hd2 := dvd_next hz hy hd
   have hlt := and_lt y hz
   have hf0 : f ≠ 0 := by
    intro e
    rw [show acc.length = 64 from by omega] at hd
    exact hz (Nat.eq_zero_of_dvd_of_lt hd hy)
   obtain ⟨f', rfl⟩ : ∃ f', f = f' + 1 := ⟨f - 1, by omega⟩
   have hstep : acc ++ [Lib.ctz 64 y] ++ bitsF f' (y &&& (y - 1)) = bitsL x := by
    rw [← HA.out, List.append_assoc]
    congr 1
    conv => rhs; unfold bitsF
    rw [if_neg hz]
    rfl
   have hand : bits BinOp.and IntKind.u64 (y : Int) ((y : Int) - 1) = ((y &&& (y - 1) : Nat) : Int) := by
    have := bits_and_u64_nat y (y - 1) hy (by omega)
    rwa [show (((y - 1 : Nat) : Nat) : Int) = (y : Int) - 1 from by omega] at this
   have hne : ((y : Int) != 0) = true := by simp; omega
   have hne2 : ((y : Int) == 0) = false := by simp; omega
   have hT1 := HT.out.cellB h0 hW
   have h1 := tz_any y hy hz wr hT1
   obtain ⟨c, hc⟩ : ∃ c, Lib.ctz 64 y = c := ⟨_, rfl⟩
   rw [hc] at h1 hstep
   obtain ⟨y', hy'⟩ : ∃ y', y &&& (y - 1) = y' := ⟨_, rfl⟩
   rw [hy'] at hstep hand hd2 hlt
   have HS := Lib.hid hstep
   have HD := Lib.hid hd2
   have hb : acc.length ≤ 63 := by omega
   have hl1 : (0 : Int) ≤ (y : Int) - 1 := by omega
   clear hstep hd2 hd HA hc hy' hT1
   go_wp2_with (first
    | (go_at_call 119; refine h1.mono ?_; rintro e w' ⟨rfl, rfl⟩)
    | (at_builtin; refine wpList_append_own_at _ rfl (.tmp 10) (.tmp 13) 86 rfl w.heap.size 3 i0 _ 1 8 Tryz.underlying86 Hi.out Hz0.out Hz1.out Hz2.out rfl (by decide) v acc.length (nums acc) rfl (hO.alloc _) ⟨wr.heap.size, 0, none⟩ 1 1 [.int .i64 (c : Int)] rfl rfl ?c1 ?c2 (by unfold maxLen; omega) (by omega) (by have := hW.size; simp; omega) ?c3))
   case c1 =>
    intro j u hj
    rw [add_none, Nat.zero_add, (Blk.new wr 3 _).cell j]
    simpa using hj
   case c2 =>
    intro u hu
    simp at hu
    rw [hu]
    rfl
   case c3 =>
    intro v' w' hown hgr _ _
    have hW2 := below_only (hW.alloc hW.size _) (Nat.le_refl _) hgr (fun q e => by
     have h := hO.2
     rcases h with ⟨rfl, _⟩ | ⟨g, cap, cur, rfl, hb, _⟩
     ·simp [Value.ownBlock] at e
     ·simp [Value.ownBlock] at e
      omega)
    have hown2 : w'.ownsRow w.heap.size 3 1 v' (acc ++ [c]).length (nums (acc ++ [c])) := by
     rw [nums_snoc, List.length_append]
     exact hown
    have HO := Lib.hid hown2
    clear hown hown2 hgr hO hW h1
    go_wp2_with fail
    exact ⟨⟨y', acc ++ [c], f', _, rfl, by omega, rfl, by simp; omega, HS.out, by simpa using HD.out, HO.out, hW2⟩, by simp [intOf]; omega⟩
def intsV (l : List Int) : List Value := l.map fun z => Value.int .i64 z
structure CacheAt (w : World) (g : Nat) (L : List Int) : Prop where
 len : L.length = 64
 hd : Blk w g 131 (intsV L).toArray
theorem CacheAt.keep {w w' : World} {g : Nat} {L : List Int} {row : Option Nat} (h : CacheAt w g L) (hg : w.grownBy w' row) (h1 : some g ≠ row) : CacheAt w' g L := ⟨h.len, h.hd.grown hg h1⟩
theorem CacheAt.drewN {w : World} {g : Nat} {L : List Int} (h : CacheAt w g L) (n : Nat) : CacheAt (w.drewN n) g L := ⟨h.len, h.hd⟩
theorem cache_new (w : World) : Calls Tryz.prog 43 #[] w fun e w' => e = .returned (.pointer (some ⟨w.heap.size, 0, none⟩)) ∧ CacheAt w' w.heap.size (List.replicate 64 0) ∧ Below w.heap.size w w' := by
 go_enter Tryz.func43, Tryz.ntmps43
 go_wp2_with fail
 go_ret
 exact ⟨rfl, ⟨by decide, Blk.new w 131 _⟩, (Below.refl _ _).alloc (Nat.le_refl _) _⟩
theorem row_read {w : World} {base e n : Nat} {v : Value} {xs : List Value} (h : w.ownsRow base e 1 v n xs) :
  ∃ A c, v = .slice A n c ∧ n ≤ c ∧ (n = 0 ∨ ∃ b cs, A = some ⟨b, 0, none⟩ ∧ base ≤ b ∧ Blk w b e cs ∧ ∀ i, i < n → cs[i]? = xs[i]?) := by
 rcases h.2 with ⟨rfl, rfl⟩ | ⟨g, c, cur, rfl, hb, hh, hn, _, hs, ht⟩
 ·exact ⟨none, 0, rfl, Nat.le_refl _, .inl rfl⟩
 ·refine ⟨_, c, rfl, hn, .inr ⟨g, cur, rfl, hb, hh, fun i hi => ?_⟩⟩
  rw [← ht, Nat.mul_one, List.getElem?_take_of_lt hi]
  simp
def touchL (t : Int) (l : List Nat) (L : List Int) : List Int := l.foldl (fun L i => L.set i (t + 1)) L
theorem touchL_len (t : Int) : ∀ (l : List Nat) (L : List Int), (touchL t l L).length = L.length
 | [], _ => rfl
 | i :: l, L => by
  show (touchL t l (L.set i (t + 1))).length = _
  rw [touchL_len t l, List.length_set]
theorem touchL_snoc (t : Int) (l : List Nat) (i : Nat) (L : List Int) : touchL t (l ++ [i]) L = (touchL t l L).set i (t + 1) := by
 unfold touchL
 rw [List.foldl_append]
 rfl
theorem nums_at (l : List Nat) (i : Nat) (h : i < l.length) : (nums l)[i]? = some (.int .i64 (l[i] : Int)) := by simp [nums, h]
set_option maxHeartbeats 4000000 in
theorem touch_any (g : Nat) (L : List Int) (t : Int) (s : Nat) (hs : s < 18446744073709551616) (ht : 0 ≤ t) (ht8 : t ≤ 8) (w : World) (h : CacheAt w g L) (hT : DeB w) (h0 : 0 < w.heap.size) :
  Calls Tryz.prog 88 #[.pointer (some ⟨g, 0, none⟩), .int .i64 t, .int .u64 s] w fun e w' => e = .returned (.bool true) ∧ CacheAt w' g (touchL t (bitsL s) L) ∧ w.grownBy w' (some g) := by
 have hL := list_any s hs w hT h0
 have d0 : decide (t < 0) = false := by simp; omega
 have hlt := bitsL_lt s hs
 have h64 : (bitsL s).length ≤ 64 := bitsF_len 64 s
 have hgl := h.hd.lt
 obtain ⟨l, hl⟩ : ∃ l, bitsL s = l := ⟨_, rfl⟩
 rw [hl] at hL hlt h64 ⊢
 have HLT := Lib.hid hlt
 clear hl hlt
 go_enter Tryz.func88, Tryz.ntmps88
 go_wp2_with fail
 refine hL.mono ?_
 rintro e w1 ⟨v, rfl, hown, hb⟩
 obtain ⟨A, c, rfl, hnc, hrd⟩ := row_read hown
 have h1 := h.keep (only_of_below hb none) (by simp)
 have hG := only_of_below hb (some g)
 clear hL hown hb
 have HR := Lib.hid hrd
 clear hrd
 go_wp2_with fail
 go_loopw [18] (fun z wr => ∃ k : Nat, k ≤ l.length ∧ z = .int .i64 k ∧ CacheAt wr g (touchL t (l.take k) L) ∧ w1.grownBy wr (some g)) (fun z _ => l.length - (intOf z).toNat)
 case atStart => exact ⟨0, Nat.zero_le _, rfl, by simpa [touchL] using h1, World.grownBy.refl _ _⟩
 case round =>
  obtain ⟨k, hk, rfl, hC, hW⟩ := hrel
  clear h1
  by_cases hlt : k < l.length
  ·rcases HR.out with hz | ⟨b, cs, rfl, hb, hB, hcs⟩
   ·omega
   have hbg : b ≠ g := by omega
   have hB2 := hB.grown hW (by simpa using hbg)
   have hi : (nums l)[k]? = some (.int .i64 (l[k] : Int)) := nums_at l k hlt
   have q0 : wr.cell? ⟨b, k, none⟩ = some (.int .i64 (l[k] : Int)) := (hB2.cell k).trans ((hcs k hlt).trans hi)
   have hi64 := HLT.out l[k] (List.getElem_mem hlt)
   have hnext : touchL t (l.take (k + 1)) L = (touchL t (l.take k) L).set l[k] (t + 1) := by
    rw [List.take_succ_eq_append_getElem hlt, touchL_snoc]
   obtain ⟨i, hie⟩ : ∃ i, l[k] = i := ⟨_, rfl⟩
   rw [hie] at q0 hi64 hnext
   have hlen := hC.len
   obtain ⟨L1, hL1⟩ : ∃ L1, touchL t (l.take k) L = L1 := ⟨_, rfl⟩
   rw [hL1] at hC hnext hlen
   obtain ⟨x, q1⟩ : ∃ x, wr.cell? ⟨g, i, none⟩ = some (.int .i64 x) := by
    refine ⟨L1[i]'(by omega), ?_⟩
    rw [hC.hd.cell]
    simp [intsV, show i < L1.length from by omega]
   have f1 := hC.hd.frozen i
   have i0 : (0 : Int) ≤ (i : Int) := by omega
   have i1 : (i : Int) < 64 := by omega
   have k0 : (0 : Int) ≤ (k : Int) := by omega
   have k1 : (k : Int) < (l.length : Int) := by omega
   have hC2 : CacheAt (wr.setCell ⟨g, i, none⟩ (.int .i64 (t + 1))) g (L1.set i (t + 1)) := by
    refine ⟨by rw [List.length_set]; exact hlen, ?_⟩
    have := hC.hd.set_ i (.int .i64 (t + 1))
    simpa [intsV, List.map_set] using this
   have hW2 : w1.grownBy (wr.setCell ⟨g, i, none⟩ (.int .i64 (t + 1))) (some g) := only_setCell hW (p := ⟨g, i, none⟩) (.inl rfl) _
   rw [← hnext] at hC2
   have HC2 := Lib.hid hC2
   have HW2 := Lib.hid hW2
   clear hC2 hW2 hC hW hnext hlen hL1 hie hi hB hB2 hcs
   go_wp2_with fail
   go_roundw
   case rel => exact ⟨k + 1, by omega, by go_num, HC2.out, HW2.out⟩
   case measure => simp [intOf]; omega
  ·obtain rfl : k = l.length := by omega
   rw [List.take_length] at hC
   go_wp2_with fail
   go_ret
   exact ⟨rfl, hC, hG.trans hW⟩
end Go.Proofs.YtdgfjpbjiccllaaGreatDoor
