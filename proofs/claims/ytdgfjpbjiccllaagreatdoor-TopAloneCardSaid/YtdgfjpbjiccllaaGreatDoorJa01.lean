/- Joined texts: Mem, Bits, Laid. -/
import Derived.Test.YtdgfjpbjiccllaaGreatDoorRows
import Derived.WalkKit
import Derived.WalkSpells
import Derived.WalkLawsBesides
import Derived.Laws.OwnMore
import Derived.Deep.Draws
import Derived.Laws.Rows
import Derived.Lib.Hide
import Derived.Laws.MakeOwn
import Derived.Laws.AppendOwn
import Derived.Maps.AppendAt
import Derived.Deep.AppendLies
import Derived.Deep.QuietTactic
import Derived.BigQuiet
import Derived.Deep.RegionHeld3
import Derived.Shelf.Spec.TrailingZeros
import Derived.Laws.Bits64b
import Derived.ProofKit
import Derived.LaidMore
import Derived.LaidSub
import Derived.OpenShut
import Derived.Stop.Joined
import Derived.Lib.LaidTab
import Derived.Lib.Space
/- Words for memory: a block known whole, a frame that lets go of one block; no condition. -/
namespace Go.Proofs.YtdgfjpbjiccllaaGreatDoor
open Go.RowKit
def Blk (w : World) (g : Nat) (t : TypeId) (cs : Array Value) : Prop := w.heap[g]? = some (.cells cs t (0, 0))
section
variable {w w' : World} {g : Nat} {t : TypeId} {cs : Array Value}
theorem Blk.lt (h : Blk w g t cs) : g < w.heap.size := by
  rcases Nat.lt_or_ge g w.heap.size with hlt | hge
  · exact hlt
  · unfold Blk at h; rw [Array.getElem?_eq_none hge] at h; cases h
theorem Blk.cell (h : Blk w g t cs) (i : Nat) : w.cell? ⟨g, i, none⟩ = cs[i]? := cell_of_row w g i cs t (0, 0) h
theorem Blk.frozen (h : Blk w g t cs) (i : Nat) : w.frozen? ⟨g, i, none⟩ = false := by
  unfold Blk at h
  simp [World.frozen?, h]
theorem Blk.new (w : World) (t : TypeId) (cs : Array Value) : Blk (w.alloc (.cells cs t)) w.heap.size t cs := heap_alloc_new w _
theorem Blk.drew (h : Blk w g t cs) : Blk w.drew g t cs := h
theorem Blk.drewN (h : Blk w g t cs) (n : Nat) : Blk (w.drewN n) g t cs := h
theorem Blk.alloc (h : Blk w g t cs) (o : Obj) : Blk (w.alloc o) g t cs := (Below.heap_alloc w o g h.lt).trans h
theorem Blk.set_ (h : Blk w g t cs) (i : Nat) (u : Value) : Blk (w.setCell ⟨g, i, none⟩ u) g t (cs.setIfInBounds i u) := by
  unfold Blk at h ⊢
  simp [World.setCell, Array.getElem?_modify, h]
theorem Blk.far (h : Blk w g t cs) {p : Addr} (hp : g ≠ p.block) (u : Value) : Blk (w.setCell p u) g t cs := (Below.heap_setCell w p u g hp).trans h
theorem Blk.below {B : Nat} (h : Blk w g t cs) (hb : Below B w w') (hg : g < B) : Blk w' g t cs := (hb.block g hg).trans h
theorem Blk.ne_ {g' : Nat} {t' : TypeId} {cs' : Array Value} (h : Blk w g t cs) (h' : Blk w g' t' cs') (hne : t ≠ t') : g ≠ g' := by
  rintro rfl
  unfold Blk at h h'
  rw [h] at h'
  injection h' with h'
  injection h' with _ ht
  exact hne ht
end
theorem setIfInBounds_self {xs : Array Value} {i : Nat} {v : Value} (h : xs[i]? = some v) : xs.setIfInBounds i v = xs := by
  obtain ⟨hi, rfl⟩ := Array.getElem?_eq_some_iff.1 h
  ext j h1 h2
  · simp
  · simp only [Array.getElem_setIfInBounds h2]
    split
    · next h => subst h; rfl
    · rfl
section
variable {w w' : World} {g : Nat} {t : TypeId} {cs : Array Value}
theorem Blk.grown {row : Option Nat} (h : Blk w g t cs) (hb : w.grownBy w' row) (hg : some g ≠ row) : Blk w' g t cs := (hb.block g h.lt hg).trans h
theorem only_drewN {a w : World} {row : Option Nat} (h : a.grownBy w row) (n : Nat) : a.grownBy (w.drewN n) row := ⟨h.os, h.tape, h.output, h.size, h.block⟩
theorem only_alloc {a w : World} {row : Option Nat} (h : a.grownBy w row) (o : Obj) : a.grownBy (w.alloc o) row :=
  ⟨h.os, h.tape, h.output, Nat.le_trans h.size (by simp), fun i hi hne => (Below.heap_alloc w o i (Nat.lt_of_lt_of_le hi h.size)).trans (h.block i hi hne)⟩
theorem only_setCell {a w : World} {g : Nat} (h : a.grownBy w (some g)) {p : Addr} (hp : p.block = g ∨ a.heap.size ≤ p.block) (u : Value) : a.grownBy (w.setCell p u) (some g) :=
  ⟨h.os, h.tape, h.output, by simpa [World.setCell] using h.size, fun i hi hne => (Below.heap_setCell w p u i (by
    rintro rfl
    rcases hp with hp | hp
    · exact hne (by rw [hp])
    · omega)).trans (h.block i hi hne)⟩
theorem only_of_below {a w : World} (h : Below a.heap.size a w) (row : Option Nat) : a.grownBy w row := ⟨h.os, h.tape, h.output, h.size, fun i hi _ => h.block i hi⟩
theorem below_only {B : Nat} {a w w' : World} {row : Option Nat} (h : Below B a w) (hB : B ≤ a.heap.size) (hg : w.grownBy w' row) (hr : ∀ k, row = some k → B ≤ k) : Below B a w' := h.grown hg (Nat.le_trans hB h.size) hr
theorem add_none (b off j : Nat) : (⟨b, off, none⟩ : Addr).add j = ⟨b, off + j, none⟩ := by
  unfold Addr.add
  by_cases hj : j = 0 <;> simp [hj]
theorem own_blk_ne {base : Nat} {e : TypeId} {size n : Nat} {v : Value} {xs : List Value} (h : w.ownsRow base e size v n xs) (hg : Blk w g t cs) (hne : e ≠ t) : v.ownBlock ≠ some g := by
  rcases h.2 with ⟨rfl, _⟩ | ⟨g', cap, cur, rfl, _, hh, _⟩
  · simp [Value.ownBlock]
  · intro he
    have : g' = g := by simpa [Value.ownBlock] using he
    subst this
    exact Blk.ne_ (t := e) hh hg hne rfl
/-- A row of whole numbers that is read: nothing is asked where it is empty. -/
def Nums (w : World) (a : Option Addr) (zs : List Int) : Prop :=
  zs = [] ∨ ∃ b off, a = some ⟨b, off, none⟩ ∧ b < w.heap.size ∧ ∀ i (h : i < zs.length), w.cell? ⟨b, off + i, none⟩ = some (.int .i64 zs[i])
theorem Nums.grown {a : Option Addr} {zs : List Int} {row : Option Nat} (h : Nums w a zs) (hg : w.grownBy w' row) (hr : ∀ b off, a = some ⟨b, off, none⟩ → some b ≠ row) : Nums w' a zs := by
  rcases h with h | ⟨b, off, rfl, hb, hc⟩
  · exact .inl h
  · exact .inr ⟨b, off, rfl, Nat.lt_of_lt_of_le hb hg.size, fun i hi => hg.cell (hc i hi) (hr b off rfl)⟩
theorem Nums.below {a : Option Addr} {zs : List Int} (h : Nums w a zs) (hb : Below w.heap.size w w') : Nums w' a zs := by
  rcases h with h | ⟨b, off, rfl, hlt, hc⟩
  · exact .inl h
  · exact .inr ⟨b, off, rfl, Nat.lt_of_lt_of_le hlt hb.size, fun i hi => (hb.cell (p := ⟨b, off + i, none⟩) hlt).trans (hc i hi)⟩
end
end Go.Proofs.YtdgfjpbjiccllaaGreatDoor
/- What the functions of package bits come to. -/
namespace Go.Proofs.YtdgfjpbjiccllaaGreatDoor
open Go.RowKit
set_option maxRecDepth 100000
/-- The table of math/bits, as its initialiser lays it. -/
def DeB (w : World) : Prop := TabAt 0 Lib.deBruijn64tab w
theorem DeB.below {w w' : World} (h : DeB w) (hB : 0 < w.heap.size) (hb : Below w.heap.size w w') : DeB w' := fun j hj => (hb.cell (p := ⟨0, j, none⟩) hB).trans (h j hj)
theorem DeB.cellB {w w' : World} {B : Nat} (h : DeB w) (hB : 0 < B) (hb : Below B w w') : DeB w' := fun j hj => (hb.cell (p := ⟨0, j, none⟩) hB).trans (h j hj)
theorem tz_core (x k idx : Nat) (w : World) (hx0 : ((x : Int) == 0) = false)
    (key : IntKind.u64.wrap (bits BinOp.and IntKind.u64 (x : Int) (IntKind.u64.wrap (-(x : Int))) * 285870213051353865) / 288230376151711744 = (idx : Int))
    (hi : idx < 64) (hk : k < 64) (hcell : w.cell? ⟨0, idx, none⟩ = some (.int .u8 k)) :
    Calls Tryz.prog 119 #[.int .u64 x] w fun e w' => e = .returned (.int .i64 k) ∧ w = w' := by
  go_enter Tryz.func119, Tryz.ntmps119
  go_wp2_with (simp only [key])
  go_ret
  exact ⟨rfl, rfl⟩
theorem tz_any (x : Nat) (hx : x < 18446744073709551616) (h0 : x ≠ 0) (w : World) (hT : DeB w) :
    Calls Tryz.prog 119 #[.int .u64 x] w fun e w' => e = .returned (.int .i64 (Lib.ctz 64 x)) ∧ w = w' := by
  obtain ⟨hlow, hk⟩ := Lib.lowest_bit 64 x h0 hx
  obtain ⟨hi, htab⟩ := Lib.deBruijn64_at _ hk
  have hcell := hT _ hi
  rw [htab] at hcell
  exact tz_core x _ _ w (by simp; omega) (tz64_key x _ hx h0 hlow) hi hk hcell
/-! ### A set's numbers, as the loop finds them -/
def bitsF : Nat → Nat → List Nat
  | 0, _ => []
  | f + 1, y => if y = 0 then [] else Lib.ctz 64 y :: bitsF f (y &&& (y - 1))
/-- A set's numbers, rising. -/
def bitsL (x : Nat) : List Nat := bitsF 64 x
theorem and_even (x : Nat) (h : 0 < x) : (2 * x) &&& (2 * x - 1) = 2 * (x &&& (x - 1)) := by
  apply Nat.eq_of_testBit_eq
  intro i
  cases i with
  | zero => simp [Nat.testBit_zero]
  | succ i =>
    rw [Nat.testBit_and, Nat.testBit_succ, Nat.testBit_succ, Nat.testBit_succ, show 2 * x / 2 = x from by omega, show (2 * x - 1) / 2 = x - 1 from by omega, show 2 * (x &&& (x - 1)) / 2 = x &&& (x - 1) from by omega, Nat.testBit_and]
theorem and_odd (m : Nat) : (2 * m + 1) &&& (2 * m) = 2 * m := by
  apply Nat.eq_of_testBit_eq
  intro i
  cases i with
  | zero => simp [Nat.testBit_zero]
  | succ i =>
    rw [Nat.testBit_and, Nat.testBit_succ, Nat.testBit_succ, show (2 * m + 1) / 2 = m from by omega, show 2 * m / 2 = m from by omega, Bool.and_self]
theorem and_pred (k m : Nat) : (2 ^ k * (2 * m + 1)) &&& (2 ^ k * (2 * m + 1) - 1) = 2 ^ k * (2 * m) := by
  induction k with
  | zero => simp; exact and_odd m
  | succ k ih =>
    have hp : 0 < 2 ^ k := Nat.two_pow_pos k
    have e : 2 ^ (k + 1) * (2 * m + 1) = 2 * (2 ^ k * (2 * m + 1)) := by rw [Nat.pow_succ, Nat.mul_comm (2 ^ k) 2, Nat.mul_assoc]
    rw [e, and_even _ (Nat.mul_pos hp (by omega)), ih, Nat.pow_succ, Nat.mul_comm (2 ^ k) 2, Nat.mul_assoc]
theorem ctz_spec (y : Nat) (h0 : y ≠ 0) (h : y < 18446744073709551616) : ∃ m, y = 2 ^ Lib.ctz 64 y * (2 * m + 1) ∧ Lib.ctz 64 y < 64 ∧ y &&& (y - 1) = 2 ^ Lib.ctz 64 y * (2 * m) := by
  obtain ⟨m, hm, hk⟩ := Lib.ctzFrom_spec 64 y (by omega) h
  have e : Lib.ctz 64 y = Lib.ctzFrom 64 y := by unfold Lib.ctz; rw [if_neg h0]
  rw [e]
  refine ⟨m, hm, hk, ?_⟩
  conv => lhs; rw [hm]
  exact and_pred _ m
theorem and_lt (y : Nat) (h0 : y ≠ 0) : y &&& (y - 1) < y := by
  have := Nat.and_le_right (n := y) (m := y - 1)
  omega
theorem pow_le_of_dvd {j k m : Nat} (h : 2 ^ j ∣ 2 ^ k * (2 * m + 1)) : j ≤ k := by
  apply Nat.le_of_not_lt
  intro hlt
  obtain ⟨d, rfl⟩ : ∃ d, j = k + (d + 1) := ⟨j - k - 1, by omega⟩
  rw [Nat.pow_add, Nat.mul_dvd_mul_iff_left (Nat.two_pow_pos k), Nat.pow_succ] at h
  have : 2 ∣ 2 * m + 1 := Nat.dvd_trans (Nat.dvd_mul_left 2 (2 ^ d)) h
  omega
theorem dvd_next {j y : Nat} (h0 : y ≠ 0) (h : y < 18446744073709551616) (hd : 2 ^ j ∣ y) : 2 ^ (j + 1) ∣ y &&& (y - 1) := by
  obtain ⟨m, hm, hk, ha⟩ := ctz_spec y h0 h
  rw [ha]
  have hj : j ≤ Lib.ctz 64 y := pow_le_of_dvd (m := m) (by rw [← hm]; exact hd)
  have e : 2 ^ Lib.ctz 64 y * (2 * m) = 2 ^ (Lib.ctz 64 y + 1) * m := by rw [Nat.pow_succ, Nat.mul_assoc]
  rw [e]
  exact Nat.dvd_trans (Nat.pow_dvd_pow 2 (by omega)) (Nat.dvd_mul_right _ _)
theorem bitsF_lt : ∀ (f y : Nat), y < 18446744073709551616 → ∀ i ∈ bitsF f y, i < 64
  | 0, _, _, i, h => by simp [bitsF] at h
  | f + 1, y, hy, i, h => by
    unfold bitsF at h
    split at h
    · simp at h
    · rename_i h0
      rcases List.mem_cons.1 h with rfl | h
      · exact (ctz_spec y h0 hy).choose_spec.2.1
      · exact bitsF_lt f _ (Nat.lt_trans (and_lt y h0) hy) i h
theorem bitsL_lt (x : Nat) (h : x < 18446744073709551616) : ∀ i ∈ bitsL x, i < 64 := bitsF_lt 64 x h
theorem bitsF_len : ∀ (f y : Nat), (bitsF f y).length ≤ f
  | 0, _ => by simp [bitsF]
  | f + 1, y => by
    unfold bitsF
    split
    · simp
    · simp only [List.length_cons]
      have := bitsF_len f (y &&& (y - 1))
      omega
def nums (l : List Nat) : List Value := l.map fun (i : Nat) => Value.int .i64 (i : Int)
theorem nums_snoc (l : List Nat) (i : Nat) : nums (l ++ [i]) = nums l ++ [.int .i64 (i : Int)] := by simp [nums]
theorem Tryz.info3 : (Tryz.prog.info? 3).map (fun i => (i.zero, i.size, i.bytes)) = some (some (.int .i64 0), 1, 8) := by kernel_rfl
set_option maxHeartbeats 4000000 in
theorem list_any (x : Nat) (hx : x < 18446744073709551616) (w : World) (hT : DeB w) (h0 : 0 < w.heap.size) :
    Calls Tryz.prog 75 #[.int .u64 x] w fun e w' => ∃ v, e = .returned v ∧ w'.ownsRow w.heap.size 3 1 v (bitsL x).length (nums (bitsL x)) ∧ Below w.heap.size w w' := by
  obtain ⟨i0, hi0, hz0, hz1, hz2⟩ := info_parts Tryz.info3
  have Hz0 := Lib.hid hz0; clear hz0
  have Hz1 := Lib.hid hz1; clear hz1
  have Hz2 := Lib.hid hz2; clear hz2
  have Hi := Lib.hid hi0; clear hi0
  have HT := Lib.hid hT
  clear hT
  go_enter Tryz.func75, Tryz.ntmps75
  go_wp2_with fail
  go_loopw [0, 3] (fun z l wr => ∃ (y : Nat) (acc : List Nat) (f : Nat) (v : Value), v = l ∧ y < 18446744073709551616 ∧ z = .int .u64 y ∧ acc.length + f = 64 ∧ acc ++ bitsF f y = bitsL x ∧ 2 ^ acc.length ∣ y ∧ wr.ownsRow w.heap.size 3 1 l acc.length (nums acc) ∧ Below w.heap.size w wr) (fun z _ _ => (intOf z).toNat)
  case atStart => exact ⟨x, [], 64, _, rfl, hx, rfl, rfl, rfl, by simp, by simpa [nums] using World.ownsRow_nil _ _ _ _, Below.refl _ _⟩
  case round =>
    obtain ⟨y, acc, f, v, rfl, hy, rfl, hf, hacc, hd, hO, hW⟩ := hrel
    have HA := Lib.hid hacc
    clear hacc
    by_cases hz : y = 0
    · subst hz
      have e : acc = bitsL x := by
        rw [← HA.out]
        cases f <;> simp [bitsF]
      have HE := Lib.hid e
      clear e hd
      go_wp2_with fail
      go_ret
      refine ⟨_, rfl, ?_, hW⟩
      rw [← HE.out]
      exact hO
    · have hd2 := dvd_next hz hy hd
      have hlt := and_lt y hz
      have hf0 : f ≠ 0 := by
        intro e
        rw [show acc.length = 64 from by omega] at hd
        exact hz (Nat.eq_zero_of_dvd_of_lt hd hy)
      obtain ⟨f', rfl⟩ : ∃ f', f = f' + 1 := ⟨f - 1, by omega⟩
      have hstep : acc ++ [Lib.ctz 64 y] ++ bitsF f' (y &&& (y - 1)) = bitsL x := by
        rw [← HA.out, List.append_assoc]
        congr 1
        conv => rhs; unfold bitsF
        rw [if_neg hz]
        rfl
      have hand : bits BinOp.and IntKind.u64 (y : Int) ((y : Int) - 1) = ((y &&& (y - 1) : Nat) : Int) := by
        have := bits_and_u64_nat y (y - 1) hy (by omega)
        rwa [show (((y - 1 : Nat) : Nat) : Int) = (y : Int) - 1 from by omega] at this
      have hne : ((y : Int) != 0) = true := by simp; omega
      have hne2 : ((y : Int) == 0) = false := by simp; omega
      have hT1 := HT.out.cellB h0 hW
      have h1 := tz_any y hy hz wr hT1
      obtain ⟨c, hc⟩ : ∃ c, Lib.ctz 64 y = c := ⟨_, rfl⟩
      rw [hc] at h1 hstep
      obtain ⟨y', hy'⟩ : ∃ y', y &&& (y - 1) = y' := ⟨_, rfl⟩
      rw [hy'] at hstep hand hd2 hlt
      have HS := Lib.hid hstep
      have HD := Lib.hid hd2
      have hb : acc.length ≤ 63 := by omega
      have hl1 : (0 : Int) ≤ (y : Int) - 1 := by omega
      clear hstep hd2 hd HA hc hy' hT1
      go_wp2_with (first
        | (go_at_call 119; refine h1.mono ?_; rintro e w' ⟨rfl, rfl⟩)
        | (at_builtin; refine wpList_append_own_at _ rfl (.tmp 10) (.tmp 13) 86 rfl w.heap.size 3 i0 _ 1 8 Tryz.underlying86 Hi.out Hz0.out Hz1.out Hz2.out rfl (by decide) v acc.length (nums acc) rfl (hO.alloc _) ⟨wr.heap.size, 0, none⟩ 1 1 [.int .i64 (c : Int)] rfl rfl ?c1 ?c2 (by unfold maxLen; omega) (by omega) (by have := hW.size; simp; omega) ?c3))
      case c1 =>
        intro j u hj
        rw [add_none, Nat.zero_add, (Blk.new wr 3 _).cell j]
        simpa using hj
      case c2 =>
        intro u hu
        simp at hu
        rw [hu]
        rfl
      case c3 =>
        intro v' w' hown hgr _ _
        have hW2 := below_only (hW.alloc hW.size _) (Nat.le_refl _) hgr (fun q e => by
          have h := hO.2
          rcases h with ⟨rfl, _⟩ | ⟨g, cap, cur, rfl, hb, _⟩
          · simp [Value.ownBlock] at e
          · simp [Value.ownBlock] at e
            omega)
        have hown2 : w'.ownsRow w.heap.size 3 1 v' (acc ++ [c]).length (nums (acc ++ [c])) := by
          rw [nums_snoc, List.length_append]
          exact hown
        have HO := Lib.hid hown2
        clear hown hown2 hgr hO hW h1
        go_wp2_with fail
        exact ⟨⟨y', acc ++ [c], f', _, rfl, by omega, rfl, by simp; omega, HS.out, by simpa using HD.out, HO.out, hW2⟩, by simp [intOf]; omega⟩
end Go.Proofs.YtdgfjpbjiccllaaGreatDoor
/- What the laid condition of the top laws gives, and a world that meets it. -/
namespace Go.Proofs.YtdgfjpbjiccllaaGreatDoor
open Go.ChangeShapes Go.WideShapes Go.ChangeAt Go.RowKit
theorem ownT : ownKnob Tryz.prog.godebug = none := by kernel_rfl
theorem laidOutT : laidOutB Tryz.prog = true := by kernel_rfl
/-- The five tables. -/
def laid5 : List (String × DataW Unit) := Rows.topAloneRow.laid
theorem door_met (os : Os) (args : Array Value) : laidMetH Tryz.prog laid5 ((World.doorLaid Tryz.prog 48 os).forCall (fun _ _ => 0) ⟨#[], args, []⟩).memory :=
  laidMetH_of_parts3 (fuel := 8) (laidMet_of_run' 8 (by kernel_rfl) (by kernel_rfl)) (by kernel_rfl) (by kernel_rfl)
theorem plain5 : (laid5.all fun x => x.2.handleName?.isNone) = true := by kernel_rfl
theorem ascii_of {W : World} (h : laidMetH Tryz.prog laid5 W) : Lib.TabIs Tryz.prog W "strings.asciiSpace" .u8 Lib.asciiSpaceTab := by
  rw [MakeChecks.laidMetH_plain _ _ _ plain5] at h
  have h2 := h.filter (fun x => x.1 == "strings.asciiSpace")
  have e : laid5.filter (fun x => x.1 == "strings.asciiSpace") = [("strings.asciiSpace", Lib.tabData .u8 Lib.asciiSpaceTab)] := by kernel_rfl
  rw [e] at h2
  exact Lib.tabIs_of_head (g := 2) (t := 240) (e := 5) (n := 256) (by kernel_rfl) (by kernel_rfl) (by kernel_rfl) (by kernel_rfl) (by kernel_rfl) (by kernel_rfl) h2
theorem deB_of {W : World} (h : laidMetH Tryz.prog laid5 W) : DeB W := by
  rw [MakeChecks.laidMetH_plain _ _ _ plain5] at h
  have h2 := h.filter (fun x => x.1 == "math/bits.deBruijn64tab")
  have e : laid5.filter (fun x => x.1 == "math/bits.deBruijn64tab") = [("math/bits.deBruijn64tab", Lib.tabData .u8 (Lib.deBruijn64tab.map fun (n : Nat) => (n : Int)))] := by kernel_rfl
  rw [e] at h2
  have h3 := Lib.tabIs_of_head (g := 0) (t := 208) (e := 5) (n := 64) (by kernel_rfl) (by kernel_rfl) (by kernel_rfl) (by kernel_rfl) (by kernel_rfl) (by kernel_rfl) h2
  intro j hj
  have h4 := Lib.TabIs.cell h3 (g := 0) (by kernel_rfl) j (by simpa using hj)
  rw [h4]
  simp [List.getD_eq_getElem?_getD, hj]
end Go.Proofs.YtdgfjpbjiccllaaGreatDoor
