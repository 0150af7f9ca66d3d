/- Joined texts: Mem, Lex, Job, Pol, Tbl. -/
import Derived.Test.YtdgfjpbjiccllaaGreatDoorRows
import Derived.WalkKit
import Derived.WalkSpells
import Derived.WalkLawsBesides
import Derived.Laws.OwnMore
import Derived.Deep.Draws
import Derived.Laws.Rows
import Derived.Lib.Hide
import Derived.Laws.MakeOwn
import Derived.Laws.AppendOwn
import Derived.Maps.AppendAt
import Derived.Deep.AppendLies
import Derived.Deep.QuietTactic
import Derived.BigQuiet
import Derived.Deep.RegionHeld3
namespace Go.Proofs.YtdgfjpbjiccllaaGreatDoor
open Go.RowKit
def Blk (w : World) (g : Nat) (t : TypeId) (cs : Array Value) : Prop := w.heap[g]? = some (.cells cs t (0, 0))
section
variable {w w' : World} {g : Nat} {t : TypeId} {cs : Array Value}
theorem Blk.lt (h : Blk w g t cs) : g < w.heap.size := by
 rcases Nat.lt_or_ge g w.heap.size with hlt | hge
 ·exact hlt
 ·unfold Blk at h; rw [Array.getElem?_eq_none hge] at h; cases h
theorem Blk.cell (h : Blk w g t cs) (i : Nat) : w.cell? ⟨g, i, none⟩ = cs[i]? := cell_of_row w g i cs t (0, 0) h
theorem Blk.frozen (h : Blk w g t cs) (i : Nat) : w.frozen? ⟨g, i, none⟩ = false := by
 unfold Blk at h
 simp [World.frozen?, h]
theorem Blk.new (w : World) (t : TypeId) (cs : Array Value) : Blk (w.alloc (.cells cs t)) w.heap.size t cs := heap_alloc_new w _
theorem Blk.drew (h : Blk w g t cs) : Blk w.drew g t cs := h
theorem Blk.drewN (h : Blk w g t cs) (n : Nat) : Blk (w.drewN n) g t cs := h
theorem Blk.alloc (h : Blk w g t cs) (o : Obj) : Blk (w.alloc o) g t cs := (Below.heap_alloc w o g h.lt).trans h
theorem Blk.set_ (h : Blk w g t cs) (i : Nat) (u : Value) : Blk (w.setCell ⟨g, i, none⟩ u) g t (cs.setIfInBounds i u) := by
 unfold Blk at h ⊢
 simp [World.setCell, Array.getElem?_modify, h]
theorem Blk.far (h : Blk w g t cs) {p : Addr} (hp : g ≠ p.block) (u : Value) : Blk (w.setCell p u) g t cs := (Below.heap_setCell w p u g hp).trans h
theorem Blk.below {B : Nat} (h : Blk w g t cs) (hb : Below B w w') (hg : g < B) : Blk w' g t cs := (hb.block g hg).trans h
theorem Blk.ne_ {g' : Nat} {t' : TypeId} {cs' : Array Value} (h : Blk w g t cs) (h' : Blk w g' t' cs') (hne : t ≠ t') : g ≠ g' := by
 rintro rfl
 unfold Blk at h h'
 rw [h] at h'
 injection h' with h'
 injection h' with _ ht
 exact hne ht
end
theorem setIfInBounds_self {xs : Array Value} {i : Nat} {v : Value} (h : xs[i]? = some v) : xs.setIfInBounds i v = xs := by
 obtain ⟨hi, rfl⟩ := Array.getElem?_eq_some_iff.1 h
 ext j h1 h2
 ·simp
 ·simp only [Array.getElem_setIfInBounds h2]
  split
  ·next h => subst h; rfl
  ·rfl
section
variable {w w' : World} {g : Nat} {t : TypeId} {cs : Array Value}
theorem Blk.grown {row : Option Nat} (h : Blk w g t cs) (hb : w.grownBy w' row) (hg : some g ≠ row) : Blk w' g t cs := (hb.block g h.lt hg).trans h
theorem only_drewN {a w : World} {row : Option Nat} (h : a.grownBy w row) (n : Nat) : a.grownBy (w.drewN n) row := ⟨h.os, h.tape, h.output, h.size, h.block⟩
theorem only_alloc {a w : World} {row : Option Nat} (h : a.grownBy w row) (o : Obj) : a.grownBy (w.alloc o) row :=
 ⟨h.os, h.tape, h.output, Nat.le_trans h.size (by simp), fun i hi hne => (Below.heap_alloc w o i (Nat.lt_of_lt_of_le hi h.size)).trans (h.block i hi hne)⟩
theorem only_setCell {a w : World} {g : Nat} (h : a.grownBy w (some g)) {p : Addr} (hp : p.block = g ∨ a.heap.size ≤ p.block) (u : Value) : a.grownBy (w.setCell p u) (some g) :=
 ⟨h.os, h.tape, h.output, by simpa [World.setCell] using h.size, fun i hi hne => (Below.heap_setCell w p u i (by
  rintro rfl
  rcases hp with hp | hp
  ·exact hne (by rw [hp])
  ·omega)).trans (h.block i hi hne)⟩
theorem only_of_below {a w : World} (h : Below a.heap.size a w) (row : Option Nat) : a.grownBy w row := ⟨h.os, h.tape, h.output, h.size, fun i hi _ => h.block i hi⟩
theorem below_only {B : Nat} {a w w' : World} {row : Option Nat} (h : Below B a w) (hB : B ≤ a.heap.size) (hg : w.grownBy w' row) (hr : ∀ k, row = some k → B ≤ k) : Below B a w' := h.grown hg (Nat.le_trans hB h.size) hr
theorem add_none (b off j : Nat) : (⟨b, off, none⟩ : Addr).add j = ⟨b, off + j, none⟩ := by
 unfold Addr.add
 by_cases hj : j = 0 <;> simp [hj]
theorem own_blk_ne {base : Nat} {e : TypeId} {size n : Nat} {v : Value} {xs : List Value} (h : w.ownsRow base e size v n xs) (hg : Blk w g t cs) (hne : e ≠ t) : v.ownBlock ≠ some g := by
 rcases h.2 with ⟨rfl, _⟩ | ⟨g', cap, cur, rfl, _, hh, _⟩
 ·simp [Value.ownBlock]
 ·intro he
  have : g' = g := by simpa [Value.ownBlock] using he
  subst this
  exact Blk.ne_ (t := e) hh hg hne rfl
def Nums (w : World) (a : Option Addr) (zs : List Int) : Prop :=
 zs = [] ∨ ∃ b off, a = some ⟨b, off, none⟩ ∧ b < w.heap.size ∧ ∀ i (h : i < zs.length), w.cell? ⟨b, off + i, none⟩ = some (.int .i64 zs[i])
theorem Nums.grown {a : Option Addr} {zs : List Int} {row : Option Nat} (h : Nums w a zs) (hg : w.grownBy w' row) (hr : ∀ b off, a = some ⟨b, off, none⟩ → some b ≠ row) : Nums w' a zs := by
 rcases h with h | ⟨b, off, rfl, hb, hc⟩
 ·exact .inl h
 ·exact .inr ⟨b, off, rfl, Nat.lt_of_lt_of_le hb hg.size, fun i hi => hg.cell (hc i hi) (hr b off rfl)⟩
theorem Nums.below {a : Option Addr} {zs : List Int} (h : Nums w a zs) (hb : Below w.heap.size w w') : Nums w' a zs := by
 rcases h with h | ⟨b, off, rfl, hlt, hc⟩
 ·exact .inl h
 ·exact .inr ⟨b, off, rfl, Nat.lt_of_lt_of_le hlt hb.size, fun i hi => (hb.cell (p := ⟨b, off + i, none⟩) hlt).trans (hc i hi)⟩
end
end Go.Proofs.YtdgfjpbjiccllaaGreatDoor
namespace Go.Proofs.YtdgfjpbjiccllaaGreatDoor.X
open Go.RowKit
set_option maxRecDepth 100000
def letter (b : Int) : Bool := decide (97 ≤ b) && decide (b ≤ 122)
def digit (b : Int) : Bool := decide (48 ≤ b) && decide (b ≤ 57)
def more (b : Int) : Bool := letter b || digit b || b == 95
def noEnd (b : Int) : Bool := !(b == 10)
theorem letter_any (b : Int) (w : World) : Calls Tryz.prog 127 #[.int .u8 b] w fun e w' => e = .returned (.bool (letter b)) ∧ w = w' := by
 unfold letter
 cases h : decide (97 ≤ b) with
 | false =>
  go_enter Tryz.func127, Tryz.ntmps127
  go_wp2; go_ret
  exact ⟨rfl, rfl⟩
 | true =>
  go_enter Tryz.func127, Tryz.ntmps127
  go_wp2; go_ret
  exact ⟨rfl, rfl⟩
theorem digit_any (b : Int) (w : World) : Calls Tryz.prog 129 #[.int .u8 b] w fun e w' => e = .returned (.bool (digit b)) ∧ w = w' := by
 unfold digit
 cases h : decide (48 ≤ b) with
 | false =>
  go_enter Tryz.func129, Tryz.ntmps129
  go_wp2; go_ret
  exact ⟨rfl, rfl⟩
 | true =>
  go_enter Tryz.func129, Tryz.ntmps129
  go_wp2; go_ret
  exact ⟨rfl, rfl⟩
theorem noEnd_any (b : Int) (w : World) : Calls Tryz.prog 126 #[.int .u8 b] w fun e w' => e = .returned (.bool (noEnd b)) ∧ w = w' := by
 unfold noEnd
 go_enter Tryz.func126, Tryz.ntmps126
 go_wp2; go_ret
 exact ⟨rfl, rfl⟩
theorem more_any (b : Int) (w : World) : Calls Tryz.prog 148 #[.int .u8 b] w fun e w' => e = .returned (.bool (more b)) ∧ w = w' := by
 unfold more
 cases h : letter b with
 | true =>
  go_enter Tryz.func148, Tryz.ntmps148
  go_wp2_with (go_at_call 127; refine (letter_any _ _).mono ?_; rintro e w' ⟨rfl, rfl⟩; rw [h])
  go_ret
  exact ⟨rfl, rfl⟩
 | false =>
  cases h2 : digit b with
  | true =>
   go_enter Tryz.func148, Tryz.ntmps148
   go_wp2_with (first | (go_at_call 127; refine (letter_any _ _).mono ?_; rintro e w' ⟨rfl, rfl⟩; rw [h]) | (go_at_call 129; refine (digit_any _ _).mono ?_; rintro e w' ⟨rfl, rfl⟩; rw [h2]))
   go_ret
   exact ⟨rfl, rfl⟩
  | false =>
   go_enter Tryz.func148, Tryz.ntmps148
   go_wp2_with (first | (go_at_call 127; refine (letter_any _ _).mono ?_; rintro e w' ⟨rfl, rfl⟩; rw [h]) | (go_at_call 129; refine (digit_any _ _).mono ?_; rintro e w' ⟨rfl, rfl⟩; rw [h2]))
   go_ret
   exact ⟨by simp, rfl⟩
def bytes (s : ByteArray) : List Int := s.data.toList.map fun b => (b.toNat : Int)
theorem bytes_length (s : ByteArray) : (bytes s).length = s.size := by
 unfold bytes
 rw [List.length_map, Array.length_toList]
 rfl
theorem byte_at (s : ByteArray) (i : Nat) (h : i < s.size) : ((s[i]'h).toNat : Int) = (bytes s).getD i 0 := by
 obtain ⟨⟨l⟩⟩ := s
 have hl : i < l.length := h
 have e : (ByteArray.mk ⟨l⟩)[i]'h = l[i]'hl := rfl
 rw [e]
 unfold bytes
 simp only [List.getD, List.getElem?_map, List.getElem?_eq_getElem hl, Option.map_some, Option.getD_some]
def spanL (p : Int → Bool) : List Int → Nat
 | [] => 0
 | b :: t => if p b then spanL p t + 1 else 0
theorem spanL_le (p : Int → Bool) : ∀ l, spanL p l ≤ l.length
 | [] => Nat.le_refl _
 | b :: t => by
  have := spanL_le p t
  unfold spanL
  split <;> simp <;> omega
theorem spanL_lt (p : Int → Bool) : ∀ l i, i < spanL p l → p (l.getD i 0) = true
 | [], i, h => by simp [spanL] at h
 | b :: t, i, h => by
  unfold spanL at h
  split at h
  ·rename_i hb
   cases i with
   | zero => simpa using hb
   | succ i => simpa using spanL_lt p t i (by omega)
  ·omega
theorem spanL_end (p : Int → Bool) : ∀ l, spanL p l < l.length → p (l.getD (spanL p l) 0) = false
 | [], h => by simp at h
 | b :: t, h => by
  unfold spanL at h ⊢
  split
  ·rename_i hb
   rw [if_pos hb] at h
   simpa using spanL_end p t (by simpa using h)
  ·rename_i hb
   simpa using hb
set_option maxHeartbeats 4000000 in
theorem run_noEnd (s : ByteArray) (hs : s.size ≤ 1000000) (w : World) :
  Calls Tryz.prog 125 #[.string s, .func (.func 126) #[] #[]] w fun e w' => e = .returned (.int .i64 (spanL noEnd (bytes s))) ∧ w = w' := by
 have hle := spanL_le noEnd (bytes s)
 rw [bytes_length] at hle
 go_enter Tryz.func125, Tryz.ntmps125
 go_wp2_with fail
 go_loop [5] (fun z => ∃ k : Nat, k ≤ spanL noEnd (bytes s) ∧ z = .int .i64 k) (fun z => s.size - (intOf z).toNat)
 case atStart => exact ⟨0, Nat.zero_le _, rfl⟩
 case round =>
  obtain ⟨k, hk, rfl⟩ := hrel
  by_cases hlt : k < s.size
  ·have hb := byte_at s k hlt
   by_cases hkm : k < spanL noEnd (bytes s)
   ·have hp := spanL_lt noEnd (bytes s) k hkm
    rw [← hb] at hp
    have HP := Lib.hid hp
    clear hp hb
    go_wp2_with (go_at_call 126; refine (noEnd_any _ _).mono ?_; rintro e w' ⟨rfl, rfl⟩; rw [HP.out])
    go_round
    case rel => exact ⟨k + 1, by omega, by go_num⟩
    case measure => simp [intOf]; omega
   ·have hke : k = spanL noEnd (bytes s) := by omega
    have hp := spanL_end noEnd (bytes s) (by rw [bytes_length]; omega)
    rw [← hke, ← hb] at hp
    have HP := Lib.hid hp
    have HKE := Lib.hid hke
    clear hp hb hke
    go_wp2_with (go_at_call 126; refine (noEnd_any _ _).mono ?_; rintro e w' ⟨rfl, rfl⟩; rw [HP.out])
    go_ret
    exact ⟨by rw [← HKE.out]; rfl, rfl⟩
  ·have hke : k = spanL noEnd (bytes s) := by omega
   have HKE := Lib.hid hke
   clear hke; go_wp2; go_ret
   exact ⟨by rw [← HKE.out]; rfl, rfl⟩
set_option maxHeartbeats 4000000 in
theorem run_digit (s : ByteArray) (hs : s.size ≤ 1000000) (w : World) :
  Calls Tryz.prog 125 #[.string s, .func (.func 129) #[] #[]] w fun e w' => e = .returned (.int .i64 (spanL digit (bytes s))) ∧ w = w' := by
 have hle := spanL_le digit (bytes s)
 rw [bytes_length] at hle
 go_enter Tryz.func125, Tryz.ntmps125
 go_wp2_with fail
 go_loop [5] (fun z => ∃ k : Nat, k ≤ spanL digit (bytes s) ∧ z = .int .i64 k) (fun z => s.size - (intOf z).toNat)
 case atStart => exact ⟨0, Nat.zero_le _, rfl⟩
 case round =>
  obtain ⟨k, hk, rfl⟩ := hrel
  by_cases hlt : k < s.size
  ·have hb := byte_at s k hlt
   by_cases hkm : k < spanL digit (bytes s)
   ·have hp := spanL_lt digit (bytes s) k hkm
    rw [← hb] at hp
    have HP := Lib.hid hp
    clear hp hb
    go_wp2_with (go_at_call 129; refine (digit_any _ _).mono ?_; rintro e w' ⟨rfl, rfl⟩; rw [HP.out])
    go_round
    case rel => exact ⟨k + 1, by omega, by go_num⟩
    case measure => simp [intOf]; omega
   ·have hke : k = spanL digit (bytes s) := by omega
    have hp := spanL_end digit (bytes s) (by rw [bytes_length]; omega)
    rw [← hke, ← hb] at hp
    have HP := Lib.hid hp
    have HKE := Lib.hid hke
    clear hp hb hke
    go_wp2_with (go_at_call 129; refine (digit_any _ _).mono ?_; rintro e w' ⟨rfl, rfl⟩; rw [HP.out])
    go_ret
    exact ⟨by rw [← HKE.out]; rfl, rfl⟩
  ·have hke : k = spanL digit (bytes s) := by omega
   have HKE := Lib.hid hke
   clear hke; go_wp2; go_ret
   exact ⟨by rw [← HKE.out]; rfl, rfl⟩
set_option maxHeartbeats 4000000 in
theorem run_more (s : ByteArray) (hs : s.size ≤ 1000000) (w : World) :
  Calls Tryz.prog 125 #[.string s, .func (.func 148) #[] #[]] w fun e w' => e = .returned (.int .i64 (spanL more (bytes s))) ∧ w = w' := by
 have hle := spanL_le more (bytes s)
 rw [bytes_length] at hle
 go_enter Tryz.func125, Tryz.ntmps125
 go_wp2_with fail
 go_loop [5] (fun z => ∃ k : Nat, k ≤ spanL more (bytes s) ∧ z = .int .i64 k) (fun z => s.size - (intOf z).toNat)
 case atStart => exact ⟨0, Nat.zero_le _, rfl⟩
 case round =>
  obtain ⟨k, hk, rfl⟩ := hrel
  by_cases hlt : k < s.size
  ·have hb := byte_at s k hlt
   by_cases hkm : k < spanL more (bytes s)
   ·have hp := spanL_lt more (bytes s) k hkm
    rw [← hb] at hp
    have HP := Lib.hid hp
    clear hp hb
    go_wp2_with (go_at_call 148; refine (more_any _ _).mono ?_; rintro e w' ⟨rfl, rfl⟩; rw [HP.out])
    go_round
    case rel => exact ⟨k + 1, by omega, by go_num⟩
    case measure => simp [intOf]; omega
   ·have hke : k = spanL more (bytes s) := by omega
    have hp := spanL_end more (bytes s) (by rw [bytes_length]; omega)
    rw [← hke, ← hb] at hp
    have HP := Lib.hid hp
    have HKE := Lib.hid hke
    clear hp hb hke
    go_wp2_with (go_at_call 148; refine (more_any _ _).mono ?_; rintro e w' ⟨rfl, rfl⟩; rw [HP.out])
    go_ret
    exact ⟨by rw [← HKE.out]; rfl, rfl⟩
  ·have hke : k = spanL more (bytes s) := by omega
   have HKE := Lib.hid hke
   clear hke; go_wp2; go_ret
   exact ⟨by rw [← HKE.out]; rfl, rfl⟩
def gapL (l : List Int) : Nat := if l.getD 0 0 = 32 ∨ l.getD 0 0 = 10 then 1 else if l.getD 0 0 = 35 then spanL noEnd l else 0
set_option maxHeartbeats 4000000 in
theorem gap_any (s : ByteArray) (h0 : 0 < s.size) (hs : s.size ≤ 1000000) (w : World) :
  Calls Tryz.prog 94 #[.string s] w fun e w' => e = .returned (.int .i64 (gapL (bytes s))) ∧ w = w' := by
 have hb := byte_at s 0 h0
 unfold gapL
 rw [← hb]
 clear hb
 by_cases c1 : ((s[0]'h0).toNat : Int) = 32
 ·have d1 : (((s[0]'h0).toNat : Int) == 32) = true := by simpa using c1
  rw [if_pos (.inl c1)]
  clear c1
  go_enter Tryz.func94, Tryz.ntmps94
  go_wp2_with fail
  go_ret
  exact ⟨rfl, rfl⟩
 ·have d1 : (((s[0]'h0).toNat : Int) == 32) = false := by simpa using c1
  by_cases c2 : ((s[0]'h0).toNat : Int) = 10
  ·have d2 : (((s[0]'h0).toNat : Int) == 10) = true := by simpa using c2
   rw [if_pos (.inr c2)]
   clear c1 c2
   go_enter Tryz.func94, Tryz.ntmps94
   go_wp2_with fail
   go_ret
   exact ⟨rfl, rfl⟩
  ·have d2 : (((s[0]'h0).toNat : Int) == 10) = false := by simpa using c2
   rw [if_neg (by rintro (h | h); exact c1 h; exact c2 h)]
   by_cases c3 : ((s[0]'h0).toNat : Int) = 35
   ·have d3 : (((s[0]'h0).toNat : Int) == 35) = true := by simpa using c3
    rw [if_pos c3]
    clear c1 c2 c3
    go_enter Tryz.func94, Tryz.ntmps94
    go_wp2_with (go_at_call 125; refine (run_noEnd s hs _).mono ?_; rintro e w' ⟨rfl, rfl⟩)
    go_ret
    exact ⟨rfl, rfl⟩
   ·have d3 : (((s[0]'h0).toNat : Int) == 35) = false := by simpa using c3
    rw [if_neg c3]
    clear c1 c2 c3
    go_enter Tryz.func94, Tryz.ntmps94
    go_wp2_with fail
    go_ret
    exact ⟨rfl, rfl⟩
end Go.Proofs.YtdgfjpbjiccllaaGreatDoor.X
namespace Go.Proofs.YtdgfjpbjiccllaaGreatDoor.J
open Go.RowKit
set_option maxRecDepth 100000
def odd (z : Int) : Bool := decide (z < 1) || decide (10000 < z)
theorem odd_any (z : Int) (w : World) : Calls Tryz.prog 121 #[.int .i64 z] w fun e w' => e = .returned (.bool (odd z)) ∧ w = w' := by
 unfold odd
 by_cases h1 : z < 1
 ·have d1 : decide (z < 1) = true := by simpa using h1
  rw [d1]
  go_enter Tryz.func121, Tryz.ntmps121
  go_wp2; go_ret
  exact ⟨rfl, rfl⟩
 ·have d1 : decide (z < 1) = false := by simpa using h1
  rw [d1]
  go_enter Tryz.func121, Tryz.ntmps121
  go_wp2; go_ret
  exact ⟨rfl, rfl⟩
set_option maxHeartbeats 400000 in
theorem index_none (A : Option Addr) (c : Nat) (zs : List Int) (w : World) (h : Nums w A zs) (hl : zs.length ≤ 8) (ho : ∀ i (h : i < zs.length), odd zs[i] = false) :
  Calls Tryz.prog 117 #[.slice A zs.length c, .func (.func 121) #[] #[]] w fun e w' => e = .returned (.int .i64 (-1)) ∧ w = w' := by
 have HO := Lib.hid ho
 clear ho
 go_enter Tryz.func117, Tryz.ntmps117
 go_wp2_with fail
 go_loop [8] (fun z => ∃ k : Nat, k ≤ zs.length ∧ z = .int .i64 k) (fun z => zs.length - (intOf z).toNat)
 case atStart => exact ⟨0, Nat.zero_le _, rfl⟩
 case round =>
  obtain ⟨k, hk, rfl⟩ := hrel
  by_cases hlt : k < zs.length
  ·rcases h with h | ⟨b, off, rfl, hb, hc⟩
   ·rw [h] at hlt; simp at hlt
   have c0 := hc k hlt
   have HK := HO.out k hlt
   have HK := Lib.hid HK
   go_wp2_with (go_at_call 121; refine (odd_any _ _).mono ?_; rintro e w' ⟨rfl, rfl⟩; rw [HK.out])
   go_round
   case rel => exact ⟨k + 1, by omega, by go_num⟩
   case measure => simp [intOf]; omega
  ·go_wp2
   go_ret
   exact ⟨rfl, rfl⟩
set_option maxHeartbeats 400000 in
theorem index_some (A : Option Addr) (c : Nat) (zs : List Int) (w : World) (h : Nums w A zs) (hl : zs.length ≤ 8) (m : Nat) (hm : m < zs.length) (hom : odd zs[m] = true) (ho : ∀ i (h : i < m), odd (zs[i]'(by omega)) = false) :
  Calls Tryz.prog 117 #[.slice A zs.length c, .func (.func 121) #[] #[]] w fun e w' => e = .returned (.int .i64 m) ∧ w = w' := by
 have HO := Lib.hid ho
 have HM := Lib.hid hom
 clear ho hom
 rcases h with h | ⟨b, off, rfl, hb, hc⟩
 ·rw [h] at hm; simp at hm
 go_enter Tryz.func117, Tryz.ntmps117
 go_wp2_with fail
 go_loop [8] (fun z => ∃ k : Nat, k ≤ m ∧ z = .int .i64 k) (fun z => zs.length - (intOf z).toNat)
 case atStart => exact ⟨0, Nat.zero_le _, rfl⟩
 case round =>
  obtain ⟨k, hk, rfl⟩ := hrel
  have hlt : k < zs.length := by omega
  have c0 := hc k hlt
  by_cases hkm : k = m
  ·subst hkm
   go_wp2_with (go_at_call 121; refine (odd_any _ _).mono ?_; rintro e w' ⟨rfl, rfl⟩; rw [HM.out])
   go_ret
   exact ⟨rfl, rfl⟩
  ·have HK := HO.out k (by omega)
   have HK := Lib.hid HK
   go_wp2_with (go_at_call 121; refine (odd_any _ _).mono ?_; rintro e w' ⟨rfl, rfl⟩; rw [HK.out])
   go_round
   case rel => exact ⟨k + 1, by omega, by go_num⟩
   case measure => simp [intOf]; omega
theorem contains_any (A : Option Addr) (c : Nat) (zs : List Int) (w : World) (h : Nums w A zs) (hl : zs.length ≤ 8) :
  Calls Tryz.prog 72 #[.slice A zs.length c, .func (.func 121) #[] #[]] w fun e w' => e = .returned (.bool (zs.any odd)) ∧ w = w' := by
 cases ha : zs.any odd with
 | false =>
  have ho : ∀ i (h : i < zs.length), odd zs[i] = false := by
   intro i hi
   have := List.any_eq_false.1 ha zs[i] (List.getElem_mem hi)
   simpa using this
  have HO := Lib.hid ho
  clear ho ha
  go_enter Tryz.func72, Tryz.ntmps72
  go_wp2_with (go_at_call 117; refine (index_none A c zs _ h hl HO.out).mono ?_; rintro e w' ⟨rfl, rfl⟩)
  go_ret
  exact ⟨rfl, rfl⟩
 | true =>
  obtain ⟨m, hm, hom, ho⟩ : ∃ m, ∃ (hm : m < zs.length), odd zs[m] = true ∧ ∀ i (h : i < m), odd (zs[i]'(by omega)) = false := by
   have hf : zs.findIdx odd < zs.length := by
    rw [List.findIdx_lt_length]
    obtain ⟨x, hx, hox⟩ := List.any_eq_true.1 ha
    exact ⟨x, hx, hox⟩
   refine ⟨zs.findIdx odd, hf, List.findIdx_getElem, fun i hi => ?_⟩
   have := List.not_of_lt_findIdx hi
   simpa using this
  have HO := Lib.hid ho
  have HM := Lib.hid hom
  clear ho hom ha
  go_enter Tryz.func72, Tryz.ntmps72
  go_wp2_with (go_at_call 117; refine (index_some A c zs _ h hl m hm HM.out HO.out).mono ?_; rintro e w' ⟨rfl, rfl⟩)
  go_ret
  exact ⟨rfl, rfl⟩
theorem Tryz.info2 : (Tryz.prog.info? 2).map (fun i => (i.zero, i.size, i.bytes)) = some (some (.int .i64 0), 1, 8) := by kernel_rfl
def ints (zs : List Int) : List Value := zs.map (Value.int .i64)
theorem ints_one (zs : List Int) : ∀ u ∈ ints zs, u.oneCell' = true := by
 intro u hu
 obtain ⟨x, _, rfl⟩ := List.mem_map.1 hu
 rfl
set_option maxHeartbeats 400000 in
theorem clone_any (A : Option Addr) (c : Nat) (zs : List Int) (w : World) (h : Nums w A zs) (hl : zs.length ≤ 8) (h0 : 0 < zs.length) :
  Calls Tryz.prog 39 #[.slice A zs.length c] w fun e w' => ∃ a cap, e = .returned (.slice (some ⟨a, 0, none⟩) zs.length cap) ∧ w'.ownsRow w.heap.size 2 1 (.slice (some ⟨a, 0, none⟩) zs.length cap) zs.length (ints zs) ∧ Below w.heap.size w w' := by
 rcases h with h | ⟨b, off, rfl, hb, hc⟩
 ·rw [h] at h0; simp at h0
 have hne := fun W => Lib.run_eql_slice_nil (P := Tryz.prog) W 32 2 (some ⟨b, off, none⟩) zs.length c 0 0 Tryz.underlying32
 obtain ⟨i0, hi0, hz0, hz1, hz2⟩ := info_parts Tryz.info2
 have Hz0 := Lib.hid hz0; clear hz0
 have Hz1 := Lib.hid hz1; clear hz1
 have Hz2 := Lib.hid hz2; clear hz2
 have Hi := Lib.hid hi0; clear hi0
 have HC := Lib.hid hc; clear hc
 have hm : zs.length ≤ maxLen := by unfold maxLen; omega
 go_enter Tryz.func39, Tryz.ntmps39
 go_wp2_with (at_builtin; refine wpList_append_own _ rfl (.tmp 5) (.tmp 6) 32 rfl w.heap.size 2 i0 _ 1 8 Tryz.underlying32 Hi.out Hz0.out Hz1.out Hz2.out rfl (by decide) (.slice (some ⟨w.heap.size, 0, none⟩) 0 0) 0 [] rfl ?c1 ⟨b, off, none⟩ zs.length c (ints zs) rfl (by simp [ints]) ?c2 (ints_one zs) (by omega) (by omega) (by simp) ?c3)
 case c1 => exact World.ownsRow_made w #[] 0 (Nat.le_refl _) (by unfold maxLen; omega) (by simp)
 case c2 =>
  intro j u hj
  have hjl : j < zs.length := by
   have := (List.getElem?_eq_some_iff.1 hj).1
   simpa [ints] using this
  rw [add_none, World.cell?_alloc_past _ _ _ hb, HC.out j hjl]
  simpa [ints, hjl] using hj
 case c3 =>
  intro v' w' hown hg _
  have hb : Below w.heap.size w w' := ((Below.refl _ _).alloc (Nat.le_refl _) _).grown hg (by simp) (fun k e => by simp [Value.ownBlock] at e; omega)
  obtain ⟨g, cap', rfl⟩ : ∃ g cap', v' = .slice (some ⟨g, 0, none⟩) zs.length cap' := by
   rcases hown.2 with ⟨_, h⟩ | ⟨g, cap', _, h, _⟩
   ·omega
   ·exact ⟨g, cap', h⟩
  go_wp2; go_ret
  exact ⟨g, cap', rfl, by simpa using hown, hb⟩
structure Jb where
 rs : List Int
 ds : List Int
 k : Nat
 had : Int
 all : Int
 how : Int
deriving DecidableEq
def tick (j : Jb) : Jb × Int × Int :=
 if j.how ≠ 0 then (j, -1, j.how)
 else if j.had + 1 = j.ds.getD j.k 0 then
  if j.k + 1 = j.rs.length then (⟨j.rs, j.ds, j.k + 1, 0, j.all + 1, 2⟩, j.k, 2)
  else (⟨j.rs, j.ds, j.k + 1, 0, j.all + 1, 0⟩, j.k, 1)
 else if j.had + 1 = j.rs.getD j.k 0 then (⟨j.rs, j.ds, j.k, j.had + 1, j.all + 1, 3⟩, j.k, 3)
 else (⟨j.rs, j.ds, j.k, j.had + 1, j.all + 1, 0⟩, j.k, 0)
def jcells (j : Jb) (a ca b cb : Nat) : Array Value :=
 #[.slice (some ⟨a, 0, none⟩) j.rs.length ca, .slice (some ⟨b, 0, none⟩) j.rs.length cb, .int .i64 j.k, .int .i64 j.had, .int .i64 j.all, .int .i64 j.how]
structure JobAt (w : World) (base p a ca b cb : Nat) (j : Jb) : Prop where
 hd : Blk w p 186 (jcells j a ca b cb)
 rs : w.ownsRow base 2 1 (.slice (some ⟨a, 0, none⟩) j.rs.length ca) j.rs.length (ints j.rs)
 ds : w.ownsRow base 2 1 (.slice (some ⟨b, 0, none⟩) j.rs.length cb) j.rs.length (ints j.ds)
 same : j.ds.length = j.rs.length
 ap : a ≠ p
 bp : b ≠ p
theorem own_at {w : World} {base a c n : Nat} {e : TypeId} {xs : List Value} (h : w.ownsRow base e 1 (.slice (some ⟨a, 0, none⟩) n c) n xs) :
  base ≤ a ∧ ∃ cur, Blk w a e cur ∧ cur.size = c ∧ n ≤ c ∧ cur.toList.take n = xs := by
 rcases h.2 with ⟨h0, _⟩ | ⟨g, c', cur, h0, hb, hh, hn, hm, hs, ht⟩
 ·cases h0
 ·injection h0 with h0 h1 h2
  injection h0 with h0
  injection h0 with h0
  subst h0 h2
  exact ⟨hb, cur, hh, by simpa using hs, hn, by simpa using ht⟩
theorem own_cell {w : World} {base a c n : Nat} {e : TypeId} {xs : List Value} (h : w.ownsRow base e 1 (.slice (some ⟨a, 0, none⟩) n c) n xs) (i : Nat) (hi : i < n) : w.cell? ⟨a, i, none⟩ = xs[i]? := by
 obtain ⟨_, cur, hb, hs, hn, ht⟩ := own_at h
 rw [hb.cell, ← ht, List.getElem?_take_of_lt hi]
 simp
theorem own_keep {w w' : World} {base : Nat} {v : Value} {row : Option Nat} {e : TypeId} {n : Nat} {xs : List Value} (h : w.ownsRow base e 1 v n xs) (hg : w.grownBy w' row) (h2 : v.ownBlock = none ∨ v.ownBlock ≠ row) : w'.ownsRow base e 1 v n xs := by
 refine ⟨h.1, ?_⟩
 rcases h.2 with h0 | ⟨g, c, cur, rfl, hb, hh, rest⟩
 ·exact .inl h0
 ·refine .inr ⟨g, c, cur, rfl, hb, ?_, rest⟩
  have hne : some g ≠ row := by
   rcases h2 with h2 | h2
   ·simp [Value.ownBlock] at h2
   ·exact h2
  exact Blk.grown hh hg hne
section
variable {w w' : World} {base p a ca b cb : Nat} {j : Jb}
theorem JobAt.keep {row : Option Nat} (h : JobAt w base p a ca b cb j) (hg : w.grownBy w' row) (h1 : some p ≠ row) (h2 : some a ≠ row) (h3 : some b ≠ row) : JobAt w' base p a ca b cb j :=
 ⟨h.hd.grown hg h1, own_keep h.rs hg (.inr (by simpa [Value.ownBlock] using h2)), own_keep h.ds hg (.inr (by simpa [Value.ownBlock] using h3)), h.same, h.ap, h.bp⟩
theorem JobAt.drewN (h : JobAt w base p a ca b cb j) (n : Nat) : JobAt (w.drewN n) base p a ca b cb j := ⟨h.hd, h.rs, h.ds, h.same, h.ap, h.bp⟩
theorem JobAt.drew (h : JobAt w base p a ca b cb j) : JobAt w.drew base p a ca b cb j := ⟨h.hd, h.rs, h.ds, h.same, h.ap, h.bp⟩
theorem JobAt.below (h : JobAt w base p a ca b cb j) (hb : Below w.heap.size w w') : JobAt w' base p a ca b cb j := h.keep (only_of_below hb none) (by simp) (by simp) (by simp)
theorem JobAt.lt (h : JobAt w base p a ca b cb j) : p < w.heap.size := h.hd.lt
theorem JobAt.cr (h : JobAt w base p a ca b cb j) {i : Nat} (hi : i < j.rs.length) : w.cell? ⟨a, i, none⟩ = some (.int .i64 (j.rs.getD i 0)) := by
 rw [own_cell h.rs i hi]; simp [ints, hi, List.getD]
theorem JobAt.cd (h : JobAt w base p a ca b cb j) {i : Nat} (hi : i < j.rs.length) : w.cell? ⟨b, i, none⟩ = some (.int .i64 (j.ds.getD i 0)) := by
 have hi' : i < j.ds.length := by rw [h.same]; exact hi
 rw [own_cell h.ds i hi]; simp [ints, hi', List.getD]
theorem JobAt.turn (h : JobAt w base p a ca b cb j) (hg : w.grownBy w' (some p)) {k : Nat} {had all how : Int}
  (hb : Blk w' p 186 #[.slice (some ⟨a, 0, none⟩) j.rs.length ca, .slice (some ⟨b, 0, none⟩) j.rs.length cb, .int .i64 k, .int .i64 had, .int .i64 all, .int .i64 how]) :
  JobAt w' base p a ca b cb ⟨j.rs, j.ds, k, had, all, how⟩ :=
 ⟨hb, own_keep h.rs hg (.inr (by simpa [Value.ownBlock] using h.ap)), own_keep h.ds hg (.inr (by simpa [Value.ownBlock] using h.bp)), h.same, h.ap, h.bp⟩
end
theorem ret2 {a b c d : Int} (h1 : a = c) (h2 : b = d) : Ending.returned (.tuple #[.int .i64 a, .int .i64 b]) = .returned (.tuple #[.int .i64 c, .int .i64 d]) := by rw [h1, h2]
set_option maxHeartbeats 4000000 in
theorem step_any {base p a ca b cb : Nat} {j : Jb} (w : World) (h : JobAt w base p a ca b cb j) (hk : j.how = 0 → j.k < j.rs.length) (hn : j.rs.length ≤ 8) (h0 : 0 ≤ j.had) (h1 : j.had ≤ 1000000) (h2 : 0 ≤ j.all) (h3 : j.all ≤ 1000000) :
  Calls Tryz.prog 90 #[.pointer (some ⟨p, 0, none⟩)] w fun e w' => e = .returned (.tuple #[.int .i64 (tick j).2.1, .int .i64 (tick j).2.2]) ∧ JobAt w' base p a ca b cb (tick j).1 ∧ w.grownBy w' (some p) := by
 obtain ⟨rs, ds, k, had, all, how⟩ := j
 simp only at hk hn h0 h1 h2 h3
 have B := h.hd
 have q0 : w.cell? ⟨p, 0, none⟩ = some (.slice (some ⟨a, 0, none⟩) rs.length ca) := B.cell 0
 have q1 : w.cell? ⟨p, 1, none⟩ = some (.slice (some ⟨b, 0, none⟩) rs.length cb) := B.cell 1
 have q2 : w.cell? ⟨p, 2, none⟩ = some (.int .i64 k) := B.cell 2
 have q3 : w.cell? ⟨p, 3, none⟩ = some (.int .i64 had) := B.cell 3
 have q4 : w.cell? ⟨p, 4, none⟩ = some (.int .i64 all) := B.cell 4
 have q5 : w.cell? ⟨p, 5, none⟩ = some (.int .i64 how) := B.cell 5
 have f2 := B.frozen 2
 have f3 := B.frozen 3
 have f4 := B.frozen 4
 have f5 := B.frozen 5
 by_cases hh : how = 0
 ·subst hh
  have hk := hk rfl
  have cr := h.cr (i := k) hk
  have cd := h.cd (i := k) hk
  simp only at cr cd
  obtain ⟨r, hr⟩ : ∃ r, rs.getD k 0 = r := ⟨_, rfl⟩
  obtain ⟨d, hd⟩ : ∃ d, ds.getD k 0 = d := ⟨_, rfl⟩
  rw [hr] at cr
  rw [hd] at cd
  have i0 : (0 : Int) ≤ (k : Int) := by omega
  have i1 : (k : Int) < (rs.length : Int) := by omega
  have e1 : IntKind.i64.wrap ((rs.length : Int) - 1) = (rs.length : Int) - 1 := IntWalk.i64_in _ (by omega)
  obtain ⟨w2, hw2⟩ : ∃ w2, (w.setCell ⟨p, 4, none⟩ (.int .i64 (all + 1))).setCell ⟨p, 3, none⟩ (.int .i64 (had + 1)) = w2 := ⟨_, rfl⟩
  have B2 : Blk w2 p 186 #[.slice (some ⟨a, 0, none⟩) rs.length ca, .slice (some ⟨b, 0, none⟩) rs.length cb, .int .i64 k, .int .i64 (had + 1), .int .i64 (all + 1), .int .i64 0] := by
   rw [← hw2]; exact (B.set_ 4 _).set_ 3 _
  have g2 : w.grownBy w2 (some p) := by
   rw [← hw2]; exact only_setCell (only_setCell (World.grownBy.refl w (some p)) (p := ⟨p, 4, none⟩) (.inl rfl) _) (p := ⟨p, 3, none⟩) (.inl rfl) _
  have T : JobAt w2 base p a ca b cb ⟨rs, ds, k, had + 1, all + 1, 0⟩ := h.turn g2 B2
  have HW2 := Lib.hid hw2
  clear hw2
  have s0 : w2.cell? ⟨p, 0, none⟩ = some (.slice (some ⟨a, 0, none⟩) rs.length ca) := B2.cell 0
  have s1 : w2.cell? ⟨p, 1, none⟩ = some (.slice (some ⟨b, 0, none⟩) rs.length cb) := B2.cell 1
  have s2 : w2.cell? ⟨p, 2, none⟩ = some (.int .i64 k) := B2.cell 2
  have s3 : w2.cell? ⟨p, 3, none⟩ = some (.int .i64 (had + 1)) := B2.cell 3
  have s5 : w2.cell? ⟨p, 5, none⟩ = some (.int .i64 0) := B2.cell 5
  have t2 := B2.frozen 2
  have t3 := B2.frozen 3
  have t5 := B2.frozen 5
  have dr := T.cr (i := k) hk
  have dd := T.cd (i := k) hk
  simp only at dr dd
  rw [hr] at dr
  rw [hd] at dd
  by_cases c1 : had + 1 = d
  ·subst c1
   by_cases c2 : k + 1 = rs.length
   ·have l1 : rs.length ≤ k + 1 := by omega
    have ht : tick ⟨rs, ds, k, had, all, 0⟩ = (⟨rs, ds, k + 1, 0, all + 1, 2⟩, (k : Int), 2) := by unfold tick; rw [if_neg (by simp), if_pos hd.symm, if_pos c2]
    rw [ht]
    clear ht c2 hr hd h hk
    go_enter Tryz.func90, Tryz.ntmps90
    go_wp2_with fail
    rw [HW2.out]
    clear q0 q1 q2 q3 q4 q5 f2 f3 f4 f5 B HW2 cr cd
    go_quiet (fail)
    go_wp2_with fail
    go_ret2
    exact ⟨ret2 (by simp) rfl, (T.turn (only_setCell (only_setCell (only_setCell (World.grownBy.refl w2 (some p)) (p := ⟨p, 5, none⟩) (.inl rfl) (.int .i64 2)) (p := ⟨p, 2, none⟩) (.inl rfl) (.int .i64 ((k + 1 : Nat) : Int))) (p := ⟨p, 3, none⟩) (.inl rfl) (.int .i64 0)) (k := k + 1) (had := 0) (all := all + 1) (how := 2) (((B2.set_ 5 (.int .i64 2)).set_ 2 (.int .i64 ((k + 1 : Nat) : Int))).set_ 3 (.int .i64 0))).drewN _, only_drewN (only_setCell (only_setCell (only_setCell g2 (p := ⟨p, 5, none⟩) (.inl rfl) (.int .i64 2)) (p := ⟨p, 2, none⟩) (.inl rfl) (.int .i64 ((k + 1 : Nat) : Int))) (p := ⟨p, 3, none⟩) (.inl rfl) (.int .i64 0)) _⟩
   ·have l1 : k + 2 ≤ rs.length := by omega
    have ht : tick ⟨rs, ds, k, had, all, 0⟩ = (⟨rs, ds, k + 1, 0, all + 1, 0⟩, (k : Int), 1) := by unfold tick; rw [if_neg (by simp), if_pos hd.symm, if_neg c2]
    rw [ht]
    clear ht c2 hr hd h hk
    go_enter Tryz.func90, Tryz.ntmps90
    go_wp2_with fail
    rw [HW2.out]
    clear q0 q1 q2 q3 q4 q5 f2 f3 f4 f5 B HW2 cr cd
    go_quiet (fail)
    go_wp2_with fail
    go_quiet (fail)
    go_wp2_with fail
    go_ret2
    exact ⟨ret2 (by simp) rfl, (T.turn (only_setCell (only_setCell (World.grownBy.refl w2 (some p)) (p := ⟨p, 2, none⟩) (.inl rfl) (.int .i64 ((k + 1 : Nat) : Int))) (p := ⟨p, 3, none⟩) (.inl rfl) (.int .i64 0)) (k := k + 1) (had := 0) (all := all + 1) (how := 0) ((B2.set_ 2 (.int .i64 ((k + 1 : Nat) : Int))).set_ 3 (.int .i64 0))).drewN _, only_drewN (only_setCell (only_setCell g2 (p := ⟨p, 2, none⟩) (.inl rfl) (.int .i64 ((k + 1 : Nat) : Int))) (p := ⟨p, 3, none⟩) (.inl rfl) (.int .i64 0)) _⟩
  ·have b1 : (had + 1 == d) = false := by simpa using c1
   by_cases c3 : had + 1 = r
   ·subst c3
    have ht : tick ⟨rs, ds, k, had, all, 0⟩ = (⟨rs, ds, k, had + 1, all + 1, 3⟩, (k : Int), 3) := by unfold tick; rw [if_neg (by simp), if_neg (by rw [hd]; exact c1), if_pos hr.symm]
    rw [ht]
    clear ht c1 hr hd h hk
    go_enter Tryz.func90, Tryz.ntmps90
    go_wp2_with fail
    rw [HW2.out]
    clear q0 q1 q2 q3 q4 q5 f2 f3 f4 f5 B HW2 cr cd
    go_quiet (fail)
    go_wp2_with fail
    go_quiet (fail)
    go_wp2_with fail
    go_quiet (fail)
    go_wp2_with fail
    go_ret2
    exact ⟨ret2 (by simp) rfl, (T.turn (only_setCell (World.grownBy.refl w2 (some p)) (p := ⟨p, 5, none⟩) (.inl rfl) (.int .i64 3)) (k := k) (had := had + 1) (all := all + 1) (how := 3) (B2.set_ 5 (.int .i64 3))).drewN _, only_drewN (only_setCell g2 (p := ⟨p, 5, none⟩) (.inl rfl) (.int .i64 3)) _⟩
   ·have b3 : (had + 1 == r) = false := by simpa using c3
    have ht : tick ⟨rs, ds, k, had, all, 0⟩ = (⟨rs, ds, k, had + 1, all + 1, 0⟩, (k : Int), 0) := by unfold tick; rw [if_neg (by simp), if_neg (by rw [hd]; exact c1), if_neg (by rw [hr]; exact c3)]
    rw [ht]
    clear ht c1 c3 hr hd h hk
    go_enter Tryz.func90, Tryz.ntmps90
    go_wp2_with fail
    rw [HW2.out]
    clear q0 q1 q2 q3 q4 q5 f2 f3 f4 f5 B HW2 cr cd
    go_quiet (fail)
    go_wp2_with fail
    go_quiet (fail)
    go_wp2_with fail
    go_quiet (fail)
    go_wp2_with fail
    go_ret2
    exact ⟨ret2 rfl rfl, ((T.drewN _).drewN _).drewN _, only_drewN (only_drewN (only_drewN g2 _) _) _⟩
 ·have ht : tick ⟨rs, ds, k, had, all, how⟩ = (⟨rs, ds, k, had, all, how⟩, -1, how) := by simp [tick, hh]
  rw [ht]
  have b0 : (how != 0) = true := by rw [bne_iff_ne]; exact hh
  clear ht hk
  go_enter Tryz.func90, Tryz.ntmps90
  go_wp2_with fail
  go_quiet (fail)
  go_wp2
  go_ret2
  exact ⟨rfl, h.drewN _, only_drewN (World.grownBy.refl _ _) _⟩
def dmd (dm : List Int) (i : Nat) : Int := max 1 (dm.getD i 1)
def dems (rs dm : List Int) : List Int := (List.range rs.length).map (dmd dm)
def jb0 (rs dm : List Int) : Jb := ⟨rs, dems rs dm, 0, 0, 0, 0⟩
theorem dems_length (rs dm : List Int) : (dems rs dm).length = rs.length := by simp [dems]
theorem dems_snoc (rs dm : List Int) (k : Nat) (h : k < rs.length) : (dems rs dm).take (k + 1) = (dems rs dm).take k ++ [dmd dm k] := by
 rw [List.take_succ_eq_append_getElem (by rw [dems_length]; exact h)]
 simp [dems]
theorem ints_snoc (l : List Int) (x : Int) : ints (l ++ [x]) = ints l ++ [.int .i64 x] := by simp [ints]
theorem own_far {w : World} {base : Nat} {e : TypeId} {size n : Nat} {v : Value} {xs : List Value} (h : w.ownsRow base e size v n xs) {p : Nat} {o : Nat} (hp : v.ownBlock ≠ some p) (u : Value) : (w.setCell ⟨p, o, none⟩ u).ownsRow base e size v n xs := by
 refine ⟨h.1, ?_⟩
 rcases h.2 with h0 | ⟨g, cap, cur, rfl, hb, hh, rest⟩
 ·exact .inl h0
 ·exact .inr ⟨g, cap, cur, rfl, hb, (Below.heap_setCell w ⟨p, o, none⟩ u g (fun e => hp (by simp [Value.ownBlock]; exact e))).trans hh, rest⟩
structure Mk (w wr : World) (p a ca : Nat) (rs : List Int) (v : Value) (ds : List Int) : Prop where
 hd : Blk wr p 186 #[.slice (some ⟨a, 0, none⟩) rs.length ca, v, .int .i64 0, .int .i64 0, .int .i64 0, .int .i64 0]
 rs : wr.ownsRow w.heap.size 2 1 (.slice (some ⟨a, 0, none⟩) rs.length ca) rs.length (ints rs)
 ds : wr.ownsRow (p + 1) 2 1 v ds.length (ints ds)
 b : Below w.heap.size w wr
 pw : w.heap.size ≤ p
 ap : a < p
set_option maxHeartbeats 4000000 in
theorem new_yes (A A' : Option Addr) (c c' : Nat) (rs dm : List Int) (w : World) (h : Nums w A rs) (h' : Nums w A' dm) (h0 : 0 < rs.length) (h8 : rs.length ≤ 8) (ho : rs.any odd = false) :
  Calls Tryz.prog 79 #[.slice A rs.length c, .slice A' dm.length c'] w fun e w' => ∃ p a ca b cb, e = .returned (.pointer (some ⟨p, 0, none⟩)) ∧ JobAt w' w.heap.size p a ca b cb (jb0 rs dm) ∧ Below w.heap.size w w' ∧ w.heap.size ≤ p := by
 obtain ⟨i0, hi0, hz0, hz1, hz2⟩ := info_parts Tryz.info2
 have Hz0 := Lib.hid hz0; clear hz0
 have Hz1 := Lib.hid hz1; clear hz1
 have Hz2 := Lib.hid hz2; clear hz2
 have Hi := Lib.hid hi0; clear hi0
 have HO := Lib.hid ho
 clear ho
 go_enter Tryz.func79, Tryz.ntmps79
 go_wp2_with (first
  | (go_at_call 72; refine (contains_any A c rs _ h h8).mono ?_; rintro e w' ⟨rfl, rfl⟩; rw [HO.out])
  | (go_at_call 39; refine (clone_any A c rs w h h8 h0).mono ?_; rintro e w1 ⟨a, ca, rfl, hown, hb⟩))
 obtain ⟨p, hp⟩ : ∃ p, w1.heap.size = p := ⟨_, rfl⟩
 have hap : a < p := by
  have := hown.lt a rfl
  omega
 have hpw : w.heap.size ≤ p := by rw [← hp]; exact hb.size
 have hM : Mk w (w1.alloc (.cells #[.slice (some ⟨a, 0, none⟩) rs.length ca, .slice none 0 0, .int .i64 0, .int .i64 0, .int .i64 0, .int .i64 0] 186)) p a ca rs (.slice none 0 0) [] := by
  refine ⟨?_, hown.alloc _, ?_, hb.alloc hb.size _, hpw, hap⟩
  ·rw [← hp]; exact Blk.new w1 186 _
  ·simpa [ints] using World.ownsRow_nil _ _ _ _
 obtain ⟨w2, hw2⟩ : ∃ w2, w1.alloc (.cells #[.slice (some ⟨a, 0, none⟩) rs.length ca, .slice none 0 0, .int .i64 0, .int .i64 0, .int .i64 0, .int .i64 0] 186) = w2 := ⟨_, rfl⟩
 rw [hw2] at hM ⊢
 rw [hp]
 clear hw2 hp hown hb
 go_loopw [28] (fun z wr => ∃ (k : Nat) (v : Value), k ≤ rs.length ∧ z = .int .i64 k ∧ Mk w wr p a ca rs v ((dems rs dm).take k)) (fun z _ => rs.length - (intOf z).toNat)
 case atStart => exact ⟨0, _, Nat.zero_le _, rfl, by simpa using hM⟩
 case round =>
  obtain ⟨k, v, hk, rfl, hR⟩ := hrel
  clear hM
  by_cases hlt : k < rs.length
  ·have hds : ((dems rs dm).take k).length = k := by rw [List.length_take, dems_length]; omega
   have hO := hR.ds
   rw [hds] at hO
   have HD := Lib.hid hds
   have cp : wr.cell? ⟨p, 1, none⟩ = some v := hR.hd.cell 1
   have hpr : p < wr.heap.size := hR.hd.lt
   rcases h.below hR.b with hz | ⟨b1, off1, rfl, hb1, hc1⟩
   ·rw [hz] at hlt; simp at hlt
   by_cases hkd : k < dm.length
   ·rcases h'.below hR.b with hz | ⟨b2, off2, rfl, hb2, hc2⟩
    ·rw [hz] at hkd; simp at hkd
    have d1 := hc2 k hkd
    clear hc1 hc2
    obtain ⟨y, hy⟩ : ∃ y, dm[k] = y := ⟨_, rfl⟩
    rw [hy] at d1
    have hg : dm.getD k 1 = y := by rw [List.getD_eq_getElem?_getD, List.getElem?_eq_getElem hkd]; simpa using hy
    by_cases hm : y ≤ 1
    ·clear hy
     have hx : dmd dm k = 1 := by unfold dmd; rw [hg]; omega
     have HX := Lib.hid hx
     clear hx h h' hds hg
     go_wp2_with (at_builtin; refine wpList_append_own_at _ rfl (.tmp 45) (.tmp 47) 32 rfl (p + 1) 2 i0 _ 1 8 Tryz.underlying32 Hi.out Hz0.out Hz1.out Hz2.out rfl (by decide) v k (ints ((dems rs dm).take k)) rfl (hO.alloc _) ⟨wr.heap.size, 0, none⟩ 1 1 [.int .i64 1] rfl rfl ?c1 ?c2 (by unfold maxLen; omega) (by omega) (by simp; omega) ?c3)
     case c1 =>
      intro j u hj
      rw [add_none, Nat.zero_add, (Blk.new wr 2 _).cell j]
      simpa using hj
     case c2 =>
      intro u hu
      simp at hu
      rw [hu]
      rfl
     case c3 =>
      intro v' w' hown hgr _ _
      obtain ⟨g, cap', rfl⟩ : ∃ g cap', v' = .slice (some ⟨g, 0, none⟩) (k + 1) cap' := by
       rcases hown.2 with ⟨_, h⟩ | ⟨g, cap', _, h, _⟩
       ·omega
       ·exact ⟨g, cap', h⟩
      have hne : some p ≠ v.ownBlock := fun e => own_blk_ne hO hR.hd (by decide) e.symm
      have hna : some a ≠ v.ownBlock := by
       intro e
       have := hO.lt a e.symm
       have := hR.ap
       omega
      have hB2 := (hR.hd.alloc (.cells #[.int .i64 1] 2)).grown hgr hne
      have hA2 := own_keep (hR.rs.alloc (.cells #[.int .i64 1] 2)) hgr (.inr (by simpa [Value.ownBlock] using hna))
      have hne2 := own_blk_ne hown hB2 (by decide)
      have k0 : w'.cell? ⟨p, 1, none⟩ = some v := hB2.cell 1
      have k1 := hB2.frozen 1
      have hW2 : Below w.heap.size w w' := (hR.b.alloc hR.b.size _).grown hgr (by have := hR.b.size; simp; omega) (fun q e => by
       have := hO.lt q e
       have := hR.pw
       omega)
      have hap2 : (Value.slice (some ⟨a, 0, none⟩) rs.length ca).ownBlock ≠ some p := by
       simp only [Value.ownBlock]
       intro e
       injection e with e
       have := hR.ap
       omega
      have hM2 : Mk w (w'.setCell ⟨p, 1, none⟩ (.slice (some ⟨g, 0, none⟩) (k + 1) cap')) p a ca rs (.slice (some ⟨g, 0, none⟩) (k + 1) cap') ((dems rs dm).take (k + 1)) := by
       refine ⟨hB2.set_ 1 _, own_far (o := 1) hA2 hap2 _, ?_, hW2.setCell (p := ⟨p, 1, none⟩) hR.pw _, hR.pw, hR.ap⟩
       rw [dems_snoc rs dm k hlt, ints_snoc, List.length_append, HD.out, HX.out]
       exact own_far (o := 1) hown hne2 _
      have HM2 := Lib.hid hM2
      clear hB2 hA2 hne hna hne2 hW2 hap2 hM2 hown hgr hO hR HD HX
      go_wp2_with fail
      exact ⟨⟨k + 1, _, by omega, by go_num, HM2.out⟩, by simp [intOf]; omega⟩
    ·have hm2 : 1 < y := by omega
     clear hy hm
     have hx : dmd dm k = y := by unfold dmd; rw [hg]; omega
     have HX := Lib.hid hx
     clear hx h h' hds hg
     go_wp2_with (at_builtin; refine wpList_append_own_at _ rfl (.tmp 45) (.tmp 47) 32 rfl (p + 1) 2 i0 _ 1 8 Tryz.underlying32 Hi.out Hz0.out Hz1.out Hz2.out rfl (by decide) v k (ints ((dems rs dm).take k)) rfl (hO.alloc _) ⟨wr.heap.size, 0, none⟩ 1 1 [.int .i64 y] rfl rfl ?c1 ?c2 (by unfold maxLen; omega) (by omega) (by simp; omega) ?c3)
     case c1 =>
      intro j u hj
      rw [add_none, Nat.zero_add, (Blk.new wr 2 _).cell j]
      simpa using hj
     case c2 =>
      intro u hu
      simp at hu
      rw [hu]
      rfl
     case c3 =>
      intro v' w' hown hgr _ _
      obtain ⟨g, cap', rfl⟩ : ∃ g cap', v' = .slice (some ⟨g, 0, none⟩) (k + 1) cap' := by
       rcases hown.2 with ⟨_, h⟩ | ⟨g, cap', _, h, _⟩
       ·omega
       ·exact ⟨g, cap', h⟩
      have hne : some p ≠ v.ownBlock := fun e => own_blk_ne hO hR.hd (by decide) e.symm
      have hna : some a ≠ v.ownBlock := by
       intro e
       have := hO.lt a e.symm
       have := hR.ap
       omega
      have hB2 := (hR.hd.alloc (.cells #[.int .i64 y] 2)).grown hgr hne
      have hA2 := own_keep (hR.rs.alloc (.cells #[.int .i64 y] 2)) hgr (.inr (by simpa [Value.ownBlock] using hna))
      have hne2 := own_blk_ne hown hB2 (by decide)
      have k0 : w'.cell? ⟨p, 1, none⟩ = some v := hB2.cell 1
      have k1 := hB2.frozen 1
      have hW2 : Below w.heap.size w w' := (hR.b.alloc hR.b.size _).grown hgr (by have := hR.b.size; simp; omega) (fun q e => by
       have := hO.lt q e
       have := hR.pw
       omega)
      have hap2 : (Value.slice (some ⟨a, 0, none⟩) rs.length ca).ownBlock ≠ some p := by
       simp only [Value.ownBlock]
       intro e
       injection e with e
       have := hR.ap
       omega
      have hM2 : Mk w (w'.setCell ⟨p, 1, none⟩ (.slice (some ⟨g, 0, none⟩) (k + 1) cap')) p a ca rs (.slice (some ⟨g, 0, none⟩) (k + 1) cap') ((dems rs dm).take (k + 1)) := by
       refine ⟨hB2.set_ 1 _, own_far (o := 1) hA2 hap2 _, ?_, hW2.setCell (p := ⟨p, 1, none⟩) hR.pw _, hR.pw, hR.ap⟩
       rw [dems_snoc rs dm k hlt, ints_snoc, List.length_append, HD.out, HX.out]
       exact own_far (o := 1) hown hne2 _
      have HM2 := Lib.hid hM2
      clear hB2 hA2 hne hna hne2 hW2 hap2 hM2 hown hgr hO hR HD HX
      go_wp2_with fail
      exact ⟨⟨k + 1, _, by omega, by go_num, HM2.out⟩, by simp [intOf]; omega⟩
   ·clear hc1
    have hx : dmd dm k = 1 := by unfold dmd; rw [List.getD_eq_getElem?_getD, List.getElem?_eq_none (by omega)]; rfl
    have HX := Lib.hid hx
    clear hx h h' hds
    go_wp2_with (at_builtin; refine wpList_append_own_at _ rfl (.tmp 45) (.tmp 47) 32 rfl (p + 1) 2 i0 _ 1 8 Tryz.underlying32 Hi.out Hz0.out Hz1.out Hz2.out rfl (by decide) v k (ints ((dems rs dm).take k)) rfl (hO.alloc _) ⟨wr.heap.size, 0, none⟩ 1 1 [.int .i64 1] rfl rfl ?c1 ?c2 (by unfold maxLen; omega) (by omega) (by simp; omega) ?c3)
    case c1 =>
     intro j u hj
     rw [add_none, Nat.zero_add, (Blk.new wr 2 _).cell j]
     simpa using hj
    case c2 =>
     intro u hu
     simp at hu
     rw [hu]
     rfl
    case c3 =>
     intro v' w' hown hgr _ _
     obtain ⟨g, cap', rfl⟩ : ∃ g cap', v' = .slice (some ⟨g, 0, none⟩) (k + 1) cap' := by
      rcases hown.2 with ⟨_, h⟩ | ⟨g, cap', _, h, _⟩
      ·omega
      ·exact ⟨g, cap', h⟩
     have hne : some p ≠ v.ownBlock := fun e => own_blk_ne hO hR.hd (by decide) e.symm
     have hna : some a ≠ v.ownBlock := by
      intro e
      have := hO.lt a e.symm
      have := hR.ap
      omega
     have hB2 := (hR.hd.alloc (.cells #[.int .i64 1] 2)).grown hgr hne
     have hA2 := own_keep (hR.rs.alloc (.cells #[.int .i64 1] 2)) hgr (.inr (by simpa [Value.ownBlock] using hna))
     have hne2 := own_blk_ne hown hB2 (by decide)
     have k0 : w'.cell? ⟨p, 1, none⟩ = some v := hB2.cell 1
     have k1 := hB2.frozen 1
     have hW2 : Below w.heap.size w w' := (hR.b.alloc hR.b.size _).grown hgr (by have := hR.b.size; simp; omega) (fun q e => by
      have := hO.lt q e
      have := hR.pw
      omega)
     have hap2 : (Value.slice (some ⟨a, 0, none⟩) rs.length ca).ownBlock ≠ some p := by
      simp only [Value.ownBlock]
      intro e
      injection e with e
      have := hR.ap
      omega
     have hM2 : Mk w (w'.setCell ⟨p, 1, none⟩ (.slice (some ⟨g, 0, none⟩) (k + 1) cap')) p a ca rs (.slice (some ⟨g, 0, none⟩) (k + 1) cap') ((dems rs dm).take (k + 1)) := by
      refine ⟨hB2.set_ 1 _, own_far (o := 1) hA2 hap2 _, ?_, hW2.setCell (p := ⟨p, 1, none⟩) hR.pw _, hR.pw, hR.ap⟩
      rw [dems_snoc rs dm k hlt, ints_snoc, List.length_append, HD.out, HX.out]
      exact own_far (o := 1) hown hne2 _
     have HM2 := Lib.hid hM2
     clear hB2 hA2 hne hna hne2 hW2 hap2 hM2 hown hgr hO hR HD HX
     go_wp2_with fail
     exact ⟨⟨k + 1, _, by omega, by go_num, HM2.out⟩, by simp [intOf]; omega⟩
  ·obtain rfl : k = rs.length := by omega
   have ht : (dems rs dm).take rs.length = dems rs dm := by rw [List.take_of_length_le (by rw [dems_length]; exact Nat.le_refl _)]
   rw [ht] at hR
   have hO := hR.ds
   rw [dems_length] at hO
   obtain ⟨b, cb, rfl⟩ : ∃ b cb, v = .slice (some ⟨b, 0, none⟩) rs.length cb := by
    rcases hO.2 with ⟨_, h⟩ | ⟨g, cap, _, h, _⟩
    ·omega
    ·exact ⟨g, cap, h⟩
   have hbp : b ≠ p := by
    have := hO.lt b rfl
    omega
   go_wp2_with fail
   go_ret
   refine ⟨p, a, ca, b, cb, rfl, ⟨hR.hd, hR.rs, ?_, dems_length rs dm, Nat.ne_of_lt hR.ap, hbp⟩, hR.b, hR.pw⟩
   rcases hO with ⟨q1, q2⟩
   refine ⟨q1, ?_⟩
   rcases q2 with q2 | ⟨g, cap, cur, e, hg, rest⟩
   ·exact .inl q2
   ·exact .inr ⟨g, cap, cur, e, by have := hR.pw; omega, rest⟩
theorem mid_any {base p a ca b cb : Nat} {j : Jb} (w : World) (h : JobAt w base p a ca b cb j) :
  Calls Tryz.prog 91 #[.pointer (some ⟨p, 0, none⟩)] w fun e w' => e = .returned (.bool (decide (0 < j.had))) ∧ w = w' := by
 have q3 : w.cell? ⟨p, 3, none⟩ = some (.int .i64 j.had) := h.hd.cell 3
 clear h
 go_enter Tryz.func91, Tryz.ntmps91
 go_wp2; go_ret
 exact ⟨rfl, rfl⟩
end Go.Proofs.YtdgfjpbjiccllaaGreatDoor.J
namespace Go.Proofs.YtdgfjpbjiccllaaGreatDoor.P
open Go.RowKit
set_option maxRecDepth 100000
structure Wt where
 t : Int
 last : Int
 on : Bool
def Wt.cells (x : Wt) : List Value := [.int .i64 x.t, .int .i64 x.last, .bool x.on]
def flat (L : List Wt) : List Value := L.flatMap Wt.cells
theorem flat_length (L : List Wt) : (flat L).length = L.length * 3 := by
 unfold flat
 induction L with
 | nil => rfl
 | cons x L ih => simp only [List.flatMap_cons, List.length_append, ih, List.length_cons]; show 3 + _ = _; omega
theorem flat_at (L : List Wt) : ∀ (i j : Nat) (hi : i < L.length), j < 3 → (flat L)[i * 3 + j]? = (L[i]'hi).cells[j]? := by
 unfold flat
 induction L with
 | nil => intro i j hi; simp at hi
 | cons x L ih =>
  intro i j hi hj
  rcases i with _ | i
  ·simp only [List.flatMap_cons, Nat.zero_mul, Nat.zero_add, List.getElem_cons_zero]
   exact List.getElem?_append_left hj
  ·have := ih i j (by simpa using hi) hj
   simp only [List.flatMap_cons, List.getElem_cons_succ]
   rw [List.getElem?_append_right (by show 3 ≤ _; omega)]
   rw [show (i + 1) * 3 + j - x.cells.length = i * 3 + j from by show (i + 1) * 3 + j - 3 = _; omega]
   exact this
theorem flat_set (L : List Wt) : ∀ (i : Nat) (x : Wt), i < L.length → ∀ (h : i < L.length), x.t = L[i].t →
  ((flat L).set (i * 3 + 1) (.int .i64 x.last)).set (i * 3 + 2) (.bool x.on) = flat (L.set i x) := by
 unfold flat
 induction L with
 | nil => intro i x hi; simp at hi
 | cons y L ih =>
  intro i x hi h ht
  rcases i with _ | i
  ·simp at ht
   simp [Wt.cells, ht]
  ·have := ih i x (by simpa using hi) (by simpa using hi) (by simpa using ht)
   simp only [List.set_cons_succ, List.flatMap_cons, ← this]
   have e : ∀ (l r : List Value) (k : Nat) (v : Value), l.length = 3 → (l ++ r).set (k + 3) v = l ++ r.set k v := by
    intro l r k v hl
    rw [List.set_append_right _ _ (by omega)]
    congr 2
    omega
   rw [show (i + 1) * 3 + 1 = (i * 3 + 1) + 3 from by omega, e _ _ _ _ rfl, show (i + 1) * 3 + 2 = (i * 3 + 2) + 3 from by omega, e _ _ _ _ rfl]
structure Pol (w : World) (base p : Nat) (v : Value) (L : List Wt) : Prop where
 hd : Blk w p 138 #[v]
 own : w.ownsRow base 140 3 v L.length (flat L)
structure PolAt (w : World) (base p a cap : Nat) (L : List Wt) : Prop where
 pol : Pol w base p (.slice (some ⟨a, 0, none⟩) L.length cap) L
 ne : a ≠ p
section
variable {w w' : World} {base p a cap : Nat} {v : Value} {L : List Wt}
theorem Pol.keep {row : Option Nat} (h : Pol w base p v L) (hg : w.grownBy w' row) (h1 : some p ≠ row) (h2 : v.ownBlock = none ∨ v.ownBlock ≠ row) : Pol w' base p v L := by
 refine ⟨h.hd.grown hg h1, h.own.1, ?_⟩
 rcases h.own.2 with h0 | ⟨g, c, cur, rfl, hb, hh, rest⟩
 ·exact .inl h0
 ·refine .inr ⟨g, c, cur, rfl, hb, ?_, rest⟩
  have hne : some g ≠ row := by
   rcases h2 with h2 | h2
   ·simp [Value.ownBlock] at h2
   ·exact h2
  exact Blk.grown hh hg hne
theorem Pol.nil (h : Pol w base p v []) : v = .slice none 0 0 ∨ ∃ a c, v = .slice (some ⟨a, 0, none⟩) 0 c := by
 rcases h.own.2 with ⟨h0, _⟩ | ⟨g, c, cur, h0, _⟩
 ·exact .inl h0
 ·exact .inr ⟨g, c, h0⟩
theorem PolAt.row (h : PolAt w base p a cap L) : ∃ cur, Blk w a 140 cur ∧ cur.size = cap * 3 ∧ L.length ≤ cap ∧ cur.toList.take (L.length * 3) = flat L := by
 rcases h.pol.own.2 with ⟨h0, _⟩ | ⟨g, c, cur, h0, hb, hh, hn, hm, hs, ht⟩
 ·cases h0
 ·injection h0 with h0 h1 h2
  injection h0 with h0
  injection h0 with h0
  subst h0 h2
  exact ⟨cur, hh, hs, hn, ht⟩
theorem PolAt.at_ (h : PolAt w base p a cap L) {i j : Nat} (hi : i < L.length) (hj : j < 3) : w.cell? ⟨a, i * 3 + j, none⟩ = L[i].cells[j]? := by
 obtain ⟨cur, hb, hs, hn, ht⟩ := h.row
 rw [hb.cell, ← flat_at L i j hi hj, ← ht, List.getElem?_take_of_lt (by omega)]
 simp
theorem PolAt.c0 (h : PolAt w base p a cap L) {i : Nat} (hi : i < L.length) : w.cell? ⟨a, i * 3, none⟩ = some (.int .i64 L[i].t) := h.at_ hi (j := 0) (by omega)
theorem PolAt.c1 (h : PolAt w base p a cap L) {i : Nat} (hi : i < L.length) : w.cell? ⟨a, i * 3 + 1, none⟩ = some (.int .i64 L[i].last) := h.at_ hi (j := 1) (by omega)
theorem PolAt.c2 (h : PolAt w base p a cap L) {i : Nat} (hi : i < L.length) : w.cell? ⟨a, i * 3 + 2, none⟩ = some (.bool L[i].on) := h.at_ hi (j := 2) (by omega)
theorem PolAt.fr (h : PolAt w base p a cap L) (i : Nat) : w.frozen? ⟨a, i, none⟩ = false := by
 obtain ⟨cur, hb, _⟩ := h.row
 exact hb.frozen i
theorem PolAt.slice (h : PolAt w base p a cap L) : w.cell? ⟨p, 0, none⟩ = some (.slice (some ⟨a, 0, none⟩) L.length cap) := by rw [h.pol.hd.cell]; rfl
theorem PolAt.keep {row : Option Nat} (h : PolAt w base p a cap L) (hg : w.grownBy w' row) (h1 : some p ≠ row) (h2 : some a ≠ row) : PolAt w' base p a cap L :=
 ⟨h.pol.keep hg h1 (.inr (by simpa [Value.ownBlock] using h2)), h.ne⟩
theorem PolAt.drew (h : PolAt w base p a cap L) : PolAt w.drew base p a cap L := ⟨⟨h.pol.hd, h.pol.own⟩, h.ne⟩
theorem PolAt.drewN (h : PolAt w base p a cap L) (n : Nat) : PolAt (w.drewN n) base p a cap L := ⟨⟨h.pol.hd, h.pol.own⟩, h.ne⟩
theorem PolAt.lt (h : PolAt w base p a cap L) : a < w.heap.size ∧ p < w.heap.size ∧ base ≤ a := by
 obtain ⟨cur, hb, _⟩ := h.row
 refine ⟨hb.lt, h.pol.hd.lt, ?_⟩
 rcases h.pol.own.2 with ⟨h0, _⟩ | ⟨g, c, cur, h0, hb, _⟩
 ·cases h0
 ·injection h0 with h0
  injection h0 with h0
  injection h0 with h0
  subst h0
  exact hb
theorem PolAt.set (h : PolAt w base p a cap L) {i : Nat} (hi : i < L.length) (t : Int) :
  PolAt ((w.setCell ⟨a, i * 3 + 1, none⟩ (.int .i64 t)).setCell ⟨a, i * 3 + 2, none⟩ (.bool true)) base p a cap (L.set i ⟨L[i].t, t, true⟩) := by
 refine ⟨⟨?_, ?_⟩, h.ne⟩
 ·rw [List.length_set]
  exact (h.pol.hd.far (fun e => h.ne e.symm) _).far (fun e => h.ne e.symm) _
 ·rw [List.length_set]
  refine ⟨by rw [flat_length, List.length_set], .inr ?_⟩
  rcases h.pol.own.2 with ⟨h0, _⟩ | ⟨g, c, cur, h0, hb, hh, hn, hm, hs, ht⟩
  ·cases h0
  ·injection h0 with h0 h1 h2
   injection h0 with h0
   injection h0 with h0
   subst h0 h2
   have hB : Blk w a 140 cur := hh
   refine ⟨a, cap, _, rfl, hb, (hB.set_ (i * 3 + 1) (.int .i64 t)).set_ (i * 3 + 2) (.bool true), hn, hm, by simpa using hs, ?_⟩
   rw [← flat_set L i ⟨L[i].t, t, true⟩ hi hi rfl, ← ht]
   simp only [Array.toList_setIfInBounds]
   rw [List.take_set, List.take_set]
end
def early (x : Wt) (t : Int) : Bool := x.on && (decide (t < x.last) || decide (t - x.last < x.t))
def earlyL (L : List Wt) (i t : Int) : Bool := decide (0 ≤ i) && (L[i.toNat]?.map (early · t)).getD false
def noteOk (L : List Wt) (i t : Int) : Bool := decide (0 ≤ i) && decide (i < L.length) && decide (0 ≤ t) && !earlyL L i t
def noteAt (L : List Wt) (n : Nat) (t : Int) : List Wt := L.set n ⟨(L[n]?.map Wt.t).getD 0, t, true⟩
def noteL (L : List Wt) (i t : Int) : List Wt := if noteOk L i t then noteAt L i.toNat t else L
def OkL (L : List Wt) : Prop := ∀ x ∈ L, 0 ≤ x.last ∧ x.last ≤ 9223372036854775807
theorem noteAt_in {L : List Wt} {n : Nat} (h : n < L.length) (t : Int) : noteAt L n t = L.set n ⟨L[n].t, t, true⟩ := by simp [noteAt, h]
theorem earlyL_in {L : List Wt} {n : Nat} (h : n < L.length) (t : Int) : earlyL L n t = early L[n] t := by simp [earlyL, h]
theorem OkL.note {L : List Wt} (h : OkL L) (i t : Int) (h0 : t ≤ 9223372036854775807) : OkL (noteL L i t) := by
 unfold noteL
 split
 ·rename_i hk
  intro x hx
  unfold noteAt at hx
  rcases List.mem_or_eq_of_mem_set hx with hx | rfl
  ·exact h x hx
  ·simp [noteOk] at hk
   exact ⟨by simpa using hk.1.2, h0⟩
 ·exact h
theorem noteL_length (L : List Wt) (i t : Int) : (noteL L i t).length = L.length := by
 unfold noteL noteAt
 split <;> simp
theorem at_yes {base p a cap : Nat} {L : List Wt} (n : Nat) (hn : n < L.length) (w : World) (h : PolAt w base p a cap L) :
  Calls Tryz.prog 120 #[.pointer (some ⟨p, 0, none⟩), .int .i64 n] w fun e w' => e = .returned (.pointer (some ⟨a, n * 3, none⟩)) ∧ w = w' := by
 have c := h.slice
 clear h
 go_enter Tryz.func120, Tryz.ntmps120
 go_wp2; go_ret
 exact ⟨rfl, rfl⟩
set_option maxHeartbeats 1000000 in
theorem early_yes {base p a cap : Nat} {L : List Wt} (n : Nat) (t : Int) (hn : n < L.length) (hL : OkL L) (h0 : -9223372036854775808 ≤ t) (h1 : t ≤ 9223372036854775807) (w : World) (h : PolAt w base p a cap L) :
  Calls Tryz.prog 76 #[.pointer (some ⟨p, 0, none⟩), .int .i64 n, .int .i64 t] w fun e w' => e = .returned (.bool (earlyL L n t)) ∧ ∃ m, w.drewN m = w' := by
 rw [earlyL_in hn]
 obtain ⟨hl0, hl1⟩ := hL L[n] (List.getElem_mem hn)
 have c0 := h.c0 hn
 have c1 := h.c1 hn
 have c2 := h.c2 hn
 obtain ⟨x, hx⟩ : ∃ x, L[n] = x := ⟨_, rfl⟩
 rw [hx] at c0 c1 c2 hl0 hl1 ⊢
 obtain ⟨pe, la, on⟩ := x
 simp only at c0 c1 c2 hl0 hl1
 cases on with
 | false =>
  rw [show early ⟨pe, la, false⟩ t = false from by simp [early]]
  clear hL hx
  go_enter Tryz.func76, Tryz.ntmps76
  go_wp2_with (go_at_call 120; refine (at_yes n hn _ h).mono ?_; rintro e w' ⟨rfl, rfl⟩)
  go_quiet (fail)
  go_wp2; go_ret
  exact ⟨rfl, _, rfl⟩
 | true =>
  by_cases hlt : t < la
  ·rw [show early ⟨pe, la, true⟩ t = true from by simp [early, hlt]]
   have hd : decide (t < la) = true := by simpa using hlt
   clear hL hx
   go_enter Tryz.func76, Tryz.ntmps76
   go_wp2_with (go_at_call 120; refine (at_yes n hn _ h).mono ?_; rintro e w' ⟨rfl, rfl⟩)
   go_quiet (fail)
   go_wp2; go_ret
   exact ⟨rfl, _, rfl⟩
  ·rw [show early ⟨pe, la, true⟩ t = decide (t - la < pe) from by simp [early, hlt]]
   have hd : decide (t < la) = false := by simpa using hlt
   have hs : IntKind.i64.wrap (t - la) = t - la := IntWalk.i64_in _ (by omega)
   clear hL hx h0 h1 hl0 hl1
   go_enter Tryz.func76, Tryz.ntmps76
   go_wp2_with (go_at_call 120; refine (at_yes n hn _ h).mono ?_; rintro e w' ⟨rfl, rfl⟩)
   go_quiet (fail)
   go_wp2; go_ret
   exact ⟨rfl, _, rfl⟩
set_option maxHeartbeats 1000000 in
theorem note_yes {base p a cap : Nat} {L : List Wt} (n : Nat) (t : Int) (hn : n < L.length) (hL : OkL L) (h0 : -9223372036854775808 ≤ t) (h1 : t ≤ 9223372036854775807) (w : World) (h : PolAt w base p a cap L) :
  Calls Tryz.prog 78 #[.pointer (some ⟨p, 0, none⟩), .int .i64 n, .int .i64 t] w fun e w' =>
   e = .returned (.bool (noteOk L n t)) ∧ PolAt w' base p a cap (noteL L n t) ∧ w.grownBy w' (some a) := by
 have Hat := fun W h => at_yes (base := base) (p := p) (a := a) (cap := cap) (L := L) n hn W h
 by_cases ht : t < 0
 ·have e1 : noteOk L n t = false := by simp [noteOk, show ¬ 0 ≤ t from by omega]
  have e2 : noteL L n t = L := by simp [noteL, e1]
  rw [e1, e2]
  clear e1 e2
  go_enter Tryz.func78, Tryz.ntmps78
  go_wp2_with (go_at_call 120; refine (at_yes n hn _ h).mono ?_; rintro e w' ⟨rfl, rfl⟩)
  go_ret
  exact ⟨rfl, h, World.grownBy.refl _ _⟩
 ·have hE := fun W h => early_yes (base := base) (p := p) (a := a) (cap := cap) (L := L) n t hn hL h0 h1 W h
  cases he : earlyL L n t with
  | true =>
   have e1 : noteOk L n t = false := by simp [noteOk, he]
   have e2 : noteL L n t = L := by simp [noteL, e1]
   rw [e1, e2]
   have HE := Lib.hid he
   clear e1 e2 he hL h0 h1
   go_enter Tryz.func78, Tryz.ntmps78
   go_wp2_with (first
    | (go_at_call 120; refine (at_yes n hn _ h).mono ?_; rintro e w' ⟨rfl, rfl⟩)
    | (go_at_call 76; refine (hE _ h).mono ?_; rintro e w' ⟨rfl, m, rfl⟩; rw [HE.out]))
   go_ret
   exact ⟨rfl, h.drewN m, only_drewN (World.grownBy.refl _ _) _⟩
  | false =>
   have e1 : noteOk L n t = true := by simp [noteOk, he, hn]; omega
   have e2 : noteL L n t = L.set n ⟨L[n].t, t, true⟩ := by simp [noteL, e1, noteAt_in hn]
   rw [e1, e2]
   have HE := Lib.hid he
   have c1 := h.c1 hn
   have c2 := h.c2 hn
   have f1 := h.fr (n * 3 + 1)
   have f2 := h.fr (n * 3 + 2)
   clear e1 e2 he hL h0 h1
   go_enter Tryz.func78, Tryz.ntmps78
   go_wp2_with (first
    | (go_at_call 120; refine (at_yes n hn _ h).mono ?_; rintro e w' ⟨rfl, rfl⟩)
    | (go_at_call 76; refine (hE _ h).mono ?_; rintro e w' ⟨rfl, m, rfl⟩; rw [HE.out]))
   go_ret
   exact ⟨rfl, (h.set hn t).drewN m, only_drewN (only_setCell (only_setCell (World.grownBy.refl w (some a)) (p := ⟨a, n * 3 + 1, none⟩) (.inl rfl) _) (p := ⟨a, n * 3 + 2, none⟩) (.inl rfl) _) m⟩
def odd (z : Int) : Bool := decide (z < 1) || decide (10000 < z)
def mkW (z : Int) : Wt := ⟨z, 0, false⟩
theorem odd_any (z : Int) (w : World) : Calls Tryz.prog 73 #[.int .i64 z] w fun e w' => e = .returned (.bool (odd z)) ∧ w = w' := by
 unfold odd
 by_cases h1 : z < 1
 ·have d1 : decide (z < 1) = true := by simpa using h1
  rw [d1]
  go_enter Tryz.func73, Tryz.ntmps73
  go_wp2; go_ret
  exact ⟨rfl, rfl⟩
 ·have d1 : decide (z < 1) = false := by simpa using h1
  rw [d1]
  go_enter Tryz.func73, Tryz.ntmps73
  go_wp2; go_ret
  exact ⟨rfl, rfl⟩
set_option maxHeartbeats 400000 in
theorem index_none (A : Option Addr) (c : Nat) (zs : List Int) (w : World) (h : Nums w A zs) (hl : zs.length ≤ 8) (ho : ∀ i (h : i < zs.length), odd zs[i] = false) :
  Calls Tryz.prog 117 #[.slice A zs.length c, .func (.func 73) #[] #[]] w fun e w' => e = .returned (.int .i64 (-1)) ∧ w = w' := by
 have HO := Lib.hid ho
 clear ho
 go_enter Tryz.func117, Tryz.ntmps117
 go_wp2_with fail
 go_loop [8] (fun z => ∃ k : Nat, k ≤ zs.length ∧ z = .int .i64 k) (fun z => zs.length - (intOf z).toNat)
 case atStart => exact ⟨0, Nat.zero_le _, rfl⟩
 case round =>
  obtain ⟨k, hk, rfl⟩ := hrel
  by_cases hlt : k < zs.length
  ·rcases h with h | ⟨b, off, rfl, hb, hc⟩
   ·rw [h] at hlt; simp at hlt
   have c0 := hc k hlt
   have HK := HO.out k hlt
   have HK := Lib.hid HK
   go_wp2_with (go_at_call 73; refine (odd_any _ _).mono ?_; rintro e w' ⟨rfl, rfl⟩; rw [HK.out])
   go_round
   case rel => exact ⟨k + 1, by omega, by go_num⟩
   case measure => simp [intOf]; omega
  ·go_wp2
   go_ret
   exact ⟨rfl, rfl⟩
set_option maxHeartbeats 400000 in
theorem index_some (A : Option Addr) (c : Nat) (zs : List Int) (w : World) (h : Nums w A zs) (hl : zs.length ≤ 8) (m : Nat) (hm : m < zs.length) (hom : odd zs[m] = true) (ho : ∀ i (h : i < m), odd (zs[i]'(by omega)) = false) :
  Calls Tryz.prog 117 #[.slice A zs.length c, .func (.func 73) #[] #[]] w fun e w' => e = .returned (.int .i64 m) ∧ w = w' := by
 have HO := Lib.hid ho
 have HM := Lib.hid hom
 clear ho hom
 rcases h with h | ⟨b, off, rfl, hb, hc⟩
 ·rw [h] at hm; simp at hm
 go_enter Tryz.func117, Tryz.ntmps117
 go_wp2_with fail
 go_loop [8] (fun z => ∃ k : Nat, k ≤ m ∧ z = .int .i64 k) (fun z => zs.length - (intOf z).toNat)
 case atStart => exact ⟨0, Nat.zero_le _, rfl⟩
 case round =>
  obtain ⟨k, hk, rfl⟩ := hrel
  have hlt : k < zs.length := by omega
  have c0 := hc k hlt
  by_cases hkm : k = m
  ·subst hkm
   go_wp2_with (go_at_call 73; refine (odd_any _ _).mono ?_; rintro e w' ⟨rfl, rfl⟩; rw [HM.out])
   go_ret
   exact ⟨rfl, rfl⟩
  ·have HK := HO.out k (by omega)
   have HK := Lib.hid HK
   go_wp2_with (go_at_call 73; refine (odd_any _ _).mono ?_; rintro e w' ⟨rfl, rfl⟩; rw [HK.out])
   go_round
   case rel => exact ⟨k + 1, by omega, by go_num⟩
   case measure => simp [intOf]; omega
theorem contains_any (A : Option Addr) (c : Nat) (zs : List Int) (w : World) (h : Nums w A zs) (hl : zs.length ≤ 8) :
  Calls Tryz.prog 72 #[.slice A zs.length c, .func (.func 73) #[] #[]] w fun e w' => e = .returned (.bool (zs.any odd)) ∧ w = w' := by
 cases ha : zs.any odd with
 | false =>
  have ho : ∀ i (h : i < zs.length), odd zs[i] = false := by
   intro i hi
   have := List.any_eq_false.1 ha zs[i] (List.getElem_mem hi)
   simpa using this
  have HO := Lib.hid ho
  clear ho ha
  go_enter Tryz.func72, Tryz.ntmps72
  go_wp2_with (go_at_call 117; refine (index_none A c zs _ h hl HO.out).mono ?_; rintro e w' ⟨rfl, rfl⟩)
  go_ret
  exact ⟨rfl, rfl⟩
 | true =>
  obtain ⟨m, hm, hom, ho⟩ : ∃ m, ∃ (hm : m < zs.length), odd zs[m] = true ∧ ∀ i (h : i < m), odd (zs[i]'(by omega)) = false := by
   have hf : zs.findIdx odd < zs.length := by
    rw [List.findIdx_lt_length]
    obtain ⟨x, hx, hox⟩ := List.any_eq_true.1 ha
    exact ⟨x, hx, hox⟩
   refine ⟨zs.findIdx odd, hf, List.findIdx_getElem, fun i hi => ?_⟩
   have := List.not_of_lt_findIdx hi
   simpa using this
  have HO := Lib.hid ho
  have HM := Lib.hid hom
  clear ho hom ha
  go_enter Tryz.func72, Tryz.ntmps72
  go_wp2_with (go_at_call 117; refine (index_some A c zs _ h hl m hm HM.out HO.out).mono ?_; rintro e w' ⟨rfl, rfl⟩)
  go_ret
  exact ⟨rfl, rfl⟩
theorem Tryz.info140 : (Tryz.prog.info? 140).map (fun i => (i.zero, i.size, i.bytes)) = some (some (.agg #[.int .i64 0, .int .i64 0, .bool false]), 3, 24) := by kernel_rfl
theorem flat_snoc (L : List Wt) (x : Wt) : flat (L ++ [x]) = flat L ++ x.cells := by simp [flat]
theorem take_snoc (zs : List Int) (k : Nat) (h : k < zs.length) : (zs.map mkW).take (k + 1) = (zs.map mkW).take k ++ [mkW zs[k]] := by
 rw [List.take_succ_eq_append_getElem (by simpa using h)]; simp
theorem own_far {w : World} {base : Nat} {e : TypeId} {size n : Nat} {v : Value} {xs : List Value} (h : w.ownsRow base e size v n xs) {p : Nat} {o : Nat} (hp : v.ownBlock ≠ some p) (u : Value) : (w.setCell ⟨p, o, none⟩ u).ownsRow base e size v n xs := by
 refine ⟨h.1, ?_⟩
 rcases h.2 with h0 | ⟨g, cap, cur, rfl, hb, hh, rest⟩
 ·exact .inl h0
 ·exact .inr ⟨g, cap, cur, rfl, hb, (Below.heap_setCell w ⟨p, o, none⟩ u g (fun e => hp (by simp [Value.ownBlock]; exact e))).trans hh, rest⟩
set_option maxHeartbeats 1000000 in
theorem new_yes (A : Option Addr) (c : Nat) (zs : List Int) (w : World) (h : Nums w A zs) (h8 : zs.length ≤ 8) (ha : zs.any odd = false) :
  Calls Tryz.prog 45 #[.slice A zs.length c] w fun e w' => ∃ v, e = .returned (.pointer (some ⟨w.heap.size, 0, none⟩)) ∧ Pol w' (w.heap.size + 1) w.heap.size v (zs.map mkW) ∧ Below w.heap.size w w' := by
 obtain ⟨i0, hi0, hz0, hz1, hz2⟩ := info_parts Tryz.info140
 have Hz0 := Lib.hid hz0; clear hz0
 have Hz1 := Lib.hid hz1; clear hz1
 have Hz2 := Lib.hid hz2; clear hz2
 have Hi := Lib.hid hi0; clear hi0
 have HA := Lib.hid ha
 clear ha
 go_enter Tryz.func45, Tryz.ntmps45
 go_wp2_with (go_at_call 72; refine (contains_any A c zs _ h h8).mono ?_; rintro e w' ⟨rfl, rfl⟩; rw [HA.out])
 have hN : Nums (w.alloc (.cells #[.slice none 0 0] 138)) A zs := h.below ((Below.refl _ _).alloc (Nat.le_refl _) _)
 go_loopw [17] (fun z wr => ∃ (k : Nat) (v : Value), k ≤ zs.length ∧ z = .int .i64 k ∧ Blk wr w.heap.size 138 #[v] ∧ wr.ownsRow (w.heap.size + 1) 140 3 v k (flat ((zs.map mkW).take k)) ∧ Below w.heap.size w wr ∧ w.heap.size < wr.heap.size) (fun z _ => zs.length - (intOf z).toNat)
 case atStart =>
  refine ⟨0, .slice none 0 0, Nat.zero_le _, rfl, Blk.new w 138 _, ?_, (Below.refl _ _).alloc (Nat.le_refl _) _, by simp⟩
  simpa [flat] using World.ownsRow_nil _ _ _ _
 case round =>
  obtain ⟨k, v, hk, rfl, hB, hO, hW, hS⟩ := hrel
  by_cases hlt : k < zs.length
  ·have hNr := h.below hW
   rcases hNr with h0 | ⟨b, off, rfl, hb, hc⟩
   ·rw [h0] at hlt; simp at hlt
   have c0 := hc k hlt
   have cp : wr.cell? ⟨w.heap.size, 0, none⟩ = some v := hB.cell 0
   clear h hN hc
   go_wp2_with (at_builtin; refine wpList_append_own_at _ rfl (.tmp 25) (.tmp 28) 136 rfl (w.heap.size + 1) 140 i0 _ 3 24 Tryz.underlying136 Hi.out Hz0.out Hz1.out Hz2.out rfl (by decide) v k (flat ((zs.map mkW).take k)) rfl (hO.alloc _) ⟨wr.heap.size, 0, none⟩ 1 1 [.int .i64 zs[k], .int .i64 0, .bool false] rfl rfl ?c1 ?c2 (by unfold maxLen; omega) (by omega) (by simp; omega) ?c3)
   case c1 =>
    intro j u hj
    rw [add_none, Nat.zero_add, (Blk.new wr 140 _).cell j]
    simpa using hj
   case c2 =>
    intro u hu
    simp at hu
    rcases hu with rfl | rfl | rfl <;> rfl
   case c3 =>
    intro v' w' hown hgr _ _
    obtain ⟨g, cap', rfl⟩ : ∃ g cap', v' = .slice (some ⟨g, 0, none⟩) (k + 1) cap' := by
     rcases hown.2 with ⟨_, h⟩ | ⟨g, cap', _, h, _⟩
     ·omega
     ·exact ⟨g, cap', h⟩
    have hne : some w.heap.size ≠ v.ownBlock := fun e => own_blk_ne hO hB (by decide) e.symm
    have hB2 : Blk w' w.heap.size 138 #[v] := (hB.alloc _).grown hgr hne
    have hne2 := own_blk_ne hown hB2 (by decide)
    have k0 : w'.cell? ⟨w.heap.size, 0, none⟩ = some v := hB2.cell 0
    have k1 := hB2.frozen 0
    have hlt' : w.heap.size < w'.heap.size := hB2.lt
    have hW2 : Below w.heap.size w w' := (hW.alloc hW.size _).grown hgr (by simp; omega) (fun q e => by
     have := hO.lt q e.symm.symm
     omega)
    have HW := Lib.hid (⟨hB2.set_ 0 (.slice (some ⟨g, 0, none⟩) (k + 1) cap'), own_far (o := 0) hown hne2 (.slice (some ⟨g, 0, none⟩) (k + 1) cap'), hW2.setCell (p := ⟨w.heap.size, 0, none⟩) (Nat.le_refl _) (.slice (some ⟨g, 0, none⟩) (k + 1) cap')⟩ : _ ∧ _ ∧ _)
    clear hB hO hW hown hgr hB2 hne hne2 hW2 cp c0 hS
    go_wp2_with fail
    obtain ⟨q1, q2, q3⟩ := HW.out
    refine ⟨⟨k + 1, _, by omega, by go_num, q1, ?_, q3, by simpa [World.setCell] using hlt'⟩, by simp [intOf]; omega⟩
    rw [take_snoc zs k hlt, flat_snoc]
    exact q2
  ·obtain rfl : k = zs.length := by omega
   have ho : wr.ownsRow (w.heap.size + 1) 140 3 v (zs.map mkW).length (flat (zs.map mkW)) := by
    rw [List.take_of_length_le (by simp)] at hO
    simpa using hO
   clear hO
   go_wp2_with fail
   go_ret
   exact ⟨v, rfl, ⟨hB, ho⟩, hW⟩
theorem Pol.at_ {w : World} {base p : Nat} {v : Value} {L : List Wt} (h : Pol w base p v L) (hL : 0 < L.length) : ∃ a cap, v = .slice (some ⟨a, 0, none⟩) L.length cap ∧ PolAt w base p a cap L := by
 rcases h.own.2 with ⟨_, h0⟩ | ⟨g, c, cur, hv, _⟩
 ·omega
 ·subst hv
  refine ⟨g, c, rfl, h, ?_⟩
  intro e
  exact own_blk_ne h.own h.hd (by decide) (by simp [Value.ownBlock, e])
end Go.Proofs.YtdgfjpbjiccllaaGreatDoor.P
namespace Go.Proofs.YtdgfjpbjiccllaaGreatDoor.T
open Go.RowKit
set_option maxRecDepth 100000
structure St where
 p : Bool
 s : Bool
 m : Bool
 a : Int
deriving DecidableEq
def St.cells (x : St) : List Value := [.bool x.p, .bool x.s, .bool x.m, .int .i64 x.a]
def St.val (x : St) : Value := .agg #[.bool x.p, .bool x.s, .bool x.m, .int .i64 x.a]
def cellsOf (L : List St) : Array Value := (L.flatMap St.cells).toArray
structure Tab (w : World) (tt : TypeId) (g a : Nat) (L : List St) : Prop where
 hd : Blk w g tt #[.slice (some ⟨a, 0, none⟩) L.length L.length]
 row : Blk w a 142 (cellsOf L)
theorem cellsOf_length (L : List St) : (L.flatMap St.cells).length = L.length * 4 := by
 induction L with
 | nil => rfl
 | cons x L ih => simp only [List.flatMap_cons, List.length_append, ih, List.length_cons]; show 4 + _ = _; omega
theorem cellsOf_at (L : List St) : ∀ (i j : Nat) (hi : i < L.length), j < 4 → (cellsOf L)[i * 4 + j]? = (L[i]'hi).cells[j]? := by
 unfold cellsOf
 induction L with
 | nil => intro i j hi; simp at hi
 | cons x L ih =>
  intro i j hi hj
  rcases i with _ | i
  ·simp only [List.getElem?_toArray, List.flatMap_cons, Nat.zero_mul, Nat.zero_add, List.getElem_cons_zero]
   exact List.getElem?_append_left hj
  ·have := ih i j (by simpa using hi) hj
   simp only [List.getElem?_toArray, List.flatMap_cons, List.getElem_cons_succ] at this ⊢
   rw [List.getElem?_append_right (by show 4 ≤ _; omega)]
   rw [show (i + 1) * 4 + j - x.cells.length = i * 4 + j from by show (i + 1) * 4 + j - 4 = _; omega]
   exact this
theorem cellsOf_set (L : List St) : ∀ (i : Nat) (x : St), i < L.length →
  ((((cellsOf L).setIfInBounds (i * 4) (.bool x.p)).setIfInBounds (i * 4 + 1) (.bool x.s)).setIfInBounds (i * 4 + 2) (.bool x.m)).setIfInBounds (i * 4 + 3) (.int .i64 x.a) = cellsOf (L.set i x) := by
 unfold cellsOf
 induction L with
 | nil => intro i x hi; simp at hi
 | cons y L ih =>
  intro i x hi
  rcases i with _ | i
  ·simp [St.cells]
  ·have := ih i x (by simpa using hi)
   simp only [List.setIfInBounds_toArray, Array.mk.injEq] at this ⊢
   simp only [List.set_cons_succ, List.flatMap_cons, ← this]
   have e : ∀ (l r : List Value) (k : Nat) (v : Value), l.length = 4 → (l ++ r).set (k + 4) v = l ++ r.set k v := by
    intro l r k v hl
    rw [List.set_append_right _ _ (by omega)]
    congr 2
    omega
   rw [show (i + 1) * 4 = i * 4 + 4 from by omega, e _ _ _ _ rfl, show i * 4 + 4 + 1 = (i * 4 + 1) + 4 from rfl, e _ _ _ _ rfl,
    show i * 4 + 4 + 2 = (i * 4 + 2) + 4 from rfl, e _ _ _ _ rfl, show i * 4 + 4 + 3 = (i * 4 + 3) + 4 from rfl, e _ _ _ _ rfl]
section
variable {w w' : World} {g a b : Nat} {tt : TypeId} {L : List St} {t : TypeId} {cs : Array Value}
theorem Tab.ne (h : Tab w tt g a L) (ht : tt ≠ 142) : g ≠ a := Blk.ne_ h.hd h.row ht
theorem Tab.keep {row : Option Nat} (h : Tab w tt g a L) (hg : w.grownBy w' row) (h1 : some g ≠ row) (h2 : some a ≠ row) : Tab w' tt g a L := ⟨h.hd.grown hg h1, h.row.grown hg h2⟩
def setSt (w : World) (a i : Nat) (x : St) : World :=
 (((w.setCell ⟨a, i * 4, none⟩ (.bool x.p)).setCell ⟨a, i * 4 + 1, none⟩ (.bool x.s)).setCell ⟨a, i * 4 + 2, none⟩ (.bool x.m)).setCell ⟨a, i * 4 + 3, none⟩ (.int .i64 x.a)
theorem grown_setSt (w : World) (a i : Nat) (x : St) : w.grownBy (setSt w a i x) (some a) := by
 have h0 := World.grownBy.refl w (some a)
 have h1 := only_setCell h0 (p := ⟨a, i * 4, none⟩) (.inl rfl) (.bool x.p)
 have h2 := only_setCell h1 (p := ⟨a, i * 4 + 1, none⟩) (.inl rfl) (.bool x.s)
 have h3 := only_setCell h2 (p := ⟨a, i * 4 + 2, none⟩) (.inl rfl) (.bool x.m)
 exact only_setCell h3 (p := ⟨a, i * 4 + 3, none⟩) (.inl rfl) (.int .i64 x.a)
theorem Tab.set (h : Tab w tt g a L) (ht : tt ≠ 142) {i : Nat} (hi : i < L.length) (x : St) : Tab (setSt w a i x) tt g a (L.set i x) := by
 have hne := h.ne ht
 constructor
 ·rw [List.length_set]
  have hg := grown_setSt w a i x
  exact h.hd.grown hg (fun e : some g = some a => hne (Option.some.inj e))
 ·rw [← cellsOf_set L i x hi]
  exact (((h.row.set_ _ _).set_ _ _).set_ _ _).set_ _ _
theorem Tab.set1 (h : Tab w tt g a L) (ht : tt ≠ 142) {i : Nat} (hi : i < L.length) (b : Bool) : Tab (w.setCell ⟨a, i * 4 + 1, none⟩ (.bool b)) tt g a (L.set i ⟨L[i].p, b, L[i].m, L[i].a⟩) := by
 have hne := h.ne ht
 constructor
 ·rw [List.length_set]
  exact h.hd.far hne _
 ·rw [← cellsOf_set L i _ hi]
  have k := h.row.set_ (i * 4 + 1) (.bool b)
  have e0 : (cellsOf L)[i * 4]? = some (.bool L[i].p) := cellsOf_at L i 0 hi (by omega)
  have e2 : (cellsOf L)[i * 4 + 2]? = some (.bool L[i].m) := cellsOf_at L i 2 hi (by omega)
  have e3 : (cellsOf L)[i * 4 + 3]? = some (.int .i64 L[i].a) := cellsOf_at L i 3 hi (by omega)
  have d2 : ((cellsOf L).setIfInBounds (i * 4 + 1) (.bool b)).setIfInBounds (i * 4 + 2) (.bool L[i].m) = (cellsOf L).setIfInBounds (i * 4 + 1) (.bool b) := setIfInBounds_self (by rw [Array.getElem?_setIfInBounds_ne (by omega)]; exact e2)
  have d3 : ((cellsOf L).setIfInBounds (i * 4 + 1) (.bool b)).setIfInBounds (i * 4 + 3) (.int .i64 L[i].a) = (cellsOf L).setIfInBounds (i * 4 + 1) (.bool b) := setIfInBounds_self (by rw [Array.getElem?_setIfInBounds_ne (by omega)]; exact e3)
  rw [setIfInBounds_self e0]
  simp only [d2, d3]
  exact k
theorem Tab.set2 (h : Tab w tt g a L) (ht : tt ≠ 142) {i : Nat} (hi : i < L.length) (b : Bool) : Tab (w.setCell ⟨a, i * 4 + 2, none⟩ (.bool b)) tt g a (L.set i ⟨L[i].p, L[i].s, b, L[i].a⟩) := by
 have hne := h.ne ht
 constructor
 ·rw [List.length_set]
  exact h.hd.far hne _
 ·rw [← cellsOf_set L i _ hi]
  have k := h.row.set_ (i * 4 + 2) (.bool b)
  have e0 : (cellsOf L)[i * 4]? = some (.bool L[i].p) := cellsOf_at L i 0 hi (by omega)
  have e1 : (cellsOf L)[i * 4 + 1]? = some (.bool L[i].s) := cellsOf_at L i 1 hi (by omega)
  have e3 : (cellsOf L)[i * 4 + 3]? = some (.int .i64 L[i].a) := cellsOf_at L i 3 hi (by omega)
  have d3 : ((cellsOf L).setIfInBounds (i * 4 + 2) (.bool b)).setIfInBounds (i * 4 + 3) (.int .i64 L[i].a) = (cellsOf L).setIfInBounds (i * 4 + 2) (.bool b) := setIfInBounds_self (by rw [Array.getElem?_setIfInBounds_ne (by omega)]; exact e3)
  rw [setIfInBounds_self e0, setIfInBounds_self e1]
  simp only [d3]
  exact k
theorem Tab.slice (h : Tab w tt g a L) : w.cell? ⟨g, 0, none⟩ = some (.slice (some ⟨a, 0, none⟩) L.length L.length) := by rw [h.hd.cell]; rfl
theorem Tab.c0 (h : Tab w tt g a L) {i : Nat} (hi : i < L.length) : w.cell? ⟨a, i * 4, none⟩ = some (.bool L[i].p) := by rw [h.row.cell]; exact cellsOf_at L i 0 hi (by omega)
theorem Tab.c1 (h : Tab w tt g a L) {i : Nat} (hi : i < L.length) : w.cell? ⟨a, i * 4 + 1, none⟩ = some (.bool L[i].s) := by rw [h.row.cell]; exact cellsOf_at L i 1 hi (by omega)
theorem Tab.c2 (h : Tab w tt g a L) {i : Nat} (hi : i < L.length) : w.cell? ⟨a, i * 4 + 2, none⟩ = some (.bool L[i].m) := by rw [h.row.cell]; exact cellsOf_at L i 2 hi (by omega)
theorem Tab.c3 (h : Tab w tt g a L) {i : Nat} (hi : i < L.length) : w.cell? ⟨a, i * 4 + 3, none⟩ = some (.int .i64 L[i].a) := by rw [h.row.cell]; exact cellsOf_at L i 3 hi (by omega)
theorem Tab.fr (h : Tab w tt g a L) (j : Nat) : w.frozen? ⟨a, j, none⟩ = false := h.row.frozen j
end
def hasL (L : List St) (i : Int) : Bool := decide (0 ≤ i) && (L[i.toNat]?.map St.p).getD false
def putOk (L : List St) (i : Int) : Bool := decide (0 ≤ i) && decide (i < L.length) && !hasL L i
def putL (L : List St) (i v : Int) : List St := if putOk L i then L.set i.toNat ⟨true, false, false, v⟩ else L
def getL (L : List St) (i : Int) : St := L[i.toNat]?.getD ⟨false, false, false, 0⟩
def beginL (L : List St) (i : Int) : List St := if hasL L i then L.set i.toNat ⟨(getL L i).p, true, (getL L i).m, (getL L i).a⟩ else L
def midL (L : List St) (i : Int) (b : Bool) : List St := if hasL L i then L.set i.toNat ⟨(getL L i).p, (getL L i).s, b, (getL L i).a⟩ else L
def dropL (L : List St) (i : Int) : List St := if hasL L i then L.set i.toNat ⟨false, false, false, 0⟩ else L
def stateL (L : List St) (i : Int) : St := if hasL L i then getL L i else ⟨false, false, false, 0⟩
def oldStep (r : Int × Bool) (x : St) : Int × Bool := if x.p && (!r.2 || decide (x.a < r.1)) then (x.a, true) else r
theorem hasL_neg {L : List St} {i : Int} (h : i < 0) : hasL L i = false := by simp [hasL, show ¬ 0 ≤ i from by omega]
theorem hasL_ge {L : List St} {i : Int} (h : (L.length : Int) ≤ i) : hasL L i = false := by
 unfold hasL
 rw [List.getElem?_eq_none (by omega)]
 simp
theorem hasL_in {L : List St} {i : Nat} (h : i < L.length) : hasL L i = L[i].p := by simp [hasL, h]
theorem hasL_true {L : List St} {i : Int} (h : hasL L i = true) : ∃ (n : Nat) (_ : n < L.length), i = n ∧ L[n].p = true := by
 by_cases h0 : i < 0
 ·rw [hasL_neg h0] at h; cases h
 ·by_cases h1 : (L.length : Int) ≤ i
  ·rw [hasL_ge h1] at h; cases h
  ·obtain ⟨n, rfl⟩ := Int.eq_ofNat_of_zero_le (show 0 ≤ i by omega)
   exact ⟨n, by omega, rfl, by rw [← hasL_in (by omega)]; exact h⟩
theorem getL_in {L : List St} {i : Nat} (h : i < L.length) : getL L i = L[i] := by simp [getL, h]
theorem Tryz.info142 : (Tryz.prog.info? 142).map (fun i => (i.zero, i.size, i.bytes)) = some (some (.agg #[.bool false, .bool false, .bool false, .int .i64 0]), 4, 16) := by kernel_rfl
theorem made_zero (n : Nat) (h : n ≤ 8) : madeCells (Value.agg #[.bool false, .bool false, .bool false, .int .i64 0]).cells (n * 4) = cellsOf (List.replicate n ⟨false, false, false, 0⟩) := by
 obtain rfl | rfl | rfl | rfl | rfl | rfl | rfl | rfl | rfl : n = 0 ∨ n = 1 ∨ n = 2 ∨ n = 3 ∨ n = 4 ∨ n = 5 ∨ n = 6 ∨ n = 7 ∨ n = 8 := by omega
 all_goals kernel_rfl
def zeros (n : Nat) : List St := List.replicate n ⟨false, false, false, 0⟩
theorem tnew_yes (n : Nat) (h1 : 1 ≤ n) (h8 : n ≤ 8) (w : World) :
  Calls Tryz.prog 44 #[.int .i64 n] w fun e w' => e = .returned (.pointer (some ⟨w.heap.size + 1, 0, none⟩)) ∧ Tab w' 133 (w.heap.size + 1) w.heap.size (zeros n) ∧ Below w.heap.size w w' := by
 obtain ⟨i0, hi0, hz0, hz1, hz2⟩ := info_parts Tryz.info142
 have hmk : ∀ W : World, (Instr.makeSlice 101 (.int .i64 (n : Int)) (.int .i64 (n : Int))).run Tryz.prog W = .ok (.slice (some ⟨W.heap.size, 0, none⟩) n n) (W.alloc (.cells (cellsOf (zeros n)) 142)) := by
  intro W
  have hr := run_make (P := Tryz.prog) W 101 142 i0 _ Tryz.underlying101 hi0 hz0 .i64 .i64 n n (by omega) (by omega) (by rw [hz2]; omega) (by omega)
  rw [hr, hz1, Int.toNat_natCast, made_zero n h8]
  rfl
 have hlen : (zeros n).length = n := by simp [zeros]
 have H := Lib.hid hlen; clear hlen
 have Z1 := Lib.hid hz1; clear hz1
 have Z2 := Lib.hid hz2; clear hz2
 have Z0 := Lib.hid hz0; clear hz0
 have Zi := Lib.hid hi0; clear hi0
 have hb1 : (n : Int) < 1 ∨ (1 : Int) ≤ n := by omega
 have l1 : ¬ (n : Int) < 1 := by omega
 have l2 : ¬ (8 : Int) < n := by omega
 go_enter Tryz.func44, Tryz.ntmps44
 go_wp2; go_ret
 refine ⟨by simp, ⟨?_, ?_⟩, ?_⟩
 ·rw [H.out]
  have := Blk.new (w.alloc (.cells (cellsOf (zeros n)) 142)) 133 #[.slice (some ⟨w.heap.size, 0, none⟩) n n]
  simpa using this
 ·exact (Blk.new w 142 _).alloc _
 ·exact ((Below.refl _ _).alloc (Nat.le_refl _) _).alloc (by simp) _
theorem thas_any (g a : Nat) (L : List St) (i : Int) (w : World) (h : Tab w 133 g a L) :
  Calls Tryz.prog 118 #[.pointer (some ⟨g, 0, none⟩), .int .i64 i] w fun e w' => e = .returned (.bool (hasL L i)) ∧ w = w' := by
 have c := h.slice
 by_cases h0 : i < 0
 ·rw [hasL_neg h0]
  go_enter Tryz.func118, Tryz.ntmps118
  go_wp2; go_ret
  exact ⟨rfl, rfl⟩
 ·obtain ⟨i, rfl⟩ := Int.eq_ofNat_of_zero_le (show 0 ≤ i by omega)
  by_cases h1 : i < L.length
  ·rw [hasL_in h1]
   have c0 := h.c0 h1
   go_enter Tryz.func118, Tryz.ntmps118
   go_wp2; go_ret
   exact ⟨rfl, rfl⟩
  ·rw [hasL_ge (by omega)]
   go_enter Tryz.func118, Tryz.ntmps118
   go_wp2; go_ret
   exact ⟨rfl, rfl⟩
theorem tput_any (g a : Nat) (L : List St) (i v : Int) (w : World) (h : Tab w 133 g a L) :
  Calls Tryz.prog 77 #[.pointer (some ⟨g, 0, none⟩), .int .i64 i, .int .i64 v] w fun e w' =>
   e = .returned (.bool (putOk L i)) ∧ Tab w' 133 g a (putL L i v) ∧ w.grownBy w' (some a) := by
 have c := h.slice
 by_cases h0 : i < 0
 ·have e1 : putOk L i = false := by simp [putOk, show ¬ 0 ≤ i from by omega]
  have e2 : putL L i v = L := by simp [putL, e1]
  rw [e1, e2]; clear e1 e2
  go_enter Tryz.func77, Tryz.ntmps77
  go_wp2_with fail
  go_ret
  exact ⟨rfl, h, World.grownBy.refl _ _⟩
 ·obtain ⟨i, rfl⟩ := Int.eq_ofNat_of_zero_le (show 0 ≤ i by omega)
  by_cases h1 : i < L.length
  ·by_cases h2 : hasL L i = true
   ·have e1 : putOk L i = false := by simp [putOk, h2]
    have e2 : putL L i v = L := by simp [putL, e1]
    rw [e1, e2]; clear e1 e2
    have H := Lib.hid h2; clear h2
    go_enter Tryz.func77, Tryz.ntmps77
    go_wp2_with (go_at_call 118; refine (thas_any g a L i w h).mono ?_; rintro e w' ⟨rfl, rfl⟩; rw [H.out])
    go_ret
    exact ⟨rfl, h, World.grownBy.refl _ _⟩
   ·have h2 : hasL L i = false := by simpa using h2
    have e1 : putOk L i = true := by simp [putOk, h2, h1]
    have e2 : putL L i v = L.set i ⟨true, false, false, v⟩ := by simp [putL, e1]
    rw [e1, e2]; clear e1 e2
    have H := Lib.hid h2; clear h2
    have c0 := h.c0 h1
    have c1 := h.c1 h1
    have c2 := h.c2 h1
    have c3 := h.c3 h1
    have f0 := h.fr (i * 4)
    have f1 := h.fr (i * 4 + 1)
    have f2 := h.fr (i * 4 + 2)
    have f3 := h.fr (i * 4 + 3)
    go_enter Tryz.func77, Tryz.ntmps77
    go_wp2_with (go_at_call 118; refine (thas_any g a L i w h).mono ?_; rintro e w' ⟨rfl, rfl⟩; rw [H.out])
    go_ret
    exact ⟨rfl, h.set (by decide) h1 ⟨true, false, false, v⟩, grown_setSt w a i ⟨true, false, false, v⟩⟩
  ·have e1 : putOk L i = false := by simp [putOk, h1]
   have e2 : putL L i v = L := by simp [putL, e1]
   rw [e1, e2]; clear e1 e2
   go_enter Tryz.func77, Tryz.ntmps77
   go_wp2_with fail
   go_ret
   exact ⟨rfl, h, World.grownBy.refl _ _⟩
theorem tbegin_any (g a : Nat) (L : List St) (i : Int) (w : World) (h : Tab w 133 g a L) :
  Calls Tryz.prog 85 #[.pointer (some ⟨g, 0, none⟩), .int .i64 i] w fun e w' =>
   e = .returned (.bool (hasL L i)) ∧ Tab w' 133 g a (beginL L i) ∧ w.grownBy w' (some a) := by
 have c := h.slice
 by_cases h2 : hasL L i = true
 ·obtain ⟨n, h1, rfl, _⟩ := hasL_true h2
  have e2 : beginL L n = L.set n ⟨L[n].p, true, L[n].m, L[n].a⟩ := by simp [beginL, h2, getL_in h1]
  rw [e2, h2]; clear e2
  have H := Lib.hid h2; clear h2
  have c0 := h.c1 h1
  have f0 := h.fr (n * 4 + 1)
  have hs : Tab (w.setCell ⟨a, n * 4 + 1, none⟩ (.bool true)) 133 g a (L.set n ⟨L[n].p, true, L[n].m, L[n].a⟩) := h.set1 (by decide) h1 (true)
  go_enter Tryz.func85, Tryz.ntmps85
  go_wp2_with (go_at_call 118; refine (thas_any g a L n w h).mono ?_; rintro e w' ⟨rfl, rfl⟩; rw [H.out])
  go_ret
  exact ⟨rfl, hs, only_setCell (World.grownBy.refl w _) (.inl rfl) _⟩
 ·have h2 : hasL L i = false := by simpa using h2
  have e2 : beginL L i = L := by simp [beginL, h2]
  rw [e2, h2]; clear e2
  have H := Lib.hid h2; clear h2
  go_enter Tryz.func85, Tryz.ntmps85
  go_wp2_with (go_at_call 118; refine (thas_any g a L i w h).mono ?_; rintro e w' ⟨rfl, rfl⟩; rw [H.out])
  go_ret
  exact ⟨rfl, h, World.grownBy.refl _ _⟩
theorem tmid_any (g a : Nat) (L : List St) (i : Int) (b : Bool) (w : World) (h : Tab w 133 g a L) :
  Calls Tryz.prog 89 #[.pointer (some ⟨g, 0, none⟩), .int .i64 i, .bool b] w fun e w' =>
   e = .returned (.bool (hasL L i)) ∧ Tab w' 133 g a (midL L i b) ∧ w.grownBy w' (some a) := by
 have c := h.slice
 by_cases h2 : hasL L i = true
 ·obtain ⟨n, h1, rfl, _⟩ := hasL_true h2
  have e2 : midL L n b = L.set n ⟨L[n].p, L[n].s, b, L[n].a⟩ := by simp [midL, h2, getL_in h1]
  rw [e2, h2]; clear e2
  have H := Lib.hid h2; clear h2
  have c0 := h.c2 h1
  have f0 := h.fr (n * 4 + 2)
  have hs : Tab (w.setCell ⟨a, n * 4 + 2, none⟩ (.bool b)) 133 g a (L.set n ⟨L[n].p, L[n].s, b, L[n].a⟩) := h.set2 (by decide) h1 (b)
  go_enter Tryz.func89, Tryz.ntmps89
  go_wp2_with (go_at_call 118; refine (thas_any g a L n w h).mono ?_; rintro e w' ⟨rfl, rfl⟩; rw [H.out])
  go_ret
  exact ⟨rfl, hs, only_setCell (World.grownBy.refl w _) (.inl rfl) _⟩
 ·have h2 : hasL L i = false := by simpa using h2
  have e2 : midL L i b = L := by simp [midL, h2]
  rw [e2, h2]; clear e2
  have H := Lib.hid h2; clear h2
  go_enter Tryz.func89, Tryz.ntmps89
  go_wp2_with (go_at_call 118; refine (thas_any g a L i w h).mono ?_; rintro e w' ⟨rfl, rfl⟩; rw [H.out])
  go_ret
  exact ⟨rfl, h, World.grownBy.refl _ _⟩
theorem tdrop_any (g a : Nat) (L : List St) (i : Int) (w : World) (h : Tab w 133 g a L) :
  Calls Tryz.prog 92 #[.pointer (some ⟨g, 0, none⟩), .int .i64 i] w fun e w' =>
   e = .returned (.bool (hasL L i)) ∧ Tab w' 133 g a (dropL L i) ∧ w.grownBy w' (some a) := by
 have c := h.slice
 by_cases h2 : hasL L i = true
 ·obtain ⟨n, h1, rfl, _⟩ := hasL_true h2
  have e2 : dropL L n = L.set n ⟨false, false, false, 0⟩ := by simp [dropL, h2]
  rw [e2, h2]; clear e2
  have H := Lib.hid h2; clear h2
  have c0 := h.c0 h1
  have c1 := h.c1 h1
  have c2 := h.c2 h1
  have c3 := h.c3 h1
  have f0 := h.fr (n * 4)
  have f1 := h.fr (n * 4 + 1)
  have f2 := h.fr (n * 4 + 2)
  have f3 := h.fr (n * 4 + 3)
  go_enter Tryz.func92, Tryz.ntmps92
  go_wp2_with (go_at_call 118; refine (thas_any g a L n w h).mono ?_; rintro e w' ⟨rfl, rfl⟩; rw [H.out])
  go_ret
  exact ⟨rfl, h.set (by decide) h1 ⟨false, false, false, 0⟩, grown_setSt w a n ⟨false, false, false, 0⟩⟩
 ·have h2 : hasL L i = false := by simpa using h2
  have e2 : dropL L i = L := by simp [dropL, h2]
  rw [e2, h2]; clear e2
  have H := Lib.hid h2; clear h2
  go_enter Tryz.func92, Tryz.ntmps92
  go_wp2_with (go_at_call 118; refine (thas_any g a L i w h).mono ?_; rintro e w' ⟨rfl, rfl⟩; rw [H.out])
  go_ret
  exact ⟨rfl, h, World.grownBy.refl _ _⟩
theorem tstate_any (g a : Nat) (L : List St) (i : Int) (w : World) (h : Tab w 133 g a L) :
  Calls Tryz.prog 74 #[.pointer (some ⟨g, 0, none⟩), .int .i64 i] w fun e w' =>
   e = .returned (stateL L i).val ∧ w.grownBy w' none := by
 have c := h.slice
 have hlt := h.hd.lt
 have hlt2 := h.row.lt
 have h' : ∀ o, Tab (w.alloc o) 133 g a L := fun o => ⟨h.hd.alloc o, h.row.alloc o⟩
 by_cases h2 : hasL L i = true
 ·obtain ⟨n, h1, rfl, hp⟩ := hasL_true h2
  have e2 : stateL L n = L[n] := by simp [stateL, h2, getL_in h1]
  rw [e2]; clear e2
  have H := Lib.hid h2; clear h2
  have c0 := h.c0 h1
  have c1 := h.c1 h1
  have c2 := h.c2 h1
  have c3 := h.c3 h1
  go_enter Tryz.func74, Tryz.ntmps74
  go_wp2_with (go_at_call 118; refine (thas_any g a L n _ (h' _)).mono ?_; rintro e w' ⟨rfl, rfl⟩; rw [H.out])
  refine bodyPost_ret (v := L[n].val) (by simp [results, Tryz.results74, go_sem, St.val, hp]) rfl ⟨rfl, ?_⟩
  exact only_alloc (World.grownBy.refl _ _) _
 ·have h2 : hasL L i = false := by simpa using h2
  have e2 : stateL L i = ⟨false, false, false, 0⟩ := by simp [stateL, h2]
  rw [e2]; clear e2
  have H := Lib.hid h2; clear h2
  go_enter Tryz.func74, Tryz.ntmps74
  go_wp2_with (go_at_call 118; refine (thas_any g a L i _ (h' _)).mono ?_; rintro e w' ⟨rfl, rfl⟩; rw [H.out])
  refine bodyPost_ret (v := (St.mk false false false 0).val) (by simp [results, Tryz.results74, go_sem, St.val]) rfl ⟨rfl, ?_⟩
  exact only_alloc (World.grownBy.refl _ _) _
theorem cells_one (L : List St) : ∀ u ∈ L.flatMap St.cells, u.oneCell' = true := by
 intro u hu
 obtain ⟨x, _, hx⟩ := List.mem_flatMap.1 hu
 simp [St.cells] at hx
 rcases hx with rfl | rfl | rfl | rfl <;> rfl
theorem blk_at {w : World} {a : Nat} {L : List St} (h : Blk w a 142 (cellsOf L)) : ∀ (j : Nat) (u : Value), (L.flatMap St.cells)[j]? = some u → w.cell? ((⟨a, 0, none⟩ : Addr).add j) = some u := by
 intro j u hu
 have e : (⟨a, 0, none⟩ : Addr).add j = ⟨a, j, none⟩ := by
  unfold Addr.add
  by_cases hj : j = 0 <;> simp [hj]
 rw [e, h.cell]
 simpa [cellsOf] using hu
set_option maxHeartbeats 400000 in
theorem clone_any (a : Nat) (L : List St) (w : World) (h : Blk w a 142 (cellsOf L)) (hl : L.length ≤ 8) :
  Calls Tryz.prog 83 #[.slice (some ⟨a, 0, none⟩) L.length L.length] w fun e w' => ∃ v, e = .returned v ∧ w'.ownsRow w.heap.size 142 4 v L.length (L.flatMap St.cells) ∧ Below w.heap.size w w' := by
 have hne := fun W => Lib.run_eql_slice_nil (P := Tryz.prog) W 101 142 (some ⟨a, 0, none⟩) L.length L.length 0 0 Tryz.underlying101
 obtain ⟨i0, hi0, hz0, hz1, hz2⟩ := info_parts Tryz.info142
 have Hz0 := Lib.hid hz0; clear hz0
 have Hz1 := Lib.hid hz1; clear hz1
 have Hz2 := Lib.hid hz2; clear hz2
 have Hi := Lib.hid hi0; clear hi0
 have hlt := h.lt
 have hm : L.length ≤ maxLen := by unfold maxLen; omega
 have hcl := cellsOf_length L
 have Hcl := Lib.hid hcl; clear hcl
 go_enter Tryz.func83, Tryz.ntmps83
 go_wp2_with (at_builtin; refine wpList_append_own _ rfl (.tmp 5) (.tmp 6) 101 rfl w.heap.size 142 i0 _ 4 16 Tryz.underlying101 Hi.out Hz0.out Hz1.out Hz2.out rfl (by decide) (.slice (some ⟨w.heap.size, 0, none⟩) 0 0) 0 [] rfl ?c1 ⟨a, 0, none⟩ L.length L.length (L.flatMap St.cells) rfl Hcl.out ?c2 (cells_one L) (by omega) (by omega) (by simp) ?c3)
 case c1 => exact World.ownsRow_made w #[] 0 (Nat.le_refl _) (by unfold maxLen; omega) (by simp)
 case c2 => exact blk_at (h.alloc _)
 case c3 =>
  intro v' w' hown hg _
  have hb : Below w.heap.size w w' := ((Below.refl _ _).alloc (Nat.le_refl _) _).grown hg (by simp) (fun k e => by simp [Value.ownBlock] at e; omega)
  go_wp2; go_ret
  exact ⟨v', rfl, by simpa using hown, hb⟩
theorem tall_any (g a : Nat) (L : List St) (w : World) (h : Tab w 133 g a L) (hl : L.length ≤ 8) :
  Calls Tryz.prog 49 #[.pointer (some ⟨g, 0, none⟩)] w fun e w' => ∃ v, e = .returned v ∧ w'.ownsRow w.heap.size 142 4 v L.length (L.flatMap St.cells) ∧ Below w.heap.size w w' := by
 have c := h.slice
 go_enter Tryz.func49, Tryz.ntmps49
 go_wp2_with fail
 refine (clone_any a L w h.row hl).mono ?_
 rintro e w1 ⟨v, rfl, hown, hb⟩
 go_wp2; go_ret
 exact ⟨v, rfl, hown, hb⟩
end Go.Proofs.YtdgfjpbjiccllaaGreatDoor.T
