/- Joined texts: Lex, Shf, Lex2, Fr, Lex3, Lex4, Lex5, Lex6. -/
import Derived.Test.YtdgfjpbjiccllaaGreatDoorJa01
import Derived.Ground.NamesProg
import Derived.Shelf.Strings.Fields
import Derived.Test.YtdgfjpbjiccllaaGreatDoorJa09
import Derived.Deep.RegionLaw
import Derived.Deep.DeepCutAuto
import Derived.Lib.AppendIntMem
import Derived.Laws.IdiomStrings
/- The lexer's runs. -/
namespace Go.Proofs.YtdgfjpbjiccllaaGreatDoor.X
open Go.RowKit
set_option maxRecDepth 100000
def letter (b : Int) : Bool := decide (97 ≤ b) && decide (b ≤ 122)
def digit (b : Int) : Bool := decide (48 ≤ b) && decide (b ≤ 57)
def more (b : Int) : Bool := letter b || digit b || b == 95
def noEnd (b : Int) : Bool := !(b == 10)
theorem letter_any (b : Int) (w : World) : Calls Tryz.prog 127 #[.int .u8 b] w fun e w' => e = .returned (.bool (letter b)) ∧ w = w' := by
  unfold letter
  cases h : decide (97 ≤ b) with
  | false =>
    go_enter Tryz.func127, Tryz.ntmps127
    go_wp2
    go_ret
    exact ⟨rfl, rfl⟩
  | true =>
    go_enter Tryz.func127, Tryz.ntmps127
    go_wp2
    go_ret
    exact ⟨rfl, rfl⟩
theorem digit_any (b : Int) (w : World) : Calls Tryz.prog 129 #[.int .u8 b] w fun e w' => e = .returned (.bool (digit b)) ∧ w = w' := by
  unfold digit
  cases h : decide (48 ≤ b) with
  | false =>
    go_enter Tryz.func129, Tryz.ntmps129
    go_wp2
    go_ret
    exact ⟨rfl, rfl⟩
  | true =>
    go_enter Tryz.func129, Tryz.ntmps129
    go_wp2
    go_ret
    exact ⟨rfl, rfl⟩
theorem noEnd_any (b : Int) (w : World) : Calls Tryz.prog 126 #[.int .u8 b] w fun e w' => e = .returned (.bool (noEnd b)) ∧ w = w' := by
  unfold noEnd
  go_enter Tryz.func126, Tryz.ntmps126
  go_wp2
  go_ret
  exact ⟨rfl, rfl⟩
theorem more_any (b : Int) (w : World) : Calls Tryz.prog 148 #[.int .u8 b] w fun e w' => e = .returned (.bool (more b)) ∧ w = w' := by
  unfold more
  cases h : letter b with
  | true =>
    go_enter Tryz.func148, Tryz.ntmps148
    go_wp2_with (go_at_call 127; refine (letter_any _ _).mono ?_; rintro e w' ⟨rfl, rfl⟩; rw [h])
    go_ret
    exact ⟨rfl, rfl⟩
  | false =>
    cases h2 : digit b with
    | true =>
      go_enter Tryz.func148, Tryz.ntmps148
      go_wp2_with (first | (go_at_call 127; refine (letter_any _ _).mono ?_; rintro e w' ⟨rfl, rfl⟩; rw [h]) | (go_at_call 129; refine (digit_any _ _).mono ?_; rintro e w' ⟨rfl, rfl⟩; rw [h2]))
      go_ret
      exact ⟨rfl, rfl⟩
    | false =>
      go_enter Tryz.func148, Tryz.ntmps148
      go_wp2_with (first | (go_at_call 127; refine (letter_any _ _).mono ?_; rintro e w' ⟨rfl, rfl⟩; rw [h]) | (go_at_call 129; refine (digit_any _ _).mono ?_; rintro e w' ⟨rfl, rfl⟩; rw [h2]))
      go_ret
      exact ⟨by simp, rfl⟩
/-- The bytes of a text. -/
def bytes (s : ByteArray) : List Int := s.data.toList.map fun b => (b.toNat : Int)
theorem bytes_length (s : ByteArray) : (bytes s).length = s.size := by
  unfold bytes
  rw [List.length_map, Array.length_toList]
  rfl
theorem byte_at (s : ByteArray) (i : Nat) (h : i < s.size) : ((s[i]'h).toNat : Int) = (bytes s).getD i 0 := by
  obtain ⟨⟨l⟩⟩ := s
  have hl : i < l.length := h
  have e : (ByteArray.mk ⟨l⟩)[i]'h = l[i]'hl := rfl
  rw [e]
  unfold bytes
  simp only [List.getD, List.getElem?_map, List.getElem?_eq_getElem hl, Option.map_some, Option.getD_some]
/-- How many elements from the start on are such. -/
def spanL (p : Int → Bool) : List Int → Nat
  | [] => 0
  | b :: t => if p b then spanL p t + 1 else 0
theorem spanL_le (p : Int → Bool) : ∀ l, spanL p l ≤ l.length
  | [] => Nat.le_refl _
  | b :: t => by
    have := spanL_le p t
    unfold spanL
    split <;> simp <;> omega
theorem spanL_lt (p : Int → Bool) : ∀ l i, i < spanL p l → p (l.getD i 0) = true
  | [], i, h => by simp [spanL] at h
  | b :: t, i, h => by
    unfold spanL at h
    split at h
    · rename_i hb
      cases i with
      | zero => simpa using hb
      | succ i => simpa using spanL_lt p t i (by omega)
    · omega
theorem spanL_end (p : Int → Bool) : ∀ l, spanL p l < l.length → p (l.getD (spanL p l) 0) = false
  | [], h => by simp at h
  | b :: t, h => by
    unfold spanL at h ⊢
    split
    · rename_i hb
      rw [if_pos hb] at h
      simpa using spanL_end p t (by simpa using h)
    · rename_i hb
      simpa using hb
set_option maxHeartbeats 4000000 in
theorem run_noEnd (s : ByteArray) (hs : s.size ≤ 1000000) (w : World) :
    Calls Tryz.prog 125 #[.string s, .func (.func 126) #[] #[]] w fun e w' => e = .returned (.int .i64 (spanL noEnd (bytes s))) ∧ w = w' := by
  have hle := spanL_le noEnd (bytes s)
  rw [bytes_length] at hle
  go_enter Tryz.func125, Tryz.ntmps125
  go_wp2_with fail
  go_loop [5] (fun z => ∃ k : Nat, k ≤ spanL noEnd (bytes s) ∧ z = .int .i64 k) (fun z => s.size - (intOf z).toNat)
  case atStart => exact ⟨0, Nat.zero_le _, rfl⟩
  case round =>
    obtain ⟨k, hk, rfl⟩ := hrel
    by_cases hlt : k < s.size
    · have hb := byte_at s k hlt
      by_cases hkm : k < spanL noEnd (bytes s)
      · have hp := spanL_lt noEnd (bytes s) k hkm
        rw [← hb] at hp
        have HP := Lib.hid hp
        clear hp hb
        go_wp2_with (go_at_call 126; refine (noEnd_any _ _).mono ?_; rintro e w' ⟨rfl, rfl⟩; rw [HP.out])
        go_round
        case rel => exact ⟨k + 1, by omega, by go_num⟩
        case measure => simp [intOf]; omega
      · have hke : k = spanL noEnd (bytes s) := by omega
        have hp := spanL_end noEnd (bytes s) (by rw [bytes_length]; omega)
        rw [← hke, ← hb] at hp
        have HP := Lib.hid hp
        have HKE := Lib.hid hke
        clear hp hb hke
        go_wp2_with (go_at_call 126; refine (noEnd_any _ _).mono ?_; rintro e w' ⟨rfl, rfl⟩; rw [HP.out])
        go_ret
        exact ⟨by rw [← HKE.out]; rfl, rfl⟩
    · have hke : k = spanL noEnd (bytes s) := by omega
      have HKE := Lib.hid hke
      clear hke
      go_wp2
      go_ret
      exact ⟨by rw [← HKE.out]; rfl, rfl⟩
set_option maxHeartbeats 4000000 in
theorem run_digit (s : ByteArray) (hs : s.size ≤ 1000000) (w : World) :
    Calls Tryz.prog 125 #[.string s, .func (.func 129) #[] #[]] w fun e w' => e = .returned (.int .i64 (spanL digit (bytes s))) ∧ w = w' := by
  have hle := spanL_le digit (bytes s)
  rw [bytes_length] at hle
  go_enter Tryz.func125, Tryz.ntmps125
  go_wp2_with fail
  go_loop [5] (fun z => ∃ k : Nat, k ≤ spanL digit (bytes s) ∧ z = .int .i64 k) (fun z => s.size - (intOf z).toNat)
  case atStart => exact ⟨0, Nat.zero_le _, rfl⟩
  case round =>
    obtain ⟨k, hk, rfl⟩ := hrel
    by_cases hlt : k < s.size
    · have hb := byte_at s k hlt
      by_cases hkm : k < spanL digit (bytes s)
      · have hp := spanL_lt digit (bytes s) k hkm
        rw [← hb] at hp
        have HP := Lib.hid hp
        clear hp hb
        go_wp2_with (go_at_call 129; refine (digit_any _ _).mono ?_; rintro e w' ⟨rfl, rfl⟩; rw [HP.out])
        go_round
        case rel => exact ⟨k + 1, by omega, by go_num⟩
        case measure => simp [intOf]; omega
      · have hke : k = spanL digit (bytes s) := by omega
        have hp := spanL_end digit (bytes s) (by rw [bytes_length]; omega)
        rw [← hke, ← hb] at hp
        have HP := Lib.hid hp
        have HKE := Lib.hid hke
        clear hp hb hke
        go_wp2_with (go_at_call 129; refine (digit_any _ _).mono ?_; rintro e w' ⟨rfl, rfl⟩; rw [HP.out])
        go_ret
        exact ⟨by rw [← HKE.out]; rfl, rfl⟩
    · have hke : k = spanL digit (bytes s) := by omega
      have HKE := Lib.hid hke
      clear hke
      go_wp2
      go_ret
      exact ⟨by rw [← HKE.out]; rfl, rfl⟩
set_option maxHeartbeats 4000000 in
theorem run_more (s : ByteArray) (hs : s.size ≤ 1000000) (w : World) :
    Calls Tryz.prog 125 #[.string s, .func (.func 148) #[] #[]] w fun e w' => e = .returned (.int .i64 (spanL more (bytes s))) ∧ w = w' := by
  have hle := spanL_le more (bytes s)
  rw [bytes_length] at hle
  go_enter Tryz.func125, Tryz.ntmps125
  go_wp2_with fail
  go_loop [5] (fun z => ∃ k : Nat, k ≤ spanL more (bytes s) ∧ z = .int .i64 k) (fun z => s.size - (intOf z).toNat)
  case atStart => exact ⟨0, Nat.zero_le _, rfl⟩
  case round =>
    obtain ⟨k, hk, rfl⟩ := hrel
    by_cases hlt : k < s.size
    · have hb := byte_at s k hlt
      by_cases hkm : k < spanL more (bytes s)
      · have hp := spanL_lt more (bytes s) k hkm
        rw [← hb] at hp
        have HP := Lib.hid hp
        clear hp hb
        go_wp2_with (go_at_call 148; refine (more_any _ _).mono ?_; rintro e w' ⟨rfl, rfl⟩; rw [HP.out])
        go_round
        case rel => exact ⟨k + 1, by omega, by go_num⟩
        case measure => simp [intOf]; omega
      · have hke : k = spanL more (bytes s) := by omega
        have hp := spanL_end more (bytes s) (by rw [bytes_length]; omega)
        rw [← hke, ← hb] at hp
        have HP := Lib.hid hp
        have HKE := Lib.hid hke
        clear hp hb hke
        go_wp2_with (go_at_call 148; refine (more_any _ _).mono ?_; rintro e w' ⟨rfl, rfl⟩; rw [HP.out])
        go_ret
        exact ⟨by rw [← HKE.out]; rfl, rfl⟩
    · have hke : k = spanL more (bytes s) := by omega
      have HKE := Lib.hid hke
      clear hke
      go_wp2
      go_ret
      exact ⟨by rw [← HKE.out]; rfl, rfl⟩
/-- How long the blank or the remark is that the text begins with. -/
def gapL (l : List Int) : Nat := if l.getD 0 0 = 32 ∨ l.getD 0 0 = 10 then 1 else if l.getD 0 0 = 35 then spanL noEnd l else 0
set_option maxHeartbeats 4000000 in
theorem gap_any (s : ByteArray) (h0 : 0 < s.size) (hs : s.size ≤ 1000000) (w : World) :
    Calls Tryz.prog 94 #[.string s] w fun e w' => e = .returned (.int .i64 (gapL (bytes s))) ∧ w = w' := by
  have hb := byte_at s 0 h0
  unfold gapL
  rw [← hb]
  clear hb
  by_cases c1 : ((s[0]'h0).toNat : Int) = 32
  · have d1 : (((s[0]'h0).toNat : Int) == 32) = true := by simpa using c1
    rw [if_pos (.inl c1)]
    clear c1
    go_enter Tryz.func94, Tryz.ntmps94
    go_wp2_with fail
    go_ret
    exact ⟨rfl, rfl⟩
  · have d1 : (((s[0]'h0).toNat : Int) == 32) = false := by simpa using c1
    by_cases c2 : ((s[0]'h0).toNat : Int) = 10
    · have d2 : (((s[0]'h0).toNat : Int) == 10) = true := by simpa using c2
      rw [if_pos (.inr c2)]
      clear c1 c2
      go_enter Tryz.func94, Tryz.ntmps94
      go_wp2_with fail
      go_ret
      exact ⟨rfl, rfl⟩
    · have d2 : (((s[0]'h0).toNat : Int) == 10) = false := by simpa using c2
      rw [if_neg (by rintro (h | h); exact c1 h; exact c2 h)]
      by_cases c3 : ((s[0]'h0).toNat : Int) = 35
      · have d3 : (((s[0]'h0).toNat : Int) == 35) = true := by simpa using c3
        rw [if_pos c3]
        clear c1 c2 c3
        go_enter Tryz.func94, Tryz.ntmps94
        go_wp2_with (go_at_call 125; refine (run_noEnd s hs _).mono ?_; rintro e w' ⟨rfl, rfl⟩)
        go_ret
        exact ⟨rfl, rfl⟩
      · have d3 : (((s[0]'h0).toNat : Int) == 35) = false := by simpa using c3
        rw [if_neg c3]
        clear c1 c2 c3
        go_enter Tryz.func94, Tryz.ntmps94
        go_wp2_with fail
        go_ret
        exact ⟨rfl, rfl⟩
end Go.Proofs.YtdgfjpbjiccllaaGreatDoor.X
/- The contract of strings.Fields at this program. -/
namespace Go.Proofs.YtdgfjpbjiccllaaGreatDoor
open Go.Shelf
def Tryz.laysFields_ren : Go.Shelf.Ren := ⟨fun | 157 => 164 | 229 => 179 | 199 => 180 | 261 => 188 | 311 => 192 | 312 => 193 | n => n, fun | 9 => 9 | 31 => 174 | 3 => 3 | 5 => 5 | 4 => 4 | 119 => 240 | 0 => 0 | 40 => 242 | 152 => 249 | 21 => 21 | 154 => 251 | 51 => 234 | 141 => 253 | 196 => 260 | 193 => 257 | 198 => 263 | 49 => 261 | 194 => 258 | 201 => 266 | 226 => 268 | 46 => 189 | 227 => 269 | n => n, fun | 0 => 2 | 6 => 4 | n => n⟩
theorem Tryz.laysFields : Go.Proofs.Lays.n157 Tryz.prog Tryz.laysFields_ren := {
  mixed := by kernel_rfl
  f157 := Tryz.func164.trans (congrArg some (by kernel_rfl))
  f199 := Tryz.func180.trans (congrArg some (by kernel_rfl))
  f229 := Tryz.func179.trans (congrArg some (by kernel_rfl))
  f261 := Tryz.func188.trans (congrArg some (by kernel_rfl))
  f311 := Tryz.func192.trans (congrArg some (by kernel_rfl))
  f312 := Tryz.func193.trans (congrArg some (by kernel_rfl))
  t0 := Tryz.underlying0
  a0 := Tryz.isAgg0
  z0 := Tryz.sizeOf0
  v0 := Tryz.zeroValue0
  t3 := Tryz.underlying3
  a3 := Tryz.isAgg3
  z3 := Tryz.sizeOf3
  v3 := Tryz.zeroValue3
  t4 := Tryz.underlying4
  a4 := Tryz.isAgg4
  z4 := Tryz.sizeOf4
  v4 := Tryz.zeroValue4
  t5 := Tryz.underlying5
  a5 := Tryz.isAgg5
  z5 := Tryz.sizeOf5
  v5 := Tryz.zeroValue5
  t9 := Tryz.underlying9
  a9 := Tryz.isAgg9
  z9 := Tryz.sizeOf9
  v9 := Tryz.zeroValue9
  t21 := Tryz.underlying21
  a21 := Tryz.isAgg21
  z21 := Tryz.sizeOf21
  v21 := Tryz.zeroValue21
  t31 := Tryz.underlying174
  a31 := Tryz.isAgg174
  z31 := Tryz.sizeOf174
  v31 := Tryz.zeroValue174
  t40 := Tryz.underlying242
  a40 := Tryz.isAgg242
  z40 := Tryz.sizeOf242
  v40 := Tryz.zeroValue242
  t46 := Tryz.underlying189
  a46 := Tryz.isAgg189
  z46 := Tryz.sizeOf189
  v46 := Tryz.zeroValue189
  t49 := Tryz.underlying261
  a49 := Tryz.isAgg261
  z49 := Tryz.sizeOf261
  v49 := Tryz.zeroValue261
  t51 := Tryz.underlying234
  a51 := Tryz.isAgg234
  z51 := Tryz.sizeOf234
  v51 := Tryz.zeroValue234
  t119 := Tryz.underlying240
  a119 := Tryz.isAgg240
  z119 := Tryz.sizeOf240
  t141 := Tryz.underlying253
  a141 := Tryz.isAgg253
  z141 := Tryz.sizeOf253
  v141 := Tryz.zeroValue253
  t152 := Tryz.underlying249
  a152 := Tryz.isAgg249
  z152 := Tryz.sizeOf249
  v152 := Tryz.zeroValue249
  t154 := Tryz.underlying251
  a154 := Tryz.isAgg251
  z154 := Tryz.sizeOf251
  v154 := Tryz.zeroValue251
  t193 := Tryz.underlying257
  a193 := Tryz.isAgg257
  z193 := Tryz.sizeOf257
  v193 := Tryz.zeroValue257
  t194 := Tryz.underlying258
  a194 := Tryz.isAgg258
  z194 := Tryz.sizeOf258
  v194 := Tryz.zeroValue258
  t196 := Tryz.underlying260
  a196 := Tryz.isAgg260
  z196 := Tryz.sizeOf260
  v196 := Tryz.zeroValue260
  t198 := Tryz.underlying263
  a198 := Tryz.isAgg263
  z198 := Tryz.sizeOf263
  v198 := Tryz.zeroValue263
  t201 := Tryz.underlying266
  a201 := Tryz.isAgg266
  z201 := Tryz.sizeOf266
  v201 := Tryz.zeroValue266
  t226 := Tryz.underlying268
  a226 := Tryz.isAgg268
  z226 := Tryz.sizeOf268
  v226 := Tryz.zeroValue268
  t227 := Tryz.underlying269
  a227 := Tryz.isAgg269
  z227 := Tryz.sizeOf269
  v227 := Tryz.zeroValue269
  g0 := by kernel_rfl
  g6 := by kernel_rfl }
end Go.Proofs.YtdgfjpbjiccllaaGreatDoor
/- The words of the language. -/
namespace Go.Proofs.YtdgfjpbjiccllaaGreatDoor.X
open Go.RowKit
set_option maxRecDepth 100000
def wordText : ByteArray := ⟨#[114, 101, 108, 111, 97, 100, 32, 116, 97, 115, 107, 32, 112, 101, 114, 105, 111, 100, 32, 100, 101, 97, 100, 108, 105, 110, 101, 32, 102, 105, 120, 101, 100, 32, 102, 108, 111, 97, 116, 32, 116, 104, 114, 101, 115, 104, 32, 114, 101, 103, 105, 111, 110, 115, 32, 101, 99, 98, 32, 117, 99, 98]⟩
def wordsL : List (List UInt8) := Lib.fields wordText.data.toList
def wordsB : List ByteArray := wordsL.map fun l => ⟨l.toArray⟩
theorem wordsL_len : wordsL.length = 10 := by kernel_rfl
theorem words_any (w : World) (htab : Lib.TabIs Tryz.prog w "strings.asciiSpace" .u8 Lib.asciiSpaceTab) :
    Calls Tryz.prog 150 #[] w fun e w' => e = .returned (.slice (some ⟨w.heap.size, 0, none⟩) 10 10) ∧ w' = w.alloc (.cells (wordsB.map Value.string).toArray 9) := by
  have hc := Any.strings_Fields Tryz.laysFields (by kernel_rfl) (by kernel_rfl) wordText w (by decide) (by
    intro j b hb
    have : ∀ b ∈ wordText.data.toList, b.toNat < 128 := by decide
    exact this b (List.mem_of_getElem? hb)) htab
  have hc' : Calls Tryz.prog 164 #[.string wordText] w fun e w' => e = .returned (.slice (some ⟨w.heap.size, 0, none⟩) 10 10) ∧ w' = w.alloc (.cells (wordsB.map Value.string).toArray 9) := by
    refine Calls.mono hc ?_
    rintro e w' ⟨rfl, rfl⟩
    have hl : (Lib.fields wordText.data.toList).length = 10 := wordsL_len
    refine ⟨by rw [hl], ?_⟩
    have : wordsB.map Value.string = (Lib.fields wordText.data.toList).map fun l => Value.string ⟨l.toArray⟩ := by
      unfold wordsB wordsL
      rw [List.map_map]
      rfl
    rw [this]
    rfl
  have HC := Lib.hid hc'
  clear hc hc' htab
  go_enter Tryz.func150, Tryz.ntmps150
  go_wp2_with (go_at_call 164; refine (HC.out).mono ?_; rintro e w' ⟨rfl, rfl⟩)
  go_ret
  exact ⟨rfl, rfl⟩
end Go.Proofs.YtdgfjpbjiccllaaGreatDoor.X
/- A frame by the kinds of blocks that may turn; append as one operation of a drawn statement. -/
namespace Go.Proofs.YtdgfjpbjiccllaaGreatDoor
open Go.RowKit
set_option maxRecDepth 100000
variable {E : Nat}
/-- Of the blocks from B on only those of the kinds ts may have turned, and of the rows of events (50) only those from E on; none below B has. -/
structure Fr (E : Nat) (ts : List Nat) (B : Nat) (w w' : World) : Prop where
  os : w'.os = w.os
  tape : w'.tape = w.tape
  output : w'.output = w.output
  size : w.heap.size ≤ w'.heap.size
  block : ∀ i, i < w.heap.size → (i < B ∨ (∀ t ∈ ts, ∀ cs, ¬ Blk w i t cs) ∨ i < E ∧ ∃ cs, Blk w i 50 cs) → w'.heap[i]? = w.heap[i]?
section
variable {ts ts' : List Nat} {B : Nat} {w w1 w' : World}
theorem Fr.refl (ts : List Nat) (B : Nat) (w : World) : Fr E ts B w w := ⟨rfl, rfl, rfl, Nat.le_refl _, fun _ _ _ => rfl⟩
theorem Fr.trans (h : Fr E ts B w w1) (h' : Fr E ts B w1 w') : Fr E ts B w w' := by
  refine ⟨h'.os.trans h.os, h'.tape.trans h.tape, h'.output.trans h.output, Nat.le_trans h.size h'.size, fun i hi hc => ?_⟩
  have e := h.block i hi hc
  refine (h'.block i (Nat.lt_of_lt_of_le hi h.size) ?_).trans e
  rcases hc with hc | hc | ⟨hE, cs, hc⟩
  · exact .inl hc
  · refine .inr (.inl fun t ht cs hb => hc t ht cs ?_)
    unfold Blk at hb ⊢
    rw [← e]
    exact hb
  · exact .inr (.inr ⟨hE, cs, e.trans hc⟩)
theorem Fr.mono (h : Fr E ts B w w') (hs : ∀ t ∈ ts, t ∈ ts') : Fr E ts' B w w' := ⟨h.os, h.tape, h.output, h.size, fun i hi hc => h.block i hi (hc.imp_right fun hc => hc.imp_left fun hc t ht => hc t (hs t ht))⟩
theorem Fr.drewN (h : Fr E ts B w w') (n : Nat) : Fr E ts B w (w'.drewN n) := ⟨h.os, h.tape, h.output, h.size, h.block⟩
theorem Fr.drew (h : Fr E ts B w w') : Fr E ts B w w'.drew := ⟨h.os, h.tape, h.output, h.size, h.block⟩
theorem Fr.of_grown {row : Option Nat} (h : w.grownBy w' row) (hr : ∀ g, row = some g → B ≤ g ∧ ∃ t ∈ ts, ∃ cs, Blk w g t cs ∧ (t = 50 → E ≤ g)) : Fr E ts B w w' := by
  refine ⟨h.os, h.tape, h.output, h.size, fun i hi hc => h.block i hi ?_⟩
  intro e
  obtain ⟨h1, t, ht, cs, hb, h50⟩ := hr i e.symm
  rcases hc with hc | hc | ⟨hE, cs', hc⟩
  · omega
  · exact hc t ht cs hb
  · rcases Nat.decEq t 50 with hne | he
    · exact Blk.ne_ hb hc hne rfl
    · have := h50 he
      omega
theorem Fr.of_none (h : w.grownBy w' none) : Fr E ts B w w' := Fr.of_grown h (fun g e => by cases e)
theorem Fr.of_below (h : Below w.heap.size w w') : Fr E ts B w w' := Fr.of_none (only_of_below h none)
theorem Fr.of_own {e size n : Nat} {v : Value} {xs : List Value} {base : Nat} (h : w.grownBy w' v.ownBlock) (ho : w.ownsRow base e size v n xs) (hB : B ≤ base) (he : e ∈ ts) (h50 : e = 50 → E ≤ base := by (intro h; exact absurd h (by decide))) : Fr E ts B w w' := by
  refine Fr.of_grown h fun g hg => ?_
  rcases ho.2 with ⟨rfl, _⟩ | ⟨k, c, cur, rfl, hk, hh, _⟩
  · simp [Value.ownBlock] at hg
  · have : k = g := by simpa [Value.ownBlock] using hg
    subst this
    exact ⟨by omega, e, he, cur, hh, fun h => Nat.le_trans (h50 h) hk⟩
theorem Fr.of_blk {g t : Nat} {cs : Array Value} (h : w.grownBy w' (some g)) (hb : Blk w g t cs) (hB : B ≤ g) (ht : t ∈ ts) (h50 : t = 50 → E ≤ g := by (intro h; exact absurd h (by decide))) : Fr E ts B w w' :=
  Fr.of_grown h fun k hk => by
    injection hk with hk
    subst hk
    exact ⟨hB, t, ht, cs, hb, h50⟩
theorem Fr.below (h : Fr E ts B w w') {C : Nat} (hC : C ≤ B) (hB : C ≤ w.heap.size) : Below C w w' := ⟨h.os, h.tape, h.output, h.size, fun i hi => h.block i (Nat.lt_of_lt_of_le hi hB) (.inl (Nat.lt_of_lt_of_le hi hC))⟩
theorem Blk.fr {g t : Nat} {cs : Array Value} (h : Blk w g t cs) (hf : Fr E ts B w w') (ht : t ∉ ts) : Blk w' g t cs := by
  refine (hf.block g h.lt (.inr (.inl fun t' ht' cs' hb => ?_))).trans h
  by_cases e : t = t'
  · exact ht (e ▸ ht')
  · exact Blk.ne_ h hb e rfl
theorem own_fr {base e size n : Nat} {v : Value} {xs : List Value} (h : w.ownsRow base e size v n xs) (hf : Fr E ts B w w') (ht : e ∉ ts) : w'.ownsRow base e size v n xs := by
  refine ⟨h.1, ?_⟩
  rcases h.2 with h0 | ⟨g, c, cur, rfl, hb, hh, rest⟩
  · exact .inl h0
  · exact .inr ⟨g, c, cur, rfl, hb, Blk.fr hh hf ht, rest⟩
end
theorem blk_grown {w w' : World} {g t : Nat} {cs : Array Value} {row : Option Nat} (hb : w.grownBy w' row) (h : Blk w g t cs) (hg : some g ≠ row) : Blk w' g t cs := h.grown hb hg
theorem fr_grown {w w' : World} {base e size n B : Nat} {v : Value} {xs : List Value} {ts : List Nat} (hb : w.grownBy w' v.ownBlock) (h : w.ownsRow base e size v n xs) (hB : B ≤ base) (he : e ∈ ts) (h50 : e = 50 → E ≤ base := by (intro h; exact absurd h (by decide))) : Fr E ts B w w' := Fr.of_own hb h hB he h50
theorem own_shape {w : World} {base e size n : Nat} {v : Value} {xs : List Value} (h : w.ownsRow base e size v (n + 1) xs) : ∃ g c, v = .slice (some ⟨g, 0, none⟩) (n + 1) c := by
  rcases h.2 with ⟨_, h0⟩ | ⟨g, c, cur, h0, _⟩
  · omega
  · exact ⟨g, c, h0⟩
theorem own_far {w : World} {base : Nat} {e : TypeId} {size n : Nat} {v : Value} {xs : List Value} (h : w.ownsRow base e size v n xs) {p : Nat} {o : Nat} (hp : v.ownBlock ≠ some p) (u : Value) : (w.setCell ⟨p, o, none⟩ u).ownsRow base e size v n xs := by
  refine ⟨h.1, ?_⟩
  rcases h.2 with h0 | ⟨g, cap, cur, rfl, hb, hh, rest⟩
  · exact .inl h0
  · exact .inr ⟨g, cap, cur, rfl, hb, (Below.heap_setCell w ⟨p, o, none⟩ u g (fun e => hp (by simp [Value.ownBlock]; exact e))).trans hh, rest⟩
/-- append of elements onto a row of the call's own, as one operation of a region that draws (go_region_law). -/
theorem step_append_own_at {P : Program} {ops : Array Oper} {o : Oper} {a : Act} {w : World} {K : Act → World → Prop} {Q : Exit → Act → World → Prop} {E : Prop} (hgd : o.guard = none) (s x : Operand) (t : TypeId)
    (ho : o.op = .call { callee := .builtin .append, args := #[s, x], argTypes := #[t, t] })
    (base : Nat) (e : TypeId) (i : TypeInfo) (z : Value) (size bytes : Nat) (ht : P.underlying t = some (.slice e)) (hi : P.info? e = some i) (hz : i.zero = some z)
    (hsize : i.size = size) (hby : i.bytes = bytes) (hzs : z.cells.size = size) (hsz : 0 < size)
    (v : Value) (n : Nat) (xs : List Value) (hs : a.eval s = v) (hown : w.ownsRow base e size v n xs)
    (ad : Addr) (m c : Nat) (news : List Value) (hx : a.eval x = .slice (some ad) m c) (hl : news.length = m * size) (hnews : ∀ j u, news[j]? = some u → w.cell? (ad.add j) = some u) (h1 : ∀ u ∈ news, u.oneCell' = true)
    (h63 : n + m ≤ maxLen) (hbytes : (n + m) * bytes ≤ 140737488355328) (hbase : base ≤ w.heap.size)
    (h : ∀ v' w', w'.ownsRow base e size v' (n + m) (xs ++ news) → w.grownBy w' v.ownBlock → (v' = .slice none 0 0 ↔ v = .slice none 0 0 ∧ m = 0) → (v'.ownBlock = v.ownBlock ∨ v'.ownBlock = some w.heap.size) → K (a.put o.dst v') w') :
    if Region.wanted o (yielded ops a.tmps) = true then Oper.wp P o a w K Q else E := by
  have hw : Region.wanted o (yielded ops a.tmps) = true := by simp [Region.wanted, hgd]
  rw [if_pos hw]
  obtain ⟨v', w', hr, h2, h3, h4, h5⟩ := run_append_own_at (P := P) w base t o.type e i z size bytes ht hi hz hsize hby hzs hsz v n xs hown ad m c news hl hnews h1 h63 hbytes hbase
  unfold Oper.wp execOp
  simp only [ho, resolve, invoke, builtin, Sem.run_bind, Sem.run_pure, Result.andThen_ok, List.map_toArray, List.map_cons, List.map_nil, hs, hx, hr]
  exact h v' w' h2 h3 h4 h5
/-! ### Events -/
structure Ev where
  tick : Int
  kind : Int
  task : Int
  n : Int
deriving DecidableEq
def Ev.cells (x : Ev) : List Value := [.int .i64 x.tick, .int .i64 x.kind, .int .i64 x.task, .int .i64 x.n]
def evs (L : List Ev) : List Value := L.flatMap Ev.cells
theorem evs_snoc (L : List Ev) (x : Ev) : evs (L ++ [x]) = evs L ++ x.cells := by simp [evs]
theorem Tryz.info50 : (Tryz.prog.info? 50).map (fun i => (i.zero, i.size, i.bytes)) = some (some (.agg #[.int .i64 0, .int .i64 0, .int .i64 0, .int .i64 0]), 4, 32) := by kernel_rfl
theorem cells_new {w : World} {t : Nat} {l : List Value} : ∀ j u, l[j]? = some u → (w.alloc (.cells l.toArray t)).cell? ((⟨w.heap.size, 0, none⟩ : Addr).add j) = some u := by
  intro j u hj
  rw [add_none, Nat.zero_add, (Blk.new w t _).cell j]
  simpa using hj
set_option maxHeartbeats 4000000 in
/-- An event is noted. -/
theorem notes_any {B kp : Nat} {C : Array Value} {v : Value} {L : List Ev} {tick : Int} (kind task n : Int) (w : World) (hd : Blk w kp 97 C) (h2 : C[2]? = some (.int .i64 tick)) (h8 : C[8]? = some v)
    (hv : w.ownsRow E 50 4 v L.length (evs L)) (hB : B ≤ kp) (hBE : B ≤ E) (hE : E ≤ w.heap.size) (hL : L.length ≤ 100000000) :
    Calls Tryz.prog 50 #[.pointer (some ⟨kp, 0, none⟩), .int .i64 kind, .int .i64 task, .int .i64 n] w fun e w' =>
      e = .returned (.tuple #[]) ∧ ∃ v', Blk w' kp 97 (C.setIfInBounds 8 v') ∧ w'.ownsRow E 50 4 v' (L.length + 1) (evs (L ++ [⟨tick, kind, task, n⟩])) ∧ Fr E [97, 50] B w w' := by
  obtain ⟨i0, hi0, hz0, hz1, hz2⟩ := info_parts Tryz.info50
  have Hz0 := Lib.hid hz0; clear hz0
  have Hz1 := Lib.hid hz1; clear hz1
  have Hz2 := Lib.hid hz2; clear hz2
  have Hi := Lib.hid hi0; clear hi0
  have q2 : w.cell? ⟨kp, 2, none⟩ = some (.int .i64 tick) := (hd.cell 2).trans h2
  have q8 : w.cell? ⟨kp, 8, none⟩ = some v := (hd.cell 8).trans h8
  have H8 := Lib.hid h8
  have hlt := hd.lt
  go_enter Tryz.func50, Tryz.ntmps50
  have hB2 : B ≤ w.heap.size := by omega
  have hb2 := Blk.new w 50 #[.int .i64 tick, .int .i64 kind, .int .i64 task, .int .i64 n]
  have hd2 := hd.alloc (.cells #[.int .i64 tick, .int .i64 kind, .int .i64 task, .int .i64 n] 50)
  have hv2 := hv.alloc (.cells #[.int .i64 tick, .int .i64 kind, .int .i64 task, .int .i64 n] 50)
  have hs2 : (w.alloc (.cells #[.int .i64 tick, .int .i64 kind, .int .i64 task, .int .i64 n] 50)).heap.size = w.heap.size + 1 := by simp
  have HV := Lib.hid hv2
  have HD := Lib.hid hd2
  have HB := Lib.hid hb2
  have HS := Lib.hid hs2
  have hne := own_blk_ne hv hd (by decide)
  have HF : Hid (Fr E [97, 50] B w (w.alloc (.cells #[.int .i64 tick, .int .i64 kind, .int .i64 task, .int .i64 n] 50))) := Fr.of_none (only_alloc (World.grownBy.refl _ _) _)
  have HN := Lib.hid hne
  have H1 : Hid (∀ j u, [Value.int .i64 tick, .int .i64 kind, .int .i64 task, .int .i64 n][j]? = some u → (w.alloc (.cells #[.int .i64 tick, .int .i64 kind, .int .i64 task, .int .i64 n] 50)).cell? ((⟨w.heap.size, 0, none⟩ : Addr).add j) = some u) :=
    fun j u hj => by rw [add_none, Nat.zero_add]; exact (hb2.cell j).trans (by simpa using hj)
  have H2 : Hid (∀ u ∈ [Value.int .i64 tick, .int .i64 kind, .int .i64 task, .int .i64 n], u.oneCell' = true) := by
    intro u hu
    simp at hu
    rcases hu with rfl | rfl | rfl | rfl <;> rfl
  have H3 : Hid (L.length + 1 ≤ maxLen) := by unfold Hid maxLen; omega
  have H4 : Hid ((L.length + 1) * 32 ≤ 140737488355328) := by unfold Hid; omega
  have H5 : Hid (E ≤ (w.alloc (.cells #[.int .i64 tick, .int .i64 kind, .int .i64 task, .int .i64 n] 50)).heap.size) := by unfold Hid; omega
  clear hv hd hv2 hd2 hb2 hs2 hne h2 h8
  go_region_law ((refine step_append_own_at rfl (.tmp 12) (.tmp 21) 35 rfl E 50 i0 _ 4 32 Tryz.underlying35 Hi.out Hz0.out Hz1.out Hz2.out rfl (Nat.succ_pos 3) v L.length (evs L) rfl HV.out ⟨w.heap.size, 0, none⟩ 1 1 [.int .i64 tick, .int .i64 kind, .int .i64 task, .int .i64 n] rfl rfl H1.out H2.out H3.out H4.out H5.out ?_; intro v' w' own gr _ wh; obtain ⟨g', m', rfl⟩ := own_shape own; have D := blk_grown gr HD.out (fun e => HN.out e.symm); have c8 : w'.cell? ⟨kp, 8, none⟩ = some v := (D.cell 8).trans H8.out; have f8 := D.frozen 8; have HN2 := own_blk_ne own D (by decide)))
  all_goals
    go_wp2_with fail
    go_end0
    refine ⟨rfl, _, D.set_ 8 _, ?_, ?_⟩
    · rw [evs_snoc]
      exact own_far own (fun e => HN2 e) _
    · exact (HF.out.drew.trans (fr_grown gr HV.out hBE (by simp) (fun _ => Nat.le_refl _))).trans (Fr.of_blk (only_setCell (World.grownBy.refl _ _) (.inl rfl) _) D hB (by simp))
end Go.Proofs.YtdgfjpbjiccllaaGreatDoor
/- Whether a name is a word. -/
namespace Go.Proofs.YtdgfjpbjiccllaaGreatDoor.X
open Go.RowKit
open Go.Proofs.YtdgfjpbjiccllaaGreatDoorW.PrintWords Go.Proofs.YtdgfjpbjiccllaaGreatDoorW.PrintLast Go.Proofs.YtdgfjpbjiccllaaGreatDoorW.PrintMore
open Go.Proofs.YtdgfjpbjiccllaaGreatDoor.PTopLoads
set_option maxRecDepth 100000
theorem toList_inj' {a b : ByteArray} : a.toList = b.toList ↔ a = b := by
  constructor
  · intro h
    rw [Lib.toList_data, Lib.toList_data] at h
    cases a; cases b
    simpa [Array.ext_iff] using h
  · rintro rfl; rfl
theorem index_law (xs : List ByteArray) (a : ByteArray) (hx : xs.length ≤ 1000) : ∀ k i, i ≤ xs.length → xs.length - i < k →
    ∃ r, slices_Index_string_string.l0 k xs a xs.length i = some r ∧ (decide (r ≥ 0)) = (xs.drop i).any (fun x => decide (a = x))
  | 0, i, h, hk => by omega
  | k + 1, i, h, hk => by
    unfold slices_Index_string_string.l0
    by_cases hi : i < xs.length
    · have hd : xs.drop i = xs[i] :: xs.drop (i + 1) := List.drop_eq_getElem_cons hi
      rw [if_pos (by omega), if_pos (by omega), if_pos (by omega)]
      have hr : rdOf ByteArray.empty xs (i : Int) = xs[i] := by unfold rdOf; simp [List.getD, hi]
      rw [hr, hd, List.any_cons]
      by_cases he : a = xs[i]
      · rw [if_pos (toList_inj'.2 he)]
        exact ⟨i, rfl, by simp [he]⟩
      · rw [if_neg (fun h => he (toList_inj'.1 h))]
        have hw : wrap64 ((i : Int) + 1) = ((i + 1 : Nat) : Int) := by
          rw [show ((i : Int) + 1) = ((i + 1 : Nat) : Int) by omega]
          unfold wrap64
          omega
        rw [hw]
        obtain ⟨r, h1, h2⟩ := index_law xs a hx k (i + 1) (by omega) (by omega)
        exact ⟨r, h1, by rw [h2]; simp [he]⟩
    · rw [if_neg (by omega)]
      refine ⟨-1, rfl, ?_⟩
      rw [List.drop_eq_nil_of_le (by omega)]
      rfl
/-- A name is a word of the language. -/
def isWord (a : ByteArray) : Bool := wordsB.any fun x => decide (a = x)
theorem contains_any (w : World) (b : Nat) (hb : Blk w b 9 (wordsB.map Value.string).toArray) (a : ByteArray) :
    Calls Tryz.prog 149 #[.slice (some ⟨b, 0, none⟩) 10 10, .string a] w fun e w' => e = .returned (.bool (isWord a)) ∧ Drawn0 w w' := by
  have hl : wordsB.length = 10 := by unfold wordsB; rw [List.length_map]; exact wordsL_len
  obtain ⟨r, h1, h2⟩ := index_law wordsB a (by omega) 11 0 (by omega) (by omega)
  have h := slices_Contains_string_string.calls 11 (some ⟨b, 0, none⟩) 10 wordsB a (isWord a) w ?_ (by omega) ?_
  · rw [hl] at h; exact h
  · refine Kd.C_of_reads (d := ByteArray.empty) ⟨rfl, by omega, fun _ => ⟨⟨b, 0, none⟩, rfl, fun j hj => ?_⟩⟩
    rw [add_none, Nat.zero_add, hb.cell j, List.getElem?_toArray, List.getElem?_map, List.getElem?_eq_getElem hj]
    simp only [Option.map_some, List.getD, List.getElem?_eq_getElem hj, Option.getD_some]
  · unfold slices_Contains_string_string.f slices_Index_string_string.f
    rw [show ((0 : Nat) : Int) = 0 from rfl] at h1
    rw [h1]
    simp only [Option.bind_some, h2]
    rfl
end Go.Proofs.YtdgfjpbjiccllaaGreatDoor.X
/- A name or a word. -/
namespace Go.Proofs.YtdgfjpbjiccllaaGreatDoor.X
open Go.RowKit
open Go.Proofs.YtdgfjpbjiccllaaGreatDoorW.PrintWords Go.Proofs.YtdgfjpbjiccllaaGreatDoorW.PrintLast Go.Proofs.YtdgfjpbjiccllaaGreatDoorW.PrintMore
set_option maxRecDepth 100000
def tok (k : Int) (s : ByteArray) (n at_ : Int) : Value := .agg #[.int .i64 k, .string s, .int .i64 n, .int .i64 at_]
def kindOf (s : ByteArray) : Int := if isWord s then 3 else 1
def nameN (s : ByteArray) : Nat := spanL more (bytes s)
theorem results_cell3 {P : Program} {fn : Func} {p u v : Tmp} {ty : TypeId} (h : fn.results = #[.cell p ty, .tmp u, .tmp v]) (tmps : Array Value) (w : World) (g : Nat) (t : TypeId) (cs : Array Value) (d : TypeDesc)
    (hp : tmps.getD p undef = .pointer (some ⟨g, 0, none⟩)) (hg : Blk w g t cs)
    (hu : P.underlying ty = some d) (hd : (match d with | .struct _ | .array _ _ => true | _ => false) = true) (hi : (P.info? ty).map (·.size) = some cs.size) :
    (results fn tmps).run P w = .ok (.tuple #[.agg cs, tmps.getD u undef, tmps.getD v undef]) w := by
  have hp' : tmps[p]?.getD undef = .pointer (some ⟨g, 0, none⟩) := by simpa using hp
  simp [results, h, hp', asAddr, run_loadVar_row w g t ty cs (0, 0) d hg hu hd hi]
set_option maxHeartbeats 4000000 in
theorem name_any (s : ByteArray) (hs : s.size ≤ 1000000) (w : World) (htab : Lib.TabIs Tryz.prog w "strings.asciiSpace" .u8 Lib.asciiSpaceTab) :
    Calls Tryz.prog 128 #[.string s] w fun e w' => e = .returned (.tuple #[tok (kindOf (s.extract 0 (nameN s))) (s.extract 0 (nameN s)) 0 0, .int .i64 (nameN s), .bool (decide ((nameN s : Int) ≤ 12))]) ∧ Below w.heap.size w w' := by
  have hTB := Lib.tabBelow_of_tabIs htab
  have HTB := Lib.hid hTB
  have hle : nameN s ≤ s.size := by unfold nameN; rw [← bytes_length]; exact spanL_le _ _
  have hrun := run_more s hs
  have hc := contains_any
  have HRUN := Lib.hid hrun
  have HCON := Lib.hid hc
  obtain ⟨n, hn⟩ : ∃ n, nameN s = n := ⟨_, rfl⟩
  have hn2 : spanL more (bytes s) = n := hn
  rw [hn2] at HRUN
  rw [hn] at hle ⊢
  obtain ⟨x, hx⟩ : ∃ x, s.extract 0 n = x := ⟨_, rfl⟩
  have HX := Lib.hid hx
  clear hTB htab hrun hc hn hn2
  rw [hx]
  clear hx
  go_enter Tryz.func128, Tryz.ntmps128
  go_upto_region 3 with (go_at_call 125; refine (HRUN.out _).mono ?_; rintro e w' ⟨rfl, rfl⟩)
  obtain ⟨g, hg⟩ : ∃ g, w.heap.size = g := ⟨_, rfl⟩
  have B0 : Blk ((w.alloc (.cells #[.int .i64 0, .string ⟨#[]⟩, .int .i64 0, .int .i64 0] 116)).alloc (.cells #[.int .i64 1, .string (s.extract 0 n), .int .i64 0, .int .i64 0] 116)) w.heap.size 116 #[.int .i64 0, .string ⟨#[]⟩, .int .i64 0, .int .i64 0] := (Blk.new w 116 _).alloc _
  have B1 : Blk ((w.alloc (.cells #[.int .i64 0, .string ⟨#[]⟩, .int .i64 0, .int .i64 0] 116)).alloc (.cells #[.int .i64 1, .string (s.extract 0 n), .int .i64 0, .int .i64 0] 116)) (w.heap.size + 1) 116 #[.int .i64 1, .string (s.extract 0 n), .int .i64 0, .int .i64 0] := by
    have h := Blk.new (w.alloc (.cells #[.int .i64 0, .string ⟨#[]⟩, .int .i64 0, .int .i64 0] 116)) 116 #[.int .i64 1, .string (s.extract 0 n), .int .i64 0, .int .i64 0]
    simpa using h
  have hb : Below w.heap.size w ((w.alloc (.cells #[.int .i64 0, .string ⟨#[]⟩, .int .i64 0, .int .i64 0] 116)).alloc (.cells #[.int .i64 1, .string (s.extract 0 n), .int .i64 0, .int .i64 0] 116)) := ((Below.refl _ _).alloc (Nat.le_refl _) _).alloc (by simp) _
  have ht := HTB.out _ hb
  obtain ⟨w2, hw2⟩ : ∃ w2, (w.alloc (.cells #[.int .i64 0, .string ⟨#[]⟩, .int .i64 0, .int .i64 0] 116)).alloc (.cells #[.int .i64 1, .string (s.extract 0 n), .int .i64 0, .int .i64 0] 116) = w2 := ⟨_, rfl⟩
  rw [hw2] at B0 B1 hb ht ⊢
  rw [hg] at B0 hb ⊢
  rw [HX.out] at B1 ⊢
  have HT := Lib.hid (HTB.out _ (by rw [hg]; exact hb.drew))
  have HB := Lib.hid hb
  rw [hg] at B1
  obtain ⟨tb, htb⟩ : ∃ tb, g + 1 = tb := ⟨_, rfl⟩
  have hgt : g ≠ tb := by omega
  have HG := Lib.hid hg
  rw [htb] at B1 ⊢
  have hgl : g ≤ tb := by omega
  clear hg
  clear htb
  have c1 : w2.cell? ⟨tb, 1, none⟩ = some (.string x) := B1.cell 1
  have hl1 := B1.lt
  clear hw2 ht hb
  go_region_held3 (fun w' => w'.cell? ⟨tb, 1, none⟩ = some (.string x)) (go_keep) (first | (go_at_call 150; refine (words_any _ HT.out).mono ?_; rintro e w4 ⟨rfl, rfl⟩) | (go_at_call 149; refine (HCON.out _ _ (by first | exact Blk.new _ _ _ | exact (Blk.new _ _ _).drew) _).mono ?_; rintro e w5 ⟨rfl, hd⟩; have hd1 : w5.cell? ⟨tb, 1, none⟩ = some (.string x) := by (obtain ⟨⟨m, rfl⟩⟩ := hd; exact (World.cell?_alloc_past _ _ _ hl1).trans c1)))
  have hb5 : Below w2.heap.size w2 w5 := by
    obtain ⟨⟨m, rfl⟩⟩ := hd
    exact ((Below.refl _ _).alloc (Nat.le_refl _) _).trans ⟨rfl, rfl, rfl, Nat.le_refl _, fun _ _ => rfl⟩
  have D0 := B0.below hb5 B0.lt
  have D1 := B1.below hb5 B1.lt
  have hB5 := HB.out.trans (hb5.mono (by have := B0.lt; omega))
  have t0 := D1.cell 0
  have t1 := D1.cell 1
  have t2 := D1.cell 2
  have t3 := D1.cell 3
  have u0 := D1.frozen 0
  have g0 := D0.cell 0
  have g1 := D0.cell 1
  have g2 := D0.cell 2
  have g3 := D0.cell 3
  have f0 := D0.frozen 0
  have f1 := D0.frozen 1
  have f2 := D0.frozen 2
  have f3 := D0.frozen 3
  clear hd hd1 hb5 B0 B1
  cases hw : isWord x with
  | true =>
    have hk : kindOf x = 3 := by simp [kindOf, hw]
    have HK := Lib.hid hk
    clear hk
    go_wp2_with fail
    refine bodyPost_ret (results_cell3 rfl _ _ g 116 (((#[Value.int .i64 0, .string ⟨#[]⟩, .int .i64 0, .int .i64 0].setIfInBounds 0 (.int .i64 3)).setIfInBounds 1 (.string x)).setIfInBounds 2 (.int .i64 0) |>.setIfInBounds 3 (.int .i64 0)) _ rfl ((((((D0.far (p := ⟨tb, 0, none⟩) hgt _).set_ 0 _).set_ 1 _).set_ 2 _).set_ 3 _)) Tryz.underlying116 rfl (by kernel_rfl)) rfl ⟨by rw [HK.out]; rfl, ?_⟩
    rw [HG.out]
    exact ((((hB5.setCell hgl _).setCell (Nat.le_refl _) _).setCell (Nat.le_refl _) _).setCell (Nat.le_refl _) _).setCell (Nat.le_refl _) _
  | false =>
    have hk : kindOf x = 1 := by simp [kindOf, hw]
    have HK := Lib.hid hk
    clear hk
    go_wp2_with fail
    refine bodyPost_ret (results_cell3 rfl _ _ g 116 (((#[Value.int .i64 0, .string ⟨#[]⟩, .int .i64 0, .int .i64 0].setIfInBounds 0 (.int .i64 1)).setIfInBounds 1 (.string x)).setIfInBounds 2 (.int .i64 0) |>.setIfInBounds 3 (.int .i64 0)) _ rfl (((((D0.set_ 0 _).set_ 1 _).set_ 2 _).set_ 3 _)) Tryz.underlying116 rfl (by kernel_rfl)) rfl ⟨by rw [HK.out]; rfl, ?_⟩
    rw [HG.out]
    exact (((hB5.setCell (Nat.le_refl _) _).setCell (Nat.le_refl _) _).setCell (Nat.le_refl _) _).setCell (Nat.le_refl _) _
end Go.Proofs.YtdgfjpbjiccllaaGreatDoor.X
/- A number. -/
namespace Go.Proofs.YtdgfjpbjiccllaaGreatDoor.X
open Go.RowKit
open Go.Proofs.YtdgfjpbjiccllaaGreatDoorW.PrintWords Go.Proofs.YtdgfjpbjiccllaaGreatDoorW.PrintLast Go.Proofs.YtdgfjpbjiccllaaGreatDoorW.PrintMore
set_option maxRecDepth 100000
def numL (l : List Int) : Int := l.foldl (fun a c => a * 10 + (c - 48)) 0
def digN (s : ByteArray) : Nat := spanL digit (bytes s)
/-- A run of digits that is no number. -/
def badNum (s : ByteArray) : Bool := decide (9 < digN s) || (decide (1 < digN s) && (bytes s).getD 0 0 == 48)
set_option maxHeartbeats 4000000 in
theorem number_bad (s : ByteArray) (hs : s.size ≤ 1000000) (w : World) (hb : badNum s = true) :
    Calls Tryz.prog 130 #[.string s] w fun e w' => e = .returned (.tuple #[tok 2 ⟨#[]⟩ 0 0, .int .i64 (digN s), .bool false]) ∧ Below w.heap.size w w' := by
  have hle : digN s ≤ s.size := by unfold digN; rw [← bytes_length]; exact spanL_le _ _
  have hrun := run_digit s hs
  have HRUN := Lib.hid hrun
  unfold badNum at hb
  obtain ⟨n, hn⟩ : ∃ n, digN s = n := ⟨_, rfl⟩
  have hn2 : spanL digit (bytes s) = n := hn
  rw [hn2] at HRUN
  rw [hn] at hle hb ⊢
  clear hrun hn hn2
  by_cases h9 : 9 < n
  · clear hb
    go_enter Tryz.func130, Tryz.ntmps130
    go_wp2_with (go_at_call 125; refine (HRUN.out _).mono ?_; rintro e w' ⟨rfl, rfl⟩)
    refine bodyPost_ret (results_cell3 rfl _ _ w.heap.size 116 #[.int .i64 2, .string ⟨#[]⟩, .int .i64 0, .int .i64 0] _ rfl ((Blk.new w 116 _).alloc _) Tryz.underlying116 rfl (by kernel_rfl)) rfl ⟨rfl, ?_⟩
    exact ((Below.refl _ _).alloc (Nat.le_refl _) _).alloc (by simp) _
  · have h1 : 1 < n := by
      by_cases h : 1 < n
      · exact h
      · simp [h9, h] at hb
    have hz : (bytes s).getD 0 0 = 48 := by simpa [h9, h1] using hb
    have hlt : 0 < s.size := by omega
    have hb0 := byte_at s 0 hlt
    rw [hz] at hb0
    have d0 : (((s[0]'hlt).toNat : Int) == 48) = true := by simpa using hb0
    clear hb hz hb0
    go_enter Tryz.func130, Tryz.ntmps130
    go_wp2_with (go_at_call 125; refine (HRUN.out _).mono ?_; rintro e w' ⟨rfl, rfl⟩)
    refine bodyPost_ret (results_cell3 rfl _ _ w.heap.size 116 #[.int .i64 2, .string ⟨#[]⟩, .int .i64 0, .int .i64 0] _ rfl ((Blk.new w 116 _).alloc _) Tryz.underlying116 rfl (by kernel_rfl)) rfl ⟨rfl, ?_⟩
    exact ((Below.refl _ _).alloc (Nat.le_refl _) _).alloc (by simp) _
theorem conv_bytes (W : World) (x : ByteArray) : ∃ C cap k, (convert 9 76 (.string x)).run Tryz.prog W = .ok (.slice (some ⟨W.heap.size, 0, none⟩) x.size cap) (W.drew.alloc (.cells C 5 (k, k + 1))) ∧ ∀ i, i < x.size → C[i]? = some (.int .u8 ((bytes x).getD i 0)) := by
  refine ⟨_, _, _, run_bytes_of_string W 9 76 5 x Tryz.underlying9 Tryz.underlying76 Tryz.underlying5, fun i hi => ?_⟩
  rw [← byte_at x i hi]
  exact bytesRow_at x _ i hi
theorem bytes_extract (s : ByteArray) (n : Nat) : bytes (s.extract 0 n) = (bytes s).take n := by
  unfold bytes
  rw [Lib.extract_data, List.drop_zero, Nat.sub_zero, List.map_take]
theorem numL_snoc (l : List Int) (c : Int) : numL (l ++ [c]) = numL l * 10 + (c - 48) := by simp [numL]
theorem take_snoc' (l : List Int) (k : Nat) (h : k < l.length) : l.take (k + 1) = l.take k ++ [l.getD k 0] := by
  rw [List.take_add_one, List.getElem?_eq_getElem h, List.getD_eq_getElem?_getD, List.getElem?_eq_getElem h]
  rfl
theorem digit_in {b : Int} (h : digit b = true) : 48 ≤ b ∧ b ≤ 57 := by
  unfold digit at h
  simpa using h
theorem numL_in (l : List Int) (hl : ∀ i, i < l.length → digit (l.getD i 0) = true) : ∀ k, k ≤ l.length → 0 ≤ numL (l.take k) ∧ numL (l.take k) < 10 ^ k
  | 0, _ => by simp [numL]
  | k + 1, h => by
    obtain ⟨h1, h2⟩ := numL_in l hl k (by omega)
    obtain ⟨h3, h4⟩ := digit_in (hl k (by omega))
    rw [take_snoc' l k (by omega), numL_snoc, Int.pow_succ]
    omega
set_option maxHeartbeats 4000000 in
theorem number_ok (s : ByteArray) (hs : s.size ≤ 1000000) (h0 : 0 < s.size) (w : World) (hb : badNum s = false) :
    Calls Tryz.prog 130 #[.string s] w fun e w' => e = .returned (.tuple #[tok 2 ⟨#[]⟩ (numL ((bytes s).take (digN s))) 0, .int .i64 (digN s), .bool true]) ∧ Below w.heap.size w w' := by
  have hle : digN s ≤ s.size := by unfold digN; rw [← bytes_length]; exact spanL_le _ _
  have hrun := run_digit s hs
  have HRUN := Lib.hid hrun
  have hdig : ∀ i, i < digN s → digit ((bytes s).getD i 0) = true := fun i hi => spanL_lt digit (bytes s) i hi
  have HDG := Lib.hid hdig
  unfold badNum at hb
  obtain ⟨n, hn⟩ : ∃ n, digN s = n := ⟨_, rfl⟩
  have hn2 : spanL digit (bytes s) = n := hn
  rw [hn2] at HRUN
  rw [hn] at hle hb HDG ⊢
  clear hrun hn hn2 hdig
  have h9 : n ≤ 9 := by
    by_cases h : 9 < n
    · simp [h] at hb
    · omega
  have hcase : (decide (1 < (n : Int)) = true ∧ (((s[0]'h0).toNat : Int) == 48) = false) ∨ decide (1 < (n : Int)) = false := by
    by_cases h : 1 < n
    · refine .inl ⟨by simp; omega, ?_⟩
      rw [byte_at s 0 h0]
      have h8 : decide (9 < n) = false := by simp; omega
      rw [h8, Bool.false_or, decide_eq_true h, Bool.true_and] at hb
      exact hb
    · exact .inr (by simp; omega)
  clear hb
  have hsz : (s.extract 0 n).size = n := by rw [ByteArray.size_extract]; omega
  obtain ⟨C, cap, kk, hconv, hC⟩ := conv_bytes ((w.alloc (.cells #[.int .i64 0, .string ⟨#[]⟩, .int .i64 0, .int .i64 0] 116)).alloc (.cells #[.int .i64 2, .string ⟨#[]⟩, .int .i64 0, .int .i64 0] 116)) (s.extract 0 n)
  rw [hsz, bytes_extract] at hC
  rw [hsz] at hconv
  have HC := Lib.hid hC
  clear hC
  rcases hcase with ⟨h1, d0⟩ | h1
  all_goals
    go_enter Tryz.func130, Tryz.ntmps130
    go_wp2_with (go_at_call 125; refine (HRUN.out _).mono ?_; rintro e w' ⟨rfl, rfl⟩)
    have B0 : Blk (((w.alloc (.cells #[.int .i64 0, .string ⟨#[]⟩, .int .i64 0, .int .i64 0] 116)).alloc (.cells #[.int .i64 2, .string ⟨#[]⟩, .int .i64 0, .int .i64 0] 116)).alloc (.cells C 5 (kk, kk + 1))).drew w.heap.size 116 #[.int .i64 0, .string ⟨#[]⟩, .int .i64 0, .int .i64 0] := (((Blk.new w 116 _).alloc _).alloc _).drew
    have B1 : Blk (((w.alloc (.cells #[.int .i64 0, .string ⟨#[]⟩, .int .i64 0, .int .i64 0] 116)).alloc (.cells #[.int .i64 2, .string ⟨#[]⟩, .int .i64 0, .int .i64 0] 116)).alloc (.cells C 5 (kk, kk + 1))).drew (w.heap.size + 1) 116 #[.int .i64 2, .string ⟨#[]⟩, .int .i64 0, .int .i64 0] := by
      have h := ((Blk.new (w.alloc (.cells #[.int .i64 0, .string ⟨#[]⟩, .int .i64 0, .int .i64 0] 116)) 116 #[.int .i64 2, .string ⟨#[]⟩, .int .i64 0, .int .i64 0]).alloc (.cells C 5 (kk, kk + 1))).drew
      simpa using h
    have BC := heap_alloc_new ((w.alloc (.cells #[.int .i64 0, .string ⟨#[]⟩, .int .i64 0, .int .i64 0] 116)).alloc (.cells #[.int .i64 2, .string ⟨#[]⟩, .int .i64 0, .int .i64 0] 116)) (.cells C 5 (kk, kk + 1))
    have BC2 : (((w.alloc (.cells #[.int .i64 0, .string ⟨#[]⟩, .int .i64 0, .int .i64 0] 116)).alloc (.cells #[.int .i64 2, .string ⟨#[]⟩, .int .i64 0, .int .i64 0] 116)).alloc (.cells C 5 (kk, kk + 1))).drew.heap[w.heap.size + 1 + 1]? = some (.cells C 5 (kk, kk + 1)) := by
      rw [show ((w.alloc (.cells #[.int .i64 0, .string ⟨#[]⟩, .int .i64 0, .int .i64 0] 116)).alloc (.cells #[.int .i64 2, .string ⟨#[]⟩, .int .i64 0, .int .i64 0] 116)).heap.size = w.heap.size + 1 + 1 by simp] at BC
      exact BC
    have hbw : Below w.heap.size w (((w.alloc (.cells #[.int .i64 0, .string ⟨#[]⟩, .int .i64 0, .int .i64 0] 116)).alloc (.cells #[.int .i64 2, .string ⟨#[]⟩, .int .i64 0, .int .i64 0] 116)).alloc (.cells C 5 (kk, kk + 1))).drew := ((((Below.refl _ _).alloc (Nat.le_refl _) _).alloc (by simp) _).alloc (by simp; omega) _).drew
    clear BC hconv
    obtain ⟨w1, hw1⟩ : ∃ w1, (((w.alloc (.cells #[.int .i64 0, .string ⟨#[]⟩, .int .i64 0, .int .i64 0] 116)).alloc (.cells #[.int .i64 2, .string ⟨#[]⟩, .int .i64 0, .int .i64 0] 116)).alloc (.cells C 5 (kk, kk + 1))).drew = w1 := ⟨_, rfl⟩
    rw [hw1] at B0 B1 BC2 hbw ⊢
    obtain ⟨g, hg⟩ : ∃ g, w.heap.size = g := ⟨_, rfl⟩
    have HG := Lib.hid hg
    rw [hg] at B0 B1 BC2 hbw ⊢
    clear hw1 hg
    obtain ⟨tb, htb⟩ : ∃ tb, g + 1 = tb := ⟨_, rfl⟩
    rw [htb] at B1 BC2 ⊢
    have hgt : g < tb := by omega
    obtain ⟨cb, hcb⟩ : ∃ cb, tb + 1 = cb := ⟨_, rfl⟩
    rw [hcb] at BC2 ⊢
    have htc : tb < cb := by omega
    clear htb hcb
    go_loopw [30] (fun z wr => ∃ k : Nat, k ≤ n ∧ z = .int .i64 k ∧ Blk wr tb 116 #[.int .i64 2, .string ⟨#[]⟩, .int .i64 (numL ((bytes s).take k)), .int .i64 0] ∧ w1.grownBy wr (some tb)) (fun z _ => n - (intOf z).toNat)
    case atStart => exact ⟨0, Nat.zero_le _, rfl, by simpa [numL] using B1, World.grownBy.refl _ _⟩
    case round =>
      obtain ⟨k, hk, rfl, hT, hgr⟩ := hrel
      have hcl : cb < w1.heap.size := by
        rcases Nat.lt_or_ge cb w1.heap.size with h | h
        · exact h
        · rw [Array.getElem?_eq_none h] at BC2; cases BC2
      have t0 := hT.cell 0
      have t1 := hT.cell 1
      have t2 := hT.cell 2
      have t3 := hT.cell 3
      have u2 := hT.frozen 2
      by_cases hlt : k < n
      · have hcc : wr.cell? ⟨cb, k, none⟩ = some (.int .u8 ((bytes s).getD k 0)) := by
          have h1 := cell_of_row wr cb k C 5 (kk, kk + 1) ((hgr.block cb hcl (by simp; omega)).trans BC2)
          rw [h1, HC.out k hlt]
          have hkl : k < (bytes s).length := by rw [bytes_length]; omega
          simp [List.getD, List.getElem?_take_of_lt hlt, hkl]
        obtain ⟨d1, d2⟩ := digit_in (HDG.out k hlt)
        obtain ⟨v1, v2⟩ := numL_in ((bytes s).take n) (by
          intro i hi
          have hin : i < n := by rw [List.length_take] at hi; omega
          have := HDG.out i hin
          simpa [List.getD, List.getElem?_take_of_lt hin] using this) k (by rw [List.length_take, bytes_length]; omega)
        rw [List.take_take, Nat.min_eq_left hk] at v1 v2
        have v3 : numL ((bytes s).take k) < 1000000000 := Int.lt_of_lt_of_le v2 (by
          have : (10 : Int) ^ k ≤ 10 ^ 9 := by exact_mod_cast Nat.pow_le_pow_right (n := 10) (by decide) (show k ≤ 9 by omega)
          simpa using this)
        obtain ⟨b, hb⟩ : ∃ b, (bytes s).getD k 0 = b := ⟨_, rfl⟩
        obtain ⟨v, hv⟩ : ∃ v, numL ((bytes s).take k) = v := ⟨_, rfl⟩
        have HBB := Lib.hid hb
        have HVV := Lib.hid hv
        rw [hb] at hcc d1 d2
        rw [hv] at t2 hT v1 v3
        clear hb hv v2
        go_wp2_with fail
        refine ⟨⟨k + 1, hlt, rfl, ?_, only_setCell hgr (p := ⟨tb, 2, none⟩) (.inl rfl) _⟩, by simp [intOf]; omega⟩
        rw [take_snoc' _ k (by rw [bytes_length]; omega), numL_snoc, HVV.out, HBB.out]
        exact hT.set_ 2 _
      · have hkn : k = n := by omega
        have HKN := Lib.hid hkn
        have D0 := B0.grown hgr (by simp; omega)
        have g0 := D0.cell 0
        have g1 := D0.cell 1
        have g2 := D0.cell 2
        have g3 := D0.cell 3
        have f0 := D0.frozen 0
        have f1 := D0.frozen 1
        have f2 := D0.frozen 2
        have f3 := D0.frozen 3
        clear hkn
        go_wp2_with fail
        have hbr : Below g w wr := hbw.grown hgr (by have := B0.lt; omega) fun q e => by
          injection e with e
          omega
        refine bodyPost_ret (results_cell3 rfl _ _ g 116 (((#[Value.int .i64 0, .string ⟨#[]⟩, .int .i64 0, .int .i64 0].setIfInBounds 0 (.int .i64 2)).setIfInBounds 1 (.string ⟨#[]⟩)).setIfInBounds 2 (.int .i64 (numL ((bytes s).take k))) |>.setIfInBounds 3 (.int .i64 0)) _ rfl (((((D0.set_ 0 _).set_ 1 _).set_ 2 _).set_ 3 _)) Tryz.underlying116 rfl (by kernel_rfl)) rfl ⟨by rw [← HKN.out]; rfl, ?_⟩
        rw [HG.out]
        exact (((hbr.setCell (Nat.le_refl _) _).setCell (Nat.le_refl _) _).setCell (Nat.le_refl _) _).setCell (Nat.le_refl _) _
end Go.Proofs.YtdgfjpbjiccllaaGreatDoor.X
/- A token. -/
namespace Go.Proofs.YtdgfjpbjiccllaaGreatDoor.X
open Go.RowKit
open Go.Proofs.YtdgfjpbjiccllaaGreatDoorW.PrintWords Go.Proofs.YtdgfjpbjiccllaaGreatDoorW.PrintLast Go.Proofs.YtdgfjpbjiccllaaGreatDoorW.PrintMore
open Go.Proofs.YtdgfjpbjiccllaaGreatDoor.PTopLoads
set_option maxRecDepth 100000
theorem hp_f (s : ByteArray) (h0 : 0 < s.size) : strings_HasPrefix.f s ⟨#[59]⟩ = some ((bytes s).getD 0 0 == 59) := by
  unfold strings_HasPrefix.f stringslite_HasPrefix.f
  have h1 : ((⟨#[59]⟩ : ByteArray).size : Int) = 1 := rfl
  rw [h1, if_pos (by omega), if_pos (by decide), if_pos (by omega), Option.bind_some]
  congr 1
  rw [show ((1 : Int).toNat) = 1 from rfl, Lib.toList_data, Lib.toList_data, Lib.extract_data, List.drop_zero]
  obtain ⟨⟨l⟩⟩ := s
  cases l with
  | nil => exact absurd h0 (by decide)
  | cons b t =>
    have e1 : (bytes ⟨⟨b :: t⟩⟩).getD 0 0 = (b.toNat : Int) := rfl
    rw [e1]
    simp only [Nat.sub_zero, List.take_succ_cons, List.take_zero]
    by_cases h : b = 59
    · subst h; rfl
    · have h2 : ¬ ((b.toNat : Int) = 59) := fun e => h (by
        apply UInt8.toNat_inj.1
        have : b.toNat = 59 := by omega
        simpa using this)
      have e2 : ((b.toNat : Int) == 59) = false := by simpa using h2
      rw [e2]
      simpa using h
theorem hp_any (s : ByteArray) (h0 : 0 < s.size) (w : World) : Calls Tryz.prog 131 #[.string s, .string ⟨#[59]⟩] w fun e w' => e = .returned (.bool ((bytes s).getD 0 0 == 59)) ∧ Drawn0 w w' :=
  strings_HasPrefix.calls s ⟨#[59]⟩ _ w (hp_f s h0)
/-- A token: its kind, text, number; how long; whether there is one. -/
structure Tk where
  k : Int
  s : ByteArray
  n : Int
  len : Nat
  ok : Bool
def Tk.v (t : Tk) : Value := .tuple #[tok t.k t.s t.n 0, .int .i64 t.len, .bool t.ok]
def tokenL (s : ByteArray) : Tk :=
  if letter ((bytes s).getD 0 0) then ⟨kindOf (s.extract 0 (nameN s)), s.extract 0 (nameN s), 0, nameN s, decide ((nameN s : Int) ≤ 12)⟩
  else if digit ((bytes s).getD 0 0) then (if badNum s then ⟨2, ⟨#[]⟩, 0, digN s, false⟩ else ⟨2, ⟨#[]⟩, numL ((bytes s).take (digN s)), digN s, true⟩)
  else if (bytes s).getD 0 0 == 59 then ⟨3, ⟨#[59]⟩, 0, 1, true⟩ else ⟨0, ⟨#[]⟩, 0, 0, false⟩
theorem name_tk (s : ByteArray) (hs : s.size ≤ 1000000) (w : World) (htab : Lib.TabIs Tryz.prog w "strings.asciiSpace" .u8 Lib.asciiSpaceTab) (hl : letter ((bytes s).getD 0 0) = true) :
    Calls Tryz.prog 128 #[.string s] w fun e w' => e = .returned (tokenL s).v ∧ Below w.heap.size w w' := by
  have h := name_any s hs w htab
  unfold tokenL
  rw [if_pos hl]
  exact h
theorem number_tk (s : ByteArray) (hs : s.size ≤ 1000000) (h0 : 0 < s.size) (w : World) (hl : letter ((bytes s).getD 0 0) = false) (hd : digit ((bytes s).getD 0 0) = true) :
    Calls Tryz.prog 130 #[.string s] w fun e w' => e = .returned (tokenL s).v ∧ Below w.heap.size w w' := by
  unfold tokenL
  rw [if_neg (by rw [hl]; decide), if_pos hd]
  cases hb : badNum s with
  | true => exact number_bad s hs w hb
  | false => exact number_ok s hs h0 w hb
end Go.Proofs.YtdgfjpbjiccllaaGreatDoor.X
