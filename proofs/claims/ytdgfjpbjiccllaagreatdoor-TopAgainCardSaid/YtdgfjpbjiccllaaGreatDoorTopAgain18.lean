/- Joined texts: Lex2, Lex3. -/
import Derived.Test.YtdgfjpbjiccllaaGreatDoorTopAgain06
import Derived.Test.YtdgfjpbjiccllaaGreatDoorTopAgain17
import Derived.Test.YtdgfjpbjiccllaaGreatDoorTopAgain03
import Derived.Test.YtdgfjpbjiccllaaGreatDoorTopAgain07
namespace Go.Proofs.YtdgfjpbjiccllaaGreatDoor.X
open Go.RowKit
set_option maxRecDepth 100000
def wordText : ByteArray := ⟨#[114, 101, 108, 111, 97, 100, 32, 116, 97, 115, 107, 32, 112, 101, 114, 105, 111, 100, 32, 100, 101, 97, 100, 108, 105, 110, 101, 32, 102, 105, 120, 101, 100, 32, 102, 108, 111, 97, 116, 32, 116, 104, 114, 101, 115, 104, 32, 114, 101, 103, 105, 111, 110, 115, 32, 101, 99, 98, 32, 117, 99, 98]⟩
def wordsL : List (List UInt8) := Lib.fields wordText.data.toList
def wordsB : List ByteArray := wordsL.map fun l => ⟨l.toArray⟩
theorem wordsL_len : wordsL.length = 10 := by kernel_rfl
theorem words_any (w : World) (htab : Lib.TabIs Tryz.prog w "strings.asciiSpace" .u8 Lib.asciiSpaceTab) :
  Calls Tryz.prog 150 #[] w fun e w' => e = .returned (.slice (some ⟨w.heap.size, 0, none⟩) 10 10) ∧ w' = w.alloc (.cells (wordsB.map Value.string).toArray 9) := by
 have hc := Any.strings_Fields Tryz.laysFields (by kernel_rfl) (by kernel_rfl) wordText w (by decide) (by
  intro j b hb
  have : ∀ b ∈ wordText.data.toList, b.toNat < 128 := by decide
  exact this b (List.mem_of_getElem? hb)) htab
 have hc' : Calls Tryz.prog 164 #[.string wordText] w fun e w' => e = .returned (.slice (some ⟨w.heap.size, 0, none⟩) 10 10) ∧ w' = w.alloc (.cells (wordsB.map Value.string).toArray 9) := by
  refine Calls.mono hc ?_
  rintro e w' ⟨rfl, rfl⟩
  have hl : (Lib.fields wordText.data.toList).length = 10 := wordsL_len
  refine ⟨by rw [hl], ?_⟩
  have : wordsB.map Value.string = (Lib.fields wordText.data.toList).map fun l => Value.string ⟨l.toArray⟩ := by
   unfold wordsB wordsL
   rw [List.map_map]
   rfl
  rw [this]
  rfl
 have HC := Lib.hid hc'
 clear hc hc' htab
 go_enter Tryz.func150, Tryz.ntmps150
 go_wp2_with (go_at_call 164; refine (HC.out).mono ?_; rintro e w' ⟨rfl, rfl⟩)
 go_ret
 exact ⟨rfl, rfl⟩
end Go.Proofs.YtdgfjpbjiccllaaGreatDoor.X
namespace Go.Proofs.YtdgfjpbjiccllaaGreatDoor.X
open Go.RowKit
open YtdgfjpbjiccllaaGreatDoorW.PrintWords YtdgfjpbjiccllaaGreatDoorW.PrintLast YtdgfjpbjiccllaaGreatDoorW.PrintMore
open PTopLoads
set_option maxRecDepth 100000
theorem toList_inj' {a b : ByteArray} : a.toList = b.toList ↔ a = b := by
 constructor
 ·intro h
  rw [Lib.toList_data, Lib.toList_data] at h
  cases a; cases b
  simpa [Array.ext_iff] using h
 ·rintro rfl; rfl
theorem index_law (xs : List ByteArray) (a : ByteArray) (hx : xs.length ≤ 1000) : ∀ k i, i ≤ xs.length → xs.length - i < k →
  ∃ r, slices_Index_string_string.l0 k xs a xs.length i = some r ∧ (decide (r ≥ 0)) = (xs.drop i).any (fun x => decide (a = x))
 | 0, i, h, hk => by omega
 | k + 1, i, h, hk => by
  unfold slices_Index_string_string.l0
  by_cases hi : i < xs.length
  ·have hd : xs.drop i = xs[i] :: xs.drop (i + 1) := List.drop_eq_getElem_cons hi
   rw [if_pos (by omega), if_pos (by omega), if_pos (by omega)]
   have hr : rdOf ByteArray.empty xs (i : Int) = xs[i] := by unfold rdOf; simp [List.getD, hi]
   rw [hr, hd, List.any_cons]
   by_cases he : a = xs[i]
   ·rw [if_pos (toList_inj'.2 he)]
    exact ⟨i, rfl, by simp [he]⟩
   ·rw [if_neg (fun h => he (toList_inj'.1 h))]
    have hw : wrap64 ((i : Int) + 1) = ((i + 1 : Nat) : Int) := by
     rw [show ((i : Int) + 1) = ((i + 1 : Nat) : Int) by omega]
     unfold wrap64
     omega
    rw [hw]
    obtain ⟨r, h1, h2⟩ := index_law xs a hx k (i + 1) (by omega) (by omega)
    exact ⟨r, h1, by rw [h2]; simp [he]⟩
  ·rw [if_neg (by omega)]
   refine ⟨-1, rfl, ?_⟩
   rw [List.drop_eq_nil_of_le (by omega)]
   rfl
def isWord (a : ByteArray) : Bool := wordsB.any fun x => decide (a = x)
theorem contains_any (w : World) (b : Nat) (hb : Blk w b 9 (wordsB.map Value.string).toArray) (a : ByteArray) :
  Calls Tryz.prog 149 #[.slice (some ⟨b, 0, none⟩) 10 10, .string a] w fun e w' => e = .returned (.bool (isWord a)) ∧ Drawn0 w w' := by
 have hl : wordsB.length = 10 := by unfold wordsB; rw [List.length_map]; exact wordsL_len
 obtain ⟨r, h1, h2⟩ := index_law wordsB a (by omega) 11 0 (by omega) (by omega)
 have h := slices_Contains_string_string.calls 11 (some ⟨b, 0, none⟩) 10 wordsB a (isWord a) w ?_ (by omega) ?_
 ·rw [hl] at h; exact h
 ·refine Kd.C_of_reads (d := ByteArray.empty) ⟨rfl, by omega, fun _ => ⟨⟨b, 0, none⟩, rfl, fun j hj => ?_⟩⟩
  rw [add_none, Nat.zero_add, hb.cell j, List.getElem?_toArray, List.getElem?_map, List.getElem?_eq_getElem hj]
  simp only [Option.map_some, List.getD, List.getElem?_eq_getElem hj, Option.getD_some]
 ·unfold slices_Contains_string_string.f slices_Index_string_string.f
  rw [show ((0 : Nat) : Int) = 0 from rfl] at h1
  rw [h1]
  simp only [Option.bind_some, h2]
  rfl
end Go.Proofs.YtdgfjpbjiccllaaGreatDoor.X
