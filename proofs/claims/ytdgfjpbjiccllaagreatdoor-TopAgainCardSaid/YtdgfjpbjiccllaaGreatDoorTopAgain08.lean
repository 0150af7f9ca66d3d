/- Joined texts: Dig. -/
import Derived.Test.YtdgfjpbjiccllaaGreatDoorTopAgain06
import Derived.Laws.IdiomStrings
import Derived.Test.YtdgfjpbjiccllaaGreatDoorTopAgain03
namespace Go.Proofs.YtdgfjpbjiccllaaGreatDoor.D
open Go.RowKit
set_option maxRecDepth 100000
def digB (n : Nat) : List UInt8 := if n < 10 then [UInt8.ofNat (48 + n)] else digB (n / 10) ++ [UInt8.ofNat (48 + n % 10)]
termination_by n
def digS (n : Nat) : ByteArray := ⟨(digB n).toArray⟩
theorem conv_one (w : World) (b : Nat) (hb : b < 256) (z : Int) (hz : z = b) : (convert 76 9 (.slice (some ⟨w.heap.size, 0, none⟩) 1 1)).run Tryz.prog (w.alloc (.cells #[.int .u8 z] 5)) = .ok (.string ⟨#[UInt8.ofNat b]⟩) (w.alloc (.cells #[.int .u8 z] 5)) := by
 subst hz
 have hb2 : (UInt8.ofNat b).toNat = b := by rw [UInt8.toNat_ofNat']; omega
 exact run_convert_bytes_back (P := Tryz.prog) (w.alloc (.cells #[.int .u8 (b : Int)] 5)) 76 9 5 ⟨w.heap.size, 0, none⟩ 1 [UInt8.ofNat b] Tryz.underlying76 Tryz.underlying5 Tryz.underlying9 (fun j hj => by
  have hj0 : j = 0 := by simpa using hj
  subst hj0
  rw [add_none]
  have := (Blk.new w 5 #[.int .u8 (b : Int)]).cell 0
  rw [show 0 + 0 = 0 from rfl, this]
  simp [hb2])
theorem digS_small {n : Nat} (h : n < 10) : digS n = ⟨#[UInt8.ofNat (48 + n % 10)]⟩ := by
 unfold digS digB
 rw [if_pos h, Nat.mod_eq_of_lt h]
theorem digS_big {n : Nat} (h : ¬ n < 10) : digS n = digS (n / 10) ++ ⟨#[UInt8.ofNat (48 + n % 10)]⟩ := by
 have e : digB n = digB (n / 10) ++ [UInt8.ofNat (48 + n % 10)] := by
  conv => lhs; unfold digB
  rw [if_neg h]
 unfold digS
 rw [e]
 apply ByteArray.ext
 simp
theorem digS_size : ∀ (k n : Nat), n < 10 ^ (k + 1) → (digS n).size ≤ k + 1
 | 0, n, h => by
  rw [digS_small (by simpa using h)]
  exact Nat.le_refl _
 | k + 1, n, h => by
  by_cases hn : n < 10
  ·rw [digS_small hn]
   show 1 ≤ _
   omega
  ·have := digS_size k (n / 10) (by rw [Nat.pow_succ] at h; omega)
   rw [digS_big hn, ByteArray.size_append]
   have e : (⟨#[UInt8.ofNat (48 + n % 10)]⟩ : ByteArray).size = 1 := rfl
   omega
set_option maxHeartbeats 4000000 in
theorem digits_any : ∀ (n : Nat), n ≤ 9223372036854775807 → ∀ w : World, Calls Tryz.prog 17 #[.int .i64 (n : Int)] w fun e w' => e = .returned (.string (digS n)) ∧ Below w.heap.size w w' := by
 intro n
 induction n using Nat.strongRecOn with
 | ind n ih =>
  intro hn w
  have hc := conv_one w (48 + n % 10) (by omega) (48 + (n : Int) % 10) (by omega)
  have hal : Below w.heap.size w (w.alloc (.cells #[.int .u8 (48 + (n : Int) % 10)] 5)) := (Below.refl _ _).alloc (Nat.le_refl _) _
  have HAL := Lib.hid hal
  obtain ⟨d, hdd⟩ : ∃ d, UInt8.ofNat (48 + n % 10) = d := ⟨_, rfl⟩
  rw [hdd] at hc
  by_cases h : n < 10
  ·have hd : decide ((10 : Int) ≤ (n : Int)) = false := by simp; omega
   rw [digS_small h, hdd]
   clear ih h hal hdd
   go_enter Tryz.func17, Tryz.ntmps17
   go_wp2_with fail
   go_ret
   exact ⟨rfl, HAL.out⟩
  ·have hd : decide ((10 : Int) ≤ (n : Int)) = true := by simp; omega
   have hi := ih (n / 10) (by omega) (by omega) (w.alloc (.cells #[.int .u8 (48 + (n : Int) % 10)] 5))
   have hq : ((n / 10 : Nat) : Int) = (n : Int) / 10 := by omega
   rw [hq] at hi
   rw [digS_big h, hdd]
   have hs := digS_size 18 (n / 10) (by
    have : (10 : Nat) ^ (18 + 1) = 10000000000000000000 := by decide
    omega)
   have h1 : (⟨#[d]⟩ : ByteArray).size = 1 := rfl
   have HI := Lib.hid hi
   clear ih h hal hi hq hdd
   go_enter Tryz.func17, Tryz.ntmps17
   go_wp2_with (go_at_call 17; refine (HI.out).mono ?_; rintro e w2 ⟨rfl, hb2⟩; have HB2 := Lib.hid (HAL.out.trans (hb2.mono HAL.out.size)); clear hb2)
   go_ret
   exact ⟨rfl, HB2.out⟩
end Go.Proofs.YtdgfjpbjiccllaaGreatDoor.D
