/- Joined texts: Fix7, Exe3, Exe4, One, One2. -/
import Derived.Test.YtdgfjpbjiccllaaGreatDoorJa25
import Derived.Test.YtdgfjpbjiccllaaGreatDoorJa24
import Derived.Test.YtdgfjpbjiccllaaGreatDoorJa21
/- admit.Judge of a task alone. -/
namespace Go.Proofs.YtdgfjpbjiccllaaGreatDoor.F
open Go.RowKit
open Go.Proofs.YtdgfjpbjiccllaaGreatDoor.X (TOk NameOk tokens all_yes)
open Go.Proofs.YtdgfjpbjiccllaaGreatDoorW.PrintWords Go.Proofs.YtdgfjpbjiccllaaGreatDoorW.PrintLast Go.Proofs.YtdgfjpbjiccllaaGreatDoorW.PrintMore
open Go.Proofs.YtdgfjpbjiccllaaGreatDoor.PTopLoads (S46 S212)
set_option maxRecDepth 100000
theorem all_A {w : World} {A : Option Addr} {c : Nat} (hS : ∀ w', Below w.heap.size w w' → Src w' A [xA]) (htab : Lib.TabIs Tryz.prog w "strings.asciiSpace" .u8 Lib.asciiSpaceTab) :
    Calls Tryz.prog 42 #[.agg #[.int .i64 0, .slice A 1 c]] w fun e w2 => e = .returned (.bool true) ∧ Below w.heap.size w w2 :=
  all_yes (L := [xA]) (rel := 0) (by decide) (by decide) (by decide) (by decide) hS (fun i x hx => by
    obtain ⟨hi, rfl⟩ := List.getElem?_eq_some_iff.1 hx
    obtain rfl : i = 0 := by simp at hi; omega
    exact okA) (fun i j x y hij hx hy => by
    have h1 := (List.getElem?_eq_some_iff.1 hx).1
    have h2 := (List.getElem?_eq_some_iff.1 hy).1
    simp at h1 h2
    omega) htab
theorem results_cell2 {P : Program} {fn : Func} {p u : Tmp} {ty : TypeId} (h : fn.results = #[.cell p ty, .tmp u]) (tmps : Array Value) (w : World) (g : Nat) (t : TypeId) (cs : Array Value) (d : TypeDesc)
    (hp : tmps.getD p undef = .pointer (some ⟨g, 0, none⟩)) (hg : Blk w g t cs)
    (hu : P.underlying ty = some d) (hd : (match d with | .struct _ | .array _ _ => true | _ => false) = true) (hi : (P.info? ty).map (·.size) = some cs.size) :
    (results fn tmps).run P w = .ok (.tuple #[.agg cs, tmps.getD u undef]) w := by
  have hp' : tmps[p]?.getD undef = .pointer (some ⟨g, 0, none⟩) := by simpa using hp
  simp [results, h, hp', asAddr, run_loadVar_row w g t ty cs (0, 0) d hg hu hd hi]
/-- A judgement under way. -/
structure JS (w wr : World) (sb b off c vb : Nat) (rv : Value) : Prop where
  bl : Below sb w wr
  s : Blk wr sb 24 #[.int .i64 0, .slice (some ⟨b, off, none⟩) 1 c]
  r : Blk wr (sb + 1) 34 #[.int .i64 0, .int .i64 0, .slice none 0 0]
  v : Blk wr vb 34 #[.int .i64 1, .int .i64 0, rv]
  lt : sb + 1 < vb
theorem JS.below {w wr w' : World} {sb b off c vb : Nat} {rv : Value} (h : JS w wr sb b off c vb rv) (hb : Below wr.heap.size wr w') : JS w w' sb b off c vb rv :=
  ⟨h.bl.trans (hb.mono (Nat.le_of_lt h.s.lt)), h.s.below hb h.s.lt, h.r.below hb h.r.lt, h.v.below hb h.v.lt, h.lt⟩
theorem JS.set_ {w wr : World} {sb b off c vb : Nat} {rv : Value} (h : JS w wr sb b off c vb rv) (u : Value) : JS w (wr.setCell ⟨vb, 2, none⟩ u) sb b off c vb u :=
  ⟨h.bl.setCell (by show sb ≤ vb; have := h.lt; omega) _, h.s.far (by show sb ≠ vb; have := h.lt; omega) _, h.r.far (by show sb + 1 ≠ vb; have := h.lt; omega) _, h.v.set_ 2 u, h.lt⟩
set_option maxHeartbeats 8000000 in
theorem judge_A {A : Option Addr} {c : Nat} (w : World) (hc1 : 1 ≤ c) (hS : ∀ w', Below w.heap.size w w' → Src w' A [xA]) (htab : Lib.TabIs Tryz.prog w "strings.asciiSpace" .u8 Lib.asciiSpaceTab) :
    Calls Tryz.prog 35 #[.agg #[.int .i64 0, .slice A 1 c]] w fun e w' => ∃ RA rc, e = .returned (.tuple #[.agg #[.int .i64 1, .int .i64 0, .slice RA 1 rc], .int .i64 0]) ∧ Below w.heap.size w w' := by
  obtain ⟨b, off, rfl⟩ : ∃ b off, A = some ⟨b, off, none⟩ := by
    rcases hS w (Below.refl _ _) with h | ⟨b, off, h, _⟩
    · cases h
    · exact ⟨b, off, h⟩
  have HTB := Lib.hid (Lib.tabBelow_of_tabIs htab)
  have HAL := Lib.hid (fun w' (hb : Below w.heap.size w w') => all_A (w := w') (c := c) (fun w'' hb' => hS w'' (hb.trans (hb'.mono hb.size))) (HTB.out w' hb))
  have HOF := Lib.hid (fun w' (hb : Below w.heap.size w w') => (by
    rcases hS w' hb with h | ⟨b', off', h, hbl, hcs⟩
    · cases h
    · injection h with h
      injection h with h1 h2
      subst h1 h2
      obtain ⟨ra, rc, g0, g1, g2, g3, g4, g5, g6, g7, g8, hN, hrc⟩ := hcs 0 xA rfl
      exact of_A w' hc1 hbl ra rc hrc ⟨g0, g1, g2, g3, g4, g5, g6, g7, g8⟩ hN : Calls Tryz.prog 61 #[.agg #[.int .i64 0, .slice (some ⟨b, off, none⟩) 1 c], .int .i64 0] w' fun e w2 => e = .returned (.tuple #[.int .i64 2, .int .i64 1]) ∧ Below w'.heap.size w' w2))
  have HB1 := Lib.hid (((Below.refl w.heap.size w).alloc (Nat.le_refl _) (.cells #[.int .i64 0, .slice (some ⟨b, off, none⟩) 1 c] 24)).alloc (by simp) (.cells #[.int .i64 0, .int .i64 0, .slice none 0 0] 34))
  have HD := Lib.hid ((Blk.new w 24 #[.int .i64 0, .slice (some ⟨b, off, none⟩) 1 c]).alloc (.cells #[.int .i64 0, .int .i64 0, .slice none 0 0] 34))
  have HR := Blk.new (w.alloc (.cells #[.int .i64 0, .slice (some ⟨b, off, none⟩) 1 c] 24)) 34 #[.int .i64 0, .int .i64 0, .slice none 0 0]
  have hsz : (w.alloc (.cells #[.int .i64 0, .slice (some ⟨b, off, none⟩) 1 c] 24)).heap.size = w.heap.size + 1 := by simp
  rw [hsz] at HR
  have HR := Lib.hid HR
  obtain ⟨sb, hsb⟩ : ∃ sb, w.heap.size = sb := ⟨_, rfl⟩
  have HSB := Lib.hid hsb
  clear hS htab hsb hsz
  go_enter Tryz.func35, Tryz.ntmps35
  go_upto_region 1 with fail
  obtain ⟨w1, hw1⟩ : ∃ w1, (w.alloc (.cells #[.int .i64 0, .slice (some ⟨b, off, none⟩) 1 c] 24)).alloc (.cells #[.int .i64 0, .int .i64 0, .slice none 0 0] 34) = w1 := ⟨_, rfl⟩
  rw [hw1] at HB1 HD HR ⊢
  rw [HSB.out] at HB1 HD HR ⊢
  clear hw1
  have c0 : w1.cell? ⟨sb, 0, none⟩ = some (.int .i64 0) := HD.out.cell 0
  have c1 : w1.cell? ⟨sb, 1, none⟩ = some (.slice (some ⟨b, off, none⟩) 1 c) := HD.out.cell 1
  have hsl := HD.out.lt
  have hrl := HR.out.lt
  go_wp2_with (go_at_call 42; refine (HAL.out _ (by rw [HSB.out]; exact HB1.out)).mono ?_; rintro e w2 ⟨rfl, hb⟩; have HB2 := Lib.hid hb; have d0 : w2.cell? ⟨sb, 0, none⟩ = some (.int .i64 0) := (HD.out.below hb hsl).cell 0; have d1 : w2.cell? ⟨sb, 1, none⟩ = some (.slice (some ⟨b, off, none⟩) 1 c) := (HD.out.below hb hsl).cell 1; have hsl2 := (HD.out.below hb hsl).lt; clear hb)
  have S3 : JS w (w2.alloc (.cells #[.int .i64 1, .int .i64 0, .slice none 0 0] 34)) sb b off c w2.heap.size (.slice none 0 0) :=
    ⟨(HB1.out.trans (HB2.out.mono (Nat.le_of_lt hsl))).alloc (Nat.le_of_lt hsl2) _, (HD.out.below HB2.out hsl).alloc _, (HR.out.below HB2.out hrl).alloc _, Blk.new w2 34 _, (HR.out.below HB2.out hrl).lt⟩
  obtain ⟨w3, hw3⟩ : ∃ w3, w2.alloc (.cells #[.int .i64 1, .int .i64 0, .slice none 0 0] 34) = w3 := ⟨_, rfl⟩
  obtain ⟨vb, hvb⟩ : ∃ vb, w2.heap.size = vb := ⟨_, rfl⟩
  rw [hw3, hvb] at S3 ⊢
  have HS3 := Lib.hid S3
  obtain ⟨i0, hi0, hz0, hz1, hz2⟩ := info_parts J.Tryz.info2
  have Hz0 := Lib.hid hz0; clear hz0
  have Hz1 := Lib.hid hz1; clear hz1
  have Hz2 := Lib.hid hz2; clear hz2
  have Hi := Lib.hid hi0; clear hi0
  clear hw3 hvb S3 c0 c1 d0 d1 hsl hsl2 hrl HB1 HD HR HB2
  go_loopw [16] (fun z16 wr => (z16 = .int .i64 0 ∧ JS w wr sb b off c vb (.slice none 0 0)) ∨ (z16 = .int .i64 1 ∧ ∃ RA rc, JS w wr sb b off c vb (.slice RA 1 rc))) (fun z16 _ => 1 - (intOf z16).toNat)
  case atStart => exact .inl ⟨rfl, HS3.out⟩
  case round =>
    rcases hrel with ⟨rfl, hS⟩ | ⟨rfl, RA, rc, hS⟩
    · have c0 : wr.cell? ⟨sb, 0, none⟩ = some (.int .i64 0) := hS.s.cell 0
      have c1 : wr.cell? ⟨sb, 1, none⟩ = some (.slice (some ⟨b, off, none⟩) 1 c) := hS.s.cell 1
      have hsl := hS.s.lt
      have HS := Lib.hid hS
      clear hS
      go_wp2_with (first | (go_at_call 61; refine (HOF.out _ (by rw [HSB.out]; exact HS.out.bl)).mono ?_; rintro e w5 ⟨rfl, hb⟩; have HS5 := Lib.hid (HS.out.below hb); have v2 : w5.cell? ⟨vb, 2, none⟩ = some (.slice none 0 0) := HS5.out.v.cell 2; have hvl := HS5.out.v.lt; have HO : Hid ((w5.alloc (.cells #[.int .i64 2] 2)).ownsRow w5.heap.size 2 1 (.slice none 0 0) 0 []) := World.ownsRow_nil _ _ _ _; have H1 : Hid (∀ j u, [Value.int .i64 2][j]? = some u → (w5.alloc (.cells #[.int .i64 2] 2)).cell? ((⟨w5.heap.size, 0, none⟩ : Addr).add j) = some u) := cells_new (l := [Value.int .i64 2]); have H5 : Hid (w5.heap.size ≤ (w5.alloc (.cells #[.int .i64 2] 2)).heap.size) := Nat.le_of_lt (by simp); clear hb) | (at_builtin; refine wpList_append_own _ rfl (.tmp 31) (.tmp 33) 32 rfl w5.heap.size 2 i0 _ 1 8 Tryz.underlying32 Hi.out Hz0.out Hz1.out Hz2.out rfl (Nat.succ_pos 0) (.slice none 0 0) 0 [] rfl HO.out ⟨w5.heap.size, 0, none⟩ 1 1 [.int .i64 2] rfl rfl H1.out (J.ints_one [2]) (by unfold maxLen; omega) (by omega) H5.out ?_; intro v' w6 own gr _; obtain ⟨g', m', rfl⟩ := own_shape own; have hb6 : Below w5.heap.size w5 w6 := ((Below.refl _ _).alloc (Nat.le_refl _) _).grown gr (Nat.le_of_lt (by simp)) (fun k hk => by simp [Value.ownBlock] at hk); have HS6 := Lib.hid (HS5.out.below hb6); have v6 := HS6.out.v.cell 2; have f6 := HS6.out.v.frozen 2; clear hb6 own gr))
      go_roundw
      case rel => exact .inr ⟨by go_num, _, _, HS6.out.set_ _⟩
      case measure => simp [intOf]
    · have v0 : wr.cell? ⟨vb, 0, none⟩ = some (.int .i64 1) := hS.v.cell 0
      have v1 : wr.cell? ⟨vb, 1, none⟩ = some (.int .i64 0) := hS.v.cell 1
      have v2 : wr.cell? ⟨vb, 2, none⟩ = some (.slice RA 1 rc) := hS.v.cell 2
      have r0 := hS.r.cell 0
      have r1 := hS.r.cell 1
      have r2 := hS.r.cell 2
      have f0 := hS.r.frozen 0
      have f1 := hS.r.frozen 1
      have f2 := hS.r.frozen 2
      have HS := Lib.hid hS
      have hsb : sb ≤ sb + 1 := Nat.le_succ _
      clear hS
      go_wp2
      refine bodyPost_ret (results_cell2 rfl _ _ (sb + 1) 34 #[.int .i64 1, .int .i64 0, .slice RA 1 rc] _ rfl (((HS.out.r.set_ 0 (.int .i64 1)).set_ 1 (.int .i64 0)).set_ 2 (.slice RA 1 rc)) Tryz.underlying34 rfl (by kernel_rfl)) rfl ⟨RA, rc, rfl, ?_⟩
      rw [HSB.out]
      exact ((HS.out.bl.setCell hsb _).setCell hsb _).setCell hsb _
end Go.Proofs.YtdgfjpbjiccllaaGreatDoor.F
/- exec for the law's own task: judge, start. -/
namespace Go.Proofs.YtdgfjpbjiccllaaGreatDoor.F
open Go.RowKit
open Go.Proofs.YtdgfjpbjiccllaaGreatDoorW.PrintWords Go.Proofs.YtdgfjpbjiccllaaGreatDoorW.PrintLast Go.Proofs.YtdgfjpbjiccllaaGreatDoorW.PrintMore
open Go.Proofs.YtdgfjpbjiccllaaGreatDoor.PTopLoads (S46 k46 z46 k46_mk S57 k57 z57)
open Go.Proofs.YtdgfjpbjiccllaaGreatDoor.X
set_option maxRecDepth 100000
theorem exec_idle {w : World} {ep : Nat} {r0 t0 : Value} (hE : Blk w ep 62 #[r0, t0, .bool true, .pointer none]) :
    Calls Tryz.prog 36 #[.pointer (some ⟨ep, 0, none⟩)] w fun e w' => e = .returned (.bool true) ∧ Below w.heap.size w w' := by
  have x2 : w.cell? ⟨ep, 2, none⟩ = some (.bool true) := hE.cell 2
  have x3 : w.cell? ⟨ep, 3, none⟩ = some (.pointer none) := hE.cell 3
  have hel := hE.lt
  clear hE
  go_enter Tryz.func36, Tryz.ntmps36
  go_wp2
  go_ret
  exact ⟨rfl, Below.refl _ _⟩
set_option maxHeartbeats 8000000 in
theorem exec_judge {w : World} {ep B0 c : Nat} {A : Option Addr} {kv : Value} {R : List Value} (hE : Blk w ep 62 #[.int .i64 0, .slice A 1 c, .bool true, kv]) (hT : TasksAt w B0 (.slice A 1 c) [xA] R) (hc : 1 ≤ c) (htab : Lib.TabIs Tryz.prog w "strings.asciiSpace" .u8 Lib.asciiSpaceTab) :
    Calls Tryz.prog 21 #[.pointer (some ⟨ep, 0, none⟩)] w fun e w' => ∃ RA rc, e = .returned (.agg (repC 0 0 1 0 (.slice RA 1 rc) (.slice none 0 0))) ∧ Below w.heap.size w w' := by
  have hb0 := (Below.refl w.heap.size w).alloc (Nat.le_refl _) (.cells #[.int .i64 0, .int .i64 0, .int .i64 0, .int .i64 0, .slice none 0 0, .string ⟨#[]⟩, .slice none 0 0] 37)
  have HJ := Lib.hid (judge_A (A := A) (c := c) _ hc (fun w' hb' => src_of (L := [xA]) (tasks_below hT (hb0.trans (hb'.mono hb0.size))) (by simp [xA])) (Lib.tabBelow_of_tabIs htab _ hb0))
  have HB0 := Lib.hid hb0
  have hel := hE.lt
  have HE := Lib.hid (hE.alloc (.cells #[.int .i64 0, .int .i64 0, .int .i64 0, .int .i64 0, .slice none 0 0, .string ⟨#[]⟩, .slice none 0 0] 37))
  have HS := Lib.hid (Blk.new w 37 #[.int .i64 0, .int .i64 0, .int .i64 0, .int .i64 0, .slice none 0 0, .string ⟨#[]⟩, .slice none 0 0])
  clear hb0 hT htab hc hE
  go_enter Tryz.func21, Tryz.ntmps21
  go_upto_region 1 with fail
  obtain ⟨w1, hw1⟩ : ∃ w1, w.alloc (.cells #[.int .i64 0, .int .i64 0, .int .i64 0, .int .i64 0, .slice none 0 0, .string ⟨#[]⟩, .slice none 0 0] 37) = w1 := ⟨_, rfl⟩
  rw [hw1] at HJ HB0 HE HS ⊢
  obtain ⟨sb, hsb⟩ : ∃ sb, w.heap.size = sb := ⟨_, rfl⟩
  rw [hsb] at HB0 HS hel ⊢
  have HSB := Lib.hid hsb
  clear hw1 hsb
  have e0 : w1.cell? ⟨ep, 0, none⟩ = some (.int .i64 0) := HE.out.cell 0
  have e1 : w1.cell? ⟨ep, 1, none⟩ = some (.slice A 1 c) := HE.out.cell 1
  have e2 : w1.cell? ⟨ep, 2, none⟩ = some (.bool true) := HE.out.cell 2
  have hel1 := HE.out.lt
  go_wp2_with (go_at_call 35; refine (HJ.out).mono ?_; rintro e w2 ⟨RA, rc, rfl, hb⟩; have HB2 := Lib.hid hb; have HS2 := Lib.hid (HS.out.below hb HS.out.lt); have t0' := HS2.out.cell 0; have t1 := HS2.out.cell 1; have t2 := HS2.out.cell 2; have t3 := HS2.out.cell 3; have t4 := HS2.out.cell 4; have t5 := HS2.out.cell 5; have t6 := HS2.out.cell 6; have u0 := HS2.out.frozen 0; have u1 := HS2.out.frozen 1; have u2 := HS2.out.frozen 2; have u3 := HS2.out.frozen 3; have u4 := HS2.out.frozen 4; have u5 := HS2.out.frozen 5; have u6 := HS2.out.frozen 6; have hl2 := HS2.out.lt; clear hb)
  obtain ⟨h7, g7⟩ := set7 HS2.out (.int .i64 0) (.int .i64 0) (.int .i64 1) (.int .i64 0) (.slice RA 1 rc) (.string ⟨#[]⟩) (.slice none 0 0)
  refine bodyPost_ret (results_cell1 rfl _ _ sb 37 (repC 0 0 1 0 (.slice RA 1 rc) (.slice none 0 0)) _ rfl (h7.alloc _) Tryz.underlying37 rfl (by kernel_rfl)) rfl ⟨RA, rc, rfl, ?_⟩
  have hl := HS.out.lt
  have hb2 := HB0.out.trans (HB2.out.mono (Nat.le_of_lt hl))
  rw [HSB.out]
  exact (hb2.grown g7 (Nat.le_of_lt hl2) (fun k hk => by injection hk with hk; omega)).alloc (by have := g7.size; omega) _
/-- The kernel of the law's own set, as it begins. -/
def kA : Kst := ⟨0, [xA], 0, -1, [xA].map fun x => P.mkW x.f1, List.replicate 64 0, T.zeros 1, zs 1, zs 1, List.replicate 1 ⟨[], [], 0, 0, 0, 0⟩, []⟩
theorem kA_pd (k : Nat) : pdOf kA k = false := by
  unfold pdOf kA
  simp only [T.zeros, T.getL]
  by_cases hk : k < 1
  · obtain rfl : k = 0 := by omega
    rfl
  · rw [List.getElem?_eq_none (by simp; omega)]
    rfl
theorem new_A {w : World} {B0 c : Nat} {A : Option Addr} {R : List Value} (hT : TasksAt w B0 (.slice A 1 c) [xA] R) (htab : Lib.TabIs Tryz.prog w "strings.asciiSpace" .u8 Lib.asciiSpaceTab) :
    Calls Tryz.prog 30 #[.agg #[.int .i64 0, .slice A 1 c]] w fun e w' => ∃ kp A' jv ev, e = .returned (.tuple #[.pointer (some ⟨kp, 0, none⟩), .int .i64 0]) ∧ KAt w.heap.size w' w.heap.size kp A' jv ev (pdOf kA) kA ∧ Below w.heap.size w w' := by
  have hS : ∀ w', Below w.heap.size w w' → Src w' A [xA] := fun w' hb => src_of (L := [xA]) (tasks_below hT hb) (by simp [xA])
  refine (new_any (L := [xA]) (c := c) (rel := 0) (by decide) (by decide) hS (fun w' hb => all_A (fun w'' hb' => hS w'' (hb.trans (hb'.mono hb.size))) (Lib.tabBelow_of_tabIs htab _ hb)) (by decide)).mono ?_
  rintro e w' ⟨kp, A', jv, ev, he, hk, hb⟩
  exact ⟨kp, A', jv, ev, he, hk.less (fun k h => by rw [kA_pd] at h; simp at h), hb⟩
set_option maxHeartbeats 8000000 in
theorem exec_start {w : World} {ep B0 c : Nat} {A : Option Addr} {R : List Value} (hE : Blk w ep 62 #[.int .i64 0, .slice A 1 c, .bool true, .pointer none]) (hT : TasksAt w B0 (.slice A 1 c) [xA] R) (hc : 1 ≤ c) (htab : Lib.TabIs Tryz.prog w "strings.asciiSpace" .u8 Lib.asciiSpaceTab) :
    Calls Tryz.prog 25 #[.pointer (some ⟨ep, 0, none⟩), .bool false] w fun e w' => ∃ RA rc B kp A' jv ev, e = .returned (.agg (repC 0 0 1 0 (.slice RA 1 rc) (.slice none 0 0))) ∧ Blk w' ep 62 #[.int .i64 0, .slice A 1 c, .bool true, .pointer (some ⟨kp, 0, none⟩)] ∧
      KAt B w' B kp A' jv ev (pdOf kA) kA ∧ ep < B ∧ w.heap.size ≤ B ∧ w.grownBy w' (some ep) := by
  have hb0 := (Below.refl w.heap.size w).alloc (Nat.le_refl _) (.cells #[.int .i64 0, .int .i64 0, .int .i64 0, .int .i64 0, .slice none 0 0, .string ⟨#[]⟩, .slice none 0 0] 37)
  have HT := Lib.hid hT
  have HTB := Lib.hid (Lib.tabBelow_of_tabIs htab)
  have HB0 := Lib.hid hb0
  have hel := hE.lt
  have HE := Lib.hid (hE.alloc (.cells #[.int .i64 0, .int .i64 0, .int .i64 0, .int .i64 0, .slice none 0 0, .string ⟨#[]⟩, .slice none 0 0] 37))
  have HS := Lib.hid (Blk.new w 37 #[.int .i64 0, .int .i64 0, .int .i64 0, .int .i64 0, .slice none 0 0, .string ⟨#[]⟩, .slice none 0 0])
  clear hb0 hT htab hE
  go_enter Tryz.func25, Tryz.ntmps25
  go_upto_region 1 with fail
  obtain ⟨w1, hw1⟩ : ∃ w1, w.alloc (.cells #[.int .i64 0, .int .i64 0, .int .i64 0, .int .i64 0, .slice none 0 0, .string ⟨#[]⟩, .slice none 0 0] 37) = w1 := ⟨_, rfl⟩
  rw [hw1] at HB0 HE HS ⊢
  obtain ⟨sb, hsb⟩ : ∃ sb, w.heap.size = sb := ⟨_, rfl⟩
  rw [hsb] at hel HS ⊢
  have HSB := Lib.hid hsb
  clear hw1 hsb
  have HI := Lib.hid (exec_idle HE.out)
  have HG := Lib.hid (fun w2 (hb : Below w1.heap.size w1 w2) => exec_judge (HE.out.below hb HE.out.lt) (tasks_below HT.out (HB0.out.trans (hb.mono HB0.out.size))) hc (HTB.out w2 (HB0.out.trans (hb.mono HB0.out.size))))
  simp only [repC] at HG
  go_upto_region 4 with (first | (go_at_call 36; refine (HI.out).mono ?_; rintro e w2 ⟨rfl, hb⟩; have HB2 := Lib.hid hb; clear hb HI) | (go_at_call 21; refine (HG.out _ HB2.out).mono ?_; rintro e w3 ⟨RA, rc, rfl, hb⟩; have HB3 := Lib.hid (HB2.out.trans (hb.mono HB2.out.size)); clear hb HG))
  have HB4 : Hid (Below w1.heap.size w1 (w3.alloc (.cells #[.int .i64 0, .int .i64 0, .int .i64 1, .int .i64 0, .slice RA 1 rc, .string ⟨#[]⟩, .slice none 0 0] 37))) := HB3.out.alloc HB3.out.size _
  have HR4 := Lib.hid (Blk.new w3 37 #[.int .i64 0, .int .i64 0, .int .i64 1, .int .i64 0, .slice RA 1 rc, .string ⟨#[]⟩, .slice none 0 0])
  have hs13 : w1.heap.size ≤ w3.heap.size := HB3.out.size
  obtain ⟨w4, hw4⟩ : ∃ w4, w3.alloc (.cells #[.int .i64 0, .int .i64 0, .int .i64 1, .int .i64 0, .slice RA 1 rc, .string ⟨#[]⟩, .slice none 0 0] 37) = w4 := ⟨_, rfl⟩
  obtain ⟨rk, hrk⟩ : ∃ rk, w3.heap.size = rk := ⟨_, rfl⟩
  rw [hw4] at HB4 HR4 ⊢
  rw [hrk] at HR4 hs13 ⊢
  clear hw4 hrk HB3 HB2
  have hsl := HS.out.lt
  have HE4 := Lib.hid (HE.out.below HB4.out HE.out.lt)
  have HS4 := Lib.hid (HS.out.below HB4.out hsl)
  have e0 : w4.cell? ⟨ep, 0, none⟩ = some (.int .i64 0) := HE4.out.cell 0
  have e1 : w4.cell? ⟨ep, 1, none⟩ = some (.slice A 1 c) := HE4.out.cell 1
  have r2 : w4.cell? ⟨rk, 2, none⟩ = some (.int .i64 1) := HR4.out.cell 2
  have hel4 := HE4.out.lt
  have hsl4 := HS4.out.lt
  have hrl4 := HR4.out.lt
  have HN := Lib.hid (new_A (tasks_below HT.out (HB0.out.trans (HB4.out.mono HB0.out.size))) (HTB.out w4 (HB0.out.trans (HB4.out.mono HB0.out.size))))
  have hse : sb ≠ ep := by omega
  have hes : ep ≠ sb := by omega
  have hre : rk ≠ ep := by omega
  have her : ep ≠ rk := by omega
  have hrs : rk ≠ sb := by omega
  have hsr : sb ≠ rk := by omega
  go_upto_region 8 with (go_at_call 30; refine (HN.out).mono ?_; rintro e w5 ⟨kp, A', jv, ev, rfl, hK, hb⟩; have HK := Lib.hid hK; have HB5 := Lib.hid hb; have HE5 := Lib.hid (HE4.out.below hb hel4); have x3 := HE5.out.cell 3; have k3 := HE5.out.frozen 3; have hel5 := HE5.out.lt; clear hK hb HN)
  have HS5 := Lib.hid ((HS4.out.below HB5.out hsl4).far (p := ⟨ep, 3, none⟩) hse (.pointer (some ⟨kp, 0, none⟩)))
  have HR5 := Lib.hid ((HR4.out.below HB5.out hrl4).far (p := ⟨ep, 3, none⟩) hre (.pointer (some ⟨kp, 0, none⟩)))
  have HE6 := Lib.hid (HE5.out.set_ 3 (.pointer (some ⟨kp, 0, none⟩)))
  have HK6 := Lib.hid (HK.out.fr (E := w4.heap.size) (ts := [62]) (C := 0) (Fr.of_blk (only_setCell (World.grownBy.refl w5 (some ep)) (p := ⟨ep, 3, none⟩) (.inl rfl) (.pointer (some ⟨kp, 0, none⟩))) HE5.out (Nat.zero_le _) (by simp)) (by decide))
  have HG6 : Hid (w.grownBy (w5.setCell ⟨ep, 3, none⟩ (.pointer (some ⟨kp, 0, none⟩))) (some ep)) := only_setCell (only_of_below (HB0.out.trans ((HB4.out.trans (HB5.out.mono HB4.out.size)).mono HB0.out.size)) _) (p := ⟨ep, 3, none⟩) (.inl rfl) _
  obtain ⟨w6, hw6⟩ : ∃ w6, w5.setCell ⟨ep, 3, none⟩ (.pointer (some ⟨kp, 0, none⟩)) = w6 := ⟨_, rfl⟩
  rw [hw6] at HS5 HR5 HE6 HK6 HG6 ⊢
  clear hw6
  have r0 := HR5.out.cell 0
  have r1 := HR5.out.cell 1
  have r2' := HR5.out.cell 2
  have r3 := HR5.out.cell 3
  have r4 := HR5.out.cell 4
  have r5 := HR5.out.cell 5
  have r6 := HR5.out.cell 6
  have t0' := HS5.out.cell 0
  have t1 := HS5.out.cell 1
  have t2 := HS5.out.cell 2
  have t3 := HS5.out.cell 3
  have t4 := HS5.out.cell 4
  have t5 := HS5.out.cell 5
  have t6 := HS5.out.cell 6
  have u0 := HS5.out.frozen 0
  have u1 := HS5.out.frozen 1
  have u2 := HS5.out.frozen 2
  have u3 := HS5.out.frozen 3
  have u4 := HS5.out.frozen 4
  have u5 := HS5.out.frozen 5
  have u6 := HS5.out.frozen 6
  simp at r0 r1 r2' r3 r4 r5 r6 t0' t1 t2 t3 t4 t5 t6
  go_wp2
  obtain ⟨h7, g7⟩ := set7 HS5.out (.int .i64 0) (.int .i64 0) (.int .i64 1) (.int .i64 0) (.slice RA 1 rc) (.string ⟨#[]⟩) (.slice none 0 0)
  refine bodyPost_ret (results_cell1 rfl _ _ sb 37 (repC 0 0 1 0 (.slice RA 1 rc) (.slice none 0 0)) _ rfl h7 Tryz.underlying37 rfl (by kernel_rfl)) rfl ⟨RA, rc, w4.heap.size, kp, A', jv, ev, rfl, HE6.out.grown g7 (by simpa using hes), ?_, hel4, ?_, ?_⟩
  · exact HK6.out.fr (E := w4.heap.size) (ts := [37]) (C := 0) (Fr.of_blk g7 HS5.out (Nat.zero_le _) (by simp)) (by decide)
  · have := HB0.out.size
    have := HB4.out.size
    omega
  · have hws : w.heap.size ≤ sb := Nat.le_of_eq HSB.out
    exact only_setCell (only_setCell (only_setCell (only_setCell (only_setCell (only_setCell (only_setCell HG6.out (p := ⟨sb, 0, none⟩) (.inr hws) _) (p := ⟨sb, 1, none⟩) (.inr hws) _) (p := ⟨sb, 2, none⟩) (.inr hws) _) (p := ⟨sb, 3, none⟩) (.inr hws) _) (p := ⟨sb, 4, none⟩) (.inr hws) _) (p := ⟨sb, 5, none⟩) (.inr hws) _) (p := ⟨sb, 6, none⟩) (.inr hws) _
end Go.Proofs.YtdgfjpbjiccllaaGreatDoor.F
/- exec.Do of the law's own commands. (printed by gen-exe4.py) -/
namespace Go.Proofs.YtdgfjpbjiccllaaGreatDoor.F
open Go.RowKit
open Go.Proofs.YtdgfjpbjiccllaaGreatDoorW.PrintWords Go.Proofs.YtdgfjpbjiccllaaGreatDoorW.PrintLast Go.Proofs.YtdgfjpbjiccllaaGreatDoorW.PrintMore
open Go.Proofs.YtdgfjpbjiccllaaGreatDoor.PTopLoads (S46 k46 z46 k46_mk S57 k57 z57)
open Go.Proofs.YtdgfjpbjiccllaaGreatDoor.X
set_option maxRecDepth 100000
theorem grown_trans {a b c : World} {row : Option Nat} (h : a.grownBy b row) (h' : b.grownBy c row) : a.grownBy c row := ⟨h'.os.trans h.os, h'.tape.trans h.tape, h'.output.trans h.output, Nat.le_trans h.size h'.size, fun i hi hne => (h'.block i (Nat.lt_of_lt_of_le hi h.size) hne).trans (h.block i hi hne)⟩
set_option maxHeartbeats 8000000 in
theorem do_load {w : World} {ep : Nat} {r0 : Int} {t0 : Value} {b0 fb : Bool} {s : ByteArray} (hT : SetTextP s 0 [xA]) (htab : Lib.TabIs Tryz.prog w "strings.asciiSpace" .u8 Lib.asciiSpaceTab) (hE : Blk w ep 62 #[.int .i64 r0, t0, .bool b0, .pointer none]) :
    Calls Tryz.prog 10 #[.pointer (some ⟨ep, 0, none⟩), .agg #[.int .i64 1, .string s, .bool fb, .slice none 0 0]] w fun e w' => ∃ TA tc R, e = .returned (.agg (repC 0 s.size 0 0 (.slice none 0 0) (.slice none 0 0))) ∧ TasksAt w' w.heap.size (.slice TA 1 tc) [xA] R ∧ Blk w' ep 62 #[.int .i64 0, .slice TA 1 tc, .bool true, .pointer none] ∧ w.grownBy w' (some ep) := by
  have hb0 := ((Below.refl w.heap.size w).alloc (Nat.le_refl _) (.cells #[.int .i64 1, .string s, .bool fb, .slice none 0 0] 40)).alloc (by simp) (.cells #[.int .i64 0, .int .i64 0, .int .i64 0, .int .i64 0, .slice none 0 0, .string ⟨#[]⟩, .slice none 0 0] 37)
  have HB0 := Lib.hid hb0
  have hel := hE.lt
  have HE := Lib.hid ((hE.alloc (.cells #[.int .i64 1, .string s, .bool fb, .slice none 0 0] 40)).alloc (.cells #[.int .i64 0, .int .i64 0, .int .i64 0, .int .i64 0, .slice none 0 0, .string ⟨#[]⟩, .slice none 0 0] 37))
  have HP := Lib.hid (exec_load hT (Lib.tabBelow_of_tabIs htab _ hb0) (by decide) (by decide) (by decide) (by decide) (fun i x hx => by
    obtain ⟨hi, rfl⟩ := List.getElem?_eq_some_iff.1 hx
    obtain rfl : i = 0 := by simp at hi; omega
    exact okA) (fun i j x y hij hx hy => by
    have h1 := (List.getElem?_eq_some_iff.1 hx).1
    have h2 := (List.getElem?_eq_some_iff.1 hy).1
    simp at h1 h2
    omega) HE.out)
  simp only [repC] at HP
  clear hb0 hT htab hE
  have HC := Lib.hid ((Blk.new w 40 #[.int .i64 1, .string s, .bool fb, .slice none 0 0]).alloc (.cells #[.int .i64 0, .int .i64 0, .int .i64 0, .int .i64 0, .slice none 0 0, .string ⟨#[]⟩, .slice none 0 0] 37))
  have HS := Blk.new (w.alloc (.cells #[.int .i64 1, .string s, .bool fb, .slice none 0 0] 40)) 37 #[.int .i64 0, .int .i64 0, .int .i64 0, .int .i64 0, .slice none 0 0, .string ⟨#[]⟩, .slice none 0 0]
  rw [show (w.alloc (.cells #[.int .i64 1, .string s, .bool fb, .slice none 0 0] 40)).heap.size = w.heap.size + 1 from by simp] at HS
  have HS := Lib.hid HS
  obtain ⟨cb, hcb⟩ : ∃ cb, w.heap.size = cb := ⟨_, rfl⟩
  have HCB := Lib.hid hcb
  go_enter Tryz.func10, Tryz.ntmps10
  go_upto_region 1 with fail
  obtain ⟨w1, hw1⟩ : ∃ w1, (w.alloc (.cells #[.int .i64 1, .string s, .bool fb, .slice none 0 0] 40)).alloc (.cells #[.int .i64 0, .int .i64 0, .int .i64 0, .int .i64 0, .slice none 0 0, .string ⟨#[]⟩, .slice none 0 0] 37) = w1 := ⟨_, rfl⟩
  rw [HCB.out] at HS HC
  obtain ⟨sb, hsb⟩ : ∃ sb, cb + 1 = sb := ⟨_, rfl⟩
  rw [hw1] at HB0 HC HS HP HE ⊢
  rw [hsb] at HS ⊢
  have HSB := Lib.hid hsb
  clear hw1
  have c0 := HC.out.cell 0
  have c1 := HC.out.cell 1
  have c2 := HC.out.cell 2
  have c3 := HC.out.cell 3
  simp at c0 c1 c2 c3
  have hcl := HC.out.lt
  have hsl := HS.out.lt
  have hse : sb ≠ ep := by omega
  have hes : ep ≠ sb := by omega
  clear hsb hcb
  go_wp2_with (go_at_call 20; refine (HP.out).mono ?_; rintro e w2 ⟨TA, tc, R, rfl, hTs, hE2, hg⟩; have HTs := Lib.hid hTs; have HE2 := Lib.hid hE2; have HG := Lib.hid hg; have HS2 := Lib.hid (HS.out.grown hg (by simpa using hse)); have hl2 := HS2.out.lt; clear hTs hE2 hg; have t0' := HS2.out.cell 0; have t1 := HS2.out.cell 1; have t2 := HS2.out.cell 2; have t3 := HS2.out.cell 3; have t4 := HS2.out.cell 4; have t5 := HS2.out.cell 5; have t6 := HS2.out.cell 6; have u0 := HS2.out.frozen 0; have u1 := HS2.out.frozen 1; have u2 := HS2.out.frozen 2; have u3 := HS2.out.frozen 3; have u4 := HS2.out.frozen 4; have u5 := HS2.out.frozen 5; have u6 := HS2.out.frozen 6)
  obtain ⟨h7, g7⟩ := set7 HS2.out (.int .i64 0) (.int .i64 s.size) (.int .i64 0) (.int .i64 0) (.slice none 0 0) (.string ⟨#[]⟩) (.slice none 0 0)
  have hws : w.heap.size ≤ sb := by rw [HCB.out, ← HSB.out]; exact Nat.le_succ _
  refine bodyPost_ret (results_cell1 rfl _ _ sb 37 (repC 0 s.size 0 0 (.slice none 0 0) (.slice none 0 0)) _ rfl h7 Tryz.underlying37 rfl (by kernel_rfl)) rfl ⟨TA, tc, R, rfl, tasks_mono (HTs.out.fr (E := 0) (ts := [37]) (C := 0) (Fr.of_blk g7 HS2.out (Nat.zero_le _) (by simp)) (by decide) (by decide)) HB0.out.size, HE2.out.grown g7 (by simpa using hes), ?_⟩
  have HG0 := Lib.hid (grown_trans (only_of_below HB0.out (some ep)) HG.out)
  exact only_setCell (only_setCell (only_setCell (only_setCell (only_setCell (only_setCell (only_setCell HG0.out (p := ⟨sb, 0, none⟩) (.inr hws) _) (p := ⟨sb, 1, none⟩) (.inr hws) _) (p := ⟨sb, 2, none⟩) (.inr hws) _) (p := ⟨sb, 3, none⟩) (.inr hws) _) (p := ⟨sb, 4, none⟩) (.inr hws) _) (p := ⟨sb, 5, none⟩) (.inr hws) _) (p := ⟨sb, 6, none⟩) (.inr hws) _
set_option maxHeartbeats 8000000 in
theorem do_start {w : World} {ep B0 c : Nat} {A : Option Addr} {R : List Value} (hE0 : Blk w ep 62 #[.int .i64 0, .slice A 1 c, .bool true, .pointer none]) (hT : TasksAt w B0 (.slice A 1 c) [xA] R) (hc : 1 ≤ c) (htab : Lib.TabIs Tryz.prog w "strings.asciiSpace" .u8 Lib.asciiSpaceTab) :
    Calls Tryz.prog 10 #[.pointer (some ⟨ep, 0, none⟩), .agg #[.int .i64 5, .string ⟨#[]⟩, .bool false, .slice none 0 0]] w fun e w' => ∃ RA rc B kp A' jv ev, e = .returned (.agg (repC 0 0 1 0 (.slice RA 1 rc) (.slice none 0 0))) ∧ Blk w' ep 62 #[.int .i64 0, .slice A 1 c, .bool true, .pointer (some ⟨kp, 0, none⟩)] ∧ KAt B w' B kp A' jv ev (pdOf kA) kA ∧ ep < B ∧ w.heap.size ≤ B ∧ w.grownBy w' (some ep) := by
  have hb0 := ((Below.refl w.heap.size w).alloc (Nat.le_refl _) (.cells #[.int .i64 5, .string ⟨#[]⟩, .bool false, .slice none 0 0] 40)).alloc (by simp) (.cells #[.int .i64 0, .int .i64 0, .int .i64 0, .int .i64 0, .slice none 0 0, .string ⟨#[]⟩, .slice none 0 0] 37)
  have HB0 := Lib.hid hb0
  have hel := hE0.lt
  have HE := Lib.hid ((hE0.alloc (.cells #[.int .i64 5, .string ⟨#[]⟩, .bool false, .slice none 0 0] 40)).alloc (.cells #[.int .i64 0, .int .i64 0, .int .i64 0, .int .i64 0, .slice none 0 0, .string ⟨#[]⟩, .slice none 0 0] 37))
  have HP := Lib.hid (exec_start HE.out (tasks_below hT hb0) hc (Lib.tabBelow_of_tabIs htab _ hb0))
  simp only [repC] at HP
  clear hb0 hT htab hE0
  have HC := Lib.hid ((Blk.new w 40 #[.int .i64 5, .string ⟨#[]⟩, .bool false, .slice none 0 0]).alloc (.cells #[.int .i64 0, .int .i64 0, .int .i64 0, .int .i64 0, .slice none 0 0, .string ⟨#[]⟩, .slice none 0 0] 37))
  have HS := Blk.new (w.alloc (.cells #[.int .i64 5, .string ⟨#[]⟩, .bool false, .slice none 0 0] 40)) 37 #[.int .i64 0, .int .i64 0, .int .i64 0, .int .i64 0, .slice none 0 0, .string ⟨#[]⟩, .slice none 0 0]
  rw [show (w.alloc (.cells #[.int .i64 5, .string ⟨#[]⟩, .bool false, .slice none 0 0] 40)).heap.size = w.heap.size + 1 from by simp] at HS
  have HS := Lib.hid HS
  obtain ⟨cb, hcb⟩ : ∃ cb, w.heap.size = cb := ⟨_, rfl⟩
  have HCB := Lib.hid hcb
  go_enter Tryz.func10, Tryz.ntmps10
  go_upto_region 1 with fail
  obtain ⟨w1, hw1⟩ : ∃ w1, (w.alloc (.cells #[.int .i64 5, .string ⟨#[]⟩, .bool false, .slice none 0 0] 40)).alloc (.cells #[.int .i64 0, .int .i64 0, .int .i64 0, .int .i64 0, .slice none 0 0, .string ⟨#[]⟩, .slice none 0 0] 37) = w1 := ⟨_, rfl⟩
  rw [HCB.out] at HS HC
  obtain ⟨sb, hsb⟩ : ∃ sb, cb + 1 = sb := ⟨_, rfl⟩
  rw [hw1] at HB0 HC HS HP HE ⊢
  rw [hsb] at HS ⊢
  have HSB := Lib.hid hsb
  clear hw1
  have c0 := HC.out.cell 0
  have c1 := HC.out.cell 1
  have c2 := HC.out.cell 2
  have c3 := HC.out.cell 3
  simp at c0 c1 c2 c3
  have hcl := HC.out.lt
  have hsl := HS.out.lt
  have hse : sb ≠ ep := by omega
  have hes : ep ≠ sb := by omega
  clear hsb hcb
  go_wp2_with (go_at_call 25; refine (HP.out).mono ?_; rintro e w2 ⟨RA, rc, B, kp, A', jv, ev, rfl, hE2, hK, heB, hwB, hg⟩; have HE2 := Lib.hid hE2; have HK := Lib.hid hK; have HWB := Lib.hid hwB; have HG := Lib.hid hg; have HS2 := Lib.hid (HS.out.grown hg (by simpa using hse)); have hl2 := HS2.out.lt; clear hE2 hg hK hwB; have t0' := HS2.out.cell 0; have t1 := HS2.out.cell 1; have t2 := HS2.out.cell 2; have t3 := HS2.out.cell 3; have t4 := HS2.out.cell 4; have t5 := HS2.out.cell 5; have t6 := HS2.out.cell 6; have u0 := HS2.out.frozen 0; have u1 := HS2.out.frozen 1; have u2 := HS2.out.frozen 2; have u3 := HS2.out.frozen 3; have u4 := HS2.out.frozen 4; have u5 := HS2.out.frozen 5; have u6 := HS2.out.frozen 6)
  obtain ⟨h7, g7⟩ := set7 HS2.out (.int .i64 0) (.int .i64 0) (.int .i64 1) (.int .i64 0) (.slice RA 1 rc) (.string ⟨#[]⟩) (.slice none 0 0)
  have hws : w.heap.size ≤ sb := by rw [HCB.out, ← HSB.out]; exact Nat.le_succ _
  refine bodyPost_ret (results_cell1 rfl _ _ sb 37 (repC 0 0 1 0 (.slice RA 1 rc) (.slice none 0 0)) _ rfl h7 Tryz.underlying37 rfl (by kernel_rfl)) rfl ⟨RA, rc, B, kp, A', jv, ev, rfl, HE2.out.grown g7 (by simpa using hes), HK.out.fr (E := B) (ts := [37]) (C := 0) (Fr.of_blk g7 HS2.out (Nat.zero_le _) (by simp)) (by decide), heB, Nat.le_trans HB0.out.size HWB.out, ?_⟩
  have HG0 := Lib.hid (grown_trans (only_of_below HB0.out (some ep)) HG.out)
  exact only_setCell (only_setCell (only_setCell (only_setCell (only_setCell (only_setCell (only_setCell HG0.out (p := ⟨sb, 0, none⟩) (.inr hws) _) (p := ⟨sb, 1, none⟩) (.inr hws) _) (p := ⟨sb, 2, none⟩) (.inr hws) _) (p := ⟨sb, 3, none⟩) (.inr hws) _) (p := ⟨sb, 4, none⟩) (.inr hws) _) (p := ⟨sb, 5, none⟩) (.inr hws) _) (p := ⟨sb, 6, none⟩) (.inr hws) _
set_option maxHeartbeats 8000000 in
theorem do_ticks {w : World} {ep B kp E0 : Nat} {A : Ad} {jv : List Value} {ev rv tv : Value} {IA : Option Addr} {ic : Nat} {l : List S57} {K0 : Kst} {stepF : Kst → S57 → Kst} {Inv : Nat → Kst → Prop} (hl : l.length ≤ 400) (hE0 : Blk w ep 62 #[rv, tv, .bool true, .pointer (some ⟨kp, 0, none⟩)]) (hep : ep < B) (hBw : B ≤ w.heap.size) (hK : KAt E0 w B kp A jv ev (pdOf K0) K0) (hI : ∀ w1, Below w.heap.size w w1 → InsP (fun w2 => Fr w1.heap.size TS B w1 w2) IA l) (h0 : Inv 0 K0) (hst : ∀ w1, Below w.heap.size w w1 → Steps w1 B l stepF Inv) :
    Calls Tryz.prog 10 #[.pointer (some ⟨ep, 0, none⟩), .agg #[.int .i64 6, .string ⟨#[]⟩, .bool false, .slice IA l.length ic]] w fun e w' => ∃ v, e = .returned (.agg (rep0 v)) ∧ w'.ownsRow w.heap.size 50 4 v (runE stepF K0 l).length (evs (runE stepF K0 l)) ∧ Below B w w' := by
  have hb0 := ((Below.refl w.heap.size w).alloc (Nat.le_refl _) (.cells #[.int .i64 6, .string ⟨#[]⟩, .bool false, .slice IA l.length ic] 40)).alloc (by simp) (.cells #[.int .i64 0, .int .i64 0, .int .i64 0, .int .i64 0, .slice none 0 0, .string ⟨#[]⟩, .slice none 0 0] 37)
  have HB0 := Lib.hid hb0
  have hel := hE0.lt
  have HE := Lib.hid ((hE0.alloc (.cells #[.int .i64 6, .string ⟨#[]⟩, .bool false, .slice IA l.length ic] 40)).alloc (.cells #[.int .i64 0, .int .i64 0, .int .i64 0, .int .i64 0, .slice none 0 0, .string ⟨#[]⟩, .slice none 0 0] 37))
  have HP := Lib.hid (ticks_any (ic := ic) hl HE.out hep (Nat.le_trans hBw hb0.size) (hK.fr (E := E0) (ts := []) (C := 0) (Fr.of_below hb0) (by simp)) (hI _ hb0) h0 (hst _ hb0))
  simp only [rep0] at HP
  obtain ⟨ln, hln⟩ : ∃ ln, l.length = ln := ⟨_, rfl⟩
  have HLN := Lib.hid hln
  rw [hln] at HP HB0 HE ⊢
  clear hb0 hI h0 hst hK hE0 hl hln
  have HC := Lib.hid ((Blk.new w 40 #[.int .i64 6, .string ⟨#[]⟩, .bool false, .slice IA ln ic]).alloc (.cells #[.int .i64 0, .int .i64 0, .int .i64 0, .int .i64 0, .slice none 0 0, .string ⟨#[]⟩, .slice none 0 0] 37))
  have HS := Blk.new (w.alloc (.cells #[.int .i64 6, .string ⟨#[]⟩, .bool false, .slice IA ln ic] 40)) 37 #[.int .i64 0, .int .i64 0, .int .i64 0, .int .i64 0, .slice none 0 0, .string ⟨#[]⟩, .slice none 0 0]
  rw [show (w.alloc (.cells #[.int .i64 6, .string ⟨#[]⟩, .bool false, .slice IA ln ic] 40)).heap.size = w.heap.size + 1 from by simp] at HS
  have HS := Lib.hid HS
  obtain ⟨cb, hcb⟩ : ∃ cb, w.heap.size = cb := ⟨_, rfl⟩
  have HCB := Lib.hid hcb
  go_enter Tryz.func10, Tryz.ntmps10
  go_upto_region 1 with fail
  obtain ⟨w1, hw1⟩ : ∃ w1, (w.alloc (.cells #[.int .i64 6, .string ⟨#[]⟩, .bool false, .slice IA ln ic] 40)).alloc (.cells #[.int .i64 0, .int .i64 0, .int .i64 0, .int .i64 0, .slice none 0 0, .string ⟨#[]⟩, .slice none 0 0] 37) = w1 := ⟨_, rfl⟩
  rw [HCB.out] at HS HC
  obtain ⟨sb, hsb⟩ : ∃ sb, cb + 1 = sb := ⟨_, rfl⟩
  rw [hw1] at HB0 HC HS HP HE ⊢
  rw [hsb] at HS ⊢
  have HSB := Lib.hid hsb
  clear hw1
  have c0 := HC.out.cell 0
  have c1 := HC.out.cell 1
  have c2 := HC.out.cell 2
  have c3 := HC.out.cell 3
  simp at c0 c1 c2 c3
  have hcl := HC.out.lt
  have hsl := HS.out.lt
  have hse : sb ≠ ep := by omega
  have hes : ep ≠ sb := by omega
  clear hsb hcb
  go_wp2_with (go_at_call 26; refine (HP.out).mono ?_; rintro e w2 ⟨v, rfl, hown, hf, _⟩; obtain ⟨VA, vc, rfl⟩ := own_slice hown; have HO := Lib.hid hown; have HF := Lib.hid hf; have HS2 := Lib.hid (HS.out.fr hf (by decide)); have hl2 := HS2.out.lt; clear hown hf; have t0' := HS2.out.cell 0; have t1 := HS2.out.cell 1; have t2 := HS2.out.cell 2; have t3 := HS2.out.cell 3; have t4 := HS2.out.cell 4; have t5 := HS2.out.cell 5; have t6 := HS2.out.cell 6; have u0 := HS2.out.frozen 0; have u1 := HS2.out.frozen 1; have u2 := HS2.out.frozen 2; have u3 := HS2.out.frozen 3; have u4 := HS2.out.frozen 4; have u5 := HS2.out.frozen 5; have u6 := HS2.out.frozen 6)
  obtain ⟨h7, g7⟩ := set7 HS2.out (.int .i64 0) (.int .i64 0) (.int .i64 0) (.int .i64 0) (.slice none 0 0) (.string ⟨#[]⟩) (.slice VA (runE stepF K0 l).length vc)
  have hws : w.heap.size ≤ sb := by rw [HCB.out, ← HSB.out]; exact Nat.le_succ _
  refine bodyPost_ret (results_cell1 rfl _ _ sb 37 (rep0 (.slice VA (runE stepF K0 l).length vc)) _ rfl h7 Tryz.underlying37 rfl (by kernel_rfl)) rfl ⟨_, rfl, own_mono (own_fr (E := 0) (ts := [37]) (B := 0) HO.out (Fr.of_blk g7 HS2.out (Nat.zero_le _) (by simp)) (by decide)) HB0.out.size, ?_⟩
  exact ((HB0.out.mono hBw).trans (HF.out.below (Nat.le_refl _) (Nat.le_trans hBw HB0.out.size))).grown g7 (Nat.le_trans (Nat.le_trans hBw HB0.out.size) HF.out.size) (fun k hk => by injection hk with hk; omega)
end Go.Proofs.YtdgfjpbjiccllaaGreatDoor.F
/- One task alone: what a kernel does (plain). -/
namespace Go.Proofs.YtdgfjpbjiccllaaGreatDoor
open Go.RowKit
open Go.Proofs.YtdgfjpbjiccllaaGreatDoorW.PrintWords Go.Proofs.YtdgfjpbjiccllaaGreatDoorW.PrintLast Go.Proofs.YtdgfjpbjiccllaaGreatDoorW.PrintMore
open Go.Proofs.YtdgfjpbjiccllaaGreatDoor.PTopLoads
set_option maxRecDepth 100000
/-- Whose turn it is where there is one task. -/
theorem choose_one (rel : Int) (x : S46) (st : S142) (last tick : Int) (hl : last = -1 ∨ last = 0) : rule_Choose.f 6 rel [x] [st] last tick = some (if st.f0 then 0 else -1) := by
  rcases st with ⟨p, s, m, a⟩
  rcases hl with rfl | rfl
  · cases p <;> simp [rule_Choose.f, rule_Held.f, rule_Held.j0, rule_is.f, rule_Choose.l0, rd_T142, wrap64]
  · cases p <;> cases s <;> simp [rule_Choose.f, rule_Held.f, rule_Held.j0, rule_is.f, rule_Choose.l0, rule_waits.f, rule_waits.l0, rd_T142, wrap64]
    split <;> rfl
/-- A job under way: so many ticks went by since it was admitted. -/
structure JI (x : S46) (j : J.Jb) (el : Int) : Prop where
  rs : j.rs = x.f6
  how : j.how = 0
  k : j.k < x.f6.length
  h0 : 0 ≤ j.had
  h1 : j.had < x.f6.getD j.k 0
  al : j.all = el
  e0 : 0 ≤ el
  e1 : el ≤ (x.f6.take j.k).sum + j.had
/-- What is asked of the task. -/
structure TaskB (x : S46) : Prop where
  n1 : 1 ≤ x.f6.length
  n8 : x.f6.length ≤ 8
  r : ∀ i (h : i < x.f6.length), 1 ≤ x.f6[i] ∧ x.f6[i] ≤ 10000
  wd : x.f6.sum ≤ x.f2
  d : x.f2 ≤ 10000
  s7 : 0 ≤ x.f7 ∧ x.f7 < 18446744073709551616
  s8 : 0 ≤ x.f8 ∧ x.f8 < 18446744073709551616
theorem take_at {x : S46} {k : Nat} (h : k < x.f6.length) : (x.f6.take (k + 1)).sum = (x.f6.take k).sum + x.f6.getD k 0 := by
  rw [List.take_succ_eq_append_getElem h, List.sum_append]
  simp [List.getD_eq_getElem?_getD, h]
theorem take_le {x : S46} (hx : TaskB x) (k d : Nat) : (x.f6.take k).sum ≤ (x.f6.take (k + d)).sum := by
  induction d with
  | zero => exact Int.le_refl _
  | succ d ih =>
    by_cases h : k + d < x.f6.length
    · have e := take_at (x := x) (k := k + d) h
      have := (hx.r (k + d) h).1
      have g : x.f6.getD (k + d) 0 = x.f6[k + d] := by simp [List.getD_eq_getElem?_getD, h]
      rw [show k + (d + 1) = k + d + 1 from rfl, e, g]
      omega
    · have e : x.f6.take (k + (d + 1)) = x.f6.take (k + d) := by rw [List.take_of_length_le (by omega), List.take_of_length_le (by omega)]
      rw [e]
      exact ih
theorem take_all {x : S46} (hx : TaskB x) (k : Nat) (h : k ≤ x.f6.length) : (x.f6.take k).sum ≤ x.f6.sum := by
  have := take_le hx k (x.f6.length - k)
  rwa [show k + (x.f6.length - k) = x.f6.length from by omega, List.take_length] at this
/-- A job under way is within its work. -/
theorem JI.lt {x : S46} {j : J.Jb} {el : Int} (hx : TaskB x) (h : JI x j el) : el < x.f6.sum := by
  have e := take_at h.k
  have := take_all hx (j.k + 1) h.k
  have := h.h1
  have := h.e1
  omega
theorem tick_JI {x : S46} {j : J.Jb} {el : Int} (hx : TaskB x) (h : JI x j el) :
    (((J.tick j).2.2 = 0 ∨ (J.tick j).2.2 = 1) ∧ JI x (J.tick j).1 (el + 1)) ∨ (((J.tick j).2.2 = 2 ∨ (J.tick j).2.2 = 3) ∧ el + 1 ≤ x.f6.sum) := by
  have hlt := h.lt hx
  have hk := h.k
  have hs := take_at h.k
  have h0 := h.h0
  have h1 := h.h1
  have e1 := h.e1
  have e0 := h.e0
  unfold J.tick
  rw [if_neg (by rw [h.how]; simp)]
  split
  · split
    · exact .inr ⟨.inl rfl, by omega⟩
    · rename_i hn
      have hn' : j.k + 1 < x.f6.length := by rw [h.rs] at hn; omega
      have hg : x.f6.getD (j.k + 1) 0 = x.f6[j.k + 1] := by simp [List.getD_eq_getElem?_getD, hn']
      have := (hx.r _ hn').1
      exact .inl ⟨.inr rfl, h.rs, rfl, hn', Int.le_refl _, by rw [hg]; simp only; omega, by simp only; rw [h.al], by omega, by simp only; rw [hs]; omega⟩
  · split
    · exact .inr ⟨.inr rfl, by omega⟩
    · rename_i hn
      rw [h.rs] at hn
      exact .inl ⟨.inl rfl, h.rs, rfl, hk, by simp only; omega, by simp only; omega, by simp only; rw [h.al], by omega, by simp only; omega⟩
theorem jb0_JI {x : S46} (hx : TaskB x) (dm : List Int) : JI x (J.jb0 x.f6 dm) 0 := by
  have h1 : 0 < x.f6.length := hx.n1
  have hg : x.f6.getD 0 0 = x.f6[0] := by simp [List.getD_eq_getElem?_getD, h1]
  exact ⟨rfl, rfl, h1, Int.le_refl _, by simp only [J.jb0]; rw [hg]; have := (hx.r 0 h1).1; omega, rfl, Int.le_refl _, by simp [J.jb0]⟩
theorem JI.ok {x : S46} {j : J.Jb} {el : Int} (hx : TaskB x) (h : JI x j el) : JobOk j := by
  have hlt := h.lt hx
  have := hx.wd
  have := hx.d
  have hg : x.f6.getD j.k 0 = x.f6[j.k]'h.k := by simp [List.getD_eq_getElem?_getD, h.k]
  have := (hx.r _ h.k).2
  have := h.h1
  exact ⟨fun _ => by rw [h.rs]; exact h.k, by rw [h.rs]; exact hx.n8, h.h0, by rw [hg] at this; omega, by rw [h.al]; exact h.e0, by rw [h.al]; omega⟩
/-- An event that the law allows. -/
def EvG (W : Int) (e : Ev) : Prop := e.kind ≠ 3 ∧ e.kind ≠ 5 ∧ (e.kind = 8 ∨ e.kind = 9 → e.n ≤ W)
theorem evg1 {W : Int} {a : Ev} (h : EvG W a) : ∀ e ∈ [a], EvG W e := by simpa using h
/-- A kernel of one task. -/
structure One (x : S46) (st : T.St) (K : Kst) : Prop where
  tk : K.tk = [x]
  t0 : 0 ≤ K.tick
  last : K.last = -1 ∨ K.last = 0
  pol : K.pol.length = 1 ∧ P.OkL K.pol
  loads : K.loads = [0]
  jl : K.job.length = 1
  tab : K.tab = [st]
  a0 : 0 ≤ st.a
  a1 : st.a ≤ K.tick
  pd : st.p = true → (st.s = true → K.last = 0) ∧ JI x (K.job1 0) (K.tick - st.a)
  ev : ∀ e ∈ K.ev, EvG x.f6.sum e
section
variable {x : S46} {st : T.St} {K : Kst}
theorem One.plus (h : One x st K) (l : List Ev) (hl : ∀ e ∈ l, EvG x.f6.sum e) : One x st (K.plus l) :=
  ⟨h.tk, h.t0, h.last, h.pol, h.loads, h.jl, h.tab, h.a0, h.a1, h.pd, fun e he => by
    rcases List.mem_append.1 he with he | he
    · exact h.ev e he
    · exact hl e he⟩
theorem One.kok (h : One x st K) (hx : TaskB x) (h1 : K.tick ≤ 1099511627776) : KOk K := by
  have htk := h.tk
  have htab := h.tab
  refine ⟨h.t0, h1, fun y hy => ?_, fun y hy => ?_, fun y hy => ?_, h.pol.2, fun y hy => ?_⟩
  · rw [htk] at hy
    obtain rfl : y = x := by simpa using hy
    refine ⟨hx.n1, hx.n8, ?_⟩
    rw [List.any_eq_false]
    intro z hz
    obtain ⟨i, hi, rfl⟩ := List.getElem_of_mem hz
    have := hx.r i hi
    simp [J.odd]
    omega
  · rw [htk] at hy
    obtain rfl : y = x := by simpa using hy
    have := take_all hx 0 (Nat.zero_le _)
    have := hx.wd
    have := hx.d
    simp at *
    omega
  · rw [htab] at hy
    obtain rfl : y = st := by simpa using hy
    exact ⟨h.a0, h.a1⟩
  · rw [htk] at hy
    obtain rfl : y = x := by simpa using hy
    exact ⟨hx.s7.1, hx.s7.2, hx.s8.1, hx.s8.2⟩
theorem note_len (L : List P.Wt) (i t : Int) : (P.noteL L i t).length = L.length := by
  unfold P.noteL
  split
  · simp [P.noteAt]
  · rfl
theorem one_arrive (hx : TaskB x) (h : One x st K) (h1 : K.tick ≤ 1099511627776) (D : List (List Int)) (i : Nat) : ∃ st', One x st' (arriveK D K i) := by
  have hok := ((h.kok hx h1).arrive D i).pol
  revert hok
  unfold arriveK
  split
  · exact fun _ => ⟨st, h⟩
  · rename_i hi
    rw [h.tk] at hi
    obtain rfl : i = 0 := by simp at hi; omega
    split
    · exact fun _ => ⟨st, h.plus _ (evg1 (by simp [EvG]))⟩
    · split
      · rename_i _ hp
        intro hok
        have hj0 : 0 < K.job.length := by rw [h.jl]; exact Nat.zero_lt_one
        have e1 : T.putL K.tab (0 : Nat) K.tick = [⟨true, false, false, K.tick⟩] := by
          unfold T.putL
          rw [if_pos hp, h.tab]
          rfl
        refine ⟨⟨true, false, false, K.tick⟩, h.tk, h.t0, h.last, ⟨(note_len _ _ _).trans h.pol.1, hok⟩, ?_, ?_, e1, h.t0, Int.le_refl _, fun _ => ⟨fun h => by simp at h, ?_⟩, ?_⟩
        · simp [admitK, h.loads]
        · simp [admitK, h.jl]
        · have e2 : (admitK K (D.getD 0 []) 0).job1 0 = J.jb0 x.f6 (D.getD 0 []) := by
            simp [admitK, Kst.job1, List.getD_eq_getElem?_getD, hj0, h.tk]
          rw [e2, show (admitK K (D.getD 0 []) 0).tick - K.tick = 0 from by simp [admitK]]
          exact jb0_JI hx _
        · intro e he
          rcases List.mem_append.1 he with he | he
          · exact h.ev e he
          · exact evg1 (by simp [EvG]) e he
      · exact fun _ => ⟨st, h.plus _ (evg1 (by simp [EvG]))⟩
theorem one_fold (hx : TaskB x) (D : List (List Int)) : ∀ (l : List Nat) {K : Kst} {st : T.St}, One x st K → K.tick ≤ 1099511627776 → ∃ st', One x st' (l.foldl (arriveK D) K)
  | [], _, st, h, _ => ⟨st, h⟩
  | i :: l, K, st, h, h1 => by
    obtain ⟨st', h'⟩ := one_arrive hx h h1 D i
    exact one_fold hx D l h' (by rw [(arriveK_tk D K i).2.1]; exact h1)
theorem one_late (hx : TaskB x) (h : One x st K) : lateL K K.tk.length = [] := by
  rw [h.tk]
  show lateL K 1 = []
  rw [lateL_succ]
  have e0 : lateL K 0 = [] := rfl
  rw [e0, List.nil_append]
  unfold lateAt
  rw [h.tab, h.tk]
  have e1 : T.getL [st] ((0 : Nat) : Int) = st := rfl
  rw [e1]
  split
  · rename_i hc
    simp at hc
    have := (h.pd hc.1).2.lt hx
    have := hx.wd
    omega
  · rfl
theorem one_came (hx : TaskB x) (h : One x st K) (h1 : K.tick ≤ 1099511627776) (D : List (List Int)) (arr : Nat) : ∃ st', One x st' (cameK K D arr) := by
  have h0 : One x st { K with ev := [] } := ⟨h.tk, h.t0, h.last, h.pol, h.loads, h.jl, h.tab, h.a0, h.a1, h.pd, fun e he => by simp at he⟩
  have hl := one_late hx h0
  unfold cameK
  rw [hl, Kst.plus_nil]
  exact one_fold hx D _ h0 h1
/-- Whose turn it is. -/
def whoOne (K2 : Kst) : Int := if pdOf K2 0 then 0 else -1
theorem one_choose (h : One x st K) : rule_Choose.f 6 K.reload K.tk (K.tab.map s142) K.last K.tick = some (whoOne K) := by
  rw [h.tk, h.tab]
  show rule_Choose.f 6 K.reload [x] [s142 st] K.last K.tick = _
  rw [choose_one _ _ _ _ _ h.last]
  unfold whoOne pdOf
  rw [h.tab]
  rfl
theorem one_fit (hx : TaskB x) (h : One x st K) : whoOne K = -1 ∨ ∃ i : Nat, whoOne K = i ∧ Fit K i := by
  unfold whoOne
  have e : pdOf K 0 = st.p := by unfold pdOf; rw [h.tab]; rfl
  cases hp : pdOf K 0 with
  | false => exact .inl rfl
  | true =>
    refine .inr ⟨0, rfl, ?_⟩
    rw [e] at hp
    have hpd := h.pd hp
    have hst : T.stateL K.tab ((0 : Nat) : Int) = st := by
      rw [h.tab]
      unfold T.stateL
      rw [show T.hasL [st] ((0 : Nat) : Int) = st.p from by simp [T.hasL], hp]
      rfl
    refine ⟨by rw [h.tk]; exact Nat.zero_lt_one, by rw [e, hp], ?_, ?_, hpd.2.ok hx, by rw [h.loads]; simp, by rw [h.loads]; simp⟩
    · rcases h.last with hl | hl
      · right
        rw [hl]
        unfold T.stateL
        rw [T.hasL_neg (by omega)]
        rfl
      · exact .inl hl
    · rw [hst]
      cases hs : st.s with
      | false => exact .inl rfl
      | true => exact .inr (hpd.1 hs)
theorem drop_one {st : T.St} (hp : st.p = true) : T.dropL [st] ((0 : Nat) : Int) = [⟨false, false, false, 0⟩] := by
  unfold T.dropL
  rw [show T.hasL [st] ((0 : Nat) : Int) = st.p from by simp [T.hasL], hp]
  rfl
theorem mid_one {st : T.St} (hp : st.p = true) (b : Bool) : T.midL [st] ((0 : Nat) : Int) b = [⟨true, st.s, b, st.a⟩] := by
  unfold T.midL
  rw [show T.hasL [st] ((0 : Nat) : Int) = st.p from by simp [T.hasL], if_pos hp]
  rw [show T.getL [st] ((0 : Nat) : Int) = st from rfl, hp]
  rfl
theorem begin_one {st : T.St} (hp : st.p = true) : T.beginL [st] ((0 : Nat) : Int) = [⟨true, true, st.m, st.a⟩] := by
  unfold T.beginL
  rw [show T.hasL [st] ((0 : Nat) : Int) = st.p from by simp [T.hasL], if_pos hp]
  rw [show T.getL [st] ((0 : Nat) : Int) = st from rfl, hp]
  rfl
theorem state_one {st : T.St} (hp : st.p = true) : T.stateL [st] ((0 : Nat) : Int) = st := by
  unfold T.stateL
  rw [show T.hasL [st] ((0 : Nat) : Int) = st.p from by simp [T.hasL], if_pos hp]
  rfl
theorem ev_app {W : Int} {L M : List Ev} (h : ∀ e ∈ L, EvG W e) (h' : ∀ e ∈ M, EvG W e) : ∀ e ∈ L ++ M, EvG W e := by
  intro e he
  rcases List.mem_append.1 he with he | he
  · exact h e he
  · exact h' e he
theorem end_how {W : Int} {K3 : Kst} {how r : Int} (h : ∀ e ∈ K3.ev, EvG W e) : ∀ e ∈ (if how = 1 ∨ how = 2 then K3.plus [⟨K3.tick, 7, ((0 : Nat) : Int), r⟩] else K3).ev, EvG W e := by
  split
  · exact ev_app h (evg1 (by simp [EvG]))
  · exact h
theorem one_runs (hx : TaskB x) (htk : K.tk = [x]) (t0 : 0 ≤ K.tick) (hpol : K.pol.length = 1 ∧ P.OkL K.pol) (hloads : K.loads = [0]) (hjl : K.job.length = 1) (htab : K.tab = [st]) (hp : st.p = true) (hs : st.s = true) (a0 : 0 ≤ st.a) (a1 : st.a ≤ K.tick)
    (hj : JI x (K.job1 0) (K.tick - st.a)) (hev : ∀ e ∈ K.ev, EvG x.f6.sum e) (touch : Nat) : ∃ st', One x st' (nextK (runsK K 0 touch) 0) ∧ (st'.p = true → st'.s = true) := by
  have hj0 : 0 < K.job.length := by omega
  unfold runsK
  simp only
  rw [if_neg (by rw [hloads]; simp), htab, mid_one hp]
  generalize htt : (J.tick (K.job1 0)) = tt
  have hti := tick_JI hx hj
  rw [htt] at hti
  obtain ⟨j, r, how⟩ := tt
  simp only at hti ⊢
  unfold endK
  simp only
  rcases hti with ⟨hh, hji⟩ | ⟨hh, hle⟩
  · rw [if_neg (by omega : ¬ how = 2), if_neg (by omega : ¬ how = 3)]
    refine ⟨⟨true, st.s, decide (0 < j.had), st.a⟩, ?_, fun _ => hs⟩
    have e : ∀ K3 : Kst, (if how = 1 ∨ how = 2 then K3.plus [⟨K3.tick, 7, ((0 : Nat) : Int), r⟩] else K3) = { K3 with ev := (if how = 1 ∨ how = 2 then K3.plus [⟨K3.tick, 7, ((0 : Nat) : Int), r⟩] else K3).ev } := by
      intro K3
      split <;> rfl
    rw [e]
    refine ⟨htk, by simp only [nextK]; omega, .inr rfl, hpol, hloads, by simp [nextK, hjl], rfl, a0, by simp only [nextK]; omega, fun _ => ⟨fun _ => rfl, ?_⟩, ?_⟩
    · have e1 : K.tick + 1 - st.a = K.tick - st.a + 1 := by omega
      simp only [nextK, Kst.job1, e1]
      rw [show (K.job.set 0 j).getD 0 ⟨[], [], 0, 0, 0, 0⟩ = j from by simp [List.getD_eq_getElem?_getD, hj0]]
      exact hji
    · exact end_how hev
  · refine ⟨⟨false, false, false, 0⟩, ?_, fun h => by simp at h⟩
    have ht : K.tick + 1 - (T.stateL [(⟨true, st.s, decide (0 < j.had), st.a⟩ : T.St)] ((0 : Nat) : Int)).a ≤ x.f6.sum := by
      rw [state_one rfl]
      simp only
      omega
    have hE : ∀ (kd : Int), kd ≠ 3 → kd ≠ 5 → ∀ K3 : Kst, (∀ e ∈ K3.ev, EvG x.f6.sum e) → ∀ e ∈ (K3.plus [⟨K.tick, kd, ((0 : Nat) : Int), K.tick + 1 - (T.stateL [(⟨true, st.s, decide (0 < j.had), st.a⟩ : T.St)] ((0 : Nat) : Int)).a⟩]).ev, EvG x.f6.sum e := by
      intro kd h3 h5 K3 h
      exact ev_app h (evg1 ⟨h3, h5, fun _ => ht⟩)
    rcases hh with rfl | rfl
    · rw [if_pos (show (2 : Int) = 1 ∨ (2 : Int) = 2 from .inr rfl), if_pos (rfl : (2 : Int) = 2)]
      exact ⟨htk, by simp only [nextK, Kst.plus]; omega, .inr rfl, hpol, hloads, by simp [nextK, Kst.plus, hjl], drop_one (st := ⟨true, st.s, decide (0 < j.had), st.a⟩) rfl, Int.le_refl _, by simp only [nextK, Kst.plus]; omega, fun h => by simp at h, hE 8 (by decide) (by decide) _ (ev_app hev (evg1 (by simp [EvG])))⟩
    · rw [if_neg (show ¬ ((3 : Int) = 1 ∨ (3 : Int) = 2) by decide), if_neg (show ¬ (3 : Int) = 2 by decide), if_pos (rfl : (3 : Int) = 3)]
      exact ⟨htk, by simp only [nextK, Kst.plus]; omega, .inr rfl, hpol, hloads, by simp [nextK, Kst.plus, hjl], drop_one (st := ⟨true, st.s, decide (0 < j.had), st.a⟩) rfl, Int.le_refl _, by simp only [nextK, Kst.plus]; omega, fun h => by simp at h, hE 9 (by decide) (by decide) _ hev⟩
theorem one_ran (hx : TaskB x) (h : One x st K) (touch : Nat) : ∃ st', One x st' (nextK (ranK K (whoOne K) touch) (whoOne K)) ∧ (st'.p = true → st'.s = true) := by
  have e : pdOf K 0 = st.p := by unfold pdOf; rw [h.tab]; rfl
  unfold whoOne
  cases hp : pdOf K 0 with
  | false =>
    rw [e] at hp
    rw [if_neg (by simp)]
    unfold ranK
    rw [if_pos rfl]
    have ht := h.t0
    have ha := h.a1
    have h2 := h.plus [⟨K.tick, 10, -1, 0⟩] (evg1 (by simp [EvG]))
    refine ⟨st, ⟨h2.tk, by simp only [nextK, Kst.plus]; omega, .inl rfl, h2.pol, h2.loads, h2.jl, h2.tab, h2.a0, by simp only [nextK, Kst.plus]; omega, fun h => by rw [hp] at h; simp at h, h2.ev⟩, fun h => by rw [hp] at h; simp at h⟩
  | true =>
    rw [e] at hp
    rw [if_pos rfl]
    unfold ranK
    rw [if_neg (by decide)]
    have hpd := h.pd hp
    show ∃ st', One x st' (nextK (runsK (turnsA K 0) 0 touch) 0) ∧ _
    cases hs : st.s with
    | true =>
      have e2 : turnsA K 0 = K := by
        unfold turnsA
        rw [h.tab, state_one hp, hs]
        rfl
      rw [e2]
      exact one_runs hx h.tk h.t0 h.pol h.loads h.jl h.tab hp hs h.a0 h.a1 hpd.2 h.ev touch
    | false =>
      have e2 : turnsA K 0 = { K.plus [⟨K.tick, 4, ((0 : Nat) : Int), 0⟩] with tab := [⟨true, true, st.m, st.a⟩] } := by
        unfold turnsA
        rw [h.tab, state_one hp, hs, begin_one hp]
        rfl
      rw [e2]
      exact one_runs (K := { K.plus [⟨K.tick, 4, ((0 : Nat) : Int), 0⟩] with tab := [⟨true, true, st.m, st.a⟩] }) (st := ⟨true, true, st.m, st.a⟩) hx h.tk h.t0 h.pol h.loads h.jl rfl rfl rfl h.a0 h.a1 hpd.2 (ev_app h.ev (evg1 (by simp [EvG]))) touch
end
end Go.Proofs.YtdgfjpbjiccllaaGreatDoor
/- One task alone: it runs through inputs. -/
namespace Go.Proofs.YtdgfjpbjiccllaaGreatDoor
open Go.RowKit
open Go.Proofs.YtdgfjpbjiccllaaGreatDoorW.PrintWords Go.Proofs.YtdgfjpbjiccllaaGreatDoorW.PrintLast Go.Proofs.YtdgfjpbjiccllaaGreatDoorW.PrintMore
open Go.Proofs.YtdgfjpbjiccllaaGreatDoor.PTopLoads
set_option maxRecDepth 100000
/-- A tick of a kernel of one task. -/
def oneF (K : Kst) (i : S57) : Kst := nextK (ranK (cameK K i.f1 i.f0.toNat) (whoOne (cameK K i.f1 i.f0.toNat)) i.f2.toNat) (whoOne (cameK K i.f1 i.f0.toNat))
/-- An input that is taken. -/
structure InB (i : S57) : Prop where
  a : 0 ≤ i.f0 ∧ i.f0 < 18446744073709551616
  t : 0 ≤ i.f2 ∧ i.f2 < 18446744073709551616
  d : i.f1.length ≤ 20
structure InvO (x : S46) (i : Nat) (K : Kst) : Prop where
  one : ∃ st, One x st K ∧ (st.p = true → st.s = true)
  tick : K.tick = i
theorem run_len (K : Kst) (i touch : Nat) : (runsK K i touch).ev.length ≤ K.ev.length + 2 := by
  unfold runsK
  simp only
  split
  · simp only; omega
  · unfold endK
    simp only
    split <;> split <;> (try split) <;> simp only [Kst.plus, List.length_append, List.length_cons, List.length_nil] <;> omega
theorem one_next {x : S46} (hx : TaskB x) {i : Nat} {K : Kst} (h : InvO x i K) (hi : i ≤ 1000) (u : S57) : InvO x (i + 1) (oneF K u) ∧ (oneF K u).ev.length ≤ 1000 := by
  obtain ⟨st, h1, h2⟩ := h.one
  have ht := h.tick
  obtain ⟨st2, hc⟩ := one_came hx h1 (by omega) u.f1 u.f0.toNat
  obtain ⟨st3, h3, h4⟩ := one_ran hx hc u.f2.toNat
  have htk : (cameK K u.f1 u.f0.toNat).tick = K.tick := (fold_tk u.f1 _ _).2.1
  have hl : (cameK K u.f1 u.f0.toNat).ev.length ≤ 65 := by
    have h0 : One x st { K with ev := [] } := ⟨h1.tk, h1.t0, h1.last, h1.pol, h1.loads, h1.jl, h1.tab, h1.a0, h1.a1, h1.pd, fun e he => by simp at he⟩
    have := fold_len u.f1 (bitsL u.f0.toNat) (({ K with ev := [] } : Kst).plus (lateL { K with ev := [] } K.tk.length))
    have h64 : (bitsL u.f0.toNat).length ≤ 64 := bitsF_len 64 _
    have e := one_late hx h0
    unfold cameK
    rw [e, Kst.plus_nil] at this ⊢
    simp only [List.length_nil] at this
    omega
  refine ⟨⟨⟨st3, h3, h4⟩, ?_⟩, ?_⟩
  · unfold oneF nextK ranK
    simp only
    split
    · simp only [Kst.plus]; rw [htk, ht]; omega
    · rw [runs_tick, (turns_tk _ _).2.2.1, htk, ht]; omega
  · unfold oneF nextK ranK
    simp only
    split
    · simp only [Kst.plus, List.length_append, List.length_cons, List.length_nil]; omega
    · have a := run_len (turnsA (cameK K u.f1 u.f0.toNat) (whoOne (cameK K u.f1 u.f0.toNat)).toNat) (whoOne (cameK K u.f1 u.f0.toNat)).toNat u.f2.toNat
      have b := (turns_tk (cameK K u.f1 u.f0.toNat) (whoOne (cameK K u.f1 u.f0.toNat)).toNat).2.2.2
      omega
theorem one_steps {x : S46} (hx : TaskB x) {W : World} {B : Nat} {l : List S57} (hl : l.length ≤ 1000) (hin : ∀ u ∈ l, InB u) (hBW : B ≤ W.heap.size) (hB0 : 0 < B) (hT : DeB W) : Steps W B l oneF (InvO x) := by
  refine ⟨fun i K u hu h => one_next hx h ?_ u, fun i K u hu h E0 E w kp A jv ev DA dc hb hk hBE hEw hD => ?_⟩
  · have := (List.getElem?_eq_some_iff.1 hu).1
    omega
  · have hil := (List.getElem?_eq_some_iff.1 hu).1
    obtain ⟨st, h1, _⟩ := h.one
    have ht := h.tick
    have hub := hin u (List.mem_of_getElem? hu)
    obtain ⟨st2, hc⟩ := one_came hx h1 (by omega) u.f1 u.f0.toNat
    have ea : ((u.f0.toNat : Nat) : Int) = u.f0 := Int.toNat_of_nonneg hub.a.1
    have et : ((u.f2.toNat : Nat) : Int) = u.f2 := Int.toNat_of_nonneg hub.t.1
    have := step_post (E := E) (D := u.f1) (dc := dc) u.f0.toNat u.f2.toNat (by have := hub.a.2; omega) (by have := hub.t.2; omega) hb hBW hB0 hT hD hub.d hk hBE hEw (h1.kok hx (by omega)) (by omega) (whoOne (cameK K u.f1 u.f0.toNat)) ⟨6, one_choose hc⟩ (one_fit hx hc)
    rw [ea, et] at this
    exact this
/-- All events of a kernel of one task are such as the law allows. -/
theorem one_evs {x : S46} (hx : TaskB x) : ∀ (l : List S57) (i : Nat) (K : Kst), InvO x i K → i + l.length ≤ 1000 → ∀ e ∈ runE oneF K l, EvG x.f6.sum e
  | [], _, _, _, _ => by simp [runE]
  | u :: l, i, K, h, hi => by
    simp only [List.length_cons] at hi
    have hn := one_next hx h (by omega) u
    simp only [runE]
    obtain ⟨st, h3, _⟩ := hn.1.one
    exact ev_app h3.ev (one_evs hx l (i + 1) _ hn.1 (by omega))
theorem one_begin {x : S46} (rel : Int) (z : Int) : InvO x 0 ⟨rel, [x], 0, -1, [P.mkW z], List.replicate 64 0, T.zeros 1, zs 1, zs 1, List.replicate 1 ⟨[], [], 0, 0, 0, 0⟩, []⟩ := by
  refine ⟨⟨⟨false, false, false, 0⟩, ⟨rfl, Int.le_refl _, .inl rfl, ⟨rfl, ?_⟩, rfl, rfl, rfl, Int.le_refl _, Int.le_refl _, fun h => by simp at h, fun e he => by simp at he⟩, fun h => by simp at h⟩, rfl⟩
  intro y hy
  obtain rfl : y = P.mkW z := by simpa using hy
  exact ⟨Int.le_refl _, by simp [P.mkW]⟩
end Go.Proofs.YtdgfjpbjiccllaaGreatDoor
