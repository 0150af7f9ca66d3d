/- Joined texts: Fix7. -/
import Derived.Test.YtdgfjpbjiccllaaGreatDoorJl23
namespace Go.Proofs.YtdgfjpbjiccllaaGreatDoor.F
open Go.RowKit
open X (TOk NameOk tokens all_yes)
open YtdgfjpbjiccllaaGreatDoorW.PrintWords YtdgfjpbjiccllaaGreatDoorW.PrintLast YtdgfjpbjiccllaaGreatDoorW.PrintMore
open PTopLoads (S46 S212)
set_option maxRecDepth 100000
theorem all_A {w : World} {A : Option Addr} {c : Nat} (hS : ∀ w', Below w.heap.size w w' → Src w' A [xA]) (htab : Lib.TabIs Tryz.prog w "strings.asciiSpace" .u8 Lib.asciiSpaceTab) :
    Calls Tryz.prog 42 #[.agg #[.int .i64 0, .slice A 1 c]] w fun e w2 => e = .returned (.bool true) ∧ Below w.heap.size w w2 :=
  all_yes (L := [xA]) (rel := 0) (by decide) (by decide) (by decide) (by decide) hS (fun i x hx => by
    obtain ⟨hi, rfl⟩ := List.getElem?_eq_some_iff.1 hx
    obtain rfl : i = 0 := by simp at hi; omega
    exact okA) (fun i j x y hij hx hy => by
    have h1 := (List.getElem?_eq_some_iff.1 hx).1
    have h2 := (List.getElem?_eq_some_iff.1 hy).1
    simp at h1 h2
    omega) htab
theorem results_cell2 {P : Program} {fn : Func} {p u : Tmp} {ty : TypeId} (h : fn.results = #[.cell p ty, .tmp u]) (tmps : Array Value) (w : World) (g : Nat) (t : TypeId) (cs : Array Value) (d : TypeDesc)
    (hp : tmps.getD p undef = .pointer (some ⟨g, 0, none⟩)) (hg : Blk w g t cs)
    (hu : P.underlying ty = some d) (hd : (match d with | .struct _ | .array _ _ => true | _ => false) = true) (hi : (P.info? ty).map (·.size) = some cs.size) :
    (results fn tmps).run P w = .ok (.tuple #[.agg cs, tmps.getD u undef]) w := by
  have hp' : tmps[p]?.getD undef = .pointer (some ⟨g, 0, none⟩) := by simpa using hp
  simp [results, h, hp', asAddr, run_loadVar_row w g t ty cs (0, 0) d hg hu hd hi]
structure JS (w wr : World) (sb b off c vb : Nat) (rv : Value) : Prop where
  bl : Below sb w wr
  s : Blk wr sb 24 #[.int .i64 0, .slice (some ⟨b, off, none⟩) 1 c]
  r : Blk wr (sb + 1) 34 #[.int .i64 0, .int .i64 0, .slice none 0 0]
  v : Blk wr vb 34 #[.int .i64 1, .int .i64 0, rv]
  lt : sb + 1 < vb
theorem JS.below {w wr w' : World} {sb b off c vb : Nat} {rv : Value} (h : JS w wr sb b off c vb rv) (hb : Below wr.heap.size wr w') : JS w w' sb b off c vb rv :=
  ⟨h.bl.trans (hb.mono (Nat.le_of_lt h.s.lt)), h.s.below hb h.s.lt, h.r.below hb h.r.lt, h.v.below hb h.v.lt, h.lt⟩
theorem JS.set_ {w wr : World} {sb b off c vb : Nat} {rv : Value} (h : JS w wr sb b off c vb rv) (u : Value) : JS w (wr.setCell ⟨vb, 2, none⟩ u) sb b off c vb u :=
  ⟨h.bl.setCell (by show sb ≤ vb; have := h.lt; omega) _, h.s.far (by show sb ≠ vb; have := h.lt; omega) _, h.r.far (by show sb + 1 ≠ vb; have := h.lt; omega) _, h.v.set_ 2 u, h.lt⟩
set_option maxHeartbeats 8000000 in
theorem judge_A {A : Option Addr} {c : Nat} (w : World) (hc1 : 1 ≤ c) (hS : ∀ w', Below w.heap.size w w' → Src w' A [xA]) (htab : Lib.TabIs Tryz.prog w "strings.asciiSpace" .u8 Lib.asciiSpaceTab) :
    Calls Tryz.prog 35 #[.agg #[.int .i64 0, .slice A 1 c]] w fun e w' => ∃ RA rc, e = .returned (.tuple #[.agg #[.int .i64 1, .int .i64 0, .slice RA 1 rc], .int .i64 0]) ∧ Below w.heap.size w w' := by
  obtain ⟨b, off, rfl⟩ : ∃ b off, A = some ⟨b, off, none⟩ := by
    rcases hS w (Below.refl _ _) with h | ⟨b, off, h, _⟩
    · cases h
    · exact ⟨b, off, h⟩
  have HTB := Lib.hid (Lib.tabBelow_of_tabIs htab)
  have HAL := Lib.hid (fun w' (hb : Below w.heap.size w w') => all_A (w := w') (c := c) (fun w'' hb' => hS w'' (hb.trans (hb'.mono hb.size))) (HTB.out w' hb))
  have HOF := Lib.hid (fun w' (hb : Below w.heap.size w w') => (by
    rcases hS w' hb with h | ⟨b', off', h, hbl, hcs⟩
    · cases h
    · injection h with h
      injection h with h1 h2
      subst h1 h2
      obtain ⟨ra, rc, g0, g1, g2, g3, g4, g5, g6, g7, g8, hN, hrc⟩ := hcs 0 xA rfl
      exact of_A w' hc1 hbl ra rc hrc ⟨g0, g1, g2, g3, g4, g5, g6, g7, g8⟩ hN : Calls Tryz.prog 61 #[.agg #[.int .i64 0, .slice (some ⟨b, off, none⟩) 1 c], .int .i64 0] w' fun e w2 => e = .returned (.tuple #[.int .i64 2, .int .i64 1]) ∧ Below w'.heap.size w' w2))
  have HB1 := Lib.hid (((Below.refl w.heap.size w).alloc (Nat.le_refl _) (.cells #[.int .i64 0, .slice (some ⟨b, off, none⟩) 1 c] 24)).alloc (by simp) (.cells #[.int .i64 0, .int .i64 0, .slice none 0 0] 34))
  have HD := Lib.hid ((Blk.new w 24 #[.int .i64 0, .slice (some ⟨b, off, none⟩) 1 c]).alloc (.cells #[.int .i64 0, .int .i64 0, .slice none 0 0] 34))
  have HR := Blk.new (w.alloc (.cells #[.int .i64 0, .slice (some ⟨b, off, none⟩) 1 c] 24)) 34 #[.int .i64 0, .int .i64 0, .slice none 0 0]
  have hsz : (w.alloc (.cells #[.int .i64 0, .slice (some ⟨b, off, none⟩) 1 c] 24)).heap.size = w.heap.size + 1 := by simp
  rw [hsz] at HR
  have HR := Lib.hid HR
  obtain ⟨sb, hsb⟩ : ∃ sb, w.heap.size = sb := ⟨_, rfl⟩
  have HSB := Lib.hid hsb
  clear hS htab hsb hsz
  go_enter Tryz.func35, Tryz.ntmps35
  go_upto_region 1 with fail
  obtain ⟨w1, hw1⟩ : ∃ w1, (w.alloc (.cells #[.int .i64 0, .slice (some ⟨b, off, none⟩) 1 c] 24)).alloc (.cells #[.int .i64 0, .int .i64 0, .slice none 0 0] 34) = w1 := ⟨_, rfl⟩
  rw [hw1] at HB1 HD HR ⊢
  rw [HSB.out] at HB1 HD HR ⊢
  clear hw1
  have c0 : w1.cell? ⟨sb, 0, none⟩ = some (.int .i64 0) := HD.out.cell 0
  have c1 : w1.cell? ⟨sb, 1, none⟩ = some (.slice (some ⟨b, off, none⟩) 1 c) := HD.out.cell 1
  have hsl := HD.out.lt
  have hrl := HR.out.lt
  go_wp2_with (go_at_call 42; refine (HAL.out _ (by rw [HSB.out]; exact HB1.out)).mono ?_; rintro e w2 ⟨rfl, hb⟩; have HB2 := Lib.hid hb; have d0 : w2.cell? ⟨sb, 0, none⟩ = some (.int .i64 0) := (HD.out.below hb hsl).cell 0; have d1 : w2.cell? ⟨sb, 1, none⟩ = some (.slice (some ⟨b, off, none⟩) 1 c) := (HD.out.below hb hsl).cell 1; have hsl2 := (HD.out.below hb hsl).lt; clear hb)
  have S3 : JS w (w2.alloc (.cells #[.int .i64 1, .int .i64 0, .slice none 0 0] 34)) sb b off c w2.heap.size (.slice none 0 0) :=
    ⟨(HB1.out.trans (HB2.out.mono (Nat.le_of_lt hsl))).alloc (Nat.le_of_lt hsl2) _, (HD.out.below HB2.out hsl).alloc _, (HR.out.below HB2.out hrl).alloc _, Blk.new w2 34 _, (HR.out.below HB2.out hrl).lt⟩
  obtain ⟨w3, hw3⟩ : ∃ w3, w2.alloc (.cells #[.int .i64 1, .int .i64 0, .slice none 0 0] 34) = w3 := ⟨_, rfl⟩
  obtain ⟨vb, hvb⟩ : ∃ vb, w2.heap.size = vb := ⟨_, rfl⟩
  rw [hw3, hvb] at S3 ⊢
  have HS3 := Lib.hid S3
  obtain ⟨i0, hi0, hz0, hz1, hz2⟩ := info_parts J.Tryz.info2
  have Hz0 := Lib.hid hz0; clear hz0
  have Hz1 := Lib.hid hz1; clear hz1
  have Hz2 := Lib.hid hz2; clear hz2
  have Hi := Lib.hid hi0; clear hi0
  clear hw3 hvb S3 c0 c1 d0 d1 hsl hsl2 hrl HB1 HD HR HB2
  go_loopw [16] (fun z16 wr => (z16 = .int .i64 0 ∧ JS w wr sb b off c vb (.slice none 0 0)) ∨ (z16 = .int .i64 1 ∧ ∃ RA rc, JS w wr sb b off c vb (.slice RA 1 rc))) (fun z16 _ => 1 - (intOf z16).toNat)
  case atStart => exact .inl ⟨rfl, HS3.out⟩
  case round =>
    rcases hrel with ⟨rfl, hS⟩ | ⟨rfl, RA, rc, hS⟩
    · have c0 : wr.cell? ⟨sb, 0, none⟩ = some (.int .i64 0) := hS.s.cell 0
      have c1 : wr.cell? ⟨sb, 1, none⟩ = some (.slice (some ⟨b, off, none⟩) 1 c) := hS.s.cell 1
      have hsl := hS.s.lt
      have HS := Lib.hid hS
      clear hS
      go_wp2_with (first | (go_at_call 61; refine (HOF.out _ (by rw [HSB.out]; exact HS.out.bl)).mono ?_; rintro e w5 ⟨rfl, hb⟩; have HS5 := Lib.hid (HS.out.below hb); have v2 : w5.cell? ⟨vb, 2, none⟩ = some (.slice none 0 0) := HS5.out.v.cell 2; have hvl := HS5.out.v.lt; have HO : Hid ((w5.alloc (.cells #[.int .i64 2] 2)).ownsRow w5.heap.size 2 1 (.slice none 0 0) 0 []) := World.ownsRow_nil _ _ _ _; have H1 : Hid (∀ j u, [Value.int .i64 2][j]? = some u → (w5.alloc (.cells #[.int .i64 2] 2)).cell? ((⟨w5.heap.size, 0, none⟩ : Addr).add j) = some u) := cells_new (l := [Value.int .i64 2]); have H5 : Hid (w5.heap.size ≤ (w5.alloc (.cells #[.int .i64 2] 2)).heap.size) := Nat.le_of_lt (by simp); clear hb) | (at_builtin; refine wpList_append_own _ rfl (.tmp 31) (.tmp 33) 32 rfl w5.heap.size 2 i0 _ 1 8 Tryz.underlying32 Hi.out Hz0.out Hz1.out Hz2.out rfl (Nat.succ_pos 0) (.slice none 0 0) 0 [] rfl HO.out ⟨w5.heap.size, 0, none⟩ 1 1 [.int .i64 2] rfl rfl H1.out (J.ints_one [2]) (by unfold maxLen; omega) (by omega) H5.out ?_; intro v' w6 own gr _; obtain ⟨g', m', rfl⟩ := own_shape own; have hb6 : Below w5.heap.size w5 w6 := ((Below.refl _ _).alloc (Nat.le_refl _) _).grown gr (Nat.le_of_lt (by simp)) (fun k hk => by simp [Value.ownBlock] at hk); have HS6 := Lib.hid (HS5.out.below hb6); have v6 := HS6.out.v.cell 2; have f6 := HS6.out.v.frozen 2; clear hb6 own gr))
      go_roundw
      case rel => exact .inr ⟨by go_num, _, _, HS6.out.set_ _⟩
      case measure => simp [intOf]
    · have v0 : wr.cell? ⟨vb, 0, none⟩ = some (.int .i64 1) := hS.v.cell 0
      have v1 : wr.cell? ⟨vb, 1, none⟩ = some (.int .i64 0) := hS.v.cell 1
      have v2 : wr.cell? ⟨vb, 2, none⟩ = some (.slice RA 1 rc) := hS.v.cell 2
      have r0 := hS.r.cell 0
      have r1 := hS.r.cell 1
      have r2 := hS.r.cell 2
      have f0 := hS.r.frozen 0
      have f1 := hS.r.frozen 1
      have f2 := hS.r.frozen 2
      have HS := Lib.hid hS
      have hsb : sb ≤ sb + 1 := Nat.le_succ _
      clear hS; go_wp2
      refine bodyPost_ret (results_cell2 rfl _ _ (sb + 1) 34 #[.int .i64 1, .int .i64 0, .slice RA 1 rc] _ rfl (((HS.out.r.set_ 0 (.int .i64 1)).set_ 1 (.int .i64 0)).set_ 2 (.slice RA 1 rc)) Tryz.underlying34 rfl (by kernel_rfl)) rfl ⟨RA, rc, rfl, ?_⟩
      rw [HSB.out]
      exact ((HS.out.bl.setCell hsb _).setCell hsb _).setCell hsb _
end Go.Proofs.YtdgfjpbjiccllaaGreatDoor.F
