/- Joined texts: Tsk3, Par, Exe, Par2. -/
import Derived.Test.YtdgfjpbjiccllaaGreatDoorJa14
import Derived.Test.YtdgfjpbjiccllaaGreatDoorJa21
import Derived.Maps.OwnSet
import Derived.StringKeys
import Derived.Deep.RegionLaw
/- A set that may be: task.All says so. -/
namespace Go.Proofs.YtdgfjpbjiccllaaGreatDoor.X
open Go.RowKit
open Go.Maps (Keyed)
open Go.Proofs.YtdgfjpbjiccllaaGreatDoorW.PrintWords Go.Proofs.YtdgfjpbjiccllaaGreatDoorW.PrintLast Go.Proofs.YtdgfjpbjiccllaaGreatDoorW.PrintMore
open Go.Proofs.YtdgfjpbjiccllaaGreatDoor.PTopLoads (S46)
set_option maxRecDepth 100000
theorem law9 : Keyed Tryz.prog 9 := Maps.string_keyed Tryz.underlying9
theorem zero4 (w : World) : (zeroValue 4).run Tryz.prog w = .ok (.bool false) w := by kernel_rfl
theorem bool4_inv {v : Value} {z : DataW Unit × List MemPlace} (h : plainElem Tryz.prog 4 v = some z) : ∃ a, v = .bool a ∧ z = (.lit (.bool a), []) := by
  unfold plainElem at h
  rw [Tryz.underlying4] at h
  cases v <;> simp at h
  exact ⟨_, rfl, h.symm⟩
theorem lookup_no {w : World} {b n : Nat} {D : DataW Unit} (hown : w.ownsMap Tryz.prog 9 (plainElem Tryz.prog 4) b n D) (s : ByteArray) (hs : s.size ≤ 4000) (hat : D.atKey (.string s.data.toList) (.lit (.bool false)) = .lit (.bool false)) :
    (Instr.lookup 128 (.map (some b)) (.string s) false).run Tryz.prog w = .ok (.bool false) w := by
  obtain ⟨v, ps, hrun, hv⟩ := hown.lookup law9 Tryz.underlying128 (zero4 w) (plainElem_bool Tryz.underlying4 false) (WideMaps.keyOf_string_mk Tryz.underlying9 (s := s) (by unfold maxLen; omega))
  obtain ⟨c, rfl, hc⟩ := bool4_inv hv
  rw [hat] at hc
  injection hc with hc _
  injection hc with hc
  injection hc with hc
  subst hc
  exact hrun
set_option maxHeartbeats 8000000 in
theorem all_yes {w : World} {A : Option Addr} {L : List S46} {c : Nat} {rel : Int} (h1 : 1 ≤ L.length) (h8 : L.length ≤ 8) (hr0 : 0 ≤ rel) (hr1 : rel ≤ 10000) (hS : ∀ w', Below w.heap.size w w' → Src w' A L)
    (hT : ∀ (i : Nat) (x : S46), L[i]? = some x → TOk x i) (hne : ∀ (i j : Nat) (x y : S46), i < j → L[i]? = some x → L[j]? = some y → x.f0 ≠ y.f0) (htab : Lib.TabIs Tryz.prog w "strings.asciiSpace" .u8 Lib.asciiSpaceTab) :
    Calls Tryz.prog 42 #[.agg #[.int .i64 rel, .slice A L.length c]] w fun e w2 => e = .returned (.bool true) ∧ Below w.heap.size w w2 := by
  have HS := Lib.hid hS
  have HTB := Lib.hid (Lib.tabBelow_of_tabIs htab)
  have HT := Lib.hid hT
  have HNE := Lib.hid hne
  obtain ⟨n, hn⟩ : ∃ n, L.length = n := ⟨_, rfl⟩
  have HN := Lib.hid hn
  rw [hn] at h1 h8 ⊢
  clear hS htab hT hne hn
  have d1 : ¬ (n : Int) < 1 := by omega
  have d2 : ¬ (8 : Int) < (n : Int) := by omega
  have d3 : decide ((n : Int) < 1) = false := by simp; omega
  have d4 : decide ((8 : Int) < (n : Int)) = false := by simp; omega
  have hmm := @run_makeMap Tryz.prog
  have HB := Lib.hid (((Below.refl w.heap.size w).alloc (Nat.le_refl _) (.cells #[.int .i64 rel, .slice A n c] 24)).alloc (by simp) (.map #[] 0))
  have HD := Lib.hid ((Blk.new w 24 #[.int .i64 rel, .slice A n c]).alloc (.map #[] 0))
  have HM := Lib.hid (World.ownsMap_made (H := Unit) (w.alloc (.cells #[.int .i64 rel, .slice A n c] 24)) Tryz.prog 9 (plainElem Tryz.prog 4))
  have HSZ : Hid ((w.alloc (.cells #[.int .i64 rel, .slice A n c] 24)).heap.size = w.heap.size + 1) := by unfold Hid; simp
  go_enter Tryz.func42, Tryz.ntmps42
  go_wp2_with (first | (go_at_call 70; refine (isTime_yes rel 0 hr0 hr1 _).mono ?_; rintro e w2 ⟨rfl, rfl⟩))
  obtain ⟨sb, hsb⟩ : ∃ sb, w.heap.size = sb := ⟨_, rfl⟩
  rw [HSZ.out] at HM
  rw [hsb] at HB HD HM ⊢
  have HSB := Lib.hid hsb
  obtain ⟨wa, hwa⟩ : ∃ wa, w.alloc (.cells #[.int .i64 rel, .slice A n c] 24) = wa := ⟨_, rfl⟩
  rw [hwa] at HB HD HM ⊢
  clear hsb hwa
  obtain ⟨wb, hwb⟩ : ∃ wb, wa.alloc (.map #[] 0) = wb := ⟨_, rfl⟩
  rw [hwb] at HB HD HM ⊢
  clear hwb HSZ
  go_loopw [26] (fun z26 wr => ∃ (k : Nat) (D : DataW Unit), k ≤ n ∧ z26 = .int .i64 k ∧ Below sb w wr ∧ Blk wr sb 24 #[.int .i64 rel, .slice A n c] ∧ wr.ownsMap Tryz.prog 9 (plainElem Tryz.prog 4) (sb + 1) k D ∧ ∀ (j : Nat) (x : S46), k ≤ j → L[j]? = some x → D.atKey (.string x.f0.data.toList) (.lit (.bool false)) = .lit (.bool false)) (fun z26 _ => n - (intOf z26).toNat)
  case atStart => exact ⟨0, _, Nat.zero_le _, rfl, HB.out, HD.out, HM.out, fun j x _ _ => rfl⟩
  case round =>
    obtain ⟨k, D, hk, rfl, hb, hBk, hM, hF⟩ := hrel
    by_cases hlt : k < n
    · have hSr := HS.out _ (by rw [HSB.out]; exact hb)
      rcases hSr with h0 | ⟨b, off, rfl, hbl, hcs⟩
      · have := HN.out; rw [h0] at this; simp at this; omega
      obtain ⟨x, hx⟩ : ∃ x, L[k]? = some x := ⟨_, List.getElem?_eq_getElem (by rw [HN.out]; exact hlt)⟩
      obtain ⟨ra, rc, g0, g1, g2, g3, g4, g5, g6, g7, g8, hNu, hrc⟩ := hcs k x hx
      have hbw := hBk.lt
      have B2 : Below wr.heap.size wr (wr.alloc (.cells (tcell x (.slice ra x.f6.length rc)) 46)) := (Below.refl _ _).alloc (Nat.le_refl _) _
      have HIS := Lib.hid (is_yes x k (HT.out k x hx) ra rc hrc (wr.alloc (.cells (tcell x (.slice ra x.f6.length rc)) 46)) (hNu.below B2) (HTB.out _ (by rw [HSB.out]; exact hb.trans (B2.mono (by omega)))))
      have HBX := Lib.hid (Blk.new wr 46 (tcell x (.slice ra x.f6.length rc)))
      have hsx := (HT.out k x hx).nm.1
      have HM1 := Lib.hid (hM.alloc (.cells (tcell x (.slice ra x.f6.length rc)) 46))
      have HB1 := Lib.hid (hb.trans (B2.mono (Nat.le_of_lt hbw)))
      have HK1 := Lib.hid (hBk.alloc (.cells (tcell x (.slice ra x.f6.length rc)) 46))
      have HAT := Lib.hid (hF k x (Nat.le_refl _) hx)
      have HFF := Lib.hid hF
      have HX := Lib.hid hx
      have HBW := Lib.hid hbw
      clear hcs hx hF hM hb hBk B2 hNu hbw
      unfold tcell at HIS HBX HM1 HB1 HK1
      go_wp2_with (first | (go_at_call 71; refine (HIS.out).mono ?_; rintro e w2 ⟨rfl, hb2⟩; have hXB := HBX.out.below hb2 (by simp); have q0 : w2.cell? ⟨wr.heap.size, 0, none⟩ = some (.string x.f0) := hXB.cell 0; have HM2 := Lib.hid (HM1.out.kept (only_of_below hb2 none) (by simp)); have HB2 := Lib.hid (HB1.out.trans (hb2.mono (by have := HBW.out; simp; omega))); have HK2 := Lib.hid (HK1.out.below hb2 (by have := HBW.out; simp; omega)); have hlk := lookup_no HM2.out x.f0 hsx HAT.out; clear hb2 hXB) | (at_mapUpdate; refine wpList_mapUpdate_own _ rfl (.tmp 41) (.tmp 43) (.const (.bool true)) 128 rfl 9 4 law9 Tryz.underlying128 (plainElem Tryz.prog 4) (sb + 1) k D rfl HM2.out (by unfold maxLen; omega) (.string x.f0) (.bool true) (.string x.f0.data.toList) rfl rfl (WideMaps.keyOf_string_mk Tryz.underlying9 (by unfold maxLen; omega)) (.lit (.bool true)) [] (plainElem_bool Tryz.underlying4 true) ?_; intro w3 hM3 hg3))
      go_roundw
      case rel =>
        refine ⟨k + 1, _, by omega, by go_num, ?_, ?_, hM3, fun j y hj hy => ?_⟩
        · exact HB2.out.grown hg3 (by have := HK2.out.lt; omega) (fun q hq => by injection hq with hq; omega)
        · exact HK2.out.grown hg3 (by intro e; injection e with e; omega)
        · rw [Maps.atKey_put_other]
          · exact HFF.out j y (by omega) hy
          · intro e
            injection e with e
            refine HNE.out k j x y (by omega) HX.out hy ?_
            apply ByteArray.ext
            exact (Array.toList_inj.1 e).symm
      case measure => simp [intOf]; omega
    · go_wp2
      go_ret
      exact ⟨rfl, by rw [HSB.out]; exact hb⟩
end Go.Proofs.YtdgfjpbjiccllaaGreatDoor.X
/- The parser's small steps, where the text is well: next, step, is, takes, must, kind, after. -/
namespace Go.Proofs.YtdgfjpbjiccllaaGreatDoor.X
open Go.RowKit
set_option maxRecDepth 100000
theorem results_cell1 {P : Program} {fn : Func} {p : Tmp} {ty : TypeId} (h : fn.results = #[.cell p ty]) (tmps : Array Value) (w : World) (g : Nat) (t : TypeId) (cs : Array Value) (d : TypeDesc)
    (hp : tmps.getD p undef = .pointer (some ⟨g, 0, none⟩)) (hg : Blk w g t cs)
    (hu : P.underlying ty = some d) (hd : (match d with | .struct _ | .array _ _ => true | _ => false) = true) (hi : (P.info? ty).map (·.size) = some cs.size) :
    (results fn tmps).run P w = .ok (.agg cs) w := by
  have hp' : tmps[p]?.getD undef = .pointer (some ⟨g, 0, none⟩) := by simpa using hp
  simp [results, h, hp', asAddr, run_loadVar_row w g t ty cs (0, 0) d hg hu hd hi]
/-- A parser: its pointer, the tokens that are left (without an error). -/
structure PAt (w : World) (pp tb : Nat) (v : Value) (L : List T4) : Prop where
  hd : Blk w pp 112 #[v, .int .i64 0, .int .i64 0]
  tok : ∃ o c, v = .slice (some ⟨tb, o, none⟩) L.length c ∧ L.length ≤ c ∧ tb < w.heap.size ∧ tb ≠ pp ∧ ∀ i x, L[i]? = some x → w.cell? ⟨tb, o + i * 4, none⟩ = some (.int .i64 x.k) ∧ w.cell? ⟨tb, o + i * 4 + 1, none⟩ = some (.string x.s) ∧ w.cell? ⟨tb, o + i * 4 + 2, none⟩ = some (.int .i64 x.n) ∧ w.cell? ⟨tb, o + i * 4 + 3, none⟩ = some (.int .i64 x.at_)
  lim : L.length ≤ 100000
  fin : ∃ M e, L = M ++ [e] ∧ e.k = 4
def T4.v (x : T4) : Value := .agg #[.int .i64 x.k, .string x.s, .int .i64 x.n, .int .i64 x.at_]
theorem field0 (a b c d : Value) (w : World) : (Instr.field 116 (.agg #[a, b, c, d]) 0).run Tryz.prog w = .ok a w := by kernel_rfl
theorem field1 (a b c d : Value) (w : World) : (Instr.field 116 (.agg #[a, b, c, d]) 1).run Tryz.prog w = .ok b w := by kernel_rfl
theorem field2 (a b c d : Value) (w : World) : (Instr.field 116 (.agg #[a, b, c, d]) 2).run Tryz.prog w = .ok c w := by kernel_rfl
theorem field3 (a b c d : Value) (w : World) : (Instr.field 116 (.agg #[a, b, c, d]) 3).run Tryz.prog w = .ok d w := by kernel_rfl
section
variable {w w' : World} {pp tb : Nat} {v : Value} {L : List T4} {x : T4}
theorem PAt.keep (h : PAt w pp tb v L) (hg : w.grownBy w' none) : PAt w' pp tb v L := by
  obtain ⟨o, c, rfl, hc, hl, hn, ht⟩ := h.tok
  refine ⟨h.hd.grown hg (by simp), ⟨o, c, rfl, hc, Nat.lt_of_lt_of_le hl hg.size, hn, fun i x hx => ?_⟩, h.lim, h.fin⟩
  obtain ⟨a, b, d, e⟩ := ht i x hx
  exact ⟨hg.cell a (by simp), hg.cell b (by simp), hg.cell d (by simp), hg.cell e (by simp)⟩
theorem PAt.far (h : PAt w pp tb v L) {r i : Nat} (h1 : r ≠ pp) (h2 : r ≠ tb) (u : Value) : PAt (w.setCell ⟨r, i, none⟩ u) pp tb v L := by
  obtain ⟨o, c, rfl, hc, hl, hn, ht⟩ := h.tok
  have hcell : ∀ j, (w.setCell ⟨r, i, none⟩ u).cell? ⟨tb, j, none⟩ = w.cell? ⟨tb, j, none⟩ := fun j => World.cell?_of_block (w := w) (Below.heap_setCell w ⟨r, i, none⟩ u tb (fun e => h2 e.symm))
  refine ⟨h.hd.far (fun e => h1 e.symm) _, ⟨o, c, rfl, hc, by simpa [World.setCell] using hl, hn, fun i x hx => ?_⟩, h.lim, h.fin⟩
  simp only [hcell]
  exact ht i x hx
theorem PAt.tlt (h : PAt w pp tb v L) : tb < w.heap.size := by
  obtain ⟨_, _, _, _, h, _⟩ := h.tok
  exact h
theorem PAt.below (h : PAt w pp tb v L) (hb : Below w.heap.size w w') : PAt w' pp tb v L := h.keep (only_of_below hb none)
theorem fin_tail (h : ∃ M e, x :: L = M ++ [e] ∧ e.k = 4) (hk : x.k ≠ 4) : L ≠ [] ∧ ∃ M e, L = M ++ [e] ∧ e.k = 4 := by
  obtain ⟨M, e, h1, h2⟩ := h
  cases M with
  | nil =>
    simp at h1
    exact absurd (h1.1 ▸ h2) hk
  | cons y M =>
    simp at h1
    obtain ⟨_, h1⟩ := h1
    exact ⟨by rw [h1]; simp, M, e, h1, h2⟩
theorem grown_of_below {row : Option Nat} (h : Below w.heap.size w w') : w.grownBy w' row := only_of_below h row
theorem next_any (h : PAt w pp tb v (x :: L)) : Calls Tryz.prog 57 #[.pointer (some ⟨pp, 0, none⟩)] w fun e w' => e = .returned x.v ∧ Below w.heap.size w w' := by
  obtain ⟨o, c, rfl, hc, hl, hn, ht⟩ := h.tok
  obtain ⟨t0, t1, t2, t3⟩ := ht 0 x rfl
  simp only [Nat.zero_mul, Nat.add_zero] at t0 t1 t2 t3
  have p0 : w.cell? ⟨pp, 0, none⟩ = some (.slice (some ⟨tb, o, none⟩) (L.length + 1) c) := h.hd.cell 0
  have hpl := h.hd.lt
  have hlim := h.lim
  simp only [List.length_cons] at hc hlim
  have hB := Lib.hid ((Below.refl w.heap.size w).alloc (Nat.le_refl _) (.cells #[.int .i64 x.k, .string x.s, .int .i64 x.n, .int .i64 x.at_] 116))
  clear h ht
  go_enter Tryz.func57, Tryz.ntmps57
  go_wp2
  refine bodyPost_ret (results_cell1 rfl _ _ w.heap.size 116 #[.int .i64 x.k, .string x.s, .int .i64 x.n, .int .i64 x.at_] _ rfl (Blk.new w 116 _) Tryz.underlying116 rfl (by kernel_rfl)) rfl ⟨rfl, hB.out⟩
set_option maxHeartbeats 2000000 in
theorem step_any (h : PAt w pp tb v (x :: L)) (hk : x.k ≠ 4) : Calls Tryz.prog 132 #[.pointer (some ⟨pp, 0, none⟩)] w fun e w' => e = .returned x.v ∧ (∃ v', PAt w' pp tb v' L) ∧ w.grownBy w' (some pp) := by
  obtain ⟨o, c, rfl, hc, hl, hn, ht⟩ := h.tok
  have p0 : w.cell? ⟨pp, 0, none⟩ = some (.slice (some ⟨tb, o, none⟩) (L.length + 1) c) := h.hd.cell 0
  have hpl := h.hd.lt
  have hlim := h.lim
  have hfin := fin_tail h.fin hk
  have hL1 : 1 ≤ L.length := by
    cases L with
    | nil => exact absurd rfl hfin.1
    | cons y M => simp
  have HFIN := Lib.hid hfin.2
  simp only [List.length_cons] at hc hlim
  have hc1 : ¬ c = 1 := by omega
  have hk2 : (x.k == 4) = false := by simpa using hk
  have hk3 : (x.k != 4) = true := by simp [hk]
  have hB := (Below.refl w.heap.size w).alloc (Nat.le_refl _) (.cells #[.int .i64 0, .string ⟨#[]⟩, .int .i64 0, .int .i64 0] 116)
  have HN := Lib.hid (next_any (h.below hB))
  have HBW := Lib.hid hB
  have HH := Lib.hid h
  have HT := Lib.hid ht
  have HR := Lib.hid (Blk.new w 116 #[.int .i64 0, .string ⟨#[]⟩, .int .i64 0, .int .i64 0])
  have hwe : w.heap.size = w.heap.size := rfl
  clear h ht hB hk hwe hfin
  unfold T4.v at HN
  go_enter Tryz.func132, Tryz.ntmps132
  go_upto_region 2 with (go_at_call 57; refine (HN.out).mono ?_; rintro e w2 ⟨rfl, hb⟩; have HB2 := Lib.hid hb; clear hb)
  have hb2 : Below w.heap.size w w2 := HBW.out.trans (HB2.out.mono (by simp))
  have D2 := HR.out.below HB2.out (by simp)
  have s2 : w.heap.size < w2.heap.size := D2.lt
  have hPB : Below w.heap.size w (w2.alloc (.cells #[.int .i64 x.k, .string x.s, .int .i64 x.n, .int .i64 x.at_] 116)) := hb2.alloc (Nat.le_of_lt s2) _
  obtain ⟨w3, hw3⟩ : ∃ w3, w2.alloc (.cells #[.int .i64 x.k, .string x.s, .int .i64 x.n, .int .i64 x.at_] 116) = w3 := ⟨_, rfl⟩
  have D3 := D2.alloc (.cells #[.int .i64 x.k, .string x.s, .int .i64 x.n, .int .i64 x.at_] 116)
  have T3 := Blk.new w2 116 #[.int .i64 x.k, .string x.s, .int .i64 x.n, .int .i64 x.at_]
  rw [hw3] at hPB D3 T3 ⊢
  obtain ⟨tt, htt⟩ : ∃ tt, w2.heap.size = tt := ⟨_, rfl⟩
  obtain ⟨rb, hrb⟩ : ∃ rb, w.heap.size = rb := ⟨_, rfl⟩
  rw [htt] at T3 s2 ⊢
  rw [hrb] at D3 s2 hpl ⊢
  have HP3 := Lib.hid (HH.out.below hPB)
  have c0 : w3.cell? ⟨tt, 0, none⟩ = some (.int .i64 x.k) := T3.cell 0
  have c1 : w3.cell? ⟨tt, 1, none⟩ = some (.string x.s) := T3.cell 1
  have c2 : w3.cell? ⟨tt, 2, none⟩ = some (.int .i64 x.n) := T3.cell 2
  have c3 : w3.cell? ⟨tt, 3, none⟩ = some (.int .i64 x.at_) := T3.cell 3
  have p3 : w3.cell? ⟨pp, 0, none⟩ = some (.slice (some ⟨tb, o, none⟩) (L.length + 1) c) := HP3.out.hd.cell 0
  have f3 := HP3.out.hd.frozen 0
  have r0 : w3.cell? ⟨rb, 0, none⟩ = some (.int .i64 0) := D3.cell 0
  have r1 : w3.cell? ⟨rb, 1, none⟩ = some (.string ⟨#[]⟩) := D3.cell 1
  have r2 : w3.cell? ⟨rb, 2, none⟩ = some (.int .i64 0) := D3.cell 2
  have r3 : w3.cell? ⟨rb, 3, none⟩ = some (.int .i64 0) := D3.cell 3
  have k0 := D3.frozen 0
  have k1 := D3.frozen 1
  have k2 := D3.frozen 2
  have k3 := D3.frozen 3
  have hne1 : pp ≠ tt := by omega
  have hne2 : pp ≠ rb := by omega
  have hne3 : rb ≠ tt := by omega
  have HPB := Lib.hid hPB
  have HD3 := Lib.hid D3
  have HHB := Lib.hid hrb
  clear hw3 D2 D3 T3 hPB hb2 htt hrb p0 HBW HR HB2
  go_wp2
  refine bodyPost_ret (results_cell1 rfl _ _ rb 116 ((((#[Value.int .i64 0, .string ⟨#[]⟩, .int .i64 0, .int .i64 0].setIfInBounds 0 (.int .i64 x.k)).setIfInBounds 1 (.string x.s)).setIfInBounds 2 (.int .i64 x.n)).setIfInBounds 3 (.int .i64 x.at_)) _ rfl (((((HD3.out.far (p := ⟨pp, 0, none⟩) (fun e => hne2 e.symm) _).set_ 0 _).set_ 1 _).set_ 2 _).set_ 3 _) Tryz.underlying116 rfl (by kernel_rfl)) rfl ⟨rfl, ?_, ?_⟩
  all_goals have hg : w.grownBy (((((w3.setCell ⟨pp, 0, none⟩ (.slice (some ⟨tb, o + 4, none⟩) L.length (c - 1))).setCell ⟨rb, 0, none⟩ (.int .i64 x.k)).setCell ⟨rb, 1, none⟩ (.string x.s)).setCell ⟨rb, 2, none⟩ (.int .i64 x.n)).setCell ⟨rb, 3, none⟩ (.int .i64 x.at_)) (some pp) := only_setCell (only_setCell (only_setCell (only_setCell (only_setCell (only_of_below HPB.out _) (.inl rfl) _) (.inr (by rw [HHB.out]; exact Nat.le_refl _)) _) (.inr (by rw [HHB.out]; exact Nat.le_refl _)) _) (.inr (by rw [HHB.out]; exact Nat.le_refl _)) _) (.inr (by rw [HHB.out]; exact Nat.le_refl _)) _
  · refine ⟨.slice (some ⟨tb, o + 4, none⟩) L.length (c - 1), ?_, ⟨o + 4, c - 1, rfl, by omega, Nat.lt_of_lt_of_le hl hg.size, hn, fun i y hy => ?_⟩, by omega, HFIN.out⟩
    · exact ((((HP3.out.hd.set_ 0 _).far (p := ⟨rb, 0, none⟩) hne2 _).far (p := ⟨rb, 1, none⟩) hne2 _).far (p := ⟨rb, 2, none⟩) hne2 _).far (p := ⟨rb, 3, none⟩) hne2 _
    · obtain ⟨a0, a1, a2, a3⟩ := HT.out (i + 1) y hy
      have hnr : ∀ j, some (⟨tb, j, none⟩ : Addr).block ≠ some pp := fun j e => hn (by injection e)
      rw [show o + 4 + i * 4 = o + (i + 1) * 4 from by omega]
      exact ⟨hg.cell a0 (hnr _), hg.cell a1 (hnr _), hg.cell a2 (hnr _), hg.cell a3 (hnr _)⟩
  · exact hg
def isTok (x : T4) (s : ByteArray) : Bool := x.k == 3 && x.s.toList == s.toList
theorem is_any (h : PAt w pp tb v (x :: L)) (s : ByteArray) : Calls Tryz.prog 133 #[.pointer (some ⟨pp, 0, none⟩), .string s] w fun e w' => e = .returned (.bool (isTok x s)) ∧ Below w.heap.size w w' := by
  have HN := Lib.hid (next_any h)
  have HH := Lib.hid h
  clear h
  unfold T4.v at HN
  unfold isTok
  have q0 := field0
  have q1 := field1
  by_cases hk : x.k = 3
  · have hk2 : (x.k == 3) = true := by simpa using hk
    rw [hk2]
    clear hk
    go_enter Tryz.func133, Tryz.ntmps133
    go_wp2_with (first | (go_at_call 57; refine (HN.out).mono ?_; rintro e w2 ⟨rfl, hb⟩; have HB2 := Lib.hid hb; have HN2 := Lib.hid (next_any (HH.out.below hb)); unfold T4.v at HN2; clear hb HN) | (go_at_call 57; refine (HN2.out).mono ?_; rintro e w3 ⟨rfl, hb⟩; have HB3 := Lib.hid hb; clear hb))
    go_ret
    exact ⟨rfl, HB2.out.trans (HB3.out.mono HB2.out.size)⟩
  · have hk2 : (x.k == 3) = false := by simpa using hk
    rw [hk2]
    clear hk
    go_enter Tryz.func133, Tryz.ntmps133
    go_wp2_with (go_at_call 57; refine (HN.out).mono ?_; rintro e w2 ⟨rfl, hb⟩; have HB2 := Lib.hid hb; clear hb)
    go_ret
    exact ⟨rfl, HB2.out⟩
theorem takes_yes (h : PAt w pp tb v (x :: L)) (s : ByteArray) (hk : isTok x s = true) : Calls Tryz.prog 97 #[.pointer (some ⟨pp, 0, none⟩), .string s] w fun e w' => e = .returned (.bool true) ∧ (∃ v', PAt w' pp tb v' L) ∧ w.grownBy w' (some pp) := by
  have hi := is_any h s
  rw [hk] at hi
  have HI := Lib.hid hi
  have HH := Lib.hid h
  have hk4 : x.k ≠ 4 := by
    intro e
    simp [isTok, e] at hk
  clear h hi hk
  go_enter Tryz.func97, Tryz.ntmps97
  go_wp2_with (first | (go_at_call 133; refine (HI.out).mono ?_; rintro e w2 ⟨rfl, hb⟩; have HB2 := Lib.hid hb; have HS := Lib.hid (step_any (HH.out.below hb) hk4); clear hb) | (go_at_call 132; refine (HS.out).mono ?_; rintro e w3 ⟨rfl, hP, hg⟩; have HP := Lib.hid hP; have HG := Lib.hid hg; clear hP hg))
  go_ret
  exact ⟨rfl, HP.out, (grown_of_below HB2.out).trans HG.out⟩
theorem takes_no (h : PAt w pp tb v (x :: L)) (s : ByteArray) (hk : isTok x s = false) : Calls Tryz.prog 97 #[.pointer (some ⟨pp, 0, none⟩), .string s] w fun e w' => e = .returned (.bool false) ∧ Below w.heap.size w w' := by
  have hi := is_any h s
  rw [hk] at hi
  have HI := Lib.hid hi
  clear h hi hk
  go_enter Tryz.func97, Tryz.ntmps97
  go_wp2_with (go_at_call 133; refine (HI.out).mono ?_; rintro e w2 ⟨rfl, hb⟩; have HB2 := Lib.hid hb; clear hb)
  go_ret
  exact ⟨rfl, HB2.out⟩
theorem must_yes (h : PAt w pp tb v (x :: L)) (s : ByteArray) (hk : isTok x s = true) : Calls Tryz.prog 56 #[.pointer (some ⟨pp, 0, none⟩), .string s] w fun e w' => e = .returned (.tuple #[]) ∧ (∃ v', PAt w' pp tb v' L) ∧ w.grownBy w' (some pp) := by
  have HI := Lib.hid (takes_yes h s hk)
  clear h hk
  go_enter Tryz.func56, Tryz.ntmps56
  go_wp2_with (go_at_call 97; refine (HI.out).mono ?_; rintro e w2 ⟨rfl, hP, hg⟩; have HP := Lib.hid hP; have HG := Lib.hid hg; clear hP hg)
  go_end0
  exact ⟨rfl, HP.out, HG.out⟩
set_option maxHeartbeats 1000000 in
theorem kind_yes (h : PAt w pp tb v (x :: L)) (hk4 : x.k ≠ 4) (k : Int) (hxk : x.k = k) : Calls Tryz.prog 96 #[.pointer (some ⟨pp, 0, none⟩), .int .i64 k] w fun e w' => e = .returned x.v ∧ (∃ v', PAt w' pp tb v' L) ∧ w.grownBy w' (some pp) := by
  subst hxk
  have hB := (Below.refl w.heap.size w).alloc (Nat.le_refl _) (.cells #[.int .i64 0, .string ⟨#[]⟩, .int .i64 0, .int .i64 0] 116)
  have HN := Lib.hid (next_any (h.below hB))
  have HH := Lib.hid (h.below hB)
  have HB := Lib.hid hB
  have HR := Lib.hid (Blk.new w 116 #[.int .i64 0, .string ⟨#[]⟩, .int .i64 0, .int .i64 0])
  have hpl := h.hd.lt
  have htl := h.tlt
  have q0 := field0
  clear h hB
  unfold T4.v at HN
  go_enter Tryz.func96, Tryz.ntmps96
  go_wp2_with (first | (go_at_call 57; refine (HN.out).mono ?_; rintro e w2 ⟨rfl, hb⟩; have HB2 := Lib.hid hb; have HS := Lib.hid (step_any (HH.out.below hb) hk4); unfold T4.v at HS; clear hb) | (go_at_call 132; refine (HS.out).mono ?_; rintro e w3 ⟨rfl, hP, hg⟩; have HP := Lib.hid hP; have HG := Lib.hid hg; have D3 := (HR.out.below HB2.out (by simp)).grown hg (by intro e; injection e with e; omega); have g0 := D3.cell 0; have g1 := D3.cell 1; have g2 := D3.cell 2; have g3 := D3.cell 3; have f0 := D3.frozen 0; have f1 := D3.frozen 1; have f2 := D3.frozen 2; have f3 := D3.frozen 3; clear hP hg))
  have hG : w.grownBy ((((w3.setCell ⟨w.heap.size, 0, none⟩ (.int .i64 x.k)).setCell ⟨w.heap.size, 1, none⟩ (.string x.s)).setCell ⟨w.heap.size, 2, none⟩ (.int .i64 x.n)).setCell ⟨w.heap.size, 3, none⟩ (.int .i64 x.at_)) (some pp) := by
    have g1 : w.grownBy w3 (some pp) := ((grown_of_below HB.out).trans (grown_of_below (HB2.out.mono (Nat.le_refl _)))).trans HG.out
    exact only_setCell (only_setCell (only_setCell (only_setCell g1 (.inr (Nat.le_refl _)) _) (.inr (Nat.le_refl _)) _) (.inr (Nat.le_refl _)) _) (.inr (Nat.le_refl _)) _
  refine bodyPost_ret (results_cell1 rfl _ _ w.heap.size 116 ((((#[Value.int .i64 0, .string ⟨#[]⟩, .int .i64 0, .int .i64 0].setIfInBounds 0 (.int .i64 x.k)).setIfInBounds 1 (.string x.s)).setIfInBounds 2 (.int .i64 x.n)).setIfInBounds 3 (.int .i64 x.at_)) _ rfl ((((D3.set_ 0 _).set_ 1 _).set_ 2 _).set_ 3 _) Tryz.underlying116 rfl (by kernel_rfl)) rfl ⟨rfl, ?_, hG⟩
  obtain ⟨v', hP⟩ := HP.out
  exact ⟨v', (((hP.far (by omega) (by omega) _).far (by omega) (by omega) _).far (by omega) (by omega) _).far (by omega) (by omega) _⟩
end
end Go.Proofs.YtdgfjpbjiccllaaGreatDoor.X
/- exec.ticks: ticks go by. -/
namespace Go.Proofs.YtdgfjpbjiccllaaGreatDoor
open Go.RowKit
open Go.Proofs.YtdgfjpbjiccllaaGreatDoorW.PrintWords Go.Proofs.YtdgfjpbjiccllaaGreatDoorW.PrintLast Go.Proofs.YtdgfjpbjiccllaaGreatDoorW.PrintMore
open Go.Proofs.YtdgfjpbjiccllaaGreatDoor.PTopLoads (S46 k46 z46 k46_mk S57 k57 z57)
set_option maxRecDepth 100000
variable {E : Nat}
theorem Fr.lessE {ts : List Nat} {B E' : Nat} {w w' : World} (h : Fr E' ts B w w') (hE : E ≤ E') : Fr E ts B w w' :=
  ⟨h.os, h.tape, h.output, h.size, fun i hi hc => h.block i hi (hc.imp_right fun hc => hc.imp_right fun ⟨h1, h2⟩ => ⟨Nat.lt_of_lt_of_le h1 hE, h2⟩)⟩
/-- append of a row of the call's own or of nil, as one operation of a region that draws. -/
theorem step_append_rows {P : Program} {ops : Array Oper} {o : Oper} {a : Act} {w : World} {K : Act → World → Prop} {Q : Exit → Act → World → Prop} {E : Prop} (hgd : o.guard = none) (s x : Operand) (t : TypeId)
    (ho : o.op = .call { callee := .builtin .append, args := #[s, x], argTypes := #[t, t] })
    (base : Nat) (e : TypeId) (i : TypeInfo) (z : Value) (size bytes : Nat) (ht : P.underlying t = some (.slice e)) (hi : P.info? e = some i) (hz : i.zero = some z)
    (hsize : i.size = size) (hby : i.bytes = bytes) (hzs : z.cells.size = size) (hsz : 0 < size)
    (v : Value) (n : Nat) (xs : List Value) (hs : a.eval s = v) (hown : w.ownsRow base e size v n xs)
    (u : Value) (m base' : Nat) (news : List Value) (hx : a.eval x = u) (hsrc : w.ownsRow base' e size u m news) (h1 : ∀ u ∈ news, u.oneCell' = true)
    (h63 : n + m ≤ maxLen) (hbytes : (n + m) * bytes ≤ 140737488355328) (hbase : base ≤ w.heap.size)
    (h : ∀ v' w', w'.ownsRow base e size v' (n + m) (xs ++ news) → w.grownBy w' v.ownBlock → K (a.put o.dst v') w') :
    if Region.wanted o (yielded ops a.tmps) = true then Oper.wp P o a w K Q else E := by
  have hw : Region.wanted o (yielded ops a.tmps) = true := by simp [Region.wanted, hgd]
  rcases hsrc.2 with ⟨rfl, rfl⟩ | ⟨g, c, cur, rfl, hb, hh, hn, hm, hs', htk⟩
  · have hnil : news = [] := by
      have := hsrc.1
      simp at this
      exact this
    subst hnil
    rw [if_pos hw]
    have hrun := run_append_owned_none (P := P) (w := w) base t o.type e i size ht hi v n xs hown
    unfold Oper.wp execOp
    simp only [ho, resolve, invoke, builtin, Sem.run_bind, Sem.run_pure, Result.andThen_ok, List.map_toArray, List.map_cons, List.map_nil, hs, hx, hrun]
    exact h v w (by simpa using hown) (World.grownBy.refl w _)
  · refine step_append_own_at hgd s x t ho base e i z size bytes ht hi hz hsize hby hzs hsz v n xs hs hown ⟨g, 0, none⟩ m c news hx hsrc.1 ?_ h1 h63 hbytes hbase fun v' w' h2 h3 _ _ => h v' w' h2 h3
    intro j u hj
    rw [add_none, Nat.zero_add]
    have hB : Blk w g e cur := hh
    have hjl := (List.getElem?_eq_some_iff.1 hj).1
    rw [hB.cell j, ← hj, ← htk, List.getElem?_take_of_lt (by have := hsrc.1; omega)]
    simp
theorem enter31 (v u : Value) (w : World) : (callFunc 31 #[v, u]).run Tryz.prog w = .ok (.enter 31 #[v, u]) w := by kernel_rfl
theorem step_call31 {ops : Array Oper} {o : Oper} {a : Act} {w : World} {K : Act → World → Prop} {Q : Exit → Act → World → Prop} {E : Prop} (hgd : o.guard = none) (x y : Operand)
    (ho : o.op = .call { callee := .value (.func 31), args := #[x, y], argTypes := #[60, 57] }) (v u : Value) (hx : a.eval x = v) (hy : a.eval y = u)
    (hc : Calls Tryz.prog 31 #[v, u] w fun e w' => ∃ r, e = .returned r ∧ K (a.put o.dst r) w') :
    if Region.wanted o (yielded ops a.tmps) = true then Oper.wp Tryz.prog o a w K Q else E := by
  have hw : Region.wanted o (yielded ops a.tmps) = true := by simp [Region.wanted, hgd]
  rw [if_pos hw]
  unfold Oper.wp
  have e : a.eval (Operand.func 31) = .func (.func 31) #[] #[] := rfl
  have e2 := enter31 v u w
  simp only [execOp, ho, resolve, invoke, Deferred.ofValue, e, hx, hy, Sem.run_bind, Sem.run_pure, Result.andThen_ok, List.map_toArray, List.map_cons, List.map_nil, List.append_toArray, List.nil_append, List.append_nil, e2, Oper.upon_enter]
  refine hc.mono ?_
  rintro e w' ⟨r, rfl, h⟩
  exact h
abbrev TS : List Nat := [97, 50, 142, 140, 148, 131, 186]
def rep0 (v : Value) : Array Value := #[.int .i64 0, .int .i64 0, .int .i64 0, .int .i64 0, .slice none 0 0, .string ⟨#[]⟩, v]
theorem set7 {w : World} {g : Nat} (h : Blk w g 37 (rep0 (.slice none 0 0))) (a b c d e f v : Value) :
    Blk (((((((w.setCell ⟨g, 0, none⟩ a).setCell ⟨g, 1, none⟩ b).setCell ⟨g, 2, none⟩ c).setCell ⟨g, 3, none⟩ d).setCell ⟨g, 4, none⟩ e).setCell ⟨g, 5, none⟩ f).setCell ⟨g, 6, none⟩ v) g 37 #[a, b, c, d, e, f, v] ∧
    w.grownBy (((((((w.setCell ⟨g, 0, none⟩ a).setCell ⟨g, 1, none⟩ b).setCell ⟨g, 2, none⟩ c).setCell ⟨g, 3, none⟩ d).setCell ⟨g, 4, none⟩ e).setCell ⟨g, 5, none⟩ f).setCell ⟨g, 6, none⟩ v) (some g) := by
  refine ⟨((((((h.set_ 0 a).set_ 1 b).set_ 2 c).set_ 3 d).set_ 4 e).set_ 5 f).set_ 6 v, ?_⟩
  have r := World.grownBy.refl w (some g)
  exact only_setCell (only_setCell (only_setCell (only_setCell (only_setCell (only_setCell (only_setCell r (p := ⟨g, 0, none⟩) (.inl rfl) a) (p := ⟨g, 1, none⟩) (.inl rfl) b) (p := ⟨g, 2, none⟩) (.inl rfl) c) (p := ⟨g, 3, none⟩) (.inl rfl) d) (p := ⟨g, 4, none⟩) (.inl rfl) e) (p := ⟨g, 5, none⟩) (.inl rfl) f) (p := ⟨g, 6, none⟩) (.inl rfl) v
/-- A block of the call's own turns. -/
theorem Fr.later {ts : List Nat} {B g : Nat} {w w1 w' : World} (h : Fr E ts B w w1) (hg : w1.grownBy w' (some g)) (hl : w.heap.size ≤ g) : Fr E ts B w w' := by
  have h2 : Fr E [] B w1 w1 := Fr.refl _ _ _
  refine ⟨hg.os.trans h.os, hg.tape.trans h.tape, hg.output.trans h.output, Nat.le_trans h.size hg.size, fun i hi hc => ?_⟩
  exact (hg.block i (Nat.lt_of_lt_of_le hi h.size) (fun e => by injection e; omega)).trans (h.block i hi hc)
/-- Ticks that go by. -/
structure TiS (w wr : World) (ep B kp : Nat) (A : Ad) (rv tv : Value) (K : Kst) (v : Value) (L : List Ev) : Prop where
  kat : ∃ E jv ev, KAt E wr B kp A jv ev (pdOf K) K
  ex : Blk wr ep 62 #[rv, tv, .bool true, .pointer (some ⟨kp, 0, none⟩)]
  r : Blk wr (w.heap.size + 1) 37 (rep0 v)
  z : Blk wr w.heap.size 37 (rep0 (.slice none 0 0))
  own : wr.ownsRow w.heap.size 50 4 v L.length (evs L)
  fr : Fr w.heap.size TS B w wr
section
variable {w wr w' : World} {ep B kp : Nat} {A : Ad} {rv tv v : Value} {K K' : Kst} {L : List Ev}
theorem TiS.below (h : TiS w wr ep B kp A rv tv K v L) (hb : Below wr.heap.size wr w') : TiS w w' ep B kp A rv tv K v L := by
  obtain ⟨E, jv, ev, hk⟩ := h.kat
  have hf : Fr w.heap.size [] B wr w' := Fr.of_below hb
  exact ⟨⟨E, jv, ev, hk.fr (Fr.of_below (E := E) (ts := []) (B := B) hb) (by simp)⟩, h.ex.below hb h.ex.lt, h.r.below hb h.r.lt, h.z.below hb h.z.lt, own_fr h.own hf (by simp), h.fr.trans (hf.mono (by simp))⟩
theorem TiS.step (h : TiS w wr ep B kp A rv tv K v L) (hep : ep < B) {jv' : List Value} {ev' : Value} {E : Nat} (hk : KAt E w' B kp A jv' ev' (pdOf K') K') (hf : Fr wr.heap.size TS B wr w') : TiS w w' ep B kp A rv tv K' v L :=
  ⟨⟨E, jv', ev', hk⟩, (hf.block ep h.ex.lt (.inl hep)).trans h.ex, h.r.fr hf (by decide), h.z.fr hf (by decide), own50_fr h.own hf, h.fr.trans (hf.lessE (Nat.le_of_lt h.z.lt))⟩
theorem TiS.app (h : TiS w wr ep B kp A rv tv K v L) (hBw : B ≤ w.heap.size) (hep : ep < B) {E : Nat} {jv' : List Value} {ev' u : Value} {M : List Ev} (hk : KAt E wr B kp A jv' ev' (pdOf K) K) (hlt : ∀ g, v.ownBlock = some g → g < E)
    (gr : wr.grownBy w' v.ownBlock) (own : w'.ownsRow w.heap.size 50 4 u (L.length + M.length) (evs L ++ evs M)) : TiS w (w'.setCell ⟨w.heap.size + 1, 6, none⟩ u) ep B kp A rv tv K u (L ++ M) := by
  have hap := own_blk_ne h.own h.r (by decide)
  have haz := own_blk_ne h.own h.z (by decide)
  have hr := h.r.grown gr (fun e => hap e.symm)
  have hz := h.z.grown gr (fun e => haz e.symm)
  have hx := own_blk_ne h.own h.ex (by decide)
  have hE := h.ex.grown gr (fun e => hx e.symm)
  have hap' := own_blk_ne own hr (by decide)
  have hne : w.heap.size ≠ w.heap.size + 1 := by omega
  have hg2 : w'.grownBy (w'.setCell ⟨w.heap.size + 1, 6, none⟩ u) (some (w.heap.size + 1)) := only_setCell (World.grownBy.refl w' (some (w.heap.size + 1))) (p := ⟨w.heap.size + 1, 6, none⟩) (.inl rfl) _
  have hf2 : Fr E [37] B w' (w'.setCell ⟨w.heap.size + 1, 6, none⟩ u) := Fr.of_blk hg2 hr (by omega) (by simp)
  refine ⟨⟨E, jv', ev', (kat_other hk h.own gr hlt).fr hf2 (by decide)⟩, hE.far (show ep ≠ w.heap.size + 1 by omega) u, (hr.set_ 6 u), hz.far hne u, ?_, ?_⟩
  · have := own_far own hap' (o := 6) u
    rw [List.length_append, evs_app]
    exact this
  · have h1 : Fr w.heap.size TS B wr w' := Fr.of_own gr h.own hBw (by decide) (fun _ => Nat.le_refl _)
    have h2 := h.fr.trans h1
    refine ⟨h2.os, h2.tape, h2.output, Nat.le_trans h2.size (by simp [World.setCell]), fun i hi hc => ?_⟩
    exact (Below.heap_setCell w' ⟨w.heap.size + 1, 6, none⟩ u i (by simp only; omega)).trans (h2.block i hi hc)
end
set_option maxHeartbeats 16000000 in
theorem ticks_any {w : World} {ep B kp E0 : Nat} {A : Ad} {jv : List Value} {ev rv tv : Value} {IA : Option Addr} {ic : Nat} {l : List S57} {K0 : Kst} {stepF : Kst → S57 → Kst} {Inv : Nat → Kst → Prop} (hl : l.length ≤ 400)
    (hE : Blk w ep 62 #[rv, tv, .bool true, .pointer (some ⟨kp, 0, none⟩)]) (hep : ep < B) (hBw : B ≤ w.heap.size) (hK : KAt E0 w B kp A jv ev (pdOf K0) K0)
    (hI : InsP (fun w' => Fr w.heap.size TS B w w') IA l) (h0 : Inv 0 K0) (hst : Steps w B l stepF Inv) :
    Calls Tryz.prog 26 #[.pointer (some ⟨ep, 0, none⟩), .slice IA l.length ic] w fun e w2 => ∃ v, e = .returned (.agg (rep0 v)) ∧ w2.ownsRow w.heap.size 50 4 v (runE stepF K0 l).length (evs (runE stepF K0 l)) ∧ Fr w.heap.size TS B w w2 ∧
      (∃ E1 jv1 ev1, KAt E1 w2 B kp A jv1 ev1 (pdOf (runK stepF K0 l)) (runK stepF K0 l)) := by
  have HI := Lib.hid hI
  have HST := Lib.hid hst
  have H0 := Lib.hid h0
  obtain ⟨n, hn⟩ : ∃ n, l.length = n := ⟨_, rfl⟩
  have HL := Lib.hid hn
  rw [hn] at hl ⊢
  have HKK := Lib.hid hK
  have HE := Lib.hid hE
  have e3 : w.cell? ⟨ep, 3, none⟩ = some (.pointer (some ⟨kp, 0, none⟩)) := hE.cell 3
  have hel := hE.lt
  have dl : ¬ (400 : Int) < (n : Int) := by omega
  clear hI hst h0 hn hK hE
  go_enter Tryz.func26, Tryz.ntmps26
  go_upto_region 7 with fail
  have S0 : TiS w ((w.alloc (.cells #[.int .i64 0, .int .i64 0, .int .i64 0, .int .i64 0, .slice none 0 0, .string ⟨#[]⟩, .slice none 0 0] 37)).alloc (.cells #[.int .i64 0, .int .i64 0, .int .i64 0, .int .i64 0, .slice none 0 0, .string ⟨#[]⟩, .slice none 0 0] 37)) ep B kp A rv tv K0 (.slice none 0 0) [] := by
    have hb : Below w.heap.size w ((w.alloc (.cells #[.int .i64 0, .int .i64 0, .int .i64 0, .int .i64 0, .slice none 0 0, .string ⟨#[]⟩, .slice none 0 0] 37)).alloc (.cells #[.int .i64 0, .int .i64 0, .int .i64 0, .int .i64 0, .slice none 0 0, .string ⟨#[]⟩, .slice none 0 0] 37)) := ((Below.refl w.heap.size w).alloc (Nat.le_refl _) _).alloc (by simp) _
    have hs : (w.alloc (.cells #[.int .i64 0, .int .i64 0, .int .i64 0, .int .i64 0, .slice none 0 0, .string ⟨#[]⟩, .slice none 0 0] 37)).heap.size = w.heap.size + 1 := by simp
    have R := Blk.new (w.alloc (.cells #[.int .i64 0, .int .i64 0, .int .i64 0, .int .i64 0, .slice none 0 0, .string ⟨#[]⟩, .slice none 0 0] 37)) 37 #[.int .i64 0, .int .i64 0, .int .i64 0, .int .i64 0, .slice none 0 0, .string ⟨#[]⟩, .slice none 0 0]
    rw [hs] at R
    exact ⟨⟨E0, jv, ev, HKK.out.fr (Fr.of_below (E := E0) (ts := []) (B := B) hb) (by simp)⟩, HE.out.below hb hel, R, (Blk.new w 37 #[.int .i64 0, .int .i64 0, .int .i64 0, .int .i64 0, .slice none 0 0, .string ⟨#[]⟩, .slice none 0 0]).alloc _, by simpa [evs] using World.ownsRow_nil _ _ _ _, Fr.of_below hb⟩
  obtain ⟨w1, hw1⟩ : ∃ w1, (w.alloc (.cells #[.int .i64 0, .int .i64 0, .int .i64 0, .int .i64 0, .slice none 0 0, .string ⟨#[]⟩, .slice none 0 0] 37)).alloc (.cells #[.int .i64 0, .int .i64 0, .int .i64 0, .int .i64 0, .slice none 0 0, .string ⟨#[]⟩, .slice none 0 0] 37) = w1 := ⟨_, rfl⟩
  rw [hw1] at S0 ⊢
  have HS0 := Lib.hid S0
  obtain ⟨i0, hi0, hz0, hz1, hz2⟩ := info_parts Tryz.info50
  have Hz0 := Lib.hid hz0; clear hz0
  have Hz1 := Lib.hid hz1; clear hz1
  have Hz2 := Lib.hid hz2; clear hz2
  have Hi := Lib.hid hi0; clear hi0
  obtain ⟨sb, hsb⟩ : ∃ sb, w.heap.size = sb := ⟨_, rfl⟩
  rw [hsb]
  have HSB := Lib.hid hsb
  clear hw1 S0 e3 hsb
  go_wp2_with fail
  go_loopw [20] (fun z20 wr => ∃ (k : Nat) (v : Value), k ≤ n ∧ z20 = .int .i64 k ∧ TiS w wr ep B kp A rv tv (runK stepF K0 (l.take k)) v (runE stepF K0 (l.take k)) ∧ Inv k (runK stepF K0 (l.take k)) ∧ (runE stepF K0 (l.take k)).length ≤ k * 1000) (fun z20 _ => n - (intOf z20).toNat)
  case atStart => exact ⟨0, _, Nat.zero_le _, rfl, HS0.out, H0.out, Nat.le_refl _⟩
  case round =>
    obtain ⟨k, v, hk, rfl, hS, hInv, hle⟩ := hrel
    by_cases hlt : k < n
    · obtain ⟨x, hx⟩ : ∃ x, l[k]? = some x := ⟨_, List.getElem?_eq_getElem (by rw [HL.out]; exact hlt)⟩
      have htk : l.take (k + 1) = l.take k ++ [x] := by
        obtain ⟨h1, rfl⟩ := List.getElem?_eq_some_iff.1 hx
        rw [List.take_succ_eq_append_getElem h1]
      have hnx := HST.out.next k _ x hx hInv
      rcases HI.out with h0 | ⟨b, off, rfl, hcs⟩
      · have := HL.out; rw [h0] at this; simp at this; omega
      obtain ⟨DA, dc, hcw⟩ := hcs k x hx
      obtain ⟨g0, g1, g2, _⟩ := hcw wr hS.fr
      have hcl := HST.out.call k _ x hx hInv
      obtain ⟨Kk, hKk⟩ : ∃ Kk, runK stepF K0 (l.take k) = Kk := ⟨_, rfl⟩
      obtain ⟨Lk, hLk⟩ : ∃ Lk, runE stepF K0 (l.take k) = Lk := ⟨_, rfl⟩
      have hK2 : runK stepF K0 (l.take (k + 1)) = stepF Kk x := by rw [htk, runK_snoc, hKk]
      have hL2 : runE stepF K0 (l.take (k + 1)) = Lk ++ (stepF Kk x).ev := by rw [htk, runE_snoc, hKk, hLk]
      rw [hKk] at hcl hnx
      rw [hLk] at hle
      rw [hKk, hLk] at hS
      obtain ⟨Kn, hKn⟩ : ∃ Kn, stepF Kk x = Kn := ⟨_, rfl⟩
      rw [hKn] at hcl hnx hK2 hL2
      obtain ⟨VA, vc, hv⟩ : ∃ A c, v = .slice A Lk.length c := by
        rcases hS.own.2 with ⟨h, h0⟩ | ⟨g, c, cur, h, _⟩
        · exact ⟨none, 0, by rw [h, h0]⟩
        · exact ⟨_, c, h⟩
      subst hv
      have S5 := hS.below ((Below.refl wr.heap.size wr).alloc (Nat.le_refl _) (.cells #[.int .u64 x.f0, .slice DA x.f1.length dc, .int .u64 x.f2] 57))
      have T5 := Blk.new wr 57 #[.int .u64 x.f0, .slice DA x.f1.length dc, .int .u64 x.f2]
      have HS5 := Lib.hid S5
      have HT5 := Lib.hid T5
      have HC := Lib.hid hcl
      have HN2 := Lib.hid hnx
      have HK2 := Lib.hid hK2
      have HL2 := Lib.hid hL2
      have HLE := Lib.hid hle
      have HCW := Lib.hid hcw
      have hwl := hS.r.lt
      clear hcl hnx hK2 hL2 hle hS hInv htk hx hKk hLk hKn hcs hcw S5 T5
      have m1 : Hid (Lk.length + Kn.ev.length ≤ maxLen) := by have := HLE.out; have := HN2.out.2; unfold Hid maxLen; omega
      have m2 : Hid ((Lk.length + Kn.ev.length) * 32 ≤ 140737488355328) := by have := HLE.out; have := HN2.out.2; unfold Hid; omega
      go_upto_region 9 with fail
      obtain ⟨w5, hw5⟩ : ∃ w5, wr.alloc (.cells #[.int .u64 x.f0, .slice DA x.f1.length dc, .int .u64 x.f2] 57) = w5 := ⟨_, rfl⟩
      obtain ⟨ib, hib⟩ : ∃ ib, wr.heap.size = ib := ⟨_, rfl⟩
      rw [hw5] at HS5 HT5 ⊢
      rw [hib] at HT5 hwl ⊢
      clear hw5 hib g0 g1 g2
      obtain ⟨rk, hrk⟩ : ∃ rk, sb + 1 = rk := ⟨_, rfl⟩
      have HRK := Lib.hid hrk
      rw [HSB.out, hrk] at hwl
      rw [hrk]
      clear hrk
      have hr5 : Blk w5 rk 37 (rep0 (.slice VA Lk.length vc)) := by
        have := HS5.out.r
        rw [HSB.out, HRK.out] at this
        exact this
      have y1 : w5.cell? ⟨rk, 6, none⟩ = some (.slice VA Lk.length vc) := hr5.cell 6
      have y2 : w5.cell? ⟨ep, 3, none⟩ = some (.pointer (some ⟨kp, 0, none⟩)) := HS5.out.ex.cell 3
      have y3 : w5.cell? ⟨ib, 0, none⟩ = some (.int .u64 x.f0) := HT5.out.cell 0
      have y4 : w5.cell? ⟨ib, 1, none⟩ = some (.slice DA x.f1.length dc) := HT5.out.cell 1
      have y5 : w5.cell? ⟨ib, 2, none⟩ = some (.int .u64 x.f2) := HT5.out.cell 2
      have y6 := hr5.lt
      have y7 := HS5.out.ex.lt
      have y8 := HT5.out.lt
      have HD5 := Lib.hid (HS5.out.below ((Below.refl w5.heap.size w5).drew))
      have HDS : Hid (w5.drew.heap.size = w5.heap.size) := rfl
      have hBz : B ≤ w5.drew.heap.size := Nat.le_trans hBw HD5.out.fr.size
      have HC5 : Hid (Calls Tryz.prog 31 #[.pointer (some ⟨kp, 0, none⟩), .agg #[.int .u64 x.f0, .slice DA x.f1.length dc, .int .u64 x.f2]] w5.drew (SPost w5.heap.size w5.drew B kp A Kn)) := by
        obtain ⟨E1, jv1, ev1, hk1⟩ := HD5.out.kat
        exact HC.out E1 w5.drew.heap.size w5.drew kp A jv1 ev1 DA dc (HD5.out.fr.below (Nat.le_refl _) hBw) hk1 hBz (Nat.le_refl _) (fun w' f => (HCW.out w' (HD5.out.fr.trans (f.lessE HD5.out.fr.size))).2.2.2)
      clear hr5 hBz
      go_region_law (first | (refine step_call31 rfl (.tmp 29) (.tmp 30) rfl _ _ rfl rfl (HC5.out.mono ?_); rintro e' w6 ⟨jv6, ev6, rfl, hK6, hf6⟩; have HS6 := Lib.hid (HD5.out.step hep hK6 hf6); have HK6 := Lib.hid hK6; have HB6 := Lib.hid (Nat.le_trans (Nat.le_trans (Nat.le_of_lt HD5.out.z.lt) hf6.size) (Nat.le_refl _)); have z1 : w6.cell? ⟨rk, 6, none⟩ = some (.slice VA Lk.length vc) := (HRK.out ▸ HSB.out ▸ HS6.out.r : Blk w6 rk 37 _).cell 6; clear hK6 hf6; refine ⟨_, rfl, ?_⟩) | (refine step_append_rows rfl (.tmp 25) (.tmp 31) 35 rfl sb 50 i0 _ 4 32 Tryz.underlying35 Hi.out Hz0.out Hz1.out Hz2.out rfl (Nat.succ_pos 3) (.slice VA Lk.length vc) Lk.length (evs Lk) rfl (HSB.out ▸ HS6.out.own) ev6 Kn.ev.length w5.heap.size (evs Kn.ev) rfl HK6.out.evs (evs_one _) m1.out m2.out (HSB.out ▸ HB6.out) ?_; intro v' w7 own gr; obtain ⟨VB, vd, rfl⟩ := own_slice own; have HW := Lib.hid own; have HGW := Lib.hid gr; have HR7 := Lib.hid ((HRK.out ▸ HSB.out ▸ HS6.out.r : Blk w6 rk 37 (rep0 (.slice VA Lk.length vc))).grown gr (fun e => own_blk_ne HS6.out.own (HRK.out ▸ HSB.out ▸ HS6.out.r : Blk w6 rk 37 (rep0 (.slice VA Lk.length vc))) (by decide) e.symm)); have c7 : w7.cell? ⟨rk, 6, none⟩ = some (.slice VA Lk.length vc) := HR7.out.cell 6; have f7 := HR7.out.frozen 6; clear own gr))
      all_goals
        obtain rfl := HRK.out
        go_wp2_with fail
        go_roundw
        case rel =>
          refine ⟨k + 1, .slice VB (Lk.length + Kn.ev.length) vd, by omega, by go_num, ?_, ?_, ?_⟩
          · rw [HK2.out, HL2.out]
            have h7 := HW.out
            rw [← HSB.out] at h7 ⊢
            exact HS6.out.app hBw hep HK6.out (fun g hg => own_block_lt HS5.out.own hg) HGW.out h7
          · rw [HK2.out]
            exact HN2.out.1
          · rw [HL2.out, List.length_append]
            have := HLE.out
            have := HN2.out.2
            omega
        case measure => simp [intOf]; omega
    · have e : k = n := by omega
      subst e
      have HT : Hid (l.take k = l) := by unfold Hid; rw [← HL.out, List.take_length]
      rw [HT.out] at hS
      obtain ⟨VA, vc, hv⟩ := own_slice hS.own
      subst hv
      have hr := hS.r
      have hz := hS.z
      rw [HSB.out] at hr hz
      have HSX := Lib.hid hS
      clear hS hInv hle
      have r0 := hr.cell 0
      have r1 := hr.cell 1
      have r2 := hr.cell 2
      have r3 := hr.cell 3
      have r4 := hr.cell 4
      have r5 := hr.cell 5
      have r6 := hr.cell 6
      have t0 := hz.cell 0
      have t1 := hz.cell 1
      have t2 := hz.cell 2
      have t3 := hz.cell 3
      have t4 := hz.cell 4
      have t5 := hz.cell 5
      have t6 := hz.cell 6
      have u0 := hz.frozen 0
      have u1 := hz.frozen 1
      have u2 := hz.frozen 2
      have u3 := hz.frozen 3
      have u4 := hz.frozen 4
      have u5 := hz.frozen 5
      have u6 := hz.frozen 6
      have hrl := hr.lt
      have hzl := hz.lt
      simp [rep0] at r0 r1 r2 r3 r4 r5 r6 t0 t1 t2 t3 t4 t5 t6
      have HZ := Lib.hid hz
      clear hz hr
      go_wp2_with fail
      obtain ⟨h7, g7⟩ := set7 HZ.out (.int .i64 0) (.int .i64 0) (.int .i64 0) (.int .i64 0) (.slice none 0 0) (.string ⟨#[]⟩) (.slice VA (runE stepF K0 l).length vc)
      have hf : Fr w.heap.size [37] B wr _ := Fr.of_blk g7 HZ.out (by rw [← HSB.out]; exact hBw) (by simp)
      obtain ⟨E1, jv1, ev1, hk1⟩ := HSX.out.kat
      have hf1 : Fr E1 [37] B wr _ := Fr.of_blk g7 HZ.out (by rw [← HSB.out]; exact hBw) (by simp)
      refine bodyPost_ret (X.results_cell1 rfl _ _ sb 37 (rep0 (.slice VA (runE stepF K0 l).length vc)) _ rfl h7 Tryz.underlying37 rfl (by kernel_rfl)) rfl ⟨_, rfl, own_fr HSX.out.own hf (by decide), ?_, E1, jv1, ev1, hk1.fr hf1 (by decide)⟩
      exact HSX.out.fr.later g7 (by rw [HSB.out]; exact Nat.le_refl _)
end Go.Proofs.YtdgfjpbjiccllaaGreatDoor
/- The parser where the text is well: after, row. -/
namespace Go.Proofs.YtdgfjpbjiccllaaGreatDoor.X
open Go.RowKit
open Go.Proofs.YtdgfjpbjiccllaaGreatDoorW.PrintWords Go.Proofs.YtdgfjpbjiccllaaGreatDoorW.PrintLast Go.Proofs.YtdgfjpbjiccllaaGreatDoorW.PrintMore
set_option maxRecDepth 100000
def lenOf : Value → Nat
  | .slice _ n _ => n
  | _ => 0
theorem t4s_one (l : List T4) : ∀ u ∈ t4s l, u.oneCell' = true := by
  intro u hu
  simp only [t4s, List.mem_flatMap] at hu
  obtain ⟨x, _, hu⟩ := hu
  simp [T4.cells] at hu
  rcases hu with rfl | rfl | rfl | rfl <;> rfl
section
variable {w w' : World} {pp tb : Nat} {v : Value} {L : List T4} {x y z : T4}
theorem after_yes (h : PAt w pp tb v (x :: y :: L)) (s : ByteArray) (hk : isTok x s = true) (hy : y.k = 2) : Calls Tryz.prog 55 #[.pointer (some ⟨pp, 0, none⟩), .string s] w fun e w' => e = .returned (.int .i64 y.n) ∧ (∃ v', PAt w' pp tb v' L) ∧ w.grownBy w' (some pp) := by
  have HI := Lib.hid (must_yes h s hk)
  have q0 := field2
  have hy4 : y.k ≠ 4 := by omega
  clear h hk
  go_enter Tryz.func55, Tryz.ntmps55
  go_wp2_with (first | (go_at_call 56; refine (HI.out).mono ?_; rintro e w2 ⟨rfl, ⟨v2, hP⟩, hg⟩; have HK := Lib.hid (kind_yes hP hy4 2 hy); unfold T4.v at HK; have HG := Lib.hid hg; clear hP hg) | (go_at_call 96; refine (HK.out).mono ?_; rintro e w3 ⟨rfl, hP, hg⟩; have HP := Lib.hid hP; have HG2 := Lib.hid hg; clear hP hg))
  go_ret
  exact ⟨rfl, HP.out, HG.out.trans HG2.out⟩
theorem own_blk_keep {base n : Nat} {u : Value} {xs : List Value} (h : w.ownsRow base 116 4 u n xs) (hg : w.grownBy w' (some pp)) (hp : Blk w pp 112 #[v, .int .i64 0, .int .i64 0]) : w'.ownsRow base 116 4 u n xs := by
  refine ⟨h.1, ?_⟩
  rcases h.2 with h0 | ⟨g, c, cur, rfl, hb, hh, rest⟩
  · exact .inl h0
  · have hB : Blk w g 116 cur := hh
    exact .inr ⟨g, c, cur, rfl, hb, hB.grown hg (fun e => by injection e with e; exact hB.ne_ hp (by decide) e), rest⟩
theorem PAt.grown (h : PAt w pp tb v L) {row : Option Nat} (hg : w.grownBy w' row) (hr : ∀ g, row = some g → g ≠ pp ∧ g ≠ tb) : PAt w' pp tb v L := by
  obtain ⟨o, c, rfl, hc, hl, hn, ht⟩ := h.tok
  have hnr : ∀ j, some (⟨tb, j, none⟩ : Addr).block ≠ row := fun j e => (hr tb e.symm).2 rfl
  refine ⟨h.hd.grown hg (fun e => (hr pp e.symm).1 rfl), ⟨o, c, rfl, hc, Nat.lt_of_lt_of_le hl hg.size, hn, fun i x hx => ?_⟩, h.lim, h.fin⟩
  obtain ⟨a, b, d, e⟩ := ht i x hx
  exact ⟨hg.cell a (hnr _), hg.cell b (hnr _), hg.cell d (hnr _), hg.cell e (hnr _)⟩
theorem only_above {a b : World} {g : Nat} {row : Option Nat} (h : w.grownBy a (some g)) (hg : a.grownBy b row) (hr : ∀ k, row = some k → w.heap.size ≤ k) : w.grownBy b (some g) :=
  ⟨hg.os.trans h.os, hg.tape.trans h.tape, hg.output.trans h.output, Nat.le_trans h.size hg.size, fun i hi hne => (hg.block i (Nat.lt_of_lt_of_le hi h.size) (fun e => by have := hr i e.symm; omega)).trans (h.block i hi hne)⟩
theorem own_len {base e size n : Nat} {u : Value} {xs : List Value} (h : w.ownsRow base e size u n xs) : lenOf u = n := by
  rcases h.2 with ⟨rfl, h0⟩ | ⟨g, c, cur, rfl, _⟩
  · exact h0.symm
  · rfl
set_option maxHeartbeats 4000000 in
theorem row_yes {ys : List T4} (h : PAt w pp tb v (ys ++ z :: L)) (h0 : ys ≠ []) (hys : ∀ y ∈ ys, y.k = 2) (hz : z.k ≠ 2) :
    Calls Tryz.prog 99 #[.pointer (some ⟨pp, 0, none⟩)] w fun e w' => ∃ u, e = .returned u ∧ w'.ownsRow w.heap.size 116 4 u ys.length (t4s ys) ∧ (∃ v', PAt w' pp tb v' (z :: L)) ∧ w.grownBy w' (some pp) := by
  obtain ⟨i0, hi0, hz0, hz1, hz2⟩ := info_parts Tryz.info116
  have Hz0 := Lib.hid hz0; clear hz0
  have Hz1 := Lib.hid hz1; clear hz1
  have Hz2 := Lib.hid hz2; clear hz2
  have Hi := Lib.hid hi0; clear hi0
  have hlim := h.lim
  obtain ⟨y0, ys', hys0⟩ : ∃ y0 ys', ys = y0 :: ys' := by
    cases ys with
    | nil => exact absurd rfl h0
    | cons a l => exact ⟨a, l, rfl⟩
  have hy0 : y0.k = 2 := hys y0 (by rw [hys0]; simp)
  have hK : Calls Tryz.prog 96 #[.pointer (some ⟨pp, 0, none⟩), .int .i64 2] w fun e w' => e = .returned y0.v ∧ (∃ v', PAt w' pp tb v' (ys' ++ z :: L)) ∧ w.grownBy w' (some pp) := by
    rw [hys0] at h
    exact kind_yes h (by omega) 2 hy0
  have HK := Lib.hid hK
  have HY0 := Lib.hid hys0
  have HYS := Lib.hid hys
  have q0 := field0
  have hpl := h.hd.lt
  have htl := h.tlt
  have hn : ys.length ≤ 100000 := by rw [List.length_append] at hlim; omega
  clear h hK hys0 hys h0 hlim hy0
  unfold T4.v at HK
  go_enter Tryz.func99, Tryz.ntmps99
  go_wp2_with (go_at_call 96; refine (HK.out).mono ?_; rintro e w2 ⟨rfl, ⟨v2, hP⟩, hg⟩; have HP := Lib.hid hP; have HG := Lib.hid hg; clear hP hg)
  clear HK
  go_loopw [3] (fun z3 wr => ∃ (k : Nat) (v3 : Value), 1 ≤ k ∧ k ≤ ys.length ∧ PAt wr pp tb v3 (ys.drop k ++ z :: L) ∧ wr.ownsRow w.heap.size 116 4 z3 k (t4s (ys.take k)) ∧ w.grownBy wr (some pp)) (fun z3 _ => ys.length - lenOf z3)
  case atStart =>
    have e1 : ys.drop 1 = ys' := by rw [HY0.out]; rfl
    have e2 : ys.take 1 = [y0] := by rw [HY0.out]; rfl
    refine ⟨1, v2, Nat.le_refl _, by rw [HY0.out]; simp, ?_, ?_, ?_⟩
    · rw [e1]
      exact HP.out.below ((Below.refl _ _).alloc (Nat.le_refl _) _)
    · rw [e2]
      exact World.ownsRow_lit (size := 4) w2 #[.int .i64 y0.k, .string y0.s, .int .i64 y0.n, .int .i64 y0.at_] 1 HG.out.size (by unfold maxLen; omega) rfl
    · exact only_alloc HG.out _
  case round =>
    obtain ⟨k, v3, hk1, hk, hPr, hO, hGr⟩ := hrel
    have hsz := hGr.size
    by_cases hlt : k < ys.length
    · obtain ⟨x, hx⟩ : ∃ x, ys[k]? = some x := ⟨_, List.getElem?_eq_getElem hlt⟩
      have hxk : x.k = 2 := HYS.out x (List.mem_of_getElem? hx)
      have hd : ys.drop k = x :: ys.drop (k + 1) := by
        obtain ⟨h1, rfl⟩ := List.getElem?_eq_some_iff.1 hx
        exact List.drop_eq_getElem_cons h1
      have ht : ys.take (k + 1) = ys.take k ++ [x] := by
        obtain ⟨h1, rfl⟩ := List.getElem?_eq_some_iff.1 hx
        rw [List.take_succ_eq_append_getElem h1]
      rw [hd, List.cons_append] at hPr
      have HN := Lib.hid (next_any hPr)
      have HPR := Lib.hid hPr
      have hx2 : (x.k == 2) = true := by simpa using hxk
      have hx4 : x.k ≠ 4 := by omega
      have HO := Lib.hid hO
      have HGR := Lib.hid hGr
      have HT := Lib.hid ht
      have HSZ := Lib.hid hsz
      clear hPr hO hGr hd ht hx hxk hsz
      unfold T4.v at HN
      go_wp2_with (first | (go_at_call 57; refine (HN.out).mono ?_; rintro e w3 ⟨rfl, hb⟩; have HS := Lib.hid (step_any (HPR.out.below hb) hx4); unfold T4.v at HS; have HO3 := Lib.hid (own_blk_keep HO.out (grown_of_below hb) HPR.out.hd); have HG3 := Lib.hid (HGR.out.trans (grown_of_below hb)); have HP3 := Lib.hid (HPR.out.below hb); clear hb) | (go_at_call 132; refine (HS.out).mono ?_; rintro e w4 ⟨rfl, ⟨v4, hP⟩, hg⟩; have HP4 := Lib.hid hP; have HO4 := Lib.hid ((own_blk_keep HO3.out hg HP3.out.hd).alloc (.cells #[.int .i64 x.k, .string x.s, .int .i64 x.n, .int .i64 x.at_] 116)); have HG4 := Lib.hid (HG3.out.trans hg); have hs4 : Hid (w.heap.size ≤ w4.heap.size) := (HG3.out.trans hg).size; have hsw : Hid (w.heap.size ≤ (w4.alloc (.cells #[.int .i64 x.k, .string x.s, .int .i64 x.n, .int .i64 x.at_] 116)).heap.size) := Nat.le_trans (HG3.out.trans hg).size (by simp); have H1 : Hid (∀ j u, [Value.int .i64 x.k, .string x.s, .int .i64 x.n, .int .i64 x.at_][j]? = some u → (w4.alloc (.cells #[.int .i64 x.k, .string x.s, .int .i64 x.n, .int .i64 x.at_] 116)).cell? ((⟨w4.heap.size, 0, none⟩ : Addr).add j) = some u) := cells_new (l := [Value.int .i64 x.k, .string x.s, .int .i64 x.n, .int .i64 x.at_]); clear hP hg) | (at_builtin; refine wpList_append_own _ rfl (.tmp 11) (.tmp 14) 107 rfl w.heap.size 116 i0 _ 4 40 Tryz.underlying107 Hi.out Hz0.out Hz1.out Hz2.out rfl (Nat.succ_pos 3) _ k (t4s (ys.take k)) rfl HO4.out ⟨w4.heap.size, 0, none⟩ 1 1 [.int .i64 x.k, .string x.s, .int .i64 x.n, .int .i64 x.at_] rfl rfl H1.out (t4s_one [x]) (by unfold maxLen; omega) (by omega) hsw.out ?_; intro v' w5 own gr _))
      go_roundw
      case rel =>
        have hab : ∀ g, u3.ownBlock = some g → w.heap.size ≤ g := fun g hg => (HO.out.lt g hg).1
        have hP5 := HP4.out.below ((Below.refl w4.heap.size w4).alloc (Nat.le_refl _) (.cells #[.int .i64 x.k, .string x.s, .int .i64 x.n, .int .i64 x.at_] 116))
        refine ⟨k + 1, v4, by omega, by omega, hP5.grown gr (fun g hg => ?_), ?_, only_above (only_alloc HG4.out _) gr hab⟩
        · have := hab g hg
          omega
        · rw [HT.out, t4s_snoc]
          exact own
      case measure =>
        show ys.length - lenOf v' < ys.length - lenOf u3
        rw [own_len own, own_len HO.out]
        omega
    · have e : k = ys.length := by omega
      subst e
      rw [List.drop_length, List.nil_append] at hPr
      rw [List.take_length] at hO
      have HN := Lib.hid (next_any hPr)
      have HPR := Lib.hid hPr
      have hz2 : (z.k == 2) = false := by simpa using hz
      have HO := Lib.hid hO
      have HGR := Lib.hid hGr
      clear hPr hO hGr hsz hz
      unfold T4.v at HN
      go_wp2_with (go_at_call 57; refine (HN.out).mono ?_; rintro e w3 ⟨rfl, hb⟩; have HB := Lib.hid hb; clear hb)
      go_ret
      exact ⟨_, rfl, own_blk_keep HO.out (grown_of_below HB.out) HPR.out.hd, ⟨v3, HPR.out.below HB.out⟩, HGR.out.trans (grown_of_below HB.out)⟩
end
end Go.Proofs.YtdgfjpbjiccllaaGreatDoor.X
