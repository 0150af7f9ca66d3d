/- Joined texts: Lex7, Lex8, Lex9, Lex10. -/
import Derived.Test.YtdgfjpbjiccllaaGreatDoorJa10
import Derived.ScopeJumps
import Derived.WalkMore
import Derived.Deep.DeepCutAuto
/- The token that a text begins with. -/
namespace Go.Proofs.YtdgfjpbjiccllaaGreatDoor.X
open Go.RowKit
open Go.Proofs.YtdgfjpbjiccllaaGreatDoorW.PrintWords Go.Proofs.YtdgfjpbjiccllaaGreatDoorW.PrintLast Go.Proofs.YtdgfjpbjiccllaaGreatDoorW.PrintMore
set_option maxRecDepth 100000
set_option maxHeartbeats 8000000 in
theorem token_any (s : ByteArray) (hs : s.size ≤ 1000000) (h0 : 0 < s.size) (w : World) (htab : Lib.TabIs Tryz.prog w "strings.asciiSpace" .u8 Lib.asciiSpaceTab) :
    Calls Tryz.prog 95 #[.string s] w fun e w' => e = .returned (tokenL s).v ∧ Below w.heap.size w w' := by
  have hTB := Lib.tabBelow_of_tabIs htab
  have hb0 := byte_at s 0 h0
  have hB := Blk.new w 116 #[.int .i64 0, .string ⟨#[]⟩, .int .i64 0, .int .i64 0]
  have hW : Below w.heap.size w (w.alloc (.cells #[.int .i64 0, .string ⟨#[]⟩, .int .i64 0, .int .i64 0] 116)) := (Below.refl _ _).alloc (Nat.le_refl _) _
  have ht := hTB _ hW
  clear htab hTB
  cases hl : letter ((bytes s).getD 0 0) with
  | true =>
    have hn := name_tk s hs (w.alloc (.cells #[.int .i64 0, .string ⟨#[]⟩, .int .i64 0, .int .i64 0] 116)) ht hl
    have HN := Lib.hid hn
    have HL := Lib.hid hl
    have HB := Lib.hid hB
    have HW := Lib.hid hW
    have HB0 := Lib.hid hb0
    obtain ⟨T, hT⟩ : ∃ T, tokenL s = T := ⟨_, rfl⟩
    rw [hT] at HN ⊢
    clear hn hl hB hW hb0 ht hT
    go_enter Tryz.func95, Tryz.ntmps95
    go_wp2_with (first | (go_at_call 127; refine (letter_any _ _).mono ?_; rintro e w' ⟨rfl, rfl⟩; rw [HB0.out, HL.out]) | (go_at_call 128; refine (HN.out).mono ?_; rintro e w2 ⟨rfl, hb⟩; have D := HB.out.below hb (by simp); have g0 := D.cell 0; have g1 := D.cell 1; have g2 := D.cell 2; have g3 := D.cell 3; have f0 := D.frozen 0; have f1 := D.frozen 1; have f2 := D.frozen 2; have f3 := D.frozen 3; unfold Tk.v tok))
    refine bodyPost_ret (results_cell3 rfl _ _ w.heap.size 116 (((#[Value.int .i64 0, .string ⟨#[]⟩, .int .i64 0, .int .i64 0].setIfInBounds 0 (.int .i64 T.k)).setIfInBounds 1 (.string T.s)).setIfInBounds 2 (.int .i64 T.n) |>.setIfInBounds 3 (.int .i64 0)) _ rfl (((((D.set_ 0 _).set_ 1 _).set_ 2 _).set_ 3 _)) Tryz.underlying116 rfl (by kernel_rfl)) rfl ⟨rfl, ?_⟩
    exact ((((HW.out.trans (hb.mono (by simp))).setCell (Nat.le_refl _) _).setCell (Nat.le_refl _) _).setCell (Nat.le_refl _) _).setCell (Nat.le_refl _) _
  | false =>
    cases hd : digit ((bytes s).getD 0 0) with
    | true =>
      have hn := number_tk s hs h0 (w.alloc (.cells #[.int .i64 0, .string ⟨#[]⟩, .int .i64 0, .int .i64 0] 116)) hl hd
      have HN := Lib.hid hn
      have HD := Lib.hid hd
      have HL := Lib.hid hl
      have HB := Lib.hid hB
      have HW := Lib.hid hW
      have HB0 := Lib.hid hb0
      obtain ⟨T, hT⟩ : ∃ T, tokenL s = T := ⟨_, rfl⟩
      rw [hT] at HN ⊢
      clear hn hl hd hB hW hb0 ht hT
      go_enter Tryz.func95, Tryz.ntmps95
      go_wp2_with (first | (go_at_call 127; refine (letter_any _ _).mono ?_; rintro e w' ⟨rfl, rfl⟩; rw [HB0.out, HL.out]) | (go_at_call 129; refine (digit_any _ _).mono ?_; rintro e w' ⟨rfl, rfl⟩; rw [HB0.out, HD.out]) | (go_at_call 130; refine (HN.out).mono ?_; rintro e w2 ⟨rfl, hb⟩; have D := HB.out.below hb (by simp); have g0 := D.cell 0; have g1 := D.cell 1; have g2 := D.cell 2; have g3 := D.cell 3; have f0 := D.frozen 0; have f1 := D.frozen 1; have f2 := D.frozen 2; have f3 := D.frozen 3; unfold Tk.v tok))
      refine bodyPost_ret (results_cell3 rfl _ _ w.heap.size 116 (((#[Value.int .i64 0, .string ⟨#[]⟩, .int .i64 0, .int .i64 0].setIfInBounds 0 (.int .i64 T.k)).setIfInBounds 1 (.string T.s)).setIfInBounds 2 (.int .i64 T.n) |>.setIfInBounds 3 (.int .i64 0)) _ rfl (((((D.set_ 0 _).set_ 1 _).set_ 2 _).set_ 3 _)) Tryz.underlying116 rfl (by kernel_rfl)) rfl ⟨rfl, ?_⟩
      exact ((((HW.out.trans (hb.mono (by simp))).setCell (Nat.le_refl _) _).setCell (Nat.le_refl _) _).setCell (Nat.le_refl _) _).setCell (Nat.le_refl _) _
    | false =>
      have hT : tokenL s = if (bytes s).getD 0 0 == 59 then ⟨3, ⟨#[59]⟩, 0, 1, true⟩ else ⟨0, ⟨#[]⟩, 0, 0, false⟩ := by
        unfold tokenL
        rw [if_neg (by rw [hl]; decide), if_neg (by rw [hd]; decide)]
      have HD := Lib.hid hd
      have HL := Lib.hid hl
      have HB := Lib.hid hB
      have HW := Lib.hid hW
      have HB0 := Lib.hid hb0
      cases hq : ((bytes s).getD 0 0 == 59) with
      | true =>
        rw [hq, if_pos rfl] at hT
        rw [hT]
        have HQ := Lib.hid hq
        clear hl hd hB hW hb0 ht hT hq
        go_enter Tryz.func95, Tryz.ntmps95
        go_wp2_with (first | (go_at_call 127; refine (letter_any _ _).mono ?_; rintro e w' ⟨rfl, rfl⟩; rw [HB0.out, HL.out]) | (go_at_call 129; refine (digit_any _ _).mono ?_; rintro e w' ⟨rfl, rfl⟩; rw [HB0.out, HD.out]) | (go_at_call 131; refine (hp_any s h0 _).mono ?_; rintro e w2 ⟨rfl, hd⟩; have hb := hd.below; have D := HB.out.below hb (by simp); have g0 := D.cell 0; have g1 := D.cell 1; have g2 := D.cell 2; have g3 := D.cell 3; have f0 := D.frozen 0; have f1 := D.frozen 1; have f2 := D.frozen 2; have f3 := D.frozen 3; rw [HQ.out]))
        refine bodyPost_ret (results_cell3 rfl _ _ w.heap.size 116 (((#[Value.int .i64 0, .string ⟨#[]⟩, .int .i64 0, .int .i64 0].setIfInBounds 0 (.int .i64 3)).setIfInBounds 1 (.string ⟨#[59]⟩)).setIfInBounds 2 (.int .i64 0) |>.setIfInBounds 3 (.int .i64 0)) _ rfl (((((D.set_ 0 _).set_ 1 _).set_ 2 _).set_ 3 _)) Tryz.underlying116 rfl (by kernel_rfl)) rfl ⟨rfl, ?_⟩
        exact ((((HW.out.trans (hb.mono (by simp))).setCell (Nat.le_refl _) _).setCell (Nat.le_refl _) _).setCell (Nat.le_refl _) _).setCell (Nat.le_refl _) _
      | false =>
        rw [hq, if_neg (by decide)] at hT
        rw [hT]
        have HQ := Lib.hid hq
        clear hl hd hB hW hb0 ht hT hq
        go_enter Tryz.func95, Tryz.ntmps95
        go_wp2_with (first | (go_at_call 127; refine (letter_any _ _).mono ?_; rintro e w' ⟨rfl, rfl⟩; rw [HB0.out, HL.out]) | (go_at_call 129; refine (digit_any _ _).mono ?_; rintro e w' ⟨rfl, rfl⟩; rw [HB0.out, HD.out]) | (go_at_call 131; refine (hp_any s h0 _).mono ?_; rintro e w2 ⟨rfl, hd⟩; have hb := hd.below; have D := HB.out.below hb (by simp); have g0 := D.cell 0; have g1 := D.cell 1; have g2 := D.cell 2; have g3 := D.cell 3; have f0 := D.frozen 0; have f1 := D.frozen 1; have f2 := D.frozen 2; have f3 := D.frozen 3; rw [HQ.out]))
        refine bodyPost_ret (results_cell3 rfl _ _ w.heap.size 116 (((#[Value.int .i64 0, .string ⟨#[]⟩, .int .i64 0, .int .i64 0].setIfInBounds 0 (.int .i64 0)).setIfInBounds 1 (.string ⟨#[]⟩)).setIfInBounds 2 (.int .i64 0) |>.setIfInBounds 3 (.int .i64 0)) _ rfl (((((D.set_ 0 _).set_ 1 _).set_ 2 _).set_ 3 _)) Tryz.underlying116 rfl (by kernel_rfl)) rfl ⟨rfl, ?_⟩
        exact ((((HW.out.trans (hb.mono (by simp))).setCell (Nat.le_refl _) _).setCell (Nat.le_refl _) _).setCell (Nat.le_refl _) _).setCell (Nat.le_refl _) _
end Go.Proofs.YtdgfjpbjiccllaaGreatDoor.X
/- All tokens of a text, as plain Lean: what the walk of lex.Tokens will be shown to give. -/
namespace Go.Proofs.YtdgfjpbjiccllaaGreatDoor.X
open Go.RowKit
/-- A token with its place. -/
structure T4 where
  k : Int
  s : ByteArray
  n : Int
  at_ : Int
def T4.cells (t : T4) : List Value := [.int .i64 t.k, .string t.s, .int .i64 t.n, .int .i64 t.at_]
/-- The rest of a text. -/
def restOf (s : ByteArray) (a : Nat) : ByteArray := s.extract a s.size
/-- The tokens from a place on: the tokens, the place, the error's number. -/
def toks : Nat → ByteArray → Nat → List T4 → List T4 × Nat × Int
  | 0, _, a, _ => ([], a, 2)
  | f + 1, s, a, l =>
    if a = s.size then (l ++ [⟨4, ⟨#[]⟩, 0, a⟩], a, 0)
    else if 0 < gapL (bytes (restOf s a)) then toks f s (a + gapL (bytes (restOf s a))) l
    else if (tokenL (restOf s a)).ok then toks f s (a + (tokenL (restOf s a)).len) (l ++ [⟨(tokenL (restOf s a)).k, (tokenL (restOf s a)).s, (tokenL (restOf s a)).n, a⟩])
    else ([], a, 2)
def tokens (s : ByteArray) : List T4 × Nat × Int := if 4000 < s.size then ([], 0, 3) else toks (s.size + 1) s 0 []
theorem rest_size (s : ByteArray) (a : Nat) (h : a ≤ s.size) : (restOf s a).size = s.size - a := by
  unfold restOf
  rw [ByteArray.size_extract]
  omega
theorem gapL_le (l : List Int) (h : 0 < l.length) : gapL l ≤ l.length := by
  unfold gapL
  split
  · omega
  · split
    · exact spanL_le _ _
    · omega
theorem tokenL_len (s : ByteArray) (h : 0 < s.size) (hok : (tokenL s).ok = true) : 0 < (tokenL s).len ∧ (tokenL s).len ≤ s.size := by
  have hsp : ∀ p : Int → Bool, p ((bytes s).getD 0 0) = true → 0 < spanL p (bytes s) := by
    intro p hp
    have hl : 0 < (bytes s).length := by rw [bytes_length]; exact h
    cases hb : bytes s with
    | nil => rw [hb] at hl; exact absurd hl (by decide)
    | cons b t =>
      rw [hb] at hp
      have hp' : p b = true := hp
      unfold spanL
      rw [if_pos hp']
      omega
  have hn : nameN s ≤ s.size := by unfold nameN; rw [← bytes_length]; exact spanL_le _ _
  have hd : digN s ≤ s.size := by unfold digN; rw [← bytes_length]; exact spanL_le _ _
  unfold tokenL at hok ⊢
  by_cases c1 : letter ((bytes s).getD 0 0) = true
  · rw [if_pos c1]
    exact ⟨hsp more (by unfold more; rw [c1]; rfl), hn⟩
  · rw [if_neg c1] at hok ⊢
    by_cases c2 : digit ((bytes s).getD 0 0) = true
    · rw [if_pos c2] at hok ⊢
      split
      · exact ⟨hsp digit c2, hd⟩
      · exact ⟨hsp digit c2, hd⟩
    · rw [if_neg c2] at hok ⊢
      by_cases c3 : ((bytes s).getD 0 0 == 59) = true
      · rw [if_pos c3]
        exact ⟨Nat.one_pos, h⟩
      · rw [if_neg c3] at hok
        cases hok
end Go.Proofs.YtdgfjpbjiccllaaGreatDoor.X
/- All tokens: the walk. -/
namespace Go.Proofs.YtdgfjpbjiccllaaGreatDoor.X
open Go.RowKit
set_option maxRecDepth 100000
theorem results_three {fn : Func} {t u v : Tmp} (h : fn.results = #[.tmp t, .tmp u, .tmp v]) (tmps : Array Value) (P : Program) (w : World) :
    (results fn tmps).run P w = .ok (.tuple #[tmps.getD t undef, tmps.getD u undef, tmps.getD v undef]) w := by
  simp [results, h]
end Go.Proofs.YtdgfjpbjiccllaaGreatDoor.X
/- All tokens: the walk. -/
namespace Go.Proofs.YtdgfjpbjiccllaaGreatDoor.X
open Go.RowKit
open Go.Proofs.YtdgfjpbjiccllaaGreatDoorW.PrintWords Go.Proofs.YtdgfjpbjiccllaaGreatDoorW.PrintLast Go.Proofs.YtdgfjpbjiccllaaGreatDoorW.PrintMore
set_option maxRecDepth 100000
theorem Tryz.info116 : (Tryz.prog.info? 116).map (fun i => (i.zero, i.size, i.bytes)) = some (some (.agg #[.int .i64 0, .string ⟨#[]⟩, .int .i64 0, .int .i64 0]), 4, 40) := by kernel_rfl
def t4s (l : List T4) : List Value := l.flatMap T4.cells
theorem t4s_snoc (l : List T4) (x : T4) : t4s (l ++ [x]) = t4s l ++ x.cells := by simp [t4s]
theorem code_mono {c : Code} {P : Program} {Q Q' : Exit → Act → World → Prop} {a : Act} {w : World} (hc : c.wp P Q a w) (h : ∀ e a w, Q e a w → Q' e a w) : c.wp P Q' a w := by
  intro b k cs
  obtain ⟨e, a', w', hq, harr⟩ := hc b k cs
  exact ⟨e, a', w', h _ _ _ hq, harr⟩
theorem scope_once {P : Program} {a : Act} {w : World} {Q : Exit → Act → World → Prop} {c rest : Code} (l : Nat) (J : Act → World → Prop) (μ : Act → World → Nat) (hf : findLabel c l = some (Code.skip.seq rest))
    (pass : ∀ a w, J a w → rest.wp P (Exit.jump l (fun a' w' => J a' w' ∧ μ a' w' < μ a w) Q) a w)
    (first : Hid (∀ a w, J a w → rest.wp P (Exit.jump l J Q) a w) → c.wp P (Exit.jump l J Q) a w) : (Code.scope c).wp P Q a w := by
  refine wp_scope_jumps l J μ hf (first (Lib.hid fun a w hJ => code_mono (pass a w hJ) fun e a' w' h => ?_)) fun a w hJ => wp_seq (wp_skip (pass a w hJ))
  cases e with
  | goto l' => exact ⟨h.1, h.2.1⟩
  | _ => exact h
/-- What holds at the label: the place, the tokens so far, the token's own cells. -/
structure TJ (w wr : World) (s : ByteArray) (R : List T4 × Nat × Int) (a tb : Nat) (v : Value) (l : List T4) : Prop where
  le : a ≤ s.size
  ll : l.length ≤ a
  own : wr.ownsRow w.heap.size 116 4 v l.length (t4s l)
  t : ∃ k x n p, Blk wr tb 116 #[.int .i64 k, .string x, .int .i64 n, .int .i64 p]
  bt : w.heap.size ≤ tb
  nb : v.ownBlock ≠ some tb
  below : Below w.heap.size w wr
  res : ∃ f, s.size + 1 - a ≤ f ∧ toks f s a l = R
def JT (w : World) (s : ByteArray) (R : List T4 × Nat × Int) (a' : Act) (wr : World) : Prop :=
  ∃ (a tb : Nat) (v : Value) (l : List T4) (u1 u6 u7 u8 u9 u10 u11 u12 u13 u14 u15 u16 u17 u18 u19 u20 u21 u22 u23 u24 u25 u26 u27 u28 u29 u30 u31 u32 u33 u34 u35 u36 u37 u38 u39 u40 u41 u42 u43 u44 u45 u46 u47 u48 u49 : Value), TJ w wr s R a tb v l ∧ a' = { tmps := #[.string s, u1, v, .int .i64 a, .int .i64 0, .pointer (some ⟨tb, 0, none⟩), u6, u7, u8, u9, u10, u11, u12, u13, u14, u15, u16, u17, u18, u19, u20, u21, u22, u23, u24, u25, u26, u27, u28, u29, u30, u31, u32, u33, u34, u35, u36, u37, u38, u39, u40, u41, u42, u43, u44, u45, u46, u47, u48, u49], defers := [] }
set_option maxHeartbeats 8000000 in
theorem tokens_any (s : ByteArray) (h : s.size ≤ 4000) (w : World) (htab : Lib.TabIs Tryz.prog w "strings.asciiSpace" .u8 Lib.asciiSpaceTab) (R : List T4 × Nat × Int) (hR : tokens s = R) :
    Calls Tryz.prog 54 #[.string s] w fun e w' => ∃ v, e = .returned (.tuple #[v, .int .i64 R.2.1, .int .i64 R.2.2]) ∧ w'.ownsRow w.heap.size 116 4 v R.1.length (t4s R.1) ∧ Below w.heap.size w w' := by
  have HTB := Lib.hid (Lib.tabBelow_of_tabIs htab)
  have HR := Lib.hid hR
  clear htab hR
  go_enter Tryz.func54, Tryz.ntmps54
  go_wp2
  refine scope_once 0 (JT w s R) (fun a' _ => s.size - (intOf (a'.tmps.getD 3 undef)).toNat) (by rfl) ?_ ?_
  · rintro a' wr ⟨a, tb, v, l, u1, u6, u7, u8, u9, u10, u11, u12, u13, u14, u15, u16, u17, u18, u19, u20, u21, u22, u23, u24, u25, u26, u27, u28, u29, u30, u31, u32, u33, u34, u35, u36, u37, u38, u39, u40, u41, u42, u43, u44, u45, u46, u47, u48, u49, H, rfl⟩
    obtain ⟨i0, hi0, hz0, hz1, hz2⟩ := info_parts Tryz.info116
    have Hz0 := Lib.hid hz0; clear hz0
    have Hz1 := Lib.hid hz1; clear hz1
    have Hz2 := Lib.hid hz2; clear hz2
    have Hi := Lib.hid hi0; clear hi0
    have hale := H.le
    have HH := Lib.hid H
    by_cases ce : a = s.size
    · obtain ⟨f, hf, hr⟩ := H.res
      obtain ⟨f, rfl⟩ : ∃ f', f = f' + 1 := ⟨f - 1, by omega⟩
      unfold toks at hr
      rw [if_pos ce] at hr
      have HRR := Lib.hid hr
      have ee : ((a : Int) == (s.size : Int)) = true := by rw [ce]; simp
      have hll := H.ll
      have hwr := H.below.size
      have HV := Lib.hid (H.own.alloc (.cells #[.int .i64 4, .string ⟨#[]⟩, .int .i64 0, .int .i64 a] 116))
      have H1 : Hid (∀ j u, [Value.int .i64 4, .string ⟨#[]⟩, .int .i64 0, .int .i64 a][j]? = some u → (wr.alloc (.cells #[.int .i64 4, .string ⟨#[]⟩, .int .i64 0, .int .i64 a] 116)).cell? ((⟨wr.heap.size, 0, none⟩ : Addr).add j) = some u) :=
        cells_new (l := [Value.int .i64 4, .string ⟨#[]⟩, .int .i64 0, .int .i64 a])
      have H2 : Hid (∀ u ∈ [Value.int .i64 4, .string ⟨#[]⟩, .int .i64 0, .int .i64 a], u.oneCell' = true) := by
        intro u hu
        simp at hu
        rcases hu with rfl | rfl | rfl | rfl <;> rfl
      have H3 : Hid (l.length + 1 ≤ maxLen) := by unfold Hid maxLen; omega
      have H4 : Hid ((l.length + 1) * 40 ≤ 140737488355328) := by unfold Hid; omega
      have H5 : Hid (w.heap.size ≤ (wr.alloc (.cells #[.int .i64 4, .string ⟨#[]⟩, .int .i64 0, .int .i64 a] 116)).heap.size) := by unfold Hid; simp; omega
      clear H hr hf ce hll hwr
      go_wp2_with (at_builtin; refine wpList_append_own_at _ rfl (.tmp 15) (.tmp 18) 107 rfl w.heap.size 116 i0 _ 4 40 Tryz.underlying107 Hi.out Hz0.out Hz1.out Hz2.out rfl (Nat.succ_pos 3) v l.length (t4s l) rfl HV.out ⟨wr.heap.size, 0, none⟩ 1 1 [.int .i64 4, .string ⟨#[]⟩, .int .i64 0, .int .i64 a] rfl rfl H1.out H2.out H3.out H4.out H5.out ?_; intro v' w' own gr _ _)
      simp only [Exit.jump]
      refine bodyPost_ret (results_three rfl _ _ _) rfl ⟨v', ?_, ?_, ?_⟩
      · rw [← HRR.out]; rfl
      · rw [← HRR.out]
        simp only [t4s_snoc, List.length_append, List.length_singleton]
        exact own
      · exact (HH.out.below.alloc HH.out.below.size _).grown gr (by simp; have := HH.out.below.size; omega) (fun k hk => by
          rcases HH.out.own.2 with ⟨h0, _⟩ | ⟨g, c, cur, h0, hb, _⟩
          · rw [h0] at hk; simp [Value.ownBlock] at hk
          · rw [h0] at hk; simp [Value.ownBlock] at hk; omega)
    · have hlt : a < s.size := by omega
      have hrs := rest_size s a (by omega)
      obtain ⟨f, hf, hr⟩ := H.res
      obtain ⟨f, rfl⟩ : ∃ f', f = f' + 1 := ⟨f - 1, by omega⟩
      unfold toks at hr
      rw [if_neg ce] at hr
      have ee : ((a : Int) == (s.size : Int)) = false := by simp; omega
      have hgap := gap_any (restOf s a) (by omega) (by omega) wr
      obtain ⟨g, hg⟩ : ∃ g, gapL (bytes (restOf s a)) = g := ⟨_, rfl⟩
      have hgl : g ≤ s.size - a := by
        have := gapL_le (bytes (restOf s a)) (by rw [bytes_length]; omega)
        rw [bytes_length, hrs, hg] at this
        exact this
      rw [hg] at hgap hr
      have HG := Lib.hid hgap
      have HRS := Lib.hid hrs
      have h4 : s.size ≤ 4000 := h
      by_cases cg : 0 < g
      · rw [if_pos cg] at hr
        have HRR := Lib.hid hr
        have cgi : (0 : Int) < (g : Int) := by omega
        have hag : a + g ≤ 4000 := by omega
        clear H hr ce hg hgap hrs
        go_wp2_with (go_at_call 94; refine (HG.out).mono ?_; rintro e w' ⟨rfl, rfl⟩)
        go_step3
        have ew : IntKind.i64.wrap ((a : Int) + (g : Int)) = ((a + g : Nat) : Int)   := by rw [IntWalk.i64_in _ (by omega)]; omega
        first | rw [ew] | skip
        refine ⟨rfl, ⟨a + g, tb, v, l, _, _, _, _, _, _, _, _, _, _, _, _, _, _, _, _, _, _, _, _, _, _, _, _, _, _, _, _, _, _, _, _, _, _, _, _, _, _, _, _, _, _, _, _, _, ⟨by omega, by have := HH.out.ll; omega, HH.out.own, HH.out.t, HH.out.bt, HH.out.nb, HH.out.below, ⟨f, by omega, HRR.out⟩⟩, rfl⟩, ?_⟩
        show s.size - (intOf (.int .i64 ((a + g : Nat) : Int))).toNat < s.size - (intOf (.int .i64 (a : Int))).toNat
        simp only [intOf, Int.toNat_natCast]
        omega
      · rw [if_neg cg] at hr
        have HRR := Lib.hid hr
        have cgi : ¬ (0 : Int) < (g : Int) := by omega
        obtain ⟨tk, tx, tn, tp, hT⟩ := H.t
        have hbt := H.bt
        have htl := hT.lt
        have htk := token_any (restOf s a) (by omega) (by omega) wr (HTB.out wr H.below)
        obtain ⟨K, hK⟩ : ∃ K, tokenL (restOf s a) = K := ⟨_, rfl⟩
        have htl' := tokenL_len (restOf s a) (by omega)
        rw [hK] at htk hr htl'
        rw [hrs] at htl'
        have HTK := Lib.hid htk
        have HHT := Lib.hid hT
        have hte : wr.heap.size = wr.heap.size := rfl
        cases hok : K.ok with
        | true =>
          rw [if_pos hok] at hr
          obtain ⟨q1, q2⟩ := htl' hok
          obtain ⟨Kk, Ks, Kn, Kl, Ko⟩ := K
          simp only at hok q1 q2 hr
          subst hok
          have HRR := Lib.hid hr
          have hag : a + Kl ≤ 4000 := by omega
          clear H hr ce hg hgap hrs htk hT htl' hK hte
          unfold Tk.v tok at HTK
          go_upto_region 15 with (first | (go_at_call 94; refine (HG.out).mono ?_; rintro e w' ⟨rfl, rfl⟩) | (go_at_call 95; refine (HTK.out).mono ?_; rintro e w2 ⟨rfl, hb⟩; have D := HHT.out.below hb htl; have g0 := D.cell 0; have g1 := D.cell 1; have g2 := D.cell 2; have g3 := D.cell 3; have f0 := D.frozen 0; have f1 := D.frozen 1; have f2 := D.frozen 2; have f3 := D.frozen 3))
          clear g0 g1 g2 g3 f0 f1 f2 f3
          have ND := Lib.hid (((((D.set_ 0 (.int .i64 Kk)).set_ 1 (.string Ks)).set_ 2 (.int .i64 Kn)).set_ 3 (.int .i64 0)).set_ 3 (.int .i64 (a : Int)))
          have hf2 : Below wr.heap.size wr w2 := hb
          have hw0 := HH.out.below.size
          have NB := Lib.hid ((((((HH.out.below.trans (hb.mono hw0)).setCell hbt (.int .i64 Kk) (p := ⟨tb, 0, none⟩)).setCell hbt (.string Ks) (p := ⟨tb, 1, none⟩)).setCell hbt (.int .i64 Kn) (p := ⟨tb, 2, none⟩)).setCell hbt (.int .i64 0) (p := ⟨tb, 3, none⟩)).setCell hbt (.int .i64 (a : Int)) (p := ⟨tb, 3, none⟩))
          have hv2 : w2.ownsRow w.heap.size 116 4 v l.length (t4s l) := by
            refine ⟨HH.out.own.1, ?_⟩
            rcases HH.out.own.2 with h0 | ⟨g', c, cur, hv, hgb, hh, rest⟩
            · exact .inl h0
            · exact .inr ⟨g', c, cur, hv, hgb, (hb.block g' (Blk.lt (t := 116) hh)).trans hh, rest⟩
          have NV := Lib.hid (own_far (own_far (own_far (own_far (own_far hv2 HH.out.nb (o := 0) (.int .i64 Kk)) HH.out.nb (o := 1) (.string Ks)) HH.out.nb (o := 2) (.int .i64 Kn)) HH.out.nb (o := 3) (.int .i64 0)) HH.out.nb (o := 3) (.int .i64 (a : Int)))
          have hs2 := hb.size
          have hs3 : (((((w2.setCell ⟨tb, 0, none⟩ (.int .i64 Kk)).setCell ⟨tb, 1, none⟩ (.string Ks)).setCell ⟨tb, 2, none⟩ (.int .i64 Kn)).setCell ⟨tb, 3, none⟩ (.int .i64 0)).setCell ⟨tb, 3, none⟩ (.int .i64 (a : Int))).heap.size = w2.heap.size := by simp [World.setCell]
          obtain ⟨w3, hw3⟩ : ∃ w3, ((((w2.setCell ⟨tb, 0, none⟩ (.int .i64 Kk)).setCell ⟨tb, 1, none⟩ (.string Ks)).setCell ⟨tb, 2, none⟩ (.int .i64 Kn)).setCell ⟨tb, 3, none⟩ (.int .i64 0)).setCell ⟨tb, 3, none⟩ (.int .i64 (a : Int)) = w3 := ⟨_, rfl⟩
          rw [hw3] at ND NB NV hs3 ⊢
          have q0 : w3.cell? ⟨tb, 0, none⟩ = some (.int .i64 Kk) := ND.out.cell 0
          have q1' : w3.cell? ⟨tb, 1, none⟩ = some (.string Ks) := ND.out.cell 1
          have q2' : w3.cell? ⟨tb, 2, none⟩ = some (.int .i64 Kn) := ND.out.cell 2
          have q3 : w3.cell? ⟨tb, 3, none⟩ = some (.int .i64 (a : Int)) := ND.out.cell 3
          have htl3 : tb < w3.heap.size := by omega
          have hwl3 : w.heap.size ≤ w3.heap.size := by omega
          have hll := HH.out.ll
          have HV := Lib.hid (NV.out.alloc (.cells #[.int .i64 Kk, .string Ks, .int .i64 Kn, .int .i64 a] 116))
          have H1 : Hid (∀ j u, [Value.int .i64 Kk, .string Ks, .int .i64 Kn, .int .i64 a][j]? = some u → (w3.alloc (.cells #[.int .i64 Kk, .string Ks, .int .i64 Kn, .int .i64 a] 116)).cell? ((⟨w3.heap.size, 0, none⟩ : Addr).add j) = some u) :=
            cells_new (l := [Value.int .i64 Kk, .string Ks, .int .i64 Kn, .int .i64 a])
          have H2 : Hid (∀ u ∈ [Value.int .i64 Kk, .string Ks, .int .i64 Kn, .int .i64 a], u.oneCell' = true) := by
            intro u hu
            simp at hu
            rcases hu with rfl | rfl | rfl | rfl <;> rfl
          have H3 : Hid (l.length + 1 ≤ maxLen) := by unfold Hid maxLen; omega
          have H4 : Hid ((l.length + 1) * 40 ≤ 140737488355328) := by unfold Hid; omega
          have H5 : Hid (w.heap.size ≤ (w3.alloc (.cells #[.int .i64 Kk, .string Ks, .int .i64 Kn, .int .i64 a] 116)).heap.size) := by unfold Hid; simp; omega
          have HN := Lib.hid HH.out.nb
          have HS := Lib.hid htl3
          have HSW := Lib.hid hwl3
          have HB3 := Lib.hid hbt
          clear hv2 hs2 hs3 hw3 hf2 hw0 hb D htl3 hwl3
          go_wp2_with (at_builtin; refine wpList_append_own_at _ rfl (.tmp 43) (.tmp 45) 107 rfl w.heap.size 116 i0 _ 4 40 Tryz.underlying107 Hi.out Hz0.out Hz1.out Hz2.out rfl (Nat.succ_pos 3) v l.length (t4s l) rfl HV.out ⟨w3.heap.size, 0, none⟩ 1 1 [.int .i64 Kk, .string Ks, .int .i64 Kn, .int .i64 a] rfl rfl H1.out H2.out H3.out H4.out H5.out ?_; intro v' w' own gr _ wh)
          go_step3
          have ew : IntKind.i64.wrap ((a : Int) + (Kl : Int)) = ((a + Kl : Nat) : Int) := by rw [IntWalk.i64_in _ (by omega)]; omega
          first | rw [ew] | skip
          have hs3' : (w3.alloc (.cells #[.int .i64 Kk, .string Ks, .int .i64 Kn, .int .i64 a] 116)).heap.size = w3.heap.size + 1 := by simp
          refine ⟨rfl, ⟨a + Kl, tb, v', l ++ [⟨Kk, Ks, Kn, a⟩], _, _, _, _, _, _, _, _, _, _, _, _, _, _, _, _, _, _, _, _, _, _, _, _, _, _, _, _, _, _, _, _, _, _, _, _, _, _, _, _, _, _, _, _, _, ⟨by omega, by simp; omega, ?_, ?_, hbt, ?_, ?_, ⟨f, by omega, HRR.out⟩⟩, rfl⟩, ?_⟩
          · rw [t4s_snoc, List.length_append]
            exact own
          · exact ⟨Kk, Ks, Kn, a, (ND.out.alloc _).grown gr (fun e => HN.out e.symm)⟩
          · rcases wh with e | e
            · rw [e]; exact HN.out
            · rw [e]
              intro e
              injection e with e
              have := HS.out
              omega
          · refine (NB.out.alloc HSW.out _).grown gr (by have := HSW.out; omega) (fun k hk => ?_)
            rcases HH.out.own.2 with ⟨h0, _⟩ | ⟨g, c, cur, h0, hb, _⟩
            · rw [h0] at hk; simp [Value.ownBlock] at hk
            · rw [h0] at hk; simp [Value.ownBlock] at hk; omega
          · show s.size - (intOf (.int .i64 ((a + Kl : Nat) : Int))).toNat < s.size - (intOf (.int .i64 (a : Int))).toNat
            simp only [intOf, Int.toNat_natCast]
            omega
        | false =>
          rw [if_neg (by rw [hok]; decide)] at hr
          obtain ⟨Kk, Ks, Kn, Kl, Ko⟩ := K
          simp only at hok
          subst hok
          have HRR := Lib.hid hr
          clear H hr ce hg hgap hrs htk hT htl' hK hte
          unfold Tk.v tok at HTK
          go_wp2_with (first | (go_at_call 94; refine (HG.out).mono ?_; rintro e w' ⟨rfl, rfl⟩) | (go_at_call 95; refine (HTK.out).mono ?_; rintro e w2 ⟨rfl, hb⟩; have D := HHT.out.below hb htl; have g0 := D.cell 0; have g1 := D.cell 1; have g2 := D.cell 2; have g3 := D.cell 3; have f0 := D.frozen 0; have f1 := D.frozen 1; have f2 := D.frozen 2; have f3 := D.frozen 3))
          simp only [Exit.jump]
          refine bodyPost_ret (results_three rfl _ _ _) rfl ⟨.slice none 0 0, ?_, ?_, ?_⟩
          · rw [← HRR.out]; rfl
          · rw [← HRR.out]
            exact World.ownsRow_nil _ _ _ _
          · exact ((((HH.out.below.trans (hb.mono HH.out.below.size)).setCell hbt _).setCell hbt _).setCell hbt _).setCell hbt _
  · intro hp
    go_wp2
    go_step3
    rename_i hk
    refine hk _ _ ?_
    refine hp.out _ _ ?_
    have HQ : TJ w (w.alloc (.cells #[.int .i64 0, .string ⟨#[]⟩, .int .i64 0, .int .i64 0] 116)) s R 0 w.heap.size (.slice none 0 0) [] := by
      refine ⟨Nat.zero_le _, Nat.le_refl _, World.ownsRow_nil _ _ _ _, ⟨_, _, _, _, Blk.new w 116 #[.int .i64 0, .string ⟨#[]⟩, .int .i64 0, .int .i64 0]⟩, Nat.le_refl _, by simp [Value.ownBlock], (Below.refl _ _).alloc (Nat.le_refl _) _, ?_⟩
      have hr := HR.out
      unfold tokens at hr
      rw [if_neg (by omega)] at hr
      exact ⟨_, by omega, hr⟩
    exact ⟨0, w.heap.size, .slice none 0 0, [], _, _, _, _, _, _, _, _, _, _, _, _, _, _, _, _, _, _, _, _, _, _, _, _, _, _, _, _, _, _, _, _, _, _, _, _, _, _, _, _, _, _, _, _, _, HQ, rfl⟩
end Go.Proofs.YtdgfjpbjiccllaaGreatDoor.X
