/- Joined texts: Par6, Exe2, Px3. -/
import Derived.Test.YtdgfjpbjiccllaaGreatDoorJa23
import Derived.Deep.RegionLaw
import Derived.Test.YtdgfjpbjiccllaaGreatDoorJa22
import Derived.Test.YtdgfjpbjiccllaaGreatDoorJa04
import Derived.Test.YtdgfjpbjiccllaaGreatDoorJa14
/- The parser where the text is well: Parse. -/
namespace Go.Proofs.YtdgfjpbjiccllaaGreatDoor.X
open Go.RowKit
open Go.Proofs.YtdgfjpbjiccllaaGreatDoorW.PrintWords Go.Proofs.YtdgfjpbjiccllaaGreatDoorW.PrintLast Go.Proofs.YtdgfjpbjiccllaaGreatDoorW.PrintMore
open Go.Proofs.YtdgfjpbjiccllaaGreatDoor.PTopLoads (S46)
set_option maxRecDepth 100000
/-- Tasks' tokens. -/
inductive TasksP : List T4 → List S46 → Prop
  | nil : TasksP [] []
  | cons (ts rest : List T4) (x : S46) (l : List S46) (h : TaskP ts x) (t : TasksP rest l) : TasksP (ts ++ rest) (x :: l)
theorem TaskP.head {ts : List T4} {x : S46} (h : TaskP ts x) : ∃ a l, ts = a :: l ∧ a.k = 3 := by
  obtain ⟨a, n, p1, p2, d1, d2, ms, g, ys, es, us, s, m, q, th, e, u, rfl, ha, _⟩ := h.out
  exact ⟨a, _, rfl, isTok_k ha⟩
/-- A text that is a set's. -/
structure SetTextP (s : ByteArray) (rel : Int) (L : List S46) : Prop where
  sz : s.size ≤ 4000
  out : ∃ r0 r1 sm body e, tokens s = (r0 :: r1 :: sm :: (body ++ [e]), s.size, 0) ∧ isTok r0 sReload = true ∧ r1.k = 2 ∧ r1.n = rel ∧ isTok sm sSemi = true ∧ TasksP body L ∧ e.k = 4 ∧ body.length ≤ 5000
section
variable {w w' w2 wr : World} {pp tb tk rb B : Nat} {v v' tv : Value} {L L' T : List T4} {x y z : T4} {cs : Array Value} {K R : List Value}
theorem own_cells' {base e size n : Nat} {xs : List Value} (h : w.ownsRow base e size v n xs) (h0 : 0 < n) :
    ∃ g c cs, v = .slice (some ⟨g, 0, none⟩) n c ∧ n ≤ c ∧ base ≤ g ∧ Blk w g e cs ∧ ∀ i, i < xs.length → cs[i]? = xs[i]? := by
  rcases h.2 with ⟨_, h1⟩ | ⟨g, c, cur, rfl, hb, hh, hn, _, hs, ht⟩
  · omega
  · refine ⟨g, c, cur, rfl, hn, hb, hh, fun i hi => ?_⟩
    rw [← ht, List.getElem?_take_of_lt (by have := h.1; omega)]
    simp
/-- Tasks grow by one. -/
theorem tasks_snoc {tv' r : Value} {L : List S46} {x : S46} (h : TasksAt w B tv L R) (hr : w.ownsRow B 2 1 r x.f6.length (J.ints x.f6)) (hg : w.grownBy w' tv.ownBlock) (own : w'.ownsRow B 46 9 tv' (L.length + 1) (tcs L R ++ tcells x r)) : TasksAt w' B tv' (L ++ [x]) (R ++ [r]) := by
  have hne : ∀ {u : Value} {m : Nat} {xs : List Value}, w.ownsRow B 2 1 u m xs → u.ownBlock ≠ tv.ownBlock ∨ u.ownBlock = none := by
    intro u m xs hu
    rcases hu.2 with ⟨rfl, _⟩ | ⟨g, c, cur, rfl, _, hh, _⟩
    · exact .inr rfl
    · refine .inl fun e => ?_
      exact own_blk_ne h.row (hh : Blk w g 2 cur) (by decide) (by rw [← e]; rfl)
  have hkeep : ∀ {u : Value} {m : Nat} {xs : List Value}, w.ownsRow B 2 1 u m xs → w'.ownsRow B 2 1 u m xs := by
    intro u m xs hu
    exact J.own_keep hu hg ((hne hu).symm.imp_right id)
  refine ⟨by simp [h.len], ?_, ?_⟩
  · rw [tcs_snoc x r L R h.len, List.length_append]
    exact own
  · intro i hi
    rcases Nat.lt_or_ge i L.length with h1 | h1
    · rw [List.getElem_append_left (by rw [h.len]; exact h1)]
      simp only [List.getElem_append_left h1]
      exact hkeep (h.regs i h1)
    · have e : i = L.length := by simp at hi; omega
      subst e
      have q1 : (R ++ [r])[L.length]'(by simp [h.len]) = r := by
        rw [List.getElem_append_right (by rw [h.len]; exact Nat.le_refl _)]
        simp [h.len]
      rw [q1]
      simp only [List.getElem_append_right (Nat.le_refl _), Nat.sub_self, List.getElem_cons_zero]
      exact hkeep hr
/-- A text that is being read. -/
structure PSt (w wr : World) (B pp tb rb : Nat) (v : Value) (M : List T4) (rel : Int) (tv : Value) (L : List S46) (R : List Value) (pv : Value) (P : List Int) : Prop where
  p : PAt wr pp tb v M
  r : Blk wr rb 24 #[.int .i64 rel, tv]
  ta : TasksAt wr B tv L R
  pl : wr.ownsRow B 3 1 pv P.length (J.ints P)
  g : Below B w wr
  hp : B ≤ pp
  ht : B ≤ tb
  hr : B ≤ rb
  tt : ∃ cs, Blk wr tb 116 cs
section
variable {M M' : List T4} {rel : Int} {L : List S46} {pv : Value} {P : List Int}
theorem PSt.next {w w' wr : World} {B pp tb rb : Nat} {v v' tv : Value} {R : List Value} (h : PSt w wr B pp tb rb v M rel tv L R pv P) (hP : PAt w' pp tb v' M') (hg : wr.grownBy w' (some pp)) : PSt w w' B pp tb rb v' M' rel tv L R pv P := by
  have hf : Fr 0 [112] 0 wr w' := Fr.of_blk hg h.p.hd (Nat.zero_le _) (by simp)
  exact ⟨hP, h.r.fr hf (by decide), h.ta.fr hf (by decide) (by decide), own_fr h.pl hf (by decide), h.g.grown hg (by have := h.hp; have := h.p.hd.lt; omega) (fun k hk => by injection hk with hk; have := h.hp; omega), h.hp, h.ht, h.hr, h.tt.imp fun _ hb => hb.fr hf (by decide)⟩
theorem PSt.below {w w' wr : World} {B pp tb rb : Nat} {v tv : Value} {R : List Value} (h : PSt w wr B pp tb rb v M rel tv L R pv P) (hb : Below wr.heap.size wr w') : PSt w w' B pp tb rb v M rel tv L R pv P := h.next (h.p.below hb) (grown_of_below hb)
theorem PSt.rel_ {w wr : World} {B pp tb rb : Nat} {v tv : Value} {R : List Value} (h : PSt w wr B pp tb rb v M rel tv L R pv P) (x : Int) (hrp : rb ≠ pp) (hrt : rb ≠ tb) : PSt w (wr.setCell ⟨rb, 0, none⟩ (.int .i64 x)) B pp tb rb v M x tv L R pv P := by
  have hf : Fr 0 [24] 0 wr (wr.setCell ⟨rb, 0, none⟩ (.int .i64 x)) := Fr.of_blk (only_setCell (World.grownBy.refl _ _) (.inl rfl) _) h.r (Nat.zero_le _) (by simp)
  exact ⟨h.p.far hrp hrt _, h.r.set_ 0 _, h.ta.fr hf (by decide) (by decide), own_fr h.pl hf (by decide), h.g.setCell h.hr _, h.hp, h.ht, h.hr, h.tt.imp fun _ hb => hb.fr hf (by decide)⟩
theorem own_apart {w : World} {base e size n t g : Nat} {u : Value} {xs : List Value} {cs : Array Value} (h : w.ownsRow base e size u n xs) (hb : Blk w g t cs) (hne : e ≠ t) : ∀ k, u.ownBlock = some k → k ≠ g := fun k hk e' => own_blk_ne h hb hne (by rw [hk, e'])
theorem PSt.places {w wr w' : World} {B pp tb rb : Nat} {v tv pv' : Value} {R : List Value} (h : PSt w wr B pp tb rb v M rel tv L R pv P) (x : Int) (hg : wr.grownBy w' pv.ownBlock) (own : w'.ownsRow B 3 1 pv' (P.length + 1) (J.ints P ++ [.int .i64 x])) : PSt w w' B pp tb rb v M rel tv L R pv' (P ++ [x]) := by
  have hf : Fr 0 [3] B wr w' := Fr.of_own hg h.pl (Nat.le_refl _) (by simp)
  obtain ⟨cs, ht⟩ := h.tt
  refine ⟨h.p.grown hg fun g hk => ⟨own_apart h.pl h.p.hd (by decide) g hk, own_apart h.pl ht (by decide) g hk⟩, h.r.fr hf (by decide), h.ta.fr hf (by decide) (by decide), ?_, h.g.trans (hf.below (Nat.le_refl _) (Nat.le_trans h.hr (Nat.le_of_lt h.r.lt))), h.hp, h.ht, h.hr, cs, ht.fr hf (by decide)⟩
  rw [List.length_append, show J.ints (P ++ [x]) = J.ints P ++ [.int .i64 x] from J.ints_snoc _ _]
  exact own
theorem PSt.taskd {w wr w' : World} {B pp tb rb : Nat} {v tv tv' r : Value} {R : List Value} {x : S46} (h : PSt w wr B pp tb rb v M rel tv L R pv P) (hr : wr.ownsRow B 2 1 r x.f6.length (J.ints x.f6)) (hg : wr.grownBy w' tv.ownBlock) (own : w'.ownsRow B 46 9 tv' (L.length + 1) (tcs L R ++ tcells x r)) (hrp : rb ≠ pp) (hrt : rb ≠ tb) :
    PSt w (w'.setCell ⟨rb, 1, none⟩ tv') B pp tb rb v M rel tv' (L ++ [x]) (R ++ [r]) pv P := by
  have hf : Fr 0 [46] B wr w' := Fr.of_own hg h.ta.row (Nat.le_refl _) (by simp)
  have hr2 := h.r.fr hf (by decide)
  have hf2 : Fr 0 [24] 0 w' (w'.setCell ⟨rb, 1, none⟩ tv') := Fr.of_blk (only_setCell (World.grownBy.refl _ (some rb)) (p := ⟨rb, 1, none⟩) (.inl rfl) _) hr2 (Nat.zero_le _) (by simp)
  obtain ⟨cs, ht⟩ := h.tt
  exact ⟨(h.p.grown hg fun g hk => ⟨own_apart h.ta.row h.p.hd (by decide) g hk, own_apart h.ta.row ht (by decide) g hk⟩).far hrp hrt _, hr2.set_ 1 _, (tasks_snoc h.ta hr hg own).fr hf2 (by decide) (by decide), own_fr (own_fr h.pl hf (by decide)) hf2 (by decide), (h.g.trans (hf.below (Nat.le_refl _) (Nat.le_trans h.hr (Nat.le_of_lt h.r.lt)))).setCell h.hr _, h.hp, h.ht, h.hr, cs, (ht.fr hf (by decide)).fr hf2 (by decide)⟩
end
theorem src_of {w : World} {B : Nat} {A : Option Addr} {c : Nat} {L : List S46} {R : List Value} (h : TasksAt w B (.slice A L.length c) L R) (h8 : ∀ x ∈ L, x.f6.length ≤ 8) : Src w A L := by
  rcases Nat.eq_zero_or_pos L.length with h0 | h0
  · exact .inl (List.length_eq_zero_iff.1 h0)
  · obtain ⟨a, c', cs, hv, hb, hB, hc⟩ := h.at_ h0
    injection hv with hA _ _
    refine .inr ⟨a, 0, hA, hB.lt, fun i x hx => ?_⟩
    obtain ⟨hi, rfl⟩ := List.getElem?_eq_some_iff.1 hx
    obtain ⟨ra, rc, hrv, hle, _, hN⟩ := ints_C (h.regs i hi) (by have := h8 L[i] (List.getElem_mem hi); omega)
    have g : ∀ j, j < 9 → w.cell? ⟨a, 0 + i * 9 + j, none⟩ = (tcells L[i] (.slice ra L[i].f6.length rc))[j]? := fun j hj => by
      rw [← hrv, Nat.zero_add]
      exact (hB.cell _).trans (hc i j hi hj)
    exact ⟨ra, rc, g 0 (by decide), g 1 (by decide), g 2 (by decide), g 3 (by decide), g 4 (by decide), g 5 (by decide), g 6 (by decide), g 7 (by decide), g 8 (by decide), hN, hle⟩
theorem tasks_below {w w' : World} {B : Nat} {tv : Value} {L : List S46} {R : List Value} (h : TasksAt w B tv L R) (hb : Below w.heap.size w w') : TasksAt w' B tv L R := h.fr (E := 0) (ts := []) (C := 0) (Fr.of_below hb) (by simp) (by simp)
theorem Tryz.info3 : (Tryz.prog.info? 3).map (fun i => (i.zero, i.size, i.bytes)) = some (some (.int .i64 0), 1, 8) := by kernel_rfl
end
theorem enter58 (v : Value) (w : World) : (callFunc 58 #[v]).run Tryz.prog w = .ok (.enter 58 #[v]) w := by kernel_rfl
theorem step_call58 {ops : Array Oper} {o : Oper} {a : Act} {w : World} {K : Act → World → Prop} {Q : Exit → Act → World → Prop} {E : Prop} (hgd : o.guard = none) (x : Operand)
    (ho : o.op = .call { callee := .value (.func 58), args := #[x], argTypes := #[110] }) (v : Value) (hx : a.eval x = v)
    (hc : Calls Tryz.prog 58 #[v] w fun e w' => ∃ r, e = .returned r ∧ K (a.put o.dst r) w') :
    if Region.wanted o (yielded ops a.tmps) = true then Oper.wp Tryz.prog o a w K Q else E := by
  have hw : Region.wanted o (yielded ops a.tmps) = true := by simp [Region.wanted, hgd]
  rw [if_pos hw]
  unfold Oper.wp
  have e : a.eval (Operand.func 58) = .func (.func 58) #[] #[] := rfl
  have e2 := enter58 v w
  simp only [execOp, ho, resolve, invoke, Deferred.ofValue, e, hx, Sem.run_bind, Sem.run_pure, Result.andThen_ok, List.map_toArray, List.map_cons, List.map_nil, List.append_toArray, List.nil_append, List.append_nil, e2, Oper.upon_enter]
  refine hc.mono ?_
  rintro e w' ⟨r, rfl, h⟩
  exact h
set_option maxHeartbeats 16000000 in
theorem parse_yes {w : World} {s : ByteArray} {rel : Int} {L : List S46} (hT : SetTextP s rel L) (htab : Lib.TabIs Tryz.prog w "strings.asciiSpace" .u8 Lib.asciiSpaceTab)
    (hr0 : 0 ≤ rel) (hr1 : rel ≤ 10000) (h1 : 1 ≤ L.length) (h8 : L.length ≤ 8) (hTk : ∀ (i : Nat) (x : S46), L[i]? = some x → TOk x i) (hne : ∀ (i j : Nat) (x y : S46), i < j → L[i]? = some x → L[j]? = some y → x.f0 ≠ y.f0) :
    Calls Tryz.prog 34 #[.string s] w fun e w' => ∃ tv R, e = .returned (.tuple #[.agg #[.int .i64 rel, tv], .int .i64 s.size, .int .i64 0]) ∧ TasksAt w' w.heap.size tv L R ∧ Below w.heap.size w w' := by
  obtain ⟨r0, rr, sm, body, e, htok, hrl, hrk, rfl, hsm, hbody, hek, hblen⟩ := hT.out
  have hsz := hT.sz
  have hB0 := (Below.refl w.heap.size w).alloc (Nat.le_refl _) (.cells #[.int .i64 0, .slice none 0 0] 24)
  have H1 := Lib.hid (tokens_any s hsz _ (Lib.tabBelow_of_tabIs htab _ hB0) _ htok)
  have HB0 := Lib.hid hB0
  have HTB := Lib.hid (Lib.tabBelow_of_tabIs htab)
  have HR := Lib.hid (Blk.new w 24 #[.int .i64 0, .slice none 0 0])
  have HRL := Lib.hid hrl
  have HRK := Lib.hid hrk
  have HSM := Lib.hid hsm
  have HEK := Lib.hid hek
  have HBL := Lib.hid hblen
  have HBD := Lib.hid hbody
  clear hB0 htok hrl hrk hsm hbody hek hblen htab hT
  go_enter Tryz.func34, Tryz.ntmps34
  go_upto_region 5 with (go_at_call 54; refine (H1.out).mono ?_; rintro e w2 ⟨v, rfl, hown, hb⟩; obtain ⟨tb, tc, tkc, rfl, htc, htb, hTB, hTC⟩ := own_cells' hown (Nat.succ_pos _); have HTBL := Lib.hid hTB; have HTCL := Lib.hid hTC; have HTBB := Lib.hid htb; have HTCC := Lib.hid htc; have HB2 := Lib.hid hb; clear hown hb H1 hTB hTC htb htc)
  have hs2 : w.heap.size < w2.heap.size := by have := HB2.out.size; simp at this; omega
  have hP3 : PAt (w2.alloc (.cells #[.slice (some ⟨tb, 0, none⟩) (body.length + 1 + 1 + 1 + 1) tc, .int .i64 0, .int .i64 0] 112)) w2.heap.size tb (.slice (some ⟨tb, 0, none⟩) (body.length + 1 + 1 + 1 + 1) tc) (r0 :: rr :: sm :: (body ++ [e])) := by
    have hl : (r0 :: rr :: sm :: (body ++ [e])).length = body.length + 1 + 1 + 1 + 1 := by simp
    refine ⟨Blk.new _ _ _, ⟨0, tc, by rw [hl], HTCC.out, Nat.lt_of_lt_of_le HTBL.out.lt (by simp), by have := HTBL.out.lt; omega, fun i x hx => ?_⟩, by rw [hl]; have := HBL.out; omega, ⟨r0 :: rr :: sm :: body, e, by simp, HEK.out⟩⟩
    have hil : i < (r0 :: rr :: sm :: (body ++ [e])).length := (List.getElem?_eq_some_iff.1 hx).1
    have hc : ∀ j, j < 4 → (w2.alloc (.cells #[.slice (some ⟨tb, 0, none⟩) (body.length + 1 + 1 + 1 + 1) tc, .int .i64 0, .int .i64 0] 112)).cell? ⟨tb, 0 + (i * 4 + j), none⟩ = x.cells[j]? := fun j hj => by
      rw [Nat.zero_add, (HTBL.out.alloc _).cell, HTCL.out _ (by rw [t4s_length]; omega), t4s_at _ i j x hx hj]
    exact ⟨hc 0 (by decide), hc 1 (by decide), hc 2 (by decide), hc 3 (by decide)⟩
  have hb2 : Below w.heap.size w w2 := HB0.out.trans (HB2.out.mono (by simp))
  have S3 : PSt w (w2.alloc (.cells #[.slice (some ⟨tb, 0, none⟩) (body.length + 1 + 1 + 1 + 1) tc, .int .i64 0, .int .i64 0] 112)) w.heap.size w2.heap.size tb w.heap.size (.slice (some ⟨tb, 0, none⟩) (body.length + 1 + 1 + 1 + 1) tc) (r0 :: rr :: sm :: (body ++ [e])) 0 (.slice none 0 0) [] [] (.slice none 0 0) [] := by
    refine ⟨hP3, (HR.out.below HB2.out (by simp)).alloc _, ⟨rfl, World.ownsRow_nil _ _ _ _, fun i hi => absurd hi (by simp)⟩, by simpa [J.ints] using World.ownsRow_nil _ _ _ _, hb2.alloc (Nat.le_of_lt hs2) _, Nat.le_of_lt hs2, ?_, Nat.le_refl _, _, HTBL.out.alloc _⟩
    have := HTBB.out
    simp at this
    omega
  have hBtb : w.heap.size < tb := by have := HTBB.out; simp at this; omega
  obtain ⟨w3, hw3⟩ : ∃ w3, w2.alloc (.cells #[.slice (some ⟨tb, 0, none⟩) (body.length + 1 + 1 + 1 + 1) tc, .int .i64 0, .int .i64 0] 112) = w3 := ⟨_, rfl⟩
  obtain ⟨pp, hpp⟩ : ∃ pp, w2.heap.size = pp := ⟨_, rfl⟩
  obtain ⟨rb, hrb⟩ : ∃ rb, w.heap.size = rb := ⟨_, rfl⟩
  rw [hw3, hpp] at S3 ⊢
  rw [hpp] at hs2
  rw [hrb] at S3 hs2 hBtb ⊢
  have HRB := Lib.hid hrb
  have hrp : rb ≠ pp := by omega
  have hrt : rb ≠ tb := by omega
  have HS3 := Lib.hid S3
  have A1 := Lib.hid (after_yes S3.p sReload HRL.out HRK.out)
  unfold sReload at A1
  clear hw3 hpp hrb S3 hP3 hb2 HB2 HTBL HTCL HTBB HTCC HR HB0
  go_wp2_with (first | (go_at_call 55; refine (A1.out).mono ?_; rintro e' w4 ⟨rfl, ⟨v4, hP⟩, hg⟩; have HS4 := Lib.hid (HS3.out.next hP hg); have g0 := HS4.out.r.cell 0; have f0 := HS4.out.r.frozen 0; have HS5 := Lib.hid (HS4.out.rel_ rr.n hrp hrt); have A2 := Lib.hid (must_yes HS5.out.p sSemi HSM.out); unfold sSemi at A2; clear hP hg A1) | (go_at_call 56; refine (A2.out).mono ?_; rintro e' w6 ⟨rfl, ⟨v6, hP⟩, hg⟩; have HS6 := Lib.hid (HS5.out.next hP hg); clear hP hg A2 g0 f0))
  clear HS3 HS4 HS5
  obtain ⟨i3, hi3, hz30, hz31, hz32⟩ := info_parts Tryz.info3
  have Hz0 := Lib.hid hz30
  have Hz1 := Lib.hid hz31
  have Hz2 := Lib.hid hz32
  have Hi := Lib.hid hi3
  obtain ⟨i46, hi46, hz460, hz461, hz462⟩ := info_parts Tryz.info46
  have Hy0 := Lib.hid hz460
  have Hy1 := Lib.hid hz461
  have Hy2 := Lib.hid hz462
  have Hy := Lib.hid hi46
  clear hi3 hz30 hz31 hz32 hi46 hz460 hz461 hz462
  have HTK := Lib.hid hTk
  have HNE := Lib.hid hne
  obtain ⟨rel, hrel0⟩ : ∃ rel, rr.n = rel := ⟨_, rfl⟩
  rw [hrel0] at hr0 hr1 HS6 ⊢
  have HREL := Lib.hid hrel0
  clear hTk hne hrel0
  go_loopw [8] (fun z8 wr => ∃ (bd : List T4) (L1 L2 : List S46) (tv : Value) (R : List Value) (P : List Int) (v7 : Value), L = L1 ++ L2 ∧ TasksP bd L2 ∧ PSt w wr rb pp tb rb v7 (bd ++ [e]) rel tv L1 R z8 P ∧ P.length = L1.length) (fun z8 _ => L.length - lenOf z8)
  case atStart => exact ⟨body, [], L, _, [], [], _, rfl, HBD.out, HS6.out, rfl⟩
  case round =>
    obtain ⟨bd, L1, L2, tv, R, P, v7, hL, hbd, hS, hPl⟩ := hrel
    have c2 : wr.cell? ⟨pp, 2, none⟩ = some (.int .i64 0) := hS.p.hd.cell 2
    have hppl := hS.p.hd.lt
    have q0 := field0
    have q3 := field3
    obtain ⟨A8, pc, rfl, _, _⟩ := row_read hS.pl
    cases hbd with
    | nil =>
      have HN := Lib.hid (next_any hS.p)
      have hk4 : (e.k == 4) = true := by rw [HEK.out]; rfl
      have hk4' : (e.k != 4) = false := by rw [HEK.out]; rfl
      have HS := Lib.hid hS
      have HL := Lib.hid hL
      clear hS hL
      unfold T4.v at HN
      go_upto_region 11 with (go_at_call 57; refine (HN.out).mono ?_; rintro e' w7 ⟨rfl, hb⟩; have HS7 := Lib.hid (HS.out.below hb); have d2 : w7.cell? ⟨pp, 2, none⟩ = some (.int .i64 0) := HS7.out.p.hd.cell 2; have hppl7 := HS7.out.p.hd.lt; clear hb c2)
      have hLL : L1 = L := by have := HL.out; simpa using this.symm
      subst hLL
      obtain ⟨TA, tc', htv⟩ := HS7.out.ta.slice (by omega)
      subst htv
      have HALL := Lib.hid (all_yes (c := tc') h1 h8 hr0 hr1 (fun w' hb => src_of (tasks_below HS7.out.ta hb) (fun x hx => by obtain ⟨i, hi, rfl⟩ := List.mem_iff_getElem.1 hx; exact (HTK.out i _ (List.getElem?_eq_getElem hi)).r8)) HTK.out HNE.out (HTB.out w7 (by rw [HRB.out]; exact HS7.out.g)))
      have b0 : w7.cell? ⟨rb, 0, none⟩ = some (.int .i64 rel) := HS7.out.r.cell 0
      have b1 : w7.cell? ⟨rb, 1, none⟩ = some (.slice (some ⟨TA, 0, none⟩) L1.length tc') := HS7.out.r.cell 1
      go_wp2_with (go_at_call 42; refine (HALL.out).mono ?_; rintro e' w8 ⟨rfl, hb⟩; have HS8 := Lib.hid (HS7.out.below hb); have e0 : w8.cell? ⟨rb, 0, none⟩ = some (.int .i64 rel) := HS8.out.r.cell 0; have e1 : w8.cell? ⟨rb, 1, none⟩ = some (.slice (some ⟨TA, 0, none⟩) L1.length tc') := HS8.out.r.cell 1; have e2 : w8.cell? ⟨pp, 2, none⟩ = some (.int .i64 0) := HS8.out.p.hd.cell 2; have k0 := HS8.out.r.frozen 0; have k1 := HS8.out.r.frozen 1; have hppl8 := HS8.out.p.hd.lt; clear hb b0 b1 d2)
      refine bodyPost_ret (results_cell3 rfl _ _ rb 24 #[.int .i64 rel, .slice (some ⟨TA, 0, none⟩) L1.length tc'] _ rfl ((HS8.out.r.set_ 0 (.int .i64 rel)).set_ 1 (.slice (some ⟨TA, 0, none⟩) L1.length tc')) Tryz.underlying24 rfl (by kernel_rfl)) rfl ⟨.slice (some ⟨TA, 0, none⟩) L1.length tc', R, by rw [HREL.out]; rfl, ?_, ?_⟩
      · have hf : Fr 0 [24] 0 w8 ((w8.setCell ⟨rb, 0, none⟩ (.int .i64 rel)).setCell ⟨rb, 1, none⟩ (.slice (some ⟨TA, 0, none⟩) L1.length tc')) := Fr.of_blk (only_setCell (only_setCell (World.grownBy.refl _ (some rb)) (p := ⟨rb, 0, none⟩) (.inl rfl) _) (p := ⟨rb, 1, none⟩) (.inl rfl) _) HS8.out.r (Nat.zero_le _) (by simp)
        rw [HRB.out]
        exact HS8.out.ta.fr hf (by decide) (by decide)
      · rw [HRB.out]
        exact (HS8.out.g.setCell (Nat.le_refl _) _).setCell (Nat.le_refl _) _
    | cons ts rest x l hx ht =>
      obtain ⟨a, l', hts, hak⟩ := hx.head
      have hpa := hS.p
      rw [hts, List.cons_append, List.cons_append] at hpa
      have HN := Lib.hid (next_any hpa)
      have ha4 : (a.k == 4) = false := by rw [hak]; rfl
      have ha4' : (a.k != 4) = true := by rw [hak]; rfl
      have hLx : L[L1.length]? = some x := by rw [hL]; simp
      have hTx := HTK.out _ x hLx
      have hLen : L.length = L1.length + (l.length + 1) := by rw [hL]; simp
      have HS := Lib.hid hS
      have HL := Lib.hid hL
      have HX := Lib.hid hx
      have HT := Lib.hid ht
      have HTS := Lib.hid hts
      have HPL := Lib.hid hPl
      have hPn : P.length ≤ 8 := by omega
      have hr8 := hTx.r8
      clear hS hL hx ht hpa hak hLx hTx hts hPl
      unfold T4.v at HN
      go_upto_region 10 with (first | (go_at_call 57; refine (HN.out).mono ?_; rintro e' w7 ⟨rfl, hb⟩; have HS7 := Lib.hid (HS.out.below hb); have hp7 := HS7.out.p; rw [HTS.out, List.cons_append, List.cons_append] at hp7; have HN2 := Lib.hid (next_any hp7); unfold T4.v at HN2; clear hb c2 hp7 HN) | (go_at_call 57; refine (HN2.out).mono ?_; rintro e' w8 ⟨rfl, hb⟩; have HS8 := Lib.hid (HS7.out.below hb); have HV8 := Lib.hid (HS8.out.pl.alloc (.cells #[.int .i64 a.at_] 3)); have H8 : Hid (∀ j u, [Value.int .i64 a.at_][j]? = some u → (w8.alloc (.cells #[.int .i64 a.at_] 3)).cell? ((⟨w8.heap.size, 0, none⟩ : Addr).add j) = some u) := cells_new (l := [Value.int .i64 a.at_]); have h85 : Hid (rb ≤ (w8.alloc (.cells #[.int .i64 a.at_] 3)).heap.size) := Nat.le_trans HS8.out.hr (Nat.le_of_lt (Nat.lt_of_lt_of_le HS8.out.r.lt (by simp))); clear hb) | (at_builtin; refine wpList_append_own _ rfl (.tmp 39) (.tmp 43) 86 rfl rb 3 i3 _ 1 8 Tryz.underlying86 Hi.out Hz0.out Hz1.out Hz2.out rfl (Nat.succ_pos 0) (.slice A8 P.length pc) P.length (J.ints P) rfl HV8.out ⟨w8.heap.size, 0, none⟩ 1 1 [.int .i64 a.at_] rfl rfl H8.out (J.ints_one [a.at_]) (by unfold maxLen; omega) (by omega) h85.out ?_; intro v' w9 own9 gr9 _))
      have S9 := (HS8.out.below ((Below.refl w8.heap.size w8).alloc (Nat.le_refl _) (.cells #[.int .i64 a.at_] 3))).places a.at_ gr9 own9
      have hp9 := S9.p.below ((Below.refl w9.heap.size w9).drew)
      rw [List.append_assoc] at hp9
      have HTY := Lib.hid (task_yes HX.out hp9 (by omega))
      have HS9 := Lib.hid S9
      obtain ⟨TA, tc', htv, _, _⟩ : ∃ A c, tv = .slice A L1.length c ∧ True ∧ True := by
        rcases S9.ta.row.2 with ⟨h, h0⟩ | ⟨g, c, cur, h, _⟩
        · exact ⟨none, 0, by rw [h, h0], trivial, trivial⟩
        · exact ⟨_, c, h, trivial, trivial⟩
      subst htv
      have b1 : w9.cell? ⟨rb, 1, none⟩ = some (.slice TA L1.length tc') := S9.r.cell 1
      have hwl : rb < w9.heap.size := S9.r.lt
      have hL1 : L1.length ≤ 8 := by omega
      have H92 : ∀ (x : S46) (RA : Option Addr) (rc : Nat), Hid (∀ u ∈ [Value.string x.f0, .int .i64 x.f1, .int .i64 x.f2, .int .i64 x.f3, .int .i64 x.f4, .int .i64 x.f5, .slice RA x.f6.length rc, .int .u64 x.f7, .int .u64 x.f8], u.oneCell' = true) := by
        intro x RA rc u hu
        simp at hu
        rcases hu with rfl | rfl | rfl | rfl | rfl | rfl | rfl | rfl | rfl <;> rfl
      have H93 : Hid (L1.length + 1 ≤ maxLen) := by unfold Hid maxLen; omega
      have H94 : Hid ((L1.length + 1) * 96 ≤ 140737488355328) := by unfold Hid; omega
      clear S9 hp9 own9 gr9 HN2 HV8 H8 h85
      go_region_law (first | (refine step_call58 rfl (.tmp 47) rfl _ rfl (HTY.out.mono ?_); rintro e' w10 ⟨r, rfl, hown, ⟨v10, hP⟩, hg⟩; obtain ⟨RA, rc, rfl, _, _⟩ := row_read hown; have HS10 := Lib.hid ((HS9.out.below ((Below.refl w9.heap.size w9).drew)).next hP hg); have HO10 := Lib.hid (own_mono hown (Nat.le_trans HS9.out.hr (Nat.le_of_lt hwl))); have d1 : w10.cell? ⟨rb, 1, none⟩ = some (.slice TA L1.length tc') := HS10.out.r.cell 1; have hwl10 := HS10.out.r.lt; have HSA := Lib.hid (HS10.out.below ((Below.refl w10.heap.size w10).alloc (Nat.le_refl _) (.cells (List.toArray [.string x.f0, .int .i64 x.f1, .int .i64 x.f2, .int .i64 x.f3, .int .i64 x.f4, .int .i64 x.f5, .slice RA x.f6.length rc, .int .u64 x.f7, .int .u64 x.f8]) 46))); have HOA := Lib.hid (HO10.out.alloc (.cells (List.toArray [.string x.f0, .int .i64 x.f1, .int .i64 x.f2, .int .i64 x.f3, .int .i64 x.f4, .int .i64 x.f5, .slice RA x.f6.length rc, .int .u64 x.f7, .int .u64 x.f8]) 46)); have HA1 : Hid (∀ j u, ([.string x.f0, .int .i64 x.f1, .int .i64 x.f2, .int .i64 x.f3, .int .i64 x.f4, .int .i64 x.f5, .slice RA x.f6.length rc, .int .u64 x.f7, .int .u64 x.f8] : List Value)[j]? = some u → (w10.alloc (.cells (List.toArray [.string x.f0, .int .i64 x.f1, .int .i64 x.f2, .int .i64 x.f3, .int .i64 x.f4, .int .i64 x.f5, .slice RA x.f6.length rc, .int .u64 x.f7, .int .u64 x.f8]) 46)).cell? ((⟨w10.heap.size, 0, none⟩ : Addr).add j) = some u) := cells_new (l := [.string x.f0, .int .i64 x.f1, .int .i64 x.f2, .int .i64 x.f3, .int .i64 x.f4, .int .i64 x.f5, .slice RA x.f6.length rc, .int .u64 x.f7, .int .u64 x.f8]); have HA5 := Lib.hid (Nat.le_trans HS10.out.hr (Nat.le_of_lt (Nat.lt_of_lt_of_le HS10.out.r.lt (Nat.le_of_lt (by simp : w10.heap.size < (w10.alloc (.cells (List.toArray [.string x.f0, .int .i64 x.f1, .int .i64 x.f2, .int .i64 x.f3, .int .i64 x.f4, .int .i64 x.f5, .slice RA x.f6.length rc, .int .u64 x.f7, .int .u64 x.f8]) 46)).heap.size))))); clear hP hg hown; refine ⟨_, rfl, ?_⟩) | (refine step_append_own_at rfl (.tmp 46) (.tmp 49) 22 rfl rb 46 i46 _ 9 96 Tryz.underlying22 Hy.out Hy0.out Hy1.out Hy2.out rfl (Nat.succ_pos 8) (.slice TA L1.length tc') L1.length (tcs L1 R) rfl HSA.out.ta.row ⟨w10.heap.size, 0, none⟩ 1 1 [.string x.f0, .int .i64 x.f1, .int .i64 x.f2, .int .i64 x.f3, .int .i64 x.f4, .int .i64 x.f5, .slice RA x.f6.length rc, .int .u64 x.f7, .int .u64 x.f8] rfl rfl HA1.out (H92 x RA rc).out H93.out H94.out HA5.out ?_; intro v' w11 own gr _ wh; obtain ⟨g', m', rfl⟩ := own_shape own; have HW := Lib.hid own; have HGW := Lib.hid gr; have hrne := own_apart HSA.out.ta.row HSA.out.r (by decide); have c11 : w11.cell? ⟨rb, 1, none⟩ = some (.slice TA L1.length tc') := (HSA.out.r.grown gr (fun e => hrne rb e.symm rfl)).cell 1; have f11 := (HSA.out.r.grown gr (fun e => hrne rb e.symm rfl)).frozen 1; clear own gr hrne wh))
      all_goals
        go_wp2_with fail
        go_roundw
        case rel => exact ⟨rest, L1 ++ [x], l, _, _, _, v10, by rw [HL.out, List.append_assoc]; rfl, HT.out, HSA.out.taskd HOA.out HGW.out HW.out hrp hrt, by rw [List.length_append, List.length_append, HPL.out]; rfl⟩
        case measure =>
          show L.length - lenOf v' < L.length - lenOf (.slice A8 P.length pc)
          rw [own_len HS9.out.pl, List.length_append]
          simp only [lenOf, List.length_singleton]
          have := HPL.out
          omega
end Go.Proofs.YtdgfjpbjiccllaaGreatDoor.X
/- exec where the text is well: New, load. -/
namespace Go.Proofs.YtdgfjpbjiccllaaGreatDoor.X
open Go.RowKit
open Go.Proofs.YtdgfjpbjiccllaaGreatDoorW.PrintWords Go.Proofs.YtdgfjpbjiccllaaGreatDoorW.PrintLast Go.Proofs.YtdgfjpbjiccllaaGreatDoorW.PrintMore
open Go.Proofs.YtdgfjpbjiccllaaGreatDoor.PTopLoads (S46 k46 z46 k46_mk S57 k57 z57)
set_option maxRecDepth 100000
theorem exec_new (w : World) : Calls Tryz.prog 9 #[] w fun e w' => e = .returned (.pointer (some ⟨w.heap.size, 0, none⟩)) ∧ w' = w.alloc (.cells #[.int .i64 0, .slice none 0 0, .bool false, .pointer none] 62) := by
  go_enter Tryz.func9, Tryz.ntmps9
  go_wp2
  go_ret
  exact ⟨rfl, rfl⟩theorem tasks_mono {w : World} {B B' : Nat} {v : Value} {L : List S46} {R : List Value} (h : TasksAt w B' v L R) (hB : B ≤ B') : TasksAt w B v L R := ⟨h.len, own_mono h.row hB, fun i hi => own_mono (h.regs i hi) hB⟩
/-- The cells of a reply. -/
def repC (err at_ how task : Int) (rv ev : Value) : Array Value := #[.int .i64 err, .int .i64 at_, .int .i64 how, .int .i64 task, rv, .string ⟨#[]⟩, ev]
set_option maxHeartbeats 8000000 in
theorem exec_load {w : World} {ep : Nat} {r0 : Int} {t0 : Value} {b0 : Bool} {s : ByteArray} {rel : Int} {L : List S46} (hT : SetTextP s rel L) (htab : Lib.TabIs Tryz.prog w "strings.asciiSpace" .u8 Lib.asciiSpaceTab)
    (hr0 : 0 ≤ rel) (hr1 : rel ≤ 10000) (h1 : 1 ≤ L.length) (h8 : L.length ≤ 8) (hTk : ∀ (i : Nat) (x : S46), L[i]? = some x → TOk x i) (hne : ∀ (i j : Nat) (x y : S46), i < j → L[i]? = some x → L[j]? = some y → x.f0 ≠ y.f0)
    (hE : Blk w ep 62 #[.int .i64 r0, t0, .bool b0, .pointer none]) :
    Calls Tryz.prog 20 #[.pointer (some ⟨ep, 0, none⟩), .string s] w fun e w' => ∃ TA tc R, e = .returned (.agg (repC 0 s.size 0 0 (.slice none 0 0) (.slice none 0 0))) ∧ TasksAt w' w.heap.size (.slice TA L.length tc) L R ∧ Blk w' ep 62 #[.int .i64 rel, .slice TA L.length tc, .bool true, .pointer none] ∧ w.grownBy w' (some ep) := by
  have hb0 := (Below.refl w.heap.size w).alloc (Nat.le_refl _) (.cells #[.int .i64 0, .int .i64 0, .int .i64 0, .int .i64 0, .slice none 0 0, .string ⟨#[]⟩, .slice none 0 0] 37)
  have HP := Lib.hid (parse_yes hT (Lib.tabBelow_of_tabIs htab _ hb0) hr0 hr1 h1 h8 hTk hne)
  have HB0 := Lib.hid hb0
  have hel := hE.lt
  have HE := Lib.hid (hE.alloc (.cells #[.int .i64 0, .int .i64 0, .int .i64 0, .int .i64 0, .slice none 0 0, .string ⟨#[]⟩, .slice none 0 0] 37))
  have HS := Lib.hid (Blk.new w 37 #[.int .i64 0, .int .i64 0, .int .i64 0, .int .i64 0, .slice none 0 0, .string ⟨#[]⟩, .slice none 0 0])
  clear hb0 hT htab hr0 hr1 h1 h8 hTk hne hE
  go_enter Tryz.func20, Tryz.ntmps20
  go_upto_region 1 with fail
  obtain ⟨w1, hw1⟩ : ∃ w1, w.alloc (.cells #[.int .i64 0, .int .i64 0, .int .i64 0, .int .i64 0, .slice none 0 0, .string ⟨#[]⟩, .slice none 0 0] 37) = w1 := ⟨_, rfl⟩
  rw [hw1] at HP HB0 HE HS ⊢
  obtain ⟨sb, hsb⟩ : ∃ sb, w.heap.size = sb := ⟨_, rfl⟩
  rw [hsb] at HB0 HS hel ⊢
  have HSB := Lib.hid hsb
  clear hw1 hsb
  have e3 : w1.cell? ⟨ep, 3, none⟩ = some (.pointer none) := HE.out.cell 3
  have hel1 := HE.out.lt
  go_wp2_with (go_at_call 34; go_loud (refine (HP.out).mono ?_; rintro e w2 ⟨tv, R, rfl, hTs, hb⟩; obtain ⟨TA, tc, rfl⟩ := own_slice hTs.row; have HTs := Lib.hid hTs; have HB2 := Lib.hid hb; have HE2 := Lib.hid (HE.out.below hb hel1); have HS2 := Lib.hid (HS.out.below hb HS.out.lt); have x0 := HE2.out.cell 0; have x1 := HE2.out.cell 1; have x2 := HE2.out.cell 2; have k0 := HE2.out.frozen 0; have k1 := HE2.out.frozen 1; have k2 := HE2.out.frozen 2; have t0' := HS2.out.cell 0; have t1 := HS2.out.cell 1; have t2 := HS2.out.cell 2; have t3 := HS2.out.cell 3; have t4 := HS2.out.cell 4; have t5 := HS2.out.cell 5; have t6 := HS2.out.cell 6; have u0 := HS2.out.frozen 0; have u1 := HS2.out.frozen 1; have u2 := HS2.out.frozen 2; have u3 := HS2.out.frozen 3; have u4 := HS2.out.frozen 4; have u5 := HS2.out.frozen 5; have u6 := HS2.out.frozen 6; have hl1 := HE2.out.lt; have hl2 := HS2.out.lt; have hse : ep ≠ sb := (by omega); have hes : sb ≠ ep := (by omega); clear hTs hb))
  have hS3 := (((HS2.out.far (p := ⟨ep, 0, none⟩) hes (.int .i64 rel)).far (p := ⟨ep, 1, none⟩) hes (.slice TA L.length tc)).far (p := ⟨ep, 2, none⟩) hes (.bool true))
  have hE3 := ((HE2.out.set_ 0 (.int .i64 rel)).set_ 1 (.slice TA L.length tc)).set_ 2 (.bool true)
  obtain ⟨h7, g7⟩ := set7 hS3 (.int .i64 0) (.int .i64 s.size) (.int .i64 0) (.int .i64 0) (.slice none 0 0) (.string ⟨#[]⟩) (.slice none 0 0)
  have g0 : w.grownBy w2 (some ep) := only_of_below (by rw [HSB.out]; exact HB0.out.trans (HB2.out.mono (by have := HS.out.lt; omega))) _
  have hws : w.heap.size ≤ sb := Nat.le_of_eq HSB.out
  refine bodyPost_ret (results_cell1 rfl _ _ sb 37 (repC 0 s.size 0 0 (.slice none 0 0) (.slice none 0 0)) _ rfl (h7.alloc _) Tryz.underlying37 rfl (by kernel_rfl)) rfl ⟨TA, tc, R, rfl, ?_, (hE3.grown g7 (by simpa using hse)).alloc _, ?_⟩
  · have f1 : Fr (E := 0) [62] 0 w2 _ := Fr.of_blk (only_setCell (only_setCell (only_setCell (World.grownBy.refl w2 (some ep)) (p := ⟨ep, 0, none⟩) (.inl rfl) (.int .i64 rel)) (p := ⟨ep, 1, none⟩) (.inl rfl) (.slice TA L.length tc)) (p := ⟨ep, 2, none⟩) (.inl rfl) (.bool true)) HE2.out (Nat.zero_le _) (by simp)
    have f2 : Fr (E := 0) [37] 0 _ _ := Fr.of_blk g7 hS3 (Nat.zero_le _) (by simp)
    have h3 := (HTs.out.fr f1 (by decide) (by decide)).fr f2 (by decide) (by decide)
    have h4 := h3.fr (E := 0) (ts := []) (C := 0) (Fr.of_none (only_alloc (World.grownBy.refl _ none) (.cells #[.int .i64 rel, .slice TA L.length tc] 24))) (by simp) (by simp)
    exact tasks_mono h4 (by have := HS.out.lt; rw [HSB.out]; omega)
  · exact only_alloc (only_setCell (only_setCell (only_setCell (only_setCell (only_setCell (only_setCell (only_setCell (only_setCell (only_setCell (only_setCell g0 (p := ⟨ep, 0, none⟩) (.inl rfl) _) (p := ⟨ep, 1, none⟩) (.inl rfl) _) (p := ⟨ep, 2, none⟩) (.inl rfl) _) (p := ⟨sb, 0, none⟩) (.inr hws) _) (p := ⟨sb, 1, none⟩) (.inr hws) _) (p := ⟨sb, 2, none⟩) (.inr hws) _) (p := ⟨sb, 3, none⟩) (.inr hws) _) (p := ⟨sb, 4, none⟩) (.inr hws) _) (p := ⟨sb, 5, none⟩) (.inr hws) _) (p := ⟨sb, 6, none⟩) (.inr hws) _) _
end Go.Proofs.YtdgfjpbjiccllaaGreatDoor.X
/- Printed sections of functions that the statement reaches. -/
namespace Go.Proofs.YtdgfjpbjiccllaaGreatDoor.PTopLoads
open Go.RowKit Go.Proofs.YtdgfjpbjiccllaaGreatDoorW.PrintWords Go.Proofs.YtdgfjpbjiccllaaGreatDoorW.PrintLast Go.Proofs.YtdgfjpbjiccllaaGreatDoorW.PrintMore
attribute [local go_sem] max2_int min2_int max_two min_two max_three min_three max_four min_four   -- for this text's walks alone
set_option linter.unusedVariables false
set_option linter.unusedSimpArgs false
/-! ### num_told: function 186 -/
/-! ### num_Add: function 170 -/
-- NOT PRINTED: function 154 (cost_Total)

-- NOT PRINTED: function 136 (active_Loads)

/-! ### fix_isTop: function 171 -/
-- NOT PRINTED: function 189 (api_Load_189)

-- NOT PRINTED: function 181 (api_Load_181)

-- NOT PRINTED: function 165 (fix_is)

/-! ### num_Floor: function 190 -/
def num_Floor.f (a0 : Int) (a1 : Int) : Option (Int × Bool) := (num_Is.f a0).bind fun t199 => (if t199 = true then ((num_Is.f a1).bind fun t200 => (if t200 = true then (if a1 = 0 then (some (0, false)) else (some (wrap64 (Int.tdiv a0 a1), true))) else (some (0, false)))) else (some (0, false)))
set_option maxHeartbeats 8000000 in
set_option maxRecDepth 100000 in
theorem num_Floor.calls (a0 : Int) (a1 : Int) (r1 : Int) (r2 : Bool) (w : World) (h : num_Floor.f a0 a1 = some (r1, r2)) :
    Calls Tryz.prog 190 #[.int .i64 a0, .int .i64 a1] w fun e w' => e = .returned (.tuple #[.int .i64 r1, .bool r2]) ∧ Drawn0 w w' := by
  have H : ((num_Is.f a0).bind fun t199 => (if t199 = true then ((num_Is.f a1).bind fun t200 => (if t200 = true then (if a1 = 0 then (some (0, false)) else (some (wrap64 (Int.tdiv a0 a1), true))) else (some (0, false)))) else (some (0, false)))) = some (r1, r2) := h
  clear h
  replace H := Option.bind_eq_some_iff.mp H
  obtain ⟨t199, A30, H⟩ := H
  replace H : (if t199 = true then ((num_Is.f a1).bind fun t200 => (if t200 = true then (if a1 = 0 then (some (0, false)) else (some (wrap64 (Int.tdiv a0 a1), true))) else (some (0, false)))) else (some (0, false))) = some (r1, r2) := H
  have A3 := Aside0.mk A30
  clear A30
  by_cases c4 : t199 = true
  · subst c4
    have H1 : ((num_Is.f a1).bind fun t200 => (if t200 = true then (if a1 = 0 then (some (0, false)) else (some (wrap64 (Int.tdiv a0 a1), true))) else (some (0, false)))) = some (r1, r2) := by rw [if_pos rfl] at H; exact H
    clear H
    have H := H1
    clear H1
    replace H := Option.bind_eq_some_iff.mp H
    obtain ⟨t200, A50, H⟩ := H
    replace H : (if t200 = true then (if a1 = 0 then (some (0, false)) else (some (wrap64 (Int.tdiv a0 a1), true))) else (some (0, false))) = some (r1, r2) := H
    have A5 := Aside0.mk A50
    clear A50
    by_cases c6 : t200 = true
    · subst c6
      have H1 : (if a1 = 0 then (some (0, false)) else (some (wrap64 (Int.tdiv a0 a1), true))) = some (r1, r2) := by rw [if_pos rfl] at H; exact H
      clear H
      have H := H1
      clear H1
      by_cases c7 : a1 = 0
      · rw [if_pos c7] at H
        have c7b0 : (a1 == 0) = true := beq_iff_eq.mpr c7
        have c7b1 : (a1 != 0) = false := bne_eq_false_iff_eq.mpr c7
        clear c7
        simp only [Option.some.injEq, Prod.mk.injEq] at H
        obtain ⟨rfl, rfl⟩ := H
        go_enter Tryz.func190, Tryz.ntmps190
        go_wp2_with (first | ((with_reducible refine gate_callee (f := 184) rfl ?_); refine goesL_ (some 7) rfl rfl Tryz.func184 (by kernel_rfl) rfl #[.int .i64 a0] rfl (by (try simp only [List.map_toArray, List.map_cons, List.map_nil]); first | done | rfl | (simp only [List.length_drop, List.length_take]; rfl)) ?_; (with_reducible refine (num_Is.calls a0 true _ A3.out).mono ?_); rintro e w' ⟨rfl, ⟨nd, rfl⟩⟩; refine ⟨_, rfl, ?_⟩) | (go_at_call 184; (with_reducible refine (num_Is.calls a1 true _ A5.out).mono ?_); rintro e w' ⟨rfl, ⟨nd, rfl⟩⟩))
        go_ret2
        exact ⟨by first | rfl | (simp; done) | (simp [*]; done), by repeat (first | exact Drawn0.refl _ | apply Drawn0.step)⟩
      · rw [if_neg c7] at H
        have c7b0 : (a1 == 0) = false := beq_eq_false_iff_ne.mpr c7
        have c7b1 : (a1 != 0) = true := bne_iff_ne.mpr c7
        simp only [Option.some.injEq, Prod.mk.injEq] at H
        obtain ⟨rfl, rfl⟩ := H
        go_enter Tryz.func190, Tryz.ntmps190
        go_wp2_with (first | ((with_reducible refine gate_callee (f := 184) rfl ?_); refine goesL_ (some 7) rfl rfl Tryz.func184 (by kernel_rfl) rfl #[.int .i64 a0] rfl (by (try simp only [List.map_toArray, List.map_cons, List.map_nil]); first | done | rfl | (simp only [List.length_drop, List.length_take]; rfl)) ?_; (with_reducible refine (num_Is.calls a0 true _ A3.out).mono ?_); rintro e w' ⟨rfl, ⟨nd, rfl⟩⟩; refine ⟨_, rfl, ?_⟩) | (go_at_call 184; (with_reducible refine (num_Is.calls a1 true _ A5.out).mono ?_); rintro e w' ⟨rfl, ⟨nd, rfl⟩⟩))
        go_ret2
        exact ⟨by first | rfl | (simp; done) | (simp [*]; done), by repeat (first | exact Drawn0.refl _ | apply Drawn0.step)⟩
    · replace c6 := Bool.eq_false_iff.mpr c6
      subst c6
      have H1 : (some (0, false)) = some (r1, r2) := by rw [if_neg (show ¬ (false = true) by decide)] at H; exact H
      clear H
      have H := H1
      clear H1
      simp only [Option.some.injEq, Prod.mk.injEq] at H
      obtain ⟨rfl, rfl⟩ := H
      go_enter Tryz.func190, Tryz.ntmps190
      go_wp2_with (first | ((with_reducible refine gate_callee (f := 184) rfl ?_); refine goesL_ (some 7) rfl rfl Tryz.func184 (by kernel_rfl) rfl #[.int .i64 a0] rfl (by (try simp only [List.map_toArray, List.map_cons, List.map_nil]); first | done | rfl | (simp only [List.length_drop, List.length_take]; rfl)) ?_; (with_reducible refine (num_Is.calls a0 true _ A3.out).mono ?_); rintro e w' ⟨rfl, ⟨nd, rfl⟩⟩; refine ⟨_, rfl, ?_⟩) | (go_at_call 184; (with_reducible refine (num_Is.calls a1 false _ A5.out).mono ?_); rintro e w' ⟨rfl, ⟨nd, rfl⟩⟩))
      go_ret2
      exact ⟨by first | rfl | (simp; done) | (simp [*]; done), by repeat (first | exact Drawn0.refl _ | apply Drawn0.step)⟩
  · replace c4 := Bool.eq_false_iff.mpr c4
    subst c4
    have H1 : (some (0, false)) = some (r1, r2) := by rw [if_neg (show ¬ (false = true) by decide)] at H; exact H
    clear H
    have H := H1
    clear H1
    simp only [Option.some.injEq, Prod.mk.injEq] at H
    obtain ⟨rfl, rfl⟩ := H
    go_enter Tryz.func190, Tryz.ntmps190
    go_wp2_with (first | ((with_reducible refine gate_callee (f := 184) rfl ?_); refine goesL_ (some 7) rfl rfl Tryz.func184 (by kernel_rfl) rfl #[.int .i64 a0] rfl (by (try simp only [List.map_toArray, List.map_cons, List.map_nil]); first | done | rfl | (simp only [List.length_drop, List.length_take]; rfl)) ?_; (with_reducible refine (num_Is.calls a0 false _ A3.out).mono ?_); rintro e w' ⟨rfl, ⟨nd, rfl⟩⟩; refine ⟨_, rfl, ?_⟩))
    go_ret2
    exact ⟨by first | rfl | (simp; done) | (simp [*]; done), by repeat (first | exact Drawn0.refl _ | apply Drawn0.step)⟩
/-! ### num_Ceil: function 183 -/
def num_Ceil.f (a0 : Int) (a1 : Int) : Option (Int × Bool) := (num_Floor.f a0 a1).bind fun bt201 => (if bt201.2 = true then (if (wrap64 (bt201.1 * a1)) < a0 then (some (wrap64 (bt201.1 + 1), bt201.2)) else (some (bt201.1, bt201.2))) else (some (bt201.1, bt201.2)))
set_option maxHeartbeats 8000000 in
set_option maxRecDepth 100000 in
theorem num_Ceil.calls (a0 : Int) (a1 : Int) (r1 : Int) (r2 : Bool) (w : World) (h : num_Ceil.f a0 a1 = some (r1, r2)) :
    Calls Tryz.prog 183 #[.int .i64 a0, .int .i64 a1] w fun e w' => e = .returned (.tuple #[.int .i64 r1, .bool r2]) ∧ Drawn0 w w' := by
  have H : ((num_Floor.f a0 a1).bind fun bt201 => (if bt201.2 = true then (if (wrap64 (bt201.1 * a1)) < a0 then (some (wrap64 (bt201.1 + 1), bt201.2)) else (some (bt201.1, bt201.2))) else (some (bt201.1, bt201.2)))) = some (r1, r2) := h
  clear h
  replace H := Option.bind_eq_some_iff.mp H
  obtain ⟨⟨t201, t202⟩, A30, H⟩ := H
  replace H : (if t202 = true then (if (wrap64 (t201 * a1)) < a0 then (some (wrap64 (t201 + 1), t202)) else (some (t201, t202))) else (some (t201, t202))) = some (r1, r2) := H
  have A3 := Aside0.mk A30
  clear A30
  by_cases c4 : t202 = true
  · subst c4
    have H1 : (if (wrap64 (t201 * a1)) < a0 then (some (wrap64 (t201 + 1), true)) else (some (t201, true))) = some (r1, r2) := by rw [if_pos rfl] at H; exact H
    clear H
    have H := H1
    clear H1
    by_cases c5 : (wrap64 (t201 * a1)) < a0
    · rw [if_pos c5] at H
      have c5b0 : decide ((wrap64 (t201 * a1)) < a0) = true := decide_eq_true c5
      clear c5
      simp only [Option.some.injEq, Prod.mk.injEq] at H
      obtain ⟨rfl, rfl⟩ := H
      go_enter Tryz.func183, Tryz.ntmps183
      go_wp2_with (first | ((with_reducible refine gate_callee (f := 190) rfl ?_); refine goesL_ (some 11) rfl rfl Tryz.func190 (by kernel_rfl) rfl #[.int .i64 a0, .int .i64 a1] rfl (by (try simp only [List.map_toArray, List.map_cons, List.map_nil]); first | done | rfl | (simp only [List.length_drop, List.length_take]; rfl)) ?_; (with_reducible refine (num_Floor.calls a0 a1 t201 true _ A3.out).mono ?_); rintro e w' ⟨rfl, ⟨nd, rfl⟩⟩; refine ⟨_, rfl, ?_⟩))
      go_ret2
      exact ⟨by first | rfl | (simp; done) | (simp [*]; done), by repeat (first | exact Drawn0.refl _ | apply Drawn0.step)⟩
    · rw [if_neg c5] at H
      have c5b0 : decide ((wrap64 (t201 * a1)) < a0) = false := decide_eq_false c5
      clear c5
      simp only [Option.some.injEq, Prod.mk.injEq] at H
      obtain ⟨rfl, rfl⟩ := H
      go_enter Tryz.func183, Tryz.ntmps183
      go_wp2_with (first | ((with_reducible refine gate_callee (f := 190) rfl ?_); refine goesL_ (some 11) rfl rfl Tryz.func190 (by kernel_rfl) rfl #[.int .i64 a0, .int .i64 a1] rfl (by (try simp only [List.map_toArray, List.map_cons, List.map_nil]); first | done | rfl | (simp only [List.length_drop, List.length_take]; rfl)) ?_; (with_reducible refine (num_Floor.calls a0 a1 t201 true _ A3.out).mono ?_); rintro e w' ⟨rfl, ⟨nd, rfl⟩⟩; refine ⟨_, rfl, ?_⟩))
      go_ret2
      exact ⟨by first | rfl | (simp; done) | (simp [*]; done), by repeat (first | exact Drawn0.refl _ | apply Drawn0.step)⟩
  · replace c4 := Bool.eq_false_iff.mpr c4
    subst c4
    have H1 : (some (t201, false)) = some (r1, r2) := by rw [if_neg (show ¬ (false = true) by decide)] at H; exact H
    clear H
    have H := H1
    clear H1
    simp only [Option.some.injEq, Prod.mk.injEq] at H
    obtain ⟨rfl, rfl⟩ := H
    go_enter Tryz.func183, Tryz.ntmps183
    go_wp2_with (first | ((with_reducible refine gate_callee (f := 190) rfl ?_); refine goesL_ (some 11) rfl rfl Tryz.func190 (by kernel_rfl) rfl #[.int .i64 a0, .int .i64 a1] rfl (by (try simp only [List.map_toArray, List.map_cons, List.map_nil]); first | done | rfl | (simp only [List.length_drop, List.length_take]; rfl)) ?_; (with_reducible refine (num_Floor.calls a0 a1 t201 false _ A3.out).mono ?_); rintro e w' ⟨rfl, ⟨nd, rfl⟩⟩; refine ⟨_, rfl, ?_⟩))
    go_ret2
    exact ⟨by first | rfl | (simp; done) | (simp [*]; done), by repeat (first | exact Drawn0.refl _ | apply Drawn0.step)⟩
/-! ### fix_sum: function 166 -/
def fix_sum.l0 : Nat → Int → Int → List (S212) → Int → Int → Option (Int)
  | 0, _, _, _, _, _ => none
  | k + 1, x0, x2, x11, x12, x13 => if x13 < x12 then (if 0 ≤ x13 then (if x13 < (x11.length : Int) then ((num_Ceil.f x2 ((rd_T212 x11 x13).f0)).bind fun bt205 => (fix_sum.l0 k (wrap64 (x0 + (wrap64 (((rd_T212 x11 x13).f1) * bt205.1)))) x2 x11 x12 (wrap64 (x13 + 1)))) else (none)) else (none)) else (some x0)
def fix_sum.f (k : Nat) (a0 : Int) (l1 : List (S212)) (a2 : Int) : Option (Int) := fix_sum.l0 k a0 a2 l1 (l1.length : Int) 0
set_option maxHeartbeats 8000000 in
set_option maxRecDepth 100000 in
theorem fix_sum.calls (k : Nat) (a0 : Int) (A1 : Option Addr) (c1 : Nat) (l1 : List (S212)) (a2 : Int) (r : Int) (w : World) (hr1 : Kd.C k212 w A1 l1.length l1) (hc1 : l1.length ≤ c1) (h : fix_sum.f k a0 l1 a2 = some r) :
    Calls Tryz.prog 166 #[.int .i64 a0, .slice A1 l1.length c1, .int .i64 a2] w fun e w' => e = .returned (.int .i64 r) ∧ Below w.heap.size w w' := by
  have hu212 := Tryz.underlying212
  have HR1 := Aside0.mk hr1
  have HC1 := Aside0.mk hc1
  clear hr1 hc1
  have HB := Aside0.mk (Below.refl w.heap.size w)
  have H : (fix_sum.l0 k a0 a2 l1 (l1.length : Int) 0) = some r := h
  clear h
  have H' := Aside0.mk H
  clear H
  go_enter Tryz.func166, Tryz.ntmps166
  go_wp2
  go_loopg [0, 13] k (fun kq v0 v13 w' => ∃ (x0_1 : Int) (x13_1 : Int), v0 = .int .i64 x0_1 ∧ v13 = .int .i64 x13_1 ∧ Aside0 (fix_sum.l0 kq x0_1 a2 l1 (l1.length : Int) x13_1 = some r) ∧ Aside0 (kq ≤ k) ∧ Aside0 (Below w.heap.size w w'))
  case atStart => exact ⟨(a0), (0), (by first | rfl | (simp; done) | (simp [*]; done)), (by first | rfl | (simp; done) | (simp [*]; done)), H', ⟨Nat.le_refl _⟩, ⟨by repeat (first | (with_reducible first | exact HB.out | apply below_alloc | apply pw_below_drewN | apply below_drew1) | exact HB.out)⟩⟩
  case round =>
    clear H'
    try clear c1
    try clear p2
    obtain ⟨x0_1, x13_1, rfl, rfl, HA, HK1, HB⟩ := hrel
    cases gk with
    | zero => exact absurd HA.out (by simp [fix_sum.l0])
    | succ k1 =>
      have H := HA.out
      clear HA
      simp only [fix_sum.l0] at H
      by_cases c4 : x13_1 < (l1.length : Int)
      · rw [if_pos c4] at H
        have c4b0 : decide (x13_1 < (l1.length : Int)) = true := decide_eq_true c4
        clear c4
        by_cases c5 : 0 ≤ x13_1
        · rw [if_pos c5] at H
          have c5b0 : decide (0 ≤ x13_1) = true := decide_eq_true c5
          clear c5
          by_cases c6 : x13_1 < (l1.length : Int)
          · rw [if_pos c6] at H
            have c6b0 : decide (x13_1 < (l1.length : Int)) = true := decide_eq_true c6
            clear c6
            replace H := Option.bind_eq_some_iff.mp H
            obtain ⟨⟨t205, t206⟩, A70, H⟩ := H
            replace H : (fix_sum.l0 k1 (wrap64 (x0_1 + (wrap64 (((rd_T212 l1 x13_1).f1) * t205)))) a2 l1 (l1.length : Int) (wrap64 (x13_1 + 1))) = some r := H
            have A7 := Aside0.mk A70
            clear A70
            have H' := Aside0.mk H
            clear H
            have p203 : 0 ≤ (x13_1 : Int) := of_decide_eq_true (by first | (with_reducible assumption) | assumption)
            have q203 : x13_1 < (l1.length : Int) := of_decide_eq_true (by first | (with_reducible assumption) | assumption)
            obtain ⟨ad203, e203, hx203_0, hx203_1⟩ := at_T212 HR1.out x13_1 p203 q203
            cases e203
            replace hx203_0 := (HB.out.cell (World.block_lt_of_cell? w _ hx203_0)).trans hx203_0
            replace hx203_1 := (HB.out.cell (World.block_lt_of_cell? w _ hx203_1)).trans hx203_1
            replace p203 := eq_true p203
            replace q203 := eq_true q203
            go_wp2_with (first | ((with_reducible refine gate_dst (N := 8) rfl ?_); refine box_event ?hg (N := 8) ?hd (cs := #[.int .i64 0, .int .i64 0]) (t := 212) ?hr ?_; (case hd => rfl); (case hg => rfl); (case hr => first | (go_simp; done) | (go_simp; rfl)); intro gb204 hg w8 hbox hb; have n0_ := Aside0.mk (below_step (by repeat (first | (with_reducible first | exact HB.out | apply below_alloc | apply pw_below_drewN | apply below_drew1) | exact HB.out)) hb); have n1_ := Aside0.mk (hbox); have n2_ := Aside0.mk ((by rw [hg]; exact (below_size (by repeat (first | (with_reducible first | exact HB.out | apply below_alloc | apply pw_below_drewN | apply below_drew1) | exact HB.out))) : w.heap.size ≤ gb204)); have n3_ := Aside0.mk ((by rw [hg]; exact (below_size (by repeat (first | (with_reducible first | exact HB.out | apply below_alloc | apply pw_below_drewN | apply below_drew1) | exact HB.out))) : w.heap.size ≤ gb204)); clear HB; have HB := n0_; have BK204 := n1_; have GW204 := n2_; have GE204 := n3_; clear n0_ n1_ n2_ n3_; clear hb hbox hg; have hcz9_0 : w8.cell? ⟨gb204, 0, none⟩ = some (.int .i64 0) := (blk_cell BK204.out 0).trans rfl; have hcz9_1 : w8.cell? ⟨gb204, 1, none⟩ = some (.int .i64 0) := (blk_cell BK204.out 1).trans rfl; have hfz9_0 := blk_frozen BK204.out 0; have hfz9_1 := blk_frozen BK204.out 1) | ((with_reducible refine gate_callee (f := 183) rfl ?_); refine goesL_ (some 21) rfl rfl Tryz.func183 (by kernel_rfl) rfl #[.int .i64 a2, .int .i64 ((rd_T212 l1 x13_1).f0)] rfl (by (try simp only [List.map_toArray, List.map_cons, List.map_nil]); first | done | rfl | (simp only [List.length_drop, List.length_take]; rfl)) ?_; (with_reducible refine (num_Ceil.calls a2 ((rd_T212 l1 x13_1).f0) t205 t206 _ A7.out).mono ?_); rintro e w' ⟨rfl, ⟨nd, rfl⟩⟩; refine ⟨_, rfl, ?_⟩))
            go_roundg k1
            case measure => have := HK1.out; omega
            case rel => exact ⟨(wrap64 (x0_1 + (wrap64 (((rd_T212 l1 x13_1).f1) * t205)))), (wrap64 (x13_1 + 1)), (by first | rfl | (simp; done) | (simp [*]; done)), (by first | rfl | (simp; done) | (simp [*]; done)), H', ⟨by have := HK1.out; omega⟩, ⟨by repeat (first | (with_reducible first | exact HB.out | apply below_alloc | apply pw_below_drewN | apply below_drew1 | refine below_set ?_ GE204.out) | exact HB.out)⟩⟩
          · rw [if_neg c6] at H
            exact absurd H (by simp)
        · rw [if_neg c5] at H
          exact absurd H (by simp)
      · rw [if_neg c4] at H
        have c4b0 : decide (x13_1 < (l1.length : Int)) = false := decide_eq_false c4
        clear c4
        obtain rfl := Option.some.inj H
        go_wp2
        go_ret
        exact ⟨by first | rfl | (simp [errW_none, errW_some] <;> rfl) | (simp [*, errW_none, errW_some] <;> rfl), by repeat (first | (with_reducible first | exact HB.out | apply below_alloc | apply pw_below_drewN | apply below_drew1) | exact HB.out)⟩
-- NOT PRINTED: function 152 (fix_Least)

-- NOT PRINTED: function 135 (active_Of)

-- NOT PRINTED: function 155 (fix_Sum)

-- NOT PRINTED: function 137 (resp_done)

-- NOT PRINTED: function 103 (resp_With)

/-! ### again_Own: function 67 -/
-- NOT PRINTED: function 156 (slices_Max_int64_int64)

-- NOT PRINTED: function 138 (block_Of)

-- NOT PRINTED: function 104 (block_Most)

-- NOT PRINTED: function 61 (resp_Of)

-- NOT PRINTED: function 35 (admit_Judge)

-- NOT PRINTED: function 21 (exec_Exec_judge)

-- NOT PRINTED: function 36 (exec_Exec_idle)

end Go.Proofs.YtdgfjpbjiccllaaGreatDoor.PTopLoads
