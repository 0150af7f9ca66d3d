/- Joined texts: Par6, Fix2, Fix3, Fix4, Fix5, Fix6, Fix7, Rf4. -/
import Derived.Test.YtdgfjpbjiccllaaGreatDoorTopAgain21
import Derived.Deep.RegionLaw
import Derived.Test.YtdgfjpbjiccllaaGreatDoorTopAgain14
import Derived.Test.YtdgfjpbjiccllaaGreatDoorTopAgain20
import Derived.Test.YtdgfjpbjiccllaaGreatDoorTopAgain05
namespace Go.Proofs.YtdgfjpbjiccllaaGreatDoor.X
open Go.RowKit
open YtdgfjpbjiccllaaGreatDoorW.PrintWords YtdgfjpbjiccllaaGreatDoorW.PrintLast YtdgfjpbjiccllaaGreatDoorW.PrintMore
open PTopLoads (S46)
set_option maxRecDepth 100000
inductive TasksP : List T4 → List S46 → Prop
 | nil : TasksP [] []
 | cons (ts rest : List T4) (x : S46) (l : List S46) (h : TaskP ts x) (t : TasksP rest l) : TasksP (ts ++ rest) (x :: l)
theorem TaskP.head {ts : List T4} {x : S46} (h : TaskP ts x) : ∃ a l, ts = a :: l ∧ a.k = 3 := by
 obtain ⟨a, n, p1, p2, d1, d2, ms, g, ys, es, us, s, m, q, th, e, u, rfl, ha, _⟩ := h.out
 exact ⟨a, _, rfl, isTok_k ha⟩
structure SetTextP (s : ByteArray) (rel : Int) (L : List S46) : Prop where
 sz : s.size ≤ 4000
 out : ∃ r0 r1 sm body e, tokens s = (r0 :: r1 :: sm :: (body ++ [e]), s.size, 0) ∧ isTok r0 sReload = true ∧ r1.k = 2 ∧ r1.n = rel ∧ isTok sm sSemi = true ∧ TasksP body L ∧ e.k = 4 ∧ body.length ≤ 5000
section
variable {w w' w2 wr : World} {pp tb tk rb B : Nat} {v v' tv : Value} {L L' T : List T4} {x y z : T4} {cs : Array Value} {K R : List Value}
theorem own_cells' {base e size n : Nat} {xs : List Value} (h : w.ownsRow base e size v n xs) (h0 : 0 < n) :
  ∃ g c cs, v = .slice (some ⟨g, 0, none⟩) n c ∧ n ≤ c ∧ base ≤ g ∧ Blk w g e cs ∧ ∀ i, i < xs.length → cs[i]? = xs[i]? := by
 rcases h.2 with ⟨_, h1⟩ | ⟨g, c, cur, rfl, hb, hh, hn, _, hs, ht⟩
 ·omega
 ·refine ⟨g, c, cur, rfl, hn, hb, hh, fun i hi => ?_⟩
  rw [← ht, List.getElem?_take_of_lt (by have := h.1; omega)]
  simp
theorem tasks_snoc {tv' r : Value} {L : List S46} {x : S46} (h : TasksAt w B tv L R) (hr : w.ownsRow B 2 1 r x.f6.length (J.ints x.f6)) (hg : w.grownBy w' tv.ownBlock) (own : w'.ownsRow B 46 9 tv' (L.length + 1) (tcs L R ++ tcells x r)) : TasksAt w' B tv' (L ++ [x]) (R ++ [r]) := by
 have hne : ∀ {u : Value} {m : Nat} {xs : List Value}, w.ownsRow B 2 1 u m xs → u.ownBlock ≠ tv.ownBlock ∨ u.ownBlock = none := by
  intro u m xs hu
  rcases hu.2 with ⟨rfl, _⟩ | ⟨g, c, cur, rfl, _, hh, _⟩
  ·exact .inr rfl
  ·refine .inl fun e => ?_
   exact own_blk_ne h.row (hh : Blk w g 2 cur) (by decide) (by rw [← e]; rfl)
 have hkeep : ∀ {u : Value} {m : Nat} {xs : List Value}, w.ownsRow B 2 1 u m xs → w'.ownsRow B 2 1 u m xs := by
  intro u m xs hu
  exact J.own_keep hu hg ((hne hu).symm.imp_right id)
 refine ⟨by simp [h.len], ?_, ?_⟩
 ·rw [tcs_snoc x r L R h.len, List.length_append]
  exact own
 ·intro i hi
  rcases Nat.lt_or_ge i L.length with h1 | h1
  ·rw [List.getElem_append_left (by rw [h.len]; exact h1)]
   simp only [List.getElem_append_left h1]
   exact hkeep (h.regs i h1)
  ·have e : i = L.length := by simp at hi; omega
   subst e
   have q1 : (R ++ [r])[L.length]'(by simp [h.len]) = r := by
    rw [List.getElem_append_right (by rw [h.len]; exact Nat.le_refl _)]
    simp [h.len]
   rw [q1]
   simp only [List.getElem_append_right (Nat.le_refl _), Nat.sub_self, List.getElem_cons_zero]
   exact hkeep hr
structure PSt (w wr : World) (B pp tb rb : Nat) (v : Value) (M : List T4) (rel : Int) (tv : Value) (L : List S46) (R : List Value) (pv : Value) (P : List Int) : Prop where
 p : PAt wr pp tb v M
 r : Blk wr rb 24 #[.int .i64 rel, tv]
 ta : TasksAt wr B tv L R
 pl : wr.ownsRow B 3 1 pv P.length (J.ints P)
 g : Below B w wr
 hp : B ≤ pp
 ht : B ≤ tb
 hr : B ≤ rb
 tt : ∃ cs, Blk wr tb 116 cs
section
variable {M M' : List T4} {rel : Int} {L : List S46} {pv : Value} {P : List Int}
theorem PSt.next {w w' wr : World} {B pp tb rb : Nat} {v v' tv : Value} {R : List Value} (h : PSt w wr B pp tb rb v M rel tv L R pv P) (hP : PAt w' pp tb v' M') (hg : wr.grownBy w' (some pp)) : PSt w w' B pp tb rb v' M' rel tv L R pv P := by
 have hf : Fr 0 [112] 0 wr w' := Fr.of_blk hg h.p.hd (Nat.zero_le _) (by simp)
 exact ⟨hP, h.r.fr hf (by decide), h.ta.fr hf (by decide) (by decide), own_fr h.pl hf (by decide), h.g.grown hg (by have := h.hp; have := h.p.hd.lt; omega) (fun k hk => by injection hk with hk; have := h.hp; omega), h.hp, h.ht, h.hr, h.tt.imp fun _ hb => hb.fr hf (by decide)⟩
theorem PSt.below {w w' wr : World} {B pp tb rb : Nat} {v tv : Value} {R : List Value} (h : PSt w wr B pp tb rb v M rel tv L R pv P) (hb : Below wr.heap.size wr w') : PSt w w' B pp tb rb v M rel tv L R pv P := h.next (h.p.below hb) (grown_of_below hb)
theorem PSt.rel_ {w wr : World} {B pp tb rb : Nat} {v tv : Value} {R : List Value} (h : PSt w wr B pp tb rb v M rel tv L R pv P) (x : Int) (hrp : rb ≠ pp) (hrt : rb ≠ tb) : PSt w (wr.setCell ⟨rb, 0, none⟩ (.int .i64 x)) B pp tb rb v M x tv L R pv P := by
 have hf : Fr 0 [24] 0 wr (wr.setCell ⟨rb, 0, none⟩ (.int .i64 x)) := Fr.of_blk (only_setCell (World.grownBy.refl _ _) (.inl rfl) _) h.r (Nat.zero_le _) (by simp)
 exact ⟨h.p.far hrp hrt _, h.r.set_ 0 _, h.ta.fr hf (by decide) (by decide), own_fr h.pl hf (by decide), h.g.setCell h.hr _, h.hp, h.ht, h.hr, h.tt.imp fun _ hb => hb.fr hf (by decide)⟩
theorem own_apart {w : World} {base e size n t g : Nat} {u : Value} {xs : List Value} {cs : Array Value} (h : w.ownsRow base e size u n xs) (hb : Blk w g t cs) (hne : e ≠ t) : ∀ k, u.ownBlock = some k → k ≠ g := fun k hk e' => own_blk_ne h hb hne (by rw [hk, e'])
theorem PSt.places {w wr w' : World} {B pp tb rb : Nat} {v tv pv' : Value} {R : List Value} (h : PSt w wr B pp tb rb v M rel tv L R pv P) (x : Int) (hg : wr.grownBy w' pv.ownBlock) (own : w'.ownsRow B 3 1 pv' (P.length + 1) (J.ints P ++ [.int .i64 x])) : PSt w w' B pp tb rb v M rel tv L R pv' (P ++ [x]) := by
 have hf : Fr 0 [3] B wr w' := Fr.of_own hg h.pl (Nat.le_refl _) (by simp)
 obtain ⟨cs, ht⟩ := h.tt
 refine ⟨h.p.grown hg fun g hk => ⟨own_apart h.pl h.p.hd (by decide) g hk, own_apart h.pl ht (by decide) g hk⟩, h.r.fr hf (by decide), h.ta.fr hf (by decide) (by decide), ?_, h.g.trans (hf.below (Nat.le_refl _) (Nat.le_trans h.hr (Nat.le_of_lt h.r.lt))), h.hp, h.ht, h.hr, cs, ht.fr hf (by decide)⟩
 rw [List.length_append, show J.ints (P ++ [x]) = J.ints P ++ [.int .i64 x] from J.ints_snoc _ _]
 exact own
theorem PSt.taskd {w wr w' : World} {B pp tb rb : Nat} {v tv tv' r : Value} {R : List Value} {x : S46} (h : PSt w wr B pp tb rb v M rel tv L R pv P) (hr : wr.ownsRow B 2 1 r x.f6.length (J.ints x.f6)) (hg : wr.grownBy w' tv.ownBlock) (own : w'.ownsRow B 46 9 tv' (L.length + 1) (tcs L R ++ tcells x r)) (hrp : rb ≠ pp) (hrt : rb ≠ tb) :
  PSt w (w'.setCell ⟨rb, 1, none⟩ tv') B pp tb rb v M rel tv' (L ++ [x]) (R ++ [r]) pv P := by
 have hf : Fr 0 [46] B wr w' := Fr.of_own hg h.ta.row (Nat.le_refl _) (by simp)
 have hr2 := h.r.fr hf (by decide)
 have hf2 : Fr 0 [24] 0 w' (w'.setCell ⟨rb, 1, none⟩ tv') := Fr.of_blk (only_setCell (World.grownBy.refl _ (some rb)) (p := ⟨rb, 1, none⟩) (.inl rfl) _) hr2 (Nat.zero_le _) (by simp)
 obtain ⟨cs, ht⟩ := h.tt
 exact ⟨(h.p.grown hg fun g hk => ⟨own_apart h.ta.row h.p.hd (by decide) g hk, own_apart h.ta.row ht (by decide) g hk⟩).far hrp hrt _, hr2.set_ 1 _, (tasks_snoc h.ta hr hg own).fr hf2 (by decide) (by decide), own_fr (own_fr h.pl hf (by decide)) hf2 (by decide), (h.g.trans (hf.below (Nat.le_refl _) (Nat.le_trans h.hr (Nat.le_of_lt h.r.lt)))).setCell h.hr _, h.hp, h.ht, h.hr, cs, (ht.fr hf (by decide)).fr hf2 (by decide)⟩
end
theorem src_of {w : World} {B : Nat} {A : Option Addr} {c : Nat} {L : List S46} {R : List Value} (h : TasksAt w B (.slice A L.length c) L R) (h8 : ∀ x ∈ L, x.f6.length ≤ 8) : Src w A L := by
 rcases Nat.eq_zero_or_pos L.length with h0 | h0
 ·exact .inl (List.length_eq_zero_iff.1 h0)
 ·obtain ⟨a, c', cs, hv, hb, hB, hc⟩ := h.at_ h0
  injection hv with hA _ _
  refine .inr ⟨a, 0, hA, hB.lt, fun i x hx => ?_⟩
  obtain ⟨hi, rfl⟩ := List.getElem?_eq_some_iff.1 hx
  obtain ⟨ra, rc, hrv, hle, _, hN⟩ := ints_C (h.regs i hi) (by have := h8 L[i] (List.getElem_mem hi); omega)
  have g : ∀ j, j < 9 → w.cell? ⟨a, 0 + i * 9 + j, none⟩ = (tcells L[i] (.slice ra L[i].f6.length rc))[j]? := fun j hj => by
   rw [← hrv, Nat.zero_add]
   exact (hB.cell _).trans (hc i j hi hj)
  exact ⟨ra, rc, g 0 (by decide), g 1 (by decide), g 2 (by decide), g 3 (by decide), g 4 (by decide), g 5 (by decide), g 6 (by decide), g 7 (by decide), g 8 (by decide), hN, hle⟩
theorem tasks_below {w w' : World} {B : Nat} {tv : Value} {L : List S46} {R : List Value} (h : TasksAt w B tv L R) (hb : Below w.heap.size w w') : TasksAt w' B tv L R := h.fr (E := 0) (ts := []) (C := 0) (Fr.of_below hb) (by simp) (by simp)
theorem Tryz.info3 : (Tryz.prog.info? 3).map (fun i => (i.zero, i.size, i.bytes)) = some (some (.int .i64 0), 1, 8) := by kernel_rfl
end
theorem enter58 (v : Value) (w : World) : (callFunc 58 #[v]).run Tryz.prog w = .ok (.enter 58 #[v]) w := by kernel_rfl
theorem step_call58 {ops : Array Oper} {o : Oper} {a : Act} {w : World} {K : Act → World → Prop} {Q : Exit → Act → World → Prop} {E : Prop} (hgd : o.guard = none) (x : Operand)
  (ho : o.op = .call { callee := .value (.func 58), args := #[x], argTypes := #[110] }) (v : Value) (hx : a.eval x = v)
  (hc : Calls Tryz.prog 58 #[v] w fun e w' => ∃ r, e = .returned r ∧ K (a.put o.dst r) w') :
  if Region.wanted o (yielded ops a.tmps) = true then Oper.wp Tryz.prog o a w K Q else E := by
 have hw : Region.wanted o (yielded ops a.tmps) = true := by simp [Region.wanted, hgd]
 rw [if_pos hw]
 unfold Oper.wp
 have e : a.eval (Operand.func 58) = .func (.func 58) #[] #[] := rfl
 have e2 := enter58 v w
 simp only [execOp, ho, resolve, invoke, Deferred.ofValue, e, hx, Sem.run_bind, Sem.run_pure, Result.andThen_ok, List.map_toArray, List.map_cons, List.map_nil, List.append_toArray, List.nil_append, List.append_nil, e2, Oper.upon_enter]
 refine hc.mono ?_
 rintro e w' ⟨r, rfl, h⟩
 exact h
set_option maxHeartbeats 16000000 in
theorem parse_yes {w : World} {s : ByteArray} {rel : Int} {L : List S46} (hT : SetTextP s rel L) (htab : Lib.TabIs Tryz.prog w "strings.asciiSpace" .u8 Lib.asciiSpaceTab)
  (hr0 : 0 ≤ rel) (hr1 : rel ≤ 10000) (h1 : 1 ≤ L.length) (h8 : L.length ≤ 8) (hTk : ∀ (i : Nat) (x : S46), L[i]? = some x → TOk x i) (hne : ∀ (i j : Nat) (x y : S46), i < j → L[i]? = some x → L[j]? = some y → x.f0 ≠ y.f0) :
  Calls Tryz.prog 34 #[.string s] w fun e w' => ∃ tv R, e = .returned (.tuple #[.agg #[.int .i64 rel, tv], .int .i64 s.size, .int .i64 0]) ∧ TasksAt w' w.heap.size tv L R ∧ Below w.heap.size w w' := by
 obtain ⟨r0, rr, sm, body, e, htok, hrl, hrk, rfl, hsm, hbody, hek, hblen⟩ := hT.out
 have hsz := hT.sz
 have hB0 := (Below.refl w.heap.size w).alloc (Nat.le_refl _) (.cells #[.int .i64 0, .slice none 0 0] 24)
 have H1 := Lib.hid (tokens_any s hsz _ (Lib.tabBelow_of_tabIs htab _ hB0) _ htok)
 have HB0 := Lib.hid hB0
 have HTB := Lib.hid (Lib.tabBelow_of_tabIs htab)
 have HR := Lib.hid (Blk.new w 24 #[.int .i64 0, .slice none 0 0])
 have HRL := Lib.hid hrl
 have HRK := Lib.hid hrk
 have HSM := Lib.hid hsm
 have HEK := Lib.hid hek
 have HBL := Lib.hid hblen
 have HBD := Lib.hid hbody
 clear hB0 htok hrl hrk hsm hbody hek hblen htab hT
 go_enter Tryz.func34, Tryz.ntmps34
 go_upto_region 5 with (go_at_call 54; refine (H1.out).mono ?_; rintro e w2 ⟨v, rfl, hown, hb⟩; obtain ⟨tb, tc, tkc, rfl, htc, htb, hTB, hTC⟩ := own_cells' hown (Nat.succ_pos _); have HTBL := Lib.hid hTB; have HTCL := Lib.hid hTC; have HTBB := Lib.hid htb; have HTCC := Lib.hid htc; have HB2 := Lib.hid hb; clear hown hb H1 hTB hTC htb htc)
 have hs2 : w.heap.size < w2.heap.size := by have := HB2.out.size; simp at this; omega
 have hP3 : PAt (w2.alloc (.cells #[.slice (some ⟨tb, 0, none⟩) (body.length + 1 + 1 + 1 + 1) tc, .int .i64 0, .int .i64 0] 112)) w2.heap.size tb (.slice (some ⟨tb, 0, none⟩) (body.length + 1 + 1 + 1 + 1) tc) (r0 :: rr :: sm :: (body ++ [e])) := by
  have hl : (r0 :: rr :: sm :: (body ++ [e])).length = body.length + 1 + 1 + 1 + 1 := by simp
  refine ⟨Blk.new _ _ _, ⟨0, tc, by rw [hl], HTCC.out, Nat.lt_of_lt_of_le HTBL.out.lt (by simp), by have := HTBL.out.lt; omega, fun i x hx => ?_⟩, by rw [hl]; have := HBL.out; omega, ⟨r0 :: rr :: sm :: body, e, by simp, HEK.out⟩⟩
  have hil : i < (r0 :: rr :: sm :: (body ++ [e])).length := (List.getElem?_eq_some_iff.1 hx).1
  have hc : ∀ j, j < 4 → (w2.alloc (.cells #[.slice (some ⟨tb, 0, none⟩) (body.length + 1 + 1 + 1 + 1) tc, .int .i64 0, .int .i64 0] 112)).cell? ⟨tb, 0 + (i * 4 + j), none⟩ = x.cells[j]? := fun j hj => by
   rw [Nat.zero_add, (HTBL.out.alloc _).cell, HTCL.out _ (by rw [t4s_length]; omega), t4s_at _ i j x hx hj]
  exact ⟨hc 0 (by decide), hc 1 (by decide), hc 2 (by decide), hc 3 (by decide)⟩
 have hb2 : Below w.heap.size w w2 := HB0.out.trans (HB2.out.mono (by simp))
 have S3 : PSt w (w2.alloc (.cells #[.slice (some ⟨tb, 0, none⟩) (body.length + 1 + 1 + 1 + 1) tc, .int .i64 0, .int .i64 0] 112)) w.heap.size w2.heap.size tb w.heap.size (.slice (some ⟨tb, 0, none⟩) (body.length + 1 + 1 + 1 + 1) tc) (r0 :: rr :: sm :: (body ++ [e])) 0 (.slice none 0 0) [] [] (.slice none 0 0) [] := by
  refine ⟨hP3, (HR.out.below HB2.out (by simp)).alloc _, ⟨rfl, World.ownsRow_nil _ _ _ _, fun i hi => absurd hi (by simp)⟩, by simpa [J.ints] using World.ownsRow_nil _ _ _ _, hb2.alloc (Nat.le_of_lt hs2) _, Nat.le_of_lt hs2, ?_, Nat.le_refl _, _, HTBL.out.alloc _⟩
  have := HTBB.out
  simp at this
  omega
 have hBtb : w.heap.size < tb := by have := HTBB.out; simp at this; omega
 obtain ⟨w3, hw3⟩ : ∃ w3, w2.alloc (.cells #[.slice (some ⟨tb, 0, none⟩) (body.length + 1 + 1 + 1 + 1) tc, .int .i64 0, .int .i64 0] 112) = w3 := ⟨_, rfl⟩
 obtain ⟨pp, hpp⟩ : ∃ pp, w2.heap.size = pp := ⟨_, rfl⟩
 obtain ⟨rb, hrb⟩ : ∃ rb, w.heap.size = rb := ⟨_, rfl⟩
 rw [hw3, hpp] at S3 ⊢
 rw [hpp] at hs2
 rw [hrb] at S3 hs2 hBtb ⊢
 have HRB := Lib.hid hrb
 have hrp : rb ≠ pp := by omega
 have hrt : rb ≠ tb := by omega
 have HS3 := Lib.hid S3
 have A1 := Lib.hid (after_yes S3.p sReload HRL.out HRK.out)
 unfold sReload at A1
 clear hw3 hpp hrb S3 hP3 hb2 HB2 HTBL HTCL HTBB HTCC HR HB0
 go_wp2_with (first | (go_at_call 55; refine (A1.out).mono ?_; rintro e' w4 ⟨rfl, ⟨v4, hP⟩, hg⟩; have HS4 := Lib.hid (HS3.out.next hP hg); have g0 := HS4.out.r.cell 0; have f0 := HS4.out.r.frozen 0; have HS5 := Lib.hid (HS4.out.rel_ rr.n hrp hrt); have A2 := Lib.hid (must_yes HS5.out.p sSemi HSM.out); unfold sSemi at A2; clear hP hg A1) | (go_at_call 56; refine (A2.out).mono ?_; rintro e' w6 ⟨rfl, ⟨v6, hP⟩, hg⟩; have HS6 := Lib.hid (HS5.out.next hP hg); clear hP hg A2 g0 f0))
 clear HS3 HS4 HS5
 obtain ⟨i3, hi3, hz30, hz31, hz32⟩ := info_parts Tryz.info3
 have Hz0 := Lib.hid hz30
 have Hz1 := Lib.hid hz31
 have Hz2 := Lib.hid hz32
 have Hi := Lib.hid hi3
 obtain ⟨i46, hi46, hz460, hz461, hz462⟩ := info_parts Tryz.info46
 have Hy0 := Lib.hid hz460
 have Hy1 := Lib.hid hz461
 have Hy2 := Lib.hid hz462
 have Hy := Lib.hid hi46
 clear hi3 hz30 hz31 hz32 hi46 hz460 hz461 hz462
 have HTK := Lib.hid hTk
 have HNE := Lib.hid hne
 obtain ⟨rel, hrel0⟩ : ∃ rel, rr.n = rel := ⟨_, rfl⟩
 rw [hrel0] at hr0 hr1 HS6 ⊢
 have HREL := Lib.hid hrel0
 clear hTk hne hrel0
 go_loopw [8] (fun z8 wr => ∃ (bd : List T4) (L1 L2 : List S46) (tv : Value) (R : List Value) (P : List Int) (v7 : Value), L = L1 ++ L2 ∧ TasksP bd L2 ∧ PSt w wr rb pp tb rb v7 (bd ++ [e]) rel tv L1 R z8 P ∧ P.length = L1.length) (fun z8 _ => L.length - lenOf z8)
 case atStart => exact ⟨body, [], L, _, [], [], _, rfl, HBD.out, HS6.out, rfl⟩
 case round =>
  obtain ⟨bd, L1, L2, tv, R, P, v7, hL, hbd, hS, hPl⟩ := hrel
  have c2 : wr.cell? ⟨pp, 2, none⟩ = some (.int .i64 0) := hS.p.hd.cell 2
  have hppl := hS.p.hd.lt
  have q0 := field0
  have q3 := field3
  obtain ⟨A8, pc, rfl, _, _⟩ := row_read hS.pl
  cases hbd with
  | nil =>
   have HN := Lib.hid (next_any hS.p)
   have hk4 : (e.k == 4) = true := by rw [HEK.out]; rfl
   have hk4' : (e.k != 4) = false := by rw [HEK.out]; rfl
   have HS := Lib.hid hS
   have HL := Lib.hid hL
   clear hS hL
   unfold T4.v at HN
   go_upto_region 11 with (go_at_call 57; refine (HN.out).mono ?_; rintro e' w7 ⟨rfl, hb⟩; have HS7 := Lib.hid (HS.out.below hb); have d2 : w7.cell? ⟨pp, 2, none⟩ = some (.int .i64 0) := HS7.out.p.hd.cell 2; have hppl7 := HS7.out.p.hd.lt; clear hb c2)
   have hLL : L1 = L := by have := HL.out; simpa using this.symm
   subst hLL
   obtain ⟨TA, tc', htv⟩ := HS7.out.ta.slice (by omega)
   subst htv
   have HALL := Lib.hid (all_yes (c := tc') h1 h8 hr0 hr1 (fun w' hb => src_of (tasks_below HS7.out.ta hb) (fun x hx => by obtain ⟨i, hi, rfl⟩ := List.mem_iff_getElem.1 hx; exact (HTK.out i _ (List.getElem?_eq_getElem hi)).r8)) HTK.out HNE.out (HTB.out w7 (by rw [HRB.out]; exact HS7.out.g)))
   have b0 : w7.cell? ⟨rb, 0, none⟩ = some (.int .i64 rel) := HS7.out.r.cell 0
   have b1 : w7.cell? ⟨rb, 1, none⟩ = some (.slice (some ⟨TA, 0, none⟩) L1.length tc') := HS7.out.r.cell 1
   go_wp2_with (go_at_call 42; refine (HALL.out).mono ?_; rintro e' w8 ⟨rfl, hb⟩; have HS8 := Lib.hid (HS7.out.below hb); have e0 : w8.cell? ⟨rb, 0, none⟩ = some (.int .i64 rel) := HS8.out.r.cell 0; have e1 : w8.cell? ⟨rb, 1, none⟩ = some (.slice (some ⟨TA, 0, none⟩) L1.length tc') := HS8.out.r.cell 1; have e2 : w8.cell? ⟨pp, 2, none⟩ = some (.int .i64 0) := HS8.out.p.hd.cell 2; have k0 := HS8.out.r.frozen 0; have k1 := HS8.out.r.frozen 1; have hppl8 := HS8.out.p.hd.lt; clear hb b0 b1 d2)
   refine bodyPost_ret (results_cell3 rfl _ _ rb 24 #[.int .i64 rel, .slice (some ⟨TA, 0, none⟩) L1.length tc'] _ rfl ((HS8.out.r.set_ 0 (.int .i64 rel)).set_ 1 (.slice (some ⟨TA, 0, none⟩) L1.length tc')) Tryz.underlying24 rfl (by kernel_rfl)) rfl ⟨.slice (some ⟨TA, 0, none⟩) L1.length tc', R, by rw [HREL.out]; rfl, ?_, ?_⟩
   ·have hf : Fr 0 [24] 0 w8 ((w8.setCell ⟨rb, 0, none⟩ (.int .i64 rel)).setCell ⟨rb, 1, none⟩ (.slice (some ⟨TA, 0, none⟩) L1.length tc')) := Fr.of_blk (only_setCell (only_setCell (World.grownBy.refl _ (some rb)) (p := ⟨rb, 0, none⟩) (.inl rfl) _) (p := ⟨rb, 1, none⟩) (.inl rfl) _) HS8.out.r (Nat.zero_le _) (by simp)
    rw [HRB.out]
    exact HS8.out.ta.fr hf (by decide) (by decide)
   ·rw [HRB.out]
    exact (HS8.out.g.setCell (Nat.le_refl _) _).setCell (Nat.le_refl _) _
  | cons ts rest x l hx ht =>
   obtain ⟨a, l', hts, hak⟩ := hx.head
   have hpa := hS.p
   rw [hts, List.cons_append, List.cons_append] at hpa
   have HN := Lib.hid (next_any hpa)
   have ha4 : (a.k == 4) = false := by rw [hak]; rfl
   have ha4' : (a.k != 4) = true := by rw [hak]; rfl
   have hLx : L[L1.length]? = some x := by rw [hL]; simp
   have hTx := HTK.out _ x hLx
   have hLen : L.length = L1.length + (l.length + 1) := by rw [hL]; simp
   have HS := Lib.hid hS
   have HL := Lib.hid hL
   have HX := Lib.hid hx
   have HT := Lib.hid ht
   have HTS := Lib.hid hts
   have HPL := Lib.hid hPl
   have hPn : P.length ≤ 8 := by omega
   have hr8 := hTx.r8
   clear hS hL hx ht hpa hak hLx hTx hts hPl
   unfold T4.v at HN
   go_upto_region 10 with (first | (go_at_call 57; refine (HN.out).mono ?_; rintro e' w7 ⟨rfl, hb⟩; have HS7 := Lib.hid (HS.out.below hb); have hp7 := HS7.out.p; rw [HTS.out, List.cons_append, List.cons_append] at hp7; have HN2 := Lib.hid (next_any hp7); unfold T4.v at HN2; clear hb c2 hp7 HN) | (go_at_call 57; refine (HN2.out).mono ?_; rintro e' w8 ⟨rfl, hb⟩; have HS8 := Lib.hid (HS7.out.below hb); have HV8 := Lib.hid (HS8.out.pl.alloc (.cells #[.int .i64 a.at_] 3)); have H8 : Hid (∀ j u, [Value.int .i64 a.at_][j]? = some u → (w8.alloc (.cells #[.int .i64 a.at_] 3)).cell? ((⟨w8.heap.size, 0, none⟩ : Addr).add j) = some u) := cells_new (l := [Value.int .i64 a.at_]); have h85 : Hid (rb ≤ (w8.alloc (.cells #[.int .i64 a.at_] 3)).heap.size) := Nat.le_trans HS8.out.hr (Nat.le_of_lt (Nat.lt_of_lt_of_le HS8.out.r.lt (by simp))); clear hb) | (at_builtin; refine wpList_append_own _ rfl (.tmp 39) (.tmp 43) 86 rfl rb 3 i3 _ 1 8 Tryz.underlying86 Hi.out Hz0.out Hz1.out Hz2.out rfl (Nat.succ_pos 0) (.slice A8 P.length pc) P.length (J.ints P) rfl HV8.out ⟨w8.heap.size, 0, none⟩ 1 1 [.int .i64 a.at_] rfl rfl H8.out (J.ints_one [a.at_]) (by unfold maxLen; omega) (by omega) h85.out ?_; intro v' w9 own9 gr9 _))
   have S9 := (HS8.out.below ((Below.refl w8.heap.size w8).alloc (Nat.le_refl _) (.cells #[.int .i64 a.at_] 3))).places a.at_ gr9 own9
   have hp9 := S9.p.below ((Below.refl w9.heap.size w9).drew)
   rw [List.append_assoc] at hp9
   have HTY := Lib.hid (task_yes HX.out hp9 (by omega))
   have HS9 := Lib.hid S9
   obtain ⟨TA, tc', htv, _, _⟩ : ∃ A c, tv = .slice A L1.length c ∧ True ∧ True := by
    rcases S9.ta.row.2 with ⟨h, h0⟩ | ⟨g, c, cur, h, _⟩
    ·exact ⟨none, 0, by rw [h, h0], trivial, trivial⟩
    ·exact ⟨_, c, h, trivial, trivial⟩
   subst htv
   have b1 : w9.cell? ⟨rb, 1, none⟩ = some (.slice TA L1.length tc') := S9.r.cell 1
   have hwl : rb < w9.heap.size := S9.r.lt
   have hL1 : L1.length ≤ 8 := by omega
   have H92 : ∀ (x : S46) (RA : Option Addr) (rc : Nat), Hid (∀ u ∈ [Value.string x.f0, .int .i64 x.f1, .int .i64 x.f2, .int .i64 x.f3, .int .i64 x.f4, .int .i64 x.f5, .slice RA x.f6.length rc, .int .u64 x.f7, .int .u64 x.f8], u.oneCell' = true) := by
    intro x RA rc u hu
    simp at hu
    rcases hu with rfl | rfl | rfl | rfl | rfl | rfl | rfl | rfl | rfl <;> rfl
   have H93 : Hid (L1.length + 1 ≤ maxLen) := by unfold Hid maxLen; omega
   have H94 : Hid ((L1.length + 1) * 96 ≤ 140737488355328) := by unfold Hid; omega
   clear S9 hp9 own9 gr9 HN2 HV8 H8 h85
   go_region_law (first | (refine step_call58 rfl (.tmp 47) rfl _ rfl (HTY.out.mono ?_); rintro e' w10 ⟨r, rfl, hown, ⟨v10, hP⟩, hg⟩; obtain ⟨RA, rc, rfl, _, _⟩ := row_read hown; have HS10 := Lib.hid ((HS9.out.below ((Below.refl w9.heap.size w9).drew)).next hP hg); have HO10 := Lib.hid (own_mono hown (Nat.le_trans HS9.out.hr (Nat.le_of_lt hwl))); have d1 : w10.cell? ⟨rb, 1, none⟩ = some (.slice TA L1.length tc') := HS10.out.r.cell 1; have hwl10 := HS10.out.r.lt; have HSA := Lib.hid (HS10.out.below ((Below.refl w10.heap.size w10).alloc (Nat.le_refl _) (.cells (List.toArray [.string x.f0, .int .i64 x.f1, .int .i64 x.f2, .int .i64 x.f3, .int .i64 x.f4, .int .i64 x.f5, .slice RA x.f6.length rc, .int .u64 x.f7, .int .u64 x.f8]) 46))); have HOA := Lib.hid (HO10.out.alloc (.cells (List.toArray [.string x.f0, .int .i64 x.f1, .int .i64 x.f2, .int .i64 x.f3, .int .i64 x.f4, .int .i64 x.f5, .slice RA x.f6.length rc, .int .u64 x.f7, .int .u64 x.f8]) 46)); have HA1 : Hid (∀ j u, ([.string x.f0, .int .i64 x.f1, .int .i64 x.f2, .int .i64 x.f3, .int .i64 x.f4, .int .i64 x.f5, .slice RA x.f6.length rc, .int .u64 x.f7, .int .u64 x.f8] : List Value)[j]? = some u → (w10.alloc (.cells (List.toArray [.string x.f0, .int .i64 x.f1, .int .i64 x.f2, .int .i64 x.f3, .int .i64 x.f4, .int .i64 x.f5, .slice RA x.f6.length rc, .int .u64 x.f7, .int .u64 x.f8]) 46)).cell? ((⟨w10.heap.size, 0, none⟩ : Addr).add j) = some u) := cells_new (l := [.string x.f0, .int .i64 x.f1, .int .i64 x.f2, .int .i64 x.f3, .int .i64 x.f4, .int .i64 x.f5, .slice RA x.f6.length rc, .int .u64 x.f7, .int .u64 x.f8]); have HA5 := Lib.hid (Nat.le_trans HS10.out.hr (Nat.le_of_lt (Nat.lt_of_lt_of_le HS10.out.r.lt (Nat.le_of_lt (by simp : w10.heap.size < (w10.alloc (.cells (List.toArray [.string x.f0, .int .i64 x.f1, .int .i64 x.f2, .int .i64 x.f3, .int .i64 x.f4, .int .i64 x.f5, .slice RA x.f6.length rc, .int .u64 x.f7, .int .u64 x.f8]) 46)).heap.size))))); clear hP hg hown; refine ⟨_, rfl, ?_⟩) | (refine step_append_own_at rfl (.tmp 46) (.tmp 49) 22 rfl rb 46 i46 _ 9 96 Tryz.underlying22 Hy.out Hy0.out Hy1.out Hy2.out rfl (Nat.succ_pos 8) (.slice TA L1.length tc') L1.length (tcs L1 R) rfl HSA.out.ta.row ⟨w10.heap.size, 0, none⟩ 1 1 [.string x.f0, .int .i64 x.f1, .int .i64 x.f2, .int .i64 x.f3, .int .i64 x.f4, .int .i64 x.f5, .slice RA x.f6.length rc, .int .u64 x.f7, .int .u64 x.f8] rfl rfl HA1.out (H92 x RA rc).out H93.out H94.out HA5.out ?_; intro v' w11 own gr _ wh; obtain ⟨g', m', rfl⟩ := own_shape own; have HW := Lib.hid own; have HGW := Lib.hid gr; have hrne := own_apart HSA.out.ta.row HSA.out.r (by decide); have c11 : w11.cell? ⟨rb, 1, none⟩ = some (.slice TA L1.length tc') := (HSA.out.r.grown gr (fun e => hrne rb e.symm rfl)).cell 1; have f11 := (HSA.out.r.grown gr (fun e => hrne rb e.symm rfl)).frozen 1; clear own gr hrne wh))
   all_goals
    go_wp2_with fail
    go_roundw
    case rel => exact ⟨rest, L1 ++ [x], l, _, _, _, v10, by rw [HL.out, List.append_assoc]; rfl, HT.out, HSA.out.taskd HOA.out HGW.out HW.out hrp hrt, by rw [List.length_append, List.length_append, HPL.out]; rfl⟩
    case measure =>
     show L.length - lenOf v' < L.length - lenOf (.slice A8 P.length pc)
     rw [own_len HS9.out.pl, List.length_append]
     simp only [lenOf, List.length_singleton]
     have := HPL.out
     omega
end Go.Proofs.YtdgfjpbjiccllaaGreatDoor.X
namespace Go.Proofs.YtdgfjpbjiccllaaGreatDoor.F
open Go.RowKit
open X (scope_once code_mono)
open YtdgfjpbjiccllaaGreatDoorW.PrintWords YtdgfjpbjiccllaaGreatDoorW.PrintLast YtdgfjpbjiccllaaGreatDoorW.PrintMore
open PTopLoads (S212)
set_option maxRecDepth 100000
def leastL : Nat → Int → List S212 → Int → Int × Bool
 | 0, _, _, _ => (0, false)
 | f + 1, base, ls, v => if sumL base ls v = v then (v, true) else if sumL base ls v < v ∨ 1000000 < sumL base ls v then (0, false) else leastL f base ls (sumL base ls v)
def LJ (w : World) (A : Option Addr) (c : Nat) (base : Int) (ls : List S212) (R : Int × Bool) (a' : Act) (wr : World) : Prop :=
 ∃ (v : Int) (u2 u3 u7 u8 u9 u10 u11 u12 u13 u14 u15 u16 u17 u18 u19 u20 u21 u22 u23 u24 u25 u26 u27 : Value), 1 ≤ v ∧ v ≤ 1000000 ∧ Below w.heap.size w wr ∧ (∃ f : Nat, 1000001 - v ≤ (f : Int) ∧ leastL f base ls v = R) ∧ a' = { tmps := #[.int .i64 base, .slice A ls.length c, u2, u3, .int .i64 0, .bool false, .int .i64 v, u7, u8, u9, u10, u11, u12, u13, u14, u15, u16, u17, u18, u19, u20, u21, u22, u23, u24, u25, u26, u27], defers := [] }
set_option maxHeartbeats 4000000 in
theorem Least_any (base : Int) (A : Option Addr) (c : Nat) (ls : List S212) (w : World) (h : Lds w A ls) (hl : ls.length ≤ 1000) (hc : ls.length ≤ c) (R : Int × Bool) (hR : (if isL base ls then leastL 1000001 base ls 1 else (0, false)) = R) :
  Calls Tryz.prog 152 #[.int .i64 base, .slice A ls.length c] w fun e w' => e = .returned (.tuple #[.int .i64 R.1, .bool R.2]) ∧ Below w.heap.size w w' := by
 have HI := Lib.hid (is_any base A c ls w h hl)
 have HS := Lib.hid (fun w' v hb => sum_any base A c ls v w' (h.below hb) hl hc)
 clear h hc
 cases h1 : isL base ls with
 | false =>
  rw [h1] at HI hR
  have HR := Lib.hid hR
  clear h1 hR
  go_enter Tryz.func152, Tryz.ntmps152
  go_wp2
  go_step3
  go_wp2_with (go_at_call 165; refine (HI.out).mono ?_; rintro e w' ⟨rfl, hb⟩; have HB := Lib.hid hb; clear hb)
  rw [Exit.noGoto_ret]
  refine bodyPost_ret (results_tmp2 rfl _ _ _) rfl ⟨by rw [← HR.out]; rfl, HB.out⟩
 | true =>
  rw [h1] at HI hR
  rw [if_pos rfl] at hR
  have HR := Lib.hid hR
  clear h1 hR
  go_enter Tryz.func152, Tryz.ntmps152
  go_wp2
  refine scope_once 0 (LJ w A c base ls R) (fun a' _ => 1000001 - (intOf (a'.tmps.getD 6 undef)).toNat) (by rfl) ?_ ?_
  ·rintro a' wr ⟨v, u2, u3, u7, u8, u9, u10, u11, u12, u13, u14, u15, u16, u17, u18, u19, u20, u21, u22, u23, u24, u25, u26, u27, hv0, hv1, hb, hf, rfl⟩
   have HSV := Lib.hid (HS.out wr v hb)
   have HB' := Lib.hid hb
   have HF := Lib.hid hf
   obtain ⟨n, hn⟩ : ∃ n, sumL base ls v = n := ⟨_, rfl⟩
   rw [hn] at HSV
   have HN := Lib.hid hn
   clear hb hf hn
   by_cases c1 : n = v
   ·have c1b : (n == v) = true := by simpa using c1
    have HC := Lib.hid c1
    clear c1
    go_wp2_with (go_at_call 166; refine (HSV.out).mono ?_; rintro e w2 ⟨rfl, hb⟩; have HB2 := Lib.hid hb; clear hb)
    simp only [Exit.jump]
    refine bodyPost_ret (results_tmp2 rfl _ _ _) rfl ⟨?_, HB'.out.trans (HB2.out.mono HB'.out.size)⟩
    obtain ⟨f, hf1, hf2⟩ := HF.out
    obtain ⟨f, rfl⟩ : ∃ f', f = f' + 1 := ⟨f - 1, by omega⟩
    rw [leastL, if_pos (by rw [HN.out, HC.out])] at hf2
    rw [← hf2]
    rfl
   ·have c1b : (n == v) = false := by simpa using c1
    have HC := Lib.hid c1
    by_cases c2 : n < v
    ·have HC2 := Lib.hid c2
     have c2b : decide (n < v) = true := by simpa using c2
     clear c1
     go_wp2_with (go_at_call 166; refine (HSV.out).mono ?_; rintro e w2 ⟨rfl, hb⟩; have HB2 := Lib.hid hb; clear hb)
     simp only [Exit.jump]
     refine bodyPost_ret (results_tmp2 rfl _ _ _) rfl ⟨?_, HB'.out.trans (HB2.out.mono HB'.out.size)⟩
     obtain ⟨f, hf1, hf2⟩ := HF.out
     obtain ⟨f, rfl⟩ : ∃ f', f = f' + 1 := ⟨f - 1, by omega⟩
     rw [leastL, if_neg (by rw [HN.out]; exact HC.out), if_pos (by rw [HN.out]; exact .inl HC2.out)] at hf2
     rw [← hf2]
     rfl
    ·have c2b : decide (n < v) = false := by simpa using c2
     by_cases c3 : 1000000 < n
     ·have HC2 := Lib.hid c3
      have c3b : decide (1000000 < n) = true := by simpa using c3
      clear c1
      go_wp2_with (go_at_call 166; refine (HSV.out).mono ?_; rintro e w2 ⟨rfl, hb⟩; have HB2 := Lib.hid hb; clear hb)
      simp only [Exit.jump]
      refine bodyPost_ret (results_tmp2 rfl _ _ _) rfl ⟨?_, HB'.out.trans (HB2.out.mono HB'.out.size)⟩
      obtain ⟨f, hf1, hf2⟩ := HF.out
      obtain ⟨f, rfl⟩ : ∃ f', f = f' + 1 := ⟨f - 1, by omega⟩
      rw [leastL, if_neg (by rw [HN.out]; exact HC.out), if_pos (by rw [HN.out]; exact .inr HC2.out)] at hf2
      rw [← hf2]
      rfl
     ·have c3b : decide (1000000 < n) = false := by simpa using c3
      have hlt : v < n := by omega
      have hle : n ≤ 1000000 := by omega
      have HC2 := Lib.hid c2
      have HC3 := Lib.hid c3
      clear c1 c2 c3
      go_wp2_with (go_at_call 166; refine (HSV.out).mono ?_; rintro e w2 ⟨rfl, hb⟩; have HB2 := Lib.hid hb; clear hb)
      go_step3
      refine ⟨rfl, ⟨n, _, _, _, _, _, _, _, _, _, _, _, _, _, _, _, _, _, _, _, _, _, _, _, by omega, hle, HB'.out.trans (HB2.out.mono HB'.out.size), ?_, rfl⟩, ?_⟩
      ·obtain ⟨f, hf1, hf2⟩ := HF.out
       obtain ⟨f, rfl⟩ : ∃ f', f = f' + 1 := ⟨f - 1, by omega⟩
       rw [leastL, if_neg (by rw [HN.out]; exact HC.out), if_neg (by rw [HN.out]; intro h; rcases h with h | h <;> omega), HN.out] at hf2
       exact ⟨f, by omega, hf2⟩
      ·show 1000001 - (intOf (.int .i64 n)).toNat < 1000001 - (intOf (.int .i64 v)).toNat
       simp only [intOf]
       omega
  ·intro hp
   go_wp2_with (go_at_call 165; refine (HI.out).mono ?_; rintro e w' ⟨rfl, hb⟩; have HB := Lib.hid hb; clear hb)
   go_step3
   rename_i hk
   refine hk _ _ ?_
   refine hp.out _ _ ?_
   exact ⟨1, _, _, _, _, _, _, _, _, _, _, _, _, _, _, _, _, _, _, _, _, _, _, _, by omega, by omega, HB.out, ⟨1000001, by omega, HR.out⟩, rfl⟩
end Go.Proofs.YtdgfjpbjiccllaaGreatDoor.F
namespace Go.Proofs.YtdgfjpbjiccllaaGreatDoor.F
open Go.RowKit
open YtdgfjpbjiccllaaGreatDoorW.PrintWords YtdgfjpbjiccllaaGreatDoorW.PrintLast YtdgfjpbjiccllaaGreatDoorW.PrintMore
open PTopLoads (S212)
set_option maxRecDepth 100000
def doneL : Nat → Int → List S212 → Int → Int
 | 0, _, _, v => v
 | f + 1, base, ls, v => if (SumL base ls v).1 ≤ v then v else doneL f base ls (SumL base ls v).1
theorem SumL_out {base : Int} {ls : List S212} {v : Int} (h : 1000000 < v) : (SumL base ls v).1 = 0 := by
 unfold SumL topL
 rw [if_neg]
 simp
 omega
set_option maxHeartbeats 1000000 in
theorem done_any (base : Int) (A : Option Addr) (c : Nat) (ls : List S212) (v : Int) (h0 : 0 ≤ v) (w : World) (h : Lds w A ls) (hl : ls.length ≤ 1000) (hc : ls.length ≤ c) (R : Int) (hR : doneL 1000002 base ls v = R) :
  Calls Tryz.prog 137 #[.int .i64 base, .slice A ls.length c, .int .i64 v] w fun e w' => e = .returned (.int .i64 R) ∧ Below w.heap.size w w' := by
 have HS := Lib.hid (fun w' v hb => Sum_any base A c ls v w' (h.below hb) hl hc)
 have HR := Lib.hid hR
 clear h hR hc
 go_enter Tryz.func137, Tryz.ntmps137
 go_wp2
 go_loopw [2] (fun z wr => ∃ v : Int, z = .int .i64 v ∧ 0 ≤ v ∧ Below w.heap.size w wr ∧ ∃ f : Nat, 1000002 - v ≤ (f : Int) ∧ doneL f base ls v = R) (fun z _ => 1000002 - (intOf z).toNat)
 case atStart => exact ⟨v, rfl, h0, Below.refl _ _, 1000002, by omega, HR.out⟩
 case round =>
  obtain ⟨x, rfl, hx0, hb, f, hf, hfR⟩ := hrel
  have HSX := Lib.hid (HS.out wr x hb)
  have HB := Lib.hid hb
  have HO := Lib.hid (fun h => SumL_out (base := base) (ls := ls) (v := x) h)
  obtain ⟨⟨n, ok⟩, hn⟩ : ∃ n, SumL base ls x = n := ⟨_, rfl⟩
  rw [hn] at HSX HO
  have HN := Lib.hid hn
  have HF := Lib.hid hfR
  clear hb hn hfR
  simp only at HSX HO
  by_cases c1 : n ≤ x
  ·have HC := Lib.hid c1
   go_wp2_with (go_at_call 155; refine (HSX.out).mono ?_; rintro e w2 ⟨rfl, hb⟩; have HB2 := Lib.hid hb; clear hb)
   go_ret
   refine ⟨?_, HB.out.trans (HB2.out.mono HB.out.size)⟩
   have hq := HF.out
   cases f with
   | zero => rw [← hq]; rfl
   | succ f =>
    rw [doneL, if_pos (by rw [HN.out]; exact HC.out)] at hq
    rw [← hq]
    rfl
  ·have hx1 : x ≤ 1000000 := by
    rcases Int.lt_or_le 1000000 x with h | h
    ·have := HO.out h; omega
    ·exact h
   have hlt : x < n := by omega
   have HC := Lib.hid c1
   go_wp2_with (go_at_call 155; refine (HSX.out).mono ?_; rintro e w2 ⟨rfl, hb⟩; have HB2 := Lib.hid hb; clear hb)
   go_roundw
   case rel =>
    obtain ⟨f, rfl⟩ : ∃ f', f = f' + 1 := ⟨f - 1, by omega⟩
    have hq := HF.out
    rw [doneL, if_neg (by rw [HN.out]; show ¬ n ≤ x; omega), HN.out] at hq
    exact ⟨n, rfl, by omega, HB.out.trans (HB2.out.mono HB.out.size), f, by omega, hq⟩
   case measure => simp [intOf]; omega
theorem blockOf_low (rel : Int) (sv : Value) (low high : Int) (h : low ≤ high) (w : World) :
  Calls Tryz.prog 138 #[.agg #[.int .i64 rel, sv], .int .i64 low, .int .i64 high] w fun e w' => e = .returned (.int .i64 0) ∧ Below w.heap.size w w' := by
 have d : decide (low ≤ high) = true := by simpa using h
 cases d2 : decide (high < 0) with
 | true =>
  go_enter Tryz.func138, Tryz.ntmps138
  go_wp2; go_ret
  exact ⟨rfl, (Below.refl _ _).alloc (Nat.le_refl _) _⟩
 | false =>
  go_enter Tryz.func138, Tryz.ntmps138
  go_wp2; go_ret
  exact ⟨rfl, (Below.refl _ _).alloc (Nat.le_refl _) _⟩
set_option maxHeartbeats 1000000 in
theorem most_one (rel : Int) (A : Option Addr) (c : Nat) (w : World) :
  Calls Tryz.prog 104 #[.agg #[.int .i64 rel, .slice A 1 c], .int .i64 0] w fun e w' => e = .returned (.int .i64 0) ∧ Below w.heap.size w w' := by
 have HB1 := Lib.hid ((Below.refl w.heap.size w).alloc (Nat.le_refl _) (.cells #[.int .i64 rel, .slice A 1 c] 24))
 have HD := Lib.hid (Blk.new w 24 #[.int .i64 rel, .slice A 1 c])
 go_enter Tryz.func104, Tryz.ntmps104
 go_wp2
 go_loopw [5, 10] (fun z5 z10 wr => z5 = .int .i64 0 ∧ (z10 = .int .i64 0 ∨ z10 = .int .i64 1) ∧ Below w.heap.size w wr ∧ Blk wr w.heap.size 24 #[.int .i64 rel, .slice A 1 c]) (fun _ z10 _ => 1 - (intOf z10).toNat)
 case atStart => exact ⟨rfl, .inl rfl, HB1.out, HD.out⟩
 case round =>
  obtain ⟨rfl, h10, hb, hD⟩ := hrel
  rcases h10 with rfl | rfl
  ·have c0 : wr.cell? ⟨w.heap.size, 0, none⟩ = some (.int .i64 rel) := hD.cell 0
   have c1 : wr.cell? ⟨w.heap.size, 1, none⟩ = some (.slice A 1 c) := hD.cell 1
   have hlt := hD.lt
   have HB := Lib.hid hb
   have HD2 := Lib.hid hD
   clear hb hD
   go_wp2_with (go_at_call 138; refine (blockOf_low rel (.slice A 1 c) 0 0 (Int.le_refl 0) _).mono ?_; rintro e w2 ⟨rfl, hb⟩; have HB2 := Lib.hid hb; clear hb)
   go_roundw
   case rel => exact ⟨by first | rfl | simp, .inr (by go_num), HB.out.trans (HB2.out.mono HB.out.size), HD2.out.below HB2.out hlt⟩
   case measure => simp [intOf]
  ·have HB := Lib.hid hb
   clear hb hD; go_wp2; go_ret
   exact ⟨rfl, HB.out⟩
set_option maxHeartbeats 1000000 in
theorem loads_top (rel : Int) (A : Option Addr) (n c : Nat) (h1 : 1 ≤ n) (hnc : n ≤ c) (hn : n ≤ 8) (w : World) :
  Calls Tryz.prog 136 #[.agg #[.int .i64 rel, .slice A n c], .int .i64 0] w fun e w' => e = .returned (.slice none 0 0) ∧ Below w.heap.size w w' := by
 have HB1 := Lib.hid ((Below.refl w.heap.size w).alloc (Nat.le_refl _) (.cells #[.int .i64 rel, .slice A n c] 24))
 have d1 : decide ((n : Int) ≤ 0) = false := by simp; omega
 have d2 : ¬ (n : Int) ≤ 0 := by omega
 go_enter Tryz.func136, Tryz.ntmps136
 go_wp2
 go_loop [5, 26] (fun z5 z => z5 = .slice none 0 0 ∧ z = .int .i64 0) (fun _ _ => 0)
 case atStart => exact ⟨rfl, rfl⟩
 case round =>
  obtain ⟨rfl, rfl⟩ := hrel
  go_wp2; go_ret
  exact ⟨rfl, HB1.out⟩
end Go.Proofs.YtdgfjpbjiccllaaGreatDoor.F
namespace Go.Proofs.YtdgfjpbjiccllaaGreatDoor.F
open Go.RowKit
open X (TOk work_f nums_C)
open YtdgfjpbjiccllaaGreatDoorW.PrintWords YtdgfjpbjiccllaaGreatDoorW.PrintLast YtdgfjpbjiccllaaGreatDoorW.PrintMore
open PTopLoads (S46 S212 task_Work.calls)
set_option maxRecDepth 100000
theorem Tryz.info212 : (Tryz.prog.info? 212).map (fun i => (i.zero, i.size, i.bytes)) = some (some (.agg #[.int .i64 0, .int .i64 0]), 2, 16) := by kernel_rfl
def lcells (ls : List S212) : List Value := ls.flatMap fun x => [.int .i64 x.f0, .int .i64 x.f1]
theorem lcells_snoc (L : List S212) (x : S212) : lcells (L ++ [x]) = lcells L ++ [.int .i64 x.f0, .int .i64 x.f1] := by simp [lcells]
theorem lcells_at : ∀ (L : List S212) (i j : Nat) (x : S212), L[i]? = some x → j < 2 → (lcells L)[i * 2 + j]? = [Value.int .i64 x.f0, .int .i64 x.f1][j]?
 | [], i, j, x, h, _ => by simp at h
 | y :: L, 0, j, x, h, hj => by
  simp at h; subst h
  have e : lcells (y :: L) = [.int .i64 y.f0, .int .i64 y.f1] ++ lcells L := rfl
  rw [e, Nat.zero_mul, Nat.zero_add, List.getElem?_append_left (by simpa using hj)]
 | y :: L, i + 1, j, x, h, hj => by
  have e : lcells (y :: L) = [.int .i64 y.f0, .int .i64 y.f1] ++ lcells L := rfl
  rw [e, List.getElem?_append_right (by simp; omega)]
  rw [show (i + 1) * 2 + j - [Value.int .i64 y.f0, .int .i64 y.f1].length = i * 2 + j from by simp; omega]
  exact lcells_at L i j x (by simpa using h) hj
theorem lds_of_own {w : World} {B : Nat} {v : Value} {ls : List S212} (h : w.ownsRow B 212 2 v ls.length (lcells ls)) : ∃ A c, v = .slice A ls.length c ∧ ls.length ≤ c ∧ Lds w A ls := by
 rcases h.2 with ⟨rfl, h0⟩ | ⟨g, c, cur, rfl, hb, hh, hn, _, hs, ht⟩
 ·exact ⟨none, 0, by rw [h0], by omega, .inl (List.length_eq_zero_iff.1 h0)⟩
 ·have hB : Blk w g 212 cur := hh
  refine ⟨_, c, rfl, hn, .inr ⟨g, 0, rfl, hB.lt, fun i x hx => ?_⟩⟩
  have hi := (List.getElem?_eq_some_iff.1 hx).1
  have hc : ∀ j, j < 2 → w.cell? ⟨g, 0 + i * 2 + j, none⟩ = [Value.int .i64 x.f0, .int .i64 x.f1][j]? := fun j hj => by
   rw [Nat.zero_add, hB.cell, ← lcells_at ls i j x hx hj, ← ht, List.getElem?_take_of_lt (by omega)]
   simp
  exact ⟨hc 0 (by decide), hc 1 (by decide)⟩
abbrev AS (w : World) (sb : Nat) (rel : Int) (b off n c i : Nat) (x : S46) (ra : Option Addr) (rc : Nat) (w' : World) : Prop :=
 Below sb w w' ∧ Blk w' sb 24 #[.int .i64 rel, .slice (some ⟨b, off, none⟩) n c] ∧ w'.cell? ⟨sb, 0, none⟩ = some (.int .i64 rel) ∧ w'.cell? ⟨sb, 1, none⟩ = some (.slice (some ⟨b, off, none⟩) n c) ∧
  w'.cell? ⟨b, off + i * 9, none⟩ = some (.string x.f0) ∧ w'.cell? ⟨b, off + i * 9 + 1, none⟩ = some (.int .i64 x.f1) ∧ w'.cell? ⟨b, off + i * 9 + 2, none⟩ = some (.int .i64 x.f2) ∧ w'.cell? ⟨b, off + i * 9 + 3, none⟩ = some (.int .i64 x.f3) ∧
  w'.cell? ⟨b, off + i * 9 + 4, none⟩ = some (.int .i64 x.f4) ∧ w'.cell? ⟨b, off + i * 9 + 5, none⟩ = some (.int .i64 x.f5) ∧ w'.cell? ⟨b, off + i * 9 + 6, none⟩ = some (.slice ra x.f6.length rc) ∧ w'.cell? ⟨b, off + i * 9 + 7, none⟩ = some (.int .u64 x.f7) ∧ w'.cell? ⟨b, off + i * 9 + 8, none⟩ = some (.int .u64 x.f8)
theorem as_next {w w1 w2 : World} {sb b off n c i rc : Nat} {rel : Int} {x : S46} {ra : Option Addr} (h : AS w sb rel b off n c i x ra rc w1) (hb : Below w1.heap.size w1 w2) (hbw : b < w.heap.size) : AS w sb rel b off n c i x ra rc w2 := by
 have hbl : b < w1.heap.size := Nat.lt_of_lt_of_le hbw h.1.size
 obtain ⟨h1, h2, h3, h4, g0, g1, g2, g3, g4, g5, g6, g7, g8⟩ := h
 have hs := h2.lt
 exact ⟨h1.trans (hb.mono (Nat.le_of_lt hs)), h2.below hb hs, (hb.cell (p := ⟨sb, 0, none⟩) hs).trans h3, (hb.cell (p := ⟨sb, 1, none⟩) hs).trans h4, (hb.cell (p := ⟨b, _, none⟩) hbl).trans g0, (hb.cell (p := ⟨b, _, none⟩) hbl).trans g1, (hb.cell (p := ⟨b, _, none⟩) hbl).trans g2, (hb.cell (p := ⟨b, _, none⟩) hbl).trans g3, (hb.cell (p := ⟨b, _, none⟩) hbl).trans g4, (hb.cell (p := ⟨b, _, none⟩) hbl).trans g5, (hb.cell (p := ⟨b, _, none⟩) hbl).trans g6, (hb.cell (p := ⟨b, _, none⟩) hbl).trans g7, (hb.cell (p := ⟨b, _, none⟩) hbl).trans g8⟩
theorem as_drew {w w1 : World} {sb b off n c i rc : Nat} {rel : Int} {x : S46} {ra : Option Addr} (h : AS w sb rel b off n c i x ra rc w1) : AS w sb rel b off n c i x ra rc w1.drew :=
 ⟨h.1.drew, h.2.1, h.2.2⟩
theorem as_grown {w w1 w2 : World} {sb b off n c i rc : Nat} {rel : Int} {x : S46} {ra : Option Addr} {row : Option Nat} (h : AS w sb rel b off n c i x ra rc w1) (hg : w1.grownBy w2 row) (hr : ∀ g, row = some g → sb < g ∧ b < g) : AS w sb rel b off n c i x ra rc w2 := by
 obtain ⟨h1, h2, h3, h4, g0, g1, g2, g3, g4, g5, g6, g7, g8⟩ := h
 have e1 : ∀ j, some (⟨sb, j, none⟩ : Addr).block ≠ row := fun j e => by have := (hr sb e.symm).1; omega
 have e2 : ∀ j, some (⟨b, j, none⟩ : Addr).block ≠ row := fun j e => by have := (hr b e.symm).2; omega
 exact ⟨h1.grown hg (Nat.le_of_lt h2.lt) (fun k hk => by have := (hr k hk).1; omega), h2.grown hg (e1 0), hg.cell h3 (e1 _), hg.cell h4 (e1 _), hg.cell g0 (e2 _), hg.cell g1 (e2 _), hg.cell g2 (e2 _), hg.cell g3 (e2 _), hg.cell g4 (e2 _), hg.cell g5 (e2 _), hg.cell g6 (e2 _), hg.cell g7 (e2 _), hg.cell g8 (e2 _)⟩
theorem own_below {w w' : World} {B e size n : Nat} {v : Value} {xs : List Value} (h : w.ownsRow B e size v n xs) (hb : Below w.heap.size w w') : w'.ownsRow B e size v n xs := own_fr (E := 0) (ts := []) (B := 0) h (Fr.of_below hb) (by simp)
set_option maxHeartbeats 16000000 in
theorem activeOf_any {rel : Int} {b off n c i : Nat} {x : S46} {blk : Int} {ls : List S212} {R : Int × Bool} (w : World) (hi : i < n) (hx : TOk x i) (hls : ls.length ≤ 100)
  (hbw : b < w.heap.size) (ra : Option Addr) (rc : Nat) (hrc : x.f6.length ≤ rc)
  (hc : w.cell? ⟨b, off + i * 9, none⟩ = some (.string x.f0) ∧ w.cell? ⟨b, off + i * 9 + 1, none⟩ = some (.int .i64 x.f1) ∧ w.cell? ⟨b, off + i * 9 + 2, none⟩ = some (.int .i64 x.f2) ∧ w.cell? ⟨b, off + i * 9 + 3, none⟩ = some (.int .i64 x.f3) ∧
   w.cell? ⟨b, off + i * 9 + 4, none⟩ = some (.int .i64 x.f4) ∧ w.cell? ⟨b, off + i * 9 + 5, none⟩ = some (.int .i64 x.f5) ∧ w.cell? ⟨b, off + i * 9 + 6, none⟩ = some (.slice ra x.f6.length rc) ∧ w.cell? ⟨b, off + i * 9 + 7, none⟩ = some (.int .u64 x.f7) ∧ w.cell? ⟨b, off + i * 9 + 8, none⟩ = some (.int .u64 x.f8))
  (hN : Nums w ra x.f6)
  (hL : ∀ w', Below w.heap.size w w' → Calls Tryz.prog 136 #[.agg #[.int .i64 rel, .slice (some ⟨b, off, none⟩) n c], .int .i64 i] w' fun e w2 => ∃ lv, e = .returned lv ∧ w2.ownsRow w'.heap.size 212 2 lv ls.length (lcells ls) ∧ Below w'.heap.size w' w2)
  (hR : (if isL blk (ls ++ [⟨x.f1, x.f6.sum⟩]) then leastL 1000001 blk (ls ++ [⟨x.f1, x.f6.sum⟩]) 1 else (0, false)) = R) :
  Calls Tryz.prog 135 #[.agg #[.int .i64 rel, .slice (some ⟨b, off, none⟩) n c], .int .i64 i, .int .i64 blk] w fun e w' => e = .returned (.tuple #[.int .i64 R.1, .bool R.2]) ∧ Below w.heap.size w w' := by
 obtain ⟨i0, hi0, hz0, hz1, hz2⟩ := info_parts Tryz.info212
 have Hz0 := Lib.hid hz0; clear hz0
 have Hz1 := Lib.hid hz1; clear hz1
 have Hz2 := Lib.hid hz2; clear hz2
 have Hi := Lib.hid hi0; clear hi0
 obtain ⟨sb, hsb⟩ : ∃ sb, w.heap.size = sb := ⟨_, rfl⟩
 have HSB := Lib.hid hsb
 have HL := Lib.hid hL
 have HR := Lib.hid hR
 have HW := Lib.hid (fun w' (hb : Below w.heap.size w w') => task_Work.calls 9 x.f0 x.f1 x.f2 x.f3 x.f4 x.f5 ra rc x.f6 x.f7 x.f8 _ w' (nums_C (hN.below hb) (by have := hx.r8; omega)) hrc (work_f x hx))
 have hb1 := (Below.refl w.heap.size w).alloc (Nat.le_refl _) (.cells #[.int .i64 rel, .slice (some ⟨b, off, none⟩) n c] 24)
 have S1 : AS w w.heap.size rel b off n c i x ra rc (w.alloc (.cells #[.int .i64 rel, .slice (some ⟨b, off, none⟩) n c] 24)) := by
  obtain ⟨g0, g1, g2, g3, g4, g5, g6, g7, g8⟩ := hc
  have D := Blk.new w 24 #[.int .i64 rel, .slice (some ⟨b, off, none⟩) n c]
  exact ⟨hb1, D, D.cell 0, D.cell 1, (hb1.cell (p := ⟨b, _, none⟩) hbw).trans g0, (hb1.cell (p := ⟨b, _, none⟩) hbw).trans g1, (hb1.cell (p := ⟨b, _, none⟩) hbw).trans g2, (hb1.cell (p := ⟨b, _, none⟩) hbw).trans g3, (hb1.cell (p := ⟨b, _, none⟩) hbw).trans g4, (hb1.cell (p := ⟨b, _, none⟩) hbw).trans g5, (hb1.cell (p := ⟨b, _, none⟩) hbw).trans g6, (hb1.cell (p := ⟨b, _, none⟩) hbw).trans g7, (hb1.cell (p := ⟨b, _, none⟩) hbw).trans g8⟩
 have d1 : decide ((i : Int) < 0) = false := by simp
 have d2 : decide ((n : Int) ≤ (i : Int)) = false := by simp; omega
 have d3 : ¬ (i : Int) < 0 := by omega
 have d4 : ¬ (n : Int) ≤ (i : Int) := by omega
 clear hc hN hL hR hb1 hsb hx hrc
 go_enter Tryz.func135, Tryz.ntmps135
 go_upto_region 3 with fail
 obtain ⟨ls2, hls2⟩ : ∃ l2, ls ++ [(⟨x.f1, x.f6.sum⟩ : S212)] = l2 := ⟨_, rfl⟩
 have HL2 := Lib.hid hls2
 have hlen2 : Hid (ls2.length = ls.length + 1) := by unfold Hid; rw [← hls2]; simp
 rw [hls2] at HR
 obtain ⟨w1, hw1⟩ : ∃ w1, w.alloc (.cells #[.int .i64 rel, .slice (some ⟨b, off, none⟩) n c] 24) = w1 := ⟨_, rfl⟩
 rw [hw1] at S1 ⊢
 rw [HSB.out] at S1 ⊢
 have S1' := as_drew S1
 have h64 : ls2.length ≤ 1000 := by have := hlen2.out; omega
 have H2 : Hid (∀ u ∈ [Value.int .i64 x.f1, .int .i64 x.f6.sum], u.oneCell' = true) := by
  intro u hu
  simp at hu
  rcases hu with rfl | rfl <;> rfl
 have H3 : Hid (ls.length + 1 ≤ maxLen) := by unfold Hid maxLen; omega
 have H4 : Hid ((ls.length + 1) * 16 ≤ 140737488355328) := by unfold Hid; omega
 have HMK : Hid (∀ (B : Nat) (v : Value) (w' : World), w'.ownsRow B 212 2 v (ls.length + 1) (lcells ls ++ [.int .i64 x.f1, .int .i64 x.f6.sum]) → w'.ownsRow B 212 2 v ls2.length (lcells ls2)) := by
  intro B v w' h
  rw [hlen2.out, ← HL2.out, lcells_snoc]
  exact h
 have hsl := S1.2.1.lt
 have HGG : Hid (∀ g, w1.drew.heap.size ≤ g → sb < g ∧ b < g) := by
  intro g hg
  have : w1.heap.size ≤ g := hg
  rw [HSB.out] at hbw
  exact ⟨by omega, by omega⟩
 clear hls2 hw1
 go_region_held3 (fun w' => Below sb w w' ∧ Blk w' sb 24 #[.int .i64 rel, .slice (some ⟨b, off, none⟩) n c] ∧ w'.cell? ⟨sb, 0, none⟩ = some (.int .i64 rel) ∧ w'.cell? ⟨sb, 1, none⟩ = some (.slice (some ⟨b, off, none⟩) n c) ∧ w'.cell? ⟨b, off + i * 9, none⟩ = some (.string x.f0) ∧ w'.cell? ⟨b, off + i * 9 + 1, none⟩ = some (.int .i64 x.f1) ∧ w'.cell? ⟨b, off + i * 9 + 2, none⟩ = some (.int .i64 x.f2) ∧ w'.cell? ⟨b, off + i * 9 + 3, none⟩ = some (.int .i64 x.f3) ∧ w'.cell? ⟨b, off + i * 9 + 4, none⟩ = some (.int .i64 x.f4) ∧ w'.cell? ⟨b, off + i * 9 + 5, none⟩ = some (.int .i64 x.f5) ∧ w'.cell? ⟨b, off + i * 9 + 6, none⟩ = some (.slice ra x.f6.length rc) ∧ w'.cell? ⟨b, off + i * 9 + 7, none⟩ = some (.int .u64 x.f7) ∧ w'.cell? ⟨b, off + i * 9 + 8, none⟩ = some (.int .u64 x.f8)) (first | assumption | (refine as_drew ?_; assumption) | (refine as_next (by assumption) ((Below.refl _ _).alloc (Nat.le_refl _) _) hbw)) (first | (go_at_call 136; refine (HL.out _ (by rw [HSB.out]; exact And.left (‹Below sb w _ ∧ _›))).mono ?_; rintro e w2 ⟨lv, rfl, hown, hb⟩; have hS2 := as_next (by assumption) hb hbw; have HO2 := Lib.hid hown; have HB2 := Lib.hid hb; clear hown hb) | (go_at_call 65; refine (HW.out _ (by rw [HSB.out]; exact And.left (‹Below sb w _ ∧ _›))).mono ?_; rintro e w3 ⟨rfl, hb⟩; have hS3 := as_next (by assumption) hb hbw; have HO3 := Lib.hid (own_below HO2.out hb); have HB3 := Lib.hid hb; have HOA := Lib.hid (HO3.out.alloc (.cells #[.int .i64 x.f1, .int .i64 x.f6.sum] 212)); have H1 : Hid (∀ j u, [Value.int .i64 x.f1, .int .i64 x.f6.sum][j]? = some u → (w3.alloc (.cells #[.int .i64 x.f1, .int .i64 x.f6.sum] 212)).cell? ((⟨w3.heap.size, 0, none⟩ : Addr).add j) = some u) := cells_new (l := [Value.int .i64 x.f1, .int .i64 x.f6.sum]); have H5 : Hid (w2.heap.size ≤ (w3.alloc (.cells #[.int .i64 x.f1, .int .i64 x.f6.sum] 212)).heap.size) := Nat.le_trans hb.size (Nat.le_of_lt (by simp)); clear hb) | (refine step_append_own_at rfl (.tmp 20) (.tmp 34) 194 rfl _ 212 i0 _ 2 16 Tryz.underlying194 Hi.out Hz0.out Hz1.out Hz2.out rfl (Nat.succ_pos 1) _ ls.length (lcells ls) rfl HOA.out ⟨w3.heap.size, 0, none⟩ 1 1 [.int .i64 x.f1, .int .i64 x.f6.sum] rfl rfl H1.out H2.out H3.out H4.out (Nat.le_trans HB2.out.size H5.out) ?_; intro v' w4 own gr _ _; obtain ⟨LA, lc, rfl, hlc, hld⟩ := lds_of_own (HMK.out _ _ _ own); have hS4 := as_grown (as_next (by assumption) ((Below.refl _ _).alloc (Nat.le_refl _) (.cells #[.int .i64 x.f1, .int .i64 x.f6.sum] 212)) hbw) gr (fun g hg => HGG.out _ (HOA.out.lt g hg).1); have HLE := Lib.hid (Least_any blk LA lc ls2 w4 hld h64 hlc R HR.out); have hlc2 := Lib.hid hlc; clear own gr hlc hld) | (go_at_call 152; refine (HLE.out).mono ?_; rintro e w5 ⟨rfl, hb⟩; have hS5 := as_next (by assumption) hb hbw; clear hb))
 go_wp2_with fail
 go_ret2
 exact ⟨rfl, by rw [HSB.out]; exact And.left (‹Below sb w _ ∧ _›)⟩
def xA : S46 := ⟨⟨#[97]⟩, 5, 5, 0, 0, 0, [2], 0, 0⟩
theorem least_hit {base v : Int} {ls : List S212} (f : Nat) (h : sumL base ls v = v) : leastL (f + 1) base ls v = (v, true) := by rw [leastL, if_pos h]
theorem least_go {base v n : Int} {ls : List S212} (f : Nat) (h : sumL base ls v = n) (h1 : ¬ n = v) (h2 : ¬ (n < v ∨ 1000000 < n)) : leastL (f + 1) base ls v = leastL f base ls n := by
 rw [leastL, h, if_neg h1, if_neg h2]
theorem least_A : (if isL 0 ([] ++ [(⟨5, [(2 : Int)].sum⟩ : S212)]) then leastL 1000001 0 ([] ++ [⟨5, [(2 : Int)].sum⟩]) 1 else (0, false)) = (2, true) := by
 rw [if_pos (by decide)]
 rw [show (1000001 : Nat) = 1000000 + 1 from rfl, least_go (n := 2) 1000000 (by kernel_rfl) (by decide) (by decide), show (1000000 : Nat) = 999999 + 1 from rfl, least_hit 999999 (by kernel_rfl)]
theorem done_A : doneL 1000002 2 [] 1 = 2 := by
 rw [show (1000002 : Nat) = 1000001 + 1 from rfl, doneL, if_neg (by decide), show (SumL 2 [] 1).1 = 2 from by kernel_rfl, show (1000001 : Nat) = 1000000 + 1 from rfl, doneL, if_pos (by decide)]
theorem taskA_f : Go.Proofs.YtdgfjpbjiccllaaGreatDoor.PTopLoads.task_Work.f 9 xA.f0 xA.f1 xA.f2 xA.f3 xA.f4 xA.f5 xA.f6 xA.f7 xA.f8 = some 2 := by kernel_rfl
abbrev A0 (w : World) (sb b off c : Nat) (x : S46) (ra : Option Addr) (rc : Nat) (w' : World) : Prop :=
 Below sb w w' ∧ Blk w' sb 24 #[.int .i64 0, .slice (some ⟨b, off, none⟩) 1 c] ∧ w'.cell? ⟨sb, 0, none⟩ = some (.int .i64 0) ∧ w'.cell? ⟨sb, 1, none⟩ = some (.slice (some ⟨b, off, none⟩) 1 c) ∧ w'.cell? ⟨b, off, none⟩ = some (.string x.f0) ∧ w'.cell? ⟨b, off + 1, none⟩ = some (.int .i64 x.f1) ∧ w'.cell? ⟨b, off + 2, none⟩ = some (.int .i64 x.f2) ∧ w'.cell? ⟨b, off + 3, none⟩ = some (.int .i64 x.f3) ∧ w'.cell? ⟨b, off + 4, none⟩ = some (.int .i64 x.f4) ∧ w'.cell? ⟨b, off + 5, none⟩ = some (.int .i64 x.f5) ∧ w'.cell? ⟨b, off + 6, none⟩ = some (.slice ra x.f6.length rc) ∧ w'.cell? ⟨b, off + 7, none⟩ = some (.int .u64 x.f7) ∧ w'.cell? ⟨b, off + 8, none⟩ = some (.int .u64 x.f8)
theorem a0_next {w w1 w2 : World} {sb b off c rc : Nat} {x : S46} {ra : Option Addr} (h : A0 w sb b off c x ra rc w1) (hb : Below w1.heap.size w1 w2) (hbw : b < w.heap.size) : A0 w sb b off c x ra rc w2 := by
 have hbl : b < w1.heap.size := Nat.lt_of_lt_of_le hbw h.1.size
 obtain ⟨h1, h2, h3, h4, g0, g1, g2, g3, g4, g5, g6, g7, g8⟩ := h
 have hs := h2.lt
 exact ⟨h1.trans (hb.mono (Nat.le_of_lt hs)), h2.below hb hs, (hb.cell (p := ⟨sb, 0, none⟩) hs).trans h3, (hb.cell (p := ⟨sb, 1, none⟩) hs).trans h4, (hb.cell (p := ⟨b, _, none⟩) hbl).trans g0, (hb.cell (p := ⟨b, _, none⟩) hbl).trans g1, (hb.cell (p := ⟨b, _, none⟩) hbl).trans g2, (hb.cell (p := ⟨b, _, none⟩) hbl).trans g3, (hb.cell (p := ⟨b, _, none⟩) hbl).trans g4, (hb.cell (p := ⟨b, _, none⟩) hbl).trans g5, (hb.cell (p := ⟨b, _, none⟩) hbl).trans g6, (hb.cell (p := ⟨b, _, none⟩) hbl).trans g7, (hb.cell (p := ⟨b, _, none⟩) hbl).trans g8⟩
theorem a0_set {w w1 : World} {sb b off c rc : Nat} {x : S46} {ra : Option Addr} (h : A0 w sb b off c x ra rc w1) {tk : Nat} (h1' : sb < tk) (h2' : b < tk) (j : Nat) (u : Value) : A0 w sb b off c x ra rc (w1.setCell ⟨tk, j, none⟩ u) := by
 obtain ⟨h1, h2, h3, h4, g0, g1, g2, g3, g4, g5, g6, g7, g8⟩ := h
 have e1 : ∀ k, (w1.setCell ⟨tk, j, none⟩ u).cell? ⟨sb, k, none⟩ = w1.cell? ⟨sb, k, none⟩ := fun k => World.cell?_of_block (w := w1) (Below.heap_setCell w1 ⟨tk, j, none⟩ u sb (by show sb ≠ tk; omega))
 have e2 : ∀ k, (w1.setCell ⟨tk, j, none⟩ u).cell? ⟨b, k, none⟩ = w1.cell? ⟨b, k, none⟩ := fun k => World.cell?_of_block (w := w1) (Below.heap_setCell w1 ⟨tk, j, none⟩ u b (by show b ≠ tk; omega))
 exact ⟨h1.setCell (by show sb ≤ tk; omega) _, h2.far (by show sb ≠ tk; omega) _, (e1 _).trans h3, (e1 _).trans h4, (e2 _).trans g0, (e2 _).trans g1, (e2 _).trans g2, (e2 _).trans g3, (e2 _).trans g4, (e2 _).trans g5, (e2 _).trans g6, (e2 _).trans g7, (e2 _).trans g8⟩
theorem a0_drew {w w1 : World} {sb b off c rc : Nat} {x : S46} {ra : Option Addr} (h : A0 w sb b off c x ra rc w1) : A0 w sb b off c x ra rc w1.drew := ⟨h.1.drew, h.2.1, h.2.2⟩
set_option maxHeartbeats 16000000 in
theorem with_A {b off c : Nat} (w : World) (hc1 : 1 ≤ c) (hx : TOk xA 0) (hbw : b < w.heap.size) (ra : Option Addr) (rc : Nat) (hrc : 1 ≤ rc)
  (hc : w.cell? ⟨b, off + 0 * 9, none⟩ = some (.string xA.f0) ∧ w.cell? ⟨b, off + 0 * 9 + 1, none⟩ = some (.int .i64 xA.f1) ∧ w.cell? ⟨b, off + 0 * 9 + 2, none⟩ = some (.int .i64 xA.f2) ∧ w.cell? ⟨b, off + 0 * 9 + 3, none⟩ = some (.int .i64 xA.f3) ∧
   w.cell? ⟨b, off + 0 * 9 + 4, none⟩ = some (.int .i64 xA.f4) ∧ w.cell? ⟨b, off + 0 * 9 + 5, none⟩ = some (.int .i64 xA.f5) ∧ w.cell? ⟨b, off + 0 * 9 + 6, none⟩ = some (.slice ra xA.f6.length rc) ∧ w.cell? ⟨b, off + 0 * 9 + 7, none⟩ = some (.int .u64 xA.f7) ∧ w.cell? ⟨b, off + 0 * 9 + 8, none⟩ = some (.int .u64 xA.f8))
  (hN : Nums w ra xA.f6) :
  Calls Tryz.prog 103 #[.agg #[.int .i64 0, .slice (some ⟨b, off, none⟩) 1 c], .int .i64 0, .int .i64 0] w fun e w' => e = .returned (.tuple #[.int .i64 2, .int .i64 1]) ∧ Below w.heap.size w w' := by
 have hb1 := (Below.refl w.heap.size w).alloc (Nat.le_refl _) (.cells #[.int .i64 0, .slice (some ⟨b, off, none⟩) 1 c] 24)
 have hcb : ∀ w', Below w.heap.size w w' → w'.cell? ⟨b, off + 0 * 9, none⟩ = some (.string xA.f0) ∧ w'.cell? ⟨b, off + 0 * 9 + 1, none⟩ = some (.int .i64 xA.f1) ∧ w'.cell? ⟨b, off + 0 * 9 + 2, none⟩ = some (.int .i64 xA.f2) ∧ w'.cell? ⟨b, off + 0 * 9 + 3, none⟩ = some (.int .i64 xA.f3) ∧
   w'.cell? ⟨b, off + 0 * 9 + 4, none⟩ = some (.int .i64 xA.f4) ∧ w'.cell? ⟨b, off + 0 * 9 + 5, none⟩ = some (.int .i64 xA.f5) ∧ w'.cell? ⟨b, off + 0 * 9 + 6, none⟩ = some (.slice ra xA.f6.length rc) ∧ w'.cell? ⟨b, off + 0 * 9 + 7, none⟩ = some (.int .u64 xA.f7) ∧ w'.cell? ⟨b, off + 0 * 9 + 8, none⟩ = some (.int .u64 xA.f8) := by
  intro w' hb
  obtain ⟨g0, g1, g2, g3, g4, g5, g6, g7, g8⟩ := hc
  exact ⟨(hb.cell (p := ⟨b, _, none⟩) hbw).trans g0, (hb.cell (p := ⟨b, _, none⟩) hbw).trans g1, (hb.cell (p := ⟨b, _, none⟩) hbw).trans g2, (hb.cell (p := ⟨b, _, none⟩) hbw).trans g3, (hb.cell (p := ⟨b, _, none⟩) hbw).trans g4, (hb.cell (p := ⟨b, _, none⟩) hbw).trans g5, (hb.cell (p := ⟨b, _, none⟩) hbw).trans g6, (hb.cell (p := ⟨b, _, none⟩) hbw).trans g7, (hb.cell (p := ⟨b, _, none⟩) hbw).trans g8⟩
 have HOF := Lib.hid (activeOf_any (rel := 0) (n := 1) (c := c) (i := 0) (blk := 0) (ls := []) (R := (2, true)) (w.alloc (.cells #[.int .i64 0, .slice (some ⟨b, off, none⟩) 1 c] 24)) (by omega) hx (by simp) (Nat.lt_of_lt_of_le hbw hb1.size) ra rc hrc (hcb _ hb1) (hN.below hb1)
  (fun w' hb => by
   refine (loads_top 0 (some ⟨b, off, none⟩) 1 c (by omega) hc1 (by omega) w').mono ?_
   rintro e w2 ⟨rfl, h⟩
   exact ⟨_, rfl, World.ownsRow_nil _ _ _ _, h⟩) least_A)
 have HLT := Lib.hid (fun w' => loads_top 0 (some ⟨b, off, none⟩) 1 c (by omega) hc1 (by omega) w')
 have HWK := Lib.hid (fun w' (hb : Below w.heap.size w w') => task_Work.calls 9 xA.f0 xA.f1 xA.f2 xA.f3 xA.f4 xA.f5 ra rc xA.f6 xA.f7 xA.f8 2 w' (nums_C (hN.below hb) (by decide)) hrc taskA_f)
 have HD := Lib.hid (Blk.new w 24 #[.int .i64 0, .slice (some ⟨b, off, none⟩) 1 c])
 have HB1 := Lib.hid hb1
 have HCB := Lib.hid hcb
 obtain ⟨sb, hsb⟩ : ∃ sb, w.heap.size = sb := ⟨_, rfl⟩
 have HSB := Lib.hid hsb
 clear hc hN hb1 hcb hsb hx hc1
 go_enter Tryz.func103, Tryz.ntmps103
 go_upto_region 4 with (go_at_call 135; refine (HOF.out).mono ?_; rintro e w2 ⟨rfl, hb⟩; have HB2 := Lib.hid hb; have HD2 := Lib.hid (HD.out.below hb (by simp)); clear hb)
 have hb2 : Below w.heap.size w w2 := HB1.out.trans (HB2.out.mono (by simp))
 have S2 : A0 w sb b off c xA ra rc w2 := by
  obtain ⟨g0, g1, g2, g3, g4, g5, g6, g7, g8⟩ := HCB.out w2 hb2
  have D := HD2.out
  rw [HSB.out] at D hb2
  simp only [Nat.zero_mul, Nat.add_zero] at g0 g1 g2 g3 g4 g5 g6 g7 g8
  exact ⟨hb2, D, D.cell 0, D.cell 1, g0, g1, g2, g3, g4, g5, g6, g7, g8⟩
 rw [HSB.out]
 have S2' := a0_drew S2
 have hs1 : sb < w2.heap.size := S2.2.1.lt
 have hs2 : b < w2.heap.size := Nat.lt_of_lt_of_le hbw S2.1.size
 clear hb2
 go_cut [10, 11] (fun s10 s11 wx => ∃ tk : Nat, s10 = .pointer (some ⟨tk, 0, none⟩) ∧ s11 = .slice none 0 0 ∧ Blk wx tk 46 #[.string xA.f0, .int .i64 xA.f1, .int .i64 xA.f2, .int .i64 xA.f3, .int .i64 xA.f4, .int .i64 xA.f5, .slice ra xA.f6.length rc, .int .u64 xA.f7, .int .u64 xA.f8] ∧ Below sb w wx)
 case first =>
  go_region_held3 (fun w' => Below sb w w' ∧ Blk w' sb 24 #[.int .i64 0, .slice (some ⟨b, off, none⟩) 1 c] ∧ w'.cell? ⟨sb, 0, none⟩ = some (.int .i64 0) ∧ w'.cell? ⟨sb, 1, none⟩ = some (.slice (some ⟨b, off, none⟩) 1 c) ∧ w'.cell? ⟨b, off, none⟩ = some (.string xA.f0) ∧ w'.cell? ⟨b, off + 1, none⟩ = some (.int .i64 xA.f1) ∧ w'.cell? ⟨b, off + 2, none⟩ = some (.int .i64 xA.f2) ∧ w'.cell? ⟨b, off + 3, none⟩ = some (.int .i64 xA.f3) ∧ w'.cell? ⟨b, off + 4, none⟩ = some (.int .i64 xA.f4) ∧ w'.cell? ⟨b, off + 5, none⟩ = some (.int .i64 xA.f5) ∧ w'.cell? ⟨b, off + 6, none⟩ = some (.slice ra xA.f6.length rc) ∧ w'.cell? ⟨b, off + 7, none⟩ = some (.int .u64 xA.f7) ∧ w'.cell? ⟨b, off + 8, none⟩ = some (.int .u64 xA.f8)) (first | (with_reducible assumption) | (with_reducible refine a0_drew ?_; with_reducible assumption) | (with_reducible refine a0_set (a0_set (a0_set (a0_set (a0_set (a0_set (a0_set (a0_set (a0_set ?_ hs1 hs2 _ _) hs1 hs2 _ _) hs1 hs2 _ _) hs1 hs2 _ _) hs1 hs2 _ _) hs1 hs2 _ _) hs1 hs2 _ _) hs1 hs2 _ _) hs1 hs2 _ _; with_reducible assumption) | (with_reducible refine a0_next (by with_reducible assumption) ((Below.refl _ _).alloc (Nat.le_refl _) _) hbw)) ((go_at_call 136; refine (HLT.out _).mono ?_; rintro e w3 ⟨rfl, hb⟩; have hS3 := a0_next (by assumption) hb hbw; have hcl := fun (g j : Nat) h => hb.cell (p := ⟨g, j, none⟩) h; have hfr := fun (g j : Nat) h => hb.frozen (p := ⟨g, j, none⟩) h; simp only at hcl hfr; have HB3 := Lib.hid hb; clear hb))
  all_goals go_wp2_with fail
  all_goals go_meet
  ·exact ⟨w3.heap.size, rfl, rfl, Blk.new w3 46 _, hS3.1.alloc (Nat.le_of_lt hS3.2.1.lt) _⟩
  ·exact ⟨w2.heap.size, rfl, rfl, ((((((((((Blk.below (Blk.new w2.drew 46 #[.string ⟨#[]⟩, .int .i64 0, .int .i64 0, .int .i64 0, .int .i64 0, .int .i64 0, .slice none 0 0, .int .u64 0, .int .u64 0]) HB3.out (Blk.lt (Blk.new w2.drew 46 #[.string ⟨#[]⟩, .int .i64 0, .int .i64 0, .int .i64 0, .int .i64 0, .int .i64 0, .slice none 0 0, .int .u64 0, .int .u64 0]))).set_ 0 (.string xA.f0)).set_ 1 (.int .i64 xA.f1)).set_ 2 (.int .i64 xA.f2)).set_ 3 (.int .i64 xA.f3)).set_ 4 (.int .i64 xA.f4)).set_ 5 (.int .i64 xA.f5)).set_ 6 (.slice ra xA.f6.length rc)).set_ 7 (.int .u64 xA.f7)).set_ 8 (.int .u64 xA.f8)), (((((((((hS3.1.setCell (Nat.le_of_lt hs1) _).setCell (Nat.le_of_lt hs1) _).setCell (Nat.le_of_lt hs1) _).setCell (Nat.le_of_lt hs1) _).setCell (Nat.le_of_lt hs1) _).setCell (Nat.le_of_lt hs1) _).setCell (Nat.le_of_lt hs1) _).setCell (Nat.le_of_lt hs1) _).setCell (Nat.le_of_lt hs1) _)⟩
 case rest =>
  obtain ⟨tk, rfl, rfl, hT, hbx⟩ := hcut
  have hT2 : Blk wc tk 46 #[.string ⟨#[97]⟩, .int .i64 5, .int .i64 5, .int .i64 0, .int .i64 0, .int .i64 0, .slice ra 1 rc, .int .u64 0, .int .u64 0] := hT
  have HWK2 : Hid (∀ w', Below w.heap.size w w' → Calls Tryz.prog 65 #[.agg #[.string ⟨#[97]⟩, .int .i64 5, .int .i64 5, .int .i64 0, .int .i64 0, .int .i64 0, .slice ra 1 rc, .int .u64 0, .int .u64 0]] w' fun e w2 => e = .returned (.int .i64 2) ∧ Below w'.heap.size w' w2) := HWK.out
  have HT := Lib.hid hT2
  have HBX := Lib.hid hbx
  have c0 : wc.cell? ⟨tk, 0, none⟩ = some (.string ⟨#[97]⟩) := hT2.cell 0
  have c1 : wc.cell? ⟨tk, 1, none⟩ = some (.int .i64 5) := hT2.cell 1
  have c2 : wc.cell? ⟨tk, 2, none⟩ = some (.int .i64 5) := hT2.cell 2
  have c3 : wc.cell? ⟨tk, 3, none⟩ = some (.int .i64 0) := hT2.cell 3
  have c4 : wc.cell? ⟨tk, 4, none⟩ = some (.int .i64 0) := hT2.cell 4
  have c5 : wc.cell? ⟨tk, 5, none⟩ = some (.int .i64 0) := hT2.cell 5
  have c6 : wc.cell? ⟨tk, 6, none⟩ = some (.slice ra 1 rc) := hT2.cell 6
  have c7 : wc.cell? ⟨tk, 7, none⟩ = some (.int .u64 0) := hT2.cell 7
  have c8 : wc.cell? ⟨tk, 8, none⟩ = some (.int .u64 0) := hT2.cell 8
  have htl := hT2.lt
  have HDN := Lib.hid (fun w' => done_any 2 none 0 [] 1 (by omega) w' (.inl rfl) (by simp) (by simp) 2 done_A)
  clear hT hT2 hbx S2 S2' hs1 hs2 HWK HCB HOF HLT HD HB2 HD2 HB1
  go_wp2_with (go_at_call 65; refine (HWK2.out _ (by rw [HSB.out]; exact HBX.out)).mono ?_; rintro e w5 ⟨rfl, hb⟩; have HB5 := Lib.hid hb; have d1 : w5.cell? ⟨tk, 1, none⟩ = some (.int .i64 5) := (HT.out.below hb htl).cell 1; have d2 : w5.cell? ⟨tk, 2, none⟩ = some (.int .i64 5) := (HT.out.below hb htl).cell 2; have htl5 := (HT.out.below hb htl).lt; clear hb)
  have HB6 := Lib.hid (HBX.out.trans (HB5.out.mono (by have := HBX.out.size; rw [HSB.out] at this; exact this)))
  have HT5 := Lib.hid (HT.out.below HB5.out htl)
  clear c0 c1 c2 c3 c4 c5 c6 c7 c8 d1 d2 htl5 htl
  go_loopw [6, 13, 14] (fun z6 z13 z14 wr => ((z6 = .int .i64 0 ∧ z13 = .int .i64 1 ∧ z14 = .int .i64 0) ∨ (z6 = .int .i64 2 ∧ z13 = .int .i64 2 ∧ z14 = .int .i64 1)) ∧ Below sb w wr ∧ Blk wr tk 46 #[.string ⟨#[97]⟩, .int .i64 5, .int .i64 5, .int .i64 0, .int .i64 0, .int .i64 0, .slice ra 1 rc, .int .u64 0, .int .u64 0]) (fun _ _ z14 _ => 1 - (intOf z14).toNat)
  case atStart => exact ⟨.inl ⟨rfl, rfl, rfl⟩, HB6.out, HT5.out⟩
  case round =>
   obtain ⟨hz, hbr, hTr⟩ := hrel
   have d1 : wr.cell? ⟨tk, 1, none⟩ = some (.int .i64 5) := hTr.cell 1
   have d2 : wr.cell? ⟨tk, 2, none⟩ = some (.int .i64 5) := hTr.cell 2
   have htl5 := hTr.lt
   have HBR := Lib.hid hbr
   have HTR := Lib.hid hTr
   clear hbr hTr
   rcases hz with ⟨rfl, rfl, rfl⟩ | ⟨rfl, rfl, rfl⟩
   ·go_wp2_with (go_at_call 137; refine (HDN.out _).mono ?_; rintro e w7 ⟨rfl, hb⟩; have e1 : w7.cell? ⟨tk, 1, none⟩ = some (.int .i64 5) := (HTR.out.below hb htl5).cell 1; have htl7 := (HTR.out.below hb htl5).lt; have HB7 := Lib.hid hb; clear hb)
    go_roundw
    case rel => exact ⟨.inr ⟨by first | rfl | simp, rfl, by go_num⟩, HBR.out.trans (HB7.out.mono (by have := HBR.out.size; rw [HSB.out] at this; exact this)), HTR.out.below HB7.out htl5⟩
    case measure => simp [intOf]
   ·go_wp2
    go_ret2
    exact ⟨rfl, by rw [HSB.out]; exact HBR.out⟩
end Go.Proofs.YtdgfjpbjiccllaaGreatDoor.F
namespace Go.Proofs.YtdgfjpbjiccllaaGreatDoor.F
open Go.RowKit
open X (TOk NameOk tokens all_yes)
open YtdgfjpbjiccllaaGreatDoorW.PrintWords YtdgfjpbjiccllaaGreatDoorW.PrintLast YtdgfjpbjiccllaaGreatDoorW.PrintMore
open PTopLoads (S46 S212)
set_option maxRecDepth 100000
theorem nameA : NameOk xA.f0 := ⟨by decide, by kernel_rfl⟩
theorem okA : TOk xA 0 := ⟨nameA, by decide, by decide, by decide, by decide, by decide, by decide, .inl ⟨rfl, rfl, rfl⟩, by decide⟩
abbrev B0 (w : World) (sb b off c : Nat) (w' : World) : Prop :=
 Below sb w w' ∧ Blk w' sb 24 #[.int .i64 0, .slice (some ⟨b, off, none⟩) 1 c] ∧ w'.cell? ⟨sb, 0, none⟩ = some (.int .i64 0) ∧ w'.cell? ⟨sb, 1, none⟩ = some (.slice (some ⟨b, off, none⟩) 1 c)
theorem b0_next {w w1 w2 : World} {sb b off c : Nat} (h : B0 w sb b off c w1) (hb : Below w1.heap.size w1 w2) : B0 w sb b off c w2 := by
 have D := h.2.1.below hb h.2.1.lt
 exact ⟨h.1.trans (hb.mono (Nat.le_of_lt h.2.1.lt)), D, D.cell 0, D.cell 1⟩
theorem b0_drew {w w1 : World} {sb b off c : Nat} (h : B0 w sb b off c w1) : B0 w sb b off c w1.drew := ⟨h.1.drew, h.2.1, h.2.2⟩
set_option maxHeartbeats 4000000 in
theorem of_A {b off c : Nat} (w : World) (hc1 : 1 ≤ c) (hbw : b < w.heap.size) (ra : Option Addr) (rc : Nat) (hrc : 1 ≤ rc)
  (hc : w.cell? ⟨b, off + 0 * 9, none⟩ = some (.string xA.f0) ∧ w.cell? ⟨b, off + 0 * 9 + 1, none⟩ = some (.int .i64 xA.f1) ∧ w.cell? ⟨b, off + 0 * 9 + 2, none⟩ = some (.int .i64 xA.f2) ∧ w.cell? ⟨b, off + 0 * 9 + 3, none⟩ = some (.int .i64 xA.f3) ∧
   w.cell? ⟨b, off + 0 * 9 + 4, none⟩ = some (.int .i64 xA.f4) ∧ w.cell? ⟨b, off + 0 * 9 + 5, none⟩ = some (.int .i64 xA.f5) ∧ w.cell? ⟨b, off + 0 * 9 + 6, none⟩ = some (.slice ra xA.f6.length rc) ∧ w.cell? ⟨b, off + 0 * 9 + 7, none⟩ = some (.int .u64 xA.f7) ∧ w.cell? ⟨b, off + 0 * 9 + 8, none⟩ = some (.int .u64 xA.f8))
  (hN : Nums w ra xA.f6) :
  Calls Tryz.prog 61 #[.agg #[.int .i64 0, .slice (some ⟨b, off, none⟩) 1 c], .int .i64 0] w fun e w' => e = .returned (.tuple #[.int .i64 2, .int .i64 1]) ∧ Below w.heap.size w w' := by
 have HWI := Lib.hid (fun w' (hb : Below w.heap.size w w') => with_A (b := b) (off := off) (c := c) w' hc1 okA (Nat.lt_of_lt_of_le hbw hb.size) ra rc hrc (by
  obtain ⟨g0, g1, g2, g3, g4, g5, g6, g7, g8⟩ := hc
  exact ⟨(hb.cell (p := ⟨b, _, none⟩) hbw).trans g0, (hb.cell (p := ⟨b, _, none⟩) hbw).trans g1, (hb.cell (p := ⟨b, _, none⟩) hbw).trans g2, (hb.cell (p := ⟨b, _, none⟩) hbw).trans g3, (hb.cell (p := ⟨b, _, none⟩) hbw).trans g4, (hb.cell (p := ⟨b, _, none⟩) hbw).trans g5, (hb.cell (p := ⟨b, _, none⟩) hbw).trans g6, (hb.cell (p := ⟨b, _, none⟩) hbw).trans g7, (hb.cell (p := ⟨b, _, none⟩) hbw).trans g8⟩) (hN.below hb))
 have HMO := Lib.hid (fun w' => most_one 0 (some ⟨b, off, none⟩) c w')
 have HB1 := Lib.hid ((Below.refl w.heap.size w).alloc (Nat.le_refl _) (.cells #[.int .i64 0, .slice (some ⟨b, off, none⟩) 1 c] 24))
 have HD := Lib.hid (Blk.new w 24 #[.int .i64 0, .slice (some ⟨b, off, none⟩) 1 c])
 obtain ⟨sb, hsb⟩ : ∃ sb, w.heap.size = sb := ⟨_, rfl⟩
 have HSB := Lib.hid hsb
 clear hc hN hsb hc1 hrc
 go_enter Tryz.func61, Tryz.ntmps61
 go_upto_region 1 with fail
 obtain ⟨w1, hw1⟩ : ∃ w1, w.alloc (.cells #[.int .i64 0, .slice (some ⟨b, off, none⟩) 1 c] 24) = w1 := ⟨_, rfl⟩
 rw [hw1] at HB1 HD ⊢
 rw [HSB.out] at HB1 HD ⊢
 have S1 : B0 w sb b off c w1 := ⟨HB1.out, HD.out, HD.out.cell 0, HD.out.cell 1⟩
 have S1' := b0_drew S1
 clear hw1
 go_region_held3 (fun w' => Below sb w w' ∧ Blk w' sb 24 #[.int .i64 0, .slice (some ⟨b, off, none⟩) 1 c] ∧ w'.cell? ⟨sb, 0, none⟩ = some (.int .i64 0) ∧ w'.cell? ⟨sb, 1, none⟩ = some (.slice (some ⟨b, off, none⟩) 1 c)) (first | (with_reducible assumption) | (with_reducible refine b0_drew ?_; with_reducible assumption)) (first | (go_at_call 104; refine (HMO.out _).mono ?_; rintro e w3 ⟨rfl, hb⟩; have hS3 := b0_next (by with_reducible assumption) hb; clear hb) | (go_at_call 103; refine (HWI.out _ (by rw [HSB.out]; exact And.left (‹Below sb w _ ∧ _›))).mono ?_; rintro e w4 ⟨rfl, hb⟩; have hS4 := b0_next (by with_reducible assumption) hb; clear hb))
 go_wp2_with fail
 go_ret2
 exact ⟨rfl, by rw [HSB.out]; exact And.left (‹Below sb w _ ∧ _›)⟩
theorem all_A {w : World} {A : Option Addr} {c : Nat} (hS : ∀ w', Below w.heap.size w w' → Src w' A [xA]) (htab : Lib.TabIs Tryz.prog w "strings.asciiSpace" .u8 Lib.asciiSpaceTab) :
  Calls Tryz.prog 42 #[.agg #[.int .i64 0, .slice A 1 c]] w fun e w2 => e = .returned (.bool true) ∧ Below w.heap.size w w2 :=
 all_yes (L := [xA]) (rel := 0) (by decide) (by decide) (by decide) (by decide) hS (fun i x hx => by
  obtain ⟨hi, rfl⟩ := List.getElem?_eq_some_iff.1 hx
  obtain rfl : i = 0 := by simp at hi; omega
  exact okA) (fun i j x y hij hx hy => by
  have h1 := (List.getElem?_eq_some_iff.1 hx).1
  have h2 := (List.getElem?_eq_some_iff.1 hy).1
  simp at h1 h2
  omega) htab
theorem results_cell2 {P : Program} {fn : Func} {p u : Tmp} {ty : TypeId} (h : fn.results = #[.cell p ty, .tmp u]) (tmps : Array Value) (w : World) (g : Nat) (t : TypeId) (cs : Array Value) (d : TypeDesc)
  (hp : tmps.getD p undef = .pointer (some ⟨g, 0, none⟩)) (hg : Blk w g t cs)
  (hu : P.underlying ty = some d) (hd : (match d with | .struct _ | .array _ _ => true | _ => false) = true) (hi : (P.info? ty).map (·.size) = some cs.size) :
  (results fn tmps).run P w = .ok (.tuple #[.agg cs, tmps.getD u undef]) w := by
 have hp' : tmps[p]?.getD undef = .pointer (some ⟨g, 0, none⟩) := by simpa using hp
 simp [results, h, hp', asAddr, run_loadVar_row w g t ty cs (0, 0) d hg hu hd hi]
structure JS (w wr : World) (sb b off c vb : Nat) (rv : Value) : Prop where
 bl : Below sb w wr
 s : Blk wr sb 24 #[.int .i64 0, .slice (some ⟨b, off, none⟩) 1 c]
 r : Blk wr (sb + 1) 34 #[.int .i64 0, .int .i64 0, .slice none 0 0]
 v : Blk wr vb 34 #[.int .i64 1, .int .i64 0, rv]
 lt : sb + 1 < vb
theorem JS.below {w wr w' : World} {sb b off c vb : Nat} {rv : Value} (h : JS w wr sb b off c vb rv) (hb : Below wr.heap.size wr w') : JS w w' sb b off c vb rv :=
 ⟨h.bl.trans (hb.mono (Nat.le_of_lt h.s.lt)), h.s.below hb h.s.lt, h.r.below hb h.r.lt, h.v.below hb h.v.lt, h.lt⟩
theorem JS.set_ {w wr : World} {sb b off c vb : Nat} {rv : Value} (h : JS w wr sb b off c vb rv) (u : Value) : JS w (wr.setCell ⟨vb, 2, none⟩ u) sb b off c vb u :=
 ⟨h.bl.setCell (by show sb ≤ vb; have := h.lt; omega) _, h.s.far (by show sb ≠ vb; have := h.lt; omega) _, h.r.far (by show sb + 1 ≠ vb; have := h.lt; omega) _, h.v.set_ 2 u, h.lt⟩
set_option maxHeartbeats 8000000 in
theorem judge_A {A : Option Addr} {c : Nat} (w : World) (hc1 : 1 ≤ c) (hS : ∀ w', Below w.heap.size w w' → Src w' A [xA]) (htab : Lib.TabIs Tryz.prog w "strings.asciiSpace" .u8 Lib.asciiSpaceTab) :
  Calls Tryz.prog 35 #[.agg #[.int .i64 0, .slice A 1 c]] w fun e w' => ∃ RA rc, e = .returned (.tuple #[.agg #[.int .i64 1, .int .i64 0, .slice RA 1 rc], .int .i64 0]) ∧ Below w.heap.size w w' := by
 obtain ⟨b, off, rfl⟩ : ∃ b off, A = some ⟨b, off, none⟩ := by
  rcases hS w (Below.refl _ _) with h | ⟨b, off, h, _⟩
  ·cases h
  ·exact ⟨b, off, h⟩
 have HTB := Lib.hid (Lib.tabBelow_of_tabIs htab)
 have HAL := Lib.hid (fun w' (hb : Below w.heap.size w w') => all_A (w := w') (c := c) (fun w'' hb' => hS w'' (hb.trans (hb'.mono hb.size))) (HTB.out w' hb))
 have HOF := Lib.hid (fun w' (hb : Below w.heap.size w w') => (by
  rcases hS w' hb with h | ⟨b', off', h, hbl, hcs⟩
  ·cases h
  ·injection h with h
   injection h with h1 h2
   subst h1 h2
   obtain ⟨ra, rc, g0, g1, g2, g3, g4, g5, g6, g7, g8, hN, hrc⟩ := hcs 0 xA rfl
   exact of_A w' hc1 hbl ra rc hrc ⟨g0, g1, g2, g3, g4, g5, g6, g7, g8⟩ hN : Calls Tryz.prog 61 #[.agg #[.int .i64 0, .slice (some ⟨b, off, none⟩) 1 c], .int .i64 0] w' fun e w2 => e = .returned (.tuple #[.int .i64 2, .int .i64 1]) ∧ Below w'.heap.size w' w2))
 have HB1 := Lib.hid (((Below.refl w.heap.size w).alloc (Nat.le_refl _) (.cells #[.int .i64 0, .slice (some ⟨b, off, none⟩) 1 c] 24)).alloc (by simp) (.cells #[.int .i64 0, .int .i64 0, .slice none 0 0] 34))
 have HD := Lib.hid ((Blk.new w 24 #[.int .i64 0, .slice (some ⟨b, off, none⟩) 1 c]).alloc (.cells #[.int .i64 0, .int .i64 0, .slice none 0 0] 34))
 have HR := Blk.new (w.alloc (.cells #[.int .i64 0, .slice (some ⟨b, off, none⟩) 1 c] 24)) 34 #[.int .i64 0, .int .i64 0, .slice none 0 0]
 have hsz : (w.alloc (.cells #[.int .i64 0, .slice (some ⟨b, off, none⟩) 1 c] 24)).heap.size = w.heap.size + 1 := by simp
 rw [hsz] at HR
 have HR := Lib.hid HR
 obtain ⟨sb, hsb⟩ : ∃ sb, w.heap.size = sb := ⟨_, rfl⟩
 have HSB := Lib.hid hsb
 clear hS htab hsb hsz
 go_enter Tryz.func35, Tryz.ntmps35
 go_upto_region 1 with fail
 obtain ⟨w1, hw1⟩ : ∃ w1, (w.alloc (.cells #[.int .i64 0, .slice (some ⟨b, off, none⟩) 1 c] 24)).alloc (.cells #[.int .i64 0, .int .i64 0, .slice none 0 0] 34) = w1 := ⟨_, rfl⟩
 rw [hw1] at HB1 HD HR ⊢
 rw [HSB.out] at HB1 HD HR ⊢
 clear hw1
 have c0 : w1.cell? ⟨sb, 0, none⟩ = some (.int .i64 0) := HD.out.cell 0
 have c1 : w1.cell? ⟨sb, 1, none⟩ = some (.slice (some ⟨b, off, none⟩) 1 c) := HD.out.cell 1
 have hsl := HD.out.lt
 have hrl := HR.out.lt
 go_wp2_with (go_at_call 42; refine (HAL.out _ (by rw [HSB.out]; exact HB1.out)).mono ?_; rintro e w2 ⟨rfl, hb⟩; have HB2 := Lib.hid hb; have d0 : w2.cell? ⟨sb, 0, none⟩ = some (.int .i64 0) := (HD.out.below hb hsl).cell 0; have d1 : w2.cell? ⟨sb, 1, none⟩ = some (.slice (some ⟨b, off, none⟩) 1 c) := (HD.out.below hb hsl).cell 1; have hsl2 := (HD.out.below hb hsl).lt; clear hb)
 have S3 : JS w (w2.alloc (.cells #[.int .i64 1, .int .i64 0, .slice none 0 0] 34)) sb b off c w2.heap.size (.slice none 0 0) :=
  ⟨(HB1.out.trans (HB2.out.mono (Nat.le_of_lt hsl))).alloc (Nat.le_of_lt hsl2) _, (HD.out.below HB2.out hsl).alloc _, (HR.out.below HB2.out hrl).alloc _, Blk.new w2 34 _, (HR.out.below HB2.out hrl).lt⟩
 obtain ⟨w3, hw3⟩ : ∃ w3, w2.alloc (.cells #[.int .i64 1, .int .i64 0, .slice none 0 0] 34) = w3 := ⟨_, rfl⟩
 obtain ⟨vb, hvb⟩ : ∃ vb, w2.heap.size = vb := ⟨_, rfl⟩
 rw [hw3, hvb] at S3 ⊢
 have HS3 := Lib.hid S3
 obtain ⟨i0, hi0, hz0, hz1, hz2⟩ := info_parts J.Tryz.info2
 have Hz0 := Lib.hid hz0; clear hz0
 have Hz1 := Lib.hid hz1; clear hz1
 have Hz2 := Lib.hid hz2; clear hz2
 have Hi := Lib.hid hi0; clear hi0
 clear hw3 hvb S3 c0 c1 d0 d1 hsl hsl2 hrl HB1 HD HR HB2
 go_loopw [16] (fun z16 wr => (z16 = .int .i64 0 ∧ JS w wr sb b off c vb (.slice none 0 0)) ∨ (z16 = .int .i64 1 ∧ ∃ RA rc, JS w wr sb b off c vb (.slice RA 1 rc))) (fun z16 _ => 1 - (intOf z16).toNat)
 case atStart => exact .inl ⟨rfl, HS3.out⟩
 case round =>
  rcases hrel with ⟨rfl, hS⟩ | ⟨rfl, RA, rc, hS⟩
  ·have c0 : wr.cell? ⟨sb, 0, none⟩ = some (.int .i64 0) := hS.s.cell 0
   have c1 : wr.cell? ⟨sb, 1, none⟩ = some (.slice (some ⟨b, off, none⟩) 1 c) := hS.s.cell 1
   have hsl := hS.s.lt
   have HS := Lib.hid hS
   clear hS
   go_wp2_with (first | (go_at_call 61; refine (HOF.out _ (by rw [HSB.out]; exact HS.out.bl)).mono ?_; rintro e w5 ⟨rfl, hb⟩; have HS5 := Lib.hid (HS.out.below hb); have v2 : w5.cell? ⟨vb, 2, none⟩ = some (.slice none 0 0) := HS5.out.v.cell 2; have hvl := HS5.out.v.lt; have HO : Hid ((w5.alloc (.cells #[.int .i64 2] 2)).ownsRow w5.heap.size 2 1 (.slice none 0 0) 0 []) := World.ownsRow_nil _ _ _ _; have H1 : Hid (∀ j u, [Value.int .i64 2][j]? = some u → (w5.alloc (.cells #[.int .i64 2] 2)).cell? ((⟨w5.heap.size, 0, none⟩ : Addr).add j) = some u) := cells_new (l := [Value.int .i64 2]); have H5 : Hid (w5.heap.size ≤ (w5.alloc (.cells #[.int .i64 2] 2)).heap.size) := Nat.le_of_lt (by simp); clear hb) | (at_builtin; refine wpList_append_own _ rfl (.tmp 31) (.tmp 33) 32 rfl w5.heap.size 2 i0 _ 1 8 Tryz.underlying32 Hi.out Hz0.out Hz1.out Hz2.out rfl (Nat.succ_pos 0) (.slice none 0 0) 0 [] rfl HO.out ⟨w5.heap.size, 0, none⟩ 1 1 [.int .i64 2] rfl rfl H1.out (J.ints_one [2]) (by unfold maxLen; omega) (by omega) H5.out ?_; intro v' w6 own gr _; obtain ⟨g', m', rfl⟩ := own_shape own; have hb6 : Below w5.heap.size w5 w6 := ((Below.refl _ _).alloc (Nat.le_refl _) _).grown gr (Nat.le_of_lt (by simp)) (fun k hk => by simp [Value.ownBlock] at hk); have HS6 := Lib.hid (HS5.out.below hb6); have v6 := HS6.out.v.cell 2; have f6 := HS6.out.v.frozen 2; clear hb6 own gr))
   go_roundw
   case rel => exact .inr ⟨by go_num, _, _, HS6.out.set_ _⟩
   case measure => simp [intOf]
  ·have v0 : wr.cell? ⟨vb, 0, none⟩ = some (.int .i64 1) := hS.v.cell 0
   have v1 : wr.cell? ⟨vb, 1, none⟩ = some (.int .i64 0) := hS.v.cell 1
   have v2 : wr.cell? ⟨vb, 2, none⟩ = some (.slice RA 1 rc) := hS.v.cell 2
   have r0 := hS.r.cell 0
   have r1 := hS.r.cell 1
   have r2 := hS.r.cell 2
   have f0 := hS.r.frozen 0
   have f1 := hS.r.frozen 1
   have f2 := hS.r.frozen 2
   have HS := Lib.hid hS
   have hsb : sb ≤ sb + 1 := Nat.le_succ _
   clear hS; go_wp2
   refine bodyPost_ret (results_cell2 rfl _ _ (sb + 1) 34 #[.int .i64 1, .int .i64 0, .slice RA 1 rc] _ rfl (((HS.out.r.set_ 0 (.int .i64 1)).set_ 1 (.int .i64 0)).set_ 2 (.slice RA 1 rc)) Tryz.underlying34 rfl (by kernel_rfl)) rfl ⟨RA, rc, rfl, ?_⟩
   rw [HSB.out]
   exact ((HS.out.bl.setCell hsb _).setCell hsb _).setCell hsb _
end Go.Proofs.YtdgfjpbjiccllaaGreatDoor.F
namespace Go.Proofs.YtdgfjpbjiccllaaGreatDoor.A
open Go.RowKit
open YtdgfjpbjiccllaaGreatDoorW.PrintWords YtdgfjpbjiccllaaGreatDoorW.PrintLast YtdgfjpbjiccllaaGreatDoorW.PrintMore
open PTopLoads
open X (letter digit more spanL spanL_le spanL_lt spanL_end bytes_length byte_at nameN isWord)
set_option maxRecDepth 100000
structure NameP (s : ByteArray) : Prop where
 n0 : 0 < s.size
 l0 : letter ((X.bytes s).getD 0 0) = true
 m : ∀ x ∈ X.bytes s, more x = true
 n12 : s.size ≤ 12
 nw : isWord s = false
theorem small5 (b : Int) (w : World) : Calls Tryz.prog 68 #[.int .u8 b] w fun e w' => e = .returned (.bool (letter b)) ∧ Below w.heap.size w w' :=
 (taskmasterref4_small.calls b _ w (X.small_is b)).mono fun _ _ ⟨he, hd⟩ => ⟨he, hd.below⟩
theorem digit5 (b : Int) (w : World) : Calls Tryz.prog 112 #[.int .u8 b] w fun e w' => e = .returned (.bool (digit b)) ∧ Below w.heap.size w w' :=
 (taskmasterref4_digit.calls b _ w (X.digit_is b)).mono fun _ _ ⟨he, hd⟩ => ⟨he, hd.below⟩
theorem word5 (t : ByteArray) : ∃ b, (b = false → isWord t = false) ∧ ∀ w, Calls Tryz.prog 113 #[.string t] w fun e w' => e = .returned (.bool b) ∧ Below w.heap.size w w' := by
 obtain ⟨b, K, h⟩ := word_tot t
 have h : taskmasterref4_word.f K t = some b := h K (Nat.le_refl _)
 refine ⟨b, fun e => X.word_no (k := K) (by rw [h, e]), fun w => ?_⟩
 exact taskmasterref4_word.calls K t b w h
theorem cell2 {P : Program} {fn : Func} {p u : Tmp} {ty : TypeId} (h : fn.results = #[.cell p ty, .tmp u]) (tmps : Array Value) (w : World) (g : Nat) (t : TypeId) (cs : Array Value) (d : TypeDesc)
  (hp : tmps.getD p undef = .pointer (some ⟨g, 0, none⟩)) (hg : Blk w g t cs)
  (hu : P.underlying ty = some d) (hd : (match d with | .struct _ | .array _ _ => true | _ => false) = true) (hi : (P.info? ty).map (·.size) = some cs.size) :
  (results fn tmps).run P w = .ok (.tuple #[.agg cs, tmps.getD u undef]) w := by
 have hp' : tmps[p]?.getD undef = .pointer (some ⟨g, 0, none⟩) := by simpa using hp
 simp [results, h, hp', asAddr, run_loadVar_row w g t ty cs (0, 0) d hg hu hd hi]
set_option maxHeartbeats 8000000 in
theorem one_run (s : ByteArray) (hs : (s.size : Int) ≤ 9223372036854775807) (h0 : 0 < s.size) (hl : letter ((X.bytes s).getD 0 0) = true) (bw : Bool) (hw : ∀ w, Calls Tryz.prog 113 #[.string (s.extract 0 (nameN s))] w fun e w' => e = .returned (.bool bw) ∧ Below w.heap.size w w') (w : World) :
  Calls Tryz.prog 69 #[.string s] w fun e w' => e = .returned (if bw then .tuple #[.agg #[.int .i64 3, .string (s.extract 0 (nameN s)), .int .i64 0, .int .i64 0], .int .i64 (nameN s)] else if 12 < nameN s then .tuple #[.agg #[.int .i64 0, .string ⟨#[]⟩, .int .i64 0, .int .i64 0], .int .i64 0] else .tuple #[.agg #[.int .i64 1, .string (s.extract 0 (nameN s)), .int .i64 0, .int .i64 0], .int .i64 (nameN s)]) ∧ Below w.heap.size w w' := by
 have hle : nameN s ≤ s.size := by unfold nameN; rw [← bytes_length]; exact spanL_le _ _
 have hsp : ∀ k, k < nameN s → more ((X.bytes s).getD k 0) = true := fun k hk => spanL_lt more (X.bytes s) k hk
 have hse : nameN s < s.size → more ((X.bytes s).getD (nameN s) 0) = false := fun hk => spanL_end more (X.bytes s) (by rw [bytes_length]; exact hk)
 obtain ⟨n, hn⟩ : ∃ n, nameN s = n := ⟨_, rfl⟩
 obtain ⟨x, hx⟩ : ∃ x, s.extract 0 n = x := ⟨_, rfl⟩
 rw [hn] at hle hsp hse hw ⊢
 rw [hx] at hw ⊢
 obtain ⟨rv, hrv⟩ : ∃ rv : Value, (if bw then Value.tuple #[.agg #[.int .i64 3, .string x, .int .i64 0, .int .i64 0], .int .i64 n] else if 12 < n then .tuple #[.agg #[.int .i64 0, .string ⟨#[]⟩, .int .i64 0, .int .i64 0], .int .i64 0] else .tuple #[.agg #[.int .i64 1, .string x, .int .i64 0, .int .i64 0], .int .i64 n]) = rv := ⟨_, rfl⟩
 rw [hrv]
 have HRV := Lib.hid hrv
 have HX := Lib.hid hx
 have HW := Lib.hid hw
 have HSP := Lib.hid hsp
 have HSE := Lib.hid hse
 have hb := byte_at s 0 h0
 have hb59 : (((s[0]'h0).toNat : Int) == 59) = false := by
  rw [hb, beq_eq_false_iff_ne]
  unfold letter at hl
  simp only [Bool.and_eq_true, decide_eq_true_eq] at hl
  omega
 have hbl : letter (((s[0]'h0).toNat : Nat) : Int) = true := by rw [hb]; exact hl
 have hbd : digit (((s[0]'h0).toNat : Nat) : Int) = false := by
  rw [hb]
  unfold letter at hl
  simp only [Bool.and_eq_true, decide_eq_true_eq] at hl
  unfold digit
  rw [Bool.and_eq_false_iff]
  right
  simp only [decide_eq_false_iff_not]
  omega
 have HBL := Lib.hid hbl
 have HBD := Lib.hid hbd
 have HB1 := Lib.hid ((Below.refl w.heap.size w).alloc (Nat.le_refl _) (.cells #[.int .i64 0, .string ⟨#[]⟩, .int .i64 0, .int .i64 0] 116))
 have HR := Lib.hid (Blk.new w 116 #[.int .i64 0, .string ⟨#[]⟩, .int .i64 0, .int .i64 0])
 obtain ⟨g, hg⟩ : ∃ g, w.heap.size = g := ⟨_, rfl⟩
 have HG := Lib.hid hg
 rw [hg] at HR
 have hn0 : (0 : Int) ≤ (n : Int) := by omega
 have hns : (n : Int) ≤ (s.size : Int) := by omega
 clear hl hb hbl hbd hrv hw hsp hse hn hg hx
 go_enter Tryz.func69, Tryz.ntmps69
 go_upto_region 1 with fail
 obtain ⟨w1, hw1⟩ : ∃ w1, w.alloc (.cells #[.int .i64 0, .string ⟨#[]⟩, .int .i64 0, .int .i64 0] 116) = w1 := ⟨_, rfl⟩
 rw [hw1] at HB1 HR ⊢
 rw [HG.out]
 clear hw1
 go_wp2_with (first | (go_at_call 112; refine (digit5 _ _).mono ?_; rintro e w2 ⟨rfl, hb⟩; rw [HBD.out]; have HB2 := Lib.hid hb; clear hb) | (go_at_call 68; refine (small5 _ _).mono ?_; rintro e w3 ⟨rfl, hb⟩; rw [HBL.out]; have HB3 := Lib.hid (HB2.out.trans (hb.mono HB2.out.size)); clear hb))
 have HB4 := Lib.hid (HB1.out.trans (HB3.out.mono HB1.out.size))
 have HR4 := Lib.hid (HR.out.below HB3.out HR.out.lt)
 go_loopw [4] (fun z wr => ∃ k : Nat, k ≤ n ∧ z = .int .i64 k ∧ Below w3.heap.size w3 wr) (fun z _ => n - (intOf z).toNat)
 case atStart => exact ⟨0, Nat.zero_le _, rfl, Below.refl _ _⟩
 case round =>
  obtain ⟨k, hk, rfl, hbw⟩ := hrel
  have HBW := Lib.hid hbw
  have HRR := Lib.hid (HR4.out.below hbw HR4.out.lt)
  have j0 : (0 : Int) ≤ (k : Int) := by omega
  clear hbw
  by_cases hlt : k < n
  ·have hks : k < s.size := by omega
   have hm := HSP.out k hlt
   rw [← byte_at s k hks] at hm
   have j1 : (k : Int) < (s.size : Int) := by omega
   obtain ⟨b, hbe⟩ : ∃ b : Int, (((s[k]'hks).toNat : Nat) : Int) = b := ⟨_, rfl⟩
   rw [hbe] at hm
   unfold more at hm
   cases h1 : letter b with
   | true =>
    have H1 := Lib.hid h1
    clear hm h1
    go_wp2_with (go_at_call 68; refine (small5 _ _).mono ?_; rintro e w5 ⟨rfl, hb⟩; rw [H1.out]; have HB5 := Lib.hid (HBW.out.trans (hb.mono HBW.out.size)); clear hb)
    go_roundw
    case rel => exact ⟨k + 1, by omega, by go_num, HB5.out⟩
    case measure => simp [intOf]; omega
   | false =>
    cases h2 : digit b with
    | true =>
     have H1 := Lib.hid h1
     have H2 := Lib.hid h2
     clear hm h1 h2
     go_wp2_with (first | (go_at_call 68; refine (small5 _ _).mono ?_; rintro e w5 ⟨rfl, hb⟩; rw [H1.out]; have HB5 := Lib.hid (HBW.out.trans (hb.mono HBW.out.size)); clear hb) | (go_at_call 112; refine (digit5 _ _).mono ?_; rintro e w6 ⟨rfl, hb⟩; rw [H2.out]; have HB6 := Lib.hid (HB5.out.trans (hb.mono HB5.out.size)); clear hb))
     go_roundw
     case rel => exact ⟨k + 1, by omega, by go_num, HB6.out⟩
     case measure => simp [intOf]; omega
    | false =>
     have h3 : (b == 95) = true := by rw [h1, h2] at hm; exact hm
     have H1 := Lib.hid h1
     have H2 := Lib.hid h2
     clear hm h1 h2
     go_wp2_with (first | (go_at_call 68; refine (small5 _ _).mono ?_; rintro e w5 ⟨rfl, hb⟩; rw [H1.out]; have HB5 := Lib.hid (HBW.out.trans (hb.mono HBW.out.size)); clear hb) | (go_at_call 112; refine (digit5 _ _).mono ?_; rintro e w6 ⟨rfl, hb⟩; rw [H2.out]; have HB6 := Lib.hid (HB5.out.trans (hb.mono HB5.out.size)); clear hb))
     go_roundw
     case rel => exact ⟨k + 1, by omega, by go_num, HB6.out⟩
     case measure => simp [intOf]; omega
  ·obtain rfl : k = n := by omega
   have HRZ := Lib.hid (HRR.out)
   have HSEE := HSE.out
   have hcase : (k < s.size ∧ ∃ hks : k < s.size, letter (((s[k]'hks).toNat : Nat) : Int) = false ∧ digit (((s[k]'hks).toNat : Nat) : Int) = false ∧ ((((s[k]'hks).toNat : Nat) : Int) == 95) = false) ∨ ¬ k < s.size := by
    by_cases hks : k < s.size
    ·left
     have hm := HSEE hks
     rw [← byte_at s k hks] at hm
     unfold more at hm
     rw [Bool.or_eq_false_iff, Bool.or_eq_false_iff] at hm
     exact ⟨hks, hks, hm.1.1, hm.1.2, hm.2⟩
    ·exact .inr hks
   have j2 : (k : Int) ≤ (s.size : Int) := hns
   have e1 : IntKind.i64.wrap (k : Int) = (k : Int) := IntWalk.i64_in _ ⟨by omega, by omega⟩
   have hx2 : s.extract 0 k = x := HX.out
   rcases hcase with ⟨hks, _, h1, h2, h3⟩ | hks
   case' inl =>
    have j1 : (k : Int) < (s.size : Int) := by omega
    have H1 := Lib.hid h1
    have H2 := Lib.hid h2
    obtain ⟨b, hbe⟩ : ∃ b : Int, (((s[k]'hks).toNat : Nat) : Int) = b := ⟨_, rfl⟩
    rw [hbe] at H1 H2 h3
    clear h1 h2 HSEE HSE HSP
    go_upto_region 17 with (first | (go_at_call 68; refine (small5 _ _).mono ?_; rintro e w5 ⟨rfl, hb⟩; rw [H1.out]; have HB5 := Lib.hid (HBW.out.trans (hb.mono HBW.out.size)); clear hb) | (go_at_call 112; refine (digit5 _ _).mono ?_; rintro e w6 ⟨rfl, hb⟩; rw [H2.out]; have HB6 := Lib.hid (HB5.out.trans (hb.mono HB5.out.size)); clear hb))
   case' inr =>
    clear HSEE HSE HSP
    go_upto_region 17 with fail
    obtain ⟨w6, hw6⟩ : ∃ w6, wr = w6 := ⟨_, rfl⟩
    have HB6 : Hid (Below w3.heap.size w3 w6) := by rw [← hw6]; exact HBW
    conv => arg 5; rw [hw6]
    clear hw6
   all_goals
    have HR6 := Lib.hid (HR4.out.below HB6.out HR4.out.lt)
    have HBZ := Lib.hid (HB4.out.trans (HB6.out.mono HB4.out.size))
    cases bw with
    | true =>
     have HRV2 : Hid (Value.tuple #[.agg #[.int .i64 3, .string x, .int .i64 0, .int .i64 0], .int .i64 k] = rv) := HRV.out
     clear HRV
     go_wp2_with (go_at_call 113; refine (HW.out _).mono ?_; rintro e w7 ⟨rfl, hb⟩; have HB7 := Lib.hid (HBZ.out.trans (hb.mono HBZ.out.size)); have HR7 := Lib.hid (HR6.out.below hb HR6.out.lt); have r0 := HR7.out.cell 0; have r1 := HR7.out.cell 1; have r2 := HR7.out.cell 2; have r3 := HR7.out.cell 3; have f0 := HR7.out.frozen 0; have f1 := HR7.out.frozen 1; have f2 := HR7.out.frozen 2; have f3 := HR7.out.frozen 3; have hgl := HR7.out.lt; simp at r0 r1 r2 r3; clear hb)
     refine bodyPost_ret (cell2 rfl _ _ g 116 #[.int .i64 3, .string x, .int .i64 0, .int .i64 0] _ rfl ((((HR7.out.set_ 0 (.int .i64 3)).set_ 1 (.string x)).set_ 2 (.int .i64 0)).set_ 3 (.int .i64 0)) Tryz.underlying116 rfl (by kernel_rfl)) rfl ⟨by rw [← HRV2.out]; rfl, ?_⟩
     exact (((HB7.out.setCell (Nat.le_of_eq HG.out) _).setCell (Nat.le_of_eq HG.out) _).setCell (Nat.le_of_eq HG.out) _).setCell (Nat.le_of_eq HG.out) _
    | false =>
     by_cases h12 : 12 < k
     ·have d12 : decide ((12 : Int) < (k : Int)) = true := by simp; omega
      have HRV2 : Hid (Value.tuple #[.agg #[.int .i64 0, .string ⟨#[]⟩, .int .i64 0, .int .i64 0], .int .i64 0] = rv) := by
       have := HRV.out
       rwa [if_neg (by simp), if_pos h12] at this
      clear HRV
      go_wp2_with (go_at_call 113; refine (HW.out _).mono ?_; rintro e w7 ⟨rfl, hb⟩; have HB7 := Lib.hid (HBZ.out.trans (hb.mono HBZ.out.size)); have HR7 := Lib.hid (HR6.out.below hb HR6.out.lt); have r0 := HR7.out.cell 0; have r1 := HR7.out.cell 1; have r2 := HR7.out.cell 2; have r3 := HR7.out.cell 3; have f0 := HR7.out.frozen 0; have f1 := HR7.out.frozen 1; have f2 := HR7.out.frozen 2; have f3 := HR7.out.frozen 3; have hgl := HR7.out.lt; simp at r0 r1 r2 r3; clear hb)
      refine bodyPost_ret (cell2 rfl _ _ g 116 #[.int .i64 0, .string ⟨#[]⟩, .int .i64 0, .int .i64 0] _ rfl ((((HR7.out.set_ 0 (.int .i64 0)).set_ 1 (.string ⟨#[]⟩)).set_ 2 (.int .i64 0)).set_ 3 (.int .i64 0)) Tryz.underlying116 rfl (by kernel_rfl)) rfl ⟨by rw [← HRV2.out]; rfl, ?_⟩
      exact (((HB7.out.setCell (Nat.le_of_eq HG.out) _).setCell (Nat.le_of_eq HG.out) _).setCell (Nat.le_of_eq HG.out) _).setCell (Nat.le_of_eq HG.out) _
     ·have d12 : decide ((12 : Int) < (k : Int)) = false := by simp; omega
      have HRV2 : Hid (Value.tuple #[.agg #[.int .i64 1, .string x, .int .i64 0, .int .i64 0], .int .i64 k] = rv) := by
       have := HRV.out
       rwa [if_neg (by simp), if_neg h12] at this
      clear HRV
      go_wp2_with (go_at_call 113; refine (HW.out _).mono ?_; rintro e w7 ⟨rfl, hb⟩; have HB7 := Lib.hid (HBZ.out.trans (hb.mono HBZ.out.size)); have HR7 := Lib.hid (HR6.out.below hb HR6.out.lt); have r0 := HR7.out.cell 0; have r1 := HR7.out.cell 1; have r2 := HR7.out.cell 2; have r3 := HR7.out.cell 3; have f0 := HR7.out.frozen 0; have f1 := HR7.out.frozen 1; have f2 := HR7.out.frozen 2; have f3 := HR7.out.frozen 3; have hgl := HR7.out.lt; simp at r0 r1 r2 r3; clear hb)
      refine bodyPost_ret (cell2 rfl _ _ g 116 #[.int .i64 1, .string x, .int .i64 0, .int .i64 0] _ rfl ((((HR7.out.set_ 0 (.int .i64 1)).set_ 1 (.string x)).set_ 2 (.int .i64 0)).set_ 3 (.int .i64 0)) Tryz.underlying116 rfl (by kernel_rfl)) rfl ⟨by rw [← HRV2.out]; rfl, ?_⟩
      exact (((HB7.out.setCell (Nat.le_of_eq HG.out) _).setCell (Nat.le_of_eq HG.out) _).setCell (Nat.le_of_eq HG.out) _).setCell (Nat.le_of_eq HG.out) _
theorem one5 (s : ByteArray) (hs : (s.size : Int) ≤ 9223372036854775807) (h0 : 0 < s.size) (hl : letter ((X.bytes s).getD 0 0) = true) : ∃ (k n : Int) (tx : ByteArray), (k = 1 → n = s.size → NameP s) ∧ ∀ w, Calls Tryz.prog 69 #[.string s] w fun e w' => e = .returned (.tuple #[.agg #[.int .i64 k, .string tx, .int .i64 0, .int .i64 0], .int .i64 n]) ∧ Below w.heap.size w w' := by
 obtain ⟨bw, hbw, hw⟩ := word5 (s.extract 0 (nameN s))
 have h := fun w => one_run s hs h0 hl bw hw w
 cases bw with
 | true => exact ⟨3, _, _, fun e => (by cases e), h⟩
 | false =>
  by_cases h12 : 12 < nameN s
  ·refine ⟨0, 0, ⟨#[]⟩, fun e => (by cases e), fun w => ?_⟩
   have := h w
   rwa [if_neg (by simp), if_pos h12] at this
  ·refine ⟨1, nameN s, s.extract 0 (nameN s), fun _ hn => ?_, fun w => ?_⟩
   ·have hn' : nameN s = s.size := by omega
    have hx : s.extract 0 (nameN s) = s := by rw [hn']; simp
    rw [hx] at hbw
    refine ⟨h0, hl, fun y hy => ?_, by omega, hbw rfl⟩
    obtain ⟨j, hj, rfl⟩ := List.getElem_of_mem hy
    have := spanL_lt more (X.bytes s) j (by have e : spanL more (X.bytes s) = s.size := hn'; rw [e, ← bytes_length]; exact hj)
    simpa [List.getD_eq_getElem?_getD, hj] using this
   ·have := h w
    rwa [if_neg (by simp), if_neg h12] at this
set_option maxHeartbeats 4000000 in
theorem name5 (s : ByteArray) (hs : (s.size : Int) ≤ 9223372036854775807) : ∃ b, (b = true → NameP s) ∧ ∀ w, Calls Tryz.prog 41 #[.string s] w fun e w' => e = .returned (.bool b) ∧ Below w.heap.size w w' := by
 by_cases h0 : 0 < s.size
 ·have hz : ((s.size : Int) == 0) = false := by rw [beq_eq_false_iff_ne]; omega
  have hb := byte_at s 0 h0
  cases hl : letter ((X.bytes s).getD 0 0) with
  | false =>
   rw [← hb] at hl
   have HL := Lib.hid hl
   refine ⟨false, fun h => (by cases h), fun w => ?_⟩
   clear hl hb
   go_enter Tryz.func41, Tryz.ntmps41
   go_wp2_with (go_at_call 68; refine (small5 _ _).mono ?_; rintro e w2 ⟨rfl, hb⟩; rw [HL.out]; have HB2 := Lib.hid hb; clear hb)
   go_ret
   exact ⟨rfl, HB2.out⟩
  | true =>
   obtain ⟨k, n, tx, hp, hc⟩ := one5 s hs h0 hl
   rw [← hb] at hl
   have HL := Lib.hid hl
   have HC := Lib.hid hc
   refine ⟨decide (n = s.size) && decide (k = 1), fun h => by
    simp only [Bool.and_eq_true, decide_eq_true_eq] at h
    exact hp h.2 h.1, fun w => ?_⟩
   clear hl hb hc hp
   obtain ⟨r, hr⟩ : ∃ r, (decide (n = s.size) && decide (k = 1)) = r := ⟨_, rfl⟩
   rw [hr]
   have HR := Lib.hid hr
   clear hr
   cases hn : (n == (s.size : Int)) <;> cases hk : (k == 1)
   all_goals
    have HZ : Hid (r = ((n == (s.size : Int)) && (k == 1))) := by
     unfold Hid
     rw [← HR.out]
     rfl
    go_enter Tryz.func41, Tryz.ntmps41
    go_wp2_with (first | (go_at_call 68; refine (small5 _ _).mono ?_; rintro e w2 ⟨rfl, hb⟩; rw [HL.out]; have HB2 := Lib.hid hb; clear hb) | (go_at_call 69; refine (HC.out _).mono ?_; rintro e w3 ⟨rfl, hb⟩; have HB3 := Lib.hid (HB2.out.trans (hb.mono HB2.out.size)); clear hb))
    go_ret
    exact ⟨by rw [HZ.out, hn, hk]; rfl, HB3.out.alloc HB3.out.size _⟩
 ·have hz : ((s.size : Int) == 0) = true := by rw [beq_iff_eq]; omega
  refine ⟨false, fun h => (by cases h), fun w => ?_⟩
  go_enter Tryz.func41, Tryz.ntmps41
  go_wp2_with fail
  go_ret
  exact ⟨rfl, Below.refl _ _⟩
end Go.Proofs.YtdgfjpbjiccllaaGreatDoor.A
