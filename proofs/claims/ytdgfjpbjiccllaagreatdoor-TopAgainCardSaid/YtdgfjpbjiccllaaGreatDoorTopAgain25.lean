/- Joined texts: Exe, Exe2, Exe3, Exe4, Exe5, Exe6. -/
import Derived.Test.YtdgfjpbjiccllaaGreatDoorTopAgain16
import Derived.Test.YtdgfjpbjiccllaaGreatDoorTopAgain21
import Derived.Deep.RegionLaw
import Derived.Test.YtdgfjpbjiccllaaGreatDoorTopAgain22
import Derived.Test.YtdgfjpbjiccllaaGreatDoorTopAgain24
namespace Go.Proofs.YtdgfjpbjiccllaaGreatDoor
open Go.RowKit
open YtdgfjpbjiccllaaGreatDoorW.PrintWords YtdgfjpbjiccllaaGreatDoorW.PrintLast YtdgfjpbjiccllaaGreatDoorW.PrintMore
open PTopLoads (S46 k46 z46 k46_mk S57 k57 z57)
set_option maxRecDepth 100000
variable {E : Nat}
theorem Fr.lessE {ts : List Nat} {B E' : Nat} {w w' : World} (h : Fr E' ts B w w') (hE : E ≤ E') : Fr E ts B w w' :=
 ⟨h.os, h.tape, h.output, h.size, fun i hi hc => h.block i hi (hc.imp_right fun hc => hc.imp_right fun ⟨h1, h2⟩ => ⟨Nat.lt_of_lt_of_le h1 hE, h2⟩)⟩
theorem step_append_rows {P : Program} {ops : Array Oper} {o : Oper} {a : Act} {w : World} {K : Act → World → Prop} {Q : Exit → Act → World → Prop} {E : Prop} (hgd : o.guard = none) (s x : Operand) (t : TypeId)
  (ho : o.op = .call { callee := .builtin .append, args := #[s, x], argTypes := #[t, t] })
  (base : Nat) (e : TypeId) (i : TypeInfo) (z : Value) (size bytes : Nat) (ht : P.underlying t = some (.slice e)) (hi : P.info? e = some i) (hz : i.zero = some z)
  (hsize : i.size = size) (hby : i.bytes = bytes) (hzs : z.cells.size = size) (hsz : 0 < size)
  (v : Value) (n : Nat) (xs : List Value) (hs : a.eval s = v) (hown : w.ownsRow base e size v n xs)
  (u : Value) (m base' : Nat) (news : List Value) (hx : a.eval x = u) (hsrc : w.ownsRow base' e size u m news) (h1 : ∀ u ∈ news, u.oneCell' = true)
  (h63 : n + m ≤ maxLen) (hbytes : (n + m) * bytes ≤ 140737488355328) (hbase : base ≤ w.heap.size)
  (h : ∀ v' w', w'.ownsRow base e size v' (n + m) (xs ++ news) → w.grownBy w' v.ownBlock → K (a.put o.dst v') w') :
  if Region.wanted o (yielded ops a.tmps) = true then Oper.wp P o a w K Q else E := by
 have hw : Region.wanted o (yielded ops a.tmps) = true := by simp [Region.wanted, hgd]
 rcases hsrc.2 with ⟨rfl, rfl⟩ | ⟨g, c, cur, rfl, hb, hh, hn, hm, hs', htk⟩
 ·have hnil : news = [] := by
   have := hsrc.1
   simp at this
   exact this
  subst hnil
  rw [if_pos hw]
  have hrun := run_append_owned_none (P := P) (w := w) base t o.type e i size ht hi v n xs hown
  unfold Oper.wp execOp
  simp only [ho, resolve, invoke, builtin, Sem.run_bind, Sem.run_pure, Result.andThen_ok, List.map_toArray, List.map_cons, List.map_nil, hs, hx, hrun]
  exact h v w (by simpa using hown) (World.grownBy.refl w _)
 ·refine step_append_own_at hgd s x t ho base e i z size bytes ht hi hz hsize hby hzs hsz v n xs hs hown ⟨g, 0, none⟩ m c news hx hsrc.1 ?_ h1 h63 hbytes hbase fun v' w' h2 h3 _ _ => h v' w' h2 h3
  intro j u hj
  rw [add_none, Nat.zero_add]
  have hB : Blk w g e cur := hh
  have hjl := (List.getElem?_eq_some_iff.1 hj).1
  rw [hB.cell j, ← hj, ← htk, List.getElem?_take_of_lt (by have := hsrc.1; omega)]
  simp
theorem enter31 (v u : Value) (w : World) : (callFunc 31 #[v, u]).run Tryz.prog w = .ok (.enter 31 #[v, u]) w := by kernel_rfl
theorem step_call31 {ops : Array Oper} {o : Oper} {a : Act} {w : World} {K : Act → World → Prop} {Q : Exit → Act → World → Prop} {E : Prop} (hgd : o.guard = none) (x y : Operand)
  (ho : o.op = .call { callee := .value (.func 31), args := #[x, y], argTypes := #[60, 57] }) (v u : Value) (hx : a.eval x = v) (hy : a.eval y = u)
  (hc : Calls Tryz.prog 31 #[v, u] w fun e w' => ∃ r, e = .returned r ∧ K (a.put o.dst r) w') :
  if Region.wanted o (yielded ops a.tmps) = true then Oper.wp Tryz.prog o a w K Q else E := by
 have hw : Region.wanted o (yielded ops a.tmps) = true := by simp [Region.wanted, hgd]
 rw [if_pos hw]
 unfold Oper.wp
 have e : a.eval (Operand.func 31) = .func (.func 31) #[] #[] := rfl
 have e2 := enter31 v u w
 simp only [execOp, ho, resolve, invoke, Deferred.ofValue, e, hx, hy, Sem.run_bind, Sem.run_pure, Result.andThen_ok, List.map_toArray, List.map_cons, List.map_nil, List.append_toArray, List.nil_append, List.append_nil, e2, Oper.upon_enter]
 refine hc.mono ?_
 rintro e w' ⟨r, rfl, h⟩
 exact h
abbrev TS : List Nat := [97, 50, 142, 140, 148, 131, 186]
def rep0 (v : Value) : Array Value := #[.int .i64 0, .int .i64 0, .int .i64 0, .int .i64 0, .slice none 0 0, .string ⟨#[]⟩, v]
theorem set7 {w : World} {g : Nat} (h : Blk w g 37 (rep0 (.slice none 0 0))) (a b c d e f v : Value) :
  Blk (((((((w.setCell ⟨g, 0, none⟩ a).setCell ⟨g, 1, none⟩ b).setCell ⟨g, 2, none⟩ c).setCell ⟨g, 3, none⟩ d).setCell ⟨g, 4, none⟩ e).setCell ⟨g, 5, none⟩ f).setCell ⟨g, 6, none⟩ v) g 37 #[a, b, c, d, e, f, v] ∧
  w.grownBy (((((((w.setCell ⟨g, 0, none⟩ a).setCell ⟨g, 1, none⟩ b).setCell ⟨g, 2, none⟩ c).setCell ⟨g, 3, none⟩ d).setCell ⟨g, 4, none⟩ e).setCell ⟨g, 5, none⟩ f).setCell ⟨g, 6, none⟩ v) (some g) := by
 refine ⟨((((((h.set_ 0 a).set_ 1 b).set_ 2 c).set_ 3 d).set_ 4 e).set_ 5 f).set_ 6 v, ?_⟩
 have r := World.grownBy.refl w (some g)
 exact only_setCell (only_setCell (only_setCell (only_setCell (only_setCell (only_setCell (only_setCell r (p := ⟨g, 0, none⟩) (.inl rfl) a) (p := ⟨g, 1, none⟩) (.inl rfl) b) (p := ⟨g, 2, none⟩) (.inl rfl) c) (p := ⟨g, 3, none⟩) (.inl rfl) d) (p := ⟨g, 4, none⟩) (.inl rfl) e) (p := ⟨g, 5, none⟩) (.inl rfl) f) (p := ⟨g, 6, none⟩) (.inl rfl) v
theorem Fr.later {ts : List Nat} {B g : Nat} {w w1 w' : World} (h : Fr E ts B w w1) (hg : w1.grownBy w' (some g)) (hl : w.heap.size ≤ g) : Fr E ts B w w' := by
 have h2 : Fr E [] B w1 w1 := Fr.refl _ _ _
 refine ⟨hg.os.trans h.os, hg.tape.trans h.tape, hg.output.trans h.output, Nat.le_trans h.size hg.size, fun i hi hc => ?_⟩
 exact (hg.block i (Nat.lt_of_lt_of_le hi h.size) (fun e => by injection e; omega)).trans (h.block i hi hc)
structure TiS (w wr : World) (ep B kp : Nat) (A : Ad) (rv tv : Value) (K : Kst) (v : Value) (L : List Ev) : Prop where
 kat : ∃ E jv ev, KAt E wr B kp A jv ev (pdOf K) K
 ex : Blk wr ep 62 #[rv, tv, .bool true, .pointer (some ⟨kp, 0, none⟩)]
 r : Blk wr (w.heap.size + 1) 37 (rep0 v)
 z : Blk wr w.heap.size 37 (rep0 (.slice none 0 0))
 own : wr.ownsRow w.heap.size 50 4 v L.length (evs L)
 fr : Fr w.heap.size TS B w wr
section
variable {w wr w' : World} {ep B kp : Nat} {A : Ad} {rv tv v : Value} {K K' : Kst} {L : List Ev}
theorem TiS.below (h : TiS w wr ep B kp A rv tv K v L) (hb : Below wr.heap.size wr w') : TiS w w' ep B kp A rv tv K v L := by
 obtain ⟨E, jv, ev, hk⟩ := h.kat
 have hf : Fr w.heap.size [] B wr w' := Fr.of_below hb
 exact ⟨⟨E, jv, ev, hk.fr (Fr.of_below (E := E) (ts := []) (B := B) hb) (by simp)⟩, h.ex.below hb h.ex.lt, h.r.below hb h.r.lt, h.z.below hb h.z.lt, own_fr h.own hf (by simp), h.fr.trans (hf.mono (by simp))⟩
theorem TiS.step (h : TiS w wr ep B kp A rv tv K v L) (hep : ep < B) {jv' : List Value} {ev' : Value} {E : Nat} (hk : KAt E w' B kp A jv' ev' (pdOf K') K') (hf : Fr wr.heap.size TS B wr w') : TiS w w' ep B kp A rv tv K' v L :=
 ⟨⟨E, jv', ev', hk⟩, (hf.block ep h.ex.lt (.inl hep)).trans h.ex, h.r.fr hf (by decide), h.z.fr hf (by decide), own50_fr h.own hf, h.fr.trans (hf.lessE (Nat.le_of_lt h.z.lt))⟩
theorem TiS.app (h : TiS w wr ep B kp A rv tv K v L) (hBw : B ≤ w.heap.size) (hep : ep < B) {E : Nat} {jv' : List Value} {ev' u : Value} {M : List Ev} (hk : KAt E wr B kp A jv' ev' (pdOf K) K) (hlt : ∀ g, v.ownBlock = some g → g < E)
  (gr : wr.grownBy w' v.ownBlock) (own : w'.ownsRow w.heap.size 50 4 u (L.length + M.length) (evs L ++ evs M)) : TiS w (w'.setCell ⟨w.heap.size + 1, 6, none⟩ u) ep B kp A rv tv K u (L ++ M) := by
 have hap := own_blk_ne h.own h.r (by decide)
 have haz := own_blk_ne h.own h.z (by decide)
 have hr := h.r.grown gr (fun e => hap e.symm)
 have hz := h.z.grown gr (fun e => haz e.symm)
 have hx := own_blk_ne h.own h.ex (by decide)
 have hE := h.ex.grown gr (fun e => hx e.symm)
 have hap' := own_blk_ne own hr (by decide)
 have hne : w.heap.size ≠ w.heap.size + 1 := by omega
 have hg2 : w'.grownBy (w'.setCell ⟨w.heap.size + 1, 6, none⟩ u) (some (w.heap.size + 1)) := only_setCell (World.grownBy.refl w' (some (w.heap.size + 1))) (p := ⟨w.heap.size + 1, 6, none⟩) (.inl rfl) _
 have hf2 : Fr E [37] B w' (w'.setCell ⟨w.heap.size + 1, 6, none⟩ u) := Fr.of_blk hg2 hr (by omega) (by simp)
 refine ⟨⟨E, jv', ev', (kat_other hk h.own gr hlt).fr hf2 (by decide)⟩, hE.far (show ep ≠ w.heap.size + 1 by omega) u, (hr.set_ 6 u), hz.far hne u, ?_, ?_⟩
 ·have := own_far own hap' (o := 6) u
  rw [List.length_append, evs_app]
  exact this
 ·have h1 : Fr w.heap.size TS B wr w' := Fr.of_own gr h.own hBw (by decide) (fun _ => Nat.le_refl _)
  have h2 := h.fr.trans h1
  refine ⟨h2.os, h2.tape, h2.output, Nat.le_trans h2.size (by simp [World.setCell]), fun i hi hc => ?_⟩
  exact (Below.heap_setCell w' ⟨w.heap.size + 1, 6, none⟩ u i (by simp only; omega)).trans (h2.block i hi hc)
end
set_option maxHeartbeats 16000000 in
theorem ticks_any {w : World} {ep B kp E0 : Nat} {A : Ad} {jv : List Value} {ev rv tv : Value} {IA : Option Addr} {ic : Nat} {l : List S57} {K0 : Kst} {stepF : Kst → S57 → Kst} {Inv : Nat → Kst → Prop} (hl : l.length ≤ 400)
  (hE : Blk w ep 62 #[rv, tv, .bool true, .pointer (some ⟨kp, 0, none⟩)]) (hep : ep < B) (hBw : B ≤ w.heap.size) (hK : KAt E0 w B kp A jv ev (pdOf K0) K0)
  (hI : InsP (fun w' => Fr w.heap.size TS B w w') IA l) (h0 : Inv 0 K0) (hst : Steps w B l stepF Inv) :
  Calls Tryz.prog 26 #[.pointer (some ⟨ep, 0, none⟩), .slice IA l.length ic] w fun e w2 => ∃ v, e = .returned (.agg (rep0 v)) ∧ w2.ownsRow w.heap.size 50 4 v (runE stepF K0 l).length (evs (runE stepF K0 l)) ∧ Fr w.heap.size TS B w w2 ∧
   (∃ E1 jv1 ev1, KAt E1 w2 B kp A jv1 ev1 (pdOf (runK stepF K0 l)) (runK stepF K0 l)) := by
 have HI := Lib.hid hI
 have HST := Lib.hid hst
 have H0 := Lib.hid h0
 obtain ⟨n, hn⟩ : ∃ n, l.length = n := ⟨_, rfl⟩
 have HL := Lib.hid hn
 rw [hn] at hl ⊢
 have HKK := Lib.hid hK
 have HE := Lib.hid hE
 have e3 : w.cell? ⟨ep, 3, none⟩ = some (.pointer (some ⟨kp, 0, none⟩)) := hE.cell 3
 have hel := hE.lt
 have dl : ¬ (400 : Int) < (n : Int) := by omega
 clear hI hst h0 hn hK hE
 go_enter Tryz.func26, Tryz.ntmps26
 go_upto_region 7 with fail
 have S0 : TiS w ((w.alloc (.cells #[.int .i64 0, .int .i64 0, .int .i64 0, .int .i64 0, .slice none 0 0, .string ⟨#[]⟩, .slice none 0 0] 37)).alloc (.cells #[.int .i64 0, .int .i64 0, .int .i64 0, .int .i64 0, .slice none 0 0, .string ⟨#[]⟩, .slice none 0 0] 37)) ep B kp A rv tv K0 (.slice none 0 0) [] := by
  have hb : Below w.heap.size w ((w.alloc (.cells #[.int .i64 0, .int .i64 0, .int .i64 0, .int .i64 0, .slice none 0 0, .string ⟨#[]⟩, .slice none 0 0] 37)).alloc (.cells #[.int .i64 0, .int .i64 0, .int .i64 0, .int .i64 0, .slice none 0 0, .string ⟨#[]⟩, .slice none 0 0] 37)) := ((Below.refl w.heap.size w).alloc (Nat.le_refl _) _).alloc (by simp) _
  have hs : (w.alloc (.cells #[.int .i64 0, .int .i64 0, .int .i64 0, .int .i64 0, .slice none 0 0, .string ⟨#[]⟩, .slice none 0 0] 37)).heap.size = w.heap.size + 1 := by simp
  have R := Blk.new (w.alloc (.cells #[.int .i64 0, .int .i64 0, .int .i64 0, .int .i64 0, .slice none 0 0, .string ⟨#[]⟩, .slice none 0 0] 37)) 37 #[.int .i64 0, .int .i64 0, .int .i64 0, .int .i64 0, .slice none 0 0, .string ⟨#[]⟩, .slice none 0 0]
  rw [hs] at R
  exact ⟨⟨E0, jv, ev, HKK.out.fr (Fr.of_below (E := E0) (ts := []) (B := B) hb) (by simp)⟩, HE.out.below hb hel, R, (Blk.new w 37 #[.int .i64 0, .int .i64 0, .int .i64 0, .int .i64 0, .slice none 0 0, .string ⟨#[]⟩, .slice none 0 0]).alloc _, by simpa [evs] using World.ownsRow_nil _ _ _ _, Fr.of_below hb⟩
 obtain ⟨w1, hw1⟩ : ∃ w1, (w.alloc (.cells #[.int .i64 0, .int .i64 0, .int .i64 0, .int .i64 0, .slice none 0 0, .string ⟨#[]⟩, .slice none 0 0] 37)).alloc (.cells #[.int .i64 0, .int .i64 0, .int .i64 0, .int .i64 0, .slice none 0 0, .string ⟨#[]⟩, .slice none 0 0] 37) = w1 := ⟨_, rfl⟩
 rw [hw1] at S0 ⊢
 have HS0 := Lib.hid S0
 obtain ⟨i0, hi0, hz0, hz1, hz2⟩ := info_parts Tryz.info50
 have Hz0 := Lib.hid hz0; clear hz0
 have Hz1 := Lib.hid hz1; clear hz1
 have Hz2 := Lib.hid hz2; clear hz2
 have Hi := Lib.hid hi0; clear hi0
 obtain ⟨sb, hsb⟩ : ∃ sb, w.heap.size = sb := ⟨_, rfl⟩
 rw [hsb]
 have HSB := Lib.hid hsb
 clear hw1 S0 e3 hsb
 go_wp2_with fail
 go_loopw [20] (fun z20 wr => ∃ (k : Nat) (v : Value), k ≤ n ∧ z20 = .int .i64 k ∧ TiS w wr ep B kp A rv tv (runK stepF K0 (l.take k)) v (runE stepF K0 (l.take k)) ∧ Inv k (runK stepF K0 (l.take k)) ∧ (runE stepF K0 (l.take k)).length ≤ k * 1000) (fun z20 _ => n - (intOf z20).toNat)
 case atStart => exact ⟨0, _, Nat.zero_le _, rfl, HS0.out, H0.out, Nat.le_refl _⟩
 case round =>
  obtain ⟨k, v, hk, rfl, hS, hInv, hle⟩ := hrel
  by_cases hlt : k < n
  ·obtain ⟨x, hx⟩ : ∃ x, l[k]? = some x := ⟨_, List.getElem?_eq_getElem (by rw [HL.out]; exact hlt)⟩
   have htk : l.take (k + 1) = l.take k ++ [x] := by
    obtain ⟨h1, rfl⟩ := List.getElem?_eq_some_iff.1 hx
    rw [List.take_succ_eq_append_getElem h1]
   have hnx := HST.out.next k _ x hx hInv
   rcases HI.out with h0 | ⟨b, off, rfl, hcs⟩
   ·have := HL.out; rw [h0] at this; simp at this; omega
   obtain ⟨DA, dc, hcw⟩ := hcs k x hx
   obtain ⟨g0, g1, g2, _⟩ := hcw wr hS.fr
   have hcl := HST.out.call k _ x hx hInv
   obtain ⟨Kk, hKk⟩ : ∃ Kk, runK stepF K0 (l.take k) = Kk := ⟨_, rfl⟩
   obtain ⟨Lk, hLk⟩ : ∃ Lk, runE stepF K0 (l.take k) = Lk := ⟨_, rfl⟩
   have hK2 : runK stepF K0 (l.take (k + 1)) = stepF Kk x := by rw [htk, runK_snoc, hKk]
   have hL2 : runE stepF K0 (l.take (k + 1)) = Lk ++ (stepF Kk x).ev := by rw [htk, runE_snoc, hKk, hLk]
   rw [hKk] at hcl hnx
   rw [hLk] at hle
   rw [hKk, hLk] at hS
   obtain ⟨Kn, hKn⟩ : ∃ Kn, stepF Kk x = Kn := ⟨_, rfl⟩
   rw [hKn] at hcl hnx hK2 hL2
   obtain ⟨VA, vc, hv⟩ : ∃ A c, v = .slice A Lk.length c := by
    rcases hS.own.2 with ⟨h, h0⟩ | ⟨g, c, cur, h, _⟩
    ·exact ⟨none, 0, by rw [h, h0]⟩
    ·exact ⟨_, c, h⟩
   subst hv
   have S5 := hS.below ((Below.refl wr.heap.size wr).alloc (Nat.le_refl _) (.cells #[.int .u64 x.f0, .slice DA x.f1.length dc, .int .u64 x.f2] 57))
   have T5 := Blk.new wr 57 #[.int .u64 x.f0, .slice DA x.f1.length dc, .int .u64 x.f2]
   have HS5 := Lib.hid S5
   have HT5 := Lib.hid T5
   have HC := Lib.hid hcl
   have HN2 := Lib.hid hnx
   have HK2 := Lib.hid hK2
   have HL2 := Lib.hid hL2
   have HLE := Lib.hid hle
   have HCW := Lib.hid hcw
   have hwl := hS.r.lt
   clear hcl hnx hK2 hL2 hle hS hInv htk hx hKk hLk hKn hcs hcw S5 T5
   have m1 : Hid (Lk.length + Kn.ev.length ≤ maxLen) := by have := HLE.out; have := HN2.out.2; unfold Hid maxLen; omega
   have m2 : Hid ((Lk.length + Kn.ev.length) * 32 ≤ 140737488355328) := by have := HLE.out; have := HN2.out.2; unfold Hid; omega
   go_upto_region 9 with fail
   obtain ⟨w5, hw5⟩ : ∃ w5, wr.alloc (.cells #[.int .u64 x.f0, .slice DA x.f1.length dc, .int .u64 x.f2] 57) = w5 := ⟨_, rfl⟩
   obtain ⟨ib, hib⟩ : ∃ ib, wr.heap.size = ib := ⟨_, rfl⟩
   rw [hw5] at HS5 HT5 ⊢
   rw [hib] at HT5 hwl ⊢
   clear hw5 hib g0 g1 g2
   obtain ⟨rk, hrk⟩ : ∃ rk, sb + 1 = rk := ⟨_, rfl⟩
   have HRK := Lib.hid hrk
   rw [HSB.out, hrk] at hwl
   rw [hrk]
   clear hrk
   have hr5 : Blk w5 rk 37 (rep0 (.slice VA Lk.length vc)) := by
    have := HS5.out.r
    rw [HSB.out, HRK.out] at this
    exact this
   have y1 : w5.cell? ⟨rk, 6, none⟩ = some (.slice VA Lk.length vc) := hr5.cell 6
   have y2 : w5.cell? ⟨ep, 3, none⟩ = some (.pointer (some ⟨kp, 0, none⟩)) := HS5.out.ex.cell 3
   have y3 : w5.cell? ⟨ib, 0, none⟩ = some (.int .u64 x.f0) := HT5.out.cell 0
   have y4 : w5.cell? ⟨ib, 1, none⟩ = some (.slice DA x.f1.length dc) := HT5.out.cell 1
   have y5 : w5.cell? ⟨ib, 2, none⟩ = some (.int .u64 x.f2) := HT5.out.cell 2
   have y6 := hr5.lt
   have y7 := HS5.out.ex.lt
   have y8 := HT5.out.lt
   have HD5 := Lib.hid (HS5.out.below ((Below.refl w5.heap.size w5).drew))
   have HDS : Hid (w5.drew.heap.size = w5.heap.size) := rfl
   have hBz : B ≤ w5.drew.heap.size := Nat.le_trans hBw HD5.out.fr.size
   have HC5 : Hid (Calls Tryz.prog 31 #[.pointer (some ⟨kp, 0, none⟩), .agg #[.int .u64 x.f0, .slice DA x.f1.length dc, .int .u64 x.f2]] w5.drew (SPost w5.heap.size w5.drew B kp A Kn)) := by
    obtain ⟨E1, jv1, ev1, hk1⟩ := HD5.out.kat
    exact HC.out E1 w5.drew.heap.size w5.drew kp A jv1 ev1 DA dc (HD5.out.fr.below (Nat.le_refl _) hBw) hk1 hBz (Nat.le_refl _) (fun w' f => (HCW.out w' (HD5.out.fr.trans (f.lessE HD5.out.fr.size))).2.2.2)
   clear hr5 hBz
   go_region_law (first | (refine step_call31 rfl (.tmp 29) (.tmp 30) rfl _ _ rfl rfl (HC5.out.mono ?_); rintro e' w6 ⟨jv6, ev6, rfl, hK6, hf6⟩; have HS6 := Lib.hid (HD5.out.step hep hK6 hf6); have HK6 := Lib.hid hK6; have HB6 := Lib.hid (Nat.le_trans (Nat.le_trans (Nat.le_of_lt HD5.out.z.lt) hf6.size) (Nat.le_refl _)); have z1 : w6.cell? ⟨rk, 6, none⟩ = some (.slice VA Lk.length vc) := (HRK.out ▸ HSB.out ▸ HS6.out.r : Blk w6 rk 37 _).cell 6; clear hK6 hf6; refine ⟨_, rfl, ?_⟩) | (refine step_append_rows rfl (.tmp 25) (.tmp 31) 35 rfl sb 50 i0 _ 4 32 Tryz.underlying35 Hi.out Hz0.out Hz1.out Hz2.out rfl (Nat.succ_pos 3) (.slice VA Lk.length vc) Lk.length (evs Lk) rfl (HSB.out ▸ HS6.out.own) ev6 Kn.ev.length w5.heap.size (evs Kn.ev) rfl HK6.out.evs (evs_one _) m1.out m2.out (HSB.out ▸ HB6.out) ?_; intro v' w7 own gr; obtain ⟨VB, vd, rfl⟩ := own_slice own; have HW := Lib.hid own; have HGW := Lib.hid gr; have HR7 := Lib.hid ((HRK.out ▸ HSB.out ▸ HS6.out.r : Blk w6 rk 37 (rep0 (.slice VA Lk.length vc))).grown gr (fun e => own_blk_ne HS6.out.own (HRK.out ▸ HSB.out ▸ HS6.out.r : Blk w6 rk 37 (rep0 (.slice VA Lk.length vc))) (by decide) e.symm)); have c7 : w7.cell? ⟨rk, 6, none⟩ = some (.slice VA Lk.length vc) := HR7.out.cell 6; have f7 := HR7.out.frozen 6; clear own gr))
   all_goals
    obtain rfl := HRK.out
    go_wp2_with fail
    go_roundw
    case rel =>
     refine ⟨k + 1, .slice VB (Lk.length + Kn.ev.length) vd, by omega, by go_num, ?_, ?_, ?_⟩
     ·rw [HK2.out, HL2.out]
      have h7 := HW.out
      rw [← HSB.out] at h7 ⊢
      exact HS6.out.app hBw hep HK6.out (fun g hg => own_block_lt HS5.out.own hg) HGW.out h7
     ·rw [HK2.out]
      exact HN2.out.1
     ·rw [HL2.out, List.length_append]
      have := HLE.out
      have := HN2.out.2
      omega
    case measure => simp [intOf]; omega
  ·have e : k = n := by omega
   subst e
   have HT : Hid (l.take k = l) := by unfold Hid; rw [← HL.out, List.take_length]
   rw [HT.out] at hS
   obtain ⟨VA, vc, hv⟩ := own_slice hS.own
   subst hv
   have hr := hS.r
   have hz := hS.z
   rw [HSB.out] at hr hz
   have HSX := Lib.hid hS
   clear hS hInv hle
   have r0 := hr.cell 0
   have r1 := hr.cell 1
   have r2 := hr.cell 2
   have r3 := hr.cell 3
   have r4 := hr.cell 4
   have r5 := hr.cell 5
   have r6 := hr.cell 6
   have t0 := hz.cell 0
   have t1 := hz.cell 1
   have t2 := hz.cell 2
   have t3 := hz.cell 3
   have t4 := hz.cell 4
   have t5 := hz.cell 5
   have t6 := hz.cell 6
   have u0 := hz.frozen 0
   have u1 := hz.frozen 1
   have u2 := hz.frozen 2
   have u3 := hz.frozen 3
   have u4 := hz.frozen 4
   have u5 := hz.frozen 5
   have u6 := hz.frozen 6
   have hrl := hr.lt
   have hzl := hz.lt
   simp [rep0] at r0 r1 r2 r3 r4 r5 r6 t0 t1 t2 t3 t4 t5 t6
   have HZ := Lib.hid hz
   clear hz hr
   go_wp2_with fail
   obtain ⟨h7, g7⟩ := set7 HZ.out (.int .i64 0) (.int .i64 0) (.int .i64 0) (.int .i64 0) (.slice none 0 0) (.string ⟨#[]⟩) (.slice VA (runE stepF K0 l).length vc)
   have hf : Fr w.heap.size [37] B wr _ := Fr.of_blk g7 HZ.out (by rw [← HSB.out]; exact hBw) (by simp)
   obtain ⟨E1, jv1, ev1, hk1⟩ := HSX.out.kat
   have hf1 : Fr E1 [37] B wr _ := Fr.of_blk g7 HZ.out (by rw [← HSB.out]; exact hBw) (by simp)
   refine bodyPost_ret (X.results_cell1 rfl _ _ sb 37 (rep0 (.slice VA (runE stepF K0 l).length vc)) _ rfl h7 Tryz.underlying37 rfl (by kernel_rfl)) rfl ⟨_, rfl, own_fr HSX.out.own hf (by decide), ?_, E1, jv1, ev1, hk1.fr hf1 (by decide)⟩
   exact HSX.out.fr.later g7 (by rw [HSB.out]; exact Nat.le_refl _)
end Go.Proofs.YtdgfjpbjiccllaaGreatDoor
namespace Go.Proofs.YtdgfjpbjiccllaaGreatDoor.X
open Go.RowKit
open YtdgfjpbjiccllaaGreatDoorW.PrintWords YtdgfjpbjiccllaaGreatDoorW.PrintLast YtdgfjpbjiccllaaGreatDoorW.PrintMore
open PTopLoads (S46 k46 z46 k46_mk S57 k57 z57)
set_option maxRecDepth 100000
theorem exec_new (w : World) : Calls Tryz.prog 9 #[] w fun e w' => e = .returned (.pointer (some ⟨w.heap.size, 0, none⟩)) ∧ w' = w.alloc (.cells #[.int .i64 0, .slice none 0 0, .bool false, .pointer none] 62) := by
 go_enter Tryz.func9, Tryz.ntmps9
 go_wp2; go_ret
 exact ⟨rfl, rfl⟩theorem tasks_mono {w : World} {B B' : Nat} {v : Value} {L : List S46} {R : List Value} (h : TasksAt w B' v L R) (hB : B ≤ B') : TasksAt w B v L R := ⟨h.len, own_mono h.row hB, fun i hi => own_mono (h.regs i hi) hB⟩
def repC (err at_ how task : Int) (rv ev : Value) : Array Value := #[.int .i64 err, .int .i64 at_, .int .i64 how, .int .i64 task, rv, .string ⟨#[]⟩, ev]
set_option maxHeartbeats 8000000 in
theorem exec_load {w : World} {ep : Nat} {r0 : Int} {t0 : Value} {b0 : Bool} {s : ByteArray} {rel : Int} {L : List S46} (hT : SetTextP s rel L) (htab : Lib.TabIs Tryz.prog w "strings.asciiSpace" .u8 Lib.asciiSpaceTab)
  (hr0 : 0 ≤ rel) (hr1 : rel ≤ 10000) (h1 : 1 ≤ L.length) (h8 : L.length ≤ 8) (hTk : ∀ (i : Nat) (x : S46), L[i]? = some x → TOk x i) (hne : ∀ (i j : Nat) (x y : S46), i < j → L[i]? = some x → L[j]? = some y → x.f0 ≠ y.f0)
  (hE : Blk w ep 62 #[.int .i64 r0, t0, .bool b0, .pointer none]) :
  Calls Tryz.prog 20 #[.pointer (some ⟨ep, 0, none⟩), .string s] w fun e w' => ∃ TA tc R, e = .returned (.agg (repC 0 s.size 0 0 (.slice none 0 0) (.slice none 0 0))) ∧ TasksAt w' w.heap.size (.slice TA L.length tc) L R ∧ Blk w' ep 62 #[.int .i64 rel, .slice TA L.length tc, .bool true, .pointer none] ∧ w.grownBy w' (some ep) := by
 have hb0 := (Below.refl w.heap.size w).alloc (Nat.le_refl _) (.cells #[.int .i64 0, .int .i64 0, .int .i64 0, .int .i64 0, .slice none 0 0, .string ⟨#[]⟩, .slice none 0 0] 37)
 have HP := Lib.hid (parse_yes hT (Lib.tabBelow_of_tabIs htab _ hb0) hr0 hr1 h1 h8 hTk hne)
 have HB0 := Lib.hid hb0
 have hel := hE.lt
 have HE := Lib.hid (hE.alloc (.cells #[.int .i64 0, .int .i64 0, .int .i64 0, .int .i64 0, .slice none 0 0, .string ⟨#[]⟩, .slice none 0 0] 37))
 have HS := Lib.hid (Blk.new w 37 #[.int .i64 0, .int .i64 0, .int .i64 0, .int .i64 0, .slice none 0 0, .string ⟨#[]⟩, .slice none 0 0])
 clear hb0 hT htab hr0 hr1 h1 h8 hTk hne hE
 go_enter Tryz.func20, Tryz.ntmps20
 go_upto_region 1 with fail
 obtain ⟨w1, hw1⟩ : ∃ w1, w.alloc (.cells #[.int .i64 0, .int .i64 0, .int .i64 0, .int .i64 0, .slice none 0 0, .string ⟨#[]⟩, .slice none 0 0] 37) = w1 := ⟨_, rfl⟩
 rw [hw1] at HP HB0 HE HS ⊢
 obtain ⟨sb, hsb⟩ : ∃ sb, w.heap.size = sb := ⟨_, rfl⟩
 rw [hsb] at HB0 HS hel ⊢
 have HSB := Lib.hid hsb
 clear hw1 hsb
 have e3 : w1.cell? ⟨ep, 3, none⟩ = some (.pointer none) := HE.out.cell 3
 have hel1 := HE.out.lt
 go_wp2_with (go_at_call 34; go_loud (refine (HP.out).mono ?_; rintro e w2 ⟨tv, R, rfl, hTs, hb⟩; obtain ⟨TA, tc, rfl⟩ := own_slice hTs.row; have HTs := Lib.hid hTs; have HB2 := Lib.hid hb; have HE2 := Lib.hid (HE.out.below hb hel1); have HS2 := Lib.hid (HS.out.below hb HS.out.lt); have x0 := HE2.out.cell 0; have x1 := HE2.out.cell 1; have x2 := HE2.out.cell 2; have k0 := HE2.out.frozen 0; have k1 := HE2.out.frozen 1; have k2 := HE2.out.frozen 2; have t0' := HS2.out.cell 0; have t1 := HS2.out.cell 1; have t2 := HS2.out.cell 2; have t3 := HS2.out.cell 3; have t4 := HS2.out.cell 4; have t5 := HS2.out.cell 5; have t6 := HS2.out.cell 6; have u0 := HS2.out.frozen 0; have u1 := HS2.out.frozen 1; have u2 := HS2.out.frozen 2; have u3 := HS2.out.frozen 3; have u4 := HS2.out.frozen 4; have u5 := HS2.out.frozen 5; have u6 := HS2.out.frozen 6; have hl1 := HE2.out.lt; have hl2 := HS2.out.lt; have hse : ep ≠ sb := (by omega); have hes : sb ≠ ep := (by omega); clear hTs hb))
 have hS3 := (((HS2.out.far (p := ⟨ep, 0, none⟩) hes (.int .i64 rel)).far (p := ⟨ep, 1, none⟩) hes (.slice TA L.length tc)).far (p := ⟨ep, 2, none⟩) hes (.bool true))
 have hE3 := ((HE2.out.set_ 0 (.int .i64 rel)).set_ 1 (.slice TA L.length tc)).set_ 2 (.bool true)
 obtain ⟨h7, g7⟩ := set7 hS3 (.int .i64 0) (.int .i64 s.size) (.int .i64 0) (.int .i64 0) (.slice none 0 0) (.string ⟨#[]⟩) (.slice none 0 0)
 have g0 : w.grownBy w2 (some ep) := only_of_below (by rw [HSB.out]; exact HB0.out.trans (HB2.out.mono (by have := HS.out.lt; omega))) _
 have hws : w.heap.size ≤ sb := Nat.le_of_eq HSB.out
 refine bodyPost_ret (results_cell1 rfl _ _ sb 37 (repC 0 s.size 0 0 (.slice none 0 0) (.slice none 0 0)) _ rfl (h7.alloc _) Tryz.underlying37 rfl (by kernel_rfl)) rfl ⟨TA, tc, R, rfl, ?_, (hE3.grown g7 (by simpa using hse)).alloc _, ?_⟩
 ·have f1 : Fr (E := 0) [62] 0 w2 _ := Fr.of_blk (only_setCell (only_setCell (only_setCell (World.grownBy.refl w2 (some ep)) (p := ⟨ep, 0, none⟩) (.inl rfl) (.int .i64 rel)) (p := ⟨ep, 1, none⟩) (.inl rfl) (.slice TA L.length tc)) (p := ⟨ep, 2, none⟩) (.inl rfl) (.bool true)) HE2.out (Nat.zero_le _) (by simp)
  have f2 : Fr (E := 0) [37] 0 _ _ := Fr.of_blk g7 hS3 (Nat.zero_le _) (by simp)
  have h3 := (HTs.out.fr f1 (by decide) (by decide)).fr f2 (by decide) (by decide)
  have h4 := h3.fr (E := 0) (ts := []) (C := 0) (Fr.of_none (only_alloc (World.grownBy.refl _ none) (.cells #[.int .i64 rel, .slice TA L.length tc] 24))) (by simp) (by simp)
  exact tasks_mono h4 (by have := HS.out.lt; rw [HSB.out]; omega)
 ·exact only_alloc (only_setCell (only_setCell (only_setCell (only_setCell (only_setCell (only_setCell (only_setCell (only_setCell (only_setCell (only_setCell g0 (p := ⟨ep, 0, none⟩) (.inl rfl) _) (p := ⟨ep, 1, none⟩) (.inl rfl) _) (p := ⟨ep, 2, none⟩) (.inl rfl) _) (p := ⟨sb, 0, none⟩) (.inr hws) _) (p := ⟨sb, 1, none⟩) (.inr hws) _) (p := ⟨sb, 2, none⟩) (.inr hws) _) (p := ⟨sb, 3, none⟩) (.inr hws) _) (p := ⟨sb, 4, none⟩) (.inr hws) _) (p := ⟨sb, 5, none⟩) (.inr hws) _) (p := ⟨sb, 6, none⟩) (.inr hws) _) _
end Go.Proofs.YtdgfjpbjiccllaaGreatDoor.X
namespace Go.Proofs.YtdgfjpbjiccllaaGreatDoor.F
open Go.RowKit
open YtdgfjpbjiccllaaGreatDoorW.PrintWords YtdgfjpbjiccllaaGreatDoorW.PrintLast YtdgfjpbjiccllaaGreatDoorW.PrintMore
open PTopLoads (S46 k46 z46 k46_mk S57 k57 z57)
open X
set_option maxRecDepth 100000
theorem exec_idle {w : World} {ep : Nat} {r0 t0 : Value} (hE : Blk w ep 62 #[r0, t0, .bool true, .pointer none]) :
  Calls Tryz.prog 36 #[.pointer (some ⟨ep, 0, none⟩)] w fun e w' => e = .returned (.bool true) ∧ Below w.heap.size w w' := by
 have x2 : w.cell? ⟨ep, 2, none⟩ = some (.bool true) := hE.cell 2
 have x3 : w.cell? ⟨ep, 3, none⟩ = some (.pointer none) := hE.cell 3
 have hel := hE.lt
 clear hE
 go_enter Tryz.func36, Tryz.ntmps36
 go_wp2; go_ret
 exact ⟨rfl, Below.refl _ _⟩
set_option maxHeartbeats 8000000 in
theorem exec_judge {w : World} {ep B0 c : Nat} {A : Option Addr} {kv : Value} {R : List Value} (hE : Blk w ep 62 #[.int .i64 0, .slice A 1 c, .bool true, kv]) (hT : TasksAt w B0 (.slice A 1 c) [xA] R) (hc : 1 ≤ c) (htab : Lib.TabIs Tryz.prog w "strings.asciiSpace" .u8 Lib.asciiSpaceTab) :
  Calls Tryz.prog 21 #[.pointer (some ⟨ep, 0, none⟩)] w fun e w' => ∃ RA rc, e = .returned (.agg (repC 0 0 1 0 (.slice RA 1 rc) (.slice none 0 0))) ∧ Below w.heap.size w w' := by
 have hb0 := (Below.refl w.heap.size w).alloc (Nat.le_refl _) (.cells #[.int .i64 0, .int .i64 0, .int .i64 0, .int .i64 0, .slice none 0 0, .string ⟨#[]⟩, .slice none 0 0] 37)
 have HJ := Lib.hid (judge_A (A := A) (c := c) _ hc (fun w' hb' => src_of (L := [xA]) (tasks_below hT (hb0.trans (hb'.mono hb0.size))) (by simp [xA])) (Lib.tabBelow_of_tabIs htab _ hb0))
 have HB0 := Lib.hid hb0
 have hel := hE.lt
 have HE := Lib.hid (hE.alloc (.cells #[.int .i64 0, .int .i64 0, .int .i64 0, .int .i64 0, .slice none 0 0, .string ⟨#[]⟩, .slice none 0 0] 37))
 have HS := Lib.hid (Blk.new w 37 #[.int .i64 0, .int .i64 0, .int .i64 0, .int .i64 0, .slice none 0 0, .string ⟨#[]⟩, .slice none 0 0])
 clear hb0 hT htab hc hE
 go_enter Tryz.func21, Tryz.ntmps21
 go_upto_region 1 with fail
 obtain ⟨w1, hw1⟩ : ∃ w1, w.alloc (.cells #[.int .i64 0, .int .i64 0, .int .i64 0, .int .i64 0, .slice none 0 0, .string ⟨#[]⟩, .slice none 0 0] 37) = w1 := ⟨_, rfl⟩
 rw [hw1] at HJ HB0 HE HS ⊢
 obtain ⟨sb, hsb⟩ : ∃ sb, w.heap.size = sb := ⟨_, rfl⟩
 rw [hsb] at HB0 HS hel ⊢
 have HSB := Lib.hid hsb
 clear hw1 hsb
 have e0 : w1.cell? ⟨ep, 0, none⟩ = some (.int .i64 0) := HE.out.cell 0
 have e1 : w1.cell? ⟨ep, 1, none⟩ = some (.slice A 1 c) := HE.out.cell 1
 have e2 : w1.cell? ⟨ep, 2, none⟩ = some (.bool true) := HE.out.cell 2
 have hel1 := HE.out.lt
 go_wp2_with (go_at_call 35; refine (HJ.out).mono ?_; rintro e w2 ⟨RA, rc, rfl, hb⟩; have HB2 := Lib.hid hb; have HS2 := Lib.hid (HS.out.below hb HS.out.lt); have t0' := HS2.out.cell 0; have t1 := HS2.out.cell 1; have t2 := HS2.out.cell 2; have t3 := HS2.out.cell 3; have t4 := HS2.out.cell 4; have t5 := HS2.out.cell 5; have t6 := HS2.out.cell 6; have u0 := HS2.out.frozen 0; have u1 := HS2.out.frozen 1; have u2 := HS2.out.frozen 2; have u3 := HS2.out.frozen 3; have u4 := HS2.out.frozen 4; have u5 := HS2.out.frozen 5; have u6 := HS2.out.frozen 6; have hl2 := HS2.out.lt; clear hb)
 obtain ⟨h7, g7⟩ := set7 HS2.out (.int .i64 0) (.int .i64 0) (.int .i64 1) (.int .i64 0) (.slice RA 1 rc) (.string ⟨#[]⟩) (.slice none 0 0)
 refine bodyPost_ret (results_cell1 rfl _ _ sb 37 (repC 0 0 1 0 (.slice RA 1 rc) (.slice none 0 0)) _ rfl (h7.alloc _) Tryz.underlying37 rfl (by kernel_rfl)) rfl ⟨RA, rc, rfl, ?_⟩
 have hl := HS.out.lt
 have hb2 := HB0.out.trans (HB2.out.mono (Nat.le_of_lt hl))
 rw [HSB.out]
 exact (hb2.grown g7 (Nat.le_of_lt hl2) (fun k hk => by injection hk with hk; omega)).alloc (by have := g7.size; omega) _
def kA : Kst := ⟨0, [xA], 0, -1, [xA].map fun x => P.mkW x.f1, List.replicate 64 0, T.zeros 1, zs 1, zs 1, List.replicate 1 ⟨[], [], 0, 0, 0, 0⟩, []⟩
theorem kA_pd (k : Nat) : pdOf kA k = false := by
 unfold pdOf kA
 simp only [T.zeros, T.getL]
 by_cases hk : k < 1
 ·obtain rfl : k = 0 := by omega
  rfl
 ·rw [List.getElem?_eq_none (by simp; omega)]
  rfl
theorem new_A {w : World} {B0 c : Nat} {A : Option Addr} {R : List Value} (hT : TasksAt w B0 (.slice A 1 c) [xA] R) (htab : Lib.TabIs Tryz.prog w "strings.asciiSpace" .u8 Lib.asciiSpaceTab) :
  Calls Tryz.prog 30 #[.agg #[.int .i64 0, .slice A 1 c]] w fun e w' => ∃ kp A' jv ev, e = .returned (.tuple #[.pointer (some ⟨kp, 0, none⟩), .int .i64 0]) ∧ KAt w.heap.size w' w.heap.size kp A' jv ev (pdOf kA) kA ∧ Below w.heap.size w w' := by
 have hS : ∀ w', Below w.heap.size w w' → Src w' A [xA] := fun w' hb => src_of (L := [xA]) (tasks_below hT hb) (by simp [xA])
 refine (new_any (L := [xA]) (c := c) (rel := 0) (by decide) (by decide) hS (fun w' hb => all_A (fun w'' hb' => hS w'' (hb.trans (hb'.mono hb.size))) (Lib.tabBelow_of_tabIs htab _ hb)) (by decide)).mono ?_
 rintro e w' ⟨kp, A', jv, ev, he, hk, hb⟩
 exact ⟨kp, A', jv, ev, he, hk.less (fun k h => by rw [kA_pd] at h; simp at h), hb⟩
set_option maxHeartbeats 8000000 in
theorem exec_start {w : World} {ep B0 c : Nat} {A : Option Addr} {R : List Value} (hE : Blk w ep 62 #[.int .i64 0, .slice A 1 c, .bool true, .pointer none]) (hT : TasksAt w B0 (.slice A 1 c) [xA] R) (hc : 1 ≤ c) (htab : Lib.TabIs Tryz.prog w "strings.asciiSpace" .u8 Lib.asciiSpaceTab) :
  Calls Tryz.prog 25 #[.pointer (some ⟨ep, 0, none⟩), .bool false] w fun e w' => ∃ RA rc B kp A' jv ev, e = .returned (.agg (repC 0 0 1 0 (.slice RA 1 rc) (.slice none 0 0))) ∧ Blk w' ep 62 #[.int .i64 0, .slice A 1 c, .bool true, .pointer (some ⟨kp, 0, none⟩)] ∧
   KAt B w' B kp A' jv ev (pdOf kA) kA ∧ ep < B ∧ w.heap.size ≤ B ∧ w.grownBy w' (some ep) := by
 have hb0 := (Below.refl w.heap.size w).alloc (Nat.le_refl _) (.cells #[.int .i64 0, .int .i64 0, .int .i64 0, .int .i64 0, .slice none 0 0, .string ⟨#[]⟩, .slice none 0 0] 37)
 have HT := Lib.hid hT
 have HTB := Lib.hid (Lib.tabBelow_of_tabIs htab)
 have HB0 := Lib.hid hb0
 have hel := hE.lt
 have HE := Lib.hid (hE.alloc (.cells #[.int .i64 0, .int .i64 0, .int .i64 0, .int .i64 0, .slice none 0 0, .string ⟨#[]⟩, .slice none 0 0] 37))
 have HS := Lib.hid (Blk.new w 37 #[.int .i64 0, .int .i64 0, .int .i64 0, .int .i64 0, .slice none 0 0, .string ⟨#[]⟩, .slice none 0 0])
 clear hb0 hT htab hE
 go_enter Tryz.func25, Tryz.ntmps25
 go_upto_region 1 with fail
 obtain ⟨w1, hw1⟩ : ∃ w1, w.alloc (.cells #[.int .i64 0, .int .i64 0, .int .i64 0, .int .i64 0, .slice none 0 0, .string ⟨#[]⟩, .slice none 0 0] 37) = w1 := ⟨_, rfl⟩
 rw [hw1] at HB0 HE HS ⊢
 obtain ⟨sb, hsb⟩ : ∃ sb, w.heap.size = sb := ⟨_, rfl⟩
 rw [hsb] at hel HS ⊢
 have HSB := Lib.hid hsb
 clear hw1 hsb
 have HI := Lib.hid (exec_idle HE.out)
 have HG := Lib.hid (fun w2 (hb : Below w1.heap.size w1 w2) => exec_judge (HE.out.below hb HE.out.lt) (tasks_below HT.out (HB0.out.trans (hb.mono HB0.out.size))) hc (HTB.out w2 (HB0.out.trans (hb.mono HB0.out.size))))
 simp only [repC] at HG
 go_upto_region 4 with (first | (go_at_call 36; refine (HI.out).mono ?_; rintro e w2 ⟨rfl, hb⟩; have HB2 := Lib.hid hb; clear hb HI) | (go_at_call 21; refine (HG.out _ HB2.out).mono ?_; rintro e w3 ⟨RA, rc, rfl, hb⟩; have HB3 := Lib.hid (HB2.out.trans (hb.mono HB2.out.size)); clear hb HG))
 have HB4 : Hid (Below w1.heap.size w1 (w3.alloc (.cells #[.int .i64 0, .int .i64 0, .int .i64 1, .int .i64 0, .slice RA 1 rc, .string ⟨#[]⟩, .slice none 0 0] 37))) := HB3.out.alloc HB3.out.size _
 have HR4 := Lib.hid (Blk.new w3 37 #[.int .i64 0, .int .i64 0, .int .i64 1, .int .i64 0, .slice RA 1 rc, .string ⟨#[]⟩, .slice none 0 0])
 have hs13 : w1.heap.size ≤ w3.heap.size := HB3.out.size
 obtain ⟨w4, hw4⟩ : ∃ w4, w3.alloc (.cells #[.int .i64 0, .int .i64 0, .int .i64 1, .int .i64 0, .slice RA 1 rc, .string ⟨#[]⟩, .slice none 0 0] 37) = w4 := ⟨_, rfl⟩
 obtain ⟨rk, hrk⟩ : ∃ rk, w3.heap.size = rk := ⟨_, rfl⟩
 rw [hw4] at HB4 HR4 ⊢
 rw [hrk] at HR4 hs13 ⊢
 clear hw4 hrk HB3 HB2
 have hsl := HS.out.lt
 have HE4 := Lib.hid (HE.out.below HB4.out HE.out.lt)
 have HS4 := Lib.hid (HS.out.below HB4.out hsl)
 have e0 : w4.cell? ⟨ep, 0, none⟩ = some (.int .i64 0) := HE4.out.cell 0
 have e1 : w4.cell? ⟨ep, 1, none⟩ = some (.slice A 1 c) := HE4.out.cell 1
 have r2 : w4.cell? ⟨rk, 2, none⟩ = some (.int .i64 1) := HR4.out.cell 2
 have hel4 := HE4.out.lt
 have hsl4 := HS4.out.lt
 have hrl4 := HR4.out.lt
 have HN := Lib.hid (new_A (tasks_below HT.out (HB0.out.trans (HB4.out.mono HB0.out.size))) (HTB.out w4 (HB0.out.trans (HB4.out.mono HB0.out.size))))
 have hse : sb ≠ ep := by omega
 have hes : ep ≠ sb := by omega
 have hre : rk ≠ ep := by omega
 have her : ep ≠ rk := by omega
 have hrs : rk ≠ sb := by omega
 have hsr : sb ≠ rk := by omega
 go_upto_region 8 with (go_at_call 30; refine (HN.out).mono ?_; rintro e w5 ⟨kp, A', jv, ev, rfl, hK, hb⟩; have HK := Lib.hid hK; have HB5 := Lib.hid hb; have HE5 := Lib.hid (HE4.out.below hb hel4); have x3 := HE5.out.cell 3; have k3 := HE5.out.frozen 3; have hel5 := HE5.out.lt; clear hK hb HN)
 have HS5 := Lib.hid ((HS4.out.below HB5.out hsl4).far (p := ⟨ep, 3, none⟩) hse (.pointer (some ⟨kp, 0, none⟩)))
 have HR5 := Lib.hid ((HR4.out.below HB5.out hrl4).far (p := ⟨ep, 3, none⟩) hre (.pointer (some ⟨kp, 0, none⟩)))
 have HE6 := Lib.hid (HE5.out.set_ 3 (.pointer (some ⟨kp, 0, none⟩)))
 have HK6 := Lib.hid (HK.out.fr (E := w4.heap.size) (ts := [62]) (C := 0) (Fr.of_blk (only_setCell (World.grownBy.refl w5 (some ep)) (p := ⟨ep, 3, none⟩) (.inl rfl) (.pointer (some ⟨kp, 0, none⟩))) HE5.out (Nat.zero_le _) (by simp)) (by decide))
 have HG6 : Hid (w.grownBy (w5.setCell ⟨ep, 3, none⟩ (.pointer (some ⟨kp, 0, none⟩))) (some ep)) := only_setCell (only_of_below (HB0.out.trans ((HB4.out.trans (HB5.out.mono HB4.out.size)).mono HB0.out.size)) _) (p := ⟨ep, 3, none⟩) (.inl rfl) _
 obtain ⟨w6, hw6⟩ : ∃ w6, w5.setCell ⟨ep, 3, none⟩ (.pointer (some ⟨kp, 0, none⟩)) = w6 := ⟨_, rfl⟩
 rw [hw6] at HS5 HR5 HE6 HK6 HG6 ⊢
 clear hw6
 have r0 := HR5.out.cell 0
 have r1 := HR5.out.cell 1
 have r2' := HR5.out.cell 2
 have r3 := HR5.out.cell 3
 have r4 := HR5.out.cell 4
 have r5 := HR5.out.cell 5
 have r6 := HR5.out.cell 6
 have t0' := HS5.out.cell 0
 have t1 := HS5.out.cell 1
 have t2 := HS5.out.cell 2
 have t3 := HS5.out.cell 3
 have t4 := HS5.out.cell 4
 have t5 := HS5.out.cell 5
 have t6 := HS5.out.cell 6
 have u0 := HS5.out.frozen 0
 have u1 := HS5.out.frozen 1
 have u2 := HS5.out.frozen 2
 have u3 := HS5.out.frozen 3
 have u4 := HS5.out.frozen 4
 have u5 := HS5.out.frozen 5
 have u6 := HS5.out.frozen 6
 simp at r0 r1 r2' r3 r4 r5 r6 t0' t1 t2 t3 t4 t5 t6; go_wp2
 obtain ⟨h7, g7⟩ := set7 HS5.out (.int .i64 0) (.int .i64 0) (.int .i64 1) (.int .i64 0) (.slice RA 1 rc) (.string ⟨#[]⟩) (.slice none 0 0)
 refine bodyPost_ret (results_cell1 rfl _ _ sb 37 (repC 0 0 1 0 (.slice RA 1 rc) (.slice none 0 0)) _ rfl h7 Tryz.underlying37 rfl (by kernel_rfl)) rfl ⟨RA, rc, w4.heap.size, kp, A', jv, ev, rfl, HE6.out.grown g7 (by simpa using hes), ?_, hel4, ?_, ?_⟩
 ·exact HK6.out.fr (E := w4.heap.size) (ts := [37]) (C := 0) (Fr.of_blk g7 HS5.out (Nat.zero_le _) (by simp)) (by decide)
 ·have := HB0.out.size
  have := HB4.out.size
  omega
 ·have hws : w.heap.size ≤ sb := Nat.le_of_eq HSB.out
  exact only_setCell (only_setCell (only_setCell (only_setCell (only_setCell (only_setCell (only_setCell HG6.out (p := ⟨sb, 0, none⟩) (.inr hws) _) (p := ⟨sb, 1, none⟩) (.inr hws) _) (p := ⟨sb, 2, none⟩) (.inr hws) _) (p := ⟨sb, 3, none⟩) (.inr hws) _) (p := ⟨sb, 4, none⟩) (.inr hws) _) (p := ⟨sb, 5, none⟩) (.inr hws) _) (p := ⟨sb, 6, none⟩) (.inr hws) _
theorem grown_trans {a b c : World} {row : Option Nat} (h : a.grownBy b row) (h' : b.grownBy c row) : a.grownBy c row := ⟨h'.os.trans h.os, h'.tape.trans h.tape, h'.output.trans h.output, Nat.le_trans h.size h'.size, fun i hi hne => (h'.block i (Nat.lt_of_lt_of_le hi h.size) hne).trans (h.block i hi hne)⟩
set_option maxHeartbeats 8000000 in
theorem do_load {w : World} {ep : Nat} {r0 : Int} {t0 : Value} {b0 fb : Bool} {s : ByteArray} (hT : SetTextP s 0 [xA]) (htab : Lib.TabIs Tryz.prog w "strings.asciiSpace" .u8 Lib.asciiSpaceTab) (hE : Blk w ep 62 #[.int .i64 r0, t0, .bool b0, .pointer none]) :
  Calls Tryz.prog 10 #[.pointer (some ⟨ep, 0, none⟩), .agg #[.int .i64 1, .string s, .bool fb, .slice none 0 0]] w fun e w' => ∃ TA tc R, e = .returned (.agg (repC 0 s.size 0 0 (.slice none 0 0) (.slice none 0 0))) ∧ TasksAt w' w.heap.size (.slice TA 1 tc) [xA] R ∧ Blk w' ep 62 #[.int .i64 0, .slice TA 1 tc, .bool true, .pointer none] ∧ w.grownBy w' (some ep) := by
 have hb0 := ((Below.refl w.heap.size w).alloc (Nat.le_refl _) (.cells #[.int .i64 1, .string s, .bool fb, .slice none 0 0] 40)).alloc (by simp) (.cells #[.int .i64 0, .int .i64 0, .int .i64 0, .int .i64 0, .slice none 0 0, .string ⟨#[]⟩, .slice none 0 0] 37)
 have HB0 := Lib.hid hb0
 have hel := hE.lt
 have HE := Lib.hid ((hE.alloc (.cells #[.int .i64 1, .string s, .bool fb, .slice none 0 0] 40)).alloc (.cells #[.int .i64 0, .int .i64 0, .int .i64 0, .int .i64 0, .slice none 0 0, .string ⟨#[]⟩, .slice none 0 0] 37))
 have HP := Lib.hid (exec_load hT (Lib.tabBelow_of_tabIs htab _ hb0) (by decide) (by decide) (by decide) (by decide) (fun i x hx => by
  obtain ⟨hi, rfl⟩ := List.getElem?_eq_some_iff.1 hx
  obtain rfl : i = 0 := by simp at hi; omega
  exact okA) (fun i j x y hij hx hy => by
  have h1 := (List.getElem?_eq_some_iff.1 hx).1
  have h2 := (List.getElem?_eq_some_iff.1 hy).1
  simp at h1 h2
  omega) HE.out)
 simp only [repC] at HP
 clear hb0 hT htab hE
 have HC := Lib.hid ((Blk.new w 40 #[.int .i64 1, .string s, .bool fb, .slice none 0 0]).alloc (.cells #[.int .i64 0, .int .i64 0, .int .i64 0, .int .i64 0, .slice none 0 0, .string ⟨#[]⟩, .slice none 0 0] 37))
 have HS := Blk.new (w.alloc (.cells #[.int .i64 1, .string s, .bool fb, .slice none 0 0] 40)) 37 #[.int .i64 0, .int .i64 0, .int .i64 0, .int .i64 0, .slice none 0 0, .string ⟨#[]⟩, .slice none 0 0]
 rw [show (w.alloc (.cells #[.int .i64 1, .string s, .bool fb, .slice none 0 0] 40)).heap.size = w.heap.size + 1 from by simp] at HS
 have HS := Lib.hid HS
 obtain ⟨cb, hcb⟩ : ∃ cb, w.heap.size = cb := ⟨_, rfl⟩
 have HCB := Lib.hid hcb
 go_enter Tryz.func10, Tryz.ntmps10
 go_upto_region 1 with fail
 obtain ⟨w1, hw1⟩ : ∃ w1, (w.alloc (.cells #[.int .i64 1, .string s, .bool fb, .slice none 0 0] 40)).alloc (.cells #[.int .i64 0, .int .i64 0, .int .i64 0, .int .i64 0, .slice none 0 0, .string ⟨#[]⟩, .slice none 0 0] 37) = w1 := ⟨_, rfl⟩
 rw [HCB.out] at HS HC
 obtain ⟨sb, hsb⟩ : ∃ sb, cb + 1 = sb := ⟨_, rfl⟩
 rw [hw1] at HB0 HC HS HP HE ⊢
 rw [hsb] at HS ⊢
 have HSB := Lib.hid hsb
 clear hw1
 have c0 := HC.out.cell 0
 have c1 := HC.out.cell 1
 have c2 := HC.out.cell 2
 have c3 := HC.out.cell 3
 simp at c0 c1 c2 c3
 have hcl := HC.out.lt
 have hsl := HS.out.lt
 have hse : sb ≠ ep := by omega
 have hes : ep ≠ sb := by omega
 clear hsb hcb
 go_wp2_with (go_at_call 20; refine (HP.out).mono ?_; rintro e w2 ⟨TA, tc, R, rfl, hTs, hE2, hg⟩; have HTs := Lib.hid hTs; have HE2 := Lib.hid hE2; have HG := Lib.hid hg; have HS2 := Lib.hid (HS.out.grown hg (by simpa using hse)); have hl2 := HS2.out.lt; clear hTs hE2 hg; have t0' := HS2.out.cell 0; have t1 := HS2.out.cell 1; have t2 := HS2.out.cell 2; have t3 := HS2.out.cell 3; have t4 := HS2.out.cell 4; have t5 := HS2.out.cell 5; have t6 := HS2.out.cell 6; have u0 := HS2.out.frozen 0; have u1 := HS2.out.frozen 1; have u2 := HS2.out.frozen 2; have u3 := HS2.out.frozen 3; have u4 := HS2.out.frozen 4; have u5 := HS2.out.frozen 5; have u6 := HS2.out.frozen 6)
 obtain ⟨h7, g7⟩ := set7 HS2.out (.int .i64 0) (.int .i64 s.size) (.int .i64 0) (.int .i64 0) (.slice none 0 0) (.string ⟨#[]⟩) (.slice none 0 0)
 have hws : w.heap.size ≤ sb := by rw [HCB.out, ← HSB.out]; exact Nat.le_succ _
 refine bodyPost_ret (results_cell1 rfl _ _ sb 37 (repC 0 s.size 0 0 (.slice none 0 0) (.slice none 0 0)) _ rfl h7 Tryz.underlying37 rfl (by kernel_rfl)) rfl ⟨TA, tc, R, rfl, tasks_mono (HTs.out.fr (E := 0) (ts := [37]) (C := 0) (Fr.of_blk g7 HS2.out (Nat.zero_le _) (by simp)) (by decide) (by decide)) HB0.out.size, HE2.out.grown g7 (by simpa using hes), ?_⟩
 have HG0 := Lib.hid (grown_trans (only_of_below HB0.out (some ep)) HG.out)
 exact only_setCell (only_setCell (only_setCell (only_setCell (only_setCell (only_setCell (only_setCell HG0.out (p := ⟨sb, 0, none⟩) (.inr hws) _) (p := ⟨sb, 1, none⟩) (.inr hws) _) (p := ⟨sb, 2, none⟩) (.inr hws) _) (p := ⟨sb, 3, none⟩) (.inr hws) _) (p := ⟨sb, 4, none⟩) (.inr hws) _) (p := ⟨sb, 5, none⟩) (.inr hws) _) (p := ⟨sb, 6, none⟩) (.inr hws) _
set_option maxHeartbeats 8000000 in
theorem do_start {w : World} {ep B0 c : Nat} {A : Option Addr} {R : List Value} (hE0 : Blk w ep 62 #[.int .i64 0, .slice A 1 c, .bool true, .pointer none]) (hT : TasksAt w B0 (.slice A 1 c) [xA] R) (hc : 1 ≤ c) (htab : Lib.TabIs Tryz.prog w "strings.asciiSpace" .u8 Lib.asciiSpaceTab) :
  Calls Tryz.prog 10 #[.pointer (some ⟨ep, 0, none⟩), .agg #[.int .i64 5, .string ⟨#[]⟩, .bool false, .slice none 0 0]] w fun e w' => ∃ RA rc B kp A' jv ev, e = .returned (.agg (repC 0 0 1 0 (.slice RA 1 rc) (.slice none 0 0))) ∧ Blk w' ep 62 #[.int .i64 0, .slice A 1 c, .bool true, .pointer (some ⟨kp, 0, none⟩)] ∧ KAt B w' B kp A' jv ev (pdOf kA) kA ∧ ep < B ∧ w.heap.size ≤ B ∧ w.grownBy w' (some ep) := by
 have hb0 := ((Below.refl w.heap.size w).alloc (Nat.le_refl _) (.cells #[.int .i64 5, .string ⟨#[]⟩, .bool false, .slice none 0 0] 40)).alloc (by simp) (.cells #[.int .i64 0, .int .i64 0, .int .i64 0, .int .i64 0, .slice none 0 0, .string ⟨#[]⟩, .slice none 0 0] 37)
 have HB0 := Lib.hid hb0
 have hel := hE0.lt
 have HE := Lib.hid ((hE0.alloc (.cells #[.int .i64 5, .string ⟨#[]⟩, .bool false, .slice none 0 0] 40)).alloc (.cells #[.int .i64 0, .int .i64 0, .int .i64 0, .int .i64 0, .slice none 0 0, .string ⟨#[]⟩, .slice none 0 0] 37))
 have HP := Lib.hid (exec_start HE.out (tasks_below hT hb0) hc (Lib.tabBelow_of_tabIs htab _ hb0))
 simp only [repC] at HP
 clear hb0 hT htab hE0
 have HC := Lib.hid ((Blk.new w 40 #[.int .i64 5, .string ⟨#[]⟩, .bool false, .slice none 0 0]).alloc (.cells #[.int .i64 0, .int .i64 0, .int .i64 0, .int .i64 0, .slice none 0 0, .string ⟨#[]⟩, .slice none 0 0] 37))
 have HS := Blk.new (w.alloc (.cells #[.int .i64 5, .string ⟨#[]⟩, .bool false, .slice none 0 0] 40)) 37 #[.int .i64 0, .int .i64 0, .int .i64 0, .int .i64 0, .slice none 0 0, .string ⟨#[]⟩, .slice none 0 0]
 rw [show (w.alloc (.cells #[.int .i64 5, .string ⟨#[]⟩, .bool false, .slice none 0 0] 40)).heap.size = w.heap.size + 1 from by simp] at HS
 have HS := Lib.hid HS
 obtain ⟨cb, hcb⟩ : ∃ cb, w.heap.size = cb := ⟨_, rfl⟩
 have HCB := Lib.hid hcb
 go_enter Tryz.func10, Tryz.ntmps10
 go_upto_region 1 with fail
 obtain ⟨w1, hw1⟩ : ∃ w1, (w.alloc (.cells #[.int .i64 5, .string ⟨#[]⟩, .bool false, .slice none 0 0] 40)).alloc (.cells #[.int .i64 0, .int .i64 0, .int .i64 0, .int .i64 0, .slice none 0 0, .string ⟨#[]⟩, .slice none 0 0] 37) = w1 := ⟨_, rfl⟩
 rw [HCB.out] at HS HC
 obtain ⟨sb, hsb⟩ : ∃ sb, cb + 1 = sb := ⟨_, rfl⟩
 rw [hw1] at HB0 HC HS HP HE ⊢
 rw [hsb] at HS ⊢
 have HSB := Lib.hid hsb
 clear hw1
 have c0 := HC.out.cell 0
 have c1 := HC.out.cell 1
 have c2 := HC.out.cell 2
 have c3 := HC.out.cell 3
 simp at c0 c1 c2 c3
 have hcl := HC.out.lt
 have hsl := HS.out.lt
 have hse : sb ≠ ep := by omega
 have hes : ep ≠ sb := by omega
 clear hsb hcb
 go_wp2_with (go_at_call 25; refine (HP.out).mono ?_; rintro e w2 ⟨RA, rc, B, kp, A', jv, ev, rfl, hE2, hK, heB, hwB, hg⟩; have HE2 := Lib.hid hE2; have HK := Lib.hid hK; have HWB := Lib.hid hwB; have HG := Lib.hid hg; have HS2 := Lib.hid (HS.out.grown hg (by simpa using hse)); have hl2 := HS2.out.lt; clear hE2 hg hK hwB; have t0' := HS2.out.cell 0; have t1 := HS2.out.cell 1; have t2 := HS2.out.cell 2; have t3 := HS2.out.cell 3; have t4 := HS2.out.cell 4; have t5 := HS2.out.cell 5; have t6 := HS2.out.cell 6; have u0 := HS2.out.frozen 0; have u1 := HS2.out.frozen 1; have u2 := HS2.out.frozen 2; have u3 := HS2.out.frozen 3; have u4 := HS2.out.frozen 4; have u5 := HS2.out.frozen 5; have u6 := HS2.out.frozen 6)
 obtain ⟨h7, g7⟩ := set7 HS2.out (.int .i64 0) (.int .i64 0) (.int .i64 1) (.int .i64 0) (.slice RA 1 rc) (.string ⟨#[]⟩) (.slice none 0 0)
 have hws : w.heap.size ≤ sb := by rw [HCB.out, ← HSB.out]; exact Nat.le_succ _
 refine bodyPost_ret (results_cell1 rfl _ _ sb 37 (repC 0 0 1 0 (.slice RA 1 rc) (.slice none 0 0)) _ rfl h7 Tryz.underlying37 rfl (by kernel_rfl)) rfl ⟨RA, rc, B, kp, A', jv, ev, rfl, HE2.out.grown g7 (by simpa using hes), HK.out.fr (E := B) (ts := [37]) (C := 0) (Fr.of_blk g7 HS2.out (Nat.zero_le _) (by simp)) (by decide), heB, Nat.le_trans HB0.out.size HWB.out, ?_⟩
 have HG0 := Lib.hid (grown_trans (only_of_below HB0.out (some ep)) HG.out)
 exact only_setCell (only_setCell (only_setCell (only_setCell (only_setCell (only_setCell (only_setCell HG0.out (p := ⟨sb, 0, none⟩) (.inr hws) _) (p := ⟨sb, 1, none⟩) (.inr hws) _) (p := ⟨sb, 2, none⟩) (.inr hws) _) (p := ⟨sb, 3, none⟩) (.inr hws) _) (p := ⟨sb, 4, none⟩) (.inr hws) _) (p := ⟨sb, 5, none⟩) (.inr hws) _) (p := ⟨sb, 6, none⟩) (.inr hws) _
set_option maxHeartbeats 8000000 in
theorem do_ticks {w : World} {ep B kp E0 : Nat} {A : Ad} {jv : List Value} {ev rv tv : Value} {IA : Option Addr} {ic : Nat} {l : List S57} {K0 : Kst} {stepF : Kst → S57 → Kst} {Inv : Nat → Kst → Prop} (hl : l.length ≤ 400) (hE0 : Blk w ep 62 #[rv, tv, .bool true, .pointer (some ⟨kp, 0, none⟩)]) (hep : ep < B) (hBw : B ≤ w.heap.size) (hK : KAt E0 w B kp A jv ev (pdOf K0) K0) (hI : ∀ w1, Below w.heap.size w w1 → InsP (fun w2 => Fr w1.heap.size TS B w1 w2) IA l) (h0 : Inv 0 K0) (hst : ∀ w1, Below w.heap.size w w1 → Steps w1 B l stepF Inv) :
  Calls Tryz.prog 10 #[.pointer (some ⟨ep, 0, none⟩), .agg #[.int .i64 6, .string ⟨#[]⟩, .bool false, .slice IA l.length ic]] w fun e w' => ∃ v, e = .returned (.agg (rep0 v)) ∧ w'.ownsRow w.heap.size 50 4 v (runE stepF K0 l).length (evs (runE stepF K0 l)) ∧ Below B w w' := by
 have hb0 := ((Below.refl w.heap.size w).alloc (Nat.le_refl _) (.cells #[.int .i64 6, .string ⟨#[]⟩, .bool false, .slice IA l.length ic] 40)).alloc (by simp) (.cells #[.int .i64 0, .int .i64 0, .int .i64 0, .int .i64 0, .slice none 0 0, .string ⟨#[]⟩, .slice none 0 0] 37)
 have HB0 := Lib.hid hb0
 have hel := hE0.lt
 have HE := Lib.hid ((hE0.alloc (.cells #[.int .i64 6, .string ⟨#[]⟩, .bool false, .slice IA l.length ic] 40)).alloc (.cells #[.int .i64 0, .int .i64 0, .int .i64 0, .int .i64 0, .slice none 0 0, .string ⟨#[]⟩, .slice none 0 0] 37))
 have HP := Lib.hid (ticks_any (ic := ic) hl HE.out hep (Nat.le_trans hBw hb0.size) (hK.fr (E := E0) (ts := []) (C := 0) (Fr.of_below hb0) (by simp)) (hI _ hb0) h0 (hst _ hb0))
 simp only [rep0] at HP
 obtain ⟨ln, hln⟩ : ∃ ln, l.length = ln := ⟨_, rfl⟩
 have HLN := Lib.hid hln
 rw [hln] at HP HB0 HE ⊢
 clear hb0 hI h0 hst hK hE0 hl hln
 have HC := Lib.hid ((Blk.new w 40 #[.int .i64 6, .string ⟨#[]⟩, .bool false, .slice IA ln ic]).alloc (.cells #[.int .i64 0, .int .i64 0, .int .i64 0, .int .i64 0, .slice none 0 0, .string ⟨#[]⟩, .slice none 0 0] 37))
 have HS := Blk.new (w.alloc (.cells #[.int .i64 6, .string ⟨#[]⟩, .bool false, .slice IA ln ic] 40)) 37 #[.int .i64 0, .int .i64 0, .int .i64 0, .int .i64 0, .slice none 0 0, .string ⟨#[]⟩, .slice none 0 0]
 rw [show (w.alloc (.cells #[.int .i64 6, .string ⟨#[]⟩, .bool false, .slice IA ln ic] 40)).heap.size = w.heap.size + 1 from by simp] at HS
 have HS := Lib.hid HS
 obtain ⟨cb, hcb⟩ : ∃ cb, w.heap.size = cb := ⟨_, rfl⟩
 have HCB := Lib.hid hcb
 go_enter Tryz.func10, Tryz.ntmps10
 go_upto_region 1 with fail
 obtain ⟨w1, hw1⟩ : ∃ w1, (w.alloc (.cells #[.int .i64 6, .string ⟨#[]⟩, .bool false, .slice IA ln ic] 40)).alloc (.cells #[.int .i64 0, .int .i64 0, .int .i64 0, .int .i64 0, .slice none 0 0, .string ⟨#[]⟩, .slice none 0 0] 37) = w1 := ⟨_, rfl⟩
 rw [HCB.out] at HS HC
 obtain ⟨sb, hsb⟩ : ∃ sb, cb + 1 = sb := ⟨_, rfl⟩
 rw [hw1] at HB0 HC HS HP HE ⊢
 rw [hsb] at HS ⊢
 have HSB := Lib.hid hsb
 clear hw1
 have c0 := HC.out.cell 0
 have c1 := HC.out.cell 1
 have c2 := HC.out.cell 2
 have c3 := HC.out.cell 3
 simp at c0 c1 c2 c3
 have hcl := HC.out.lt
 have hsl := HS.out.lt
 have hse : sb ≠ ep := by omega
 have hes : ep ≠ sb := by omega
 clear hsb hcb
 go_wp2_with (go_at_call 26; refine (HP.out).mono ?_; rintro e w2 ⟨v, rfl, hown, hf, _⟩; obtain ⟨VA, vc, rfl⟩ := own_slice hown; have HO := Lib.hid hown; have HF := Lib.hid hf; have HS2 := Lib.hid (HS.out.fr hf (by decide)); have hl2 := HS2.out.lt; clear hown hf; have t0' := HS2.out.cell 0; have t1 := HS2.out.cell 1; have t2 := HS2.out.cell 2; have t3 := HS2.out.cell 3; have t4 := HS2.out.cell 4; have t5 := HS2.out.cell 5; have t6 := HS2.out.cell 6; have u0 := HS2.out.frozen 0; have u1 := HS2.out.frozen 1; have u2 := HS2.out.frozen 2; have u3 := HS2.out.frozen 3; have u4 := HS2.out.frozen 4; have u5 := HS2.out.frozen 5; have u6 := HS2.out.frozen 6)
 obtain ⟨h7, g7⟩ := set7 HS2.out (.int .i64 0) (.int .i64 0) (.int .i64 0) (.int .i64 0) (.slice none 0 0) (.string ⟨#[]⟩) (.slice VA (runE stepF K0 l).length vc)
 have hws : w.heap.size ≤ sb := by rw [HCB.out, ← HSB.out]; exact Nat.le_succ _
 refine bodyPost_ret (results_cell1 rfl _ _ sb 37 (rep0 (.slice VA (runE stepF K0 l).length vc)) _ rfl h7 Tryz.underlying37 rfl (by kernel_rfl)) rfl ⟨_, rfl, own_mono (own_fr (E := 0) (ts := [37]) (B := 0) HO.out (Fr.of_blk g7 HS2.out (Nat.zero_le _) (by simp)) (by decide)) HB0.out.size, ?_⟩
 exact ((HB0.out.mono hBw).trans (HF.out.below (Nat.le_refl _) (Nat.le_trans hBw HB0.out.size))).grown g7 (Nat.le_trans (Nat.le_trans hBw HB0.out.size) HF.out.size) (fun k hk => by injection hk with hk; omega)
def txt : ByteArray := ⟨#[114, 101, 108, 111, 97, 100, 32, 48, 59, 32, 116, 97, 115, 107, 32, 97, 32, 112, 101, 114, 105, 111, 100, 32, 53, 32, 100, 101, 97, 100, 108, 105, 110, 101, 32, 53, 32, 102, 105, 120, 101, 100, 32, 114, 101, 103, 105, 111, 110, 115, 32, 50, 59]⟩
def tsA : List T4 := [⟨3, sTask, 0, 10⟩, ⟨1, ⟨#[97]⟩, 0, 15⟩, ⟨3, sPeriod, 0, 17⟩, ⟨2, ⟨#[]⟩, 5, 24⟩, ⟨3, sDeadline, 0, 26⟩, ⟨2, ⟨#[]⟩, 5, 35⟩, ⟨3, ⟨#[102, 105, 120, 101, 100]⟩, 0, 37⟩, ⟨3, sRegions, 0, 43⟩, ⟨2, ⟨#[]⟩, 2, 51⟩, ⟨3, sSemi, 0, 52⟩]
theorem tok_txt : tokens txt = (⟨3, sReload, 0, 0⟩ :: ⟨2, ⟨#[]⟩, 0, 7⟩ :: ⟨3, sSemi, 0, 8⟩ :: (tsA ++ [⟨4, ⟨#[]⟩, 0, 53⟩]), txt.size, 0) := by kernel_rfl
theorem set_txt : SetTextP txt 0 [xA] := by
 refine ⟨by decide, _, _, _, tsA, _, tok_txt, by kernel_rfl, rfl, rfl, by kernel_rfl, ?_, rfl, by decide⟩
 have h : TaskP tsA xA := ⟨⟨_, _, _, _, _, _, [⟨3, ⟨#[102, 105, 120, 101, 100]⟩, 0, 37⟩], _, [⟨2, ⟨#[]⟩, 2, 51⟩], [], [], _, 0, 0, 0, 0, 0, rfl, by kernel_rfl, rfl, by kernel_rfl, rfl, by kernel_rfl, rfl, .fixed _ (by kernel_rfl), by kernel_rfl, by simp, by simp, .none, .none, by kernel_rfl, rfl⟩⟩
 have := TasksP.cons tsA [] xA [] h .nil
 rwa [List.append_nil] at this
def inA : List S57 := [⟨1, [[2]], 0⟩, ⟨0, [], 0⟩]
theorem evs_A : runE oneF kA inA = [⟨0, 1, 0, 0⟩, ⟨0, 4, 0, 0⟩, ⟨1, 7, 0, 0⟩, ⟨1, 8, 0, 2⟩] := by kernel_rfl
theorem field37 (a b c d e f g : Value) (w : World) : (Instr.field 37 (.agg #[a, b, c, d, e, f, g]) 0).run Tryz.prog w = .ok a w := by kernel_rfl
theorem own_cap {w : World} {base e size n c : Nat} {A : Option Addr} {xs : List Value} (h : w.ownsRow base e size (.slice A n c) n xs) : n ≤ c := by
 rcases h.2 with ⟨h1, h2⟩ | ⟨g, c', cur, h1, _, _, hn, _⟩
 ·omega
 ·injection h1 with _ _ h3
  omega
theorem taskA : TaskB xA := ⟨by decide, by decide, fun i h => by
 obtain rfl : i = 0 := by simp [xA] at h; omega
 simp [xA], by decide, by decide, by decide, by decide⟩
theorem ins_A {w3 w1 : World} (B : Nat) (hb : Below (w3.heap.size + 3) (((w3.alloc (.cells #[.int .i64 2] 2)).alloc (.cells #[.slice (some ⟨w3.heap.size, 0, none⟩) 1 1] 32)).alloc (.cells #[.int .u64 1, .slice (some ⟨w3.heap.size + 1, 0, none⟩) 1 1, .int .u64 0, .int .u64 0, .slice none 0 0, .int .u64 0] 57)) w1) :
  InsP (fun w2 => Fr w1.heap.size TS B w1 w2) (some ⟨w3.heap.size + 1 + 1, 0, none⟩) inA := by
 have b0 := ((Blk.new w3 2 #[.int .i64 2]).alloc (.cells #[.slice (some ⟨w3.heap.size, 0, none⟩) 1 1] 32)).alloc (.cells #[.int .u64 1, .slice (some ⟨w3.heap.size + 1, 0, none⟩) 1 1, .int .u64 0, .int .u64 0, .slice none 0 0, .int .u64 0] 57)
 have b1 := (Blk.new (w3.alloc (.cells #[.int .i64 2] 2)) 32 #[.slice (some ⟨w3.heap.size, 0, none⟩) 1 1]).alloc (.cells #[.int .u64 1, .slice (some ⟨w3.heap.size + 1, 0, none⟩) 1 1, .int .u64 0, .int .u64 0, .slice none 0 0, .int .u64 0] 57)
 have b2 := Blk.new ((w3.alloc (.cells #[.int .i64 2] 2)).alloc (.cells #[.slice (some ⟨w3.heap.size, 0, none⟩) 1 1] 32)) 57 #[.int .u64 1, .slice (some ⟨w3.heap.size + 1, 0, none⟩) 1 1, .int .u64 0, .int .u64 0, .slice none 0 0, .int .u64 0]
 rw [show (w3.alloc (.cells #[.int .i64 2] 2)).heap.size = w3.heap.size + 1 from by simp] at b1
 rw [show ((w3.alloc (.cells #[.int .i64 2] 2)).alloc (.cells #[.slice (some ⟨w3.heap.size, 0, none⟩) 1 1] 32)).heap.size = w3.heap.size + 1 + 1 from by simp] at b2
 have c0 := b0.below hb (by omega)
 have c1 := b1.below hb (by omega)
 have c2 := b2.below hb (by omega)
 refine .inr ⟨w3.heap.size + 1 + 1, 0, rfl, fun i x hx => ?_⟩
 match i, hx with
 | 0, hx =>
  obtain rfl : x = ⟨1, [[2]], 0⟩ := by simpa [inA] using hx.symm
  refine ⟨some ⟨w3.heap.size + 1, 0, none⟩, 1, fun w2 hf => ?_⟩
  have d0 := c0.fr hf (by decide)
  have d1 := c1.fr hf (by decide)
  have d2 := c2.fr hf (by decide)
  refine ⟨d2.cell 0, d2.cell 1, d2.cell 2, .inr ⟨_, 0, rfl, fun i h => ?_⟩⟩
  obtain rfl : i = 0 := by simp at h; omega
  refine ⟨some ⟨w3.heap.size, 0, none⟩, 1, d1.cell 0, .inr ⟨_, 0, rfl, d0.lt, fun i h => ?_⟩⟩
  obtain rfl : i = 0 := by simp at h; omega
  exact d0.cell 0
 | 1, hx =>
  obtain rfl : x = ⟨0, [], 0⟩ := by simpa [inA] using hx.symm
  refine ⟨none, 0, fun w2 hf => ?_⟩
  have d2 := c2.fr hf (by decide)
  exact ⟨d2.cell 3, d2.cell 4, d2.cell 5, .inl rfl⟩
 | i + 2, hx => simp [inA] at hx
theorem ticks_A {w3 : World} {ep B kp tc : Nat} {A : Ad} {jv : List Value} {ev : Value} {TA : Option Addr} (hE : Blk w3 ep 62 #[.int .i64 0, .slice TA 1 tc, .bool true, .pointer (some ⟨kp, 0, none⟩)]) (hK : KAt B w3 B kp A jv ev (pdOf kA) kA) (hep : ep < B) (hT : DeB w3) (hB0 : 0 < B) :
  Calls Tryz.prog 10 #[.pointer (some ⟨ep, 0, none⟩), .agg #[.int .i64 6, .string ⟨#[]⟩, .bool false, .slice (some ⟨w3.heap.size + 1 + 1, 0, none⟩) 2 2]]
   (((w3.alloc (.cells #[.int .i64 2] 2)).alloc (.cells #[.slice (some ⟨w3.heap.size, 0, none⟩) 1 1] 32)).alloc (.cells #[.int .u64 1, .slice (some ⟨w3.heap.size + 1, 0, none⟩) 1 1, .int .u64 0, .int .u64 0, .slice none 0 0, .int .u64 0] 57))
   fun e w' => ∃ g c, e = .returned (.agg (rep0 (.slice (some ⟨g, 0, none⟩) 4 c))) ∧ g < w'.heap.size ∧ w'.cell? ⟨g, 13, none⟩ = some (.int .i64 8) ∧ w'.cell? ⟨g, 15, none⟩ = some (.int .i64 2) ∧ Below B w3 w' := by
 have hb : Below w3.heap.size w3 (((w3.alloc (.cells #[.int .i64 2] 2)).alloc (.cells #[.slice (some ⟨w3.heap.size, 0, none⟩) 1 1] 32)).alloc (.cells #[.int .u64 1, .slice (some ⟨w3.heap.size + 1, 0, none⟩) 1 1, .int .u64 0, .int .u64 0, .slice none 0 0, .int .u64 0] 57)) := (((Below.refl w3.heap.size w3).alloc (Nat.le_refl _) _).alloc (by simp) _).alloc (by simp; omega) _
 have hs : (((w3.alloc (.cells #[.int .i64 2] 2)).alloc (.cells #[.slice (some ⟨w3.heap.size, 0, none⟩) 1 1] 32)).alloc (.cells #[.int .u64 1, .slice (some ⟨w3.heap.size + 1, 0, none⟩) 1 1, .int .u64 0, .int .u64 0, .slice none 0 0, .int .u64 0] 57)).heap.size = w3.heap.size + 3 := by simp
 have hI := ins_A (w3 := w3) (w1 := w3) B
 generalize hw4 : (((w3.alloc (.cells #[.int .i64 2] 2)).alloc (.cells #[.slice (some ⟨w3.heap.size, 0, none⟩) 1 1] 32)).alloc (.cells #[.int .u64 1, .slice (some ⟨w3.heap.size + 1, 0, none⟩) 1 1, .int .u64 0, .int .u64 0, .slice none 0 0, .int .u64 0] 57)) = w4 at hb hs ⊢
 have hB3 : B ≤ w3.heap.size := hK.eh
 have h3 : 0 < w3.heap.size := by omega
 refine (do_ticks (l := inA) (IA := some ⟨w3.heap.size + 1 + 1, 0, none⟩) (ic := 2) (stepF := oneF) (Inv := InvO xA) (by decide) (hE.below hb hE.lt) hep (by omega) (hK.fr (E := B) (ts := []) (C := 0) (Fr.of_below hb) (by simp)) (fun w1 hb1 => ?_) (one_begin 0 5) (fun w1 hb1 => ?_)).mono ?_
 ·rw [hs] at hb1
  rw [← hw4] at hb1
  exact ins_A B hb1
 ·refine one_steps taskA (by decide) (fun u hu => ?_) (by have := hb1.size; omega) hB0 ((hT.below h3 hb).below (by omega) hb1)
  rcases (show u = ⟨1, [[2]], 0⟩ ∨ u = ⟨0, [], 0⟩ from by simpa [inA] using hu) with rfl | rfl
  ·exact ⟨by decide, by decide, by decide⟩
  ·exact ⟨by decide, by decide, by decide⟩
 ·rintro e w' ⟨v, rfl, hown, hbB⟩
  rw [evs_A] at hown
  obtain ⟨g, c, cs, rfl, _, _, hB, hC⟩ := own_cells' hown (by decide)
  exact ⟨g, c, rfl, hB.lt, (hB.cell 13).trans (hC 13 (by decide)), (hB.cell 15).trans (hC 15 (by decide)), (hb.mono hB3).trans hbB⟩
set_option maxHeartbeats 16000000 in
theorem known_any (w : World) (htab : Lib.TabIs Tryz.prog w "strings.asciiSpace" .u8 Lib.asciiSpaceTab) (hT : DeB w) (h0 : 0 < w.heap.size) :
  Calls Tryz.prog 12 #[] w fun e w' => e = .returned (.bool true) ∧ Below w.heap.size w w' := by
 have HTB := Lib.hid (Lib.tabBelow_of_tabIs htab)
 have HDB := Lib.hid (fun (w' : World) (hb : Below w.heap.size w w') => hT.below h0 hb)
 have HN := Lib.hid (exec_new w)
 have q := field37
 clear htab hT
 go_enter Tryz.func12, Tryz.ntmps12
 go_upto_region 2 with (go_at_call 9; refine (HN.out).mono ?_; rintro e w' ⟨rfl, rfl⟩; clear HN)
 have hE1 := Blk.new w 62 #[.int .i64 0, .slice none 0 0, .bool false, .pointer none]
 have hb1 := (Below.refl w.heap.size w).alloc (Nat.le_refl _) (.cells #[.int .i64 0, .slice none 0 0, .bool false, .pointer none] 62)
 obtain ⟨w1, hw1⟩ : ∃ w1, w.alloc (.cells #[.int .i64 0, .slice none 0 0, .bool false, .pointer none] 62) = w1 := ⟨_, rfl⟩
 rw [hw1] at hE1 hb1 ⊢
 clear hw1
 have HL := Lib.hid (do_load (fb := false) set_txt (HTB.out _ hb1) hE1)
 have HB1 := Lib.hid hb1
 have hws : w.heap.size < w1.heap.size := hE1.lt
 obtain ⟨ep, hep⟩ : ∃ ep, w.heap.size = ep := ⟨_, rfl⟩
 have HEP := Lib.hid hep
 rw [hep] at HL ⊢
 clear hep hE1 hb1
 simp only [repC, txt] at HL
 go_upto_region 4 with (first | (go_at_call 10; refine (HL.out).mono ?_; rintro e w2 ⟨TA, tc, R, rfl, hTs, hE2, hg⟩; have HB2 := Lib.hid (HB1.out.grown hg (Nat.le_of_lt hws) (fun k hk => Nat.le_of_eq (HEP.out.trans (Option.some.inj hk)))); have HST := Lib.hid (do_start hE2 hTs (own_cap hTs.row) (HTB.out _ HB2.out)); simp only [repC] at HST; clear HL hTs hE2 hg) | (go_at_call 10; refine (HST.out).mono ?_; rintro e w3 ⟨RA, rc, B, kp, A', jv, ev, rfl, hE3, hK, heB, hwB, hg⟩; have HB3 := Lib.hid (HB2.out.grown hg HB2.out.size (fun k hk => Nat.le_of_eq (HEP.out.trans (Option.some.inj hk)))); have HE3 := Lib.hid hE3; have HK3 := Lib.hid hK; have HWB := Lib.hid hwB; clear HST hE3 hK hg hwB))
 have HW4 := Lib.hid (ticks_A HE3.out HK3.out heB (HDB.out w3 HB3.out) (by have := HWB.out; have := HB2.out.size; omega))
 simp only [rep0] at HW4
 go_wp2_with (go_at_call 10; refine (HW4.out).mono ?_; rintro e w5 ⟨g, vc, rfl, hgl, k1, k3, hb5⟩; have HB5 := Lib.hid (HB3.out.trans (hb5.mono (Nat.le_trans HB2.out.size HWB.out))); clear HW4 hb5)
 go_ret
 exact ⟨rfl, HB5.out.alloc HB5.out.size _⟩
end Go.Proofs.YtdgfjpbjiccllaaGreatDoor.F
namespace Go.Proofs.YtdgfjpbjiccllaaGreatDoor.F
open Go.RowKit
open YtdgfjpbjiccllaaGreatDoorW.PrintWords YtdgfjpbjiccllaaGreatDoorW.PrintLast YtdgfjpbjiccllaaGreatDoorW.PrintMore
open PTopLoads (S46 k46 z46 k46_mk S57 k57 z57)
open X
open V (U64 k0 k0_pd)
set_option maxRecDepth 100000
structure SetG (rel : Int) (L : List S46) : Prop where
 r0 : 0 ≤ rel
 r1 : rel ≤ 10000
 n1 : 1 ≤ L.length
 n8 : L.length ≤ 8
 u : U64 L
 tk : ∀ (i : Nat) (x : S46), L[i]? = some x → TOk x i
 ne : ∀ (i j : Nat) (x y : S46), i < j → L[i]? = some x → L[j]? = some y → x.f0 ≠ y.f0
theorem SetG.f8 {rel : Int} {L : List S46} (h : SetG rel L) : ∀ x ∈ L, x.f6.length ≤ 8 := by
 intro x hx
 obtain ⟨i, hi, rfl⟩ := List.getElem_of_mem hx
 exact (h.tk i _ (List.getElem?_eq_getElem hi)).r8
theorem SetG.ok {rel : Int} {L : List S46} (h : SetG rel L) : ∀ x ∈ L, 1 ≤ x.f6.length ∧ x.f6.length ≤ 8 ∧ P.odd x.f1 = false := by
 intro x hx
 obtain ⟨i, hi, rfl⟩ := List.getElem_of_mem hx
 have ht := h.tk i _ (List.getElem?_eq_getElem hi)
 refine ⟨ht.r1, ht.r8, ?_⟩
 have h1 := ht.sum
 have h2 := ht.wd
 have h3 := ht.dt
 have h4 := ht.t1
 unfold P.odd
 simp
 omega
theorem setj_of {rel : Int} {L : List S46} {w : World} {B c : Nat} {A : Option Addr} {R : List Value} (hG : SetG rel L) (h : TasksAt w B (.slice A L.length c) L R) : ∃ b off, A = some ⟨b, off, none⟩ ∧ SetJ w rel L b off c := by
 have hs := src_of h hG.f8
 obtain ⟨A', c', he, hc, hk⟩ := h.kd hG.n8 hG.f8
 injection he with e1 e2 e3
 subst e1 e3
 rcases hs with h0 | ⟨b, off, rfl, hlt, hcs⟩
 ·have := hG.n1
  rw [h0] at this
  simp at this
 ·exact ⟨b, off, rfl, hk, .inr ⟨b, off, rfl, hlt, hcs⟩, hc, hG.n1, hG.n8, hG.u, hG.tk⟩
set_option maxHeartbeats 8000000 in
theorem exec_judge2 {rel : Int} {L : List S46} (hG : SetG rel L) {w : World} {ep B0 c : Nat} {A : Option Addr} {kv : Value} {R : List Value} (hE : Blk w ep 62 #[.int .i64 rel, .slice A L.length c, .bool true, kv]) (hT : TasksAt w B0 (.slice A L.length c) L R) (htab : Lib.TabIs Tryz.prog w "strings.asciiSpace" .u8 Lib.asciiSpaceTab) :
  Calls Tryz.prog 21 #[.pointer (some ⟨ep, 0, none⟩)] w fun e w' => ∃ (how tsk err : Int) (RA : Option Addr) (rn rc : Nat), e = .returned (.agg (repC err 0 how tsk (.slice RA rn rc) (.slice none 0 0))) ∧ Below w.heap.size w w' := by
 have hb0 := (Below.refl w.heap.size w).alloc (Nat.le_refl _) (.cells #[.int .i64 0, .int .i64 0, .int .i64 0, .int .i64 0, .slice none 0 0, .string ⟨#[]⟩, .slice none 0 0] 37)
 obtain ⟨b, off, rfl, hJ0⟩ := setj_of hG (tasks_below hT hb0)
 have HJ := Lib.hid (judge_any _ hJ0 ⟨hG.r0, hG.r1⟩ hG.ne (Lib.tabBelow_of_tabIs htab _ hb0))
 have HB0 := Lib.hid hb0
 have hel := hE.lt
 have HE := Lib.hid (hE.alloc (.cells #[.int .i64 0, .int .i64 0, .int .i64 0, .int .i64 0, .slice none 0 0, .string ⟨#[]⟩, .slice none 0 0] 37))
 have HS := Lib.hid (Blk.new w 37 #[.int .i64 0, .int .i64 0, .int .i64 0, .int .i64 0, .slice none 0 0, .string ⟨#[]⟩, .slice none 0 0])
 obtain ⟨n, hn⟩ : ∃ n, L.length = n := ⟨_, rfl⟩
 rw [hn] at HJ HE
 clear hb0 hT htab hE hJ0 hn
 go_enter Tryz.func21, Tryz.ntmps21
 go_upto_region 1 with fail
 obtain ⟨w1, hw1⟩ : ∃ w1, w.alloc (.cells #[.int .i64 0, .int .i64 0, .int .i64 0, .int .i64 0, .slice none 0 0, .string ⟨#[]⟩, .slice none 0 0] 37) = w1 := ⟨_, rfl⟩
 rw [hw1] at HJ HB0 HE HS ⊢
 obtain ⟨sb, hsb⟩ : ∃ sb, w.heap.size = sb := ⟨_, rfl⟩
 rw [hsb] at HB0 HS hel ⊢
 have HSB := Lib.hid hsb
 clear hw1 hsb
 have e0 : w1.cell? ⟨ep, 0, none⟩ = some (.int .i64 rel) := HE.out.cell 0
 have e1 : w1.cell? ⟨ep, 1, none⟩ = some (.slice (some ⟨b, off, none⟩) n c) := HE.out.cell 1
 have e2 : w1.cell? ⟨ep, 2, none⟩ = some (.bool true) := HE.out.cell 2
 have hel1 := HE.out.lt
 go_wp2_with (go_at_call 35; refine (HJ.out).mono ?_; rintro e w2 ⟨how, tsk, RA, rn, rc, err, rfl, hb⟩; have HB2 := Lib.hid hb; have HS2 := Lib.hid (HS.out.below hb HS.out.lt); have t0' := HS2.out.cell 0; have t1 := HS2.out.cell 1; have t2 := HS2.out.cell 2; have t3 := HS2.out.cell 3; have t4 := HS2.out.cell 4; have t5 := HS2.out.cell 5; have t6 := HS2.out.cell 6; have u0 := HS2.out.frozen 0; have u1 := HS2.out.frozen 1; have u2 := HS2.out.frozen 2; have u3 := HS2.out.frozen 3; have u4 := HS2.out.frozen 4; have u5 := HS2.out.frozen 5; have u6 := HS2.out.frozen 6; have hl2 := HS2.out.lt; clear hb)
 obtain ⟨h7, g7⟩ := set7 HS2.out (.int .i64 err) (.int .i64 0) (.int .i64 how) (.int .i64 tsk) (.slice RA rn rc) (.string ⟨#[]⟩) (.slice none 0 0)
 refine bodyPost_ret (results_cell1 rfl _ _ sb 37 (repC err 0 how tsk (.slice RA rn rc) (.slice none 0 0)) _ rfl (h7.alloc _) Tryz.underlying37 rfl (by kernel_rfl)) rfl ⟨how, tsk, err, RA, rn, rc, rfl, ?_⟩
 have hl := HS.out.lt
 have hb2 := HB0.out.trans (HB2.out.mono (Nat.le_of_lt hl))
 rw [HSB.out]
 exact (hb2.grown g7 (Nat.le_of_lt hl2) (fun k hk => by injection hk with hk; omega)).alloc (by have := g7.size; omega) _
theorem new2 {rel : Int} {L : List S46} (hG : SetG rel L) {w : World} {B0 c : Nat} {A : Option Addr} {R : List Value} (hT : TasksAt w B0 (.slice A L.length c) L R) (htab : Lib.TabIs Tryz.prog w "strings.asciiSpace" .u8 Lib.asciiSpaceTab) :
  Calls Tryz.prog 30 #[.agg #[.int .i64 rel, .slice A L.length c]] w fun e w' => ∃ kp A' jv ev, e = .returned (.tuple #[.pointer (some ⟨kp, 0, none⟩), .int .i64 0]) ∧ KAt w.heap.size w' w.heap.size kp A' jv ev (pdOf (k0 L rel)) (k0 L rel) ∧ Below w.heap.size w w' := by
 have hS : ∀ w', Below w.heap.size w w' → Src w' A L := fun w' hb => src_of (tasks_below hT hb) hG.f8
 refine (new_any (L := L) (c := c) (rel := rel) hG.n1 hG.n8 hS (fun w' hb => all_yes hG.n1 hG.n8 hG.r0 hG.r1 (fun w'' hb' => hS w'' (hb.trans (hb'.mono hb.size))) hG.tk hG.ne (Lib.tabBelow_of_tabIs htab _ hb)) hG.ok).mono ?_
 rintro e w' ⟨kp, A', jv, ev, he, hk, hb⟩
 exact ⟨kp, A', jv, ev, he, hk.less (fun k h => by rw [k0_pd] at h; simp at h), hb⟩
set_option maxHeartbeats 8000000 in
theorem exec_start2 {rel : Int} {L : List S46} (hG : SetG rel L) {w : World} {ep B0 c : Nat} {A : Option Addr} {R : List Value} (hE : Blk w ep 62 #[.int .i64 rel, .slice A L.length c, .bool true, .pointer none]) (hT : TasksAt w B0 (.slice A L.length c) L R) (htab : Lib.TabIs Tryz.prog w "strings.asciiSpace" .u8 Lib.asciiSpaceTab) :
  Calls Tryz.prog 25 #[.pointer (some ⟨ep, 0, none⟩), .bool true] w fun e w' => ∃ (how tsk err : Int) (RA : Option Addr) (rn rc B kp : Nat) (A' : Ad) (jv : List Value) (ev : Value), e = .returned (.agg (repC err 0 how tsk (.slice RA rn rc) (.slice none 0 0))) ∧ Blk w' ep 62 #[.int .i64 rel, .slice A L.length c, .bool true, .pointer (some ⟨kp, 0, none⟩)] ∧
   KAt B w' B kp A' jv ev (pdOf (k0 L rel)) (k0 L rel) ∧ ep < B ∧ w.heap.size ≤ B ∧ B ≤ w'.heap.size ∧ w.grownBy w' (some ep) := by
 have hb0 := (Below.refl w.heap.size w).alloc (Nat.le_refl _) (.cells #[.int .i64 0, .int .i64 0, .int .i64 0, .int .i64 0, .slice none 0 0, .string ⟨#[]⟩, .slice none 0 0] 37)
 have HT := Lib.hid hT
 have HTB := Lib.hid (Lib.tabBelow_of_tabIs htab)
 have HB0 := Lib.hid hb0
 have hel := hE.lt
 have HE := Lib.hid (hE.alloc (.cells #[.int .i64 0, .int .i64 0, .int .i64 0, .int .i64 0, .slice none 0 0, .string ⟨#[]⟩, .slice none 0 0] 37))
 have HS := Lib.hid (Blk.new w 37 #[.int .i64 0, .int .i64 0, .int .i64 0, .int .i64 0, .slice none 0 0, .string ⟨#[]⟩, .slice none 0 0])
 have HG0 := Lib.hid (fun w2 (hb : Below w.heap.size w w2) (hE2 : Blk w2 ep 62 #[.int .i64 rel, .slice A L.length c, .bool true, .pointer none]) => exec_judge2 hG hE2 (tasks_below HT.out hb) (HTB.out w2 hb))
 have HN0 := Lib.hid (fun w2 (hb : Below w.heap.size w w2) => new2 hG (tasks_below HT.out hb) (HTB.out w2 hb))
 obtain ⟨n, hn⟩ : ∃ n, L.length = n := ⟨_, rfl⟩
 obtain ⟨K, hK0⟩ : ∃ K, k0 L rel = K := ⟨_, rfl⟩
 simp only [repC] at HG0
 rw [hn] at HE HN0 HG0 ⊢
 rw [hK0] at HN0 ⊢
 clear hb0 hT htab hE hn hK0 HT
 go_enter Tryz.func25, Tryz.ntmps25
 go_upto_region 1 with fail
 obtain ⟨w1, hw1⟩ : ∃ w1, w.alloc (.cells #[.int .i64 0, .int .i64 0, .int .i64 0, .int .i64 0, .slice none 0 0, .string ⟨#[]⟩, .slice none 0 0] 37) = w1 := ⟨_, rfl⟩
 rw [hw1] at HB0 HE HS ⊢
 obtain ⟨sb, hsb⟩ : ∃ sb, w.heap.size = sb := ⟨_, rfl⟩
 rw [hsb] at hel HS ⊢
 have HSB := Lib.hid hsb
 clear hw1 hsb
 have HI := Lib.hid (exec_idle HE.out)
 have HG := Lib.hid (fun w2 (hb : Below w1.heap.size w1 w2) => HG0.out w2 (HB0.out.trans (hb.mono HB0.out.size)) (HE.out.below hb HE.out.lt))
 go_upto_region 4 with (first | (go_at_call 36; refine (HI.out).mono ?_; rintro e w2 ⟨rfl, hb⟩; have HB2 := Lib.hid hb; clear hb HI) | (go_at_call 21; refine (HG.out _ HB2.out).mono ?_; rintro e w3 ⟨how, tsk, err, RA, rn, rc, rfl, hb⟩; have HB3 := Lib.hid (HB2.out.trans (hb.mono HB2.out.size)); clear hb HG))
 have HB4 : Hid (Below w1.heap.size w1 (w3.alloc (.cells #[.int .i64 err, .int .i64 0, .int .i64 how, .int .i64 tsk, .slice RA rn rc, .string ⟨#[]⟩, .slice none 0 0] 37))) := HB3.out.alloc HB3.out.size _
 have HR4 := Lib.hid (Blk.new w3 37 #[.int .i64 err, .int .i64 0, .int .i64 how, .int .i64 tsk, .slice RA rn rc, .string ⟨#[]⟩, .slice none 0 0])
 have hs13 : w1.heap.size ≤ w3.heap.size := HB3.out.size
 obtain ⟨w4, hw4⟩ : ∃ w4, w3.alloc (.cells #[.int .i64 err, .int .i64 0, .int .i64 how, .int .i64 tsk, .slice RA rn rc, .string ⟨#[]⟩, .slice none 0 0] 37) = w4 := ⟨_, rfl⟩
 obtain ⟨rk, hrk⟩ : ∃ rk, w3.heap.size = rk := ⟨_, rfl⟩
 rw [hw4] at HB4 HR4 ⊢
 rw [hrk] at HR4 hs13 ⊢
 clear hw4 hrk HB3 HB2
 have hsl := HS.out.lt
 have HE4 := Lib.hid (HE.out.below HB4.out HE.out.lt)
 have HS4 := Lib.hid (HS.out.below HB4.out hsl)
 have e0 : w4.cell? ⟨ep, 0, none⟩ = some (.int .i64 rel) := HE4.out.cell 0
 have e1 : w4.cell? ⟨ep, 1, none⟩ = some (.slice A n c) := HE4.out.cell 1
 have r2 : w4.cell? ⟨rk, 2, none⟩ = some (.int .i64 how) := HR4.out.cell 2
 have hel4 := HE4.out.lt
 have hsl4 := HS4.out.lt
 have hrl4 := HR4.out.lt
 have HN := Lib.hid (HN0.out w4 (HB0.out.trans (HB4.out.mono HB0.out.size)))
 have hse : sb ≠ ep := by omega
 have hes : ep ≠ sb := by omega
 have hre : rk ≠ ep := by omega
 have her : ep ≠ rk := by omega
 have hrs : rk ≠ sb := by omega
 have hsr : sb ≠ rk := by omega
 clear HN0 HG0
 by_cases hh : how = 1
 case' pos =>
  have hq : (how == 1) = true := by simpa using hh
  have hq2 : (how != 1) = false := by simpa using hh
  clear hh
 case' neg =>
  have hq : (how == 1) = false := by simpa using hh
  have hq2 : (how != 1) = true := by simpa using hh
  clear hh
 all_goals
  go_upto_region 8 with (go_at_call 30; refine (HN.out).mono ?_; rintro e w5 ⟨kp, A', jv, ev, rfl, hK, hb⟩; have HK := Lib.hid hK; have HB5 := Lib.hid hb; have HE5 := Lib.hid (HE4.out.below hb hel4); have x3 := HE5.out.cell 3; have k3 := HE5.out.frozen 3; have hel5 := HE5.out.lt; clear hK hb HN)
  have HS5 := Lib.hid ((HS4.out.below HB5.out hsl4).far (p := ⟨ep, 3, none⟩) hse (.pointer (some ⟨kp, 0, none⟩)))
  have HR5 := Lib.hid ((HR4.out.below HB5.out hrl4).far (p := ⟨ep, 3, none⟩) hre (.pointer (some ⟨kp, 0, none⟩)))
  have HE6 := Lib.hid (HE5.out.set_ 3 (.pointer (some ⟨kp, 0, none⟩)))
  have HK6 := Lib.hid (HK.out.fr (E := w4.heap.size) (ts := [62]) (C := 0) (Fr.of_blk (only_setCell (World.grownBy.refl w5 (some ep)) (p := ⟨ep, 3, none⟩) (.inl rfl) (.pointer (some ⟨kp, 0, none⟩))) HE5.out (Nat.zero_le _) (by simp)) (by decide))
  have HG6 : Hid (w.grownBy (w5.setCell ⟨ep, 3, none⟩ (.pointer (some ⟨kp, 0, none⟩))) (some ep)) := only_setCell (only_of_below (HB0.out.trans ((HB4.out.trans (HB5.out.mono HB4.out.size)).mono HB0.out.size)) _) (p := ⟨ep, 3, none⟩) (.inl rfl) _
  have hz6 : w4.heap.size ≤ (w5.setCell ⟨ep, 3, none⟩ (.pointer (some ⟨kp, 0, none⟩))).heap.size := by
   have := HB5.out.size
   simpa [World.setCell] using this
  obtain ⟨w6, hw6⟩ : ∃ w6, w5.setCell ⟨ep, 3, none⟩ (.pointer (some ⟨kp, 0, none⟩)) = w6 := ⟨_, rfl⟩
  rw [hw6] at HS5 HR5 HE6 HK6 HG6 hz6 ⊢
  clear hw6
  have r0 := HR5.out.cell 0
  have r1 := HR5.out.cell 1
  have r2' := HR5.out.cell 2
  have r3 := HR5.out.cell 3
  have r4 := HR5.out.cell 4
  have r5 := HR5.out.cell 5
  have r6 := HR5.out.cell 6
  have t0' := HS5.out.cell 0
  have t1 := HS5.out.cell 1
  have t2 := HS5.out.cell 2
  have t3 := HS5.out.cell 3
  have t4 := HS5.out.cell 4
  have t5 := HS5.out.cell 5
  have t6 := HS5.out.cell 6
  have u0 := HS5.out.frozen 0
  have u1 := HS5.out.frozen 1
  have u2 := HS5.out.frozen 2
  have u3 := HS5.out.frozen 3
  have u4 := HS5.out.frozen 4
  have u5 := HS5.out.frozen 5
  have u6 := HS5.out.frozen 6
  simp at r0 r1 r2' r3 r4 r5 r6 t0' t1 t2 t3 t4 t5 t6
  have HZ6 := Lib.hid hz6
  clear hz6; go_wp2
  obtain ⟨h7, g7⟩ := set7 HS5.out (.int .i64 err) (.int .i64 0) (.int .i64 how) (.int .i64 tsk) (.slice RA rn rc) (.string ⟨#[]⟩) (.slice none 0 0)
  refine bodyPost_ret (results_cell1 rfl _ _ sb 37 (repC err 0 how tsk (.slice RA rn rc) (.slice none 0 0)) _ rfl h7 Tryz.underlying37 rfl (by kernel_rfl)) rfl ⟨how, tsk, err, RA, rn, rc, w4.heap.size, kp, A', jv, ev, rfl, HE6.out.grown g7 (by simpa using hes), ?_, hel4, ?_, Nat.le_trans HZ6.out g7.size, ?_⟩
  ·exact HK6.out.fr (E := w4.heap.size) (ts := [37]) (C := 0) (Fr.of_blk g7 HS5.out (Nat.zero_le _) (by simp)) (by decide)
  ·have := HB0.out.size
   have := HB4.out.size
   omega
  ·have hws : w.heap.size ≤ sb := Nat.le_of_eq HSB.out
   exact only_setCell (only_setCell (only_setCell (only_setCell (only_setCell (only_setCell (only_setCell HG6.out (p := ⟨sb, 0, none⟩) (.inr hws) _) (p := ⟨sb, 1, none⟩) (.inr hws) _) (p := ⟨sb, 2, none⟩) (.inr hws) _) (p := ⟨sb, 3, none⟩) (.inr hws) _) (p := ⟨sb, 4, none⟩) (.inr hws) _) (p := ⟨sb, 5, none⟩) (.inr hws) _) (p := ⟨sb, 6, none⟩) (.inr hws) _
set_option maxHeartbeats 8000000 in
theorem exec_stop {w : World} {ep : Nat} {rv tv : Value} {kp : Nat} (hE : Blk w ep 62 #[rv, tv, .bool true, .pointer (some ⟨kp, 0, none⟩)]) :
  Calls Tryz.prog 27 #[.pointer (some ⟨ep, 0, none⟩)] w fun e w' => e = .returned (.agg (rep0 (.slice none 0 0))) ∧ Blk w' ep 62 #[rv, tv, .bool true, .pointer none] ∧ w.grownBy w' (some ep) := by
 have HB0 := Lib.hid ((Below.refl w.heap.size w).alloc (Nat.le_refl _) (.cells #[.int .i64 0, .int .i64 0, .int .i64 0, .int .i64 0, .slice none 0 0, .string ⟨#[]⟩, .slice none 0 0] 37))
 have hel := hE.lt
 have HE := Lib.hid (hE.alloc (.cells #[.int .i64 0, .int .i64 0, .int .i64 0, .int .i64 0, .slice none 0 0, .string ⟨#[]⟩, .slice none 0 0] 37))
 have HS := Lib.hid (Blk.new w 37 #[.int .i64 0, .int .i64 0, .int .i64 0, .int .i64 0, .slice none 0 0, .string ⟨#[]⟩, .slice none 0 0])
 clear hE
 go_enter Tryz.func27, Tryz.ntmps27
 go_upto_region 1 with fail
 obtain ⟨w1, hw1⟩ : ∃ w1, w.alloc (.cells #[.int .i64 0, .int .i64 0, .int .i64 0, .int .i64 0, .slice none 0 0, .string ⟨#[]⟩, .slice none 0 0] 37) = w1 := ⟨_, rfl⟩
 rw [hw1] at HB0 HE HS ⊢
 obtain ⟨sb, hsb⟩ : ∃ sb, w.heap.size = sb := ⟨_, rfl⟩
 rw [hsb] at HS hel ⊢
 have HSB := Lib.hid hsb
 clear hw1 hsb
 have e3 : w1.cell? ⟨ep, 3, none⟩ = some (.pointer (some ⟨kp, 0, none⟩)) := HE.out.cell 3
 have k3 := HE.out.frozen 3
 have hel1 := HE.out.lt
 have hse : sb ≠ ep := by omega
 have hes : ep ≠ sb := by omega
 have HS2 := Lib.hid (HS.out.far (p := ⟨ep, 3, none⟩) hse (.pointer none))
 have t0' := HS.out.cell 0
 have t1 := HS.out.cell 1
 have t2 := HS.out.cell 2
 have t3 := HS.out.cell 3
 have t4 := HS.out.cell 4
 have t5 := HS.out.cell 5
 have t6 := HS.out.cell 6
 have u0 := HS.out.frozen 0
 have u1 := HS.out.frozen 1
 have u2 := HS.out.frozen 2
 have u3 := HS.out.frozen 3
 have u4 := HS.out.frozen 4
 have u5 := HS.out.frozen 5
 have u6 := HS.out.frozen 6
 have hl2 := HS.out.lt
 go_wp2_with fail
 obtain ⟨h7, g7⟩ := set7 HS2.out (.int .i64 0) (.int .i64 0) (.int .i64 0) (.int .i64 0) (.slice none 0 0) (.string ⟨#[]⟩) (.slice none 0 0)
 have hws : w.heap.size ≤ sb := Nat.le_of_eq HSB.out
 have HG0 := Lib.hid (only_setCell (only_of_below HB0.out (some ep)) (p := ⟨ep, 3, none⟩) (.inl rfl) (.pointer none))
 refine bodyPost_ret (results_cell1 rfl _ _ sb 37 (rep0 (.slice none 0 0)) _ rfl h7 Tryz.underlying37 rfl (by kernel_rfl)) rfl ⟨rfl, (HE.out.set_ 3 (.pointer none)).grown g7 (by simpa using hes), ?_⟩
 exact only_setCell (only_setCell (only_setCell (only_setCell (only_setCell (only_setCell (only_setCell HG0.out (p := ⟨sb, 0, none⟩) (.inr hws) _) (p := ⟨sb, 1, none⟩) (.inr hws) _) (p := ⟨sb, 2, none⟩) (.inr hws) _) (p := ⟨sb, 3, none⟩) (.inr hws) _) (p := ⟨sb, 4, none⟩) (.inr hws) _) (p := ⟨sb, 5, none⟩) (.inr hws) _) (p := ⟨sb, 6, none⟩) (.inr hws) _
end Go.Proofs.YtdgfjpbjiccllaaGreatDoor.F
