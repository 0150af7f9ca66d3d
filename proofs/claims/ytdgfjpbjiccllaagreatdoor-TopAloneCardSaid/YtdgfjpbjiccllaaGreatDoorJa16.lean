/- Joined texts: Runs, Args, One, One2. -/
import Derived.Test.YtdgfjpbjiccllaaGreatDoorJa15
import Derived.Laws.AppendOwnNone
/- A kernel runs through inputs: the law's own loop. -/
namespace Go.Proofs.YtdgfjpbjiccllaaGreatDoor
open Go.RowKit
open Go.Proofs.YtdgfjpbjiccllaaGreatDoorW.PrintWords Go.Proofs.YtdgfjpbjiccllaaGreatDoorW.PrintLast Go.Proofs.YtdgfjpbjiccllaaGreatDoorW.PrintMore
open Go.Proofs.YtdgfjpbjiccllaaGreatDoor.PTopLoads (S46 k46 z46 k46_mk S57 k57 z57)
set_option maxRecDepth 100000
variable {E : Nat}
/-- append of a row of the call's own, or of nil. -/
theorem wpList_append_rows {P : Program} (w : World) {ops : Array Oper} {rest : List Oper} {o : Oper} {a : Act} {Q : Exit → Act → World → Prop} (hgd : o.guard = none) (s x : Operand) (t : TypeId)
    (ho : o.op = .call { callee := .builtin .append, args := #[s, x], argTypes := #[t, t] })
    (base : Nat) (e : TypeId) (i : TypeInfo) (z : Value) (size bytes : Nat) (ht : P.underlying t = some (.slice e)) (hi : P.info? e = some i) (hz : i.zero = some z)
    (hsize : i.size = size) (hby : i.bytes = bytes) (hzs : z.cells.size = size) (hsz : 0 < size)
    (v : Value) (n : Nat) (xs : List Value) (hs : a.eval s = v) (hown : w.ownsRow base e size v n xs)
    (u : Value) (m base' : Nat) (news : List Value) (hx : a.eval x = u) (hsrc : w.ownsRow base' e size u m news) (h1 : ∀ u ∈ news, u.oneCell' = true)
    (h63 : n + m ≤ maxLen) (hbytes : (n + m) * bytes ≤ 140737488355328) (hbase : base ≤ w.heap.size)
    (h : ∀ v' w', w'.ownsRow base e size v' (n + m) (xs ++ news) → w.grownBy w' v.ownBlock → wpList P ops Q rest (a.put o.dst v') w') :
    wpList P ops Q (o :: rest) a w := by
  rcases hsrc.2 with ⟨rfl, rfl⟩ | ⟨g, c, cur, rfl, hb, hh, hn, hm, hs', htk⟩
  · have hnil : news = [] := by
      have := hsrc.1
      simp at this
      exact this
    subst hnil
    exact wpList_append_own_none hgd s x t ho base e i size ht hi v n xs hs hown hx (h v w (by simpa using hown) (World.grownBy.refl w _))
  · refine wpList_append_own w hgd s x t ho base e i z size bytes ht hi hz hsize hby hzs hsz v n xs hs hown ⟨g, 0, none⟩ m c news hx hsrc.1 ?_ h1 h63 hbytes hbase fun v' w' h2 h3 _ => h v' w' h2 h3
    intro j u hj
    rw [add_none, Nat.zero_add]
    have hB : Blk w g e cur := hh
    have hjl := (List.getElem?_eq_some_iff.1 hj).1
    rw [hB.cell j, ← hj, ← htk, List.getElem?_take_of_lt (by have := hsrc.1; omega)]
    simp
/-- Inputs that are read, in whatever world of a kind. -/
def InsP (Pw : World → Prop) (A : Option Addr) (l : List S57) : Prop :=
  l = [] ∨ ∃ b off, A = some ⟨b, off, none⟩ ∧ ∀ i x, l[i]? = some x → ∃ DA dc, ∀ w', Pw w' → w'.cell? ⟨b, off + i * 3, none⟩ = some (.int .u64 x.f0) ∧ w'.cell? ⟨b, off + i * 3 + 1, none⟩ = some (.slice DA x.f1.length dc) ∧ w'.cell? ⟨b, off + i * 3 + 2, none⟩ = some (.int .u64 x.f2) ∧ Dem w' DA x.f1
theorem evs_app (L M : List Ev) : evs (L ++ M) = evs L ++ evs M := by simp [evs]
theorem evs_one (L : List Ev) : ∀ u ∈ evs L, u.oneCell' = true := by
  intro u hu
  simp only [evs, List.mem_flatMap] at hu
  obtain ⟨x, _, hu⟩ := hu
  simp [Ev.cells] at hu
  rcases hu with rfl | rfl | rfl | rfl <;> rfl
theorem evs_length (L : List Ev) : (evs L).length = L.length * 4 := by
  induction L with
  | nil => rfl
  | cons x L ih =>
    have : evs (x :: L) = x.cells ++ evs L := rfl
    rw [this, List.length_append, ih]
    simp only [Ev.cells, List.length_cons, List.length_nil]
    omega
section
variable {w w' : World} {B kp : Nat} {A : Ad} {jv : List Value} {ev : Value} {pd : Nat → Bool} {K : Kst}
/-- Another row of events grows. -/
theorem kat_other (h : KAt E w B kp A jv ev pd K) {v : Value} {L : List Ev} {m : Nat} (hv : w.ownsRow m 50 4 v L.length (evs L)) (hg : w.grownBy w' v.ownBlock) (hlt : ∀ g, v.ownBlock = some g → g < E) : KAt E w' B kp A jv ev pd K := by
  have hf : Fr (E := 0) [50] 0 w w' := Fr.of_own hg hv (Nat.zero_le _) (by simp) (fun _ => Nat.zero_le _)
  have hev : w'.ownsRow E 50 4 ev K.ev.length (evs K.ev) := by
    refine ⟨h.evs.1, ?_⟩
    rcases h.evs.2 with h0 | ⟨g, c, cur, e, hb, hh, rest⟩
    · exact .inl h0
    · have hB : Blk w g 50 cur := hh
      exact .inr ⟨g, c, cur, e, hb, hB.grown hg (fun e => by have := hlt g e.symm; omega), rest⟩
  exact ⟨h.hd.fr hf (by decide), h.tasks.fr hf (by decide) (by decide), pol_fr h.pol hf (by decide) (by decide), h.cache.fr hf (by decide),
    tab_fr h.tab hf (by decide) (by decide), h.own.fr hf (by decide), hev,
    fun i hi hp => (h.jobs i hi hp).fr hf (by decide) (by decide), h.apart, h.n1, h.n8, h.lp, h.lt, h.lh, h.ll, h.lj, h.lv, h.bk, h.bp, h.bc, h.bt, h.bta, h.bo, h.be, Nat.le_trans h.eh hf.size⟩
theorem own50_fr {base n C : Nat} {v : Value} {xs : List Value} {ts : List Nat} (h : w.ownsRow base 50 4 v n xs) (hf : Fr w.heap.size ts C w w') : w'.ownsRow base 50 4 v n xs := by
  refine ⟨h.1, ?_⟩
  rcases h.2 with h0 | ⟨g, c, cur, rfl, hb, hh, rest⟩
  · exact .inl h0
  · have hB : Blk w g 50 cur := hh
    exact .inr ⟨g, c, cur, rfl, hb, (hf.block g hB.lt (.inr (.inr ⟨hB.lt, cur, hB⟩))).trans hh, rest⟩
end
/-- What a kernel is to do at each input. -/
structure Steps (W : World) (B : Nat) (l : List S57) (stepF : Kst → S57 → Kst) (Inv : Nat → Kst → Prop) : Prop where
  next : ∀ i K x, l[i]? = some x → Inv i K → Inv (i + 1) (stepF K x) ∧ (stepF K x).ev.length ≤ 1000
  call : ∀ i K x, l[i]? = some x → Inv i K → ∀ (E0 E : Nat) (w : World) (kp : Nat) (A : Ad) (jv : List Value) (ev : Value) (DA : Option Addr) (dc : Nat), Below B W w → KAt E0 w B kp A jv ev (pdOf K) K → B ≤ E → E ≤ w.heap.size → (∀ w', Fr E [97, 50, 142, 140, 148, 131, 186] B w w' → Dem w' DA x.f1) →
    Calls Tryz.prog 31 #[.pointer (some ⟨kp, 0, none⟩), .agg #[.int .u64 x.f0, .slice DA x.f1.length dc, .int .u64 x.f2]] w (SPost E w B kp A (stepF K x))
/-- All events, and the kernel behind them. -/
def runK (stepF : Kst → S57 → Kst) (K : Kst) : List S57 → Kst
  | [] => K
  | x :: l => runK stepF (stepF K x) l
def runE (stepF : Kst → S57 → Kst) (K : Kst) : List S57 → List Ev
  | [] => []
  | x :: l => (stepF K x).ev ++ runE stepF (stepF K x) l
theorem runK_snoc (stepF : Kst → S57 → Kst) (x : S57) : ∀ (l : List S57) (K : Kst), runK stepF K (l ++ [x]) = stepF (runK stepF K l) x
  | [], _ => rfl
  | _ :: l, _ => runK_snoc stepF x l _
theorem runE_snoc (stepF : Kst → S57 → Kst) (x : S57) : ∀ (l : List S57) (K : Kst), runE stepF K (l ++ [x]) = runE stepF K l ++ (stepF (runK stepF K l) x).ev
  | [], K => by simp [runE, runK]
  | y :: l, K => by
    simp only [List.cons_append, runE, runK, List.append_assoc]
    rw [runE_snoc stepF x l]
set_option maxHeartbeats 16000000 in
theorem run_any {w : World} {A : Option Addr} {L : List S46} {c : Nat} {rel : Int} {IA : Option Addr} {ic : Nat} {l : List S57} {K0 : Kst} {stepF : Kst → S57 → Kst} {Inv : Nat → Kst → Prop} (hl : l.length ≤ 1000)
    (hI : InsP (Below w.heap.size w) IA l)
    (hnew : ∀ w', Below w.heap.size w w' → Calls Tryz.prog 30 #[.agg #[.int .i64 rel, .slice A L.length c]] w' fun e w2 => ∃ kp A' jv ev, e = .returned (.tuple #[.pointer (some ⟨kp, 0, none⟩), .int .i64 0]) ∧ KAt w'.heap.size w2 w'.heap.size kp A' jv ev (pdOf K0) K0 ∧ Below w'.heap.size w' w2)
    (h0 : Inv 0 K0) (hst : ∀ w', Below w.heap.size w w' → Steps w' w'.heap.size l stepF Inv) :
    Calls Tryz.prog 14 #[.agg #[.int .i64 rel, .slice A L.length c], .slice IA l.length ic] w fun e w2 => ∃ v, e = .returned (.tuple #[v, .bool true]) ∧ w2.ownsRow w.heap.size 50 4 v (runE stepF K0 l).length (evs (runE stepF K0 l)) ∧ Below w.heap.size w w2 := by
  have HN := Lib.hid hnew
  have HI := Lib.hid hI
  have HST := Lib.hid hst
  have H0 := Lib.hid h0
  obtain ⟨n, hn⟩ : ∃ n, l.length = n := ⟨_, rfl⟩
  obtain ⟨m, hm⟩ : ∃ m, L.length = m := ⟨_, rfl⟩
  have HL := Lib.hid hn
  rw [hm] at HN
  rw [hn] at hl
  rw [hm, hn]
  clear hnew hI hst h0 hn hm
  have HB1 := Lib.hid ((Below.refl w.heap.size w).alloc (Nat.le_refl _) (.cells #[.int .i64 rel, .slice A m c] 24))
  have HD := Lib.hid (Blk.new w 24 #[.int .i64 rel, .slice A m c])
  go_enter Tryz.func14, Tryz.ntmps14
  go_upto_region 1 with fail
  obtain ⟨w1, hw1⟩ : ∃ w1, w.alloc (.cells #[.int .i64 rel, .slice A m c] 24) = w1 := ⟨_, rfl⟩
  obtain ⟨sb, hsb⟩ : ∃ sb, w.heap.size = sb := ⟨_, rfl⟩
  rw [hw1] at HB1 HD ⊢
  rw [hsb] at HB1 HD ⊢
  have HSB := Lib.hid hsb
  have q0 : w1.cell? ⟨sb, 0, none⟩ = some (.int .i64 rel) := HD.out.cell 0
  have q1 : w1.cell? ⟨sb, 1, none⟩ = some (.slice A m c) := HD.out.cell 1
  clear hw1 hsb
  have HNW := Lib.hid (HN.out w1 (by rw [HSB.out]; exact HB1.out))
  have HST1 := Lib.hid (HST.out w1 (by rw [HSB.out]; exact HB1.out))
  have hsl := HD.out.lt
  obtain ⟨B, hB⟩ : ∃ B, w1.heap.size = B := ⟨_, rfl⟩
  have HBB := Lib.hid hB
  rw [hB] at HNW HST1
  rw [hB] at hsl
  clear hB
  go_wp2_with (go_at_call 30; refine (HNW.out).mono ?_; rintro e w2 ⟨kp, A', jv, ev, rfl, hK, hb⟩; have HK := Lib.hid hK; have HB2 := Lib.hid hb; clear hK hb)
  obtain ⟨i0, hi0, hz0, hz1, hz2⟩ := info_parts Tryz.info50
  have Hz0 := Lib.hid hz0; clear hz0
  have Hz1 := Lib.hid hz1; clear hz1
  have Hz2 := Lib.hid hz2; clear hz2
  have Hi := Lib.hid hi0; clear hi0
  clear q0 q1 hsl
  go_loopw [8, 9] (fun z8 z9 wr => ∃ (k E : Nat) (jv : List Value) (ev : Value), k ≤ n ∧ z9 = .int .i64 k ∧ KAt E wr B kp A' jv ev (pdOf (runK stepF K0 (l.take k))) (runK stepF K0 (l.take k)) ∧ Inv k (runK stepF K0 (l.take k)) ∧ wr.ownsRow B 50 4 z8 (runE stepF K0 (l.take k)).length (evs (runE stepF K0 (l.take k))) ∧ Below B w1 wr ∧ (runE stepF K0 (l.take k)).length ≤ k * 1000) (fun _ z9 _ => n - (intOf z9).toNat)
  case atStart => exact ⟨0, B, jv, ev, Nat.zero_le _, rfl, HK.out, H0.out, World.ownsRow_nil _ _ _ _, HB2.out, Nat.le_refl _⟩
  case round =>
    obtain ⟨k, E1, jv1, ev1, hk, rfl, hK1, hI1, hO1, hb1, hle⟩ := hrel
    have hbw : Below w.heap.size w wr := by rw [HSB.out]; exact HB1.out.trans (hb1.mono (by have := HD.out.lt; rw [HBB.out] at this; omega))
    by_cases hlt : k < n
    · obtain ⟨x, hx⟩ : ∃ x, l[k]? = some x := ⟨_, List.getElem?_eq_getElem (by rw [HL.out]; exact hlt)⟩
      have htk : l.take (k + 1) = l.take k ++ [x] := by
        obtain ⟨h1, rfl⟩ := List.getElem?_eq_some_iff.1 hx
        rw [List.take_succ_eq_append_getElem h1]
      have hnx := HST1.out.next k _ x hx hI1
      have hBwr : B ≤ wr.heap.size := by have := hK1.bk; have := hK1.hd.lt; omega
      rcases HI.out with h0 | ⟨b, off, rfl, hcs⟩
      · have := HL.out; rw [h0] at this; simp at this; omega
      obtain ⟨DA, dc, hcw⟩ := hcs k x hx
      obtain ⟨g0, g1, g2, _⟩ := hcw wr hbw
      have hcl := HST1.out.call k _ x hx hI1 E1 wr.heap.size wr kp A' jv1 ev1 DA dc hb1 hK1 hBwr (Nat.le_refl _) (fun w' f => (hcw w' (hbw.trans (f.below (by rw [HSB.out]; have := HD.out.lt; rw [HBB.out] at this; omega) hbw.size))).2.2.2)
      obtain ⟨Kk, hKk⟩ : ∃ Kk, runK stepF K0 (l.take k) = Kk := ⟨_, rfl⟩
      obtain ⟨Lk, hLk⟩ : ∃ Lk, runE stepF K0 (l.take k) = Lk := ⟨_, rfl⟩
      have hK2 : runK stepF K0 (l.take (k + 1)) = stepF Kk x := by rw [htk, runK_snoc, hKk]
      have hL2 : runE stepF K0 (l.take (k + 1)) = Lk ++ (stepF Kk x).ev := by rw [htk, runE_snoc, hKk, hLk]
      rw [hKk] at hcl hnx
      rw [hLk] at hO1 hle
      obtain ⟨Kn, hKn⟩ : ∃ Kn, stepF Kk x = Kn := ⟨_, rfl⟩
      rw [hKn] at hcl hnx hK2 hL2
      have HC := Lib.hid hcl
      have HN2 := Lib.hid hnx
      have HK2 := Lib.hid hK2
      have HL2 := Lib.hid hL2
      have HO1 := Lib.hid hO1
      have HB1' := Lib.hid hb1
      have HLE := Lib.hid hle
      have HBW := Lib.hid hBwr
      clear hcl hnx hK2 hL2 hO1 hb1 hle hK1 hI1 htk hx hKk hLk hKn hcs hbw hBwr hcw
      have m1 : Hid (Lk.length + Kn.ev.length ≤ maxLen) := by have := HLE.out; have := HN2.out.2; unfold Hid maxLen; omega
      have m2 : Hid ((Lk.length + Kn.ev.length) * 32 ≤ 140737488355328) := by have := HLE.out; have := HN2.out.2; unfold Hid; omega
      go_wp2_with (first | (go_at_call 31; refine (HC.out).mono ?_; rintro e w3 ⟨jv3, ev3, rfl, hK3, hf3⟩; have HK3 := Lib.hid hK3; have HF3 := Lib.hid hf3; have HO3 := Lib.hid (own50_fr HO1.out hf3); have HB3 := Lib.hid (HB1'.out.trans (hf3.below (Nat.le_refl _) HBW.out)); have hs3 : Hid (B ≤ w3.heap.size) := Nat.le_trans HBW.out hf3.size; clear hK3 hf3) | (at_builtin; refine wpList_append_rows _ rfl (.tmp 27) (.tmp 33) 35 rfl B 50 i0 _ 4 32 Tryz.underlying35 Hi.out Hz0.out Hz1.out Hz2.out rfl (Nat.succ_pos 3) _ Lk.length (evs Lk) rfl HO3.out ev3 Kn.ev.length wr.heap.size (evs Kn.ev) rfl HK3.out.evs (evs_one _) m1.out m2.out hs3.out ?_; intro v' w4 own gr))
      go_roundw
      case rel =>
        have hlt3 : ∀ g, u8.ownBlock = some g → g < wr.heap.size := fun g hg => own_block_lt HO1.out hg
        refine ⟨k + 1, wr.heap.size, jv3, ev3, by omega, by go_num, ?_, ?_, ?_, ?_, ?_⟩
        · rw [HK2.out]
          exact kat_other HK3.out HO3.out gr hlt3
        · rw [HK2.out]
          exact HN2.out.1
        · rw [HL2.out, evs_app, List.length_append]
          exact own
        · refine HB3.out.grown gr hs3.out fun g hg => ?_
          exact (HO1.out.lt g hg).1
        · rw [HL2.out, List.length_append]
          have := HLE.out
          have := HN2.out.2
          omega
      case measure => simp [intOf]; omega
    · have e : k = n := by omega
      subst e
      have HT : Hid (l.take k = l) := by unfold Hid; rw [← HL.out, List.take_length]
      have HO1 := Lib.hid hO1
      have HBW := Lib.hid hbw
      have HSB' := HD.out.lt
      rw [HBB.out] at HSB'
      have HSB'' := Lib.hid HSB'
      clear hO1 hbw hb1 hK1 hI1 hle HSB'
      go_wp2
      go_ret2
      refine ⟨_, rfl, ?_, HBW.out⟩
      have h := HO1.out
      rw [HT.out] at h
      exact own_mono h (by rw [HSB.out]; exact Nat.le_of_lt HSB''.out)
end Go.Proofs.YtdgfjpbjiccllaaGreatDoor
/- What the laws take: rows that are read. -/
namespace Go.Proofs.YtdgfjpbjiccllaaGreatDoor
open Go.RowKit
open Go.Proofs.YtdgfjpbjiccllaaGreatDoorW.PrintWords Go.Proofs.YtdgfjpbjiccllaaGreatDoorW.PrintLast Go.Proofs.YtdgfjpbjiccllaaGreatDoorW.PrintMore
open Go.Proofs.YtdgfjpbjiccllaaGreatDoor.PTopLoads
set_option maxRecDepth 100000
theorem nums_of {w : World} {A : Option Addr} {xs : List Int} (h : (Kd.int .i64).C w A xs.length xs) : Nums w A xs := by
  rcases Nat.eq_zero_or_pos xs.length with h0 | h0
  · exact .inl (List.length_eq_zero_iff.1 h0)
  · obtain ⟨⟨b, off, spot⟩, rfl, hc⟩ := h.2.2 h0
    have g : ∀ i (hi : i < xs.length), w.cell? ((⟨b, off, spot⟩ : Addr).add i) = some (.int .i64 xs[i]) := fun i hi => by
      obtain ⟨c, _, hK, hu⟩ := hc i xs[i] (List.getElem?_eq_getElem hi)
      have hK' : c = [.int .i64 xs[i]] := hK
      subst hK'
      have := hu 0 _ rfl
      rwa [show i * (Kd.int .i64).sz + 0 = i from by simp [Kd.int, Kd.scalar]] at this
    have hspot : spot = none := by simpa [Addr.add] using World.cell?_spot (g 0 h0)
    subst hspot
    refine .inr ⟨b, off, rfl, World.block_lt_of_cell? w _ (g 0 h0), fun i hi => ?_⟩
    rw [← add_none]
    exact g i hi
theorem dem_of {w : World} {A : Option Addr} {D : List (List Int)} (h : Kd.C (Kd.slice 2 (Kd.int .i64)) w A D.length D) : Dem w A D := by
  rcases Nat.eq_zero_or_pos D.length with h0 | h0
  · exact .inl (List.length_eq_zero_iff.1 h0)
  · have g : ∀ i (hi : i < D.length), ∃ ad A0 c0, A = some ad ∧ w.cell? (ad.add i) = some (.slice A0 D[i].length c0) ∧ Nums w A0 D[i] := fun i hi => by
      obtain ⟨ad, A0, c0, hA, hcell, _, hC⟩ := at_L2 h (i : Int) (by omega) (by omega)
      have er : rd_L2 D i = D[i] := by simp [rd_L2, List.getD_eq_getElem?_getD, hi]
      rw [er] at hcell hC
      exact ⟨ad, A0, c0, hA, hcell, nums_of hC⟩
    obtain ⟨⟨b, off, spot⟩, A0, c0, rfl, hcell, _⟩ := g 0 h0
    have hspot : spot = none := by simpa [Addr.add] using World.cell?_spot hcell
    subst hspot
    refine .inr ⟨b, off, rfl, fun i hi => ?_⟩
    obtain ⟨ad, A0, c0, hA, hcell, hN⟩ := g i hi
    injection hA with hA
    subst hA
    exact ⟨A0, c0, by rw [← add_none]; exact hcell, hN⟩
theorem ins_of {w : World} {A : Option Addr} {l : List S57} (h : Kd.C k57 w A l.length l) : InsP (Below w.heap.size w) A l := by
  rcases Nat.eq_zero_or_pos l.length with h0 | h0
  · exact .inl (List.length_eq_zero_iff.1 h0)
  · have g : ∀ i (hi : i < l.length), ∃ ad DA dc, A = some ad ∧ w.cell? (ad.add (i * 3)) = some (.int .u64 l[i].f0) ∧ w.cell? ⟨(ad.add (i * 3)).block, (ad.add (i * 3)).off + 1, none⟩ = some (.slice DA l[i].f1.length dc) ∧
        w.cell? ⟨(ad.add (i * 3)).block, (ad.add (i * 3)).off + 2, none⟩ = some (.int .u64 l[i].f2) ∧ (Kd.slice 2 (Kd.int .i64)).C w DA l[i].f1.length l[i].f1 := fun i hi => by
      obtain ⟨ad, DA, dc, hA, c0, c1, c2, _, hC⟩ := at_T57 h (i : Int) (by omega) (by omega)
      have er : rd_T57 l i = l[i] := by simp [rd_T57, List.getD_eq_getElem?_getD, hi]
      rw [er] at c0 c1 c2 hC
      exact ⟨ad, DA, dc, hA, c0, c1, c2, hC⟩
    obtain ⟨⟨b, off, spot⟩, _, _, rfl, hcell, _⟩ := g 0 h0
    have hspot : spot = none := by simpa [Addr.add] using World.cell?_spot hcell
    subst hspot
    have hb : b < w.heap.size := World.block_lt_of_cell? w _ hcell
    refine .inr ⟨b, off, rfl, fun i x hx => ?_⟩
    obtain ⟨hi, rfl⟩ := List.getElem?_eq_some_iff.1 hx
    obtain ⟨ad, DA, dc, hA, c0, c1, c2, hC⟩ := g i hi
    injection hA with hA
    subst hA
    rw [add_none] at c0 c1 c2
    refine ⟨DA, dc, fun w' hb' => ⟨?_, ?_, ?_, dem_of (Kd.C_below hC hb')⟩⟩
    · exact (hb'.cell (p := ⟨b, off + i * 3, none⟩) hb).trans c0
    · exact (hb'.cell (p := ⟨b, off + i * 3 + 1, none⟩) hb).trans c1
    · exact (hb'.cell (p := ⟨b, off + i * 3 + 2, none⟩) hb).trans c2
end Go.Proofs.YtdgfjpbjiccllaaGreatDoor
/- One task alone: what a kernel does (plain). -/
namespace Go.Proofs.YtdgfjpbjiccllaaGreatDoor
open Go.RowKit
open Go.Proofs.YtdgfjpbjiccllaaGreatDoorW.PrintWords Go.Proofs.YtdgfjpbjiccllaaGreatDoorW.PrintLast Go.Proofs.YtdgfjpbjiccllaaGreatDoorW.PrintMore
open Go.Proofs.YtdgfjpbjiccllaaGreatDoor.PTopLoads
set_option maxRecDepth 100000
/-- Whose turn it is where there is one task. -/
theorem choose_one (rel : Int) (x : S46) (st : S142) (last tick : Int) (hl : last = -1 ∨ last = 0) : rule_Choose.f 6 rel [x] [st] last tick = some (if st.f0 then 0 else -1) := by
  rcases st with ⟨p, s, m, a⟩
  rcases hl with rfl | rfl
  · cases p <;> simp [rule_Choose.f, rule_Held.f, rule_Held.j0, rule_is.f, rule_Choose.l0, rd_T142, wrap64]
  · cases p <;> cases s <;> simp [rule_Choose.f, rule_Held.f, rule_Held.j0, rule_is.f, rule_Choose.l0, rule_waits.f, rule_waits.l0, rd_T142, wrap64]
    split <;> rfl
/-- A job under way: so many ticks went by since it was admitted. -/
structure JI (x : S46) (j : J.Jb) (el : Int) : Prop where
  rs : j.rs = x.f6
  how : j.how = 0
  k : j.k < x.f6.length
  h0 : 0 ≤ j.had
  h1 : j.had < x.f6.getD j.k 0
  al : j.all = el
  e0 : 0 ≤ el
  e1 : el ≤ (x.f6.take j.k).sum + j.had
/-- What is asked of the task. -/
structure TaskB (x : S46) : Prop where
  n1 : 1 ≤ x.f6.length
  n8 : x.f6.length ≤ 8
  r : ∀ i (h : i < x.f6.length), 1 ≤ x.f6[i] ∧ x.f6[i] ≤ 10000
  wd : x.f6.sum ≤ x.f2
  d : x.f2 ≤ 10000
  s7 : 0 ≤ x.f7 ∧ x.f7 < 18446744073709551616
  s8 : 0 ≤ x.f8 ∧ x.f8 < 18446744073709551616
theorem take_at {x : S46} {k : Nat} (h : k < x.f6.length) : (x.f6.take (k + 1)).sum = (x.f6.take k).sum + x.f6.getD k 0 := by
  rw [List.take_succ_eq_append_getElem h, List.sum_append]
  simp [List.getD_eq_getElem?_getD, h]
theorem take_le {x : S46} (hx : TaskB x) (k d : Nat) : (x.f6.take k).sum ≤ (x.f6.take (k + d)).sum := by
  induction d with
  | zero => exact Int.le_refl _
  | succ d ih =>
    by_cases h : k + d < x.f6.length
    · have e := take_at (x := x) (k := k + d) h
      have := (hx.r (k + d) h).1
      have g : x.f6.getD (k + d) 0 = x.f6[k + d] := by simp [List.getD_eq_getElem?_getD, h]
      rw [show k + (d + 1) = k + d + 1 from rfl, e, g]
      omega
    · have e : x.f6.take (k + (d + 1)) = x.f6.take (k + d) := by rw [List.take_of_length_le (by omega), List.take_of_length_le (by omega)]
      rw [e]
      exact ih
theorem take_all {x : S46} (hx : TaskB x) (k : Nat) (h : k ≤ x.f6.length) : (x.f6.take k).sum ≤ x.f6.sum := by
  have := take_le hx k (x.f6.length - k)
  rwa [show k + (x.f6.length - k) = x.f6.length from by omega, List.take_length] at this
/-- A job under way is within its work. -/
theorem JI.lt {x : S46} {j : J.Jb} {el : Int} (hx : TaskB x) (h : JI x j el) : el < x.f6.sum := by
  have e := take_at h.k
  have := take_all hx (j.k + 1) h.k
  have := h.h1
  have := h.e1
  omega
theorem tick_JI {x : S46} {j : J.Jb} {el : Int} (hx : TaskB x) (h : JI x j el) :
    (((J.tick j).2.2 = 0 ∨ (J.tick j).2.2 = 1) ∧ JI x (J.tick j).1 (el + 1)) ∨ (((J.tick j).2.2 = 2 ∨ (J.tick j).2.2 = 3) ∧ el + 1 ≤ x.f6.sum) := by
  have hlt := h.lt hx
  have hk := h.k
  have hs := take_at h.k
  have h0 := h.h0
  have h1 := h.h1
  have e1 := h.e1
  have e0 := h.e0
  unfold J.tick
  rw [if_neg (by rw [h.how]; simp)]
  split
  · split
    · exact .inr ⟨.inl rfl, by omega⟩
    · rename_i hn
      have hn' : j.k + 1 < x.f6.length := by rw [h.rs] at hn; omega
      have hg : x.f6.getD (j.k + 1) 0 = x.f6[j.k + 1] := by simp [List.getD_eq_getElem?_getD, hn']
      have := (hx.r _ hn').1
      exact .inl ⟨.inr rfl, h.rs, rfl, hn', Int.le_refl _, by rw [hg]; simp only; omega, by simp only; rw [h.al], by omega, by simp only; rw [hs]; omega⟩
  · split
    · exact .inr ⟨.inr rfl, by omega⟩
    · rename_i hn
      rw [h.rs] at hn
      exact .inl ⟨.inl rfl, h.rs, rfl, hk, by simp only; omega, by simp only; omega, by simp only; rw [h.al], by omega, by simp only; omega⟩
theorem jb0_JI {x : S46} (hx : TaskB x) (dm : List Int) : JI x (J.jb0 x.f6 dm) 0 := by
  have h1 : 0 < x.f6.length := hx.n1
  have hg : x.f6.getD 0 0 = x.f6[0] := by simp [List.getD_eq_getElem?_getD, h1]
  exact ⟨rfl, rfl, h1, Int.le_refl _, by simp only [J.jb0]; rw [hg]; have := (hx.r 0 h1).1; omega, rfl, Int.le_refl _, by simp [J.jb0]⟩
theorem JI.ok {x : S46} {j : J.Jb} {el : Int} (hx : TaskB x) (h : JI x j el) : JobOk j := by
  have hlt := h.lt hx
  have := hx.wd
  have := hx.d
  have hg : x.f6.getD j.k 0 = x.f6[j.k]'h.k := by simp [List.getD_eq_getElem?_getD, h.k]
  have := (hx.r _ h.k).2
  have := h.h1
  exact ⟨fun _ => by rw [h.rs]; exact h.k, by rw [h.rs]; exact hx.n8, h.h0, by rw [hg] at this; omega, by rw [h.al]; exact h.e0, by rw [h.al]; omega⟩
/-- An event that the law allows. -/
def EvG (W : Int) (e : Ev) : Prop := e.kind ≠ 3 ∧ e.kind ≠ 5 ∧ (e.kind = 8 ∨ e.kind = 9 → e.n ≤ W)
theorem evg1 {W : Int} {a : Ev} (h : EvG W a) : ∀ e ∈ [a], EvG W e := by simpa using h
/-- A kernel of one task. -/
structure One (x : S46) (st : T.St) (K : Kst) : Prop where
  tk : K.tk = [x]
  t0 : 0 ≤ K.tick
  last : K.last = -1 ∨ K.last = 0
  pol : K.pol.length = 1 ∧ P.OkL K.pol
  loads : K.loads = [0]
  jl : K.job.length = 1
  tab : K.tab = [st]
  a0 : 0 ≤ st.a
  a1 : st.a ≤ K.tick
  pd : st.p = true → (st.s = true → K.last = 0) ∧ JI x (K.job1 0) (K.tick - st.a)
  ev : ∀ e ∈ K.ev, EvG x.f6.sum e
section
variable {x : S46} {st : T.St} {K : Kst}
theorem One.plus (h : One x st K) (l : List Ev) (hl : ∀ e ∈ l, EvG x.f6.sum e) : One x st (K.plus l) :=
  ⟨h.tk, h.t0, h.last, h.pol, h.loads, h.jl, h.tab, h.a0, h.a1, h.pd, fun e he => by
    rcases List.mem_append.1 he with he | he
    · exact h.ev e he
    · exact hl e he⟩
theorem One.kok (h : One x st K) (hx : TaskB x) (h1 : K.tick ≤ 1099511627776) : KOk K := by
  have htk := h.tk
  have htab := h.tab
  refine ⟨h.t0, h1, fun y hy => ?_, fun y hy => ?_, fun y hy => ?_, h.pol.2, fun y hy => ?_⟩
  · rw [htk] at hy
    obtain rfl : y = x := by simpa using hy
    refine ⟨hx.n1, hx.n8, ?_⟩
    rw [List.any_eq_false]
    intro z hz
    obtain ⟨i, hi, rfl⟩ := List.getElem_of_mem hz
    have := hx.r i hi
    simp [J.odd]
    omega
  · rw [htk] at hy
    obtain rfl : y = x := by simpa using hy
    have := take_all hx 0 (Nat.zero_le _)
    have := hx.wd
    have := hx.d
    simp at *
    omega
  · rw [htab] at hy
    obtain rfl : y = st := by simpa using hy
    exact ⟨h.a0, h.a1⟩
  · rw [htk] at hy
    obtain rfl : y = x := by simpa using hy
    exact ⟨hx.s7.1, hx.s7.2, hx.s8.1, hx.s8.2⟩
theorem note_len (L : List P.Wt) (i t : Int) : (P.noteL L i t).length = L.length := by
  unfold P.noteL
  split
  · simp [P.noteAt]
  · rfl
theorem one_arrive (hx : TaskB x) (h : One x st K) (h1 : K.tick ≤ 1099511627776) (D : List (List Int)) (i : Nat) : ∃ st', One x st' (arriveK D K i) := by
  have hok := ((h.kok hx h1).arrive D i).pol
  revert hok
  unfold arriveK
  split
  · exact fun _ => ⟨st, h⟩
  · rename_i hi
    rw [h.tk] at hi
    obtain rfl : i = 0 := by simp at hi; omega
    split
    · exact fun _ => ⟨st, h.plus _ (evg1 (by simp [EvG]))⟩
    · split
      · rename_i _ hp
        intro hok
        have hj0 : 0 < K.job.length := by rw [h.jl]; exact Nat.zero_lt_one
        have e1 : T.putL K.tab (0 : Nat) K.tick = [⟨true, false, false, K.tick⟩] := by
          unfold T.putL
          rw [if_pos hp, h.tab]
          rfl
        refine ⟨⟨true, false, false, K.tick⟩, h.tk, h.t0, h.last, ⟨(note_len _ _ _).trans h.pol.1, hok⟩, ?_, ?_, e1, h.t0, Int.le_refl _, fun _ => ⟨fun h => by simp at h, ?_⟩, ?_⟩
        · simp [admitK, h.loads]
        · simp [admitK, h.jl]
        · have e2 : (admitK K (D.getD 0 []) 0).job1 0 = J.jb0 x.f6 (D.getD 0 []) := by
            simp [admitK, Kst.job1, List.getD_eq_getElem?_getD, hj0, h.tk]
          rw [e2, show (admitK K (D.getD 0 []) 0).tick - K.tick = 0 from by simp [admitK]]
          exact jb0_JI hx _
        · intro e he
          rcases List.mem_append.1 he with he | he
          · exact h.ev e he
          · exact evg1 (by simp [EvG]) e he
      · exact fun _ => ⟨st, h.plus _ (evg1 (by simp [EvG]))⟩
theorem one_fold (hx : TaskB x) (D : List (List Int)) : ∀ (l : List Nat) {K : Kst} {st : T.St}, One x st K → K.tick ≤ 1099511627776 → ∃ st', One x st' (l.foldl (arriveK D) K)
  | [], _, st, h, _ => ⟨st, h⟩
  | i :: l, K, st, h, h1 => by
    obtain ⟨st', h'⟩ := one_arrive hx h h1 D i
    exact one_fold hx D l h' (by rw [(arriveK_tk D K i).2.1]; exact h1)
theorem one_late (hx : TaskB x) (h : One x st K) : lateL K K.tk.length = [] := by
  rw [h.tk]
  show lateL K 1 = []
  rw [lateL_succ]
  have e0 : lateL K 0 = [] := rfl
  rw [e0, List.nil_append]
  unfold lateAt
  rw [h.tab, h.tk]
  have e1 : T.getL [st] ((0 : Nat) : Int) = st := rfl
  rw [e1]
  split
  · rename_i hc
    simp at hc
    have := (h.pd hc.1).2.lt hx
    have := hx.wd
    omega
  · rfl
theorem one_came (hx : TaskB x) (h : One x st K) (h1 : K.tick ≤ 1099511627776) (D : List (List Int)) (arr : Nat) : ∃ st', One x st' (cameK K D arr) := by
  have h0 : One x st { K with ev := [] } := ⟨h.tk, h.t0, h.last, h.pol, h.loads, h.jl, h.tab, h.a0, h.a1, h.pd, fun e he => by simp at he⟩
  have hl := one_late hx h0
  unfold cameK
  rw [hl, Kst.plus_nil]
  exact one_fold hx D _ h0 h1
/-- Whose turn it is. -/
def whoOne (K2 : Kst) : Int := if pdOf K2 0 then 0 else -1
theorem one_choose (h : One x st K) : rule_Choose.f 6 K.reload K.tk (K.tab.map s142) K.last K.tick = some (whoOne K) := by
  rw [h.tk, h.tab]
  show rule_Choose.f 6 K.reload [x] [s142 st] K.last K.tick = _
  rw [choose_one _ _ _ _ _ h.last]
  unfold whoOne pdOf
  rw [h.tab]
  rfl
theorem one_fit (hx : TaskB x) (h : One x st K) : whoOne K = -1 ∨ ∃ i : Nat, whoOne K = i ∧ Fit K i := by
  unfold whoOne
  have e : pdOf K 0 = st.p := by unfold pdOf; rw [h.tab]; rfl
  cases hp : pdOf K 0 with
  | false => exact .inl rfl
  | true =>
    refine .inr ⟨0, rfl, ?_⟩
    rw [e] at hp
    have hpd := h.pd hp
    have hst : T.stateL K.tab ((0 : Nat) : Int) = st := by
      rw [h.tab]
      unfold T.stateL
      rw [show T.hasL [st] ((0 : Nat) : Int) = st.p from by simp [T.hasL], hp]
      rfl
    refine ⟨by rw [h.tk]; exact Nat.zero_lt_one, by rw [e, hp], ?_, ?_, hpd.2.ok hx, by rw [h.loads]; simp, by rw [h.loads]; simp⟩
    · rcases h.last with hl | hl
      · right
        rw [hl]
        unfold T.stateL
        rw [T.hasL_neg (by omega)]
        rfl
      · exact .inl hl
    · rw [hst]
      cases hs : st.s with
      | false => exact .inl rfl
      | true => exact .inr (hpd.1 hs)
theorem drop_one {st : T.St} (hp : st.p = true) : T.dropL [st] ((0 : Nat) : Int) = [⟨false, false, false, 0⟩] := by
  unfold T.dropL
  rw [show T.hasL [st] ((0 : Nat) : Int) = st.p from by simp [T.hasL], hp]
  rfl
theorem mid_one {st : T.St} (hp : st.p = true) (b : Bool) : T.midL [st] ((0 : Nat) : Int) b = [⟨true, st.s, b, st.a⟩] := by
  unfold T.midL
  rw [show T.hasL [st] ((0 : Nat) : Int) = st.p from by simp [T.hasL], if_pos hp]
  rw [show T.getL [st] ((0 : Nat) : Int) = st from rfl, hp]
  rfl
theorem begin_one {st : T.St} (hp : st.p = true) : T.beginL [st] ((0 : Nat) : Int) = [⟨true, true, st.m, st.a⟩] := by
  unfold T.beginL
  rw [show T.hasL [st] ((0 : Nat) : Int) = st.p from by simp [T.hasL], if_pos hp]
  rw [show T.getL [st] ((0 : Nat) : Int) = st from rfl, hp]
  rfl
theorem state_one {st : T.St} (hp : st.p = true) : T.stateL [st] ((0 : Nat) : Int) = st := by
  unfold T.stateL
  rw [show T.hasL [st] ((0 : Nat) : Int) = st.p from by simp [T.hasL], if_pos hp]
  rfl
theorem ev_app {W : Int} {L M : List Ev} (h : ∀ e ∈ L, EvG W e) (h' : ∀ e ∈ M, EvG W e) : ∀ e ∈ L ++ M, EvG W e := by
  intro e he
  rcases List.mem_append.1 he with he | he
  · exact h e he
  · exact h' e he
theorem end_how {W : Int} {K3 : Kst} {how r : Int} (h : ∀ e ∈ K3.ev, EvG W e) : ∀ e ∈ (if how = 1 ∨ how = 2 then K3.plus [⟨K3.tick, 7, ((0 : Nat) : Int), r⟩] else K3).ev, EvG W e := by
  split
  · exact ev_app h (evg1 (by simp [EvG]))
  · exact h
theorem one_runs (hx : TaskB x) (htk : K.tk = [x]) (t0 : 0 ≤ K.tick) (hpol : K.pol.length = 1 ∧ P.OkL K.pol) (hloads : K.loads = [0]) (hjl : K.job.length = 1) (htab : K.tab = [st]) (hp : st.p = true) (hs : st.s = true) (a0 : 0 ≤ st.a) (a1 : st.a ≤ K.tick)
    (hj : JI x (K.job1 0) (K.tick - st.a)) (hev : ∀ e ∈ K.ev, EvG x.f6.sum e) (touch : Nat) : ∃ st', One x st' (nextK (runsK K 0 touch) 0) ∧ (st'.p = true → st'.s = true) := by
  have hj0 : 0 < K.job.length := by omega
  unfold runsK
  simp only
  rw [if_neg (by rw [hloads]; simp), htab, mid_one hp]
  generalize htt : (J.tick (K.job1 0)) = tt
  have hti := tick_JI hx hj
  rw [htt] at hti
  obtain ⟨j, r, how⟩ := tt
  simp only at hti ⊢
  unfold endK
  simp only
  rcases hti with ⟨hh, hji⟩ | ⟨hh, hle⟩
  · rw [if_neg (by omega : ¬ how = 2), if_neg (by omega : ¬ how = 3)]
    refine ⟨⟨true, st.s, decide (0 < j.had), st.a⟩, ?_, fun _ => hs⟩
    have e : ∀ K3 : Kst, (if how = 1 ∨ how = 2 then K3.plus [⟨K3.tick, 7, ((0 : Nat) : Int), r⟩] else K3) = { K3 with ev := (if how = 1 ∨ how = 2 then K3.plus [⟨K3.tick, 7, ((0 : Nat) : Int), r⟩] else K3).ev } := by
      intro K3
      split <;> rfl
    rw [e]
    refine ⟨htk, by simp only [nextK]; omega, .inr rfl, hpol, hloads, by simp [nextK, hjl], rfl, a0, by simp only [nextK]; omega, fun _ => ⟨fun _ => rfl, ?_⟩, ?_⟩
    · have e1 : K.tick + 1 - st.a = K.tick - st.a + 1 := by omega
      simp only [nextK, Kst.job1, e1]
      rw [show (K.job.set 0 j).getD 0 ⟨[], [], 0, 0, 0, 0⟩ = j from by simp [List.getD_eq_getElem?_getD, hj0]]
      exact hji
    · exact end_how hev
  · refine ⟨⟨false, false, false, 0⟩, ?_, fun h => by simp at h⟩
    have ht : K.tick + 1 - (T.stateL [(⟨true, st.s, decide (0 < j.had), st.a⟩ : T.St)] ((0 : Nat) : Int)).a ≤ x.f6.sum := by
      rw [state_one rfl]
      simp only
      omega
    have hE : ∀ (kd : Int), kd ≠ 3 → kd ≠ 5 → ∀ K3 : Kst, (∀ e ∈ K3.ev, EvG x.f6.sum e) → ∀ e ∈ (K3.plus [⟨K.tick, kd, ((0 : Nat) : Int), K.tick + 1 - (T.stateL [(⟨true, st.s, decide (0 < j.had), st.a⟩ : T.St)] ((0 : Nat) : Int)).a⟩]).ev, EvG x.f6.sum e := by
      intro kd h3 h5 K3 h
      exact ev_app h (evg1 ⟨h3, h5, fun _ => ht⟩)
    rcases hh with rfl | rfl
    · rw [if_pos (show (2 : Int) = 1 ∨ (2 : Int) = 2 from .inr rfl), if_pos (rfl : (2 : Int) = 2)]
      exact ⟨htk, by simp only [nextK, Kst.plus]; omega, .inr rfl, hpol, hloads, by simp [nextK, Kst.plus, hjl], drop_one (st := ⟨true, st.s, decide (0 < j.had), st.a⟩) rfl, Int.le_refl _, by simp only [nextK, Kst.plus]; omega, fun h => by simp at h, hE 8 (by decide) (by decide) _ (ev_app hev (evg1 (by simp [EvG])))⟩
    · rw [if_neg (show ¬ ((3 : Int) = 1 ∨ (3 : Int) = 2) by decide), if_neg (show ¬ (3 : Int) = 2 by decide), if_pos (rfl : (3 : Int) = 3)]
      exact ⟨htk, by simp only [nextK, Kst.plus]; omega, .inr rfl, hpol, hloads, by simp [nextK, Kst.plus, hjl], drop_one (st := ⟨true, st.s, decide (0 < j.had), st.a⟩) rfl, Int.le_refl _, by simp only [nextK, Kst.plus]; omega, fun h => by simp at h, hE 9 (by decide) (by decide) _ hev⟩
theorem one_ran (hx : TaskB x) (h : One x st K) (touch : Nat) : ∃ st', One x st' (nextK (ranK K (whoOne K) touch) (whoOne K)) ∧ (st'.p = true → st'.s = true) := by
  have e : pdOf K 0 = st.p := by unfold pdOf; rw [h.tab]; rfl
  unfold whoOne
  cases hp : pdOf K 0 with
  | false =>
    rw [e] at hp
    rw [if_neg (by simp)]
    unfold ranK
    rw [if_pos rfl]
    have ht := h.t0
    have ha := h.a1
    have h2 := h.plus [⟨K.tick, 10, -1, 0⟩] (evg1 (by simp [EvG]))
    refine ⟨st, ⟨h2.tk, by simp only [nextK, Kst.plus]; omega, .inl rfl, h2.pol, h2.loads, h2.jl, h2.tab, h2.a0, by simp only [nextK, Kst.plus]; omega, fun h => by rw [hp] at h; simp at h, h2.ev⟩, fun h => by rw [hp] at h; simp at h⟩
  | true =>
    rw [e] at hp
    rw [if_pos rfl]
    unfold ranK
    rw [if_neg (by decide)]
    have hpd := h.pd hp
    show ∃ st', One x st' (nextK (runsK (turnsA K 0) 0 touch) 0) ∧ _
    cases hs : st.s with
    | true =>
      have e2 : turnsA K 0 = K := by
        unfold turnsA
        rw [h.tab, state_one hp, hs]
        rfl
      rw [e2]
      exact one_runs hx h.tk h.t0 h.pol h.loads h.jl h.tab hp hs h.a0 h.a1 hpd.2 h.ev touch
    | false =>
      have e2 : turnsA K 0 = { K.plus [⟨K.tick, 4, ((0 : Nat) : Int), 0⟩] with tab := [⟨true, true, st.m, st.a⟩] } := by
        unfold turnsA
        rw [h.tab, state_one hp, hs, begin_one hp]
        rfl
      rw [e2]
      exact one_runs (K := { K.plus [⟨K.tick, 4, ((0 : Nat) : Int), 0⟩] with tab := [⟨true, true, st.m, st.a⟩] }) (st := ⟨true, true, st.m, st.a⟩) hx h.tk h.t0 h.pol h.loads h.jl rfl rfl rfl h.a0 h.a1 hpd.2 (ev_app h.ev (evg1 (by simp [EvG]))) touch
end
end Go.Proofs.YtdgfjpbjiccllaaGreatDoor
/- One task alone: it runs through inputs. -/
namespace Go.Proofs.YtdgfjpbjiccllaaGreatDoor
open Go.RowKit
open Go.Proofs.YtdgfjpbjiccllaaGreatDoorW.PrintWords Go.Proofs.YtdgfjpbjiccllaaGreatDoorW.PrintLast Go.Proofs.YtdgfjpbjiccllaaGreatDoorW.PrintMore
open Go.Proofs.YtdgfjpbjiccllaaGreatDoor.PTopLoads
set_option maxRecDepth 100000
/-- A tick of a kernel of one task. -/
def oneF (K : Kst) (i : S57) : Kst := nextK (ranK (cameK K i.f1 i.f0.toNat) (whoOne (cameK K i.f1 i.f0.toNat)) i.f2.toNat) (whoOne (cameK K i.f1 i.f0.toNat))
/-- An input that is taken. -/
structure InB (i : S57) : Prop where
  a : 0 ≤ i.f0 ∧ i.f0 < 18446744073709551616
  t : 0 ≤ i.f2 ∧ i.f2 < 18446744073709551616
  d : i.f1.length ≤ 20
structure InvO (x : S46) (i : Nat) (K : Kst) : Prop where
  one : ∃ st, One x st K ∧ (st.p = true → st.s = true)
  tick : K.tick = i
theorem run_len (K : Kst) (i touch : Nat) : (runsK K i touch).ev.length ≤ K.ev.length + 2 := by
  unfold runsK
  simp only
  split
  · simp only; omega
  · unfold endK
    simp only
    split <;> split <;> (try split) <;> simp only [Kst.plus, List.length_append, List.length_cons, List.length_nil] <;> omega
theorem one_next {x : S46} (hx : TaskB x) {i : Nat} {K : Kst} (h : InvO x i K) (hi : i ≤ 1000) (u : S57) : InvO x (i + 1) (oneF K u) ∧ (oneF K u).ev.length ≤ 1000 := by
  obtain ⟨st, h1, h2⟩ := h.one
  have ht := h.tick
  obtain ⟨st2, hc⟩ := one_came hx h1 (by omega) u.f1 u.f0.toNat
  obtain ⟨st3, h3, h4⟩ := one_ran hx hc u.f2.toNat
  have htk : (cameK K u.f1 u.f0.toNat).tick = K.tick := (fold_tk u.f1 _ _).2.1
  have hl : (cameK K u.f1 u.f0.toNat).ev.length ≤ 65 := by
    have h0 : One x st { K with ev := [] } := ⟨h1.tk, h1.t0, h1.last, h1.pol, h1.loads, h1.jl, h1.tab, h1.a0, h1.a1, h1.pd, fun e he => by simp at he⟩
    have := fold_len u.f1 (bitsL u.f0.toNat) (({ K with ev := [] } : Kst).plus (lateL { K with ev := [] } K.tk.length))
    have h64 : (bitsL u.f0.toNat).length ≤ 64 := bitsF_len 64 _
    have e := one_late hx h0
    unfold cameK
    rw [e, Kst.plus_nil] at this ⊢
    simp only [List.length_nil] at this
    omega
  refine ⟨⟨⟨st3, h3, h4⟩, ?_⟩, ?_⟩
  · unfold oneF nextK ranK
    simp only
    split
    · simp only [Kst.plus]; rw [htk, ht]; omega
    · rw [runs_tick, (turns_tk _ _).2.2.1, htk, ht]; omega
  · unfold oneF nextK ranK
    simp only
    split
    · simp only [Kst.plus, List.length_append, List.length_cons, List.length_nil]; omega
    · have a := run_len (turnsA (cameK K u.f1 u.f0.toNat) (whoOne (cameK K u.f1 u.f0.toNat)).toNat) (whoOne (cameK K u.f1 u.f0.toNat)).toNat u.f2.toNat
      have b := (turns_tk (cameK K u.f1 u.f0.toNat) (whoOne (cameK K u.f1 u.f0.toNat)).toNat).2.2.2
      omega
theorem one_steps {x : S46} (hx : TaskB x) {W : World} {B : Nat} {l : List S57} (hl : l.length ≤ 1000) (hin : ∀ u ∈ l, InB u) (hBW : B ≤ W.heap.size) (hB0 : 0 < B) (hT : DeB W) : Steps W B l oneF (InvO x) := by
  refine ⟨fun i K u hu h => one_next hx h ?_ u, fun i K u hu h E0 E w kp A jv ev DA dc hb hk hBE hEw hD => ?_⟩
  · have := (List.getElem?_eq_some_iff.1 hu).1
    omega
  · have hil := (List.getElem?_eq_some_iff.1 hu).1
    obtain ⟨st, h1, _⟩ := h.one
    have ht := h.tick
    have hub := hin u (List.mem_of_getElem? hu)
    obtain ⟨st2, hc⟩ := one_came hx h1 (by omega) u.f1 u.f0.toNat
    have ea : ((u.f0.toNat : Nat) : Int) = u.f0 := Int.toNat_of_nonneg hub.a.1
    have et : ((u.f2.toNat : Nat) : Int) = u.f2 := Int.toNat_of_nonneg hub.t.1
    have := step_post (E := E) (D := u.f1) (dc := dc) u.f0.toNat u.f2.toNat (by have := hub.a.2; omega) (by have := hub.t.2; omega) hb hBW hB0 hT hD hub.d hk hBE hEw (h1.kok hx (by omega)) (by omega) (whoOne (cameK K u.f1 u.f0.toNat)) ⟨6, one_choose hc⟩ (one_fit hx hc)
    rw [ea, et] at this
    exact this
/-- All events of a kernel of one task are such as the law allows. -/
theorem one_evs {x : S46} (hx : TaskB x) : ∀ (l : List S57) (i : Nat) (K : Kst), InvO x i K → i + l.length ≤ 1000 → ∀ e ∈ runE oneF K l, EvG x.f6.sum e
  | [], _, _, _, _ => by simp [runE]
  | u :: l, i, K, h, hi => by
    simp only [List.length_cons] at hi
    have hn := one_next hx h (by omega) u
    simp only [runE]
    obtain ⟨st, h3, _⟩ := hn.1.one
    exact ev_app h3.ev (one_evs hx l (i + 1) _ hn.1 (by omega))
theorem one_begin {x : S46} (rel : Int) (z : Int) : InvO x 0 ⟨rel, [x], 0, -1, [P.mkW z], List.replicate 64 0, T.zeros 1, zs 1, zs 1, List.replicate 1 ⟨[], [], 0, 0, 0, 0⟩, []⟩ := by
  refine ⟨⟨⟨false, false, false, 0⟩, ⟨rfl, Int.le_refl _, .inl rfl, ⟨rfl, ?_⟩, rfl, rfl, rfl, Int.le_refl _, Int.le_refl _, fun h => by simp at h, fun e he => by simp at he⟩, fun h => by simp at h⟩, rfl⟩
  intro y hy
  obtain rfl : y = P.mkW z := by simpa using hy
  exact ⟨Int.le_refl _, by simp [P.mkW]⟩
end Go.Proofs.YtdgfjpbjiccllaaGreatDoor
