/- Joined texts: Fr. -/
import Derived.Test.YtdgfjpbjiccllaaGreatDoorTopAgain06
import Derived.Deep.RegionLaw
namespace Go.Proofs.YtdgfjpbjiccllaaGreatDoor
open Go.RowKit
set_option maxRecDepth 100000
variable {E : Nat}
structure Fr (E : Nat) (ts : List Nat) (B : Nat) (w w' : World) : Prop where
 os : w'.os = w.os
 tape : w'.tape = w.tape
 output : w'.output = w.output
 size : w.heap.size ≤ w'.heap.size
 block : ∀ i, i < w.heap.size → (i < B ∨ (∀ t ∈ ts, ∀ cs, ¬ Blk w i t cs) ∨ i < E ∧ ∃ cs, Blk w i 50 cs) → w'.heap[i]? = w.heap[i]?
section
variable {ts ts' : List Nat} {B : Nat} {w w1 w' : World}
theorem Fr.refl (ts : List Nat) (B : Nat) (w : World) : Fr E ts B w w := ⟨rfl, rfl, rfl, Nat.le_refl _, fun _ _ _ => rfl⟩
theorem Fr.trans (h : Fr E ts B w w1) (h' : Fr E ts B w1 w') : Fr E ts B w w' := by
 refine ⟨h'.os.trans h.os, h'.tape.trans h.tape, h'.output.trans h.output, Nat.le_trans h.size h'.size, fun i hi hc => ?_⟩
 have e := h.block i hi hc
 refine (h'.block i (Nat.lt_of_lt_of_le hi h.size) ?_).trans e
 rcases hc with hc | hc | ⟨hE, cs, hc⟩
 ·exact .inl hc
 ·refine .inr (.inl fun t ht cs hb => hc t ht cs ?_)
  unfold Blk at hb ⊢
  rw [← e]
  exact hb
 ·exact .inr (.inr ⟨hE, cs, e.trans hc⟩)
theorem Fr.mono (h : Fr E ts B w w') (hs : ∀ t ∈ ts, t ∈ ts') : Fr E ts' B w w' := ⟨h.os, h.tape, h.output, h.size, fun i hi hc => h.block i hi (hc.imp_right fun hc => hc.imp_left fun hc t ht => hc t (hs t ht))⟩
theorem Fr.drewN (h : Fr E ts B w w') (n : Nat) : Fr E ts B w (w'.drewN n) := ⟨h.os, h.tape, h.output, h.size, h.block⟩
theorem Fr.drew (h : Fr E ts B w w') : Fr E ts B w w'.drew := ⟨h.os, h.tape, h.output, h.size, h.block⟩
theorem Fr.of_grown {row : Option Nat} (h : w.grownBy w' row) (hr : ∀ g, row = some g → B ≤ g ∧ ∃ t ∈ ts, ∃ cs, Blk w g t cs ∧ (t = 50 → E ≤ g)) : Fr E ts B w w' := by
 refine ⟨h.os, h.tape, h.output, h.size, fun i hi hc => h.block i hi ?_⟩
 intro e
 obtain ⟨h1, t, ht, cs, hb, h50⟩ := hr i e.symm
 rcases hc with hc | hc | ⟨hE, cs', hc⟩
 ·omega
 ·exact hc t ht cs hb
 ·rcases Nat.decEq t 50 with hne | he
  ·exact Blk.ne_ hb hc hne rfl
  ·have := h50 he
   omega
theorem Fr.of_none (h : w.grownBy w' none) : Fr E ts B w w' := Fr.of_grown h (fun g e => by cases e)
theorem Fr.of_below (h : Below w.heap.size w w') : Fr E ts B w w' := Fr.of_none (only_of_below h none)
theorem Fr.of_own {e size n : Nat} {v : Value} {xs : List Value} {base : Nat} (h : w.grownBy w' v.ownBlock) (ho : w.ownsRow base e size v n xs) (hB : B ≤ base) (he : e ∈ ts) (h50 : e = 50 → E ≤ base := by (intro h; exact absurd h (by decide))) : Fr E ts B w w' := by
 refine Fr.of_grown h fun g hg => ?_
 rcases ho.2 with ⟨rfl, _⟩ | ⟨k, c, cur, rfl, hk, hh, _⟩
 ·simp [Value.ownBlock] at hg
 ·have : k = g := by simpa [Value.ownBlock] using hg
  subst this
  exact ⟨by omega, e, he, cur, hh, fun h => Nat.le_trans (h50 h) hk⟩
theorem Fr.of_blk {g t : Nat} {cs : Array Value} (h : w.grownBy w' (some g)) (hb : Blk w g t cs) (hB : B ≤ g) (ht : t ∈ ts) (h50 : t = 50 → E ≤ g := by (intro h; exact absurd h (by decide))) : Fr E ts B w w' :=
 Fr.of_grown h fun k hk => by
  injection hk with hk
  subst hk
  exact ⟨hB, t, ht, cs, hb, h50⟩
theorem Fr.below (h : Fr E ts B w w') {C : Nat} (hC : C ≤ B) (hB : C ≤ w.heap.size) : Below C w w' := ⟨h.os, h.tape, h.output, h.size, fun i hi => h.block i (Nat.lt_of_lt_of_le hi hB) (.inl (Nat.lt_of_lt_of_le hi hC))⟩
theorem Blk.fr {g t : Nat} {cs : Array Value} (h : Blk w g t cs) (hf : Fr E ts B w w') (ht : t ∉ ts) : Blk w' g t cs := by
 refine (hf.block g h.lt (.inr (.inl fun t' ht' cs' hb => ?_))).trans h
 by_cases e : t = t'
 ·exact ht (e ▸ ht')
 ·exact Blk.ne_ h hb e rfl
theorem own_fr {base e size n : Nat} {v : Value} {xs : List Value} (h : w.ownsRow base e size v n xs) (hf : Fr E ts B w w') (ht : e ∉ ts) : w'.ownsRow base e size v n xs := by
 refine ⟨h.1, ?_⟩
 rcases h.2 with h0 | ⟨g, c, cur, rfl, hb, hh, rest⟩
 ·exact .inl h0
 ·exact .inr ⟨g, c, cur, rfl, hb, Blk.fr hh hf ht, rest⟩
end
theorem blk_grown {w w' : World} {g t : Nat} {cs : Array Value} {row : Option Nat} (hb : w.grownBy w' row) (h : Blk w g t cs) (hg : some g ≠ row) : Blk w' g t cs := h.grown hb hg
theorem fr_grown {w w' : World} {base e size n B : Nat} {v : Value} {xs : List Value} {ts : List Nat} (hb : w.grownBy w' v.ownBlock) (h : w.ownsRow base e size v n xs) (hB : B ≤ base) (he : e ∈ ts) (h50 : e = 50 → E ≤ base := by (intro h; exact absurd h (by decide))) : Fr E ts B w w' := Fr.of_own hb h hB he h50
theorem own_shape {w : World} {base e size n : Nat} {v : Value} {xs : List Value} (h : w.ownsRow base e size v (n + 1) xs) : ∃ g c, v = .slice (some ⟨g, 0, none⟩) (n + 1) c := by
 rcases h.2 with ⟨_, h0⟩ | ⟨g, c, cur, h0, _⟩
 ·omega
 ·exact ⟨g, c, h0⟩
theorem own_far {w : World} {base : Nat} {e : TypeId} {size n : Nat} {v : Value} {xs : List Value} (h : w.ownsRow base e size v n xs) {p : Nat} {o : Nat} (hp : v.ownBlock ≠ some p) (u : Value) : (w.setCell ⟨p, o, none⟩ u).ownsRow base e size v n xs := by
 refine ⟨h.1, ?_⟩
 rcases h.2 with h0 | ⟨g, cap, cur, rfl, hb, hh, rest⟩
 ·exact .inl h0
 ·exact .inr ⟨g, cap, cur, rfl, hb, (Below.heap_setCell w ⟨p, o, none⟩ u g (fun e => hp (by simp [Value.ownBlock]; exact e))).trans hh, rest⟩
theorem step_append_own_at {P : Program} {ops : Array Oper} {o : Oper} {a : Act} {w : World} {K : Act → World → Prop} {Q : Exit → Act → World → Prop} {E : Prop} (hgd : o.guard = none) (s x : Operand) (t : TypeId)
  (ho : o.op = .call { callee := .builtin .append, args := #[s, x], argTypes := #[t, t] })
  (base : Nat) (e : TypeId) (i : TypeInfo) (z : Value) (size bytes : Nat) (ht : P.underlying t = some (.slice e)) (hi : P.info? e = some i) (hz : i.zero = some z)
  (hsize : i.size = size) (hby : i.bytes = bytes) (hzs : z.cells.size = size) (hsz : 0 < size)
  (v : Value) (n : Nat) (xs : List Value) (hs : a.eval s = v) (hown : w.ownsRow base e size v n xs)
  (ad : Addr) (m c : Nat) (news : List Value) (hx : a.eval x = .slice (some ad) m c) (hl : news.length = m * size) (hnews : ∀ j u, news[j]? = some u → w.cell? (ad.add j) = some u) (h1 : ∀ u ∈ news, u.oneCell' = true)
  (h63 : n + m ≤ maxLen) (hbytes : (n + m) * bytes ≤ 140737488355328) (hbase : base ≤ w.heap.size)
  (h : ∀ v' w', w'.ownsRow base e size v' (n + m) (xs ++ news) → w.grownBy w' v.ownBlock → (v' = .slice none 0 0 ↔ v = .slice none 0 0 ∧ m = 0) → (v'.ownBlock = v.ownBlock ∨ v'.ownBlock = some w.heap.size) → K (a.put o.dst v') w') :
  if Region.wanted o (yielded ops a.tmps) = true then Oper.wp P o a w K Q else E := by
 have hw : Region.wanted o (yielded ops a.tmps) = true := by simp [Region.wanted, hgd]
 rw [if_pos hw]
 obtain ⟨v', w', hr, h2, h3, h4, h5⟩ := run_append_own_at (P := P) w base t o.type e i z size bytes ht hi hz hsize hby hzs hsz v n xs hown ad m c news hl hnews h1 h63 hbytes hbase
 unfold Oper.wp execOp
 simp only [ho, resolve, invoke, builtin, Sem.run_bind, Sem.run_pure, Result.andThen_ok, List.map_toArray, List.map_cons, List.map_nil, hs, hx, hr]
 exact h v' w' h2 h3 h4 h5
structure Ev where
 tick : Int
 kind : Int
 task : Int
 n : Int
deriving DecidableEq
def Ev.cells (x : Ev) : List Value := [.int .i64 x.tick, .int .i64 x.kind, .int .i64 x.task, .int .i64 x.n]
def evs (L : List Ev) : List Value := L.flatMap Ev.cells
theorem evs_snoc (L : List Ev) (x : Ev) : evs (L ++ [x]) = evs L ++ x.cells := by simp [evs]
theorem Tryz.info50 : (Tryz.prog.info? 50).map (fun i => (i.zero, i.size, i.bytes)) = some (some (.agg #[.int .i64 0, .int .i64 0, .int .i64 0, .int .i64 0]), 4, 32) := by kernel_rfl
theorem cells_new {w : World} {t : Nat} {l : List Value} : ∀ j u, l[j]? = some u → (w.alloc (.cells l.toArray t)).cell? ((⟨w.heap.size, 0, none⟩ : Addr).add j) = some u := by
 intro j u hj
 rw [add_none, Nat.zero_add, (Blk.new w t _).cell j]
 simpa using hj
set_option maxHeartbeats 4000000 in
theorem notes_any {B kp : Nat} {C : Array Value} {v : Value} {L : List Ev} {tick : Int} (kind task n : Int) (w : World) (hd : Blk w kp 97 C) (h2 : C[2]? = some (.int .i64 tick)) (h8 : C[8]? = some v)
  (hv : w.ownsRow E 50 4 v L.length (evs L)) (hB : B ≤ kp) (hBE : B ≤ E) (hE : E ≤ w.heap.size) (hL : L.length ≤ 100000000) :
  Calls Tryz.prog 50 #[.pointer (some ⟨kp, 0, none⟩), .int .i64 kind, .int .i64 task, .int .i64 n] w fun e w' =>
   e = .returned (.tuple #[]) ∧ ∃ v', Blk w' kp 97 (C.setIfInBounds 8 v') ∧ w'.ownsRow E 50 4 v' (L.length + 1) (evs (L ++ [⟨tick, kind, task, n⟩])) ∧ Fr E [97, 50] B w w' := by
 obtain ⟨i0, hi0, hz0, hz1, hz2⟩ := info_parts Tryz.info50
 have Hz0 := Lib.hid hz0; clear hz0
 have Hz1 := Lib.hid hz1; clear hz1
 have Hz2 := Lib.hid hz2; clear hz2
 have Hi := Lib.hid hi0; clear hi0
 have q2 : w.cell? ⟨kp, 2, none⟩ = some (.int .i64 tick) := (hd.cell 2).trans h2
 have q8 : w.cell? ⟨kp, 8, none⟩ = some v := (hd.cell 8).trans h8
 have H8 := Lib.hid h8
 have hlt := hd.lt
 go_enter Tryz.func50, Tryz.ntmps50
 have hB2 : B ≤ w.heap.size := by omega
 have hb2 := Blk.new w 50 #[.int .i64 tick, .int .i64 kind, .int .i64 task, .int .i64 n]
 have hd2 := hd.alloc (.cells #[.int .i64 tick, .int .i64 kind, .int .i64 task, .int .i64 n] 50)
 have hv2 := hv.alloc (.cells #[.int .i64 tick, .int .i64 kind, .int .i64 task, .int .i64 n] 50)
 have hs2 : (w.alloc (.cells #[.int .i64 tick, .int .i64 kind, .int .i64 task, .int .i64 n] 50)).heap.size = w.heap.size + 1 := by simp
 have HV := Lib.hid hv2
 have HD := Lib.hid hd2
 have HB := Lib.hid hb2
 have HS := Lib.hid hs2
 have hne := own_blk_ne hv hd (by decide)
 have HF : Hid (Fr E [97, 50] B w (w.alloc (.cells #[.int .i64 tick, .int .i64 kind, .int .i64 task, .int .i64 n] 50))) := Fr.of_none (only_alloc (World.grownBy.refl _ _) _)
 have HN := Lib.hid hne
 have H1 : Hid (∀ j u, [Value.int .i64 tick, .int .i64 kind, .int .i64 task, .int .i64 n][j]? = some u → (w.alloc (.cells #[.int .i64 tick, .int .i64 kind, .int .i64 task, .int .i64 n] 50)).cell? ((⟨w.heap.size, 0, none⟩ : Addr).add j) = some u) :=
  fun j u hj => by rw [add_none, Nat.zero_add]; exact (hb2.cell j).trans (by simpa using hj)
 have H2 : Hid (∀ u ∈ [Value.int .i64 tick, .int .i64 kind, .int .i64 task, .int .i64 n], u.oneCell' = true) := by
  intro u hu
  simp at hu
  rcases hu with rfl | rfl | rfl | rfl <;> rfl
 have H3 : Hid (L.length + 1 ≤ maxLen) := by unfold Hid maxLen; omega
 have H4 : Hid ((L.length + 1) * 32 ≤ 140737488355328) := by unfold Hid; omega
 have H5 : Hid (E ≤ (w.alloc (.cells #[.int .i64 tick, .int .i64 kind, .int .i64 task, .int .i64 n] 50)).heap.size) := by unfold Hid; omega
 clear hv hd hv2 hd2 hb2 hs2 hne h2 h8
 go_region_law ((refine step_append_own_at rfl (.tmp 12) (.tmp 21) 35 rfl E 50 i0 _ 4 32 Tryz.underlying35 Hi.out Hz0.out Hz1.out Hz2.out rfl (Nat.succ_pos 3) v L.length (evs L) rfl HV.out ⟨w.heap.size, 0, none⟩ 1 1 [.int .i64 tick, .int .i64 kind, .int .i64 task, .int .i64 n] rfl rfl H1.out H2.out H3.out H4.out H5.out ?_; intro v' w' own gr _ wh; obtain ⟨g', m', rfl⟩ := own_shape own; have D := blk_grown gr HD.out (fun e => HN.out e.symm); have c8 : w'.cell? ⟨kp, 8, none⟩ = some v := (D.cell 8).trans H8.out; have f8 := D.frozen 8; have HN2 := own_blk_ne own D (by decide)))
 all_goals
  go_wp2_with fail
  go_end0
  refine ⟨rfl, _, D.set_ 8 _, ?_, ?_⟩
  ·rw [evs_snoc]
   exact own_far own (fun e => HN2 e) _
  ·exact (HF.out.drew.trans (fr_grown gr HV.out hBE (by simp) (fun _ => Nat.le_refl _))).trans (Fr.of_blk (only_setCell (World.grownBy.refl _ _) (.inl rfl) _) D hB (by simp))
end Go.Proofs.YtdgfjpbjiccllaaGreatDoor
