/- Joined texts: New, Fix, Turn2. -/
import Derived.Test.YtdgfjpbjiccllaaGreatDoorTopAgain13
import Derived.Deep.DeepCutAuto
import Derived.Test.YtdgfjpbjiccllaaGreatDoorTopAgain05
import Derived.Test.YtdgfjpbjiccllaaGreatDoorTopAgain10
namespace Go.Proofs.YtdgfjpbjiccllaaGreatDoor
open Go.RowKit
open YtdgfjpbjiccllaaGreatDoorW.PrintWords YtdgfjpbjiccllaaGreatDoorW.PrintLast YtdgfjpbjiccllaaGreatDoorW.PrintMore
open PTopLoads (S46 k46 z46 k46_mk S57 k57)
set_option maxRecDepth 100000
variable {E : Nat}
theorem Tryz.info148 : (Tryz.prog.info? 148).map (fun i => (i.zero, i.size, i.bytes)) = some (some (.agg #[.pointer none, .int .u64 0, .int .i64 0]), 3, 24) := by kernel_rfl
theorem Tryz.info46 : (Tryz.prog.info? 46).map (fun i => (i.zero, i.size, i.bytes)) = some (some (.agg #[.string ⟨#[]⟩, .int .i64 0, .int .i64 0, .int .i64 0, .int .i64 0, .int .i64 0, .slice none 0 0, .int .u64 0, .int .u64 0]), 9, 96) := by kernel_rfl
def Src (w : World) (A : Option Addr) (L : List S46) : Prop :=
 L = [] ∨ ∃ b off, A = some ⟨b, off, none⟩ ∧ b < w.heap.size ∧ ∀ i x, L[i]? = some x → ∃ ra rc, w.cell? ⟨b, off + i * 9, none⟩ = some (.string x.f0) ∧ w.cell? ⟨b, off + i * 9 + 1, none⟩ = some (.int .i64 x.f1) ∧
  w.cell? ⟨b, off + i * 9 + 2, none⟩ = some (.int .i64 x.f2) ∧ w.cell? ⟨b, off + i * 9 + 3, none⟩ = some (.int .i64 x.f3) ∧ w.cell? ⟨b, off + i * 9 + 4, none⟩ = some (.int .i64 x.f4) ∧ w.cell? ⟨b, off + i * 9 + 5, none⟩ = some (.int .i64 x.f5) ∧
  w.cell? ⟨b, off + i * 9 + 6, none⟩ = some (.slice ra x.f6.length rc) ∧ w.cell? ⟨b, off + i * 9 + 7, none⟩ = some (.int .u64 x.f7) ∧ w.cell? ⟨b, off + i * 9 + 8, none⟩ = some (.int .u64 x.f8) ∧ Nums w ra x.f6 ∧ x.f6.length ≤ rc
def nones (n : Nat) : List Value := List.replicate n (.pointer none)
def zs (n : Nat) : List Int := List.replicate n 0
structure KMk (w : World) (B kp cp tp ta oa n : Nat) (rel : Int) (tv : Value) (L : List S46) (R : List Value) : Prop where
 hd : Blk w kp 97 #[.int .i64 rel, tv, .int .i64 0, .int .i64 (-1), .pointer none, .pointer (some ⟨cp, 0, none⟩), .pointer (some ⟨tp, 0, none⟩), .slice (some ⟨oa, 0, none⟩) n n, .slice none 0 0]
 tasks : TasksAt w B tv L R
 cache : CacheAt w cp (List.replicate 64 0)
 tab : T.Tab w 133 tp ta (T.zeros n)
 own : Blk w oa 148 (ocs (nones n) (zs n) (zs n)).toArray
 bk : B ≤ kp
 bc : B ≤ cp
 bt : B ≤ tp
 bta : B ≤ ta
 bo : B ≤ oa
theorem made_own (n : Nat) (h : n ≤ 8) : madeCells (Value.agg #[.pointer none, .int .u64 0, .int .i64 0]).cells (n * 3) = (ocs (nones n) (zs n) (zs n)).toArray := by
 obtain rfl | rfl | rfl | rfl | rfl | rfl | rfl | rfl | rfl : n = 0 ∨ n = 1 ∨ n = 2 ∨ n = 3 ∨ n = 4 ∨ n = 5 ∨ n = 6 ∨ n = 7 ∨ n = 8 := by omega
 all_goals kernel_rfl
theorem make_own (n : Nat) (h : n ≤ 8) (W : World) : (Instr.makeSlice 94 (.int .i64 (n : Int)) (.int .i64 (n : Int))).run Tryz.prog W = .ok (.slice (some ⟨W.heap.size, 0, none⟩) n n) (W.alloc (.cells (ocs (nones n) (zs n) (zs n)).toArray 148)) := by
 obtain ⟨i0, hi0, hz0, hz1, hz2⟩ := info_parts Tryz.info148
 have hr := run_make (P := Tryz.prog) W 94 148 i0 _ Tryz.underlying94 hi0 hz0 .i64 .i64 n n (by omega) (by omega) (by rw [hz2]; omega) (by omega)
 rw [hr, hz1, Int.toNat_natCast, made_own n h]
section
variable {w w' : World} {B kp cp tp ta oa n : Nat} {rel : Int} {tv : Value} {L : List S46} {R : List Value}
theorem KMk.fr {ts : List Nat} {C : Nat} (h : KMk w B kp cp tp ta oa n rel tv L R) (hf : Fr E ts C w w') (ht : ∀ t ∈ [97, 46, 2, 131, 133, 142, 148], t ∉ ts) : KMk w' B kp cp tp ta oa n rel tv L R := by
 have g : ∀ t, t ∈ [97, 46, 2, 131, 133, 142, 148] → t ∉ ts := ht
 exact ⟨h.hd.fr hf (g 97 (by decide)), h.tasks.fr hf (g 46 (by decide)) (g 2 (by decide)), ⟨h.cache.len, h.cache.hd.fr hf (g 131 (by decide))⟩, ⟨h.tab.hd.fr hf (g 133 (by decide)), h.tab.row.fr hf (g 142 (by decide))⟩, h.own.fr hf (g 148 (by decide)), h.bk, h.bc, h.bt, h.bta, h.bo⟩
end
theorem CacheAt.fr {w w' : World} {g : Nat} {X : List Int} {ts : List Nat} {C : Nat} (h : CacheAt w g X) (hf : Fr E ts C w w') (ht : 131 ∉ ts) : CacheAt w' g X := ⟨h.len, h.hd.fr hf ht⟩
theorem CacheAt.alloc {w : World} {g : Nat} {X : List Int} (h : CacheAt w g X) (o : Obj) : CacheAt (w.alloc o) g X := ⟨h.len, h.hd.alloc o⟩
theorem tab_alloc {w : World} {g a : Nat} {X : List T.St} (h : T.Tab w 133 g a X) (o : Obj) : T.Tab (w.alloc o) 133 g a X := ⟨h.hd.alloc o, h.row.alloc o⟩
theorem tab_fr {w w' : World} {g a : Nat} {X : List T.St} {ts : List Nat} {C : Nat} (h : T.Tab w 133 g a X) (hf : Fr E ts C w w') (h1 : 133 ∉ ts) (h2 : 142 ∉ ts) : T.Tab w' 133 g a X := ⟨h.hd.fr hf h1, h.row.fr hf h2⟩
theorem heap_size_alloc' (w : World) (o : Obj) : (w.alloc o).heap.size = w.heap.size + 1 := by simp
theorem drew_size' (w : World) : w.drew.heap.size = w.heap.size := rfl
theorem drew_cell' (w : World) (p : Addr) : w.drew.cell? p = w.cell? p := rfl
theorem KMk.mk_ {w wx : World} {B kp cp tp ta oa n : Nat} (hk : wx.heap.size = kp) (hC : CacheAt wx cp (List.replicate 64 0)) (hT : T.Tab wx 133 tp ta (T.zeros n)) (hO : Blk wx oa 148 (ocs (nones n) (zs n) (zs n)).toArray)
  (b : Below B w wx) (hB : B ≤ wx.heap.size) (bc : B ≤ cp) (bt : B ≤ tp) (ba : B ≤ ta) (bo : B ≤ oa) :
  KMk (wx.alloc (.cells #[.int .i64 0, .slice none 0 0, .int .i64 0, .int .i64 (-1), .pointer none, .pointer (some ⟨cp, 0, none⟩), .pointer (some ⟨tp, 0, none⟩), .slice (some ⟨oa, 0, none⟩) n n, .slice none 0 0] 97)) B kp cp tp ta oa n 0 (.slice none 0 0) [] [] ∧
   Below B w (wx.alloc (.cells #[.int .i64 0, .slice none 0 0, .int .i64 0, .int .i64 (-1), .pointer none, .pointer (some ⟨cp, 0, none⟩), .pointer (some ⟨tp, 0, none⟩), .slice (some ⟨oa, 0, none⟩) n n, .slice none 0 0] 97)) := by
 subst hk
 exact ⟨⟨Blk.new wx 97 _, ⟨rfl, World.ownsRow_nil _ _ _ _, fun i hi => absurd hi (by simp)⟩, ⟨hC.len, hC.hd.alloc _⟩, ⟨hT.hd.alloc _, hT.row.alloc _⟩, hO.alloc _, hB, bc, bt, ba, bo⟩, b.alloc hB _⟩
theorem KMk.rel {w : World} {B kp cp tp ta oa n : Nat} {r0 : Int} (h : KMk w B kp cp tp ta oa n r0 (.slice none 0 0) [] []) (r : Int) :
  KMk ((w.setCell ⟨kp, 0, none⟩ (.int .i64 r)).setCell ⟨kp, 1, none⟩ (.slice none 0 0)) B kp cp tp ta oa n r (.slice none 0 0) [] [] := by
 have hf : Fr 0 [97] B w ((w.setCell ⟨kp, 0, none⟩ (.int .i64 r)).setCell ⟨kp, 1, none⟩ (.slice none 0 0)) :=
  Fr.of_blk (only_setCell (only_setCell (World.grownBy.refl w (some kp)) (p := ⟨kp, 0, none⟩) (.inl rfl) _) (p := ⟨kp, 1, none⟩) (.inl rfl) _) h.hd h.bk (by simp)
 exact ⟨(h.hd.set_ 0 _).set_ 1 _, h.tasks.fr hf (by decide) (by decide), h.cache.fr hf (by decide), tab_fr h.tab hf (by decide) (by decide), h.own.fr hf (by decide), h.bk, h.bc, h.bt, h.bta, h.bo⟩
def tcell (x : S46) (v : Value) : Array Value := #[.string x.f0, .int .i64 x.f1, .int .i64 x.f2, .int .i64 x.f3, .int .i64 x.f4, .int .i64 x.f5, v, .int .u64 x.f7, .int .u64 x.f8]
theorem KMk.per {w w2 : World} {B kp cp tp ta oa n m : Nat} {r : Int} {tv z : Value} {L : List S46} {R : List Value} {xs : List Value} (h : KMk w B kp cp tp ta oa n r tv L R)
  (hz : w.ownsRow B 2 1 z m xs) (gr : w.grownBy w2 z.ownBlock) (ha : ∀ v ∈ R, v.ownBlock ≠ z.ownBlock) : KMk w2 B kp cp tp ta oa n r tv L R := by
 have hf : Fr 0 [2] B w w2 := fr_grown gr hz (Nat.le_refl _) (by simp)
 exact ⟨h.hd.fr hf (by decide), ⟨h.tasks.len, own_fr h.tasks.row hf (by decide), fun i hi => J.own_keep (h.tasks.regs i hi) gr (.inr (ha _ (List.getElem_mem _)))⟩, h.cache.fr hf (by decide), tab_fr h.tab hf (by decide) (by decide), h.own.fr hf (by decide), h.bk, h.bc, h.bt, h.bta, h.bo⟩
theorem KMk.alloc {w : World} {B kp cp tp ta oa n : Nat} {r : Int} {tv : Value} {L : List S46} {R : List Value} (h : KMk w B kp cp tp ta oa n r tv L R) (o : Obj) : KMk (w.alloc o) B kp cp tp ta oa n r tv L R :=
 h.fr (E := 0) (ts := []) (C := 0) (Fr.of_none (only_alloc (World.grownBy.refl w none) o)) (by simp)
theorem own_mono {w : World} {B B' e size n : Nat} {v : Value} {xs : List Value} (h : w.ownsRow B' e size v n xs) (hB : B ≤ B') : w.ownsRow B e size v n xs := by
 refine ⟨h.1, ?_⟩
 rcases h.2 with h0 | ⟨g, c, cur, rfl, hb, rest⟩
 ·exact .inl h0
 ·exact .inr ⟨g, c, cur, rfl, Nat.le_trans hB hb, rest⟩
theorem own_block_lt {w : World} {B e size n g : Nat} {v : Value} {xs : List Value} (h : w.ownsRow B e size v n xs) (hg : v.ownBlock = some g) : g < w.heap.size := (h.lt g hg).2
theorem KMk.app {w w2 : World} {B kp cp tp ta oa n : Nat} {r : Int} {tv v sl : Value} {L : List S46} {R : List Value} {x : S46} {o : Obj} (h : KMk w B kp cp tp ta oa n r tv L R)
  (hs : w.ownsRow B 2 1 sl x.f6.length (J.ints x.f6)) (gr : (w.alloc o).grownBy w2 tv.ownBlock) (own : w2.ownsRow B 46 9 v (L.length + 1) (tcs L R ++ tcells x sl)) (D : Blk w2 kp 97 #[.int .i64 r, tv, .int .i64 0, .int .i64 (-1), .pointer none, .pointer (some ⟨cp, 0, none⟩), .pointer (some ⟨tp, 0, none⟩), .slice (some ⟨oa, 0, none⟩) n n, .slice none 0 0]) :
  KMk (w2.setCell ⟨kp, 1, none⟩ v) B kp cp tp ta oa n r v (L ++ [x]) (R ++ [sl]) ∧ Fr 0 [97, 46] B w (w2.setCell ⟨kp, 1, none⟩ v) := by
 have f1 : Fr 0 [97, 46] B w (w.alloc o) := Fr.of_none (only_alloc (World.grownBy.refl w none) o)
 have f2 : Fr 0 [97, 46] B (w.alloc o) w2 := fr_grown gr (h.tasks.row.alloc o) (Nat.le_refl _) (by simp)
 have f3 : Fr 0 [97, 46] B w2 (w2.setCell ⟨kp, 1, none⟩ v) := Fr.of_blk (only_setCell (World.grownBy.refl w2 (some kp)) (p := ⟨kp, 1, none⟩) (.inl rfl) _) D h.bk (by simp)
 have hf := (f1.trans f2).trans f3
 refine ⟨⟨D.set_ 1 v, ⟨by simp [h.tasks.len], ?_, ?_⟩, h.cache.fr hf (by decide), tab_fr h.tab hf (by decide) (by decide), h.own.fr hf (by decide), h.bk, h.bc, h.bt, h.bta, h.bo⟩, hf⟩
 ·rw [tcs_snoc x sl L R h.tasks.len, List.length_append]
  exact own_far own (own_blk_ne own D (by decide)) _
 ·intro i hi
  rcases Nat.lt_or_ge i L.length with h1 | h1
  ·rw [List.getElem_append_left (by rw [h.tasks.len]; exact h1)]
   simp only [List.getElem_append_left h1]
   exact own_fr (h.tasks.regs i h1) hf (by decide)
  ·have e : i = L.length := by simp at hi; omega
   subst e
   have q1 : (R ++ [sl])[L.length]'(by simp [h.tasks.len]) = sl := by
    rw [List.getElem_append_right (by rw [h.tasks.len]; exact Nat.le_refl _)]
    simp [h.tasks.len]
   rw [q1]
   simp only [List.getElem_append_right (Nat.le_refl _), Nat.sub_self, List.getElem_cons_zero]
   exact own_fr hs hf (by decide)
theorem grown_undrew {w w2 : World} {row : Option Nat} (h : w.drew.grownBy w2 row) : w.grownBy w2 row := ⟨h.os, h.tape, h.output, h.size, h.block⟩
set_option maxHeartbeats 16000000 in
theorem new_any {w : World} {A : Option Addr} {L : List S46} {c : Nat} {rel : Int} (h1 : 1 ≤ L.length) (h8 : L.length ≤ 8) (hS : ∀ w', Below w.heap.size w w' → Src w' A L)
  (hall : ∀ w', Below w.heap.size w w' → Calls Tryz.prog 42 #[.agg #[.int .i64 rel, .slice A L.length c]] w' fun e w2 => e = .returned (.bool true) ∧ Below w'.heap.size w' w2)
  (hok : ∀ x ∈ L, 1 ≤ x.f6.length ∧ x.f6.length ≤ 8 ∧ P.odd x.f1 = false) :
  Calls Tryz.prog 30 #[.agg #[.int .i64 rel, .slice A L.length c]] w fun e w' => ∃ kp A' jv ev, e = .returned (.tuple #[.pointer (some ⟨kp, 0, none⟩), .int .i64 0]) ∧
   KAt w.heap.size w' w.heap.size kp A' jv ev (fun _ => false) ⟨rel, L, 0, -1, L.map fun x => P.mkW x.f1, List.replicate 64 0, T.zeros L.length, zs L.length, zs L.length, List.replicate L.length ⟨[], [], 0, 0, 0, 0⟩, []⟩ ∧ Below w.heap.size w w' := by
 have HS := Lib.hid hS
 have HALL := Lib.hid hall
 have HOK := Lib.hid hok
 obtain ⟨n, hn⟩ : ∃ n, L.length = n := ⟨_, rfl⟩
 have HN := Lib.hid hn
 rw [hn] at h1 h8
 have hb1 := (Below.refl w.heap.size w).alloc (Nat.le_refl _) (.cells #[.int .i64 rel, .slice A L.length c] 24)
 have hB1 := Blk.new w 24 #[.int .i64 rel, .slice A L.length c]
 rw [hn] at hb1 hB1 HALL ⊢
 have HB1 := Lib.hid hb1
 have HBB := Lib.hid hB1
 have hmk := make_own n h8
 have hc1 := cache_new
 have ht1 := T.tnew_yes n h1 h8
 have HC1 := Lib.hid hc1
 have HT1 := Lib.hid ht1
 have hmx : ¬ (n : Int) < 0 := by omega
 clear hS hall hok hn hb1 hB1 hc1 ht1
 go_enter Tryz.func30, Tryz.ntmps30
 go_wp2_with fail
 obtain ⟨wa, hwa⟩ : ∃ wa, w.alloc (.cells #[.int .i64 rel, .slice A n c] 24) = wa := ⟨_, rfl⟩
 obtain ⟨sb, hsb⟩ : ∃ sb, w.heap.size = sb := ⟨_, rfl⟩
 have b1 := HB1.out
 have bb := HBB.out
 rw [hwa] at b1 bb ⊢
 rw [hsb] at bb b1
 rw [hsb]
 have HSB := Lib.hid hsb
 refine (HALL.out wa (by rw [hsb]; exact b1)).mono ?_
 rintro e wb ⟨rfl, hbl⟩
 have b2 : Below sb w wb := b1.trans (hbl.mono (by have := bb.lt; omega))
 have bb2 := bb.below hbl bb.lt
 have c1 : wb.cell? ⟨sb, 1, none⟩ = some (.slice A n c) := bb2.cell 1
 have c0 : wb.cell? ⟨sb, 0, none⟩ = some (.int .i64 rel) := bb2.cell 0
 have hsl := bb2.lt
 have HB2 := Lib.hid b2
 have HBB2 := Lib.hid bb2
 clear hwa hsb b1 bb hbl b2 bb2 HB1 HBB HALL
 go_upto_region 3 with fail
 go_cut [4] (fun s4 wx => ∃ kp cp tp ta oa, s4 = .pointer (some ⟨kp, 0, none⟩) ∧ (KMk wx sb kp cp tp ta oa n 0 (.slice none 0 0) [] [] ∧ Below sb w wx) ∧ sb < kp ∧ wx.cell? ⟨sb, 0, none⟩ = some (.int .i64 rel) ∧ wx.cell? ⟨sb, 1, none⟩ = some (.slice A n c))
 case first =>
  go_region_held3 (fun w' => w'.cell? ⟨sb, 1, none⟩ = some (.slice A n c)) (go_keep) (first | (go_at_call 43; refine (HC1.out _).mono ?_; rintro e wc ⟨rfl, hC, hCb⟩; have d1 : wc.cell? ⟨sb, 1, none⟩ = some (.slice A n c) := (hCb.cell (by first | exact hsl | (simp; omega))).trans (by simp [*])) | (go_at_call 44; refine (HT1.out _).mono ?_; rintro e wt ⟨rfl, hTt, hTb⟩; have d2 : wt.cell? ⟨sb, 1, none⟩ = some (.slice A n c) := (hTb.cell (by first | exact hsl | (have := hCb.size; simp at *; omega))).trans (by simp [*])))
  all_goals (go_wp2_with fail)
  all_goals (have hb2 := HB2.out; have s1 := hb2.size; have s0 := hCb.size; have s2 := hTb.size; simp only [heap_size_alloc', drew_size'] at s0 s2; simp only [heap_size_alloc', drew_size'] at hC hTt)
  all_goals go_meet
  ·have bC : Below sb w wc := hb2.drew.trans (Below.mono hCb (by first | omega | (simp only [drew_size'] at *; omega) | (simp only [drew_size', heap_size_alloc'] at *; omega)))
   have bT : Below sb w wt := bC.trans (Below.mono hTb (by first | omega | (simp only [drew_size'] at *; omega) | (simp only [drew_size', heap_size_alloc'] at *; omega)))
   have hk := KMk.mk_ (w := w) (B := sb) (kp := wt.heap.size + 1) (heap_size_alloc' _ _) (CacheAt.alloc (CacheAt.fr (E := 0) (ts := []) (C := 0) hC (Fr.of_below hTb) (by simp)) _) (tab_alloc hTt _) (Blk.new wt 148 _) (bT.alloc (by first | omega | (simp only [drew_size'] at *; omega) | (simp only [drew_size', heap_size_alloc'] at *; omega)) _) (by first | omega | (simp only [drew_size'] at *; omega) | (simp only [drew_size', heap_size_alloc'] at *; omega)) (by first | omega | (simp only [drew_size'] at *; omega) | (simp only [drew_size', heap_size_alloc'] at *; omega)) (by first | omega | (simp only [drew_size'] at *; omega) | (simp only [drew_size', heap_size_alloc'] at *; omega)) (by first | omega | (simp only [drew_size'] at *; omega) | (simp only [drew_size', heap_size_alloc'] at *; omega)) (by first | omega | (simp only [drew_size'] at *; omega) | (simp only [drew_size', heap_size_alloc'] at *; omega))
   exact ⟨_, _, _, _, _, rfl, hk, (by first | omega | (simp only [drew_size'] at *; omega) | (simp only [drew_size', heap_size_alloc'] at *; omega)), by rw [World.cell?_alloc_past _ _ _ (by first | omega | (simp only [drew_size'] at *; omega) | (simp only [drew_size', heap_size_alloc'] at *; omega)), World.cell?_alloc_past _ _ _ (by first | omega | (simp only [drew_size'] at *; omega) | (simp only [drew_size', heap_size_alloc'] at *; omega)), hTb.cell (by first | omega | (simp only [drew_size'] at *; omega) | (simp only [drew_size', heap_size_alloc'] at *; omega)), hCb.cell (by first | omega | (simp only [drew_size'] at *; omega) | (simp only [drew_size', heap_size_alloc'] at *; omega)), drew_cell', c0], by rw [World.cell?_alloc_past _ _ _ (by first | omega | (simp only [drew_size'] at *; omega) | (simp only [drew_size', heap_size_alloc'] at *; omega)), World.cell?_alloc_past _ _ _ (by first | omega | (simp only [drew_size'] at *; omega) | (simp only [drew_size', heap_size_alloc'] at *; omega)), hTb.cell (by first | omega | (simp only [drew_size'] at *; omega) | (simp only [drew_size', heap_size_alloc'] at *; omega)), hCb.cell (by first | omega | (simp only [drew_size'] at *; omega) | (simp only [drew_size', heap_size_alloc'] at *; omega)), drew_cell', c1]⟩
  ·have bC : Below sb w wc := hb2.drew.trans (Below.mono hCb (by first | omega | (simp only [drew_size'] at *; omega) | (simp only [drew_size', heap_size_alloc'] at *; omega)))
   have bT : Below sb w wt := (bC.alloc (by first | omega | (simp only [drew_size'] at *; omega) | (simp only [drew_size', heap_size_alloc'] at *; omega)) _).trans (Below.mono hTb (by first | omega | (simp only [drew_size'] at *; omega) | (simp only [drew_size', heap_size_alloc'] at *; omega)))
   have hk := KMk.mk_ (w := w) (B := sb) (kp := wt.heap.size) rfl (CacheAt.fr (E := 0) (ts := []) (C := 0) (CacheAt.alloc hC _) (Fr.of_below hTb) (by simp)) hTt ((Blk.new wc 148 _).below hTb (by first | omega | (simp only [drew_size'] at *; omega) | (simp only [drew_size', heap_size_alloc'] at *; omega))) bT (by first | omega | (simp only [drew_size'] at *; omega) | (simp only [drew_size', heap_size_alloc'] at *; omega)) (by first | omega | (simp only [drew_size'] at *; omega) | (simp only [drew_size', heap_size_alloc'] at *; omega)) (by first | omega | (simp only [drew_size'] at *; omega) | (simp only [drew_size', heap_size_alloc'] at *; omega)) (by first | omega | (simp only [drew_size'] at *; omega) | (simp only [drew_size', heap_size_alloc'] at *; omega)) (by first | omega | (simp only [drew_size'] at *; omega) | (simp only [drew_size', heap_size_alloc'] at *; omega))
   exact ⟨_, _, _, _, _, rfl, hk, (by first | omega | (simp only [drew_size'] at *; omega) | (simp only [drew_size', heap_size_alloc'] at *; omega)), by rw [World.cell?_alloc_past _ _ _ (by first | omega | (simp only [drew_size'] at *; omega) | (simp only [drew_size', heap_size_alloc'] at *; omega)), hTb.cell (by first | omega | (simp only [drew_size'] at *; omega) | (simp only [drew_size', heap_size_alloc'] at *; omega)), World.cell?_alloc_past _ _ _ (by first | omega | (simp only [drew_size'] at *; omega) | (simp only [drew_size', heap_size_alloc'] at *; omega)), hCb.cell (by first | omega | (simp only [drew_size'] at *; omega) | (simp only [drew_size', heap_size_alloc'] at *; omega)), drew_cell', c0], by rw [World.cell?_alloc_past _ _ _ (by first | omega | (simp only [drew_size'] at *; omega) | (simp only [drew_size', heap_size_alloc'] at *; omega)), hTb.cell (by first | omega | (simp only [drew_size'] at *; omega) | (simp only [drew_size', heap_size_alloc'] at *; omega)), World.cell?_alloc_past _ _ _ (by first | omega | (simp only [drew_size'] at *; omega) | (simp only [drew_size', heap_size_alloc'] at *; omega)), hCb.cell (by first | omega | (simp only [drew_size'] at *; omega) | (simp only [drew_size', heap_size_alloc'] at *; omega)), drew_cell', c1]⟩
  ·have bC : Below sb w wc := ((hb2.alloc (by first | omega | (simp only [drew_size'] at *; omega) | (simp only [drew_size', heap_size_alloc'] at *; omega)) _).drew).trans (Below.mono hCb (by first | omega | (simp only [drew_size'] at *; omega) | (simp only [drew_size', heap_size_alloc'] at *; omega)))
   have bT : Below sb w wt := bC.trans (Below.mono hTb (by first | omega | (simp only [drew_size'] at *; omega) | (simp only [drew_size', heap_size_alloc'] at *; omega)))
   have hk := KMk.mk_ (w := w) (B := sb) (kp := wt.heap.size) rfl (CacheAt.fr (E := 0) (ts := []) (C := 0) hC (Fr.of_below hTb) (by simp)) hTt ((((Blk.new wb 148 _).drew).below hCb (by first | omega | (simp only [drew_size'] at *; omega) | (simp only [drew_size', heap_size_alloc'] at *; omega))).below hTb (by first | omega | (simp only [drew_size'] at *; omega) | (simp only [drew_size', heap_size_alloc'] at *; omega))) bT (by first | omega | (simp only [drew_size'] at *; omega) | (simp only [drew_size', heap_size_alloc'] at *; omega)) (by first | omega | (simp only [drew_size'] at *; omega) | (simp only [drew_size', heap_size_alloc'] at *; omega)) (by first | omega | (simp only [drew_size'] at *; omega) | (simp only [drew_size', heap_size_alloc'] at *; omega)) (by first | omega | (simp only [drew_size'] at *; omega) | (simp only [drew_size', heap_size_alloc'] at *; omega)) (by first | omega | (simp only [drew_size'] at *; omega) | (simp only [drew_size', heap_size_alloc'] at *; omega))
   exact ⟨_, _, _, _, _, rfl, hk, (by first | omega | (simp only [drew_size'] at *; omega) | (simp only [drew_size', heap_size_alloc'] at *; omega)), by rw [World.cell?_alloc_past _ _ _ (by first | omega | (simp only [drew_size'] at *; omega) | (simp only [drew_size', heap_size_alloc'] at *; omega)), hTb.cell (by first | omega | (simp only [drew_size'] at *; omega) | (simp only [drew_size', heap_size_alloc'] at *; omega)), hCb.cell (by first | omega | (simp only [drew_size'] at *; omega) | (simp only [drew_size', heap_size_alloc'] at *; omega)), drew_cell', World.cell?_alloc_past _ _ _ (by first | omega | (simp only [drew_size'] at *; omega) | (simp only [drew_size', heap_size_alloc'] at *; omega)), c0], by rw [World.cell?_alloc_past _ _ _ (by first | omega | (simp only [drew_size'] at *; omega) | (simp only [drew_size', heap_size_alloc'] at *; omega)), hTb.cell (by first | omega | (simp only [drew_size'] at *; omega) | (simp only [drew_size', heap_size_alloc'] at *; omega)), hCb.cell (by first | omega | (simp only [drew_size'] at *; omega) | (simp only [drew_size', heap_size_alloc'] at *; omega)), drew_cell', World.cell?_alloc_past _ _ _ (by first | omega | (simp only [drew_size'] at *; omega) | (simp only [drew_size', heap_size_alloc'] at *; omega)), c1]⟩
 case rest =>
  obtain ⟨kp, cp, tp, ta, oa, rfl, ⟨hM, hMb⟩, hsk, e0, e1⟩ := hcut
  have k0 := hM.hd.cell 0
  have k1 := hM.hd.cell 1
  have f0 := hM.hd.frozen 0
  have f1 := hM.hd.frozen 1
  have hklt := hM.hd.lt
  have hne : sb ≠ kp := by omega
  have hM2 := hM.rel rel
  have hMb2 : Below sb w ((wc.setCell ⟨kp, 0, none⟩ (.int .i64 rel)).setCell ⟨kp, 1, none⟩ (.slice none 0 0)) := (hMb.setCell hM.bk _).setCell hM.bk _
  clear c0 c1 hsl
  go_wp2_with fail
  clear k0 k1 f0 f1 hklt hne e0 e1
  obtain ⟨i2, hi2, hz20, hz21, hz22⟩ := info_parts J.Tryz.info2
  have Hz0 := Lib.hid hz20
  have Hz1 := Lib.hid hz21
  have Hz2 := Lib.hid hz22
  have Hi := Lib.hid hi2
  obtain ⟨i46, hi46, hz460, hz461, hz462⟩ := info_parts Tryz.info46
  have Hy0 := Lib.hid hz460
  have Hy1 := Lib.hid hz461
  have Hy2 := Lib.hid hz462
  have Hy := Lib.hid hi46
  clear hi2 hz20 hz21 hz22 hi46 hz460 hz461 hz462
  go_loopw [5, 31] (fun z5 z31 wr => ∃ (k : Nat) (tv : Value) (R : List Value), k ≤ n ∧ z31 = .int .i64 k ∧ KMk wr sb kp cp tp ta oa n rel tv (L.take k) R ∧ wr.ownsRow sb 2 1 z5 k (J.ints ((L.map S46.f1).take k)) ∧ (∀ v ∈ R, v.ownBlock ≠ z5.ownBlock) ∧ Below sb w wr) (fun _ z31 _ => n - (intOf z31).toNat)
  case atStart => exact ⟨0, _, [], Nat.zero_le _, rfl, by simpa using hM2, by simpa [J.ints] using World.ownsRow_nil _ _ _ _, by simp, hMb2⟩
  case round =>
   obtain ⟨k, tv, R, hk, rfl, hR, hO, hAp, hRb⟩ := hrel
   clear hM hMb hM2 hMb2
   by_cases hlt : k < n
   ·have hSr := HS.out _ (by rw [HSB.out]; exact hRb)
    rcases hSr with h0 | ⟨b, off, rfl, hbl, hcs⟩
    ·have := HN.out; rw [h0] at this; simp at this; omega
    obtain ⟨x, hx⟩ : ∃ x, L[k]? = some x := ⟨_, List.getElem?_eq_getElem (by rw [HN.out]; exact hlt)⟩
    obtain ⟨ra, rc, g0, g1, g2, g3, g4, g5, g6, g7, g8, hNu, _⟩ := hcs k x hx
    obtain ⟨o1, o8, ov⟩ := HOK.out x (List.mem_of_getElem? hx)
    have HX := Lib.hid hx
    have HR := Lib.hid hR
    have HO := Lib.hid hO
    have HRB := Lib.hid hRb
    have HAP := Lib.hid hAp
    clear hx hR hO hRb hcs hAp
    rcases hNu with h0 | ⟨rb, roff, rfl, hrb, hrc⟩
    ·rw [h0] at o1; simp at o1
    have HRC := Lib.hid hrc
    have HXT : Hid (wr.heap.size = wr.heap.size) := rfl
    have hsw : sb ≤ wr.heap.size := by have := HR.out.hd.lt; have := HR.out.bk; omega
    clear hrc hbl
    go_wp2_with (at_builtin; refine wpList_append_own _ rfl (.tmp 35) (.tmp 37) 32 rfl wr.heap.size 2 i2 _ 1 8 Tryz.underlying32 Hi.out Hz0.out Hz1.out Hz2.out rfl (by decide) (.slice (some ⟨wr.heap.size + 1, 0, none⟩) 0 0) 0 [] rfl ?c1 ⟨rb, roff, none⟩ x.f6.length rc (J.ints x.f6) rfl (by simp [J.ints]) ?c2 (J.ints_one x.f6) (by unfold maxLen; omega) (by omega) (by simp; omega) ?c3)
    case c1 =>
     have h := World.ownsRow_made (wr.alloc (.cells (tcell x (.slice (some ⟨rb, roff, none⟩) x.f6.length rc)) 46)) #[] 0 (e := 2) (size := 1) (base := wr.heap.size) (by simp) (by unfold maxLen; omega) (by simp)
     simpa [tcell] using h
    case c2 =>
     intro j u hj
     have hjl : j < x.f6.length := by
      have := (List.getElem?_eq_some_iff.1 hj).1
      simpa [J.ints] using this
     rw [HRC.out j hjl]
     simpa [J.ints, hjl] using hj
    case c3 =>
     intro v' w' hown hg _
     obtain ⟨g, c', rfl⟩ : ∃ g c', v' = .slice (some ⟨g, 0, none⟩) x.f6.length c' := by
      rcases hown.2 with ⟨_, h⟩ | ⟨g, c', _, h, _⟩
      ·omega
      ·exact ⟨g, c', by simpa using h⟩
     have hgb : Below wr.heap.size wr w' := (((Below.refl _ _).alloc (Nat.le_refl _) _).alloc (by simp) _).grown hg (by simp <;> omega) (fun k e => by simp [Value.ownBlock] at e; omega)
     have hxb : Blk w' wr.heap.size 46 (tcell x (.slice (some ⟨rb, roff, none⟩) x.f6.length rc)) := ((Blk.new wr 46 _).alloc _).grown hg (by simp [Value.ownBlock])
     have hown' : w'.ownsRow wr.heap.size 2 1 (.slice (some ⟨g, 0, none⟩) x.f6.length c') x.f6.length (J.ints x.f6) := by simpa using hown
     have fx6 := hxb.frozen 6
     have cx6 : w'.cell? ⟨wr.heap.size, 6, none⟩ = some (.slice (some ⟨rb, roff, none⟩) x.f6.length rc) := hxb.cell 6
     have hgl := own_block_lt hown' rfl
     have hgg : wr.heap.size ≤ g := by
      rcases hown'.2 with ⟨h, _⟩ | ⟨g1, c1, cur, h1, h2, _⟩
      ·cases h
      ·injection h1 with h1
       injection h1 with h1
       injection h1 with h1
       omega
     have hbq : Below wr.heap.size wr (w'.setCell ⟨wr.heap.size, 6, none⟩ (.slice (some ⟨g, 0, none⟩) x.f6.length c')) := hgb.setCell (Nat.le_refl _) _
     have KQ := HR.out.fr (E := 0) (ts := []) (C := 0) (Fr.of_below hbq) (by simp)
     have OQ := own_fr HO.out (E := 0) (ts := []) (B := 0) (Fr.of_below hbq) (by simp)
     have BQ : Below sb w (w'.setCell ⟨wr.heap.size, 6, none⟩ (.slice (some ⟨g, 0, none⟩) x.f6.length c')) := HRB.out.trans (hbq.mono hsw)
     have XQ : Blk (w'.setCell ⟨wr.heap.size, 6, none⟩ (.slice (some ⟨g, 0, none⟩) x.f6.length c')) wr.heap.size 46 (tcell x (.slice (some ⟨g, 0, none⟩) x.f6.length c')) := hxb.set_ 6 _
     have SQ := own_far (own_mono hown' hsw) (own_blk_ne hown' hxb (by decide)) (o := 6) (.slice (some ⟨g, 0, none⟩) x.f6.length c')
     have hsz : (w'.setCell ⟨wr.heap.size, 6, none⟩ (.slice (some ⟨g, 0, none⟩) x.f6.length c')).heap.size = w'.heap.size := by simp [World.setCell]
     clear hown hg g0 g1 g2 g3 g4 g5 g6 g7 g8
     go_wp2_with fail
     have hxn : tv.ownBlock ≠ some wr.heap.size := fun e => Nat.lt_irrefl _ (own_block_lt HR.out.tasks.row e)
     have hun : u5.ownBlock ≠ some g := fun e => by have := own_block_lt HO.out e; omega
     have hTl : (L.take k).length = k := by rw [List.length_take, HN.out]; omega
     obtain ⟨xb, hxb2⟩ : ∃ xb, wr.heap.size = xb := ⟨_, rfl⟩
     rw [hxb2] at KQ OQ BQ XQ SQ hxn hsz hgg ⊢
     obtain ⟨wq, hwq⟩ : ∃ wq, w'.setCell ⟨xb, 6, none⟩ (.slice (some ⟨g, 0, none⟩) x.f6.length c') = wq := ⟨_, rfl⟩
     rw [hwq] at KQ OQ BQ XQ SQ hsz ⊢
     rw [← hsz] at hgl
     have q1 : wq.cell? ⟨kp, 1, none⟩ = some tv := KQ.hd.cell 1
     have x0 : wq.cell? ⟨xb, 0, none⟩ = some (.string x.f0) := XQ.cell 0
     have x1 : wq.cell? ⟨xb, 1, none⟩ = some (.int .i64 x.f1) := XQ.cell 1
     have x2 : wq.cell? ⟨xb, 2, none⟩ = some (.int .i64 x.f2) := XQ.cell 2
     have x3 : wq.cell? ⟨xb, 3, none⟩ = some (.int .i64 x.f3) := XQ.cell 3
     have x4 : wq.cell? ⟨xb, 4, none⟩ = some (.int .i64 x.f4) := XQ.cell 4
     have x5 : wq.cell? ⟨xb, 5, none⟩ = some (.int .i64 x.f5) := XQ.cell 5
     have x6 : wq.cell? ⟨xb, 6, none⟩ = some (.slice (some ⟨g, 0, none⟩) x.f6.length c') := XQ.cell 6
     have x7 : wq.cell? ⟨xb, 7, none⟩ = some (.int .u64 x.f7) := XQ.cell 7
     have x8 : wq.cell? ⟨xb, 8, none⟩ = some (.int .u64 x.f8) := XQ.cell 8
     have hxl := XQ.lt
     have hkl := KQ.hd.lt
     have hbs : sb ≤ wq.heap.size := by have := KQ.bk; omega
     have hrow := KQ.tasks.row
     rw [hTl] at hrow
     have HV := Lib.hid (hrow.alloc (.cells #[.string x.f0, .int .i64 x.f1, .int .i64 x.f2, .int .i64 x.f3, .int .i64 x.f4, .int .i64 x.f5, .slice (some ⟨g, 0, none⟩) x.f6.length c', .int .u64 x.f7, .int .u64 x.f8] 46))
     have HD := Lib.hid (KQ.hd.alloc (.cells #[.string x.f0, .int .i64 x.f1, .int .i64 x.f2, .int .i64 x.f3, .int .i64 x.f4, .int .i64 x.f5, .slice (some ⟨g, 0, none⟩) x.f6.length c', .int .u64 x.f7, .int .u64 x.f8] 46))
     have HXB := Lib.hid (XQ.alloc (.cells #[.string x.f0, .int .i64 x.f1, .int .i64 x.f2, .int .i64 x.f3, .int .i64 x.f4, .int .i64 x.f5, .slice (some ⟨g, 0, none⟩) x.f6.length c', .int .u64 x.f7, .int .u64 x.f8] 46))
     have HNE := Lib.hid (own_blk_ne hrow KQ.hd (by decide))
     have HXN := Lib.hid hxn
     have H1 : Hid (∀ j u, (tcells x (.slice (some ⟨g, 0, none⟩) x.f6.length c'))[j]? = some u → (wq.alloc (.cells #[.string x.f0, .int .i64 x.f1, .int .i64 x.f2, .int .i64 x.f3, .int .i64 x.f4, .int .i64 x.f5, .slice (some ⟨g, 0, none⟩) x.f6.length c', .int .u64 x.f7, .int .u64 x.f8] 46)).cell? ((⟨wq.heap.size, 0, none⟩ : Addr).add j) = some u) :=
      cells_new (l := tcells x (.slice (some ⟨g, 0, none⟩) x.f6.length c'))
     have H2 : Hid (∀ u ∈ tcells x (.slice (some ⟨g, 0, none⟩) x.f6.length c'), u.oneCell' = true) := by
      intro u hu
      simp [tcells] at hu
      rcases hu with rfl | rfl | rfl | rfl | rfl | rfl | rfl | rfl | rfl <;> rfl
     have H3 : Hid (k + 1 ≤ maxLen) := by unfold Hid maxLen; omega
     have H4 : Hid ((k + 1) * 96 ≤ 140737488355328) := by unfold Hid; omega
     have H5 : Hid (sb ≤ (wq.alloc (.cells #[.string x.f0, .int .i64 x.f1, .int .i64 x.f2, .int .i64 x.f3, .int .i64 x.f4, .int .i64 x.f5, .slice (some ⟨g, 0, none⟩) x.f6.length c', .int .u64 x.f7, .int .u64 x.f8] 46)).heap.size) := by unfold Hid; simp; omega
     have HKQ := Lib.hid KQ
     have HOQ := Lib.hid OQ
     have HBQ := Lib.hid BQ
     have HSQ := Lib.hid SQ
     clear KQ OQ BQ XQ SQ hwq hxb2 hbq hgb hxb hown' hrow fx6 cx6 hsz hxn
     go_region_law ((refine step_append_own_at rfl (.tmp 45) (.tmp 47) 22 rfl sb 46 i46 _ 9 96 Tryz.underlying22 Hy.out Hy0.out Hy1.out Hy2.out rfl (Nat.succ_pos 8) tv k (tcs (L.take k) R) rfl HV.out ⟨wq.heap.size, 0, none⟩ 1 1 (tcells x (.slice (some ⟨g, 0, none⟩) x.f6.length c')) rfl rfl H1.out H2.out H3.out H4.out H5.out ?_; intro v' w2 own gr _ wh; obtain ⟨g', m', rfl⟩ := own_shape own; have D := blk_grown gr HD.out (fun e => HNE.out e.symm); have XD := blk_grown gr HXB.out (fun e => HXN.out e.symm); have c1 : w2.cell? ⟨kp, 1, none⟩ = some tv := D.cell 1; have f1 := D.frozen 1))
     all_goals
      have hTs : L.take k ++ [x] = L.take (k + 1) := by rw [List.take_add_one, HX.out]; rfl
      have hKA := HKQ.out.app (x := x) (sl := .slice (some ⟨g, 0, none⟩) x.f6.length c') HSQ.out (grown_undrew gr) (by rw [hTl]; exact own) D
      rw [hTs] at hKA
      have hPv := own_fr HOQ.out hKA.2 (by decide)
      have hX3 := XD.far (p := ⟨kp, 1, none⟩) (XD.ne_ D (by decide)) (.slice (some ⟨g', 0, none⟩) (k + 1) m')
      have hB3 : Below sb w _ := HBQ.out.trans (hKA.2.below (Nat.le_refl _) hbs)
      have hws := hKA.2.size
      obtain ⟨w3, hw3⟩ : ∃ w3, w2.setCell ⟨kp, 1, none⟩ (.slice (some ⟨g', 0, none⟩) (k + 1) m') = w3 := ⟨_, rfl⟩
      rw [hw3] at hKA hPv hX3 hB3 hws ⊢
      have y1 : w3.cell? ⟨xb, 1, none⟩ = some (.int .i64 x.f1) := hX3.cell 1
      have hxl3 := hX3.lt
      have hK3 := hKA.1
      have HK3 := Lib.hid hK3
      have HPV := Lib.hid hPv
      have HB3 := Lib.hid hB3
      have HUN := Lib.hid hun
      have hs3 : sb ≤ w3.heap.size := by omega
      have hg3 : g < w3.heap.size := by omega
      clear hKA hPv hX3 hB3 hw3 own gr D XD c1 f1 q1 x0 x1 x2 x3 x4 x5 x6 x7 x8 hK3 hun
      go_wp2_with (at_builtin; refine wpList_append_own_at _ rfl (.tmp 52) (.tmp 55) 32 rfl sb 2 i2 _ 1 8 Tryz.underlying32 Hi.out Hz0.out Hz1.out Hz2.out rfl (by decide) u5 k (J.ints ((L.map S46.f1).take k)) rfl (HPV.out.alloc _) ⟨w3.heap.size, 0, none⟩ 1 1 [.int .i64 x.f1] rfl rfl (cell_one_new _ _ _) (by simp [Value.oneCell']) (by unfold maxLen; omega) (by omega) (by simp; omega) ?_)
      intro v2 w4 own2 gr2 _ wh2
      obtain ⟨g2, m2, rfl⟩ := own_shape own2
      go_wp2_with fail
      have hap0 : ∀ v ∈ R ++ [Value.slice (some ⟨g, 0, none⟩) x.f6.length c'], v.ownBlock ≠ u5.ownBlock := by
       intro v hv
       rcases List.mem_append.1 hv with hv | hv
       ·exact HAP.out v hv
       ·rw [List.mem_singleton.1 hv]
        exact fun e => HUN.out e.symm
      have hK4 := (HK3.out.alloc (.cells #[.int .i64 x.f1] 2)).per (HPV.out.alloc _) gr2 hap0
      refine ⟨⟨k + 1, _, _, hlt, rfl, hK4, ?_, ?_, ((HB3.out.alloc hs3 _).grown gr2 (by simp <;> omega) fun q e => (HPV.out.lt q e).1)⟩, ?_⟩
      ·rw [List.take_add_one, List.getElem?_map, HX.out]
       simpa [J.ints] using own2
      ·intro v hv
       rcases wh2 with e | e
       ·rw [e]; exact hap0 v hv
       ·rw [e]
        intro e2
        obtain ⟨i, hi, rfl⟩ := List.getElem_of_mem hv
        have := own_block_lt (HK3.out.tasks.regs i (by rw [← HK3.out.tasks.len]; exact hi)) e2
        omega
      ·simp [intOf]
       omega
   ·have hkn : k = n := by omega
    subst hkn
    have hTk : L.take k = L := List.take_of_length_le (by rw [HN.out]; exact Nat.le_refl _)
    have hTm : (L.map S46.f1).take k = L.map S46.f1 := List.take_of_length_le (by rw [List.length_map, HN.out]; exact Nat.le_refl _)
    rw [hTk] at hR
    rw [hTm] at hO
    obtain ⟨A5, m5, rfl, _, hrow⟩ := row_read hO
    have hml : (L.map S46.f1).length = k := by rw [List.length_map, HN.out]
    have hNu : Nums wr A5 (L.map S46.f1) := by
     rcases hrow with h | ⟨b, cs, rfl, _, hb, hcs⟩
     ·omega
     ·refine .inr ⟨b, 0, rfl, hb.lt, fun i hi => ?_⟩
      rw [Nat.zero_add, hb.cell, hcs i (by rw [← hml]; exact hi)]
      simp only [J.ints, List.getElem?_map, List.getElem?_eq_getElem (show i < L.length by simpa using hi), Option.map_some, List.getElem_map]
    have hodd : (L.map S46.f1).any P.odd = false := by
     rw [List.any_eq_false]
     intro z hz
     obtain ⟨y, hy, rfl⟩ := List.mem_map.1 hz
     rw [(HOK.out y hy).2.2]
     decide
    have hcall := fun W (h : Below wr.heap.size wr W) => P.new_yes A5 m5 (L.map S46.f1) W (hNu.below h) (by rw [hml]; exact h8) hodd
    rw [hml] at hcall
    have HCALL := Lib.hid hcall
    have HR := Lib.hid hR
    have HRB := Lib.hid hRb
    have hkl := hR.hd.lt
    clear hcall hNu hodd hrow hO hR hRb hAp hTk hTm
    go_wp2_with (go_at_call 45; refine (HCALL.out _ (Below.refl _ _)).mono ?_; rintro e w5 ⟨v5, rfl, hP, hPb⟩; have hK5 := HR.out.fr (E := 0) (ts := []) (C := 0) (Fr.of_below hPb) (by simp); have c4 : w5.cell? ⟨kp, 4, none⟩ = some (.pointer none) := hK5.hd.cell 4; have f4 := hK5.hd.frozen 4)
    go_ret2
    have hn := HN.out
    subst hn
    obtain ⟨pa, pc, rfl, hPA⟩ := hP.at_ (by simp; omega)
    have hf6 : Fr 0 [97] sb w5 (w5.setCell ⟨kp, 4, none⟩ (.pointer (some ⟨wr.heap.size, 0, none⟩))) :=
     Fr.of_blk (only_setCell (World.grownBy.refl w5 (some kp)) (p := ⟨kp, 4, none⟩) (.inl rfl) _) hK5.hd hK5.bk (by simp)
    have hsw : sb ≤ wr.heap.size := by have := hK5.bk; omega
    have hPA2 : P.PolAt w5 sb wr.heap.size pa pc (L.map fun x => P.mkW x.f1) := by
     have h := hPA
     rw [List.map_map] at h
     exact ⟨⟨h.pol.hd, own_mono h.pol.own (by omega)⟩, h.ne⟩
    rw [HSB.out]
    refine ⟨kp, ⟨tv, R, wr.heap.size, pa, pc, cp, tp, ta, oa⟩, nones L.length, .slice none 0 0, rfl, ?_, (HRB.out.trans (hPb.mono hsw)).setCell hK5.bk _⟩
    exact ⟨hK5.hd.set_ 4 _, hK5.tasks.fr hf6 (by decide) (by decide), pol_fr hPA2 hf6 (by decide) (by decide), hK5.cache.fr hf6 (by decide), tab_fr hK5.tab hf6 (by decide) (by decide), hK5.own.fr hf6 (by decide),
     World.ownsRow_nil _ _ _ _, fun i hi h => (by cases h), fun i j hi hj _ h => (by cases h), h1, h8, by simp, by simp [T.zeros], by simp [zs], by simp [zs], by simp, by simp [nones], hK5.bk, hsw, hK5.bc, hK5.bt, hK5.bta, hK5.bo, Nat.le_refl _, Nat.le_trans hK5.bk (Nat.le_of_lt (Nat.lt_of_lt_of_le hK5.hd.lt hf6.size))⟩
end Go.Proofs.YtdgfjpbjiccllaaGreatDoor
namespace Go.Proofs.YtdgfjpbjiccllaaGreatDoor.F
open Go.RowKit
open YtdgfjpbjiccllaaGreatDoorW.PrintWords YtdgfjpbjiccllaaGreatDoorW.PrintLast YtdgfjpbjiccllaaGreatDoorW.PrintMore
open PTopLoads (S212 k212 z212 k212_mk fix_sum.f fix_sum.l0 fix_sum.calls num_Ceil.f num_Floor.f num_Is.f rd_T212)
set_option maxRecDepth 100000
def topL (n least : Int) : Bool := decide (least ≤ n) && decide (n ≤ 1000000)
def badLoad (x : S212) : Bool := !(topL x.f0 1) || !(topL x.f1 0)
def isL (base : Int) (ls : List S212) : Bool := topL base 0 && decide ((ls.length : Int) ≤ 64) && !(ls.any badLoad)
def Lds (w : World) (A : Option Addr) (ls : List S212) : Prop :=
 ls = [] ∨ ∃ b off, A = some ⟨b, off, none⟩ ∧ b < w.heap.size ∧ ∀ i x, ls[i]? = some x → w.cell? ⟨b, off + i * 2, none⟩ = some (.int .i64 x.f0) ∧ w.cell? ⟨b, off + i * 2 + 1, none⟩ = some (.int .i64 x.f1)
theorem Lds.below {w w' : World} {A : Option Addr} {ls : List S212} (h : Lds w A ls) (hb : Below w.heap.size w w') : Lds w' A ls := by
 rcases h with h | ⟨b, off, rfl, hlt, hc⟩
 ·exact .inl h
 ·refine .inr ⟨b, off, rfl, Nat.lt_of_lt_of_le hlt hb.size, fun i x hx => ?_⟩
  obtain ⟨h1, h2⟩ := hc i x hx
  exact ⟨(hb.cell (p := ⟨b, _, none⟩) hlt).trans h1, (hb.cell (p := ⟨b, _, none⟩) hlt).trans h2⟩
theorem Lds.kd {w : World} {A : Option Addr} {ls : List S212} (h : Lds w A ls) (hl : ls.length ≤ 1000) : Kd.C k212 w A ls.length ls := by
 refine ⟨rfl, by omega, fun h0 => ?_⟩
 rcases h with rfl | ⟨b, off, rfl, hlt, hc⟩
 ·simp at h0
 ·refine ⟨_, rfl, fun j p hp => ⟨_, rfl, k212_mk w p, fun i u hu => ?_⟩⟩
  obtain ⟨h1, h2⟩ := hc j p hp
  rw [add_none]
  match i, hu with
  | 0, hu =>
   simp at hu; subst hu
   exact h1
  | 1, hu =>
   simp at hu; subst hu
   exact h2
theorem isTop_any (n least : Int) (w : World) : Calls Tryz.prog 171 #[.int .i64 n, .int .i64 least] w fun e w' => e = .returned (.bool (topL n least)) ∧ w = w' := by
 unfold topL
 cases h : decide (least ≤ n) with
 | false =>
  go_enter Tryz.func171, Tryz.ntmps171
  go_wp2; go_ret
  exact ⟨rfl, rfl⟩
 | true =>
  go_enter Tryz.func171, Tryz.ntmps171
  go_wp2; go_ret
  exact ⟨rfl, rfl⟩
theorem bad_any (x : S212) (w : World) : Calls Tryz.prog 182 #[.agg #[.int .i64 x.f0, .int .i64 x.f1]] w fun e w' => e = .returned (.bool (badLoad x)) ∧ Below w.heap.size w w' := by
 unfold badLoad
 cases h : topL x.f0 1 with
 | false =>
  have H := Lib.hid h
  clear h
  go_enter Tryz.func182, Tryz.ntmps182
  go_wp2_with (go_at_call 171; refine (isTop_any _ _ _).mono ?_; rintro e w' ⟨rfl, rfl⟩; rw [H.out])
  go_ret
  exact ⟨rfl, (Below.refl _ _).alloc (Nat.le_refl _) _⟩
 | true =>
  have H := Lib.hid h
  clear h
  go_enter Tryz.func182, Tryz.ntmps182
  go_wp2_with (go_at_call 171; refine (isTop_any _ _ _).mono ?_; rintro e w' ⟨rfl, rfl⟩; first | rw [H.out] | skip)
  go_ret
  exact ⟨rfl, (Below.refl _ _).alloc (Nat.le_refl _) _⟩
theorem any_take (ls : List S212) (p : S212 → Bool) (k : Nat) (x : S212) (hx : ls[k]? = some x) : (ls.take (k + 1)).any p = ((ls.take k).any p || p x) := by
 obtain ⟨h, rfl⟩ := List.getElem?_eq_some_iff.1 hx
 rw [List.take_succ_eq_append_getElem h, List.any_append]
 simp
theorem any_of_take (ls : List S212) (p : S212 → Bool) (k : Nat) (h : (ls.take k).any p = true) : ls.any p = true := by
 rw [List.any_eq_true] at h ⊢
 obtain ⟨x, hx, hp⟩ := h
 exact ⟨x, List.mem_of_mem_take hx, hp⟩
set_option maxHeartbeats 1000000 in
theorem index_any (A : Option Addr) (c : Nat) (ls : List S212) (w : World) (h : Lds w A ls) (hl : ls.length ≤ 1000) :
  Calls Tryz.prog 189 #[.slice A ls.length c, .func (.func 182) #[] #[]] w fun e w' => ∃ r : Int, e = .returned (.int .i64 r) ∧ decide (0 ≤ r) = ls.any badLoad ∧ Below w.heap.size w w' := by
 have HL := Lib.hid h
 clear h
 obtain ⟨n, hn⟩ : ∃ n, ls.length = n := ⟨_, rfl⟩
 have HN := Lib.hid hn
 rw [hn] at hl ⊢
 clear hn
 go_enter Tryz.func189, Tryz.ntmps189
 go_wp2_with fail
 go_loopw [8] (fun z wr => ∃ k : Nat, k ≤ n ∧ z = .int .i64 k ∧ (ls.take k).any badLoad = false ∧ Below w.heap.size w wr) (fun z _ => n - (intOf z).toNat)
 case atStart => exact ⟨0, Nat.zero_le _, rfl, rfl, Below.refl _ _⟩
 case round =>
  obtain ⟨k, hk, rfl, hno, hb⟩ := hrel
  by_cases hlt : k < n
  ·obtain ⟨x, hx⟩ : ∃ x, ls[k]? = some x := ⟨_, List.getElem?_eq_getElem (by rw [HN.out]; exact hlt)⟩
   rcases HL.out.below hb with h0 | ⟨b, off, rfl, hbl, hc⟩
   ·have := HN.out; rw [h0] at this; simp at this; omega
   obtain ⟨c0, c1⟩ := hc k x hx
   have HT := Lib.hid (any_take ls badLoad k x hx)
   have HNO := Lib.hid hno
   have HB := Lib.hid hb
   have hk0 : ¬ ((k : Int) < 0) := by omega
   cases hbad : badLoad x with
   | false =>
    have HBAD := Lib.hid hbad
    clear hc hx hno hb hbad
    go_wp2_with (go_at_call 182; refine (bad_any x _).mono ?_; rintro e w' ⟨rfl, hb⟩; have HB2 := Lib.hid hb; clear hb; rw [HBAD.out])
    go_roundw
    case rel => exact ⟨k + 1, by omega, by go_num, by rw [HT.out, HNO.out, HBAD.out]; rfl, HB.out.trans (HB2.out.mono HB.out.size)⟩
    case measure => simp [intOf]; omega
   | true =>
    have HBAD := Lib.hid hbad
    clear hc hx hno hb hbad
    go_wp2_with (go_at_call 182; refine (bad_any x _).mono ?_; rintro e w' ⟨rfl, hb⟩; have HB2 := Lib.hid hb; clear hb; rw [HBAD.out])
    go_ret
    refine ⟨k, rfl, ?_, HB.out.trans (HB2.out.mono HB.out.size)⟩
    rw [any_of_take ls badLoad (k + 1) (by rw [HT.out, HBAD.out]; simp)]
    simp
  ·have e : k = n := by omega
   subst e
   have HB := Lib.hid hb
   have HNO := Lib.hid hno
   clear hb hno; go_wp2; go_ret
   refine ⟨-1, rfl, ?_, HB.out⟩
   have := HNO.out
   rw [← HN.out, List.take_length] at this
   rw [this]
   rfl
theorem contains_any (A : Option Addr) (c : Nat) (ls : List S212) (w : World) (h : Lds w A ls) (hl : ls.length ≤ 1000) :
  Calls Tryz.prog 181 #[.slice A ls.length c, .func (.func 182) #[] #[]] w fun e w' => e = .returned (.bool (ls.any badLoad)) ∧ Below w.heap.size w w' := by
 have HI := Lib.hid (index_any A c ls w h hl)
 clear h
 go_enter Tryz.func181, Tryz.ntmps181
 go_wp2_with (go_at_call 189; refine (HI.out).mono ?_; rintro e w' ⟨r, rfl, hr, hb⟩; have HB := Lib.hid hb; have HR := Lib.hid hr; clear hb hr)
 go_ret
 exact ⟨by rw [← HR.out]; rfl, HB.out⟩
theorem is_any (base : Int) (A : Option Addr) (c : Nat) (ls : List S212) (w : World) (h : Lds w A ls) (hl : ls.length ≤ 1000) :
  Calls Tryz.prog 165 #[.int .i64 base, .slice A ls.length c] w fun e w' => e = .returned (.bool (isL base ls)) ∧ Below w.heap.size w w' := by
 have HC := Lib.hid (contains_any A c ls w h hl)
 clear h
 unfold isL
 cases h1 : topL base 0 with
 | false =>
  have H := Lib.hid h1
  clear h1
  go_enter Tryz.func165, Tryz.ntmps165
  go_wp2_with (go_at_call 171; refine (isTop_any _ _ _).mono ?_; rintro e w' ⟨rfl, rfl⟩; rw [H.out])
  go_ret
  exact ⟨rfl, Below.refl _ _⟩
 | true =>
  have H := Lib.hid h1
  clear h1
  cases h2 : decide ((ls.length : Int) ≤ 64) with
  | false =>
   go_enter Tryz.func165, Tryz.ntmps165
   go_wp2_with (go_at_call 171; refine (isTop_any _ _ _).mono ?_; rintro e w' ⟨rfl, rfl⟩; rw [H.out])
   go_ret
   exact ⟨rfl, Below.refl _ _⟩
  | true =>
   go_enter Tryz.func165, Tryz.ntmps165
   go_wp2_with (first | (go_at_call 171; refine (isTop_any _ _ _).mono ?_; rintro e w' ⟨rfl, rfl⟩; rw [H.out]) | (go_at_call 181; refine (HC.out).mono ?_; rintro e w' ⟨rfl, hb⟩; have HB := Lib.hid hb; clear hb))
   go_ret
   exact ⟨rfl, HB.out⟩
def ceilV (w t : Int) : Int := ((num_Ceil.f w t).getD (0, false)).1
theorem ceil_some (w t : Int) : ∃ b, num_Ceil.f w t = some (ceilV w t, b) := by
 have hF : ∃ r, num_Floor.f w t = some r := by
  unfold num_Floor.f num_Is.f
  split
  ·simp only [Option.bind_some]
   split
   ·split
    ·simp only [Option.bind_some]
     split
     ·split <;> exact ⟨_, rfl⟩
     ·exact ⟨_, rfl⟩
    ·exact ⟨_, rfl⟩
   ·exact ⟨_, rfl⟩
  ·exact ⟨_, rfl⟩
 obtain ⟨r, hr⟩ := hF
 have hC : ∃ r, num_Ceil.f w t = some r := by
  unfold num_Ceil.f
  rw [hr]
  simp only [Option.bind_some]
  split
  ·split <;> exact ⟨_, rfl⟩
  ·exact ⟨_, rfl⟩
 obtain ⟨⟨a, b⟩, hc⟩ := hC
 exact ⟨b, by unfold ceilV; rw [hc]; rfl⟩
def sumStep (w : Int) (b : Int) (x : S212) : Int := wrap64 (b + wrap64 (x.f1 * ceilV w x.f0))
def sumL (base : Int) (ls : List S212) (w : Int) : Int := ls.foldl (sumStep w) base
theorem sum_round (ls : List S212) (k d : Nat) (hlt : k < ls.length) (hl : ls.length ≤ 1000) (base w cv : Int) (b : Bool) (hb : num_Ceil.f w (ls[k]).f0 = some (cv, b)) :
  fix_sum.l0 (d + 1) base w ls (ls.length : Int) (k : Int) = fix_sum.l0 d (wrap64 (base + wrap64 (ls[k].f1 * cv))) w ls (ls.length : Int) ((k + 1 : Nat) : Int) := by
 have e1 : rd_T212 ls (k : Int) = ls[k] := by simp [rd_T212, hlt]
 have e2 : wrap64 ((k : Int) + 1) = ((k + 1 : Nat) : Int) := by unfold wrap64; omega
 have h1 : (k : Int) < (ls.length : Int) := by omega
 have h2 : (0 : Int) ≤ (k : Int) := by omega
 rw [fix_sum.l0, if_pos h1, if_pos h2, if_pos h1, e1, hb, Option.bind_some, e2]
theorem sum_from (ls : List S212) (hl : ls.length ≤ 1000) (w : Int) (d : Nat) : ∀ (k : Nat) (base : Int), k + d = ls.length → fix_sum.l0 (d + 1) base w ls (ls.length : Int) (k : Int) = some ((ls.drop k).foldl (sumStep w) base) := by
 induction d with
 | zero =>
  intro k base h
  have h1 : ¬ (k : Int) < (ls.length : Int) := by omega
  rw [fix_sum.l0, if_neg h1, List.drop_eq_nil_of_le (by omega), List.foldl_nil]
 | succ d ih =>
  intro k base h
  have hlt : k < ls.length := by omega
  obtain ⟨b, hb⟩ := ceil_some w (ls[k]).f0
  rw [sum_round ls k (d + 1) hlt hl base w _ b hb, ih (k + 1) _ (by omega), List.drop_eq_getElem_cons hlt, List.foldl_cons, sumStep]
theorem sum_f (base : Int) (ls : List S212) (hl : ls.length ≤ 1000) (w : Int) : fix_sum.f (ls.length + 1) base ls w = some (sumL base ls w) := by
 have := sum_from ls hl w ls.length 0 base (by omega)
 simpa [fix_sum.f, sumL] using this
theorem sum_any (base : Int) (A : Option Addr) (c : Nat) (ls : List S212) (v : Int) (w : World) (h : Lds w A ls) (hl : ls.length ≤ 1000) (hc : ls.length ≤ c) :
  Calls Tryz.prog 166 #[.int .i64 base, .slice A ls.length c, .int .i64 v] w fun e w' => e = .returned (.int .i64 (sumL base ls v)) ∧ Below w.heap.size w w' :=
 fix_sum.calls (ls.length + 1) base A c ls v _ w (h.kd hl) hc (sum_f base ls hl v)
def SumL (base : Int) (ls : List S212) (v : Int) : Int × Bool := if isL base ls && topL v 0 then (sumL base ls v, true) else (0, false)
theorem Sum_any (base : Int) (A : Option Addr) (c : Nat) (ls : List S212) (v : Int) (w : World) (h : Lds w A ls) (hl : ls.length ≤ 1000) (hc : ls.length ≤ c) :
  Calls Tryz.prog 155 #[.int .i64 base, .slice A ls.length c, .int .i64 v] w fun e w' => e = .returned (.tuple #[.int .i64 (SumL base ls v).1, .bool (SumL base ls v).2]) ∧ Below w.heap.size w w' := by
 have HI := Lib.hid (is_any base A c ls w h hl)
 have HS := Lib.hid (fun w' hb => sum_any base A c ls v w' (h.below hb) hl hc)
 clear h hc
 unfold SumL
 cases h1 : isL base ls with
 | false =>
  have H := Lib.hid h1
  rw [h1] at HI
  clear h1
  go_enter Tryz.func155, Tryz.ntmps155
  go_wp2_with (go_at_call 165; refine (HI.out).mono ?_; rintro e w' ⟨rfl, hb⟩; have HB := Lib.hid hb; clear hb)
  go_ret2
  exact ⟨rfl, HB.out⟩
 | true =>
  have H := Lib.hid h1
  rw [h1] at HI
  clear h1
  cases h2 : topL v 0 with
  | false =>
   have H2 := Lib.hid h2
   clear h2
   go_enter Tryz.func155, Tryz.ntmps155
   go_wp2_with (first | (go_at_call 165; refine (HI.out).mono ?_; rintro e w' ⟨rfl, hb⟩; have HB := Lib.hid hb; clear hb) | (go_at_call 171; refine (isTop_any _ _ _).mono ?_; rintro e w' ⟨rfl, rfl⟩; rw [H2.out]))
   go_ret2
   exact ⟨rfl, HB.out⟩
  | true =>
   have H2 := Lib.hid h2
   clear h2
   go_enter Tryz.func155, Tryz.ntmps155
   go_wp2_with (first | (go_at_call 165; refine (HI.out).mono ?_; rintro e w' ⟨rfl, hb⟩; have HB := Lib.hid hb; clear hb) | (go_at_call 171; refine (isTop_any _ _ _).mono ?_; rintro e w' ⟨rfl, rfl⟩; rw [H2.out]) | (go_at_call 166; refine (HS.out _ HB.out).mono ?_; rintro e w' ⟨rfl, hb⟩; have HB2 := Lib.hid hb; clear hb))
   go_ret2
   exact ⟨rfl, HB.out.trans (HB2.out.mono HB.out.size)⟩
end Go.Proofs.YtdgfjpbjiccllaaGreatDoor.F
namespace Go.Proofs.YtdgfjpbjiccllaaGreatDoor
open Go.RowKit
open YtdgfjpbjiccllaaGreatDoorW.PrintWords YtdgfjpbjiccllaaGreatDoorW.PrintLast YtdgfjpbjiccllaaGreatDoorW.PrintMore
open PTopLoads (S46 k46 z46 k46_mk S57 k57 bits_Count.f bits_Count.calls)
open V
set_option maxRecDepth 100000
variable {E : Nat}
def preK (K : Kst) (i : Nat) : Kst :=
 if K.last ≠ i ∧ (T.stateL K.tab K.last).s = true then { K.plus [⟨K.tick, 5, K.last, 0⟩] with had := K.had.set K.last.toNat (((K.tk.getD K.last.toNat z46).f8.toNat &&& heldF K.last K.cache 64 : Nat) : Int) } else K
def lostN (K : Kst) (i : Nat) : Nat := andN (K.had.getD i 0).toNat (heldF i K.cache 64)
def resK (K : Kst) (i : Nat) : Kst := { K.plus [⟨K.tick, 6, i, K.reload * (cnt (lostN K i) : Int)⟩] with loads := K.loads.set i (K.reload * (cnt (lostN K i) : Int)), cache := touchL i (bitsL (lostN K i)) K.cache }
def turnsK (K : Kst) (i : Nat) : Kst :=
 if (T.stateL K.tab i).s = true ∧ K.last ≠ i then resK (preK K i) i else turnsA (preK K i) i
section
variable {w w' : World} {B kp : Nat} {A : Ad} {jv : List Value} {ev : Value} {pd : Nat → Bool} {K : Kst}
theorem ocs_set1 : ∀ (P : List Value) (H L : List Int) (_ : H.length = P.length) (_ : L.length = P.length) (i : Nat) (_ : i < P.length) (h : Int),
  (ocs P H L).set (i * 3 + 1) (.int .u64 h) = ocs P (H.set i h) L
 | [], _, _, _, _, _, hi, _ => by simp at hi
 | p :: P, [], _, h, _, _, _, _ => by simp at h
 | p :: P, _ :: _, [], _, h, _, _, _ => by simp at h
 | p :: P, h :: H, l :: L, h1, h2, i, hi, l' => by
  cases i with
  | zero => simp [ocs]
  | succ i =>
   have := ocs_set1 P H L (by simpa using h1) (by simpa using h2) i (by simpa using hi) l'
   rw [show (i + 1) * 3 + 1 = (i * 3 + 1) + 3 from by omega]
   simp [ocs, this]
theorem KAt.putHad (h : KAt E w B kp A jv ev pd K) {i : Nat} (hi : i < K.tk.length) (l : Int) :
  KAt E (w.setCell ⟨A.oa, i * 3 + 1, none⟩ (.int .u64 l)) B kp A jv ev pd { K with had := K.had.set i l } ∧ Fr E [148] B w (w.setCell ⟨A.oa, i * 3 + 1, none⟩ (.int .u64 l)) := by
 have hf : Fr E [148] B w (w.setCell ⟨A.oa, i * 3 + 1, none⟩ (.int .u64 l)) := Fr.of_blk (only_setCell (World.grownBy.refl w (some A.oa)) (p := ⟨A.oa, i * 3 + 1, none⟩) (.inl rfl) _) h.own h.bo (by simp)
 have hown := h.own.set_ (i * 3 + 1) (.int .u64 l)
 have e := ocs_set1 jv K.had K.loads (by rw [h.lh, h.lv]) (by rw [h.ll, h.lv]) i (by rw [h.lv]; exact hi) l
 rw [List.setIfInBounds_toArray, e] at hown
 exact ⟨⟨h.hd.fr hf (by decide), h.tasks.fr hf (by decide) (by decide), pol_fr h.pol hf (by decide) (by decide), ⟨h.cache.len, h.cache.hd.fr hf (by decide)⟩, ⟨h.tab.hd.fr hf (by decide), h.tab.row.fr hf (by decide)⟩, hown, own_fr h.evs hf (by decide),
  fun i hi hp => (h.jobs i hi hp).fr hf (by decide) (by decide), h.apart, h.n1, h.n8, h.lp, h.lt, by simp [h.lh], h.ll, h.lj, h.lv, h.bk, h.bp, h.bc, h.bt, h.bta, h.bo, h.be, Nat.le_trans h.eh hf.size⟩, hf⟩
theorem held_post (h : KAt E w B kp A jv ev pd K) (t : Int) (ht : 0 ≤ t) (ht8 : t ≤ 8) :
  Calls Tryz.prog 84 #[.pointer (some ⟨A.cp, 0, none⟩), .int .i64 t] w fun e w' => e = .returned (.int .u64 (heldF t K.cache 64 : Nat)) ∧ KAt E w' B kp A jv ev pd K ∧ Fr E [] B w w' := by
 refine (held_any A.cp K.cache t ht ht8 w h.cache).mono ?_
 rintro e w3 ⟨he, hb⟩
 have hf : Fr E [] B w w3 := Fr.of_none (only_of_below hb none)
 exact ⟨he, h.fr hf (by simp), hf⟩
theorem lost_post (h : KAt E w B kp A jv ev pd K) (t : Int) (ht : 0 ≤ t) (ht8 : t ≤ 8) (had : Nat) :
  Calls Tryz.prog 86 #[.pointer (some ⟨A.cp, 0, none⟩), .int .i64 t, .int .u64 had] w fun e w' => e = .returned (.int .u64 (andN had (heldF t K.cache 64) : Nat)) ∧ KAt E w' B kp A jv ev pd K ∧ Fr E [] B w w' := by
 refine (lost_any A.cp K.cache t had ht ht8 w h.cache).mono ?_
 rintro e w3 ⟨he, hb⟩
 have hf : Fr E [] B w w3 := Fr.of_none (only_of_below hb none)
 exact ⟨he, h.fr hf (by simp), hf⟩
theorem count_post (h : KAt E w B kp A jv ev pd K) (x : Nat) (hx : x < 18446744073709551616) :
  Calls Tryz.prog 87 #[.int .u64 (x : Int)] w fun e w' => e = .returned (.int .i64 (cnt x : Int)) ∧ KAt E w' B kp A jv ev pd K ∧ Fr E [] B w w' := by
 refine (bits_Count.calls x _ w (count_f x hx)).mono ?_
 rintro e w3 ⟨he, hb⟩
 have hf : Fr E [] B w w3 := Fr.of_none (only_of_below hb.below none)
 exact ⟨he, h.fr hf (by simp), hf⟩
theorem KAt.hcell (h : KAt E w B kp A jv ev pd K) {i : Nat} (hi : i < K.tk.length) : w.cell? ⟨A.oa, i * 3 + 1, none⟩ = some (.int .u64 (K.had.getD i 0)) := by
 have := (ocs_at jv K.had K.loads (by rw [h.lh, h.lv]) (by rw [h.ll, h.lv]) i (by rw [h.lv]; exact hi)).2.1
 rw [h.own.cell, List.getElem?_toArray]
 exact this
theorem KAt.lcell (h : KAt E w B kp A jv ev pd K) {i : Nat} (hi : i < K.tk.length) : w.cell? ⟨A.oa, i * 3 + 2, none⟩ = some (.int .i64 (K.loads.getD i 0)) := by
 have := (ocs_at jv K.had K.loads (by rw [h.lh, h.lv]) (by rw [h.ll, h.lv]) i (by rw [h.lv]; exact hi)).2.2
 rw [h.own.cell, List.getElem?_toArray]
 exact this
end
structure TnOk (K : Kst) : Prop where
 r0 : 0 ≤ K.reload
 r1 : K.reload ≤ 10000
 had : ∀ i, 0 ≤ K.had.getD i 0 ∧ K.had.getD i 0 < 18446744073709551616
 u64 : U64 K.tk
theorem started_lt {L : List T.St} {j : Int} (h : (T.stateL L j).s = true) : ∃ k : Nat, j = k ∧ k < L.length := by
 unfold T.stateL at h
 split at h
 ·rename_i hh
  obtain ⟨n, hn, e, _⟩ := T.hasL_true hh
  exact ⟨n, e, hn⟩
 ·simp at h
theorem set_getD (H : List Int) (k i : Nat) (z : Int) : (H.set k z).getD i 0 = H.getD i 0 ∨ (H.set k z).getD i 0 = z := by
 by_cases hik : k = i
 ·subst hik
  by_cases hl : k < H.length
  ·exact .inr (by simp [List.getD_eq_getElem?_getD, hl])
  ·exact .inl (by simp [List.getD_eq_getElem?_getD, hl])
 ·exact .inl (by simp [List.getD_eq_getElem?_getD, hik])
structure Pre (K K1 : Kst) : Prop where
 last : K1.last = K.last
 tab : K1.tab = K.tab
 reload : K1.reload = K.reload
 tk : K1.tk = K.tk
 tick : K1.tick = K.tick
 cache : K1.cache = K.cache
 loads : K1.loads = K.loads
 job : K1.job = K.job
 pol : K1.pol = K.pol
 len : K1.ev.length ≤ K.ev.length + 1
theorem pre_same (K : Kst) (i : Nat) : Pre K (preK K i) := by
 unfold preK
 split
 ·exact ⟨rfl, rfl, rfl, rfl, rfl, rfl, rfl, rfl, rfl, by simp [Kst.plus]⟩
 ·exact ⟨rfl, rfl, rfl, rfl, rfl, rfl, rfl, rfl, rfl, by omega⟩
theorem TnOk.pre {K : Kst} (h : TnOk K) (i : Nat) : TnOk (preK K i) := by
 unfold preK
 split
 ·refine ⟨h.r0, h.r1, fun j => ?_, h.u64⟩
  have hx := heldF_lt K.last K.cache 64 (Nat.le_refl _)
  have hy := Nat.and_le_right (n := (K.tk.getD K.last.toNat z46).f8.toNat) (m := heldF K.last K.cache 64)
  rcases set_getD K.had K.last.toNat j (((K.tk.getD K.last.toNat z46).f8.toNat &&& heldF K.last K.cache 64 : Nat) : Int) with e | e
  ·exact e ▸ h.had j
  ·have e' : ({ K.plus [⟨K.tick, 5, K.last, 0⟩] with had := K.had.set K.last.toNat (((K.tk.getD K.last.toNat z46).f8.toNat &&& heldF K.last K.cache 64 : Nat) : Int) } : Kst).had.getD j 0 = (((K.tk.getD K.last.toNat z46).f8.toNat &&& heldF K.last K.cache 64 : Nat) : Int) := e
   rw [e']
   omega
 ·exact h
set_option maxHeartbeats 16000000 in
theorem turns_res {W w : World} {B kp : Nat} {A : Ad} {jv : List Value} {ev : Value} {K : Kst} (hb : Below B W w) (hB0 : 0 < B) (hT : DeB W) (h : KAt E w B kp A jv ev (pdOf K) K) (hO : TnOk K) (hL : K.ev.length ≤ 10000000)
  (i : Nat) (hi : i < K.tk.length) (hli : K.last ≠ i) (hls : (T.stateL K.tab K.last).s = false) (hss : (T.stateL K.tab i).s = true) :
  Calls Tryz.prog 51 #[.pointer (some ⟨kp, 0, none⟩), .int .i64 i] w (JPost E w B kp A [97, 50, 131, 142, 148] (turnsK K i)) := by
 have n8 := h.n8
 obtain ⟨n, hn⟩ : ∃ n, K.tk.length = n := ⟨_, rfl⟩
 have q3 : w.cell? ⟨kp, 3, none⟩ = some (.int .i64 K.last) := h.hd.cell 3
 have q6 : w.cell? ⟨kp, 6, none⟩ = some (.pointer (some ⟨A.tp, 0, none⟩)) := h.hd.cell 6
 have hkl := h.hd.lt
 have hB1 : B ≤ w.heap.size := by have := h.bk; omega
 have HFB : Hid (∀ w2, Fr E [97, 50, 131, 142, 148] B w w2 → Below B W w2) := fun w2 f2 => hb.trans (f2.below (Nat.le_refl _) hB1)
 have HDB := Lib.hid hT
 have HH := Lib.hid h
 have HL := Lib.hid (show K.ev.length ≤ 100000000 by omega)
 have HP : Hid (∀ (w2 : World) (j : Int), KAt E w2 B kp A jv ev (pdOf K) K → Calls Tryz.prog 74 #[.pointer (some ⟨A.tp, 0, none⟩), .int .i64 j] w2 fun e w' => e = .returned (T.stateL K.tab j).val ∧ KAt E w' B kp A jv ev (pdOf K) K ∧ Fr E [] B w2 w') := fun w2 j h2 => state_post h2 j
 obtain ⟨⟨lp, ls, lm, la⟩, hl⟩ : ∃ z, T.stateL K.tab K.last = z := ⟨_, rfl⟩
 have hval2 : (T.stateL K.tab K.last).val = .agg #[.bool lp, .bool ls, .bool lm, .int .i64 la] := by rw [hl]; rfl
 have hls' : ls = false := by rw [hl] at hls; exact hls
 have HV2 := Lib.hid hval2
 have hfl := fun W => field1 W lp ls lm la
 have hne : ((K.last : Int) != (i : Int)) = true := by simpa using hli
 obtain ⟨last, hlast⟩ : ∃ last, K.last = last := ⟨_, rfl⟩
 rw [hlast] at q3 HV2 hne
 obtain ⟨⟨sp, ss, sm, sa⟩, hs⟩ : ∃ z, T.stateL K.tab (i : Int) = z := ⟨_, rfl⟩
 have hval : (T.stateL K.tab (i : Int)).val = .agg #[.bool sp, .bool ss, .bool sm, .int .i64 sa] := by rw [hs]; rfl
 have hss' : ss = true := by rw [hs] at hss; exact hss
 have hfs := fun W => field1 W sp ss sm sa
 have HV := Lib.hid hval
 have hta : turnsK K i = resK (preK K i) i := by
  unfold turnsK
  rw [if_pos ⟨hss, hli⟩]
 have hpr := pre_same K i
 have hO1 := hO.pre i
 have hpk : preK K i = K := by
  unfold preK
  rw [if_neg (by simp [hls])]
 obtain ⟨K1, hK1⟩ : ∃ K1, preK K i = K1 := ⟨_, rfl⟩
 rw [hK1] at hta hpr hO1 hpk
 have hi1 : i < K1.tk.length := by rw [hpr.tk]; exact hi
 have HI1 := Lib.hid hi1
 have HTA := Lib.hid hta
 have HPK := Lib.hid hpk
 have i0 : (0 : Int) ≤ (i : Int) := by omega
 have i1 : (i : Int) < (n : Int) := by omega
 have hls1 : ∀ z : Int, (K1.loads.set i z).getD i 0 = z := fun z => by
  have : i < K1.loads.length := by rw [hpr.loads, h.ll]; exact hi
  simp [List.getD_eq_getElem?_getD, this]
 have HLS := Lib.hid hls1
 obtain ⟨hd, hhd⟩ : ∃ hd : Nat, K1.had.getD i 0 = hd := ⟨(K1.had.getD i 0).toNat, by have := hO1.had i; omega⟩
 obtain ⟨lo, hlo⟩ : ∃ lo, lostN K1 i = lo := ⟨_, rfl⟩
 have hln : andN hd (heldF i K1.cache 64) = lo := by rw [← hlo]; unfold lostN; rw [hhd, Int.toNat_natCast]
 have hlt : lo < 18446744073709551616 := by rw [← hlo]; exact andN_lt _ _
 obtain ⟨cn, hcn⟩ : ∃ cn, cnt lo = cn := ⟨_, rfl⟩
 have hc64 : cn ≤ 64 := by rw [← hcn]; exact cnt_le lo
 obtain ⟨rel, hrel⟩ : ∃ rel, K1.reload = rel := ⟨_, rfl⟩
 have hr0 := hO1.r0
 have hr1 := hO1.r1
 rw [hrel] at hr0 hr1
 have hm1 : 0 ≤ rel * (cn : Int) := Int.mul_nonneg hr0 (by omega)
 have hm2 : rel * (cn : Int) ≤ 10000 * 64 := Int.mul_le_mul hr1 (by omega) (by omega) (by omega)
 have hmw : IntKind.i64.wrap (rel * (cn : Int)) = rel * (cn : Int) := IntWalk.i64_in _ ⟨by omega, by omega⟩
 have HHD := Lib.hid hhd
 have HLN := Lib.hid hln
 have HLN2 := Lib.hid hlo
 have HLT := Lib.hid hlt
 have HCN := Lib.hid hcn
 have HRE := Lib.hid hrel
 have HL1 : Hid (K1.ev.length ≤ 100000000) := by have := hpr.len; show K1.ev.length ≤ 100000000; omega
 have HN := Lib.hid hn
 have HLA := Lib.hid hlast
 have HPR := Lib.hid hpr
 have hi8 : (i : Int) ≤ 8 := by omega
 have hi8n : i ≤ 8 := by omega
 subst hls' hss'; clear h hO hL hi hli hls hss hl hval2 hs hval hta hlast hn hb hT hpr hO1 hpk hK1 hi1 hhd hln hlo hlt hcn hrel hls1
 go_enter Tryz.func51, Tryz.ntmps51
 go_wp2_with fail
 go_region_held3 (fun w' => w'.cell? ⟨kp, 6, none⟩ = some (.pointer (some ⟨A.tp, 0, none⟩)) ∧ w'.cell? ⟨kp, 3, none⟩ = some (.int .i64 last)) (go_keep) ((go_at_call 74; refine (HP.out _ last HH.out.drew).mono ?_; rintro e wq ⟨rfl, KQ, FQ⟩; rw [HV2.out]; have x6 : wq.cell? ⟨kp, 6, none⟩ = some (.pointer (some ⟨A.tp, 0, none⟩)) := KQ.hd.cell 6; have x3 : wq.cell? ⟨kp, 3, none⟩ = some (.int .i64 last) := (KQ.hd.cell 3).trans ((HH.out.hd.cell 3).symm.trans q3)))
 have HK0 : Hid (KAt E wq B kp A jv ev (pdOf K) K1) := by rw [HPK.out]; exact KQ
 have HF0 := Lib.hid ((Fr.drew (Fr.refl (E := E) [97, 50, 131, 142, 148] B w)).trans (FQ.mono (ts' := [97, 50, 131, 142, 148]) (by simp)))
 clear KQ FQ q3 q6 x3 x6 HP
 have y7 : wq.cell? ⟨kp, 7, none⟩ = some (.slice (some ⟨A.oa, 0, none⟩) n n) := by rw [← HN.out, ← HPR.out.tk]; exact HK0.out.hd.cell 7
 have y6 : wq.cell? ⟨kp, 6, none⟩ = some (.pointer (some ⟨A.tp, 0, none⟩)) := HK0.out.hd.cell 6
 have hkq := HK0.out.hd.lt
 go_wp2_with fail
 refine (state_post HK0.out i).mono ?_
 rintro e w2 ⟨rfl, K2, F2⟩
 rw [HPR.out.tab, HV.out]
 have HK2 := Lib.hid K2
 have HF2 := Lib.hid (HF0.out.trans (F2.mono (ts' := [97, 50, 131, 142, 148]) (by simp)))
 clear K2 F2 HK0 HF0 y6 y7
 have u3 : w2.cell? ⟨kp, 3, none⟩ = some (.int .i64 last) := by rw [← HLA.out, ← HPR.out.last]; exact HK2.out.hd.cell 3
 have u5 : w2.cell? ⟨kp, 5, none⟩ = some (.pointer (some ⟨A.cp, 0, none⟩)) := HK2.out.hd.cell 5
 have u1 : w2.cell? ⟨A.oa, i * 3 + 1, none⟩ = some (.int .u64 (hd : Int)) := by rw [← HHD.out]; exact HK2.out.hcell HI1.out
 have hk2 := HK2.out.hd.lt
 have ho2 := HK2.out.own.lt
 have HLO : Hid (∀ w3, KAt E w3 B kp A jv ev (pdOf K) K1 → Calls Tryz.prog 86 #[.pointer (some ⟨A.cp, 0, none⟩), .int .i64 i, .int .u64 hd] w3 fun e w' => e = .returned (.int .u64 (lo : Int)) ∧ KAt E w' B kp A jv ev (pdOf K) K1 ∧ Fr E [] B w3 w') := fun w3 h3 => by
  have := lost_post h3 i i0 hi8 hd
  rw [HLN.out] at this
  exact this
 go_wp2_with fail
 go_region_held3 (fun w' => w'.cell? ⟨kp, 5, none⟩ = some (.pointer (some ⟨A.cp, 0, none⟩)) ∧ w'.cell? ⟨A.oa, i * 3 + 1, none⟩ = some (.int .u64 (hd : Int))) (go_keep) ((go_at_call 86; refine (HLO.out _ HK2.out.drew).mono ?_; rintro e w3 ⟨rfl, K3, F3⟩; have x5 : w3.cell? ⟨kp, 5, none⟩ = some (.pointer (some ⟨A.cp, 0, none⟩)) := K3.hd.cell 5; have x1 : w3.cell? ⟨A.oa, i * 3 + 1, none⟩ = some (.int .u64 (hd : Int)) := (by rw [← HHD.out]; exact K3.hcell HI1.out)))
 have HK3 := Lib.hid K3
 have HF3 := Lib.hid ((Fr.drew HF2.out).trans (F3.mono (ts' := [97, 50, 131, 142, 148]) (by simp)))
 clear K3 F3 HK2 HF2 u3 u5 u1 x5 x1 HLO
 have v0 : w3.cell? ⟨kp, 0, none⟩ = some (.int .i64 rel) := by rw [← HRE.out]; exact HK3.out.hd.cell 0
 have hk3 := HK3.out.hd.lt
 have ho3 := HK3.out.own.lt
 have hok : ¬ A.oa = kp := fun e => (HK3.out.own.ne_ HK3.out.hd (by decide)) e
 have HCO : Hid (∀ w4, KAt E w4 B kp A jv ev (pdOf K) K1 → Calls Tryz.prog 87 #[.int .u64 (lo : Int)] w4 fun e w' => e = .returned (.int .i64 (cn : Int)) ∧ KAt E w' B kp A jv ev (pdOf K) K1 ∧ Fr E [] B w4 w') := fun w4 h4 => by
  have := count_post h4 lo HLT.out
  rw [HCN.out] at this
  exact this
 obtain ⟨lv, hlv⟩ : ∃ lv, K1.loads.getD i 0 = lv := ⟨_, rfl⟩
 have HLV := Lib.hid hlv
 clear hlv
 go_wp2_with fail
 go_region_held3 (fun w' => w'.cell? ⟨kp, 0, none⟩ = some (.int .i64 rel)) (go_keep) ((go_at_call 87; refine (HCO.out _ HK3.out.drew).mono ?_; rintro e w4 ⟨rfl, K4, F4⟩; have x0 : w4.cell? ⟨kp, 0, none⟩ = some (.int .i64 rel) := (by rw [← HRE.out]; exact K4.hd.cell 0); have x2 := K4.lcell HI1.out; rw [HLV.out] at x2; have xf := K4.own.frozen (i * 3 + 2)))
 have hput := K4.putLoads HI1.out (rel * (cn : Int))
 have hf4 := (Fr.drew HF3.out).trans (F4.mono (ts' := [97, 50, 131, 142, 148]) (by simp))
 obtain ⟨w5, hw5⟩ : ∃ w5, w4.setCell ⟨A.oa, i * 3 + 2, none⟩ (.int .i64 (rel * (cn : Int))) = w5 := ⟨_, rfl⟩
 rw [hw5] at hput ⊢
 have y2 : w5.cell? ⟨A.oa, i * 3 + 2, none⟩ = some (.int .i64 (rel * (cn : Int))) := by
  have := hput.1.lcell HI1.out
  rw [HLS.out (rel * (cn : Int))] at this
  exact this
 have HK5 := Lib.hid hput.1
 have HF5 := Lib.hid (hf4.trans (hput.2.mono (ts' := [97, 50, 131, 142, 148]) (by simp)))
 have hk5 := HK5.out.hd.lt
 have ho5 := HK5.out.own.lt
 clear hput hf4 hw5 K4 F4 x0 x2 xf HK3 HF3 v0 HCO
 go_wp2_with fail
 refine (note_post HK5.out 6 i (rel * (cn : Int)) HL1.out).mono ?_
 rintro e w6 ⟨rfl, ev6, K6, F6⟩
 have y5 : w6.cell? ⟨kp, 5, none⟩ = some (.pointer (some ⟨A.cp, 0, none⟩)) := K6.hd.cell 5
 have HK6 := Lib.hid K6
 have HF6 := Lib.hid (HF5.out.trans (F6.mono (ts' := [97, 50, 131, 142, 148]) (by simp)))
 have hk6 := HK6.out.hd.lt
 clear K6 F6 HK5 HF5
 go_wp2_with fail
 refine (touch_post HK6.out (HFB.out _ HF6.out) hB0 HDB.out i lo HLT.out hi8n).mono ?_
 rintro e w7 ⟨rfl, K7, F7⟩
 have HK7 := Lib.hid K7
 have HF7 := Lib.hid (HF6.out.trans (F7.mono (ts' := [97, 50, 131, 142, 148]) (by simp)))
 clear K7 F7 HK6 HF6
 go_wp2_with fail
 go_end0
 refine ⟨rfl, jv, ev6, ?_, HF7.out⟩
 have e : turnsK K i = { K1.plus [⟨K1.tick, 6, i, rel * (cn : Int)⟩] with loads := K1.loads.set i (rel * (cn : Int)), cache := touchL i (bitsL lo) K1.cache } := by
  rw [HTA.out]
  unfold resK
  rw [HLN2.out, HCN.out, HRE.out]
 refine KAt.less (Eq.mp (congrArg (fun Z => KAt E w7 B kp A jv ev6 (pdOf K) Z) e.symm) HK7.out) ?_
 intro k hk
 rw [e] at hk
 have hk' : (T.getL K1.tab k).p = true := hk
 rw [HPR.out.tab] at hk'
 exact hk'
set_option maxHeartbeats 16000000 in
theorem turns_pre_new {W w : World} {B kp : Nat} {A : Ad} {jv : List Value} {ev : Value} {K : Kst} (hb : Below B W w) (hB0 : 0 < B) (hT : DeB W) (h : KAt E w B kp A jv ev (pdOf K) K) (hO : TnOk K) (hL : K.ev.length ≤ 10000000)
  (i : Nat) (hi : i < K.tk.length) (hli : K.last ≠ i) (hls : (T.stateL K.tab K.last).s = true) (hss : (T.stateL K.tab i).s = false) :
  Calls Tryz.prog 51 #[.pointer (some ⟨kp, 0, none⟩), .int .i64 i] w (JPost E w B kp A [97, 50, 131, 142, 148] (turnsK K i)) := by
 have n8 := h.n8
 obtain ⟨ln, hln0, hln1⟩ := started_lt hls
 obtain ⟨x, hx⟩ : ∃ x, K.tk[ln]? = some x := ⟨_, List.getElem?_eq_getElem (by have := h.lt; omega)⟩
 have hux := (hO.u64 x (List.mem_of_getElem? hx)).2
 obtain ⟨ub, hub⟩ : ∃ ub : Nat, x.f8 = ub := ⟨x.f8.toNat, by omega⟩
 have hul : ub < 18446744073709551616 := by omega
 have hgx : (K.tk.getD ln z46).f8.toNat = ub := by rw [List.getD_eq_getElem?_getD, hx]; simp [hub]
 obtain ⟨n, hn⟩ : ∃ n, K.tk.length = n := ⟨_, rfl⟩
 have q3 : w.cell? ⟨kp, 3, none⟩ = some (.int .i64 K.last) := h.hd.cell 3
 have q6 : w.cell? ⟨kp, 6, none⟩ = some (.pointer (some ⟨A.tp, 0, none⟩)) := h.hd.cell 6
 have hkl := h.hd.lt
 have hB1 : B ≤ w.heap.size := by have := h.bk; omega
 have HFB : Hid (∀ w2, Fr E [97, 50, 131, 142, 148] B w w2 → Below B W w2) := fun w2 f2 => hb.trans (f2.below (Nat.le_refl _) hB1)
 have HDB := Lib.hid hT
 have HH := Lib.hid h
 have HL := Lib.hid (show K.ev.length ≤ 100000000 by omega)
 have HP : Hid (∀ (w2 : World) (j : Int), KAt E w2 B kp A jv ev (pdOf K) K → Calls Tryz.prog 74 #[.pointer (some ⟨A.tp, 0, none⟩), .int .i64 j] w2 fun e w' => e = .returned (T.stateL K.tab j).val ∧ KAt E w' B kp A jv ev (pdOf K) K ∧ Fr E [] B w2 w') := fun w2 j h2 => state_post h2 j
 obtain ⟨⟨lp, ls, lm, la⟩, hl⟩ : ∃ z, T.stateL K.tab K.last = z := ⟨_, rfl⟩
 have hval2 : (T.stateL K.tab K.last).val = .agg #[.bool lp, .bool ls, .bool lm, .int .i64 la] := by rw [hl]; rfl
 have hls' : ls = true := by rw [hl] at hls; exact hls
 have HV2 := Lib.hid hval2
 have hfl := fun W => field1 W lp ls lm la
 have hne : ((K.last : Int) != (i : Int)) = true := by simpa using hli
 obtain ⟨last, hlast⟩ : ∃ last, K.last = last := ⟨_, rfl⟩
 rw [hlast] at q3 HV2 hne
 obtain ⟨⟨sp, ss, sm, sa⟩, hs⟩ : ∃ z, T.stateL K.tab (i : Int) = z := ⟨_, rfl⟩
 have hval : (T.stateL K.tab (i : Int)).val = .agg #[.bool sp, .bool ss, .bool sm, .int .i64 sa] := by rw [hs]; rfl
 have hss' : ss = false := by rw [hs] at hss; exact hss
 have hfs := fun W => field1 W sp ss sm sa
 have HV := Lib.hid hval
 have hta : turnsK K i = { (preK K i).plus [⟨(preK K i).tick, 4, i, 0⟩] with tab := T.beginL (preK K i).tab i } := by
  unfold turnsK
  rw [if_neg (by simp [hss])]
  unfold turnsA
  rw [(pre_same K i).tab, if_neg (by simp [hss])]
 have hpr := pre_same K i
 have hO1 := hO.pre i
 have hpk : preK K i = { K.plus [⟨K.tick, 5, K.last, 0⟩] with had := K.had.set ln (((ub &&& heldF K.last K.cache 64 : Nat) : Int)) } := by
  unfold preK
  rw [if_pos ⟨hli, hls⟩, hln0, Int.toNat_natCast, hgx]
 obtain ⟨K1, hK1⟩ : ∃ K1, preK K i = K1 := ⟨_, rfl⟩
 rw [hK1] at hta hpr hO1 hpk
 have hi1 : i < K1.tk.length := by rw [hpr.tk]; exact hi
 have HI1 := Lib.hid hi1
 have HTA := Lib.hid hta
 have HPK := Lib.hid hpk
 have i0 : (0 : Int) ≤ (i : Int) := by omega
 have i1 : (i : Int) < (n : Int) := by omega
 have HL1 : Hid (K1.ev.length ≤ 100000000) := by have := hpr.len; show K1.ev.length ≤ 100000000; omega
 have HN := Lib.hid hn
 have HLA := Lib.hid hlast
 have HPR := Lib.hid hpr
 have hi8 : (i : Int) ≤ 8 := by omega
 have hi8n : i ≤ 8 := by omega
 obtain ⟨a, c, ra, rc, hv, hal, hC, _⟩ := h.tasks.task (T := K.tk) hx
 obtain ⟨he, hhe⟩ : ∃ he, heldF last K.cache 64 = he := ⟨_, rfl⟩
 have hhl : he < 18446744073709551616 := by rw [← hhe]; exact heldF_lt _ _ 64 (Nat.le_refl _)
 have hand : bits BinOp.and IntKind.u64 (ub : Int) (he : Int) = ((ub &&& he : Nat) : Int) := bits_and_u64_nat ub he hul hhl
 have hln8 : ln ≤ 8 := by have := h.lt; omega
 have hlnn : ln < n := by have := h.lt; omega
 have l0 : (0 : Int) ≤ (ln : Int) := by omega
 have l1 : (ln : Int) < (n : Int) := by omega
 have HG : Hid (∀ w2, Fr E [97, 50, 131, 142, 148] B w w2 → w2.cell? ⟨a, ln * 9 + 8, none⟩ = some (.int .u64 (ub : Int))) := by
  intro w2 f2
  obtain ⟨a2, c2, ra2, rc2, hv2, _, hC2, _⟩ := (h.tasks.fr f2 (by decide) (by decide)).task (T := K.tk) hx
  rw [hv] at hv2
  injection hv2 with h1 _ _
  injection h1 with h1
  injection h1 with h1
  subst h1
  rw [← hub]
  exact hC2.g8
 have HTV : Hid (A.tv = .slice (some ⟨a, 0, none⟩) n c) := by rw [← hn]; exact hv
 have hoa : ¬ A.oa = a := fun e => by
  obtain ⟨a2, c2, cs, hv2, _, hB2, _⟩ := h.tasks.at_ h.n1
  rw [hv] at hv2
  injection hv2 with h1 _ _
  injection h1 with h1
  injection h1 with h1
  exact h.own.ne_ hB2 (by decide) (e.trans h1)
 have HLNN : Hid (ln < K.tk.length) := by show ln < K.tk.length; omega
 rw [hlast] at hpk HPK hln0
 rw [hhe] at hpk HPK
 have HHE := Lib.hid hhe
 subst hln0; subst hls' hss'; clear h hO hL hi hli hls hss hl hval2 hs hval hta hlast hn hb hT hpr hO1 hpk hK1 hi1 hx hux hub hgx hv hC hhe hln1
 go_enter Tryz.func51, Tryz.ntmps51
 go_wp2_with fail
 go_region_held3 (fun w' => w'.cell? ⟨kp, 6, none⟩ = some (.pointer (some ⟨A.tp, 0, none⟩)) ∧ w'.cell? ⟨kp, 3, none⟩ = some (.int .i64 (ln : Int))) (go_keep) ((go_at_call 74; refine (HP.out _ (ln : Int) HH.out.drew).mono ?_; rintro e wq ⟨rfl, KQ, FQ⟩; rw [HV2.out]; have x6 : wq.cell? ⟨kp, 6, none⟩ = some (.pointer (some ⟨A.tp, 0, none⟩)) := KQ.hd.cell 6; have x3 : wq.cell? ⟨kp, 3, none⟩ = some (.int .i64 (ln : Int)) := (KQ.hd.cell 3).trans ((HH.out.hd.cell 3).symm.trans q3)))
 have HKQ := Lib.hid KQ
 have HFQ := Lib.hid ((Fr.drew (Fr.refl (E := E) [97, 50, 131, 142, 148] B w)).trans (FQ.mono (ts' := [97, 50, 131, 142, 148]) (by simp)))
 clear KQ FQ q3 q6 x6 HP
 go_wp2_with fail
 refine (note_post HKQ.out 5 (ln : Int) 0 HL.out).mono ?_
 rintro e wa ⟨rfl, evq, KA, FA⟩
 have HKA := Lib.hid KA
 have HFA := Lib.hid (HFQ.out.trans (FA.mono (ts' := [97, 50, 131, 142, 148]) (by simp)))
 clear KA FA HKQ HFQ x3
 have z7 : wa.cell? ⟨kp, 7, none⟩ = some (.slice (some ⟨A.oa, 0, none⟩) n n) := by rw [← HN.out]; exact HKA.out.hd.cell 7
 have z3 : wa.cell? ⟨kp, 3, none⟩ = some (.int .i64 (ln : Int)) := by rw [← HLA.out]; exact HKA.out.hd.cell 3
 have z1 : wa.cell? ⟨kp, 1, none⟩ = some (.slice (some ⟨a, 0, none⟩) n c) := by rw [← HTV.out]; exact HKA.out.hd.cell 1
 have z5 : wa.cell? ⟨kp, 5, none⟩ = some (.pointer (some ⟨A.cp, 0, none⟩)) := HKA.out.hd.cell 5
 have z8 : wa.cell? ⟨a, ln * 9 + 8, none⟩ = some (.int .u64 (ub : Int)) := HG.out _ HFA.out
 have hka := HKA.out.hd.lt
 have hoo := HKA.out.own.lt
 have hok : ¬ A.oa = kp := fun e => (HKA.out.own.ne_ HKA.out.hd (by decide)) e
 have HHP : Hid (∀ w3, KAt E w3 B kp A jv evq (pdOf K) (K.plus [⟨K.tick, 5, (ln : Int), 0⟩]) → Calls Tryz.prog 84 #[.pointer (some ⟨A.cp, 0, none⟩), .int .i64 (ln : Int)] w3 fun e w' => e = .returned (.int .u64 (he : Int)) ∧ KAt E w' B kp A jv evq (pdOf K) (K.plus [⟨K.tick, 5, (ln : Int), 0⟩]) ∧ Fr E [] B w3 w') := fun w3 h3 => by
  have := held_post h3 (ln : Int) l0 (by omega)
  have e : (K.plus [⟨K.tick, 5, (ln : Int), 0⟩]).cache = K.cache := rfl
  rw [e, HHE.out] at this
  exact this
 go_wp2_with fail
 go_region_held3 (fun w' => w'.cell? ⟨kp, 7, none⟩ = some (.slice (some ⟨A.oa, 0, none⟩) n n) ∧ w'.cell? ⟨kp, 3, none⟩ = some (.int .i64 (ln : Int)) ∧ w'.cell? ⟨kp, 1, none⟩ = some (.slice (some ⟨a, 0, none⟩) n c) ∧ w'.cell? ⟨kp, 5, none⟩ = some (.pointer (some ⟨A.cp, 0, none⟩)) ∧ w'.cell? ⟨a, ln * 9 + 8, none⟩ = some (.int .u64 (ub : Int))) (go_keep) ((go_at_call 84; refine (HHP.out _ HKA.out.drew).mono ?_; rintro e wb ⟨rfl, KB, FB⟩; have b7 : wb.cell? ⟨kp, 7, none⟩ = some (.slice (some ⟨A.oa, 0, none⟩) n n) := (by rw [← HN.out]; exact KB.hd.cell 7); have b3 : wb.cell? ⟨kp, 3, none⟩ = some (.int .i64 (ln : Int)) := (by rw [← HLA.out]; exact KB.hd.cell 3); have b1 : wb.cell? ⟨kp, 1, none⟩ = some (.slice (some ⟨a, 0, none⟩) n c) := (by rw [← HTV.out]; exact KB.hd.cell 1); have b5 : wb.cell? ⟨kp, 5, none⟩ = some (.pointer (some ⟨A.cp, 0, none⟩)) := KB.hd.cell 5; have b8 : wb.cell? ⟨a, ln * 9 + 8, none⟩ = some (.int .u64 (ub : Int)) := HG.out _ ((Fr.drew HFA.out).trans (FB.mono (ts' := [97, 50, 131, 142, 148]) (by simp))); have bh := KB.hcell HLNN.out; have bf := KB.own.frozen (ln * 3 + 1)))
 have hput := KB.putHad HLNN.out ((ub &&& he : Nat) : Int)
 have hfb := (Fr.drew HFA.out).trans (FB.mono (ts' := [97, 50, 131, 142, 148]) (by simp))
 obtain ⟨wq2, hwq⟩ : ∃ wq2, wb.setCell ⟨A.oa, ln * 3 + 1, none⟩ (.int .u64 ((ub &&& he : Nat) : Int)) = wq2 := ⟨_, rfl⟩
 rw [hwq] at hput ⊢
 have HK0 : Hid (KAt E wq2 B kp A jv evq (pdOf K) K1) := by rw [HPK.out]; exact hput.1
 have HF0 := Lib.hid (hfb.trans (hput.2.mono (ts' := [97, 50, 131, 142, 148]) (by simp)))
 clear hput hfb hwq KB FB b7 b3 b1 b5 b8 bh bf HKA HFA z7 z3 z1 z5 z8 HHP HG
 have y7 : wq2.cell? ⟨kp, 7, none⟩ = some (.slice (some ⟨A.oa, 0, none⟩) n n) := by rw [← HN.out, ← HPR.out.tk]; exact HK0.out.hd.cell 7
 have y6 : wq2.cell? ⟨kp, 6, none⟩ = some (.pointer (some ⟨A.tp, 0, none⟩)) := HK0.out.hd.cell 6
 have hkq := HK0.out.hd.lt
 go_wp2_with fail
 refine (state_post HK0.out i).mono ?_
 rintro e w2 ⟨rfl, K2, F2⟩
 rw [HPR.out.tab, HV.out]
 have HK2 := Lib.hid K2
 have HF2 := Lib.hid (HF0.out.trans (F2.mono (ts' := [97, 50, 131, 142, 148]) (by simp)))
 clear K2 F2 HK0 HF0 y6 y7
 go_wp2_with fail
 refine (note_post HK2.out 4 i 0 HL1.out).mono ?_
 rintro e w3 ⟨rfl, ev3, K3, F3⟩
 have y6 : w3.cell? ⟨kp, 6, none⟩ = some (.pointer (some ⟨A.tp, 0, none⟩)) := K3.hd.cell 6
 have HK3 := Lib.hid K3
 have HF3 := Lib.hid (HF2.out.trans (F3.mono (ts' := [97, 50, 131, 142, 148]) (by simp)))
 clear K3 F3 HK2 HF2
 go_wp2_with fail
 refine (begin_post HK3.out i).mono ?_
 rintro e w4 ⟨rfl, K4, F4⟩
 have HK4 := Lib.hid K4
 have HF4 := Lib.hid (HF3.out.trans (F4.mono (ts' := [97, 50, 131, 142, 148]) (by simp)))
 clear K4 F4 HK3 HF3 y6
 go_wp2_with fail
 go_end0
 refine ⟨rfl, jv, ev3, ?_, HF4.out⟩
 refine KAt.less (Eq.mp (congrArg (fun Z => KAt E w4 B kp A jv ev3 (pdOf K) Z) HTA.out.symm) HK4.out) ?_
 intro k hk
 rw [HTA.out] at hk
 have hk' : (T.getL (T.beginL K1.tab i) k).p = true := hk
 rw [begin_p, HPR.out.tab] at hk'
 exact hk'
set_option maxHeartbeats 16000000 in
theorem turns_pre_res {W w : World} {B kp : Nat} {A : Ad} {jv : List Value} {ev : Value} {K : Kst} (hb : Below B W w) (hB0 : 0 < B) (hT : DeB W) (h : KAt E w B kp A jv ev (pdOf K) K) (hO : TnOk K) (hL : K.ev.length ≤ 10000000)
  (i : Nat) (hi : i < K.tk.length) (hli : K.last ≠ i) (hls : (T.stateL K.tab K.last).s = true) (hss : (T.stateL K.tab i).s = true) :
  Calls Tryz.prog 51 #[.pointer (some ⟨kp, 0, none⟩), .int .i64 i] w (JPost E w B kp A [97, 50, 131, 142, 148] (turnsK K i)) := by
 have n8 := h.n8
 obtain ⟨ln, hln0, hln1⟩ := started_lt hls
 obtain ⟨x, hx⟩ : ∃ x, K.tk[ln]? = some x := ⟨_, List.getElem?_eq_getElem (by have := h.lt; omega)⟩
 have hux := (hO.u64 x (List.mem_of_getElem? hx)).2
 obtain ⟨ub, hub⟩ : ∃ ub : Nat, x.f8 = ub := ⟨x.f8.toNat, by omega⟩
 have hul : ub < 18446744073709551616 := by omega
 have hgx : (K.tk.getD ln z46).f8.toNat = ub := by rw [List.getD_eq_getElem?_getD, hx]; simp [hub]
 obtain ⟨n, hn⟩ : ∃ n, K.tk.length = n := ⟨_, rfl⟩
 have q3 : w.cell? ⟨kp, 3, none⟩ = some (.int .i64 K.last) := h.hd.cell 3
 have q6 : w.cell? ⟨kp, 6, none⟩ = some (.pointer (some ⟨A.tp, 0, none⟩)) := h.hd.cell 6
 have hkl := h.hd.lt
 have hB1 : B ≤ w.heap.size := by have := h.bk; omega
 have HFB : Hid (∀ w2, Fr E [97, 50, 131, 142, 148] B w w2 → Below B W w2) := fun w2 f2 => hb.trans (f2.below (Nat.le_refl _) hB1)
 have HDB := Lib.hid hT
 have HH := Lib.hid h
 have HL := Lib.hid (show K.ev.length ≤ 100000000 by omega)
 have HP : Hid (∀ (w2 : World) (j : Int), KAt E w2 B kp A jv ev (pdOf K) K → Calls Tryz.prog 74 #[.pointer (some ⟨A.tp, 0, none⟩), .int .i64 j] w2 fun e w' => e = .returned (T.stateL K.tab j).val ∧ KAt E w' B kp A jv ev (pdOf K) K ∧ Fr E [] B w2 w') := fun w2 j h2 => state_post h2 j
 obtain ⟨⟨lp, ls, lm, la⟩, hl⟩ : ∃ z, T.stateL K.tab K.last = z := ⟨_, rfl⟩
 have hval2 : (T.stateL K.tab K.last).val = .agg #[.bool lp, .bool ls, .bool lm, .int .i64 la] := by rw [hl]; rfl
 have hls' : ls = true := by rw [hl] at hls; exact hls
 have HV2 := Lib.hid hval2
 have hfl := fun W => field1 W lp ls lm la
 have hne : ((K.last : Int) != (i : Int)) = true := by simpa using hli
 obtain ⟨last, hlast⟩ : ∃ last, K.last = last := ⟨_, rfl⟩
 rw [hlast] at q3 HV2 hne
 obtain ⟨⟨sp, ss, sm, sa⟩, hs⟩ : ∃ z, T.stateL K.tab (i : Int) = z := ⟨_, rfl⟩
 have hval : (T.stateL K.tab (i : Int)).val = .agg #[.bool sp, .bool ss, .bool sm, .int .i64 sa] := by rw [hs]; rfl
 have hss' : ss = true := by rw [hs] at hss; exact hss
 have hfs := fun W => field1 W sp ss sm sa
 have HV := Lib.hid hval
 have hta : turnsK K i = resK (preK K i) i := by
  unfold turnsK
  rw [if_pos ⟨hss, hli⟩]
 have hpr := pre_same K i
 have hO1 := hO.pre i
 have hpk : preK K i = { K.plus [⟨K.tick, 5, K.last, 0⟩] with had := K.had.set ln (((ub &&& heldF K.last K.cache 64 : Nat) : Int)) } := by
  unfold preK
  rw [if_pos ⟨hli, hls⟩, hln0, Int.toNat_natCast, hgx]
 obtain ⟨K1, hK1⟩ : ∃ K1, preK K i = K1 := ⟨_, rfl⟩
 rw [hK1] at hta hpr hO1 hpk
 have hi1 : i < K1.tk.length := by rw [hpr.tk]; exact hi
 have HI1 := Lib.hid hi1
 have HTA := Lib.hid hta
 have HPK := Lib.hid hpk
 have i0 : (0 : Int) ≤ (i : Int) := by omega
 have i1 : (i : Int) < (n : Int) := by omega
 have hls1 : ∀ z : Int, (K1.loads.set i z).getD i 0 = z := fun z => by
  have : i < K1.loads.length := by rw [hpr.loads, h.ll]; exact hi
  simp [List.getD_eq_getElem?_getD, this]
 have HLS := Lib.hid hls1
 obtain ⟨hd, hhd⟩ : ∃ hd : Nat, K1.had.getD i 0 = hd := ⟨(K1.had.getD i 0).toNat, by have := hO1.had i; omega⟩
 obtain ⟨lo, hlo⟩ : ∃ lo, lostN K1 i = lo := ⟨_, rfl⟩
 have hln : andN hd (heldF i K1.cache 64) = lo := by rw [← hlo]; unfold lostN; rw [hhd, Int.toNat_natCast]
 have hlt : lo < 18446744073709551616 := by rw [← hlo]; exact andN_lt _ _
 obtain ⟨cn, hcn⟩ : ∃ cn, cnt lo = cn := ⟨_, rfl⟩
 have hc64 : cn ≤ 64 := by rw [← hcn]; exact cnt_le lo
 obtain ⟨rel, hrel⟩ : ∃ rel, K1.reload = rel := ⟨_, rfl⟩
 have hr0 := hO1.r0
 have hr1 := hO1.r1
 rw [hrel] at hr0 hr1
 have hm1 : 0 ≤ rel * (cn : Int) := Int.mul_nonneg hr0 (by omega)
 have hm2 : rel * (cn : Int) ≤ 10000 * 64 := Int.mul_le_mul hr1 (by omega) (by omega) (by omega)
 have hmw : IntKind.i64.wrap (rel * (cn : Int)) = rel * (cn : Int) := IntWalk.i64_in _ ⟨by omega, by omega⟩
 have HHD := Lib.hid hhd
 have HLN := Lib.hid hln
 have HLN2 := Lib.hid hlo
 have HLT := Lib.hid hlt
 have HCN := Lib.hid hcn
 have HRE := Lib.hid hrel
 have HL1 : Hid (K1.ev.length ≤ 100000000) := by have := hpr.len; show K1.ev.length ≤ 100000000; omega
 have HN := Lib.hid hn
 have HLA := Lib.hid hlast
 have HPR := Lib.hid hpr
 have hi8 : (i : Int) ≤ 8 := by omega
 have hi8n : i ≤ 8 := by omega
 obtain ⟨a, c, ra, rc, hv, hal, hC, _⟩ := h.tasks.task (T := K.tk) hx
 obtain ⟨he, hhe⟩ : ∃ he, heldF last K.cache 64 = he := ⟨_, rfl⟩
 have hhl : he < 18446744073709551616 := by rw [← hhe]; exact heldF_lt _ _ 64 (Nat.le_refl _)
 have hand : bits BinOp.and IntKind.u64 (ub : Int) (he : Int) = ((ub &&& he : Nat) : Int) := bits_and_u64_nat ub he hul hhl
 have hln8 : ln ≤ 8 := by have := h.lt; omega
 have hlnn : ln < n := by have := h.lt; omega
 have l0 : (0 : Int) ≤ (ln : Int) := by omega
 have l1 : (ln : Int) < (n : Int) := by omega
 have HG : Hid (∀ w2, Fr E [97, 50, 131, 142, 148] B w w2 → w2.cell? ⟨a, ln * 9 + 8, none⟩ = some (.int .u64 (ub : Int))) := by
  intro w2 f2
  obtain ⟨a2, c2, ra2, rc2, hv2, _, hC2, _⟩ := (h.tasks.fr f2 (by decide) (by decide)).task (T := K.tk) hx
  rw [hv] at hv2
  injection hv2 with h1 _ _
  injection h1 with h1
  injection h1 with h1
  subst h1
  rw [← hub]
  exact hC2.g8
 have HTV : Hid (A.tv = .slice (some ⟨a, 0, none⟩) n c) := by rw [← hn]; exact hv
 have hoa : ¬ A.oa = a := fun e => by
  obtain ⟨a2, c2, cs, hv2, _, hB2, _⟩ := h.tasks.at_ h.n1
  rw [hv] at hv2
  injection hv2 with h1 _ _
  injection h1 with h1
  injection h1 with h1
  exact h.own.ne_ hB2 (by decide) (e.trans h1)
 have HLNN : Hid (ln < K.tk.length) := by show ln < K.tk.length; omega
 rw [hlast] at hpk HPK hln0
 rw [hhe] at hpk HPK
 have HHE := Lib.hid hhe
 subst hln0; subst hls' hss'; clear h hO hL hi hli hls hss hl hval2 hs hval hta hlast hn hb hT hpr hO1 hpk hK1 hi1 hhd hln hlo hlt hcn hrel hls1 hx hux hub hgx hv hC hhe hln1
 go_enter Tryz.func51, Tryz.ntmps51
 go_wp2_with fail
 go_region_held3 (fun w' => w'.cell? ⟨kp, 6, none⟩ = some (.pointer (some ⟨A.tp, 0, none⟩)) ∧ w'.cell? ⟨kp, 3, none⟩ = some (.int .i64 (ln : Int))) (go_keep) ((go_at_call 74; refine (HP.out _ (ln : Int) HH.out.drew).mono ?_; rintro e wq ⟨rfl, KQ, FQ⟩; rw [HV2.out]; have x6 : wq.cell? ⟨kp, 6, none⟩ = some (.pointer (some ⟨A.tp, 0, none⟩)) := KQ.hd.cell 6; have x3 : wq.cell? ⟨kp, 3, none⟩ = some (.int .i64 (ln : Int)) := (KQ.hd.cell 3).trans ((HH.out.hd.cell 3).symm.trans q3)))
 have HKQ := Lib.hid KQ
 have HFQ := Lib.hid ((Fr.drew (Fr.refl (E := E) [97, 50, 131, 142, 148] B w)).trans (FQ.mono (ts' := [97, 50, 131, 142, 148]) (by simp)))
 clear KQ FQ q3 q6 x6 HP
 go_wp2_with fail
 refine (note_post HKQ.out 5 (ln : Int) 0 HL.out).mono ?_
 rintro e wa ⟨rfl, evq, KA, FA⟩
 have HKA := Lib.hid KA
 have HFA := Lib.hid (HFQ.out.trans (FA.mono (ts' := [97, 50, 131, 142, 148]) (by simp)))
 clear KA FA HKQ HFQ x3
 have z7 : wa.cell? ⟨kp, 7, none⟩ = some (.slice (some ⟨A.oa, 0, none⟩) n n) := by rw [← HN.out]; exact HKA.out.hd.cell 7
 have z3 : wa.cell? ⟨kp, 3, none⟩ = some (.int .i64 (ln : Int)) := by rw [← HLA.out]; exact HKA.out.hd.cell 3
 have z1 : wa.cell? ⟨kp, 1, none⟩ = some (.slice (some ⟨a, 0, none⟩) n c) := by rw [← HTV.out]; exact HKA.out.hd.cell 1
 have z5 : wa.cell? ⟨kp, 5, none⟩ = some (.pointer (some ⟨A.cp, 0, none⟩)) := HKA.out.hd.cell 5
 have z8 : wa.cell? ⟨a, ln * 9 + 8, none⟩ = some (.int .u64 (ub : Int)) := HG.out _ HFA.out
 have hka := HKA.out.hd.lt
 have hoo := HKA.out.own.lt
 have hok : ¬ A.oa = kp := fun e => (HKA.out.own.ne_ HKA.out.hd (by decide)) e
 have HHP : Hid (∀ w3, KAt E w3 B kp A jv evq (pdOf K) (K.plus [⟨K.tick, 5, (ln : Int), 0⟩]) → Calls Tryz.prog 84 #[.pointer (some ⟨A.cp, 0, none⟩), .int .i64 (ln : Int)] w3 fun e w' => e = .returned (.int .u64 (he : Int)) ∧ KAt E w' B kp A jv evq (pdOf K) (K.plus [⟨K.tick, 5, (ln : Int), 0⟩]) ∧ Fr E [] B w3 w') := fun w3 h3 => by
  have := held_post h3 (ln : Int) l0 (by omega)
  have e : (K.plus [⟨K.tick, 5, (ln : Int), 0⟩]).cache = K.cache := rfl
  rw [e, HHE.out] at this
  exact this
 go_wp2_with fail
 go_region_held3 (fun w' => w'.cell? ⟨kp, 7, none⟩ = some (.slice (some ⟨A.oa, 0, none⟩) n n) ∧ w'.cell? ⟨kp, 3, none⟩ = some (.int .i64 (ln : Int)) ∧ w'.cell? ⟨kp, 1, none⟩ = some (.slice (some ⟨a, 0, none⟩) n c) ∧ w'.cell? ⟨kp, 5, none⟩ = some (.pointer (some ⟨A.cp, 0, none⟩)) ∧ w'.cell? ⟨a, ln * 9 + 8, none⟩ = some (.int .u64 (ub : Int))) (go_keep) ((go_at_call 84; refine (HHP.out _ HKA.out.drew).mono ?_; rintro e wb ⟨rfl, KB, FB⟩; have b7 : wb.cell? ⟨kp, 7, none⟩ = some (.slice (some ⟨A.oa, 0, none⟩) n n) := (by rw [← HN.out]; exact KB.hd.cell 7); have b3 : wb.cell? ⟨kp, 3, none⟩ = some (.int .i64 (ln : Int)) := (by rw [← HLA.out]; exact KB.hd.cell 3); have b1 : wb.cell? ⟨kp, 1, none⟩ = some (.slice (some ⟨a, 0, none⟩) n c) := (by rw [← HTV.out]; exact KB.hd.cell 1); have b5 : wb.cell? ⟨kp, 5, none⟩ = some (.pointer (some ⟨A.cp, 0, none⟩)) := KB.hd.cell 5; have b8 : wb.cell? ⟨a, ln * 9 + 8, none⟩ = some (.int .u64 (ub : Int)) := HG.out _ ((Fr.drew HFA.out).trans (FB.mono (ts' := [97, 50, 131, 142, 148]) (by simp))); have bh := KB.hcell HLNN.out; have bf := KB.own.frozen (ln * 3 + 1)))
 have hput := KB.putHad HLNN.out ((ub &&& he : Nat) : Int)
 have hfb := (Fr.drew HFA.out).trans (FB.mono (ts' := [97, 50, 131, 142, 148]) (by simp))
 obtain ⟨wq2, hwq⟩ : ∃ wq2, wb.setCell ⟨A.oa, ln * 3 + 1, none⟩ (.int .u64 ((ub &&& he : Nat) : Int)) = wq2 := ⟨_, rfl⟩
 rw [hwq] at hput ⊢
 have HK0 : Hid (KAt E wq2 B kp A jv evq (pdOf K) K1) := by rw [HPK.out]; exact hput.1
 have HF0 := Lib.hid (hfb.trans (hput.2.mono (ts' := [97, 50, 131, 142, 148]) (by simp)))
 clear hput hfb hwq KB FB b7 b3 b1 b5 b8 bh bf HKA HFA z7 z3 z1 z5 z8 HHP HG
 have y7 : wq2.cell? ⟨kp, 7, none⟩ = some (.slice (some ⟨A.oa, 0, none⟩) n n) := by rw [← HN.out, ← HPR.out.tk]; exact HK0.out.hd.cell 7
 have y6 : wq2.cell? ⟨kp, 6, none⟩ = some (.pointer (some ⟨A.tp, 0, none⟩)) := HK0.out.hd.cell 6
 have hkq := HK0.out.hd.lt
 go_wp2_with fail
 refine (state_post HK0.out i).mono ?_
 rintro e w2 ⟨rfl, K2, F2⟩
 rw [HPR.out.tab, HV.out]
 have HK2 := Lib.hid K2
 have HF2 := Lib.hid (HF0.out.trans (F2.mono (ts' := [97, 50, 131, 142, 148]) (by simp)))
 clear K2 F2 HK0 HF0 y6 y7
 have u3 : w2.cell? ⟨kp, 3, none⟩ = some (.int .i64 (ln : Int)) := by rw [← HLA.out, ← HPR.out.last]; exact HK2.out.hd.cell 3
 have u5 : w2.cell? ⟨kp, 5, none⟩ = some (.pointer (some ⟨A.cp, 0, none⟩)) := HK2.out.hd.cell 5
 have u1 : w2.cell? ⟨A.oa, i * 3 + 1, none⟩ = some (.int .u64 (hd : Int)) := by rw [← HHD.out]; exact HK2.out.hcell HI1.out
 have hk2 := HK2.out.hd.lt
 have ho2 := HK2.out.own.lt
 have HLO : Hid (∀ w3, KAt E w3 B kp A jv evq (pdOf K) K1 → Calls Tryz.prog 86 #[.pointer (some ⟨A.cp, 0, none⟩), .int .i64 i, .int .u64 hd] w3 fun e w' => e = .returned (.int .u64 (lo : Int)) ∧ KAt E w' B kp A jv evq (pdOf K) K1 ∧ Fr E [] B w3 w') := fun w3 h3 => by
  have := lost_post h3 i i0 hi8 hd
  rw [HLN.out] at this
  exact this
 go_wp2_with fail
 go_region_held3 (fun w' => w'.cell? ⟨kp, 5, none⟩ = some (.pointer (some ⟨A.cp, 0, none⟩)) ∧ w'.cell? ⟨A.oa, i * 3 + 1, none⟩ = some (.int .u64 (hd : Int))) (go_keep) ((go_at_call 86; refine (HLO.out _ HK2.out.drew).mono ?_; rintro e w3 ⟨rfl, K3, F3⟩; have x5 : w3.cell? ⟨kp, 5, none⟩ = some (.pointer (some ⟨A.cp, 0, none⟩)) := K3.hd.cell 5; have x1 : w3.cell? ⟨A.oa, i * 3 + 1, none⟩ = some (.int .u64 (hd : Int)) := (by rw [← HHD.out]; exact K3.hcell HI1.out)))
 have HK3 := Lib.hid K3
 have HF3 := Lib.hid ((Fr.drew HF2.out).trans (F3.mono (ts' := [97, 50, 131, 142, 148]) (by simp)))
 clear K3 F3 HK2 HF2 u3 u5 u1 x5 x1 HLO
 have v0 : w3.cell? ⟨kp, 0, none⟩ = some (.int .i64 rel) := by rw [← HRE.out]; exact HK3.out.hd.cell 0
 have hk3 := HK3.out.hd.lt
 have ho3 := HK3.out.own.lt
 have hok : ¬ A.oa = kp := fun e => (HK3.out.own.ne_ HK3.out.hd (by decide)) e
 have HCO : Hid (∀ w4, KAt E w4 B kp A jv evq (pdOf K) K1 → Calls Tryz.prog 87 #[.int .u64 (lo : Int)] w4 fun e w' => e = .returned (.int .i64 (cn : Int)) ∧ KAt E w' B kp A jv evq (pdOf K) K1 ∧ Fr E [] B w4 w') := fun w4 h4 => by
  have := count_post h4 lo HLT.out
  rw [HCN.out] at this
  exact this
 obtain ⟨lv, hlv⟩ : ∃ lv, K1.loads.getD i 0 = lv := ⟨_, rfl⟩
 have HLV := Lib.hid hlv
 clear hlv
 go_wp2_with fail
 go_region_held3 (fun w' => w'.cell? ⟨kp, 0, none⟩ = some (.int .i64 rel)) (go_keep) ((go_at_call 87; refine (HCO.out _ HK3.out.drew).mono ?_; rintro e w4 ⟨rfl, K4, F4⟩; have x0 : w4.cell? ⟨kp, 0, none⟩ = some (.int .i64 rel) := (by rw [← HRE.out]; exact K4.hd.cell 0); have x2 := K4.lcell HI1.out; rw [HLV.out] at x2; have xf := K4.own.frozen (i * 3 + 2)))
 have hput := K4.putLoads HI1.out (rel * (cn : Int))
 have hf4 := (Fr.drew HF3.out).trans (F4.mono (ts' := [97, 50, 131, 142, 148]) (by simp))
 obtain ⟨w5, hw5⟩ : ∃ w5, w4.setCell ⟨A.oa, i * 3 + 2, none⟩ (.int .i64 (rel * (cn : Int))) = w5 := ⟨_, rfl⟩
 rw [hw5] at hput ⊢
 have y2 : w5.cell? ⟨A.oa, i * 3 + 2, none⟩ = some (.int .i64 (rel * (cn : Int))) := by
  have := hput.1.lcell HI1.out
  rw [HLS.out (rel * (cn : Int))] at this
  exact this
 have HK5 := Lib.hid hput.1
 have HF5 := Lib.hid (hf4.trans (hput.2.mono (ts' := [97, 50, 131, 142, 148]) (by simp)))
 have hk5 := HK5.out.hd.lt
 have ho5 := HK5.out.own.lt
 clear hput hf4 hw5 K4 F4 x0 x2 xf HK3 HF3 v0 HCO
 go_wp2_with fail
 refine (note_post HK5.out 6 i (rel * (cn : Int)) HL1.out).mono ?_
 rintro e w6 ⟨rfl, ev6, K6, F6⟩
 have y5 : w6.cell? ⟨kp, 5, none⟩ = some (.pointer (some ⟨A.cp, 0, none⟩)) := K6.hd.cell 5
 have HK6 := Lib.hid K6
 have HF6 := Lib.hid (HF5.out.trans (F6.mono (ts' := [97, 50, 131, 142, 148]) (by simp)))
 have hk6 := HK6.out.hd.lt
 clear K6 F6 HK5 HF5
 go_wp2_with fail
 refine (touch_post HK6.out (HFB.out _ HF6.out) hB0 HDB.out i lo HLT.out hi8n).mono ?_
 rintro e w7 ⟨rfl, K7, F7⟩
 have HK7 := Lib.hid K7
 have HF7 := Lib.hid (HF6.out.trans (F7.mono (ts' := [97, 50, 131, 142, 148]) (by simp)))
 clear K7 F7 HK6 HF6
 go_wp2_with fail
 go_end0
 refine ⟨rfl, jv, ev6, ?_, HF7.out⟩
 have e : turnsK K i = { K1.plus [⟨K1.tick, 6, i, rel * (cn : Int)⟩] with loads := K1.loads.set i (rel * (cn : Int)), cache := touchL i (bitsL lo) K1.cache } := by
  rw [HTA.out]
  unfold resK
  rw [HLN2.out, HCN.out, HRE.out]
 refine KAt.less (Eq.mp (congrArg (fun Z => KAt E w7 B kp A jv ev6 (pdOf K) Z) e.symm) HK7.out) ?_
 intro k hk
 rw [e] at hk
 have hk' : (T.getL K1.tab k).p = true := hk
 rw [HPR.out.tab] at hk'
 exact hk'
end Go.Proofs.YtdgfjpbjiccllaaGreatDoor
