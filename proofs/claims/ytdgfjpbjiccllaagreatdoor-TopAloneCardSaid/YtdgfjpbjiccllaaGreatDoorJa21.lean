/- Joined texts: New, Runs, Args. -/
import Derived.Test.YtdgfjpbjiccllaaGreatDoorJa20
import Derived.Deep.DeepCutAuto
import Derived.Laws.AppendOwnNone
/- A new kernel. -/
namespace Go.Proofs.YtdgfjpbjiccllaaGreatDoor
open Go.RowKit
open Go.Proofs.YtdgfjpbjiccllaaGreatDoorW.PrintWords Go.Proofs.YtdgfjpbjiccllaaGreatDoorW.PrintLast Go.Proofs.YtdgfjpbjiccllaaGreatDoorW.PrintMore
open Go.Proofs.YtdgfjpbjiccllaaGreatDoor.PTopLoads (S46 k46 z46 k46_mk S57 k57)
set_option maxRecDepth 100000
variable {E : Nat}
theorem Tryz.info148 : (Tryz.prog.info? 148).map (fun i => (i.zero, i.size, i.bytes)) = some (some (.agg #[.pointer none, .int .u64 0, .int .i64 0]), 3, 24) := by kernel_rfl
theorem Tryz.info46 : (Tryz.prog.info? 46).map (fun i => (i.zero, i.size, i.bytes)) = some (some (.agg #[.string ⟨#[]⟩, .int .i64 0, .int .i64 0, .int .i64 0, .int .i64 0, .int .i64 0, .slice none 0 0, .int .u64 0, .int .u64 0]), 9, 96) := by kernel_rfl
/-- Tasks that are read. -/
def Src (w : World) (A : Option Addr) (L : List S46) : Prop :=
  L = [] ∨ ∃ b off, A = some ⟨b, off, none⟩ ∧ b < w.heap.size ∧ ∀ i x, L[i]? = some x → ∃ ra rc, w.cell? ⟨b, off + i * 9, none⟩ = some (.string x.f0) ∧ w.cell? ⟨b, off + i * 9 + 1, none⟩ = some (.int .i64 x.f1) ∧
    w.cell? ⟨b, off + i * 9 + 2, none⟩ = some (.int .i64 x.f2) ∧ w.cell? ⟨b, off + i * 9 + 3, none⟩ = some (.int .i64 x.f3) ∧ w.cell? ⟨b, off + i * 9 + 4, none⟩ = some (.int .i64 x.f4) ∧ w.cell? ⟨b, off + i * 9 + 5, none⟩ = some (.int .i64 x.f5) ∧
    w.cell? ⟨b, off + i * 9 + 6, none⟩ = some (.slice ra x.f6.length rc) ∧ w.cell? ⟨b, off + i * 9 + 7, none⟩ = some (.int .u64 x.f7) ∧ w.cell? ⟨b, off + i * 9 + 8, none⟩ = some (.int .u64 x.f8) ∧ Nums w ra x.f6 ∧ x.f6.length ≤ rc
def nones (n : Nat) : List Value := List.replicate n (.pointer none)
def zs (n : Nat) : List Int := List.replicate n 0
/-- A kernel that is being made. -/
structure KMk (w : World) (B kp cp tp ta oa n : Nat) (rel : Int) (tv : Value) (L : List S46) (R : List Value) : Prop where
  hd : Blk w kp 97 #[.int .i64 rel, tv, .int .i64 0, .int .i64 (-1), .pointer none, .pointer (some ⟨cp, 0, none⟩), .pointer (some ⟨tp, 0, none⟩), .slice (some ⟨oa, 0, none⟩) n n, .slice none 0 0]
  tasks : TasksAt w B tv L R
  cache : CacheAt w cp (List.replicate 64 0)
  tab : T.Tab w 133 tp ta (T.zeros n)
  own : Blk w oa 148 (ocs (nones n) (zs n) (zs n)).toArray
  bk : B ≤ kp
  bc : B ≤ cp
  bt : B ≤ tp
  bta : B ≤ ta
  bo : B ≤ oa
theorem made_own (n : Nat) (h : n ≤ 8) : madeCells (Value.agg #[.pointer none, .int .u64 0, .int .i64 0]).cells (n * 3) = (ocs (nones n) (zs n) (zs n)).toArray := by
  obtain rfl | rfl | rfl | rfl | rfl | rfl | rfl | rfl | rfl : n = 0 ∨ n = 1 ∨ n = 2 ∨ n = 3 ∨ n = 4 ∨ n = 5 ∨ n = 6 ∨ n = 7 ∨ n = 8 := by omega
  all_goals kernel_rfl
theorem make_own (n : Nat) (h : n ≤ 8) (W : World) : (Instr.makeSlice 94 (.int .i64 (n : Int)) (.int .i64 (n : Int))).run Tryz.prog W = .ok (.slice (some ⟨W.heap.size, 0, none⟩) n n) (W.alloc (.cells (ocs (nones n) (zs n) (zs n)).toArray 148)) := by
  obtain ⟨i0, hi0, hz0, hz1, hz2⟩ := info_parts Tryz.info148
  have hr := run_make (P := Tryz.prog) W 94 148 i0 _ Tryz.underlying94 hi0 hz0 .i64 .i64 n n (by omega) (by omega) (by rw [hz2]; omega) (by omega)
  rw [hr, hz1, Int.toNat_natCast, made_own n h]
section
variable {w w' : World} {B kp cp tp ta oa n : Nat} {rel : Int} {tv : Value} {L : List S46} {R : List Value}
theorem KMk.fr {ts : List Nat} {C : Nat} (h : KMk w B kp cp tp ta oa n rel tv L R) (hf : Fr E ts C w w') (ht : ∀ t ∈ [97, 46, 2, 131, 133, 142, 148], t ∉ ts) : KMk w' B kp cp tp ta oa n rel tv L R := by
  have g : ∀ t, t ∈ [97, 46, 2, 131, 133, 142, 148] → t ∉ ts := ht
  exact ⟨h.hd.fr hf (g 97 (by decide)), h.tasks.fr hf (g 46 (by decide)) (g 2 (by decide)), ⟨h.cache.len, h.cache.hd.fr hf (g 131 (by decide))⟩, ⟨h.tab.hd.fr hf (g 133 (by decide)), h.tab.row.fr hf (g 142 (by decide))⟩, h.own.fr hf (g 148 (by decide)), h.bk, h.bc, h.bt, h.bta, h.bo⟩
end
theorem CacheAt.fr {w w' : World} {g : Nat} {X : List Int} {ts : List Nat} {C : Nat} (h : CacheAt w g X) (hf : Fr E ts C w w') (ht : 131 ∉ ts) : CacheAt w' g X := ⟨h.len, h.hd.fr hf ht⟩
theorem CacheAt.alloc {w : World} {g : Nat} {X : List Int} (h : CacheAt w g X) (o : Obj) : CacheAt (w.alloc o) g X := ⟨h.len, h.hd.alloc o⟩
theorem tab_alloc {w : World} {g a : Nat} {X : List T.St} (h : T.Tab w 133 g a X) (o : Obj) : T.Tab (w.alloc o) 133 g a X := ⟨h.hd.alloc o, h.row.alloc o⟩
theorem tab_fr {w w' : World} {g a : Nat} {X : List T.St} {ts : List Nat} {C : Nat} (h : T.Tab w 133 g a X) (hf : Fr E ts C w w') (h1 : 133 ∉ ts) (h2 : 142 ∉ ts) : T.Tab w' 133 g a X := ⟨h.hd.fr hf h1, h.row.fr hf h2⟩
theorem heap_size_alloc' (w : World) (o : Obj) : (w.alloc o).heap.size = w.heap.size + 1 := by simp
theorem drew_size' (w : World) : w.drew.heap.size = w.heap.size := rfl
theorem drew_cell' (w : World) (p : Addr) : w.drew.cell? p = w.cell? p := rfl
/-- The kernel's box is laid. -/
theorem KMk.mk_ {w wx : World} {B kp cp tp ta oa n : Nat} (hk : wx.heap.size = kp) (hC : CacheAt wx cp (List.replicate 64 0)) (hT : T.Tab wx 133 tp ta (T.zeros n)) (hO : Blk wx oa 148 (ocs (nones n) (zs n) (zs n)).toArray)
    (b : Below B w wx) (hB : B ≤ wx.heap.size) (bc : B ≤ cp) (bt : B ≤ tp) (ba : B ≤ ta) (bo : B ≤ oa) :
    KMk (wx.alloc (.cells #[.int .i64 0, .slice none 0 0, .int .i64 0, .int .i64 (-1), .pointer none, .pointer (some ⟨cp, 0, none⟩), .pointer (some ⟨tp, 0, none⟩), .slice (some ⟨oa, 0, none⟩) n n, .slice none 0 0] 97)) B kp cp tp ta oa n 0 (.slice none 0 0) [] [] ∧
      Below B w (wx.alloc (.cells #[.int .i64 0, .slice none 0 0, .int .i64 0, .int .i64 (-1), .pointer none, .pointer (some ⟨cp, 0, none⟩), .pointer (some ⟨tp, 0, none⟩), .slice (some ⟨oa, 0, none⟩) n n, .slice none 0 0] 97)) := by
  subst hk
  exact ⟨⟨Blk.new wx 97 _, ⟨rfl, World.ownsRow_nil _ _ _ _, fun i hi => absurd hi (by simp)⟩, ⟨hC.len, hC.hd.alloc _⟩, ⟨hT.hd.alloc _, hT.row.alloc _⟩, hO.alloc _, hB, bc, bt, ba, bo⟩, b.alloc hB _⟩
theorem KMk.rel {w : World} {B kp cp tp ta oa n : Nat} {r0 : Int} (h : KMk w B kp cp tp ta oa n r0 (.slice none 0 0) [] []) (r : Int) :
    KMk ((w.setCell ⟨kp, 0, none⟩ (.int .i64 r)).setCell ⟨kp, 1, none⟩ (.slice none 0 0)) B kp cp tp ta oa n r (.slice none 0 0) [] [] := by
  have hf : Fr 0 [97] B w ((w.setCell ⟨kp, 0, none⟩ (.int .i64 r)).setCell ⟨kp, 1, none⟩ (.slice none 0 0)) :=
    Fr.of_blk (only_setCell (only_setCell (World.grownBy.refl w (some kp)) (p := ⟨kp, 0, none⟩) (.inl rfl) _) (p := ⟨kp, 1, none⟩) (.inl rfl) _) h.hd h.bk (by simp)
  exact ⟨(h.hd.set_ 0 _).set_ 1 _, h.tasks.fr hf (by decide) (by decide), h.cache.fr hf (by decide), tab_fr h.tab hf (by decide) (by decide), h.own.fr hf (by decide), h.bk, h.bc, h.bt, h.bta, h.bo⟩
def tcell (x : S46) (v : Value) : Array Value := #[.string x.f0, .int .i64 x.f1, .int .i64 x.f2, .int .i64 x.f3, .int .i64 x.f4, .int .i64 x.f5, v, .int .u64 x.f7, .int .u64 x.f8]
/-- A row of numbers grows that is none of the regions' rows. -/
theorem KMk.per {w w2 : World} {B kp cp tp ta oa n m : Nat} {r : Int} {tv z : Value} {L : List S46} {R : List Value} {xs : List Value} (h : KMk w B kp cp tp ta oa n r tv L R)
    (hz : w.ownsRow B 2 1 z m xs) (gr : w.grownBy w2 z.ownBlock) (ha : ∀ v ∈ R, v.ownBlock ≠ z.ownBlock) : KMk w2 B kp cp tp ta oa n r tv L R := by
  have hf : Fr 0 [2] B w w2 := fr_grown gr hz (Nat.le_refl _) (by simp)
  exact ⟨h.hd.fr hf (by decide), ⟨h.tasks.len, own_fr h.tasks.row hf (by decide), fun i hi => J.own_keep (h.tasks.regs i hi) gr (.inr (ha _ (List.getElem_mem _)))⟩, h.cache.fr hf (by decide), tab_fr h.tab hf (by decide) (by decide), h.own.fr hf (by decide), h.bk, h.bc, h.bt, h.bta, h.bo⟩
theorem KMk.alloc {w : World} {B kp cp tp ta oa n : Nat} {r : Int} {tv : Value} {L : List S46} {R : List Value} (h : KMk w B kp cp tp ta oa n r tv L R) (o : Obj) : KMk (w.alloc o) B kp cp tp ta oa n r tv L R :=
  h.fr (E := 0) (ts := []) (C := 0) (Fr.of_none (only_alloc (World.grownBy.refl w none) o)) (by simp)
theorem own_mono {w : World} {B B' e size n : Nat} {v : Value} {xs : List Value} (h : w.ownsRow B' e size v n xs) (hB : B ≤ B') : w.ownsRow B e size v n xs := by
  refine ⟨h.1, ?_⟩
  rcases h.2 with h0 | ⟨g, c, cur, rfl, hb, rest⟩
  · exact .inl h0
  · exact .inr ⟨g, c, cur, rfl, Nat.le_trans hB hb, rest⟩
theorem own_block_lt {w : World} {B e size n g : Nat} {v : Value} {xs : List Value} (h : w.ownsRow B e size v n xs) (hg : v.ownBlock = some g) : g < w.heap.size := (h.lt g hg).2
/-- A task is appended. -/
theorem KMk.app {w w2 : World} {B kp cp tp ta oa n : Nat} {r : Int} {tv v sl : Value} {L : List S46} {R : List Value} {x : S46} {o : Obj} (h : KMk w B kp cp tp ta oa n r tv L R)
    (hs : w.ownsRow B 2 1 sl x.f6.length (J.ints x.f6)) (gr : (w.alloc o).grownBy w2 tv.ownBlock) (own : w2.ownsRow B 46 9 v (L.length + 1) (tcs L R ++ tcells x sl)) (D : Blk w2 kp 97 #[.int .i64 r, tv, .int .i64 0, .int .i64 (-1), .pointer none, .pointer (some ⟨cp, 0, none⟩), .pointer (some ⟨tp, 0, none⟩), .slice (some ⟨oa, 0, none⟩) n n, .slice none 0 0]) :
    KMk (w2.setCell ⟨kp, 1, none⟩ v) B kp cp tp ta oa n r v (L ++ [x]) (R ++ [sl]) ∧ Fr 0 [97, 46] B w (w2.setCell ⟨kp, 1, none⟩ v) := by
  have f1 : Fr 0 [97, 46] B w (w.alloc o) := Fr.of_none (only_alloc (World.grownBy.refl w none) o)
  have f2 : Fr 0 [97, 46] B (w.alloc o) w2 := fr_grown gr (h.tasks.row.alloc o) (Nat.le_refl _) (by simp)
  have f3 : Fr 0 [97, 46] B w2 (w2.setCell ⟨kp, 1, none⟩ v) := Fr.of_blk (only_setCell (World.grownBy.refl w2 (some kp)) (p := ⟨kp, 1, none⟩) (.inl rfl) _) D h.bk (by simp)
  have hf := (f1.trans f2).trans f3
  refine ⟨⟨D.set_ 1 v, ⟨by simp [h.tasks.len], ?_, ?_⟩, h.cache.fr hf (by decide), tab_fr h.tab hf (by decide) (by decide), h.own.fr hf (by decide), h.bk, h.bc, h.bt, h.bta, h.bo⟩, hf⟩
  · rw [tcs_snoc x sl L R h.tasks.len, List.length_append]
    exact own_far own (own_blk_ne own D (by decide)) _
  · intro i hi
    rcases Nat.lt_or_ge i L.length with h1 | h1
    · rw [List.getElem_append_left (by rw [h.tasks.len]; exact h1)]
      simp only [List.getElem_append_left h1]
      exact own_fr (h.tasks.regs i h1) hf (by decide)
    · have e : i = L.length := by simp at hi; omega
      subst e
      have q1 : (R ++ [sl])[L.length]'(by simp [h.tasks.len]) = sl := by
        rw [List.getElem_append_right (by rw [h.tasks.len]; exact Nat.le_refl _)]
        simp [h.tasks.len]
      rw [q1]
      simp only [List.getElem_append_right (Nat.le_refl _), Nat.sub_self, List.getElem_cons_zero]
      exact own_fr hs hf (by decide)
theorem grown_undrew {w w2 : World} {row : Option Nat} (h : w.drew.grownBy w2 row) : w.grownBy w2 row := ⟨h.os, h.tape, h.output, h.size, h.block⟩
set_option maxHeartbeats 16000000 in
theorem new_any {w : World} {A : Option Addr} {L : List S46} {c : Nat} {rel : Int} (h1 : 1 ≤ L.length) (h8 : L.length ≤ 8) (hS : ∀ w', Below w.heap.size w w' → Src w' A L)
    (hall : ∀ w', Below w.heap.size w w' → Calls Tryz.prog 42 #[.agg #[.int .i64 rel, .slice A L.length c]] w' fun e w2 => e = .returned (.bool true) ∧ Below w'.heap.size w' w2)
    (hok : ∀ x ∈ L, 1 ≤ x.f6.length ∧ x.f6.length ≤ 8 ∧ P.odd x.f1 = false) :
    Calls Tryz.prog 30 #[.agg #[.int .i64 rel, .slice A L.length c]] w fun e w' => ∃ kp A' jv ev, e = .returned (.tuple #[.pointer (some ⟨kp, 0, none⟩), .int .i64 0]) ∧
      KAt w.heap.size w' w.heap.size kp A' jv ev (fun _ => false) ⟨rel, L, 0, -1, L.map fun x => P.mkW x.f1, List.replicate 64 0, T.zeros L.length, zs L.length, zs L.length, List.replicate L.length ⟨[], [], 0, 0, 0, 0⟩, []⟩ ∧ Below w.heap.size w w' := by
  have HS := Lib.hid hS
  have HALL := Lib.hid hall
  have HOK := Lib.hid hok
  obtain ⟨n, hn⟩ : ∃ n, L.length = n := ⟨_, rfl⟩
  have HN := Lib.hid hn
  rw [hn] at h1 h8
  have hb1 := (Below.refl w.heap.size w).alloc (Nat.le_refl _) (.cells #[.int .i64 rel, .slice A L.length c] 24)
  have hB1 := Blk.new w 24 #[.int .i64 rel, .slice A L.length c]
  rw [hn] at hb1 hB1 HALL ⊢
  have HB1 := Lib.hid hb1
  have HBB := Lib.hid hB1
  have hmk := make_own n h8
  have hc1 := cache_new
  have ht1 := T.tnew_yes n h1 h8
  have HC1 := Lib.hid hc1
  have HT1 := Lib.hid ht1
  have hmx : ¬ (n : Int) < 0 := by omega
  clear hS hall hok hn hb1 hB1 hc1 ht1
  go_enter Tryz.func30, Tryz.ntmps30
  go_wp2_with fail
  obtain ⟨wa, hwa⟩ : ∃ wa, w.alloc (.cells #[.int .i64 rel, .slice A n c] 24) = wa := ⟨_, rfl⟩
  obtain ⟨sb, hsb⟩ : ∃ sb, w.heap.size = sb := ⟨_, rfl⟩
  have b1 := HB1.out
  have bb := HBB.out
  rw [hwa] at b1 bb ⊢
  rw [hsb] at bb b1
  rw [hsb]
  have HSB := Lib.hid hsb
  refine (HALL.out wa (by rw [hsb]; exact b1)).mono ?_
  rintro e wb ⟨rfl, hbl⟩
  have b2 : Below sb w wb := b1.trans (hbl.mono (by have := bb.lt; omega))
  have bb2 := bb.below hbl bb.lt
  have c1 : wb.cell? ⟨sb, 1, none⟩ = some (.slice A n c) := bb2.cell 1
  have c0 : wb.cell? ⟨sb, 0, none⟩ = some (.int .i64 rel) := bb2.cell 0
  have hsl := bb2.lt
  have HB2 := Lib.hid b2
  have HBB2 := Lib.hid bb2
  clear hwa hsb b1 bb hbl b2 bb2 HB1 HBB HALL
  go_upto_region 3 with fail
  go_cut [4] (fun s4 wx => ∃ kp cp tp ta oa, s4 = .pointer (some ⟨kp, 0, none⟩) ∧ (KMk wx sb kp cp tp ta oa n 0 (.slice none 0 0) [] [] ∧ Below sb w wx) ∧ sb < kp ∧ wx.cell? ⟨sb, 0, none⟩ = some (.int .i64 rel) ∧ wx.cell? ⟨sb, 1, none⟩ = some (.slice A n c))
  case first =>
    go_region_held3 (fun w' => w'.cell? ⟨sb, 1, none⟩ = some (.slice A n c)) (go_keep) (first | (go_at_call 43; refine (HC1.out _).mono ?_; rintro e wc ⟨rfl, hC, hCb⟩; have d1 : wc.cell? ⟨sb, 1, none⟩ = some (.slice A n c) := (hCb.cell (by first | exact hsl | (simp; omega))).trans (by simp [*])) | (go_at_call 44; refine (HT1.out _).mono ?_; rintro e wt ⟨rfl, hTt, hTb⟩; have d2 : wt.cell? ⟨sb, 1, none⟩ = some (.slice A n c) := (hTb.cell (by first | exact hsl | (have := hCb.size; simp at *; omega))).trans (by simp [*])))
    all_goals (go_wp2_with fail)
    all_goals (have hb2 := HB2.out; have s1 := hb2.size; have s0 := hCb.size; have s2 := hTb.size; simp only [heap_size_alloc', drew_size'] at s0 s2; simp only [heap_size_alloc', drew_size'] at hC hTt)
    all_goals go_meet
    · have bC : Below sb w wc := hb2.drew.trans (Below.mono hCb (by first | omega | (simp only [drew_size'] at *; omega) | (simp only [drew_size', heap_size_alloc'] at *; omega)))
      have bT : Below sb w wt := bC.trans (Below.mono hTb (by first | omega | (simp only [drew_size'] at *; omega) | (simp only [drew_size', heap_size_alloc'] at *; omega)))
      have hk := KMk.mk_ (w := w) (B := sb) (kp := wt.heap.size + 1) (heap_size_alloc' _ _) (CacheAt.alloc (CacheAt.fr (E := 0) (ts := []) (C := 0) hC (Fr.of_below hTb) (by simp)) _) (tab_alloc hTt _) (Blk.new wt 148 _) (bT.alloc (by first | omega | (simp only [drew_size'] at *; omega) | (simp only [drew_size', heap_size_alloc'] at *; omega)) _) (by first | omega | (simp only [drew_size'] at *; omega) | (simp only [drew_size', heap_size_alloc'] at *; omega)) (by first | omega | (simp only [drew_size'] at *; omega) | (simp only [drew_size', heap_size_alloc'] at *; omega)) (by first | omega | (simp only [drew_size'] at *; omega) | (simp only [drew_size', heap_size_alloc'] at *; omega)) (by first | omega | (simp only [drew_size'] at *; omega) | (simp only [drew_size', heap_size_alloc'] at *; omega)) (by first | omega | (simp only [drew_size'] at *; omega) | (simp only [drew_size', heap_size_alloc'] at *; omega))
      exact ⟨_, _, _, _, _, rfl, hk, (by first | omega | (simp only [drew_size'] at *; omega) | (simp only [drew_size', heap_size_alloc'] at *; omega)), by rw [World.cell?_alloc_past _ _ _ (by first | omega | (simp only [drew_size'] at *; omega) | (simp only [drew_size', heap_size_alloc'] at *; omega)), World.cell?_alloc_past _ _ _ (by first | omega | (simp only [drew_size'] at *; omega) | (simp only [drew_size', heap_size_alloc'] at *; omega)), hTb.cell (by first | omega | (simp only [drew_size'] at *; omega) | (simp only [drew_size', heap_size_alloc'] at *; omega)), hCb.cell (by first | omega | (simp only [drew_size'] at *; omega) | (simp only [drew_size', heap_size_alloc'] at *; omega)), drew_cell', c0], by rw [World.cell?_alloc_past _ _ _ (by first | omega | (simp only [drew_size'] at *; omega) | (simp only [drew_size', heap_size_alloc'] at *; omega)), World.cell?_alloc_past _ _ _ (by first | omega | (simp only [drew_size'] at *; omega) | (simp only [drew_size', heap_size_alloc'] at *; omega)), hTb.cell (by first | omega | (simp only [drew_size'] at *; omega) | (simp only [drew_size', heap_size_alloc'] at *; omega)), hCb.cell (by first | omega | (simp only [drew_size'] at *; omega) | (simp only [drew_size', heap_size_alloc'] at *; omega)), drew_cell', c1]⟩
    · have bC : Below sb w wc := hb2.drew.trans (Below.mono hCb (by first | omega | (simp only [drew_size'] at *; omega) | (simp only [drew_size', heap_size_alloc'] at *; omega)))
      have bT : Below sb w wt := (bC.alloc (by first | omega | (simp only [drew_size'] at *; omega) | (simp only [drew_size', heap_size_alloc'] at *; omega)) _).trans (Below.mono hTb (by first | omega | (simp only [drew_size'] at *; omega) | (simp only [drew_size', heap_size_alloc'] at *; omega)))
      have hk := KMk.mk_ (w := w) (B := sb) (kp := wt.heap.size) rfl (CacheAt.fr (E := 0) (ts := []) (C := 0) (CacheAt.alloc hC _) (Fr.of_below hTb) (by simp)) hTt ((Blk.new wc 148 _).below hTb (by first | omega | (simp only [drew_size'] at *; omega) | (simp only [drew_size', heap_size_alloc'] at *; omega))) bT (by first | omega | (simp only [drew_size'] at *; omega) | (simp only [drew_size', heap_size_alloc'] at *; omega)) (by first | omega | (simp only [drew_size'] at *; omega) | (simp only [drew_size', heap_size_alloc'] at *; omega)) (by first | omega | (simp only [drew_size'] at *; omega) | (simp only [drew_size', heap_size_alloc'] at *; omega)) (by first | omega | (simp only [drew_size'] at *; omega) | (simp only [drew_size', heap_size_alloc'] at *; omega)) (by first | omega | (simp only [drew_size'] at *; omega) | (simp only [drew_size', heap_size_alloc'] at *; omega))
      exact ⟨_, _, _, _, _, rfl, hk, (by first | omega | (simp only [drew_size'] at *; omega) | (simp only [drew_size', heap_size_alloc'] at *; omega)), by rw [World.cell?_alloc_past _ _ _ (by first | omega | (simp only [drew_size'] at *; omega) | (simp only [drew_size', heap_size_alloc'] at *; omega)), hTb.cell (by first | omega | (simp only [drew_size'] at *; omega) | (simp only [drew_size', heap_size_alloc'] at *; omega)), World.cell?_alloc_past _ _ _ (by first | omega | (simp only [drew_size'] at *; omega) | (simp only [drew_size', heap_size_alloc'] at *; omega)), hCb.cell (by first | omega | (simp only [drew_size'] at *; omega) | (simp only [drew_size', heap_size_alloc'] at *; omega)), drew_cell', c0], by rw [World.cell?_alloc_past _ _ _ (by first | omega | (simp only [drew_size'] at *; omega) | (simp only [drew_size', heap_size_alloc'] at *; omega)), hTb.cell (by first | omega | (simp only [drew_size'] at *; omega) | (simp only [drew_size', heap_size_alloc'] at *; omega)), World.cell?_alloc_past _ _ _ (by first | omega | (simp only [drew_size'] at *; omega) | (simp only [drew_size', heap_size_alloc'] at *; omega)), hCb.cell (by first | omega | (simp only [drew_size'] at *; omega) | (simp only [drew_size', heap_size_alloc'] at *; omega)), drew_cell', c1]⟩
    · have bC : Below sb w wc := ((hb2.alloc (by first | omega | (simp only [drew_size'] at *; omega) | (simp only [drew_size', heap_size_alloc'] at *; omega)) _).drew).trans (Below.mono hCb (by first | omega | (simp only [drew_size'] at *; omega) | (simp only [drew_size', heap_size_alloc'] at *; omega)))
      have bT : Below sb w wt := bC.trans (Below.mono hTb (by first | omega | (simp only [drew_size'] at *; omega) | (simp only [drew_size', heap_size_alloc'] at *; omega)))
      have hk := KMk.mk_ (w := w) (B := sb) (kp := wt.heap.size) rfl (CacheAt.fr (E := 0) (ts := []) (C := 0) hC (Fr.of_below hTb) (by simp)) hTt ((((Blk.new wb 148 _).drew).below hCb (by first | omega | (simp only [drew_size'] at *; omega) | (simp only [drew_size', heap_size_alloc'] at *; omega))).below hTb (by first | omega | (simp only [drew_size'] at *; omega) | (simp only [drew_size', heap_size_alloc'] at *; omega))) bT (by first | omega | (simp only [drew_size'] at *; omega) | (simp only [drew_size', heap_size_alloc'] at *; omega)) (by first | omega | (simp only [drew_size'] at *; omega) | (simp only [drew_size', heap_size_alloc'] at *; omega)) (by first | omega | (simp only [drew_size'] at *; omega) | (simp only [drew_size', heap_size_alloc'] at *; omega)) (by first | omega | (simp only [drew_size'] at *; omega) | (simp only [drew_size', heap_size_alloc'] at *; omega)) (by first | omega | (simp only [drew_size'] at *; omega) | (simp only [drew_size', heap_size_alloc'] at *; omega))
      exact ⟨_, _, _, _, _, rfl, hk, (by first | omega | (simp only [drew_size'] at *; omega) | (simp only [drew_size', heap_size_alloc'] at *; omega)), by rw [World.cell?_alloc_past _ _ _ (by first | omega | (simp only [drew_size'] at *; omega) | (simp only [drew_size', heap_size_alloc'] at *; omega)), hTb.cell (by first | omega | (simp only [drew_size'] at *; omega) | (simp only [drew_size', heap_size_alloc'] at *; omega)), hCb.cell (by first | omega | (simp only [drew_size'] at *; omega) | (simp only [drew_size', heap_size_alloc'] at *; omega)), drew_cell', World.cell?_alloc_past _ _ _ (by first | omega | (simp only [drew_size'] at *; omega) | (simp only [drew_size', heap_size_alloc'] at *; omega)), c0], by rw [World.cell?_alloc_past _ _ _ (by first | omega | (simp only [drew_size'] at *; omega) | (simp only [drew_size', heap_size_alloc'] at *; omega)), hTb.cell (by first | omega | (simp only [drew_size'] at *; omega) | (simp only [drew_size', heap_size_alloc'] at *; omega)), hCb.cell (by first | omega | (simp only [drew_size'] at *; omega) | (simp only [drew_size', heap_size_alloc'] at *; omega)), drew_cell', World.cell?_alloc_past _ _ _ (by first | omega | (simp only [drew_size'] at *; omega) | (simp only [drew_size', heap_size_alloc'] at *; omega)), c1]⟩
  case rest =>
    obtain ⟨kp, cp, tp, ta, oa, rfl, ⟨hM, hMb⟩, hsk, e0, e1⟩ := hcut
    have k0 := hM.hd.cell 0
    have k1 := hM.hd.cell 1
    have f0 := hM.hd.frozen 0
    have f1 := hM.hd.frozen 1
    have hklt := hM.hd.lt
    have hne : sb ≠ kp := by omega
    have hM2 := hM.rel rel
    have hMb2 : Below sb w ((wc.setCell ⟨kp, 0, none⟩ (.int .i64 rel)).setCell ⟨kp, 1, none⟩ (.slice none 0 0)) := (hMb.setCell hM.bk _).setCell hM.bk _
    clear c0 c1 hsl
    go_wp2_with fail
    clear k0 k1 f0 f1 hklt hne e0 e1
    obtain ⟨i2, hi2, hz20, hz21, hz22⟩ := info_parts J.Tryz.info2
    have Hz0 := Lib.hid hz20
    have Hz1 := Lib.hid hz21
    have Hz2 := Lib.hid hz22
    have Hi := Lib.hid hi2
    obtain ⟨i46, hi46, hz460, hz461, hz462⟩ := info_parts Tryz.info46
    have Hy0 := Lib.hid hz460
    have Hy1 := Lib.hid hz461
    have Hy2 := Lib.hid hz462
    have Hy := Lib.hid hi46
    clear hi2 hz20 hz21 hz22 hi46 hz460 hz461 hz462
    go_loopw [5, 31] (fun z5 z31 wr => ∃ (k : Nat) (tv : Value) (R : List Value), k ≤ n ∧ z31 = .int .i64 k ∧ KMk wr sb kp cp tp ta oa n rel tv (L.take k) R ∧ wr.ownsRow sb 2 1 z5 k (J.ints ((L.map S46.f1).take k)) ∧ (∀ v ∈ R, v.ownBlock ≠ z5.ownBlock) ∧ Below sb w wr) (fun _ z31 _ => n - (intOf z31).toNat)
    case atStart => exact ⟨0, _, [], Nat.zero_le _, rfl, by simpa using hM2, by simpa [J.ints] using World.ownsRow_nil _ _ _ _, by simp, hMb2⟩
    case round =>
      obtain ⟨k, tv, R, hk, rfl, hR, hO, hAp, hRb⟩ := hrel
      clear hM hMb hM2 hMb2
      by_cases hlt : k < n
      · have hSr := HS.out _ (by rw [HSB.out]; exact hRb)
        rcases hSr with h0 | ⟨b, off, rfl, hbl, hcs⟩
        · have := HN.out; rw [h0] at this; simp at this; omega
        obtain ⟨x, hx⟩ : ∃ x, L[k]? = some x := ⟨_, List.getElem?_eq_getElem (by rw [HN.out]; exact hlt)⟩
        obtain ⟨ra, rc, g0, g1, g2, g3, g4, g5, g6, g7, g8, hNu, _⟩ := hcs k x hx
        obtain ⟨o1, o8, ov⟩ := HOK.out x (List.mem_of_getElem? hx)
        have HX := Lib.hid hx
        have HR := Lib.hid hR
        have HO := Lib.hid hO
        have HRB := Lib.hid hRb
        have HAP := Lib.hid hAp
        clear hx hR hO hRb hcs hAp
        rcases hNu with h0 | ⟨rb, roff, rfl, hrb, hrc⟩
        · rw [h0] at o1; simp at o1
        have HRC := Lib.hid hrc
        have HXT : Hid (wr.heap.size = wr.heap.size) := rfl
        have hsw : sb ≤ wr.heap.size := by have := HR.out.hd.lt; have := HR.out.bk; omega
        clear hrc hbl
        go_wp2_with (at_builtin; refine wpList_append_own _ rfl (.tmp 35) (.tmp 37) 32 rfl wr.heap.size 2 i2 _ 1 8 Tryz.underlying32 Hi.out Hz0.out Hz1.out Hz2.out rfl (by decide) (.slice (some ⟨wr.heap.size + 1, 0, none⟩) 0 0) 0 [] rfl ?c1 ⟨rb, roff, none⟩ x.f6.length rc (J.ints x.f6) rfl (by simp [J.ints]) ?c2 (J.ints_one x.f6) (by unfold maxLen; omega) (by omega) (by simp; omega) ?c3)
        case c1 =>
          have h := World.ownsRow_made (wr.alloc (.cells (tcell x (.slice (some ⟨rb, roff, none⟩) x.f6.length rc)) 46)) #[] 0 (e := 2) (size := 1) (base := wr.heap.size) (by simp) (by unfold maxLen; omega) (by simp)
          simpa [tcell] using h
        case c2 =>
          intro j u hj
          have hjl : j < x.f6.length := by
            have := (List.getElem?_eq_some_iff.1 hj).1
            simpa [J.ints] using this
          rw [HRC.out j hjl]
          simpa [J.ints, hjl] using hj
        case c3 =>
          intro v' w' hown hg _
          obtain ⟨g, c', rfl⟩ : ∃ g c', v' = .slice (some ⟨g, 0, none⟩) x.f6.length c' := by
            rcases hown.2 with ⟨_, h⟩ | ⟨g, c', _, h, _⟩
            · omega
            · exact ⟨g, c', by simpa using h⟩
          have hgb : Below wr.heap.size wr w' := (((Below.refl _ _).alloc (Nat.le_refl _) _).alloc (by simp) _).grown hg (by simp <;> omega) (fun k e => by simp [Value.ownBlock] at e; omega)
          have hxb : Blk w' wr.heap.size 46 (tcell x (.slice (some ⟨rb, roff, none⟩) x.f6.length rc)) := ((Blk.new wr 46 _).alloc _).grown hg (by simp [Value.ownBlock])
          have hown' : w'.ownsRow wr.heap.size 2 1 (.slice (some ⟨g, 0, none⟩) x.f6.length c') x.f6.length (J.ints x.f6) := by simpa using hown
          have fx6 := hxb.frozen 6
          have cx6 : w'.cell? ⟨wr.heap.size, 6, none⟩ = some (.slice (some ⟨rb, roff, none⟩) x.f6.length rc) := hxb.cell 6
          have hgl := own_block_lt hown' rfl
          have hgg : wr.heap.size ≤ g := by
            rcases hown'.2 with ⟨h, _⟩ | ⟨g1, c1, cur, h1, h2, _⟩
            · cases h
            · injection h1 with h1
              injection h1 with h1
              injection h1 with h1
              omega
          have hbq : Below wr.heap.size wr (w'.setCell ⟨wr.heap.size, 6, none⟩ (.slice (some ⟨g, 0, none⟩) x.f6.length c')) := hgb.setCell (Nat.le_refl _) _
          have KQ := HR.out.fr (E := 0) (ts := []) (C := 0) (Fr.of_below hbq) (by simp)
          have OQ := own_fr HO.out (E := 0) (ts := []) (B := 0) (Fr.of_below hbq) (by simp)
          have BQ : Below sb w (w'.setCell ⟨wr.heap.size, 6, none⟩ (.slice (some ⟨g, 0, none⟩) x.f6.length c')) := HRB.out.trans (hbq.mono hsw)
          have XQ : Blk (w'.setCell ⟨wr.heap.size, 6, none⟩ (.slice (some ⟨g, 0, none⟩) x.f6.length c')) wr.heap.size 46 (tcell x (.slice (some ⟨g, 0, none⟩) x.f6.length c')) := hxb.set_ 6 _
          have SQ := own_far (own_mono hown' hsw) (own_blk_ne hown' hxb (by decide)) (o := 6) (.slice (some ⟨g, 0, none⟩) x.f6.length c')
          have hsz : (w'.setCell ⟨wr.heap.size, 6, none⟩ (.slice (some ⟨g, 0, none⟩) x.f6.length c')).heap.size = w'.heap.size := by simp [World.setCell]
          clear hown hg g0 g1 g2 g3 g4 g5 g6 g7 g8
          go_wp2_with fail
          have hxn : tv.ownBlock ≠ some wr.heap.size := fun e => Nat.lt_irrefl _ (own_block_lt HR.out.tasks.row e)
          have hun : u5.ownBlock ≠ some g := fun e => by have := own_block_lt HO.out e; omega
          have hTl : (L.take k).length = k := by rw [List.length_take, HN.out]; omega
          obtain ⟨xb, hxb2⟩ : ∃ xb, wr.heap.size = xb := ⟨_, rfl⟩
          rw [hxb2] at KQ OQ BQ XQ SQ hxn hsz hgg ⊢
          obtain ⟨wq, hwq⟩ : ∃ wq, w'.setCell ⟨xb, 6, none⟩ (.slice (some ⟨g, 0, none⟩) x.f6.length c') = wq := ⟨_, rfl⟩
          rw [hwq] at KQ OQ BQ XQ SQ hsz ⊢
          rw [← hsz] at hgl
          have q1 : wq.cell? ⟨kp, 1, none⟩ = some tv := KQ.hd.cell 1
          have x0 : wq.cell? ⟨xb, 0, none⟩ = some (.string x.f0) := XQ.cell 0
          have x1 : wq.cell? ⟨xb, 1, none⟩ = some (.int .i64 x.f1) := XQ.cell 1
          have x2 : wq.cell? ⟨xb, 2, none⟩ = some (.int .i64 x.f2) := XQ.cell 2
          have x3 : wq.cell? ⟨xb, 3, none⟩ = some (.int .i64 x.f3) := XQ.cell 3
          have x4 : wq.cell? ⟨xb, 4, none⟩ = some (.int .i64 x.f4) := XQ.cell 4
          have x5 : wq.cell? ⟨xb, 5, none⟩ = some (.int .i64 x.f5) := XQ.cell 5
          have x6 : wq.cell? ⟨xb, 6, none⟩ = some (.slice (some ⟨g, 0, none⟩) x.f6.length c') := XQ.cell 6
          have x7 : wq.cell? ⟨xb, 7, none⟩ = some (.int .u64 x.f7) := XQ.cell 7
          have x8 : wq.cell? ⟨xb, 8, none⟩ = some (.int .u64 x.f8) := XQ.cell 8
          have hxl := XQ.lt
          have hkl := KQ.hd.lt
          have hbs : sb ≤ wq.heap.size := by have := KQ.bk; omega
          have hrow := KQ.tasks.row
          rw [hTl] at hrow
          have HV := Lib.hid (hrow.alloc (.cells #[.string x.f0, .int .i64 x.f1, .int .i64 x.f2, .int .i64 x.f3, .int .i64 x.f4, .int .i64 x.f5, .slice (some ⟨g, 0, none⟩) x.f6.length c', .int .u64 x.f7, .int .u64 x.f8] 46))
          have HD := Lib.hid (KQ.hd.alloc (.cells #[.string x.f0, .int .i64 x.f1, .int .i64 x.f2, .int .i64 x.f3, .int .i64 x.f4, .int .i64 x.f5, .slice (some ⟨g, 0, none⟩) x.f6.length c', .int .u64 x.f7, .int .u64 x.f8] 46))
          have HXB := Lib.hid (XQ.alloc (.cells #[.string x.f0, .int .i64 x.f1, .int .i64 x.f2, .int .i64 x.f3, .int .i64 x.f4, .int .i64 x.f5, .slice (some ⟨g, 0, none⟩) x.f6.length c', .int .u64 x.f7, .int .u64 x.f8] 46))
          have HNE := Lib.hid (own_blk_ne hrow KQ.hd (by decide))
          have HXN := Lib.hid hxn
          have H1 : Hid (∀ j u, (tcells x (.slice (some ⟨g, 0, none⟩) x.f6.length c'))[j]? = some u → (wq.alloc (.cells #[.string x.f0, .int .i64 x.f1, .int .i64 x.f2, .int .i64 x.f3, .int .i64 x.f4, .int .i64 x.f5, .slice (some ⟨g, 0, none⟩) x.f6.length c', .int .u64 x.f7, .int .u64 x.f8] 46)).cell? ((⟨wq.heap.size, 0, none⟩ : Addr).add j) = some u) :=
            cells_new (l := tcells x (.slice (some ⟨g, 0, none⟩) x.f6.length c'))
          have H2 : Hid (∀ u ∈ tcells x (.slice (some ⟨g, 0, none⟩) x.f6.length c'), u.oneCell' = true) := by
            intro u hu
            simp [tcells] at hu
            rcases hu with rfl | rfl | rfl | rfl | rfl | rfl | rfl | rfl | rfl <;> rfl
          have H3 : Hid (k + 1 ≤ maxLen) := by unfold Hid maxLen; omega
          have H4 : Hid ((k + 1) * 96 ≤ 140737488355328) := by unfold Hid; omega
          have H5 : Hid (sb ≤ (wq.alloc (.cells #[.string x.f0, .int .i64 x.f1, .int .i64 x.f2, .int .i64 x.f3, .int .i64 x.f4, .int .i64 x.f5, .slice (some ⟨g, 0, none⟩) x.f6.length c', .int .u64 x.f7, .int .u64 x.f8] 46)).heap.size) := by unfold Hid; simp; omega
          have HKQ := Lib.hid KQ
          have HOQ := Lib.hid OQ
          have HBQ := Lib.hid BQ
          have HSQ := Lib.hid SQ
          clear KQ OQ BQ XQ SQ hwq hxb2 hbq hgb hxb hown' hrow fx6 cx6 hsz hxn
          go_region_law ((refine step_append_own_at rfl (.tmp 45) (.tmp 47) 22 rfl sb 46 i46 _ 9 96 Tryz.underlying22 Hy.out Hy0.out Hy1.out Hy2.out rfl (Nat.succ_pos 8) tv k (tcs (L.take k) R) rfl HV.out ⟨wq.heap.size, 0, none⟩ 1 1 (tcells x (.slice (some ⟨g, 0, none⟩) x.f6.length c')) rfl rfl H1.out H2.out H3.out H4.out H5.out ?_; intro v' w2 own gr _ wh; obtain ⟨g', m', rfl⟩ := own_shape own; have D := blk_grown gr HD.out (fun e => HNE.out e.symm); have XD := blk_grown gr HXB.out (fun e => HXN.out e.symm); have c1 : w2.cell? ⟨kp, 1, none⟩ = some tv := D.cell 1; have f1 := D.frozen 1))
          all_goals
            have hTs : L.take k ++ [x] = L.take (k + 1) := by rw [List.take_add_one, HX.out]; rfl
            have hKA := HKQ.out.app (x := x) (sl := .slice (some ⟨g, 0, none⟩) x.f6.length c') HSQ.out (grown_undrew gr) (by rw [hTl]; exact own) D
            rw [hTs] at hKA
            have hPv := own_fr HOQ.out hKA.2 (by decide)
            have hX3 := XD.far (p := ⟨kp, 1, none⟩) (XD.ne_ D (by decide)) (.slice (some ⟨g', 0, none⟩) (k + 1) m')
            have hB3 : Below sb w _ := HBQ.out.trans (hKA.2.below (Nat.le_refl _) hbs)
            have hws := hKA.2.size
            obtain ⟨w3, hw3⟩ : ∃ w3, w2.setCell ⟨kp, 1, none⟩ (.slice (some ⟨g', 0, none⟩) (k + 1) m') = w3 := ⟨_, rfl⟩
            rw [hw3] at hKA hPv hX3 hB3 hws ⊢
            have y1 : w3.cell? ⟨xb, 1, none⟩ = some (.int .i64 x.f1) := hX3.cell 1
            have hxl3 := hX3.lt
            have hK3 := hKA.1
            have HK3 := Lib.hid hK3
            have HPV := Lib.hid hPv
            have HB3 := Lib.hid hB3
            have HUN := Lib.hid hun
            have hs3 : sb ≤ w3.heap.size := by omega
            have hg3 : g < w3.heap.size := by omega
            clear hKA hPv hX3 hB3 hw3 own gr D XD c1 f1 q1 x0 x1 x2 x3 x4 x5 x6 x7 x8 hK3 hun
            go_wp2_with (at_builtin; refine wpList_append_own_at _ rfl (.tmp 52) (.tmp 55) 32 rfl sb 2 i2 _ 1 8 Tryz.underlying32 Hi.out Hz0.out Hz1.out Hz2.out rfl (by decide) u5 k (J.ints ((L.map S46.f1).take k)) rfl (HPV.out.alloc _) ⟨w3.heap.size, 0, none⟩ 1 1 [.int .i64 x.f1] rfl rfl (cell_one_new _ _ _) (by simp [Value.oneCell']) (by unfold maxLen; omega) (by omega) (by simp; omega) ?_)
            intro v2 w4 own2 gr2 _ wh2
            obtain ⟨g2, m2, rfl⟩ := own_shape own2
            go_wp2_with fail
            have hap0 : ∀ v ∈ R ++ [Value.slice (some ⟨g, 0, none⟩) x.f6.length c'], v.ownBlock ≠ u5.ownBlock := by
              intro v hv
              rcases List.mem_append.1 hv with hv | hv
              · exact HAP.out v hv
              · rw [List.mem_singleton.1 hv]
                exact fun e => HUN.out e.symm
            have hK4 := (HK3.out.alloc (.cells #[.int .i64 x.f1] 2)).per (HPV.out.alloc _) gr2 hap0
            refine ⟨⟨k + 1, _, _, hlt, rfl, hK4, ?_, ?_, ((HB3.out.alloc hs3 _).grown gr2 (by simp <;> omega) fun q e => (HPV.out.lt q e).1)⟩, ?_⟩
            · rw [List.take_add_one, List.getElem?_map, HX.out]
              simpa [J.ints] using own2
            · intro v hv
              rcases wh2 with e | e
              · rw [e]; exact hap0 v hv
              · rw [e]
                intro e2
                obtain ⟨i, hi, rfl⟩ := List.getElem_of_mem hv
                have := own_block_lt (HK3.out.tasks.regs i (by rw [← HK3.out.tasks.len]; exact hi)) e2
                omega
            · simp [intOf]
              omega
      · have hkn : k = n := by omega
        subst hkn
        have hTk : L.take k = L := List.take_of_length_le (by rw [HN.out]; exact Nat.le_refl _)
        have hTm : (L.map S46.f1).take k = L.map S46.f1 := List.take_of_length_le (by rw [List.length_map, HN.out]; exact Nat.le_refl _)
        rw [hTk] at hR
        rw [hTm] at hO
        obtain ⟨A5, m5, rfl, _, hrow⟩ := row_read hO
        have hml : (L.map S46.f1).length = k := by rw [List.length_map, HN.out]
        have hNu : Nums wr A5 (L.map S46.f1) := by
          rcases hrow with h | ⟨b, cs, rfl, _, hb, hcs⟩
          · omega
          · refine .inr ⟨b, 0, rfl, hb.lt, fun i hi => ?_⟩
            rw [Nat.zero_add, hb.cell, hcs i (by rw [← hml]; exact hi)]
            simp only [J.ints, List.getElem?_map, List.getElem?_eq_getElem (show i < L.length by simpa using hi), Option.map_some, List.getElem_map]
        have hodd : (L.map S46.f1).any P.odd = false := by
          rw [List.any_eq_false]
          intro z hz
          obtain ⟨y, hy, rfl⟩ := List.mem_map.1 hz
          rw [(HOK.out y hy).2.2]
          decide
        have hcall := fun W (h : Below wr.heap.size wr W) => P.new_yes A5 m5 (L.map S46.f1) W (hNu.below h) (by rw [hml]; exact h8) hodd
        rw [hml] at hcall
        have HCALL := Lib.hid hcall
        have HR := Lib.hid hR
        have HRB := Lib.hid hRb
        have hkl := hR.hd.lt
        clear hcall hNu hodd hrow hO hR hRb hAp hTk hTm
        go_wp2_with (go_at_call 45; refine (HCALL.out _ (Below.refl _ _)).mono ?_; rintro e w5 ⟨v5, rfl, hP, hPb⟩; have hK5 := HR.out.fr (E := 0) (ts := []) (C := 0) (Fr.of_below hPb) (by simp); have c4 : w5.cell? ⟨kp, 4, none⟩ = some (.pointer none) := hK5.hd.cell 4; have f4 := hK5.hd.frozen 4)
        go_ret2
        have hn := HN.out
        subst hn
        obtain ⟨pa, pc, rfl, hPA⟩ := hP.at_ (by simp; omega)
        have hf6 : Fr 0 [97] sb w5 (w5.setCell ⟨kp, 4, none⟩ (.pointer (some ⟨wr.heap.size, 0, none⟩))) :=
          Fr.of_blk (only_setCell (World.grownBy.refl w5 (some kp)) (p := ⟨kp, 4, none⟩) (.inl rfl) _) hK5.hd hK5.bk (by simp)
        have hsw : sb ≤ wr.heap.size := by have := hK5.bk; omega
        have hPA2 : P.PolAt w5 sb wr.heap.size pa pc (L.map fun x => P.mkW x.f1) := by
          have h := hPA
          rw [List.map_map] at h
          exact ⟨⟨h.pol.hd, own_mono h.pol.own (by omega)⟩, h.ne⟩
        rw [HSB.out]
        refine ⟨kp, ⟨tv, R, wr.heap.size, pa, pc, cp, tp, ta, oa⟩, nones L.length, .slice none 0 0, rfl, ?_, (HRB.out.trans (hPb.mono hsw)).setCell hK5.bk _⟩
        exact ⟨hK5.hd.set_ 4 _, hK5.tasks.fr hf6 (by decide) (by decide), pol_fr hPA2 hf6 (by decide) (by decide), hK5.cache.fr hf6 (by decide), tab_fr hK5.tab hf6 (by decide) (by decide), hK5.own.fr hf6 (by decide),
          World.ownsRow_nil _ _ _ _, fun i hi h => (by cases h), fun i j hi hj _ h => (by cases h), h1, h8, by simp, by simp [T.zeros], by simp [zs], by simp [zs], by simp, by simp [nones], hK5.bk, hsw, hK5.bc, hK5.bt, hK5.bta, hK5.bo, Nat.le_refl _, Nat.le_trans hK5.bk (Nat.le_of_lt (Nat.lt_of_lt_of_le hK5.hd.lt hf6.size))⟩
end Go.Proofs.YtdgfjpbjiccllaaGreatDoor
/- A kernel runs through inputs: the law's own loop. -/
namespace Go.Proofs.YtdgfjpbjiccllaaGreatDoor
open Go.RowKit
open Go.Proofs.YtdgfjpbjiccllaaGreatDoorW.PrintWords Go.Proofs.YtdgfjpbjiccllaaGreatDoorW.PrintLast Go.Proofs.YtdgfjpbjiccllaaGreatDoorW.PrintMore
open Go.Proofs.YtdgfjpbjiccllaaGreatDoor.PTopLoads (S46 k46 z46 k46_mk S57 k57 z57)
set_option maxRecDepth 100000
variable {E : Nat}
/-- append of a row of the call's own, or of nil. -/
theorem wpList_append_rows {P : Program} (w : World) {ops : Array Oper} {rest : List Oper} {o : Oper} {a : Act} {Q : Exit → Act → World → Prop} (hgd : o.guard = none) (s x : Operand) (t : TypeId)
    (ho : o.op = .call { callee := .builtin .append, args := #[s, x], argTypes := #[t, t] })
    (base : Nat) (e : TypeId) (i : TypeInfo) (z : Value) (size bytes : Nat) (ht : P.underlying t = some (.slice e)) (hi : P.info? e = some i) (hz : i.zero = some z)
    (hsize : i.size = size) (hby : i.bytes = bytes) (hzs : z.cells.size = size) (hsz : 0 < size)
    (v : Value) (n : Nat) (xs : List Value) (hs : a.eval s = v) (hown : w.ownsRow base e size v n xs)
    (u : Value) (m base' : Nat) (news : List Value) (hx : a.eval x = u) (hsrc : w.ownsRow base' e size u m news) (h1 : ∀ u ∈ news, u.oneCell' = true)
    (h63 : n + m ≤ maxLen) (hbytes : (n + m) * bytes ≤ 140737488355328) (hbase : base ≤ w.heap.size)
    (h : ∀ v' w', w'.ownsRow base e size v' (n + m) (xs ++ news) → w.grownBy w' v.ownBlock → wpList P ops Q rest (a.put o.dst v') w') :
    wpList P ops Q (o :: rest) a w := by
  rcases hsrc.2 with ⟨rfl, rfl⟩ | ⟨g, c, cur, rfl, hb, hh, hn, hm, hs', htk⟩
  · have hnil : news = [] := by
      have := hsrc.1
      simp at this
      exact this
    subst hnil
    exact wpList_append_own_none hgd s x t ho base e i size ht hi v n xs hs hown hx (h v w (by simpa using hown) (World.grownBy.refl w _))
  · refine wpList_append_own w hgd s x t ho base e i z size bytes ht hi hz hsize hby hzs hsz v n xs hs hown ⟨g, 0, none⟩ m c news hx hsrc.1 ?_ h1 h63 hbytes hbase fun v' w' h2 h3 _ => h v' w' h2 h3
    intro j u hj
    rw [add_none, Nat.zero_add]
    have hB : Blk w g e cur := hh
    have hjl := (List.getElem?_eq_some_iff.1 hj).1
    rw [hB.cell j, ← hj, ← htk, List.getElem?_take_of_lt (by have := hsrc.1; omega)]
    simp
/-- Inputs that are read, in whatever world of a kind. -/
def InsP (Pw : World → Prop) (A : Option Addr) (l : List S57) : Prop :=
  l = [] ∨ ∃ b off, A = some ⟨b, off, none⟩ ∧ ∀ i x, l[i]? = some x → ∃ DA dc, ∀ w', Pw w' → w'.cell? ⟨b, off + i * 3, none⟩ = some (.int .u64 x.f0) ∧ w'.cell? ⟨b, off + i * 3 + 1, none⟩ = some (.slice DA x.f1.length dc) ∧ w'.cell? ⟨b, off + i * 3 + 2, none⟩ = some (.int .u64 x.f2) ∧ Dem w' DA x.f1
theorem evs_app (L M : List Ev) : evs (L ++ M) = evs L ++ evs M := by simp [evs]
theorem evs_one (L : List Ev) : ∀ u ∈ evs L, u.oneCell' = true := by
  intro u hu
  simp only [evs, List.mem_flatMap] at hu
  obtain ⟨x, _, hu⟩ := hu
  simp [Ev.cells] at hu
  rcases hu with rfl | rfl | rfl | rfl <;> rfl
theorem evs_length (L : List Ev) : (evs L).length = L.length * 4 := by
  induction L with
  | nil => rfl
  | cons x L ih =>
    have : evs (x :: L) = x.cells ++ evs L := rfl
    rw [this, List.length_append, ih]
    simp only [Ev.cells, List.length_cons, List.length_nil]
    omega
section
variable {w w' : World} {B kp : Nat} {A : Ad} {jv : List Value} {ev : Value} {pd : Nat → Bool} {K : Kst}
/-- Another row of events grows. -/
theorem kat_other (h : KAt E w B kp A jv ev pd K) {v : Value} {L : List Ev} {m : Nat} (hv : w.ownsRow m 50 4 v L.length (evs L)) (hg : w.grownBy w' v.ownBlock) (hlt : ∀ g, v.ownBlock = some g → g < E) : KAt E w' B kp A jv ev pd K := by
  have hf : Fr (E := 0) [50] 0 w w' := Fr.of_own hg hv (Nat.zero_le _) (by simp) (fun _ => Nat.zero_le _)
  have hev : w'.ownsRow E 50 4 ev K.ev.length (evs K.ev) := by
    refine ⟨h.evs.1, ?_⟩
    rcases h.evs.2 with h0 | ⟨g, c, cur, e, hb, hh, rest⟩
    · exact .inl h0
    · have hB : Blk w g 50 cur := hh
      exact .inr ⟨g, c, cur, e, hb, hB.grown hg (fun e => by have := hlt g e.symm; omega), rest⟩
  exact ⟨h.hd.fr hf (by decide), h.tasks.fr hf (by decide) (by decide), pol_fr h.pol hf (by decide) (by decide), h.cache.fr hf (by decide),
    tab_fr h.tab hf (by decide) (by decide), h.own.fr hf (by decide), hev,
    fun i hi hp => (h.jobs i hi hp).fr hf (by decide) (by decide), h.apart, h.n1, h.n8, h.lp, h.lt, h.lh, h.ll, h.lj, h.lv, h.bk, h.bp, h.bc, h.bt, h.bta, h.bo, h.be, Nat.le_trans h.eh hf.size⟩
theorem own50_fr {base n C : Nat} {v : Value} {xs : List Value} {ts : List Nat} (h : w.ownsRow base 50 4 v n xs) (hf : Fr w.heap.size ts C w w') : w'.ownsRow base 50 4 v n xs := by
  refine ⟨h.1, ?_⟩
  rcases h.2 with h0 | ⟨g, c, cur, rfl, hb, hh, rest⟩
  · exact .inl h0
  · have hB : Blk w g 50 cur := hh
    exact .inr ⟨g, c, cur, rfl, hb, (hf.block g hB.lt (.inr (.inr ⟨hB.lt, cur, hB⟩))).trans hh, rest⟩
end
/-- What a kernel is to do at each input. -/
structure Steps (W : World) (B : Nat) (l : List S57) (stepF : Kst → S57 → Kst) (Inv : Nat → Kst → Prop) : Prop where
  next : ∀ i K x, l[i]? = some x → Inv i K → Inv (i + 1) (stepF K x) ∧ (stepF K x).ev.length ≤ 1000
  call : ∀ i K x, l[i]? = some x → Inv i K → ∀ (E0 E : Nat) (w : World) (kp : Nat) (A : Ad) (jv : List Value) (ev : Value) (DA : Option Addr) (dc : Nat), Below B W w → KAt E0 w B kp A jv ev (pdOf K) K → B ≤ E → E ≤ w.heap.size → (∀ w', Fr E [97, 50, 142, 140, 148, 131, 186] B w w' → Dem w' DA x.f1) →
    Calls Tryz.prog 31 #[.pointer (some ⟨kp, 0, none⟩), .agg #[.int .u64 x.f0, .slice DA x.f1.length dc, .int .u64 x.f2]] w (SPost E w B kp A (stepF K x))
/-- All events, and the kernel behind them. -/
def runK (stepF : Kst → S57 → Kst) (K : Kst) : List S57 → Kst
  | [] => K
  | x :: l => runK stepF (stepF K x) l
def runE (stepF : Kst → S57 → Kst) (K : Kst) : List S57 → List Ev
  | [] => []
  | x :: l => (stepF K x).ev ++ runE stepF (stepF K x) l
theorem runK_snoc (stepF : Kst → S57 → Kst) (x : S57) : ∀ (l : List S57) (K : Kst), runK stepF K (l ++ [x]) = stepF (runK stepF K l) x
  | [], _ => rfl
  | _ :: l, _ => runK_snoc stepF x l _
theorem runE_snoc (stepF : Kst → S57 → Kst) (x : S57) : ∀ (l : List S57) (K : Kst), runE stepF K (l ++ [x]) = runE stepF K l ++ (stepF (runK stepF K l) x).ev
  | [], K => by simp [runE, runK]
  | y :: l, K => by
    simp only [List.cons_append, runE, runK, List.append_assoc]
    rw [runE_snoc stepF x l]
set_option maxHeartbeats 16000000 in
theorem run_any {w : World} {A : Option Addr} {L : List S46} {c : Nat} {rel : Int} {IA : Option Addr} {ic : Nat} {l : List S57} {K0 : Kst} {stepF : Kst → S57 → Kst} {Inv : Nat → Kst → Prop} (hl : l.length ≤ 1000)
    (hI : InsP (Below w.heap.size w) IA l)
    (hnew : ∀ w', Below w.heap.size w w' → Calls Tryz.prog 30 #[.agg #[.int .i64 rel, .slice A L.length c]] w' fun e w2 => ∃ kp A' jv ev, e = .returned (.tuple #[.pointer (some ⟨kp, 0, none⟩), .int .i64 0]) ∧ KAt w'.heap.size w2 w'.heap.size kp A' jv ev (pdOf K0) K0 ∧ Below w'.heap.size w' w2)
    (h0 : Inv 0 K0) (hst : ∀ w', Below w.heap.size w w' → Steps w' w'.heap.size l stepF Inv) :
    Calls Tryz.prog 14 #[.agg #[.int .i64 rel, .slice A L.length c], .slice IA l.length ic] w fun e w2 => ∃ v, e = .returned (.tuple #[v, .bool true]) ∧ w2.ownsRow w.heap.size 50 4 v (runE stepF K0 l).length (evs (runE stepF K0 l)) ∧ Below w.heap.size w w2 := by
  have HN := Lib.hid hnew
  have HI := Lib.hid hI
  have HST := Lib.hid hst
  have H0 := Lib.hid h0
  obtain ⟨n, hn⟩ : ∃ n, l.length = n := ⟨_, rfl⟩
  obtain ⟨m, hm⟩ : ∃ m, L.length = m := ⟨_, rfl⟩
  have HL := Lib.hid hn
  rw [hm] at HN
  rw [hn] at hl
  rw [hm, hn]
  clear hnew hI hst h0 hn hm
  have HB1 := Lib.hid ((Below.refl w.heap.size w).alloc (Nat.le_refl _) (.cells #[.int .i64 rel, .slice A m c] 24))
  have HD := Lib.hid (Blk.new w 24 #[.int .i64 rel, .slice A m c])
  go_enter Tryz.func14, Tryz.ntmps14
  go_upto_region 1 with fail
  obtain ⟨w1, hw1⟩ : ∃ w1, w.alloc (.cells #[.int .i64 rel, .slice A m c] 24) = w1 := ⟨_, rfl⟩
  obtain ⟨sb, hsb⟩ : ∃ sb, w.heap.size = sb := ⟨_, rfl⟩
  rw [hw1] at HB1 HD ⊢
  rw [hsb] at HB1 HD ⊢
  have HSB := Lib.hid hsb
  have q0 : w1.cell? ⟨sb, 0, none⟩ = some (.int .i64 rel) := HD.out.cell 0
  have q1 : w1.cell? ⟨sb, 1, none⟩ = some (.slice A m c) := HD.out.cell 1
  clear hw1 hsb
  have HNW := Lib.hid (HN.out w1 (by rw [HSB.out]; exact HB1.out))
  have HST1 := Lib.hid (HST.out w1 (by rw [HSB.out]; exact HB1.out))
  have hsl := HD.out.lt
  obtain ⟨B, hB⟩ : ∃ B, w1.heap.size = B := ⟨_, rfl⟩
  have HBB := Lib.hid hB
  rw [hB] at HNW HST1
  rw [hB] at hsl
  clear hB
  go_wp2_with (go_at_call 30; refine (HNW.out).mono ?_; rintro e w2 ⟨kp, A', jv, ev, rfl, hK, hb⟩; have HK := Lib.hid hK; have HB2 := Lib.hid hb; clear hK hb)
  obtain ⟨i0, hi0, hz0, hz1, hz2⟩ := info_parts Tryz.info50
  have Hz0 := Lib.hid hz0; clear hz0
  have Hz1 := Lib.hid hz1; clear hz1
  have Hz2 := Lib.hid hz2; clear hz2
  have Hi := Lib.hid hi0; clear hi0
  clear q0 q1 hsl
  go_loopw [8, 9] (fun z8 z9 wr => ∃ (k E : Nat) (jv : List Value) (ev : Value), k ≤ n ∧ z9 = .int .i64 k ∧ KAt E wr B kp A' jv ev (pdOf (runK stepF K0 (l.take k))) (runK stepF K0 (l.take k)) ∧ Inv k (runK stepF K0 (l.take k)) ∧ wr.ownsRow B 50 4 z8 (runE stepF K0 (l.take k)).length (evs (runE stepF K0 (l.take k))) ∧ Below B w1 wr ∧ (runE stepF K0 (l.take k)).length ≤ k * 1000) (fun _ z9 _ => n - (intOf z9).toNat)
  case atStart => exact ⟨0, B, jv, ev, Nat.zero_le _, rfl, HK.out, H0.out, World.ownsRow_nil _ _ _ _, HB2.out, Nat.le_refl _⟩
  case round =>
    obtain ⟨k, E1, jv1, ev1, hk, rfl, hK1, hI1, hO1, hb1, hle⟩ := hrel
    have hbw : Below w.heap.size w wr := by rw [HSB.out]; exact HB1.out.trans (hb1.mono (by have := HD.out.lt; rw [HBB.out] at this; omega))
    by_cases hlt : k < n
    · obtain ⟨x, hx⟩ : ∃ x, l[k]? = some x := ⟨_, List.getElem?_eq_getElem (by rw [HL.out]; exact hlt)⟩
      have htk : l.take (k + 1) = l.take k ++ [x] := by
        obtain ⟨h1, rfl⟩ := List.getElem?_eq_some_iff.1 hx
        rw [List.take_succ_eq_append_getElem h1]
      have hnx := HST1.out.next k _ x hx hI1
      have hBwr : B ≤ wr.heap.size := by have := hK1.bk; have := hK1.hd.lt; omega
      rcases HI.out with h0 | ⟨b, off, rfl, hcs⟩
      · have := HL.out; rw [h0] at this; simp at this; omega
      obtain ⟨DA, dc, hcw⟩ := hcs k x hx
      obtain ⟨g0, g1, g2, _⟩ := hcw wr hbw
      have hcl := HST1.out.call k _ x hx hI1 E1 wr.heap.size wr kp A' jv1 ev1 DA dc hb1 hK1 hBwr (Nat.le_refl _) (fun w' f => (hcw w' (hbw.trans (f.below (by rw [HSB.out]; have := HD.out.lt; rw [HBB.out] at this; omega) hbw.size))).2.2.2)
      obtain ⟨Kk, hKk⟩ : ∃ Kk, runK stepF K0 (l.take k) = Kk := ⟨_, rfl⟩
      obtain ⟨Lk, hLk⟩ : ∃ Lk, runE stepF K0 (l.take k) = Lk := ⟨_, rfl⟩
      have hK2 : runK stepF K0 (l.take (k + 1)) = stepF Kk x := by rw [htk, runK_snoc, hKk]
      have hL2 : runE stepF K0 (l.take (k + 1)) = Lk ++ (stepF Kk x).ev := by rw [htk, runE_snoc, hKk, hLk]
      rw [hKk] at hcl hnx
      rw [hLk] at hO1 hle
      obtain ⟨Kn, hKn⟩ : ∃ Kn, stepF Kk x = Kn := ⟨_, rfl⟩
      rw [hKn] at hcl hnx hK2 hL2
      have HC := Lib.hid hcl
      have HN2 := Lib.hid hnx
      have HK2 := Lib.hid hK2
      have HL2 := Lib.hid hL2
      have HO1 := Lib.hid hO1
      have HB1' := Lib.hid hb1
      have HLE := Lib.hid hle
      have HBW := Lib.hid hBwr
      clear hcl hnx hK2 hL2 hO1 hb1 hle hK1 hI1 htk hx hKk hLk hKn hcs hbw hBwr hcw
      have m1 : Hid (Lk.length + Kn.ev.length ≤ maxLen) := by have := HLE.out; have := HN2.out.2; unfold Hid maxLen; omega
      have m2 : Hid ((Lk.length + Kn.ev.length) * 32 ≤ 140737488355328) := by have := HLE.out; have := HN2.out.2; unfold Hid; omega
      go_wp2_with (first | (go_at_call 31; refine (HC.out).mono ?_; rintro e w3 ⟨jv3, ev3, rfl, hK3, hf3⟩; have HK3 := Lib.hid hK3; have HF3 := Lib.hid hf3; have HO3 := Lib.hid (own50_fr HO1.out hf3); have HB3 := Lib.hid (HB1'.out.trans (hf3.below (Nat.le_refl _) HBW.out)); have hs3 : Hid (B ≤ w3.heap.size) := Nat.le_trans HBW.out hf3.size; clear hK3 hf3) | (at_builtin; refine wpList_append_rows _ rfl (.tmp 27) (.tmp 33) 35 rfl B 50 i0 _ 4 32 Tryz.underlying35 Hi.out Hz0.out Hz1.out Hz2.out rfl (Nat.succ_pos 3) _ Lk.length (evs Lk) rfl HO3.out ev3 Kn.ev.length wr.heap.size (evs Kn.ev) rfl HK3.out.evs (evs_one _) m1.out m2.out hs3.out ?_; intro v' w4 own gr))
      go_roundw
      case rel =>
        have hlt3 : ∀ g, u8.ownBlock = some g → g < wr.heap.size := fun g hg => own_block_lt HO1.out hg
        refine ⟨k + 1, wr.heap.size, jv3, ev3, by omega, by go_num, ?_, ?_, ?_, ?_, ?_⟩
        · rw [HK2.out]
          exact kat_other HK3.out HO3.out gr hlt3
        · rw [HK2.out]
          exact HN2.out.1
        · rw [HL2.out, evs_app, List.length_append]
          exact own
        · refine HB3.out.grown gr hs3.out fun g hg => ?_
          exact (HO1.out.lt g hg).1
        · rw [HL2.out, List.length_append]
          have := HLE.out
          have := HN2.out.2
          omega
      case measure => simp [intOf]; omega
    · have e : k = n := by omega
      subst e
      have HT : Hid (l.take k = l) := by unfold Hid; rw [← HL.out, List.take_length]
      have HO1 := Lib.hid hO1
      have HBW := Lib.hid hbw
      have HSB' := HD.out.lt
      rw [HBB.out] at HSB'
      have HSB'' := Lib.hid HSB'
      clear hO1 hbw hb1 hK1 hI1 hle HSB'
      go_wp2
      go_ret2
      refine ⟨_, rfl, ?_, HBW.out⟩
      have h := HO1.out
      rw [HT.out] at h
      exact own_mono h (by rw [HSB.out]; exact Nat.le_of_lt HSB''.out)
end Go.Proofs.YtdgfjpbjiccllaaGreatDoor
/- What the laws take: rows that are read. -/
namespace Go.Proofs.YtdgfjpbjiccllaaGreatDoor
open Go.RowKit
open Go.Proofs.YtdgfjpbjiccllaaGreatDoorW.PrintWords Go.Proofs.YtdgfjpbjiccllaaGreatDoorW.PrintLast Go.Proofs.YtdgfjpbjiccllaaGreatDoorW.PrintMore
open Go.Proofs.YtdgfjpbjiccllaaGreatDoor.PTopLoads
set_option maxRecDepth 100000
theorem nums_of {w : World} {A : Option Addr} {xs : List Int} (h : (Kd.int .i64).C w A xs.length xs) : Nums w A xs := by
  rcases Nat.eq_zero_or_pos xs.length with h0 | h0
  · exact .inl (List.length_eq_zero_iff.1 h0)
  · obtain ⟨⟨b, off, spot⟩, rfl, hc⟩ := h.2.2 h0
    have g : ∀ i (hi : i < xs.length), w.cell? ((⟨b, off, spot⟩ : Addr).add i) = some (.int .i64 xs[i]) := fun i hi => by
      obtain ⟨c, _, hK, hu⟩ := hc i xs[i] (List.getElem?_eq_getElem hi)
      have hK' : c = [.int .i64 xs[i]] := hK
      subst hK'
      have := hu 0 _ rfl
      rwa [show i * (Kd.int .i64).sz + 0 = i from by simp [Kd.int, Kd.scalar]] at this
    have hspot : spot = none := by simpa [Addr.add] using World.cell?_spot (g 0 h0)
    subst hspot
    refine .inr ⟨b, off, rfl, World.block_lt_of_cell? w _ (g 0 h0), fun i hi => ?_⟩
    rw [← add_none]
    exact g i hi
theorem dem_of {w : World} {A : Option Addr} {D : List (List Int)} (h : Kd.C (Kd.slice 2 (Kd.int .i64)) w A D.length D) : Dem w A D := by
  rcases Nat.eq_zero_or_pos D.length with h0 | h0
  · exact .inl (List.length_eq_zero_iff.1 h0)
  · have g : ∀ i (hi : i < D.length), ∃ ad A0 c0, A = some ad ∧ w.cell? (ad.add i) = some (.slice A0 D[i].length c0) ∧ Nums w A0 D[i] := fun i hi => by
      obtain ⟨ad, A0, c0, hA, hcell, _, hC⟩ := at_L2 h (i : Int) (by omega) (by omega)
      have er : rd_L2 D i = D[i] := by simp [rd_L2, List.getD_eq_getElem?_getD, hi]
      rw [er] at hcell hC
      exact ⟨ad, A0, c0, hA, hcell, nums_of hC⟩
    obtain ⟨⟨b, off, spot⟩, A0, c0, rfl, hcell, _⟩ := g 0 h0
    have hspot : spot = none := by simpa [Addr.add] using World.cell?_spot hcell
    subst hspot
    refine .inr ⟨b, off, rfl, fun i hi => ?_⟩
    obtain ⟨ad, A0, c0, hA, hcell, hN⟩ := g i hi
    injection hA with hA
    subst hA
    exact ⟨A0, c0, by rw [← add_none]; exact hcell, hN⟩
theorem ins_of {w : World} {A : Option Addr} {l : List S57} (h : Kd.C k57 w A l.length l) : InsP (Below w.heap.size w) A l := by
  rcases Nat.eq_zero_or_pos l.length with h0 | h0
  · exact .inl (List.length_eq_zero_iff.1 h0)
  · have g : ∀ i (hi : i < l.length), ∃ ad DA dc, A = some ad ∧ w.cell? (ad.add (i * 3)) = some (.int .u64 l[i].f0) ∧ w.cell? ⟨(ad.add (i * 3)).block, (ad.add (i * 3)).off + 1, none⟩ = some (.slice DA l[i].f1.length dc) ∧
        w.cell? ⟨(ad.add (i * 3)).block, (ad.add (i * 3)).off + 2, none⟩ = some (.int .u64 l[i].f2) ∧ (Kd.slice 2 (Kd.int .i64)).C w DA l[i].f1.length l[i].f1 := fun i hi => by
      obtain ⟨ad, DA, dc, hA, c0, c1, c2, _, hC⟩ := at_T57 h (i : Int) (by omega) (by omega)
      have er : rd_T57 l i = l[i] := by simp [rd_T57, List.getD_eq_getElem?_getD, hi]
      rw [er] at c0 c1 c2 hC
      exact ⟨ad, DA, dc, hA, c0, c1, c2, hC⟩
    obtain ⟨⟨b, off, spot⟩, _, _, rfl, hcell, _⟩ := g 0 h0
    have hspot : spot = none := by simpa [Addr.add] using World.cell?_spot hcell
    subst hspot
    have hb : b < w.heap.size := World.block_lt_of_cell? w _ hcell
    refine .inr ⟨b, off, rfl, fun i x hx => ?_⟩
    obtain ⟨hi, rfl⟩ := List.getElem?_eq_some_iff.1 hx
    obtain ⟨ad, DA, dc, hA, c0, c1, c2, hC⟩ := g i hi
    injection hA with hA
    subst hA
    rw [add_none] at c0 c1 c2
    refine ⟨DA, dc, fun w' hb' => ⟨?_, ?_, ?_, dem_of (Kd.C_below hC hb')⟩⟩
    · exact (hb'.cell (p := ⟨b, off + i * 3, none⟩) hb).trans c0
    · exact (hb'.cell (p := ⟨b, off + i * 3 + 1, none⟩) hb).trans c1
    · exact (hb'.cell (p := ⟨b, off + i * 3 + 2, none⟩) hb).trans c2
end Go.Proofs.YtdgfjpbjiccllaaGreatDoor
