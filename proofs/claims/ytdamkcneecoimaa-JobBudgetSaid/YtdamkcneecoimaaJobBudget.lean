/- Of every row of regions and every row of demands the law JobBudget returns true; no condition. -/
import Derived.Test.YtdamkcneecoimaaTick
import Derived.Test.YtdamkcneecoimaaRows
import Derived.WalkKit
import Derived.ProofKit
import Derived.OpenShut
import Derived.ShutString
import Derived.ChangeOld
import Derived.Below
namespace Go.Proofs.Ytdamkcneecoimaa.jobBudget
open Go.ChangeShapes Go.WideShapes Go.ChangeAt Go.RowKit
open Go.ChangeMaps (open_string shut_string)

theorem own : ownKnob Try.prog.godebug = none := by kernel_rfl
theorem laidOut : laidOutB Try.prog = true := by kernel_rfl

/-- A slice of whole numbers that came in: nil, or a row of 'cap' cells that holds the numbers 'zs', of which the first 'len' are its elements. -/
def IsRow (k : IntKind) (w : World) (a : Option Addr) (len cap : Nat) (zs : List Int) : Prop :=
  (a = none ∧ len = 0 ∧ cap = 0 ∧ zs = []) ∨
  ∃ x, a = some x ∧ len ≤ cap ∧ cap ≤ maxLen ∧ zs.length = cap ∧ (∀ i, i < zs.length → w.cell? (x.add i) = some (.int k (zs.getD i 0))) ∧ ∀ n ∈ zs, (Lit.int k n).wf = true

/-! ### The plain side -/
def psum (ds : List Int) (k : Nat) : Int := (ds.take k).sum
theorem psum_succ (ds : List Int) (k : Nat) (h : k < ds.length) : psum ds (k + 1) = psum ds k + ds.getD k 0 := by
  unfold psum
  rw [List.take_succ_eq_append_getElem h, List.sum_append]
  simp [List.getD, h]
theorem psum_big {rs : List Int} (h : ∀ i, i < rs.length → 1 ≤ rs.getD i 0 ∧ rs.getD i 0 ≤ 60) : ∀ k, k ≤ rs.length → 0 ≤ psum rs k ∧ psum rs k ≤ 60 * k := by
  intro k
  induction k with
  | zero => intro _; simp [psum]
  | succ k ih =>
    intro hk
    have h2 := psum_succ rs k (by omega)
    have h3 := h k (by omega)
    have := ih (by omega)
    rw [h2]
    omega
theorem psum_up {rs : List Int} (h : ∀ i, i < rs.length → 1 ≤ rs.getD i 0 ∧ rs.getD i 0 ≤ 60) (d : Nat) : ∀ k, k + d ≤ rs.length → psum rs k + d ≤ psum rs (k + d) := by
  induction d with
  | zero => intro k _; simp
  | succ d ih =>
    intro k hk
    have h1 := ih k (by omega)
    have h2 := psum_succ rs (k + d) (by omega)
    have h3 := (h (k + d) (by omega)).1
    rw [show k + (d + 1) = k + d + 1 from by omega, h2]
    omega
/-- Where a job stands behind t ticks, and what the law has counted. -/
def Bud (rs ns : List Int) (j : Jb) (t : Int) : Prop :=
  j.rs = rs ∧ j.all = t ∧ ns.length = 8 ∧ 0 ≤ j.had ∧ j.had ≤ 60 ∧ 0 ≤ t ∧
  ((j.how = 0 ∧ j.k < rs.length ∧ j.had < rs.getD j.k 0 ∧ t ≤ psum rs j.k + j.had ∧ ns.getD j.k 0 = j.had ∧ ∀ i, j.k < i → ns.getD i 0 = 0) ∨ ((j.how = 2 ∨ j.how = 3) ∧ t ≤ psum rs rs.length))
theorem bud_le {rs ns : List Int} (h : ∀ i, i < rs.length → 1 ≤ rs.getD i 0 ∧ rs.getD i 0 ≤ 60) {j : Jb} {t : Int} (hB : Bud rs ns j t) : t ≤ psum rs rs.length := by
  obtain ⟨h1, h2, h3, h4, h5, h6, h7 | h7⟩ := hB
  · obtain ⟨a, b, c, d, e, f⟩ := h7
    have := psum_succ rs j.k b
    have := psum_up h (rs.length - (j.k + 1)) (j.k + 1) (by omega)
    rw [show j.k + 1 + (rs.length - (j.k + 1)) = rs.length from by omega] at this
    omega
  · exact h7.2
theorem getD_set_self (ns : List Int) (i : Nat) (v : Int) (h : i < ns.length) : (ns.set i v).getD i 0 = v := by
  simp [List.getD, h]
theorem getD_set_far (ns : List Int) (i k : Nat) (v : Int) (h : i ≠ k) : (ns.set i v).getD k 0 = ns.getD k 0 := by
  simp [List.getD, h]
/-- A tick of a job that has not ended. -/
theorem bud_step {rs ns : List Int} (h : ∀ i, i < rs.length → 1 ≤ rs.getD i 0 ∧ rs.getD i 0 ≤ 60) (h8 : rs.length ≤ 8) {j : Jb} {t : Int} (hB : Bud rs ns j t) (h0 : j.how = 0) :
    ∃ j' e c r, tick j = (j', (j.k : Int), e) ∧ j.k < rs.length ∧ ns.getD j.k 0 = c ∧ rs.getD j.k 0 = r ∧ 0 ≤ c ∧ c < r ∧ r ≤ 60 ∧ Bud rs (ns.set j.k (c + 1)) j' (t + 1) := by
  obtain ⟨h1, h2, h3, h4, h5, h6, h7 | h7⟩ := hB
  · obtain ⟨a, b, c, d, e, f⟩ := h7
    subst h1
    have hk := h j.k b
    have hp := psum_succ j.rs j.k b
    have hb := psum_up h (j.rs.length - (j.k + 1)) (j.k + 1) (by omega)
    rw [show j.k + 1 + (j.rs.length - (j.k + 1)) = j.rs.length from by omega] at hb
    have key : ∀ j' e, tick j = (j', (j.k : Int), e) → Bud j.rs (ns.set j.k (j.had + 1)) j' (t + 1) → ∃ j' e c r, tick j = (j', (j.k : Int), e) ∧ j.k < j.rs.length ∧ ns.getD j.k 0 = c ∧ j.rs.getD j.k 0 = r ∧ 0 ≤ c ∧ c < r ∧ r ≤ 60 ∧ Bud j.rs (ns.set j.k (c + 1)) j' (t + 1) :=
      fun j' e' q1 q2 => ⟨j', e', j.had, _, q1, b, e, rfl, h4, c, hk.2, q2⟩
    by_cases hd : j.had + 1 = j.ds.getD j.k 0
    · by_cases hl : j.k + 1 = j.rs.length
      · refine key _ _ (tick_done a hd hl) ⟨rfl, by simp; omega, by simpa using h3, by simp, by simp, by omega, .inr ⟨.inl rfl, ?_⟩⟩
        rw [← hl] at hb ⊢
        omega
      · have hk2 := h (j.k + 1) (by omega)
        refine key _ _ (tick_part a hd hl) ⟨rfl, by simp; omega, by simpa using h3, by simp, by simp, by omega, .inl ⟨rfl, by simp; omega, by simp only; omega, by simp only; omega, ?_, ?_⟩⟩
        · simp only
          rw [getD_set_far _ _ _ _ (by omega)]
          exact f _ (by omega)
        · intro i hi
          simp only at hi
          rw [getD_set_far _ _ _ _ (by omega)]
          exact f _ (by omega)
    · by_cases hr : j.had + 1 = j.rs.getD j.k 0
      · exact key _ _ (tick_cut a hd hr) ⟨rfl, by simp; omega, by simpa using h3, by simp only; omega, by simp only; omega, by omega, .inr ⟨.inr rfl, by omega⟩⟩
      · refine key _ _ (tick_on a hd hr) ⟨rfl, by simp; omega, by simpa using h3, by simp only; omega, by simp only; omega, by omega, .inl ⟨rfl, b, by simp only; omega, by simp only; omega, ?_, ?_⟩⟩
        · exact getD_set_self _ _ _ (by omega)
        · intro i hi
          simp only at hi
          rw [getD_set_far _ _ _ _ (by omega)]
          exact f _ hi
  · omega
theorem bud_facts {rs ns : List Int} (h : ∀ i, i < rs.length → 1 ≤ rs.getD i 0 ∧ rs.getD i 0 ≤ 60) (h8 : rs.length ≤ 8) {j : Jb} {t : Int} (hB : Bud rs ns j t) :
    (j.how = 0 → j.k < j.rs.length) ∧ j.rs.length ≤ 8 ∧ 0 ≤ j.had ∧ j.had ≤ 1000000 ∧ 0 ≤ j.all ∧ j.all ≤ 1000000 := by
  have hl := bud_le h hB
  have hb := (psum_big h rs.length (Nat.le_refl _)).2
  obtain ⟨h1, h2, h3, h4, h5, h6, h7⟩ := hB
  rw [h1, h2]
  refine ⟨fun h0 => ?_, h8, h4, by omega, h6, by omega⟩
  rcases h7 with h7 | h7
  · exact h7.2.1
  · omega

theorem row_open {w : World} {a : Option Addr} {len cap : Nat} {z : List Int} (h : IsRow .i64 w a len cap z) :
    ∃ zs : List Int, zs.length = len ∧ Nums w a zs := by
  rcases h with ⟨rfl, rfl, rfl, rfl⟩ | ⟨⟨b, off, spot⟩, rfl, hl, hm, hz, hcell, hwz⟩
  · exact ⟨[], rfl, .inl rfl⟩
  · refine ⟨z.take len, by simp; omega, ?_⟩
    by_cases h0 : len = 0
    · left; simp [h0]
    · have hc := hcell 0 (by omega)
      have hspot : spot = none := by simpa [Addr.add] using World.cell?_spot hc
      subst hspot
      refine .inr ⟨b, off, rfl, World.block_lt_of_cell? w _ hc, fun i hi => ?_⟩
      have hi' : i < len := by simp at hi; omega
      have := hcell i (by omega)
      rw [add_none] at this
      rw [this]
      simp [List.getD, show i < z.length from by omega]

set_option maxHeartbeats 8000000 in
theorem walk (a0 : Option Addr) (len0 cap0 : Nat) (z0 : List Int) (a1 : Option Addr) (len1 cap1 : Nat) (z1 : List Int) (w : World) (w0 : IsRow .i64 w a0 len0 cap0 z0) (w1 : IsRow .i64 w a1 len1 cap1 z1) :
    Calls Try.prog 4 #[.slice a0 len0 cap0, .slice a1 len1 cap1] w fun e w' => e = .returned (.bool true) ∧ Below w.heap.size w w' := by
  obtain ⟨rs, rfl, hR⟩ := row_open w0
  obtain ⟨dm, rfl, hD⟩ := row_open w1
  clear w0 w1
  by_cases c1 : rs.length < 1
  · go_enter Try.func4, Try.ntmps4
    go_wp2
    go_ret
    exact ⟨rfl, Below.refl _ _⟩
  by_cases c2 : 8 < rs.length
  · go_enter Try.func4, Try.ntmps4
    go_wp2
    go_ret
    exact ⟨rfl, Below.refl _ _⟩
  by_cases c3 : 20 < dm.length
  · go_enter Try.func4, Try.ntmps4
    go_wp2
    go_ret
    exact ⟨rfl, Below.refl _ _⟩
  rcases hR with hz | ⟨b0, o0, rfl, hb0, hc0⟩
  · rw [hz] at c1; simp at c1
  have HC0 := Lib.hid hc0
  have HD := Lib.hid hD
  clear hc0 hD
  go_enter Try.func4, Try.ntmps4
  go_wp2_with fail
  go_loopw [5, 6] (fun x z wr => ∃ k : Nat, k ≤ rs.length ∧ z = .int .i64 k ∧ x = .int .i64 (psum rs k) ∧ (∀ i, i < k → 1 ≤ rs.getD i 0 ∧ rs.getD i 0 ≤ 60) ∧ ∃ m, wr = w.drewN m) (fun _ z _ => rs.length - (intOf z).toNat)
  case atStart => exact ⟨0, Nat.zero_le _, rfl, by simp [psum], fun i h => by omega, 0, rfl⟩
  case round =>
    obtain ⟨k, hk, rfl, rfl, hall, m, rfl⟩ := hrel
    have HA := Lib.hid hall
    clear hall
    by_cases hlt : k < rs.length
    · have q0 := HC0.out k hlt
      obtain ⟨r, hr⟩ : ∃ r, rs[k] = r := ⟨_, rfl⟩
      rw [hr] at q0
      have gr : rs.getD k 0 = r := by rw [List.getD_eq_getElem?_getD, List.getElem?_eq_getElem hlt]; simpa using hr
      have i0 : (0 : Int) ≤ (k : Int) := by omega
      have i1 : (k : Int) < (rs.length : Int) := by omega
      have GR := Lib.hid gr
      clear hr gr
      by_cases t1 : r < 1
      · go_wp2
        go_ret
        exact ⟨rfl, below_drewN (Below.refl _ _) _⟩
      by_cases t2 : 60 < r
      · go_wp2
        go_ret
        exact ⟨rfl, below_drewN (Below.refl _ _) _⟩
      have hall' : ∀ i, i < k + 1 → 1 ≤ rs.getD i 0 ∧ rs.getD i 0 ≤ 60 := by
        intro i hi
        by_cases hik : i = k
        · subst hik
          rw [GR.out]
          omega
        · exact HA.out i (by omega)
      have hps := psum_succ rs k hlt
      rw [GR.out] at hps
      obtain ⟨s, hs⟩ : ∃ s, psum rs k = s := ⟨_, rfl⟩
      have hsb : 0 ≤ s ∧ s ≤ 60 * k := by
        rw [← hs]
        have : ∀ j, j ≤ k → 0 ≤ psum rs j ∧ psum rs j ≤ 60 * j := by
          intro j
          induction j with
          | zero => intro _; simp [psum]
          | succ j ih =>
            intro hj
            have h1 := ih (by omega)
            have h2 := psum_succ rs j (by omega)
            have h3 := HA.out j (by omega)
            omega
        exact this k (Nat.le_refl _)
      rw [hs] at hps ⊢
      have HPS := Lib.hid hps
      have HAL := Lib.hid hall'
      clear hps hs hall' HA
      go_wp2_with fail
      go_roundw
      case rel => exact ⟨k + 1, by omega, by go_num, by rw [HPS.out], HAL.out, _, rfl⟩
      case measure => simp [intOf]; omega
    · obtain rfl : k = rs.length := by omega
      have hO : rs.any odd = false := by
        rw [List.any_eq_false]
        intro x hx
        obtain ⟨i, hi, rfl⟩ := List.getElem_of_mem hx
        have := HA.out i hi
        rw [List.getD_eq_getElem?_getD, List.getElem?_eq_getElem hi] at this
        simp only [Option.getD_some] at this
        simp [odd]; omega
      have hX : Bud rs [0, 0, 0, 0, 0, 0, 0, 0] (jb0 rs dm) 0 := by
        have := HA.out 0 (by omega)
        have hz : ∀ i, List.getD [0, 0, 0, 0, 0, 0, 0, 0] i (0 : Int) = 0 := by
          intro i
          rcases Nat.lt_or_ge i 8 with h | h
          · have : i = 0 ∨ i = 1 ∨ i = 2 ∨ i = 3 ∨ i = 4 ∨ i = 5 ∨ i = 6 ∨ i = 7 := by omega
            rcases this with rfl | rfl | rfl | rfl | rfl | rfl | rfl | rfl <;> rfl
          · simp [List.getD, List.getElem?_eq_none (l := [0, 0, 0, 0, 0, 0, 0, (0 : Int)]) (by simpa using h)]
        exact ⟨rfl, rfl, rfl, by simp [jb0], by simp [jb0], by omega, .inl ⟨rfl, by simp [jb0]; omega, by simp only [jb0]; omega, by simp [jb0, psum], hz _, fun i _ => hz i⟩⟩
      have hN := new_yes (some ⟨b0, o0, none⟩) a1 cap0 cap1 rs dm (w.drewN m) (.inr ⟨b0, o0, rfl, hb0, fun i hi => HC0.out i hi⟩) HD.out (by omega) (by omega) hO
      have hsz := psum_big HA.out rs.length (Nat.le_refl _)
      obtain ⟨S, hS⟩ : ∃ S : Nat, psum rs rs.length = S := ⟨(psum rs rs.length).toNat, by omega⟩
      have HS := Lib.hid hS
      rw [hS] at hsz ⊢
      have s2 : S ≤ 480 := by omega
      have HX := Lib.hid hX
      clear hS hX hO hsz
      go_wp2_with fail
      refine hN.mono ?_
      rintro e w1 ⟨p, a, ca, b, cb, rfl, hJ0, k0, hp⟩
      have hp : w.heap.size ≤ p := hp
      have k1 : Below w.heap.size w w1 := (below_drewN (Below.refl _ _) _).trans k0
      clear k0
      have HJ0 := Lib.hid hJ0
      clear hN hJ0
      go_wp2_with fail
      have HJ1 := HJ0.out.below ((Below.refl _ w1).alloc (Nat.le_refl _) (.cells #[.int .i64 0, .int .i64 0, .int .i64 0, .int .i64 0, .int .i64 0, .int .i64 0, .int .i64 0, .int .i64 0] 32))
      have HJ2 := Lib.hid HJ1
      have BA := Blk.new w1 32 #[.int .i64 0, .int .i64 0, .int .i64 0, .int .i64 0, .int .i64 0, .int .i64 0, .int .i64 0, .int .i64 0]
      have k2 := k1.alloc (k1.size) (.cells #[.int .i64 0, .int .i64 0, .int .i64 0, .int .i64 0, .int .i64 0, .int .i64 0, .int .i64 0, .int .i64 0] 32)
      have hg := k1.size
      obtain ⟨g, hgn⟩ : ∃ g, w1.heap.size = g := ⟨_, rfl⟩
      obtain ⟨w2, hw2⟩ : ∃ w2, w1.alloc (.cells #[.int .i64 0, .int .i64 0, .int .i64 0, .int .i64 0, .int .i64 0, .int .i64 0, .int .i64 0, .int .i64 0] 32) = w2 := ⟨_, rfl⟩
      rw [hw2] at HJ2 BA k2 ⊢
      rw [hgn] at BA hg ⊢
      clear hw2 hgn HJ1 HJ0 k1
      go_loopw [9] (fun z wr => ∃ (t : Nat) (j : Jb) (ns : List Int), t ≤ S ∧ z = .int .i64 t ∧ JobAt wr w.heap.size p a ca b cb j ∧ Bud rs ns j t ∧ Blk wr g 32 (ints ns).toArray ∧ Below w.heap.size w wr) (fun z _ => S + 1 - (intOf z).toNat)
      case atStart => exact ⟨0, _, _, Nat.zero_le _, rfl, HJ2.out, HX.out, BA, k2⟩
      case round =>
        obtain ⟨t, j, ns, ht, rfl, hJ, hE, hB, hW⟩ := hrel
        clear HJ2 HX BA k2
        obtain ⟨x1, x2, x3, x4, x5, x6⟩ := bud_facts HA.out (by omega) hE
        have hS := step_any wr hJ x1 x2 x3 x4 x5 x6
        clear x1 x2 x3 x4 x5 x6
        by_cases h0 : j.how = 0
        · obtain ⟨j', e, c, r, htk, y1, y2, y3, y4, y5, y6, hE'⟩ := bud_step HA.out (by omega) hE h0
          have hl := bud_le HA.out hE'
          rw [HS.out] at hl
          have hns : ns.length = 8 := hE.2.2.1
          rw [htk] at hS
          have q0 := HC0.out j.k y1
          have gr : rs[j.k] = r := by rw [← y3, List.getD_eq_getElem?_getD, List.getElem?_eq_getElem y1]; rfl
          rw [gr] at q0
          have hc : (ints ns).toArray[j.k]? = some (.int .i64 c) := by
            rw [← y2]; simp [ints, List.getD, show j.k < ns.length from by omega]
          clear htk y2 y3 gr hE h0 hns
          obtain ⟨k, hk⟩ : ∃ k, j.k = k := ⟨_, rfl⟩
          rw [hk] at hS q0 hc hE' y1
          clear hk
          have HE := Lib.hid hE'
          have HC := Lib.hid hc
          clear hE' hc
          have i0 : (0 : Int) ≤ (k : Int) := by omega
          have i1 : (k : Int) < (rs.length : Int) := by omega
          have i2 : (k : Int) < 8 := by omega
          go_wp2_with fail
          refine hS.mono ?_
          rintro _ w3 ⟨rfl, hJ3, g3⟩
          have hW3 := below_only hW (Nat.le_refl _) g3 (fun k e => by injection e with e; omega)
          have B3 := hB.grown g3 (by have := (hJ.hd).ne_ hB (by decide); intro e; injection e with e; omega)
          have q1 : w3.cell? ⟨g, k, none⟩ = some (.int .i64 c) := (B3.cell k).trans HC.out
          have f1 := B3.frozen k
          have g4 : w3.grownBy (w3.setCell ⟨g, k, none⟩ (.int .i64 (c + 1))) (some g) := only_setCell (World.grownBy.refl w3 _) (.inl rfl) _
          have hW4 := below_only hW3 (Nat.le_refl _) g4 (fun k e => by injection e with e; omega)
          have B4 := B3.set_ k (.int .i64 (c + 1))
          have hJ4 := hJ3.keep g4 (by have := hJ3.hd.ne_ B3 (by decide); simpa using this)
            (by obtain ⟨_, cur, hb, _⟩ := own_at hJ3.rs; have := hb.ne_ B3 (by decide); simpa using this)
            (by obtain ⟨_, cur, hb, _⟩ := own_at hJ3.ds; have := hb.ne_ B3 (by decide); simpa using this)
          obtain ⟨w4, hw4⟩ : ∃ w4, w3.setCell ⟨g, k, none⟩ (.int .i64 (c + 1)) = w4 := ⟨_, rfl⟩
          rw [hw4] at hW4 B4 hJ4
          have HW := Lib.hid hw4
          have p0 : w4.cell? ⟨b0, o0 + k, none⟩ = some (.int .i64 r) := (hW4.cell hb0).trans q0
          have hset : (ints ns).toArray.setIfInBounds k (.int .i64 (c + 1)) = (ints (ns.set k (c + 1))).toArray := by simp [ints, List.map_set]
          have p1 : w4.cell? ⟨g, k, none⟩ = some (.int .i64 (c + 1)) := by
            rw [B4.cell]
            have : k < (ints ns).toArray.size := by
              have := HC.out
              exact (Array.getElem?_eq_some_iff.1 this).1
            simp only [Array.getElem?_setIfInBounds_self, this, if_true]
          rw [hset] at B4
          have HJ4 := Lib.hid hJ4
          have HB4 := Lib.hid B4
          clear hS hJ hW g3 hJ3 hB B3 g4 hJ4 B4 hset hw4 q0
          go_wp2_with fail
          rw [HW.out]
          clear HW q1 f1
          go_quiet (fail)
          go_wp2_with fail
          go_roundw
          case rel => exact ⟨t + 1, j', _, by omega, by go_num, HJ4.out.drewN _, HE.out, HB4.out, below_drewN hW4 _⟩
          case measure => simp [intOf]; omega
        · have hh : j.how = 2 ∨ j.how = 3 := by
            obtain ⟨_, _, _, _, _, _, h7 | h7⟩ := hE
            · exact absurd h7.1 h0
            · exact h7.1
          have ha := hE.2.1
          rw [tick_over h0] at hS
          have HAj := Lib.hid ha
          clear ha hE h0 hB
          rcases hh with hh | hh
          · rw [hh] at hS
            clear hh
            go_wp2_with fail
            refine hS.mono ?_
            rintro _ w3 ⟨rfl, hJ3, g3⟩
            have hW3 := below_only hW (Nat.le_refl _) g3 (fun k e => by injection e with e; omega)
            clear hS hJ hW g3
            go_wp2_with fail
            refine (ticks_any w3 hJ3).mono ?_
            rintro _ _ ⟨rfl, rfl⟩
            rw [HAj.out]
            go_wp2_with fail
            refine (known_any w3).mono ?_
            rintro e w5 ⟨rfl, b5⟩
            go_wp2
            go_ret
            exact ⟨rfl, hW3.trans (b5.mono hW3.size)⟩
          · rw [hh] at hS
            clear hh
            go_wp2_with fail
            refine hS.mono ?_
            rintro _ w3 ⟨rfl, hJ3, g3⟩
            have hW3 := below_only hW (Nat.le_refl _) g3 (fun k e => by injection e with e; omega)
            clear hS hJ hW g3
            go_wp2_with fail
            refine (ticks_any w3 hJ3).mono ?_
            rintro _ _ ⟨rfl, rfl⟩
            rw [HAj.out]
            go_wp2_with fail
            refine (known_any w3).mono ?_
            rintro e w5 ⟨rfl, b5⟩
            go_wp2
            go_ret
            exact ⟨rfl, hW3.trans (b5.mono hW3.size)⟩

/-! ### The row's step -/
set_option linter.unusedVariables false in
set_option maxRecDepth 100000 in
theorem lifted (os : Os) (started : os.Started) (H : Type) (enc : TypeId × Value → H) :
    ReturnsInHanded {} Try.checked os 4 .any (Rows.jobBudgetSpec.pre6 enc Try.prog Try.f4 Rows.jobBudgetRow.domain false) (Rows.jobBudgetSpec.post enc Try.prog Try.f4 false true false false) := by
  refine returnsInHanded_of_change (C := Try.checked) own started (by kernel_rfl) Try.func4
    (ChangeSpec.witness6 (enc := enc) (C := Try.checked) false ⟨#[], #[.slice none 0 0, .slice none 0 0], []⟩ 8 (by kernel_rfl) (by kernel_rfl) (by kernel_rfl) (by kernel_rfl)) ?_
  intro W base args ds gs before hval0 hW hcnd _
  have hval : ∀ (j : Nat) t v, Try.f4.params[j]? = some t → args[j]? = some v → Value.okWide Try.prog W .any base t v := hval0
  have hW' := hW
  obtain ⟨p, q, hA0, hV, rfl, hfz, hnd⟩ := hW
  have hA : DataW.TrodAll enc Try.prog W 0 (fun _ => true) true Try.f4.params.toList args.toList ds p := hA0
  rw [Try.params4] at hA hval
  obtain ⟨v0, vs0, d0, ds0, p0, q0, hargs, rfl, rfl, h0, r0⟩ := trodAll_cons hA
  obtain ⟨v1, vs1, d1, ds1, p1, q1, rfl, rfl, rfl, h1, r1⟩ := trodAll_cons r0
  obtain ⟨rfl, rfl, rfl⟩ := trodAll_nil r1
  obtain rfl : args = #[v0, v1] := by cases args; simp_all
  obtain ⟨rfl, rfl⟩ := trodVars_none hV
  obtain ⟨a0, len0, cap0, rfl⟩ := okWide_slice Try.underlying22 (hval 0 22 v0 rfl rfl)
  have k0 := h0
  have lt0 : ∀ x ∈ p0, x.block < W.heap.size := by obtain ⟨m, hm⟩ := k0; exact DataW.trod_lt m _ _ _ hm
  obtain ⟨z0, w0⟩ : ∃ zs, IsRow .i64 W a0 len0 cap0 zs := by
    obtain ⟨fuel, hf⟩ := h0
    rcases open_ints Try.underlying22 Try.underlying2 (by kernel_rfl) hf with ⟨hcs, _⟩ | ⟨x, l, c, zs, hcs, _, hl, hm, hz, _, hcell, hwz⟩
    · simp [Value.cells] at hcs
      obtain ⟨rfl, rfl, rfl⟩ := hcs
      exact ⟨[], .inl ⟨rfl, rfl, rfl, rfl⟩⟩
    · simp [Value.cells] at hcs
      obtain ⟨rfl, rfl, rfl⟩ := hcs
      exact ⟨zs, .inr ⟨_, rfl, hl, hm, by simpa using hz, hcell, hwz⟩⟩
  obtain ⟨a1, len1, cap1, rfl⟩ := okWide_slice Try.underlying22 (hval 1 22 v1 rfl rfl)
  have k1 := h1
  have lt1 : ∀ x ∈ p1, x.block < W.heap.size := by obtain ⟨m, hm⟩ := k1; exact DataW.trod_lt m _ _ _ hm
  obtain ⟨z1, w1⟩ : ∃ zs, IsRow .i64 W a1 len1 cap1 zs := by
    obtain ⟨fuel, hf⟩ := h1
    rcases open_ints Try.underlying22 Try.underlying2 (by kernel_rfl) hf with ⟨hcs, _⟩ | ⟨x, l, c, zs, hcs, _, hl, hm, hz, _, hcell, hwz⟩
    · simp [Value.cells] at hcs
      obtain ⟨rfl, rfl, rfl⟩ := hcs
      exact ⟨[], .inl ⟨rfl, rfl, rfl, rfl⟩⟩
    · simp [Value.cells] at hcs
      obtain ⟨rfl, rfl, rfl⟩ := hcs
      exact ⟨zs, .inr ⟨_, rfl, hl, hm, by simpa using hz, hcell, hwz⟩⟩
  clear hA0 hval0
  refine (walk a0 len0 cap0 z0 a1 len1 cap1 z1 W w0 w1).mono fun e W' ⟨he, bel⟩ => ?_
  subst he
  exact ⟨_, rfl, _, _, _, [], _, [], hW', trodAll_mk1 (shut_bool Try.underlying4 _), (trodAll_cons_mk (Below.trod laidOut (by kernel_rfl) (of_decide_eq_true (by kernel_rfl)) k0 bel lt0) (trodAll_cons_mk (Below.trod laidOut (by kernel_rfl) (of_decide_eq_true (by kernel_rfl)) k1 bel lt1) trodAll_mk0)), rfl, bel.frame _, fun h => by cases h⟩

theorem over : Rows.jobBudgetRow.holds Try.pinned (OpenSpec.ofChange Rows.jobBudgetSpec) :=
  OpenClaim.holds_of_wide 4 Try.f4 rfl rfl rfl rfl rfl rfl rfl ⟨rfl, rfl, rfl, rfl, rfl⟩ rfl rfl rfl rfl rfl (by kernel_rfl) Try.func4 (by kernel_rfl)
    (of_decide_eq_true (by kernel_rfl)) (by unfold Func.isWrapper; first | (rw [if_pos (by decide +kernel)]; kernel_rfl) | (rw [if_neg (by decide +kernel)]; exact ⟨rfl, rfl⟩))
    (fun os started H enc _ => lifted os started H enc)

/-- The statement. -/
theorem proved : Rows.JobBudgetSaid := over
end Go.Proofs.Ytdamkcneecoimaa.jobBudget
