/- Of every row of regions and every row of demands the law JobExact returns true; no condition. -/
import Derived.Test.YtdamkcneecoimaaTick
import Derived.Test.YtdamkcneecoimaaRows
import Derived.WalkKit
import Derived.ProofKit
import Derived.OpenShut
import Derived.ShutString
import Derived.ChangeOld
import Derived.Below
namespace Go.Proofs.Ytdamkcneecoimaa.jobExact
open Go.ChangeShapes Go.WideShapes Go.ChangeAt Go.RowKit
open Go.ChangeMaps (open_string shut_string)

theorem own : ownKnob Try.prog.godebug = none := by kernel_rfl
theorem laidOut : laidOutB Try.prog = true := by kernel_rfl

/-- A slice of whole numbers that came in: nil, or a row of 'cap' cells that holds the numbers 'zs', of which the first 'len' are its elements. -/
def IsRow (k : IntKind) (w : World) (a : Option Addr) (len cap : Nat) (zs : List Int) : Prop :=
  (a = none ∧ len = 0 ∧ cap = 0 ∧ zs = []) ∨
  ∃ x, a = some x ∧ len ≤ cap ∧ cap ≤ maxLen ∧ zs.length = cap ∧ (∀ i, i < zs.length → w.cell? (x.add i) = some (.int k (zs.getD i 0))) ∧ ∀ n ∈ zs, (Lit.int k n).wf = true

/-! ### The plain side -/
def psum (ds : List Int) (k : Nat) : Int := (ds.take k).sum
theorem psum_succ (ds : List Int) (k : Nat) (h : k < ds.length) : psum ds (k + 1) = psum ds k + ds.getD k 0 := by
  unfold psum
  rw [List.take_succ_eq_append_getElem h, List.sum_append]
  simp [List.getD, h]
/-- Where a job whose demands lie within its regions stands behind t ticks. -/
def Ex (rs ds : List Int) (j : Jb) (t : Int) : Prop :=
  j.rs = rs ∧ j.ds = ds ∧ j.all = t ∧ ((j.how = 0 ∧ j.k < rs.length ∧ 0 ≤ j.had ∧ j.had < ds.getD j.k 0 ∧ t = psum ds j.k + j.had) ∨ (j.how = 2 ∧ j.k = rs.length ∧ j.had = 0 ∧ t = psum ds rs.length))
def Fit (rs ds : List Int) : Prop := ds.length = rs.length ∧ ∀ i, i < rs.length → 1 ≤ ds.getD i 0 ∧ ds.getD i 0 ≤ rs.getD i 0 ∧ rs.getD i 0 ≤ 60

theorem psum_le {rs ds : List Int} (h : Fit rs ds) (d : Nat) : ∀ k, k + d ≤ rs.length → psum ds k + d ≤ psum ds (k + d) := by
  induction d with
  | zero => intro k _; simp
  | succ d ih =>
    intro k hk
    have h1 := ih k (by omega)
    have h2 := psum_succ ds (k + d) (by rw [h.1]; omega)
    have h3 := (h.2 (k + d) (by omega)).1
    rw [show k + (d + 1) = k + d + 1 from by omega, h2]
    omega
theorem psum_big {rs ds : List Int} (h : Fit rs ds) : ∀ k, k ≤ rs.length → psum ds k ≤ 60 * k := by
  intro k
  induction k with
  | zero => intro _; simp [psum]
  | succ k ih =>
    intro hk
    have h2 := psum_succ ds k (by rw [h.1]; omega)
    have h3 := h.2 k (by omega)
    have := ih (by omega)
    rw [h2]
    omega
theorem psum_nn {rs ds : List Int} (h : Fit rs ds) (k : Nat) (hk : k ≤ rs.length) : 0 ≤ psum ds k := by
  have := psum_le h k 0 (by omega)
  simp [psum] at this ⊢
  omega

/-- One tick ahead of the last: not done, not cut. -/
theorem ex_on {rs ds : List Int} (hF : Fit rs ds) {j : Jb} {t : Int} (h : Ex rs ds j t) (ht : t + 1 < psum ds rs.length) :
    ∃ j' r e, tick j = (j', r, e) ∧ Ex rs ds j' (t + 1) ∧ (e = 0 ∨ e = 1) := by
  obtain ⟨h1, h2, h3, h | h⟩ := h
  · obtain ⟨a, b, c, d, e⟩ := h
    subst h1 h2
    have hk := hF.2 j.k b
    by_cases hd : j.had + 1 = j.ds.getD j.k 0
    · have hs := psum_succ j.ds j.k (by rw [hF.1]; exact b)
      by_cases hl : j.k + 1 = j.rs.length
      · rw [hl] at hs
        omega
      · have hk2 := hF.2 (j.k + 1) (by omega)
        exact ⟨_, _, _, tick_part a hd hl, ⟨rfl, rfl, by simp; omega, .inl ⟨rfl, by simp; omega, by simp, by simp only; omega, by simp only; omega⟩⟩, .inr rfl⟩
    · exact ⟨_, _, _, tick_on a hd (by omega), ⟨rfl, rfl, by simp; omega, .inl ⟨rfl, b, by simp only; omega, by simp only; omega, by simp only; omega⟩⟩, .inl rfl⟩
  · omega
/-- The last tick: done. -/
theorem ex_done {rs ds : List Int} (hF : Fit rs ds) {j : Jb} {t : Int} (h : Ex rs ds j t) (ht : t + 1 = psum ds rs.length) :
    ∃ j' r, tick j = (j', r, 2) ∧ Ex rs ds j' (t + 1) := by
  obtain ⟨h1, h2, h3, h | h⟩ := h
  · obtain ⟨a, b, c, d, e⟩ := h
    subst h1 h2
    have hk := hF.2 j.k b
    have hs := psum_succ j.ds j.k (by rw [hF.1]; exact b)
    have hle := psum_le hF (j.rs.length - (j.k + 1)) (j.k + 1) (by omega)
    rw [show j.k + 1 + (j.rs.length - (j.k + 1)) = j.rs.length from by omega] at hle
    have hl : j.k + 1 = j.rs.length := by omega
    exact ⟨_, _, tick_done a (by omega) hl, ⟨rfl, rfl, by simp; omega, .inr ⟨rfl, hl, rfl, ht⟩⟩⟩
  · omega
theorem ex_facts {rs ds : List Int} (hF : Fit rs ds) (h8 : rs.length ≤ 8) {j : Jb} {t : Int} (h : Ex rs ds j t) :
    (j.how = 0 → j.k < j.rs.length) ∧ j.rs.length ≤ 8 ∧ 0 ≤ j.had ∧ j.had ≤ 1000000 ∧ 0 ≤ j.all ∧ j.all ≤ 1000000 := by
  obtain ⟨h1, h2, h3, h⟩ := h
  rw [h1, h3]
  rcases h with ⟨a, b, c, d, e⟩ | ⟨a, b, c, e⟩
  · have := psum_big hF j.k (by omega)
    have := psum_nn hF j.k (by omega)
    have := hF.2 j.k b
    exact ⟨fun _ => b, h8, c, by omega, by omega, by omega⟩
  · have := psum_big hF rs.length (Nat.le_refl _)
    have := psum_nn hF rs.length (Nat.le_refl _)
    exact ⟨fun h => by omega, h8, by omega, by omega, by omega, by omega⟩

theorem dems_getD (rs dm : List Int) (i : Nat) (h : i < rs.length) : (dems rs dm).getD i 0 = dmd dm i := by
  simp [dems, List.getD, h]

theorem row_open {w : World} {a : Option Addr} {len cap : Nat} {z : List Int} (h : IsRow .i64 w a len cap z) :
    ∃ zs : List Int, zs.length = len ∧ Nums w a zs := by
  rcases h with ⟨rfl, rfl, rfl, rfl⟩ | ⟨⟨b, off, spot⟩, rfl, hl, hm, hz, hcell, hwz⟩
  · exact ⟨[], rfl, .inl rfl⟩
  · refine ⟨z.take len, by simp; omega, ?_⟩
    by_cases h0 : len = 0
    · left; simp [h0]
    · have hc := hcell 0 (by omega)
      have hspot : spot = none := by simpa [Addr.add] using World.cell?_spot hc
      subst hspot
      refine .inr ⟨b, off, rfl, World.block_lt_of_cell? w _ hc, fun i hi => ?_⟩
      have hi' : i < len := by simp at hi; omega
      have := hcell i (by omega)
      rw [add_none] at this
      rw [this]
      simp [List.getD, show i < z.length from by omega]

set_option maxHeartbeats 8000000 in
theorem walk (a0 : Option Addr) (len0 cap0 : Nat) (z0 : List Int) (a1 : Option Addr) (len1 cap1 : Nat) (z1 : List Int) (w : World) (w0 : IsRow .i64 w a0 len0 cap0 z0) (w1 : IsRow .i64 w a1 len1 cap1 z1) :
    Calls Try.prog 7 #[.slice a0 len0 cap0, .slice a1 len1 cap1] w fun e w' => e = .returned (.bool true) ∧ Below w.heap.size w w' := by
  obtain ⟨rs, rfl, hR⟩ := row_open w0
  obtain ⟨dm, rfl, hD⟩ := row_open w1
  clear w0 w1
  by_cases c1 : rs.length < 1
  · go_enter Try.func7, Try.ntmps7
    go_wp2
    go_ret
    exact ⟨rfl, Below.refl _ _⟩
  by_cases c2 : 8 < rs.length
  · go_enter Try.func7, Try.ntmps7
    go_wp2
    go_ret
    exact ⟨rfl, Below.refl _ _⟩
  by_cases c3 : dm.length = rs.length
  case neg =>
    have d3 : ((dm.length : Int) != (rs.length : Int)) = true := by rw [bne_iff_ne]; omega
    clear c3
    go_enter Try.func7, Try.ntmps7
    go_wp2
    go_ret
    exact ⟨rfl, Below.refl _ _⟩
  have H3 := Lib.hid c3
  rcases hR with hz | ⟨b0, o0, rfl, hb0, hc0⟩
  · rw [hz] at c1; simp at c1
  rcases hD with hz | ⟨b1, o1, rfl, hb1, hc1⟩
  · rw [hz] at c3; simp at c3; omega
  rw [c3]
  have HC0 := Lib.hid hc0
  have HC1 := Lib.hid hc1
  clear hc0 hc1 c3
  go_enter Try.func7, Try.ntmps7
  go_wp2_with fail
  go_loopw [5, 6] (fun x z wr => ∃ k : Nat, k ≤ rs.length ∧ z = .int .i64 k ∧ x = .int .i64 (psum (dems rs dm) k) ∧ (∀ i, i < k → 1 ≤ rs.getD i 0 ∧ rs.getD i 0 ≤ 60 ∧ dmd dm i ≤ rs.getD i 0) ∧ ∃ m, wr = w.drewN m) (fun _ z _ => rs.length - (intOf z).toNat)
  case atStart => exact ⟨0, Nat.zero_le _, rfl, by simp [psum], fun i h => by omega, 0, rfl⟩
  case round =>
    obtain ⟨k, hk, rfl, rfl, hall, m, rfl⟩ := hrel
    have HA := Lib.hid hall
    clear hall
    by_cases hlt : k < rs.length
    · have q0 := HC0.out k hlt
      have q1 := HC1.out k (by rw [H3.out]; exact hlt)
      obtain ⟨r, hr⟩ : ∃ r, rs[k] = r := ⟨_, rfl⟩
      obtain ⟨d, hd⟩ : ∃ d, dm[k]'(by rw [H3.out]; exact hlt) = d := ⟨_, rfl⟩
      rw [hr] at q0
      rw [hd] at q1
      have gr : rs.getD k 0 = r := by rw [List.getD_eq_getElem?_getD, List.getElem?_eq_getElem hlt]; simpa using hr
      have gd : dmd dm k = max 1 d := by unfold dmd; rw [List.getD_eq_getElem?_getD, List.getElem?_eq_getElem (by rw [H3.out]; exact hlt)]; simp [hd]
      have i0 : (0 : Int) ≤ (k : Int) := by omega
      have i1 : (k : Int) < (rs.length : Int) := by omega
      have GR := Lib.hid gr
      have GD := Lib.hid gd
      clear hr hd gr gd
      by_cases t1 : r < 1
      · have e1 : decide (r < 1) = true := by simpa using t1
        go_wp2_with fail
        go_quiet (fail)
        go_wp2
        go_ret
        exact ⟨rfl, below_drewN (below_drewN (Below.refl _ _) _) _⟩
      have e1 : decide (r < 1) = false := by simpa using t1
      by_cases t2 : 60 < r
      · have e2 : decide (60 < r) = true := by simpa using t2
        go_wp2_with fail
        go_quiet (fail)
        go_wp2
        go_ret
        exact ⟨rfl, below_drewN (below_drewN (Below.refl _ _) _) _⟩
      have e2 : decide (60 < r) = false := by simpa using t2
      by_cases t3 : r < d
      · have e3 : decide (r < d) = true := by simpa using t3
        go_wp2_with fail
        go_quiet (fail)
        go_wp2
        go_ret
        exact ⟨rfl, below_drewN (below_drewN (Below.refl _ _) _) _⟩
      have e3 : decide (r < d) = false := by simpa using t3
      have hall' : ∀ i, i < k + 1 → 1 ≤ rs.getD i 0 ∧ rs.getD i 0 ≤ 60 ∧ dmd dm i ≤ rs.getD i 0 := by
        intro i hi
        by_cases hik : i = k
        · subst hik
          rw [GR.out, GD.out]
          omega
        · exact HA.out i (by omega)
      have hps := psum_succ (dems rs dm) k (by rw [dems_length]; exact hlt)
      rw [dems_getD rs dm k hlt, GD.out] at hps
      obtain ⟨s, hs⟩ : ∃ s, psum (dems rs dm) k = s := ⟨_, rfl⟩
      have hsb : 0 ≤ s ∧ s ≤ 60 * k := by
        rw [← hs]
        have : ∀ j, j ≤ k → 0 ≤ psum (dems rs dm) j ∧ psum (dems rs dm) j ≤ 60 * j := by
          intro j
          induction j with
          | zero => intro _; simp [psum]
          | succ j ih =>
            intro hj
            have h1 := ih (by omega)
            have h2 := psum_succ (dems rs dm) j (by rw [dems_length]; omega)
            rw [dems_getD rs dm j (by omega)] at h2
            have h3 := HA.out j (by omega)
            have h4 : 1 ≤ dmd dm j := by unfold dmd; omega
            omega
        exact this k (Nat.le_refl _)
      rw [hs] at hps ⊢
      have HPS := Lib.hid hps
      have HAL := Lib.hid hall'
      clear hps hs hall' HA
      by_cases t4 : d ≤ 1
      · go_wp2_with fail
        go_quiet (fail)
        go_wp2_with fail
        go_roundw
        case rel => exact ⟨k + 1, by omega, by go_num, by rw [HPS.out]; first | (congr 1; omega) | (congr 2; omega), HAL.out, _, rfl⟩
        case measure => simp [intOf]; omega
      · have t5 : 1 < d := by omega
        go_wp2_with fail
        go_quiet (fail)
        go_wp2_with fail
        go_roundw
        case rel => exact ⟨k + 1, by omega, by go_num, by rw [HPS.out]; first | (congr 1; omega) | (congr 2; omega), HAL.out, _, rfl⟩
        case measure => simp [intOf]; omega
    · obtain rfl : k = rs.length := by omega
      have hF : Fit rs (dems rs dm) := ⟨dems_length rs dm, fun i hi => by
        rw [dems_getD rs dm i hi]
        have := HA.out i hi
        have h4 : 1 ≤ dmd dm i := by unfold dmd; omega
        omega⟩
      have hO : rs.any odd = false := by
        rw [List.any_eq_false]
        intro x hx
        obtain ⟨i, hi, rfl⟩ := List.getElem_of_mem hx
        have := HA.out i hi
        rw [List.getD_eq_getElem?_getD, List.getElem?_eq_getElem hi] at this
        simp only [Option.getD_some] at this
        simp [odd]; omega
      have hX : Ex rs (dems rs dm) (jb0 rs dm) 0 := by
        have := hF.2 0 (by omega)
        exact ⟨rfl, rfl, rfl, .inl ⟨rfl, by simp [jb0]; omega, by simp [jb0], by simp only [jb0]; omega, by simp [jb0, psum]⟩⟩
      have hN := new_yes (some ⟨b0, o0, none⟩) (some ⟨b1, o1, none⟩) cap0 cap1 rs dm (w.drewN m) (.inr ⟨b0, o0, rfl, hb0, fun i hi => HC0.out i hi⟩) (.inr ⟨b1, o1, rfl, hb1, fun i hi => HC1.out i hi⟩) (by omega) (by omega) hO
      rw [H3.out] at hN
      have hsz := psum_big hF rs.length (Nat.le_refl _)
      have hsn : 1 ≤ psum (dems rs dm) rs.length := by
        have := psum_le hF rs.length 0 (by omega)
        simp [psum] at this ⊢
        omega
      obtain ⟨S, hS⟩ : ∃ S : Nat, psum (dems rs dm) rs.length = S := ⟨(psum (dems rs dm) rs.length).toNat, by omega⟩
      have HS := Lib.hid hS
      rw [hS] at hsz hsn ⊢
      have s1 : 1 ≤ S := by omega
      have s2 : S ≤ 480 := by omega
      have HF := Lib.hid hF
      have HX := Lib.hid hX
      clear hS hF hX hO HA hsz hsn
      go_wp2_with fail
      refine hN.mono ?_
      rintro e w1 ⟨p, a, ca, b, cb, rfl, hJ0, k0, hp⟩
      have hp : w.heap.size ≤ p := hp
      have k1 : Below w.heap.size w w1 := (below_drewN (Below.refl _ _) _).trans k0
      have HJ0 := Lib.hid hJ0
      clear hN k0 hJ0
      go_wp2_with fail
      go_loopw [8, 9] (fun x z wr => ∃ (t : Nat) (j : Jb), t ≤ S ∧ z = .int .i64 t ∧ (∃ e : Int, x = .int .i64 e) ∧ JobAt wr w.heap.size p a ca b cb j ∧ Ex rs (dems rs dm) j t ∧ Below w.heap.size w wr) (fun _ z _ => S - (intOf z).toNat)
      case atStart => exact ⟨0, _, Nat.zero_le _, rfl, ⟨_, rfl⟩, HJ0.out, HX.out, k1⟩
      case round =>
        obtain ⟨t, j, ht, rfl, ⟨e0, rfl⟩, hJ, hE, hW⟩ := hrel
        clear HJ0 HX k1
        obtain ⟨x1, x2, x3, x4, x5, x6⟩ := ex_facts HF.out (by omega) hE
        have hS := step_any wr hJ x1 x2 x3 x4 x5 x6
        by_cases hlt : t < S
        · by_cases hlast : t + 1 < S
          · obtain ⟨j', r, e, htk, hE', he⟩ := ex_on HF.out hE (by rw [HS.out]; omega)
            rw [htk] at hS
            clear htk hE x1 x2 x3 x4 x5 x6
            have HE := Lib.hid hE'
            clear hE'
            go_wp2_with fail
            refine hS.mono ?_
            rintro _ w2 ⟨rfl, hJ2, g2⟩
            have hW2 := below_only hW (Nat.le_refl _) g2 (fun k e => by injection e with e; omega)
            have HJ2 := Lib.hid hJ2
            clear hS hJ hW g2 hJ2
            have n1 : ((t : Int) == (S : Int) - 1) = false := by rw [beq_eq_false_iff_ne]; omega
            have n2 : IntKind.i64.wrap ((S : Int) - 1) = (S : Int) - 1 := IntWalk.i64_in _ (by omega)
            rcases he with rfl | rfl
            · go_wp2_with fail
              go_roundw
              case rel => exact ⟨t + 1, j', by omega, by go_num, ⟨_, rfl⟩, HJ2.out, HE.out, hW2⟩
              case measure => simp only [intOf]; omega
            · go_wp2_with fail
              go_roundw
              case rel => exact ⟨t + 1, j', by omega, by go_num, ⟨_, rfl⟩, HJ2.out, HE.out, hW2⟩
              case measure => simp only [intOf]; omega
          · have l1 : S ≤ t + 1 := by omega
            have n1 : ((t : Int) == (S : Int) - 1) = true := by rw [beq_iff_eq]; omega
            have n2 : IntKind.i64.wrap ((S : Int) - 1) = (S : Int) - 1 := IntWalk.i64_in _ (by omega)
            obtain ⟨j', r, htk, hE'⟩ := ex_done HF.out hE (by rw [HS.out]; omega)
            rw [htk] at hS
            clear htk hE x1 x2 x3 x4 x5 x6
            have HE := Lib.hid hE'
            clear hE'
            go_wp2_with fail
            refine hS.mono ?_
            rintro _ w2 ⟨rfl, hJ2, g2⟩
            have hW2 := below_only hW (Nat.le_refl _) g2 (fun k e => by injection e with e; omega)
            have HJ2 := Lib.hid hJ2
            clear hS hJ hW g2 hJ2
            go_wp2_with fail
            go_roundw
            case rel => exact ⟨t + 1, j', by omega, by go_num, ⟨_, rfl⟩, HJ2.out, HE.out, hW2⟩
            case measure => simp only [intOf]; omega
        · obtain rfl : t = S := by omega
          obtain ⟨h1, h2, h3, h4⟩ := hE
          have h5 : j.how = 2 ∧ j.k = rs.length := by
            rcases h4 with ⟨p1, p2, p3, p4, p5⟩ | ⟨p1, p2, p3, p4⟩
            · have e1 := HS.out
              have e2 := psum_le HF.out (rs.length - (j.k + 1)) (j.k + 1) (by omega)
              rw [show j.k + 1 + (rs.length - (j.k + 1)) = rs.length from by omega, psum_succ _ _ (by rw [dems_length]; exact p2)] at e2
              omega
            · exact ⟨p1, p2⟩
          obtain ⟨h5, h6⟩ := h5
          have htk : tick j = (j, -1, 2) := by rw [tick, if_pos (by omega), h5]
          rw [htk] at hS
          have H3' := Lib.hid h3
          have H6' := Lib.hid h6
          clear h1 h2 h3 h4 h5 h6 htk x1 x2 x3 x4 x5 x6
          go_wp2_with fail
          refine hS.mono ?_
          rintro _ w2 ⟨rfl, hJ2, g2⟩
          have hW2 := below_only hW (Nat.le_refl _) g2 (fun k e => by injection e with e; omega)
          clear hS hJ hW g2
          go_wp2_with fail
          refine (step_nil w2).mono ?_
          rintro _ _ ⟨rfl, rfl⟩
          go_wp2_with fail
          refine (ticks_any w2 hJ2).mono ?_
          rintro _ _ ⟨rfl, rfl⟩
          rw [H3'.out]
          go_wp2_with fail
          refine (region_any w2 hJ2).mono ?_
          rintro _ _ ⟨rfl, rfl⟩
          rw [H6'.out]
          go_wp2_with fail
          refine (mid_nil w2).mono ?_
          rintro _ _ ⟨rfl, rfl⟩
          go_wp2_with fail
          refine (region_nil w2).mono ?_
          rintro _ _ ⟨rfl, rfl⟩
          go_wp2_with fail
          refine (ticks_nil w2).mono ?_
          rintro _ _ ⟨rfl, rfl⟩
          go_wp2_with fail
          refine (known_any w2).mono ?_
          rintro e w4 ⟨rfl, b4⟩
          go_wp2
          go_ret
          exact ⟨rfl, hW2.trans (b4.mono hW2.size)⟩

/-! ### The row's step -/
set_option linter.unusedVariables false in
set_option maxRecDepth 100000 in
theorem lifted (os : Os) (started : os.Started) (H : Type) (enc : TypeId × Value → H) :
    ReturnsInHanded {} Try.checked os 7 .any (Rows.jobExactSpec.pre6 enc Try.prog Try.f7 Rows.jobExactRow.domain false) (Rows.jobExactSpec.post enc Try.prog Try.f7 false true false false) := by
  refine returnsInHanded_of_change (C := Try.checked) own started (by kernel_rfl) Try.func7
    (ChangeSpec.witness6 (enc := enc) (C := Try.checked) false ⟨#[], #[.slice none 0 0, .slice none 0 0], []⟩ 8 (by kernel_rfl) (by kernel_rfl) (by kernel_rfl) (by kernel_rfl)) ?_
  intro W base args ds gs before hval0 hW hcnd _
  have hval : ∀ (j : Nat) t v, Try.f7.params[j]? = some t → args[j]? = some v → Value.okWide Try.prog W .any base t v := hval0
  have hW' := hW
  obtain ⟨p, q, hA0, hV, rfl, hfz, hnd⟩ := hW
  have hA : DataW.TrodAll enc Try.prog W 0 (fun _ => true) true Try.f7.params.toList args.toList ds p := hA0
  rw [Try.params7] at hA hval
  obtain ⟨v0, vs0, d0, ds0, p0, q0, hargs, rfl, rfl, h0, r0⟩ := trodAll_cons hA
  obtain ⟨v1, vs1, d1, ds1, p1, q1, rfl, rfl, rfl, h1, r1⟩ := trodAll_cons r0
  obtain ⟨rfl, rfl, rfl⟩ := trodAll_nil r1
  obtain rfl : args = #[v0, v1] := by cases args; simp_all
  obtain ⟨rfl, rfl⟩ := trodVars_none hV
  obtain ⟨a0, len0, cap0, rfl⟩ := okWide_slice Try.underlying22 (hval 0 22 v0 rfl rfl)
  have k0 := h0
  have lt0 : ∀ x ∈ p0, x.block < W.heap.size := by obtain ⟨m, hm⟩ := k0; exact DataW.trod_lt m _ _ _ hm
  obtain ⟨z0, w0⟩ : ∃ zs, IsRow .i64 W a0 len0 cap0 zs := by
    obtain ⟨fuel, hf⟩ := h0
    rcases open_ints Try.underlying22 Try.underlying2 (by kernel_rfl) hf with ⟨hcs, _⟩ | ⟨x, l, c, zs, hcs, _, hl, hm, hz, _, hcell, hwz⟩
    · simp [Value.cells] at hcs
      obtain ⟨rfl, rfl, rfl⟩ := hcs
      exact ⟨[], .inl ⟨rfl, rfl, rfl, rfl⟩⟩
    · simp [Value.cells] at hcs
      obtain ⟨rfl, rfl, rfl⟩ := hcs
      exact ⟨zs, .inr ⟨_, rfl, hl, hm, by simpa using hz, hcell, hwz⟩⟩
  obtain ⟨a1, len1, cap1, rfl⟩ := okWide_slice Try.underlying22 (hval 1 22 v1 rfl rfl)
  have k1 := h1
  have lt1 : ∀ x ∈ p1, x.block < W.heap.size := by obtain ⟨m, hm⟩ := k1; exact DataW.trod_lt m _ _ _ hm
  obtain ⟨z1, w1⟩ : ∃ zs, IsRow .i64 W a1 len1 cap1 zs := by
    obtain ⟨fuel, hf⟩ := h1
    rcases open_ints Try.underlying22 Try.underlying2 (by kernel_rfl) hf with ⟨hcs, _⟩ | ⟨x, l, c, zs, hcs, _, hl, hm, hz, _, hcell, hwz⟩
    · simp [Value.cells] at hcs
      obtain ⟨rfl, rfl, rfl⟩ := hcs
      exact ⟨[], .inl ⟨rfl, rfl, rfl, rfl⟩⟩
    · simp [Value.cells] at hcs
      obtain ⟨rfl, rfl, rfl⟩ := hcs
      exact ⟨zs, .inr ⟨_, rfl, hl, hm, by simpa using hz, hcell, hwz⟩⟩
  clear hA0 hval0
  refine (walk a0 len0 cap0 z0 a1 len1 cap1 z1 W w0 w1).mono fun e W' ⟨he, bel⟩ => ?_
  subst he
  exact ⟨_, rfl, _, _, _, [], _, [], hW', trodAll_mk1 (shut_bool Try.underlying4 _), (trodAll_cons_mk (Below.trod laidOut (by kernel_rfl) (of_decide_eq_true (by kernel_rfl)) k0 bel lt0) (trodAll_cons_mk (Below.trod laidOut (by kernel_rfl) (of_decide_eq_true (by kernel_rfl)) k1 bel lt1) trodAll_mk0)), rfl, bel.frame _, fun h => by cases h⟩

theorem over : Rows.jobExactRow.holds Try.pinned (OpenSpec.ofChange Rows.jobExactSpec) :=
  OpenClaim.holds_of_wide 7 Try.f7 rfl rfl rfl rfl rfl rfl rfl ⟨rfl, rfl, rfl, rfl, rfl⟩ rfl rfl rfl rfl rfl (by kernel_rfl) Try.func7 (by kernel_rfl)
    (of_decide_eq_true (by kernel_rfl)) (by unfold Func.isWrapper; first | (rw [if_pos (by decide +kernel)]; kernel_rfl) | (rw [if_neg (by decide +kernel)]; exact ⟨rfl, rfl⟩))
    (fun os started H enc _ => lifted os started H enc)

/-- The statement. -/
theorem proved : Rows.JobExactSaid := over
end Go.Proofs.Ytdamkcneecoimaa.jobExact
