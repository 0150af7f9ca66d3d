/- What the reference's New, Step and Mid come to. -/
import Derived.Test.YtdamkcneecoimaaReg
namespace Go.Proofs.Ytdamkcneecoimaa
open Go.RowKit

/-- The reference's job at block p; its regions' and its demands' rows at blocks a and b. -/
structure RJobAt (w : World) (base p a ca b cb : Nat) (j : Jb) : Prop where
  hd : Blk w p 40 (jcells j a ca b cb)
  rs : w.ownsRow base 2 1 (.slice (some ⟨a, 0, none⟩) j.rs.length ca) j.rs.length (ints j.rs)
  ds : w.ownsRow base 2 1 (.slice (some ⟨b, 0, none⟩) j.rs.length cb) j.rs.length (ints j.ds)
  same : j.ds.length = j.rs.length
  ap : a ≠ p
  bp : b ≠ p

section
variable {w w' : World} {base p a ca b cb : Nat} {j : Jb}
theorem RJobAt.keep {row : Option Nat} (h : RJobAt w base p a ca b cb j) (hg : w.grownBy w' row) (h1 : some p ≠ row) (h2 : some a ≠ row) (h3 : some b ≠ row) : RJobAt w' base p a ca b cb j :=
  ⟨h.hd.grown hg h1, own_keep h.rs hg (.inr (by simpa [Value.ownBlock] using h2)), own_keep h.ds hg (.inr (by simpa [Value.ownBlock] using h3)), h.same, h.ap, h.bp⟩
theorem RJobAt.drewN (h : RJobAt w base p a ca b cb j) (n : Nat) : RJobAt (w.drewN n) base p a ca b cb j := ⟨h.hd, h.rs, h.ds, h.same, h.ap, h.bp⟩
theorem RJobAt.drew (h : RJobAt w base p a ca b cb j) : RJobAt w.drew base p a ca b cb j := ⟨h.hd, h.rs, h.ds, h.same, h.ap, h.bp⟩
theorem RJobAt.below (h : RJobAt w base p a ca b cb j) (hb : Below w.heap.size w w') : RJobAt w' base p a ca b cb j := h.keep (only_of_below hb none) (by simp) (by simp) (by simp)
theorem RJobAt.lt (h : RJobAt w base p a ca b cb j) : p < w.heap.size := h.hd.lt
theorem RJobAt.cr (h : RJobAt w base p a ca b cb j) {i : Nat} (hi : i < j.rs.length) : w.cell? ⟨a, i, none⟩ = some (.int .i64 (j.rs.getD i 0)) := by
  rw [own_cell h.rs i hi]; simp [ints, hi, List.getD]
theorem RJobAt.cd (h : RJobAt w base p a ca b cb j) {i : Nat} (hi : i < j.rs.length) : w.cell? ⟨b, i, none⟩ = some (.int .i64 (j.ds.getD i 0)) := by
  have hi' : i < j.ds.length := by rw [h.same]; exact hi
  rw [own_cell h.ds i hi]; simp [ints, hi', List.getD]
/-- The job's own block has turned. -/
theorem RJobAt.turn (h : RJobAt w base p a ca b cb j) (hg : w.grownBy w' (some p)) {k : Nat} {had all how : Int}
    (hb : Blk w' p 40 #[.slice (some ⟨a, 0, none⟩) j.rs.length ca, .slice (some ⟨b, 0, none⟩) j.rs.length cb, .int .i64 k, .int .i64 had, .int .i64 all, .int .i64 how]) :
    RJobAt w' base p a ca b cb ⟨j.rs, j.ds, k, had, all, how⟩ :=
  ⟨hb, own_keep h.rs hg (.inr (by simpa [Value.ownBlock] using h.ap)), own_keep h.ds hg (.inr (by simpa [Value.ownBlock] using h.bp)), h.same, h.ap, h.bp⟩
end


theorem rnew_len (A A' : Option Addr) (c c' m : Nat) (rs : List Int) (w : World) (ho : rs.length < 1 ∨ 8 < rs.length) :
    Calls Try.prog 13 #[.slice A rs.length c, .slice A' m c'] w fun e w' => e = .returned (.pointer none) ∧ w = w' := by
  by_cases h1 : rs.length < 1
  · clear ho
    go_enter Try.func13, Try.ntmps13
    go_wp2_with fail
    go_ret
    exact ⟨rfl, rfl⟩
  · have h8 : 8 < rs.length := by omega
    clear ho
    go_enter Try.func13, Try.ntmps13
    go_wp2_with fail
    go_ret
    exact ⟨rfl, rfl⟩

/-- The reference's job that is being made, with the first k regions and demands. -/
structure RMk (w wr : World) (v u : Value) (k : Nat) (xs ys : List Int) : Prop where
  hd : Blk wr w.heap.size 40 (rcells v u)
  rs : wr.ownsRow (w.heap.size + 1) 2 1 v k (ints xs)
  ds : wr.ownsRow (w.heap.size + 1) 2 1 u k (ints ys)
  ne : ∀ q, v.ownBlock = some q → u.ownBlock ≠ some q
  b : Below w.heap.size w wr

theorem RMk.two {w wr : World} {v u : Value} {k b o : Nat} {xs ys : List Int} {x : Value} (h : RMk w wr v u k xs ys) (hb : b < w.heap.size) (hx : wr.cell? ⟨b, o, none⟩ = some x) :
    Two wr wr (w.heap.size + 1) w.heap.size b o x v u v u k k (ints xs) (ints ys) :=
  ⟨h.hd, h.rs, h.ds, h.ne, hx, by omega, h.hd.lt, fun _ _ q _ _ => q, Nat.le_refl _⟩
theorem RMk.next {w wr w' : World} {v u : Value} {k b o g1 m1 g2 m2 : Nat} {xs ys : List Value} {xs' ys' : List Int} {x : Value} (h : Below w.heap.size w wr)
    (t : Two wr w' (w.heap.size + 1) w.heap.size b o x v u (.slice (some ⟨g1, 0, none⟩) (k + 1) m1) (.slice (some ⟨g2, 0, none⟩) (k + 1) m2) (k + 1) (k + 1) xs ys) (hx : xs = ints xs') (hy : ys = ints ys') :
    RMk w ((w'.setCell ⟨w.heap.size, 0, none⟩ (.slice (some ⟨g1, 0, none⟩) (k + 1) m1)).setCell ⟨w.heap.size, 1, none⟩ (.slice (some ⟨g2, 0, none⟩) (k + 1) m2)) (.slice (some ⟨g1, 0, none⟩) (k + 1) m1) (.slice (some ⟨g2, 0, none⟩) (k + 1) m2) (k + 1) xs' ys' := by
  subst hx hy
  have f1 : (Value.slice (some ⟨g1, 0, none⟩) (k + 1) m1).ownBlock ≠ some w.heap.size := by
    intro e
    have := base_le t.rs e
    omega
  have f2 : (Value.slice (some ⟨g2, 0, none⟩) (k + 1) m2).ownBlock ≠ some w.heap.size := by
    intro e
    have := base_le t.ds e
    omega
  exact ⟨(t.hd.set_ 0 _).set_ 1 _, own_far (o := 1) (own_far (o := 0) t.rs f1 _) f1 _, own_far (o := 1) (own_far (o := 0) t.ds f2 _) f2 _, t.ne,
    ((t.b _ _ h (by omega) h.size).setCell (p := ⟨w.heap.size, 0, none⟩) (Nat.le_refl _) _).setCell (p := ⟨w.heap.size, 1, none⟩) (Nat.le_refl _) _⟩
theorem take_ints (rs : List Int) (k : Nat) (x : Int) (h : k < rs.length) (hx : rs[k] = x) : ints (rs.take k) ++ [.int .i64 x] = ints (rs.take (k + 1)) := by
  rw [List.take_succ_eq_append_getElem h, ints_snoc, hx]
theorem take_dems (rs dm : List Int) (k : Nat) (d : Int) (h : k < rs.length) (hd : dmd dm k = d) : ints ((dems rs dm).take k) ++ [.int .i64 d] = ints ((dems rs dm).take (k + 1)) := by
  rw [dems_snoc rs dm k h, ints_snoc, hd]

/-- The round's way once the demand is known. -/
def NewPost (w : World) (rs dm : List Int) (e : Ending) (w' : World) : Prop := (rs.any odd = true ∧ e = .returned (.pointer none) ∧ Below w.heap.size w w') ∨
      (rs.any odd = false ∧ ∃ a ca b cb, e = .returned (.pointer (some ⟨w.heap.size, 0, none⟩)) ∧ RJobAt w' w.heap.size w.heap.size a ca b cb (jb0 rs dm) ∧ Below w.heap.size w w')

set_option maxHeartbeats 8000000 in
theorem rnew_any (A A' : Option Addr) (c c' : Nat) (rs dm : List Int) (w : World) (h : Nums w A rs) (h' : Nums w A' dm) (h0 : 0 < rs.length) (h8 : rs.length ≤ 8) :
    Calls Try.prog 13 #[.slice A rs.length c, .slice A' dm.length c'] w (NewPost w rs dm) := by
  obtain ⟨i0, hi0, hz0, hz1, hz2⟩ := info_parts Try.info2
  have Hz0 := Lib.hid hz0; clear hz0
  have Hz1 := Lib.hid hz1; clear hz1
  have Hz2 := Lib.hid hz2; clear hz2
  have Hi := Lib.hid hi0; clear hi0
  rcases h with hz | ⟨b, off, rfl, hb, hc⟩
  · rw [hz] at h0; simp at h0
  have HC := Lib.hid hc
  clear hc
  go_enter Try.func13, Try.ntmps13
  go_wp2_with fail
  go_loopw [6] (fun z wr => ∃ (k : Nat) (v u : Value), k ≤ rs.length ∧ z = .int .i64 k ∧ (∀ j (h : j < rs.length), j < k → odd rs[j] = false) ∧ RMk w wr v u k (rs.take k) ((dems rs dm).take k)) (fun z _ => rs.length - (intOf z).toNat)
  case atStart =>
    refine ⟨0, .slice none 0 0, .slice none 0 0, Nat.zero_le _, rfl, fun j h h' => by omega, ⟨Blk.new w 40 _, ?_, ?_, fun q e => by simp [Value.ownBlock] at e, (Below.refl _ _).alloc (Nat.le_refl _) _⟩⟩
    · simpa [ints] using World.ownsRow_nil _ _ _ _
    · simpa [ints] using World.ownsRow_nil _ _ _ _
  case round =>
    obtain ⟨k, v, u, hk, rfl, hodd, hM⟩ := hrel
    have Hodd := Lib.hid hodd
    clear hodd
    by_cases hlt : k < rs.length
    · have c0 := (hM.b.cell hb).trans (HC.out k hlt)
      obtain ⟨x, hx⟩ : ∃ x, rs[k] = x := ⟨_, rfl⟩
      rw [hx] at c0
      by_cases ho : odd x = true
      · have hA : rs.any odd = true := List.any_eq_true.2 ⟨rs[k], List.getElem_mem hlt, by rw [hx]; exact ho⟩
        have HA := Lib.hid hA
        have hb2 := hM.b
        clear hx hA hM
        by_cases ho1 : x < 1
        · clear ho
          go_wp2_with fail
          go_ret
          exact .inl ⟨HA.out, rfl, hb2⟩
        · have ho2 : 10000 < x := by
            rw [odd] at ho
            simp at ho
            omega
          clear ho
          go_wp2_with fail
          go_ret
          exact .inl ⟨HA.out, rfl, hb2⟩
      · have ho1 : ¬ x < 1 := by intro hh; apply ho; simp [odd, hh]
        have ho2 : ¬ 10000 < x := by intro hh; apply ho; simp [odd, hh]
        have hodd2 : ∀ j (h : j < rs.length), j < k + 1 → odd rs[j] = false := by
          intro j hj hj2
          by_cases hjk : j = k
          · subst hjk
            rw [hx]
            simpa using ho
          · exact Hodd.out j hj (by omega)
        have HO := Lib.hid hodd2
        have hxs : ∀ d, dmd dm k = d → ints (rs.take k) ++ [.int .i64 x] = ints (rs.take (k + 1)) ∧ ints ((dems rs dm).take k) ++ [.int .i64 d] = ints ((dems rs dm).take (k + 1)) :=
          fun d hd => ⟨take_ints rs k x hlt hx, take_dems rs dm k d hlt hd⟩
        have HXS := Lib.hid hxs
        have T0 := hM.two hb c0
        have HT := Lib.hid T0
        have HB := Lib.hid hM.b
        have hW := hM.b
        clear ho hx Hodd hodd2 hxs T0 hM
        by_cases hkd : k < dm.length
        · rcases h'.below hW with hz | ⟨b2, off2, rfl, hb2, hc2⟩
          · rw [hz] at hkd; simp at hkd
          have d1 := hc2 k hkd
          obtain ⟨y, hy⟩ : ∃ y, dm[k] = y := ⟨_, rfl⟩
          rw [hy] at d1
          have hg : dm.getD k 1 = y := by rw [List.getD_eq_getElem?_getD, List.getElem?_eq_getElem hkd]; simpa using hy
          clear hc2 hy h'
          by_cases hm : y ≤ 1
          · have hdd : dmd dm k = 1 := by unfold dmd; rw [hg]; omega
            have HN := HXS.out _ hdd
            have HDD := Lib.hid HN
            clear hdd HN hg
            go_wp2_with fail
            refine late_region (d := 1) (fun _ _ _ _ _ h => h) i0 Hi.out Hz0.out Hz1.out Hz2.out HT.out hlt h8 ?_ (by kernel_rfl)
            intro g1 m1 g2 m2 w2 T2 s46 s47 s48 s49 s50 s51 s52 s53 s54 s55 s56 s57 s58 s59 s60 s61 s62 s63 s64 s65 s66 s67 s68
            have N := RMk.next HB.out T2 HDD.out.1 HDD.out.2
            obtain ⟨w3, hw3⟩ : ∃ w3, (w2.setCell ⟨w.heap.size, 0, none⟩ (.slice (some ⟨g1, 0, none⟩) (k + 1) m1)).setCell ⟨w.heap.size, 1, none⟩ (.slice (some ⟨g2, 0, none⟩) (k + 1) m2) = w3 := ⟨_, rfl⟩
            rw [hw3] at N ⊢
            have HN := Lib.hid N
            clear N T2 hw3 HT HB
            go_wp2_with fail
            go_roundw
            case rel => exact ⟨k + 1, _, _, by omega, by go_num, HO.out, HN.out⟩
            case measure => simp [intOf]; omega
          · have hm2 : 1 < y := by omega
            clear hm
            have hdd : dmd dm k = y := by unfold dmd; rw [hg]; omega
            have HN := HXS.out _ hdd
            have HDD := Lib.hid HN
            clear hdd HN hg
            go_wp2_with fail
            refine late_region (d := y) (fun _ _ _ _ _ h => h) i0 Hi.out Hz0.out Hz1.out Hz2.out HT.out hlt h8 ?_ (by kernel_rfl)
            intro g1 m1 g2 m2 w2 T2 s46 s47 s48 s49 s50 s51 s52 s53 s54 s55 s56 s57 s58 s59 s60 s61 s62 s63 s64 s65 s66 s67 s68
            have N := RMk.next HB.out T2 HDD.out.1 HDD.out.2
            obtain ⟨w3, hw3⟩ : ∃ w3, (w2.setCell ⟨w.heap.size, 0, none⟩ (.slice (some ⟨g1, 0, none⟩) (k + 1) m1)).setCell ⟨w.heap.size, 1, none⟩ (.slice (some ⟨g2, 0, none⟩) (k + 1) m2) = w3 := ⟨_, rfl⟩
            rw [hw3] at N ⊢
            have HN := Lib.hid N
            clear N T2 hw3 HT HB
            go_wp2_with fail
            go_roundw
            case rel => exact ⟨k + 1, _, _, by omega, by go_num, HO.out, HN.out⟩
            case measure => simp [intOf]; omega
        · have hdd : dmd dm k = 1 := by unfold dmd; rw [List.getD_eq_getElem?_getD, List.getElem?_eq_none (by omega)]; rfl
          have HN := HXS.out _ hdd
          have HDD := Lib.hid HN
          clear hdd HN h'
          go_wp2_with fail
          refine late_region (d := 1) (fun _ _ _ _ _ h => h) i0 Hi.out Hz0.out Hz1.out Hz2.out HT.out hlt h8 ?_ (by kernel_rfl)
          intro g1 m1 g2 m2 w2 T2 s46 s47 s48 s49 s50 s51 s52 s53 s54 s55 s56 s57 s58 s59 s60 s61 s62 s63 s64 s65 s66 s67 s68
          have N := RMk.next HB.out T2 HDD.out.1 HDD.out.2
          obtain ⟨w3, hw3⟩ : ∃ w3, (w2.setCell ⟨w.heap.size, 0, none⟩ (.slice (some ⟨g1, 0, none⟩) (k + 1) m1)).setCell ⟨w.heap.size, 1, none⟩ (.slice (some ⟨g2, 0, none⟩) (k + 1) m2) = w3 := ⟨_, rfl⟩
          rw [hw3] at N ⊢
          have HN := Lib.hid N
          clear N T2 hw3 HT HB
          go_wp2_with fail
          go_roundw
          case rel => exact ⟨k + 1, _, _, by omega, by go_num, HO.out, HN.out⟩
          case measure => simp [intOf]; omega
    · obtain rfl : k = rs.length := by omega
      have hO : rs.any odd = false := by
        rw [List.any_eq_false]
        intro x hx
        obtain ⟨i, hi, rfl⟩ := List.getElem_of_mem hx
        have := Hodd.out i hi hi
        simp [this]
      have ht : (dems rs dm).take rs.length = dems rs dm := by rw [List.take_of_length_le (by rw [dems_length]; exact Nat.le_refl _)]
      rw [ht, List.take_length] at hM
      have o1 := hM.rs
      have o2 := hM.ds
      obtain ⟨a, ca, rfl⟩ : ∃ a ca, v = .slice (some ⟨a, 0, none⟩) rs.length ca := by
        rcases o1.2 with ⟨_, h⟩ | ⟨g, cap, _, h, _⟩
        · omega
        · exact ⟨g, cap, h⟩
      obtain ⟨b', cb, rfl⟩ : ∃ b cb, u = .slice (some ⟨b, 0, none⟩) rs.length cb := by
        rcases o2.2 with ⟨_, h⟩ | ⟨g, cap, _, h, _⟩
        · omega
        · exact ⟨g, cap, h⟩
      have l1 : w.heap.size + 1 ≤ a := base_le o1 rfl
      have l2 : w.heap.size + 1 ≤ b' := base_le o2 rfl
      have low : ∀ {v xs}, wr.ownsRow (w.heap.size + 1) 2 1 v rs.length xs → wr.ownsRow w.heap.size 2 1 v rs.length xs := by
        intro v xs ⟨q1, q2⟩
        refine ⟨q1, ?_⟩
        rcases q2 with q2 | ⟨g, cap, cur, e, hg, rest⟩
        · exact .inl q2
        · exact .inr ⟨g, cap, cur, e, by omega, rest⟩
      have J : RJobAt wr w.heap.size w.heap.size a ca b' cb (jb0 rs dm) := ⟨hM.hd, low o1, low o2, dems_length rs dm, by omega, by omega⟩
      have HJ := Lib.hid J
      have hW := hM.b
      have HO := Lib.hid hO
      clear J hM o1 o2 hO ht low Hodd
      go_wp2_with fail
      go_ret
      exact .inr ⟨HO.out, _, _, _, _, rfl, HJ.out, hW⟩
end Go.Proofs.Ytdamkcneecoimaa
