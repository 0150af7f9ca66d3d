/- What the reference's Note and New come to. -/
import Derived.Test.YtggoflcphalnpaaReg
import Derived.Deep.RegionLaw
namespace Go.Proofs.Ytggoflcphalnpaa
open Go.RowKit

theorem rnote_out {base p : Nat} {v u : Value} {L : List Wt} (i t : Int) (hi : i < 0 ∨ (L.length : Int) ≤ i) (w : World) (h : RPol w base p v u L) :
    Calls Try.prog 11 #[.pointer (some ⟨p, 0, none⟩), .int .i64 i, .int .i64 t] w fun e w' => e = .returned (.bool (noteOk L i t)) ∧ w = w' := by
  rw [noteOk_out hi]
  have H := Lib.hid hi
  clear hi
  go_enter Try.func11, Try.ntmps11
  go_wp2_with (go_at_call 16; refine (is_out i H.out _ h).mono ?_; rintro e w' ⟨rfl, rfl⟩)
  go_ret
  exact ⟨rfl, rfl⟩

set_option maxHeartbeats 1000000 in
theorem rnote_in {base p a ca b cb : Nat} {L : List Wt} (n : Nat) (t : Int) (hn : n < L.length) (hL : OkL L) (h0 : -9223372036854775808 ≤ t) (h1 : t ≤ 9223372036854775807) (w : World) (h : RAt w base p a ca b cb L) :
    Calls Try.prog 11 #[.pointer (some ⟨p, 0, none⟩), .int .i64 n, .int .i64 t] w fun e w' =>
      e = .returned (.bool (noteOk L n t)) ∧ RAt w' base p a ca b cb (noteL L n t) ∧ w.grownBy w' (some b) := by
  by_cases ht : t < 0
  · have e1 : noteOk L n t = false := by simp [noteOk, show ¬ 0 ≤ t from by omega]
    have e2 : noteL L n t = L := by simp [noteL, e1]
    rw [e1, e2]
    clear e1 e2
    go_enter Try.func11, Try.ntmps11
    go_wp2_with (go_at_call 16; refine (is_in n hn _ h).mono ?_; rintro e w' ⟨rfl, rfl⟩)
    go_ret
    exact ⟨rfl, h, World.grownBy.refl _ _⟩
  · have hE := fun W h => rearly_in (base := base) (p := p) (a := a) (ca := ca) (b := b) (cb := cb) (L := L) n t hn hL h0 h1 W h
    cases he : earlyL L n t with
    | true =>
      have e1 : noteOk L n t = false := by simp [noteOk, he]
      have e2 : noteL L n t = L := by simp [noteL, e1]
      rw [e1, e2]
      have HE := Lib.hid he
      clear e1 e2 he hL h0 h1
      go_enter Try.func11, Try.ntmps11
      go_wp2_with (first
        | (go_at_call 16; refine (is_in n hn _ h).mono ?_; rintro e w' ⟨rfl, rfl⟩)
        | (go_at_call 9; refine (hE _ h).mono ?_; rintro e w' ⟨rfl, m, rfl⟩; rw [HE.out]))
      go_ret
      exact ⟨rfl, h.drewN m, only_drewN (World.grownBy.refl _ _) _⟩
    | false =>
      have e1 : noteOk L n t = true := by simp [noteOk, he, hn]; omega
      have e2 : noteL L n t = L.set n ⟨L[n].t, t, true⟩ := by simp [noteL, e1, noteAt_in hn]
      rw [e1, e2]
      have HE := Lib.hid he
      have cl := h.cl
      have c1 := h.c1 hn
      have f1 := h.fr n
      clear e1 e2 he hL h0 h1
      go_enter Try.func11, Try.ntmps11
      go_wp2_with (first
        | (go_at_call 16; refine (is_in n hn _ h).mono ?_; rintro e w' ⟨rfl, rfl⟩)
        | (go_at_call 9; refine (hE _ h).mono ?_; rintro e w' ⟨rfl, m, rfl⟩; rw [HE.out]))
      go_ret
      exact ⟨rfl, (h.set hn t).drewN m, only_drewN (only_setCell (World.grownBy.refl w (some b)) (p := ⟨b, n, none⟩) (.inl rfl) _) m⟩

theorem rnew_no (A : Option Addr) (c : Nat) (zs : List Int) (w : World) (h8 : 8 < zs.length) :
    Calls Try.prog 7 #[.slice A zs.length c] w fun e w' => e = .returned (.pointer none) ∧ w = w' := by
  go_enter Try.func7, Try.ntmps7
  go_wp2_with fail
  go_ret
  exact ⟨rfl, rfl⟩

theorem per_snoc (L : List Wt) (x : Wt) : perC (L ++ [x]) = perC L ++ [.int .i64 x.t] := by simp [perC]
theorem last_snoc (L : List Wt) (x : Wt) : lastC (L ++ [x]) = lastC L ++ [.int .i64 (lastI x)] := by simp [lastC]

/-- The Police that is being made, with the first k periods. -/
structure RMk (w wr : World) (v u : Value) (k : Nat) (L : List Wt) : Prop where
  hd : Blk wr w.heap.size 43 (rcells v u)
  per : wr.ownsRow (w.heap.size + 1) 2 1 v k (perC L)
  last : wr.ownsRow (w.heap.size + 1) 2 1 u k (lastC L)
  ne : ∀ q, v.ownBlock = some q → u.ownBlock ≠ some q
  len : L.length = k
  b : Below w.heap.size w wr

theorem RMk.two {w wr : World} {v u : Value} {k b o : Nat} {L : List Wt} {x : Value} (h : RMk w wr v u k L) (hb : b < w.heap.size) (hx : wr.cell? ⟨b, o, none⟩ = some x) :
    Two wr wr (w.heap.size + 1) w.heap.size b o x v u v u k k (perC L) (lastC L) :=
  ⟨h.hd, h.per, h.last, h.ne, hx, by omega, h.hd.lt, fun _ _ q _ _ => q, Nat.le_refl _⟩
theorem RMk.next {w wr w' : World} {v u : Value} {k b o g1 m1 g2 m2 : Nat} {xs ys : List Value} {L' : List Wt} {x : Value} (h : Below w.heap.size w wr)
    (t : Two wr w' (w.heap.size + 1) w.heap.size b o x v u (.slice (some ⟨g1, 0, none⟩) (k + 1) m1) (.slice (some ⟨g2, 0, none⟩) (k + 1) m2) (k + 1) (k + 1) xs ys) (hx : xs = perC L') (hy : ys = lastC L') (hL : L'.length = k + 1) :
    RMk w ((w'.setCell ⟨w.heap.size, 0, none⟩ (.slice (some ⟨g1, 0, none⟩) (k + 1) m1)).setCell ⟨w.heap.size, 1, none⟩ (.slice (some ⟨g2, 0, none⟩) (k + 1) m2)) (.slice (some ⟨g1, 0, none⟩) (k + 1) m1) (.slice (some ⟨g2, 0, none⟩) (k + 1) m2) (k + 1) L' := by
  subst hx hy
  have f1 : (Value.slice (some ⟨g1, 0, none⟩) (k + 1) m1).ownBlock ≠ some w.heap.size := by
    intro e
    have := base_le t.rs e
    omega
  have f2 : (Value.slice (some ⟨g2, 0, none⟩) (k + 1) m2).ownBlock ≠ some w.heap.size := by
    intro e
    have := base_le t.ds e
    omega
  exact ⟨(t.hd.set_ 0 _).set_ 1 _, own_far (o := 1) (own_far (o := 0) t.rs f1 _) f1 _, own_far (o := 1) (own_far (o := 0) t.ds f2 _) f2 _, t.ne, hL,
    ((t.b _ _ h (by omega) h.size).setCell (p := ⟨w.heap.size, 0, none⟩) (Nat.le_refl _) _).setCell (p := ⟨w.heap.size, 1, none⟩) (Nat.le_refl _) _⟩

theorem take_mk (zs : List Int) (k : Nat) (x : Int) (h : k < zs.length) (hx : zs[k] = x) : (zs.map mkW).take (k + 1) = (zs.map mkW).take k ++ [mkW x] := by
  rw [List.take_succ_eq_append_getElem (by simpa using h)]
  simp [hx]

def NewPost (w : World) (zs : List Int) (e : Ending) (w' : World) : Prop := (zs.any odd = true ∧ e = .returned (.pointer none) ∧ Below w.heap.size w w') ∨
      (zs.any odd = false ∧ ∃ v u, e = .returned (.pointer (some ⟨w.heap.size, 0, none⟩)) ∧ RPol w' (w.heap.size + 1) w.heap.size v u (zs.map mkW) ∧ Below w.heap.size w w')

set_option maxHeartbeats 8000000 in
theorem rnew_any (A : Option Addr) (c : Nat) (zs : List Int) (w : World) (h : Nums w A zs) (h8 : zs.length ≤ 8) :
    Calls Try.prog 7 #[.slice A zs.length c] w (NewPost w zs) := by
  obtain ⟨i0, hi0, hz0, hz1, hz2⟩ := info_parts Try.info2
  have Hz0 := Lib.hid hz0; clear hz0
  have Hz1 := Lib.hid hz1; clear hz1
  have Hz2 := Lib.hid hz2; clear hz2
  have Hi := Lib.hid hi0; clear hi0
  go_enter Try.func7, Try.ntmps7
  go_wp2_with fail
  go_loopw [4] (fun z wr => ∃ (k : Nat) (v u : Value), k ≤ zs.length ∧ z = .int .i64 k ∧ (∀ j (h : j < zs.length), j < k → odd zs[j] = false) ∧ RMk w wr v u k ((zs.map mkW).take k)) (fun z _ => zs.length - (intOf z).toNat)
  case atStart =>
    refine ⟨0, .slice none 0 0, .slice none 0 0, Nat.zero_le _, rfl, fun j h h' => by omega, ⟨Blk.new w 43 _, ?_, ?_, fun q e => by simp [Value.ownBlock] at e, rfl, (Below.refl _ _).alloc (Nat.le_refl _) _⟩⟩
    · simpa [perC] using World.ownsRow_nil _ _ _ _
    · simpa [lastC] using World.ownsRow_nil _ _ _ _
  case round =>
    obtain ⟨k, v, u, hk, rfl, hodd, hM⟩ := hrel
    have Hodd := Lib.hid hodd
    clear hodd
    by_cases hlt : k < zs.length
    · rcases h with hz | ⟨b, off, rfl, hb, hc⟩
      · rw [hz] at hlt; simp at hlt
      have c0 := (hM.b.cell hb).trans (hc k hlt)
      obtain ⟨x, hx⟩ : ∃ x, zs[k] = x := ⟨_, rfl⟩
      rw [hx] at c0
      clear hc
      by_cases ho : odd x = true
      · have hA : zs.any odd = true := List.any_eq_true.2 ⟨zs[k], List.getElem_mem hlt, by rw [hx]; exact ho⟩
        have HA := Lib.hid hA
        have hb2 := hM.b
        clear hx hA hM
        by_cases ho1 : x < 1
        · clear ho
          go_wp2_with fail
          go_ret
          exact .inl ⟨HA.out, rfl, hb2⟩
        · have ho2 : 10000 < x := by
            rw [odd] at ho
            simp at ho
            omega
          clear ho
          go_wp2_with fail
          go_ret
          exact .inl ⟨HA.out, rfl, hb2⟩
      · have ho1 : ¬ x < 1 := by intro hh; apply ho; simp [odd, hh]
        have ho2 : ¬ 10000 < x := by intro hh; apply ho; simp [odd, hh]
        have hodd2 : ∀ j (h : j < zs.length), j < k + 1 → odd zs[j] = false := by
          intro j hj hj2
          by_cases hjk : j = k
          · subst hjk
            rw [hx]
            simpa using ho
          · exact Hodd.out j hj (by omega)
        have HO := Lib.hid hodd2
        have htk := take_mk zs k x hlt hx
        have hxs : perC ((zs.map mkW).take k) ++ [.int .i64 x] = perC ((zs.map mkW).take (k + 1)) ∧ lastC ((zs.map mkW).take k) ++ [.int .i64 (-1)] = lastC ((zs.map mkW).take (k + 1)) ∧ ((zs.map mkW).take (k + 1)).length = k + 1 := by
          refine ⟨?_, ?_, ?_⟩
          · rw [htk, per_snoc]; rfl
          · rw [htk, last_snoc]; rfl
          · rw [List.length_take, List.length_map]; omega
        have HXS := Lib.hid hxs
        have T0 := hM.two hb c0
        have HT := Lib.hid T0
        have HB := Lib.hid hM.b
        clear ho hx Hodd hodd2 hxs T0 hM htk
        go_wp2_with fail
        refine late_region (fun _ _ _ _ _ h => h) i0 Hi.out Hz0.out Hz1.out Hz2.out HT.out hlt h8 ?_ (by kernel_rfl)
        intro g1 m1 g2 m2 w2 T2 s28 s29 s30 s31 s32 s33 s34 s35 s36 s37 s38 s39 s40 s41 s42 s43 s44 s45 s46 s47 s48 s49
        have N := RMk.next HB.out T2 HXS.out.1 HXS.out.2.1 HXS.out.2.2
        obtain ⟨w3, hw3⟩ : ∃ w3, (w2.setCell ⟨w.heap.size, 0, none⟩ (.slice (some ⟨g1, 0, none⟩) (k + 1) m1)).setCell ⟨w.heap.size, 1, none⟩ (.slice (some ⟨g2, 0, none⟩) (k + 1) m2) = w3 := ⟨_, rfl⟩
        rw [hw3] at N ⊢
        have HN := Lib.hid N
        clear N T2 hw3 HT HB
        go_wp2_with fail
        go_roundw
        case rel => exact ⟨k + 1, _, _, by omega, by go_num, HO.out, HN.out⟩
        case measure => simp [intOf]; omega
    · obtain rfl : k = zs.length := by omega
      have hO : zs.any odd = false := by
        rw [List.any_eq_false]
        intro x hx
        obtain ⟨i, hi, rfl⟩ := List.getElem_of_mem hx
        have := Hodd.out i hi hi
        simp [this]
      have ht : (zs.map mkW).take zs.length = zs.map mkW := List.take_of_length_le (by simp)
      rw [ht] at hM
      have J : RPol wr (w.heap.size + 1) w.heap.size v u (zs.map mkW) := by
        refine ⟨hM.hd, by simpa using hM.per, by simpa using hM.last, ?_⟩
        cases e : v.ownBlock with
        | none => exact .inl rfl
        | some q => exact .inr (hM.ne q e).symm
      have HJ := Lib.hid J
      have hW := hM.b
      have HO := Lib.hid hO
      clear J hM hO ht Hodd
      go_wp2_with fail
      go_ret
      exact .inr ⟨HO.out, _, _, rfl, HJ.out, hW⟩

end Go.Proofs.Ytggoflcphalnpaa
