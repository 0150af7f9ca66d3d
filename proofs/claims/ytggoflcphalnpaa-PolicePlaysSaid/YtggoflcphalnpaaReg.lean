/- The one drawn statement of the reference's New. -/
import Derived.Test.YtggoflcphalnpaaRef
import Derived.Test.YtggoflcphalnpaaLate
namespace Go.Proofs.Ytggoflcphalnpaa
open Go.RowKit

theorem Try.info2 : (Try.prog.info? 2).map (fun i => (i.zero, i.size, i.bytes)) = some (some (.int .i64 0), 1, 8) := by kernel_rfl

def regionIn (id : Nat) : Code → Option (Array Oper)
  | .region i ops _ => if i = id then some ops else none
  | .seq a b => (regionIn id a).or (regionIn id b)
  | .cond _ a b => (regionIn id a).or (regionIn id b)
  | .block _ a => regionIn id a
  | .loop a => regionIn id a
  | .scope a => regionIn id a
  | .rangeFunc _ _ a b => (regionIn id a).or (regionIn id b)
  | _ => none
/-- A function's region by its number. -/
def reg (f : Func) (id : Nat) : Array Oper := (f.body.bind (regionIn id)).getD #[]

def rcells (v u : Value) : Array Value := #[v, u]

section
variable {Q : Exit → Act → World → Prop}

set_option maxHeartbeats 2000000 in
theorem late_tail {S : World → Prop} {v u : Value} {b off len c k : Nat}  (p : Nat) (e1 e2 : Option Addr) (n1 m1 n2 m2 : Nat) (w' : World) (t1 t2 t5 t6 t7 t8 t9 t10 t11 t12 t13 t14 t15 t16 t17 t18 t19 t20 t21 t22 t23 t24 t25 t26 t27 t30 t31 t32 t33 t34 t35 t36 t37 t38 t40 t41 t42 t43 t44 t46 t47 t48 t49 t50 : Value)
    (hB : Blk w' p 43 (rcells v u)) (h : ∀ t28 t29 t30 t31 t32 t33 t34 t35 t36 t37 t38 t39 t40 t41 t42 t43 t44 t45 t46 t47 t48 t49 : Value, Q .normal ⟨#[(.slice (some ⟨b, off, none⟩) len c), t1, t2, (.pointer (some ⟨p, 0, none⟩)), (.int .i64 (k : Int)), t5, t6, t7, t8, t9, t10, t11, t12, t13, t14, t15, t16, t17, t18, t19, t20, t21, t22, t23, t24, t25, t26, t27, t28, t29, t30, t31, t32, t33, t34, t35, t36, t37, t38, t39, t40, t41, t42, t43, t44, t45, t46, t47, t48, t49, t50], []⟩ ((w'.setCell ⟨p, 0, none⟩ (.slice e1 n1 m1)).setCell ⟨p, 1, none⟩ (.slice e2 n2 m2))) :
    wpL Try.prog .any (reg Try.f7 9) Q S [18, 19, 20, 21, 22, 23] 6 #[true, true, true, true, true, true, true, true, true, true, true, true, true, true, true, true, true, true, false, false, false, false, false, false] ⟨#[(.slice (some ⟨b, off, none⟩) len c), t1, t2, (.pointer (some ⟨p, 0, none⟩)), (.int .i64 (k : Int)), t5, t6, t7, t8, t9, t10, t11, t12, t13, t14, t15, t16, t17, t18, t19, t20, t21, t22, t23, t24, t25, t26, t27, (.pointer (some ⟨p, 0, none⟩)), (.pointer (some ⟨p, 0, none⟩)), t30, t31, t32, t33, t34, t35, t36, t37, t38, (.slice e1 n1 m1), t40, t41, t42, t43, t44, (.slice e2 n2 m2), t46, t47, t48, t49, t50], []⟩ w' := by
  have c0 : w'.frozen? ⟨p, 0, none⟩ = false := hB.frozen 0
  have c1 : w'.frozen? ⟨p, 1, none⟩ = false := hB.frozen 1
  have c2 : w'.cell? ⟨p, 0, none⟩ = some v := hB.cell 0
  have c3 : w'.cell? ⟨p, 1, none⟩ = some u := hB.cell 1
  refine wpL_one (i := 18) (by kernel_rfl) (o := ⟨some 46, _, _, _, _, _⟩) rfl rfl (fun K hK => ?_)
  go_simp
  refine hK _ _ (fun hE => absurd (hE 18 (by decide)) (by decide)) ?_
  clear hK K
  simp only [List.setIfInBounds_toArray, List.set_cons_zero, List.set_cons_succ]
  refine wpL_one (i := 19) (by kernel_rfl) (o := ⟨some 47, _, _, _, _, _⟩) rfl rfl (fun K hK => ?_)
  go_simp
  refine hK _ _ (fun hE => absurd (hE 19 (by decide)) (by decide)) ?_
  clear hK K
  simp only [List.setIfInBounds_toArray, List.set_cons_zero, List.set_cons_succ]
  refine wpL_one (i := 20) (by kernel_rfl) (o := ⟨none, _, _, _, _, _⟩) rfl rfl (fun K hK => ?_)
  go_simp
  refine hK _ _ (fun hE => absurd (hE 20 (by decide)) (by decide)) ?_
  clear hK K
  simp only [List.setIfInBounds_toArray, List.set_cons_zero, List.set_cons_succ]
  refine wpL_one (i := 21) (by kernel_rfl) (o := ⟨some 48, _, _, _, _, _⟩) rfl rfl (fun K hK => ?_)
  go_simp
  refine hK _ _ (fun hE => absurd (hE 21 (by decide)) (by decide)) ?_
  clear hK K
  simp only [List.setIfInBounds_toArray, List.set_cons_zero, List.set_cons_succ]
  refine wpL_one (i := 22) (by kernel_rfl) (o := ⟨some 49, _, _, _, _, _⟩) rfl rfl (fun K hK => ?_)
  go_simp
  refine hK _ _ (fun hE => absurd (hE 22 (by decide)) (by decide)) ?_
  clear hK K
  simp only [List.setIfInBounds_toArray, List.set_cons_zero, List.set_cons_succ]
  refine wpL_one (i := 23) (by kernel_rfl) (o := ⟨none, _, _, _, _, _⟩) rfl rfl (fun K hK => ?_)
  go_simp
  refine hK _ _ (fun hE => absurd (hE 23 (by decide)) (by decide)) ?_
  clear hK K
  simp only [List.setIfInBounds_toArray, List.set_cons_zero, List.set_cons_succ]
  refine wpL_done (by kernel_rfl) ?_ _
  exact h _ _ _ _ _ _ _ _ _ _ _ _ _ _ _ _ _ _ _ _ _ _

/-- How far the statement is: the object as it was, the two rows, the number that is read. -/
structure Two (wr W : World) (base p b o : Nat) (xv : Value) (v0 u0 v u : Value) (n m : Nat) (xs ys : List Value) : Prop where
  hd : Blk W p 43 (rcells v0 u0)
  rs : W.ownsRow base 2 1 v n xs
  ds : W.ownsRow base 2 1 u m ys
  ne : ∀ q, v.ownBlock = some q → u.ownBlock ≠ some q
  cx : W.cell? ⟨b, o, none⟩ = some xv
  lb : b < base
  size : base ≤ W.heap.size
  b : ∀ B w, Below B w wr → B ≤ base → B ≤ wr.heap.size → Below B w W
  grow : wr.heap.size ≤ W.heap.size

section
variable {wr W w' : World} {base p b o : Nat} {xv : Value} {v0 u0 v u v' : Value} {n m j : Nat} {xs ys zs : List Value}
theorem Two.alloc (h : Two wr W base p b o xv v0 u0 v u n m xs ys) (y : Value) : Two wr (W.alloc (.cells #[y] 2)) base p b o xv v0 u0 v u n m xs ys :=
  ⟨h.hd.alloc _, h.rs.alloc _, h.ds.alloc _, h.ne, ((Below.refl _ W).alloc (Nat.le_refl _) (.cells #[y] 2)).cell (p := ⟨b, o, none⟩) (Nat.lt_of_lt_of_le h.lb h.size) |>.trans h.cx, h.lb, by rw [World.size_alloc]; exact Nat.le_succ_of_le h.size,
   fun B w q1 q2 q3 => (h.b B w q1 q2 q3).alloc (Nat.le_trans q3 h.grow) _, by rw [World.size_alloc]; exact Nat.le_succ_of_le h.grow⟩
theorem base_le {base n : Nat} {v : Value} {xs : List Value} (h : W.ownsRow base 2 1 v n xs) {q : Nat} (e : v.ownBlock = some q) : base ≤ q := by
  rcases h.2 with ⟨rfl, _⟩ | ⟨g, c, cur, rfl, hb, _⟩
  · simp [Value.ownBlock] at e
  · simp [Value.ownBlock] at e
    omega
theorem Two.app1 (h : Two wr W base p b o xv v0 u0 v u n m xs ys) (h1 : w'.ownsRow base 2 1 v' j zs) (hg : W.grownBy w' v.ownBlock) (hw : v'.ownBlock = v.ownBlock ∨ v'.ownBlock = some W.heap.size) :
    Two wr w' base p b o xv v0 u0 v' u j m zs ys := by
  refine ⟨h.hd.grown hg (own_blk_ne h.rs h.hd (by decide)).symm, h1, ?_, ?_, hg.cell h.cx (fun e => ?_), h.lb, Nat.le_trans h.size hg.size, fun B w q1 q2 q3 => (h.b B w q1 q2 q3).grown hg (Nat.le_trans q3 h.grow) (fun q e => Nat.le_trans q2 (base_le h.rs e)), Nat.le_trans h.grow hg.size⟩
  · have hu : u.ownBlock = none ∨ u.ownBlock ≠ v.ownBlock := by
      cases e : v.ownBlock with
      | none => cases u.ownBlock <;> simp
      | some q => exact .inr (h.ne q e)
    exact own_keep h.ds hg hu
  · intro q e
    rcases hw with hw | hw
    · exact h.ne q (by rw [← hw, e])
    · rw [hw] at e
      injection e with e
      intro e2
      have := h.ds.lt q e2
      omega
  · have : base ≤ b := base_le h.rs e.symm
    have := h.lb
    omega
theorem Two.app2 (h : Two wr W base p b o xv v0 u0 v u n m xs ys) (h1 : w'.ownsRow base 2 1 v' j zs) (hg : W.grownBy w' u.ownBlock) (hw : v'.ownBlock = u.ownBlock ∨ v'.ownBlock = some W.heap.size) :
    Two wr w' base p b o xv v0 u0 v v' n j xs zs := by
  refine ⟨h.hd.grown hg (own_blk_ne h.ds h.hd (by decide)).symm, ?_, h1, ?_, hg.cell h.cx (fun e => ?_), h.lb, Nat.le_trans h.size hg.size, fun B w q1 q2 q3 => (h.b B w q1 q2 q3).grown hg (Nat.le_trans q3 h.grow) (fun q e => Nat.le_trans q2 (base_le h.ds e)), Nat.le_trans h.grow hg.size⟩
  · have hu : v.ownBlock = none ∨ v.ownBlock ≠ u.ownBlock := by
      cases e : v.ownBlock with
      | none => exact .inl rfl
      | some q => exact .inr (h.ne q e).symm
    exact own_keep h.rs hg hu
  · intro q e
    rcases hw with hw | hw
    · rw [hw]; exact h.ne q e
    · rw [hw]
      intro e2
      injection e2 with e2
      have := h.rs.lt q e
      omega
  · have : base ≤ b := base_le h.ds e.symm
    have := h.lb
    omega
theorem own_slice {base n : Nat} {v : Value} {xs : List Value} (h : W.ownsRow base 2 1 v (n + 1) xs) : ∃ g c, v = .slice (some ⟨g, 0, none⟩) (n + 1) c := by
  rcases h.2 with ⟨_, h0⟩ | ⟨g, c, cur, h0, _⟩
  · omega
  · exact ⟨g, c, h0⟩
theorem row_far {base n : Nat} {v : Value} {xs : List Value} (h : W.ownsRow base 2 1 v n xs) {g : Nat} (hg : W.heap.size ≤ g) : some g ≠ v.ownBlock := by
  intro e
  have := h.lt g e.symm
  omega
theorem one_new (g : Nat) (y : Value) (h : Blk W g 2 #[y]) : ∀ j u, [y][j]? = some u → W.cell? ((⟨g, 0, none⟩ : Addr).add j) = some u := by
  intro j u hj
  rw [add_none, Nat.zero_add, h.cell j]
  simpa using hj
end

theorem wpL_re {P : Program} {ops : Array Oper} {Q : Exit → Act → World → Prop} {md : Region.Mode} {S : World → Prop} {L : List Nat} {n : Nat} {listed listed' : Array Bool} {a : Act} {w : World} (hl : listed = listed')
    (h : wpL P md ops Q S L n listed' a w) : wpL P md ops Q S L n listed a w := by rw [hl]; exact h
theorem region_start {P : Program} {ops : Array Oper} {Q : Exit → Act → World → Prop} {S : World → Prop} {L : List Nat} {id n : Nat} {listed : Array Bool} {a : Act} {w : World} (hm : P.follows .mixedOrders = true) (hn : ops.size = n) (hl : Array.replicate n false = listed)
    (h : wpL P .any ops Q S L n listed a w.drew) : (Code.region id ops true).wp P Q a w := by
  refine wp_region_late (S := S) (L := L) hm ?_
  rw [hn, hl]
  exact h
theorem Two.drew {wr : World} {base p b o : Nat} {xv : Value} {v u : Value} {n m : Nat} {xs ys : List Value} (h : Two wr wr base p b o xv v u v u n m xs ys) : Two wr wr.drew base p b o xv v u v u n m xs ys :=
  ⟨h.hd, h.rs, h.ds, h.ne, h.cx, h.lb, h.size, fun B w q1 q2 q3 => (h.b B w q1 q2 q3).drew, h.grow⟩

set_option maxHeartbeats 8000000 in
theorem late_region {base : Nat} {x : Int} {v u : Value} {b off len c k : Nat} (hQ : ∀ c (a : Act) (t : Nat) z w, Q (.panic c) (a.put (some t) z) w → Q (.panic c) a w) (i0 : TypeInfo) (hi0 : Try.prog.info? 2 = some i0) (hz0 : i0.zero = some (.int .i64 0)) (hz1 : i0.size = 1) (hz2 : i0.bytes = 8) {p : Nat} {xs ys : List Value} {wr : World} {t1 t2 t5 t6 t7 t8 t9 t10 t11 t12 t13 t14 t15 t16 t17 t18 t19 t20 t21 t22 t23 t24 t25 t26 t27 t28 t29 t30 t31 t32 t33 t34 t35 t36 t37 t38 t39 t40 t41 t42 t43 t44 t45 t46 t47 t48 t49 t50 : Value}
    (hT : Two wr wr base p b (off + k) (.int .i64 x) v u v u k k xs ys) (hk : k < len) (h8 : len ≤ 8)
    (h : ∀ (g1 m1 g2 m2 : Nat) (w' : World), Two wr w' base p b (off + k) (.int .i64 x) v u (.slice (some ⟨g1, 0, none⟩) (k + 1) m1) (.slice (some ⟨g2, 0, none⟩) (k + 1) m2) (k + 1) (k + 1) (xs ++ [(.int .i64 x)]) (ys ++ [(.int .i64 (-1))]) →
      ∀ t28 t29 t30 t31 t32 t33 t34 t35 t36 t37 t38 t39 t40 t41 t42 t43 t44 t45 t46 t47 t48 t49 : Value, Q .normal ⟨#[(.slice (some ⟨b, off, none⟩) len c), t1, t2, (.pointer (some ⟨p, 0, none⟩)), (.int .i64 (k : Int)), t5, t6, t7, t8, t9, t10, t11, t12, t13, t14, t15, t16, t17, t18, t19, t20, t21, t22, t23, t24, t25, t26, t27, t28, t29, t30, t31, t32, t33, t34, t35, t36, t37, t38, t39, t40, t41, t42, t43, t44, t45, t46, t47, t48, t49, t50], []⟩ ((w'.setCell ⟨p, 0, none⟩ (.slice (some ⟨g1, 0, none⟩) (k + 1) m1)).setCell ⟨p, 1, none⟩ (.slice (some ⟨g2, 0, none⟩) (k + 1) m2))) {ops : Array Oper} (hops : ops = reg Try.f7 9) :
    (Code.region 9 ops true).wp Try.prog Q ⟨#[(.slice (some ⟨b, off, none⟩) len c), t1, t2, (.pointer (some ⟨p, 0, none⟩)), (.int .i64 (k : Int)), t5, t6, t7, t8, t9, t10, t11, t12, t13, t14, t15, t16, t17, t18, t19, t20, t21, t22, t23, t24, t25, t26, t27, t28, t29, t30, t31, t32, t33, t34, t35, t36, t37, t38, t39, t40, t41, t42, t43, t44, t45, t46, t47, t48, t49, t50], []⟩ wr := by
  subst hops
  have HH := Lib.hid h
  clear h
  have e0 : (0 : Int) ≤ (k : Int) := by omega
  have e1 : (k : Int) < (len : Int) := by omega
  refine region_start (S := fun W : World => W.cell? ⟨p, 0, none⟩ = some v ∧ W.cell? ⟨p, 1, none⟩ = some u ∧ W.cell? ⟨b, off + k, none⟩ = some (.int .i64 x)) (L := [18, 19, 20, 21, 22, 23]) (n := 24) (listed := #[false, false, false, false, false, false, false, false, false, false, false, false, false, false, false, false, false, false, false, false, false, false, false, false]) (by kernel_rfl) (by kernel_rfl) (by kernel_rfl) ?_
  have D : Two wr wr.drew base p b (off + k) (.int .i64 x) v u v u k k xs ys := hT.drew
  obtain ⟨R, hR⟩ : ∃ R, wr.drew = R := ⟨_, rfl⟩
  rw [hR] at D ⊢
  clear hR
  have q0 : R.cell? ⟨p, 0, none⟩ = some v := D.hd.cell 0
  have q1 : R.cell? ⟨p, 1, none⟩ = some u := D.hd.cell 1
  have q2 : R.cell? ⟨b, off + k, none⟩ = some (.int .i64 x) := D.cx
  have hS := And.intro q0 (And.intro q1 q2)
  have HD := Lib.hid D
  clear D q0 q1 q2 hT
  refine wpL_takeY (i := 0) (oi := ⟨some 28, _, _, _, _, _⟩) (v := (.pointer (some ⟨p, 0, none⟩))) rfl (by kernel_rfl) (by kernel_rfl) (by kernel_rfl) (by kernel_rfl) (fun _ _ _ h => hQ _ _ _ _ _ h) (Or.inl ⟨by rfl, fun W hW => ?_⟩) hS ?_
  · clear hW
    go_simp
  simp only [Act.put, List.setIfInBounds_toArray, List.set_cons_zero, List.set_cons_succ]
  refine wpL_takeY (i := 1) (oi := ⟨some 29, _, _, _, _, _⟩) (v := (.pointer (some ⟨p, 0, none⟩))) rfl (by kernel_rfl) (by kernel_rfl) (by kernel_rfl) (by kernel_rfl) (fun _ _ _ h => hQ _ _ _ _ _ h) (Or.inl ⟨by rfl, fun W hW => ?_⟩) hS ?_
  · clear hW
    go_simp
  simp only [Act.put, List.setIfInBounds_toArray, List.set_cons_zero, List.set_cons_succ]
  refine wpL_takeY (i := 2) (oi := ⟨some 30, _, _, _, _, _⟩) (v := (.pointer (some ⟨p, 0, none⟩))) rfl (by kernel_rfl) (by kernel_rfl) (by kernel_rfl) (by kernel_rfl) (fun _ _ _ h => hQ _ _ _ _ _ h) (Or.inl ⟨by rfl, fun W hW => ?_⟩) hS ?_
  · clear hW
    go_simp
  simp only [Act.put, List.setIfInBounds_toArray, List.set_cons_zero, List.set_cons_succ]
  refine wpL_takeY (i := 3) (oi := ⟨some 31, _, _, _, _, _⟩) (v := (.pointer (some ⟨p, 0, none⟩))) rfl (by kernel_rfl) (by kernel_rfl) (by kernel_rfl) (by kernel_rfl) (fun _ _ _ h => hQ _ _ _ _ _ h) (Or.inl ⟨by rfl, fun W hW => ?_⟩) hS ?_
  · clear hW
    go_simp
  simp only [Act.put, List.setIfInBounds_toArray, List.set_cons_zero, List.set_cons_succ]
  refine wpL_takeY (i := 4) (oi := ⟨some 32, _, _, _, _, _⟩) (v := (.pointer (some ⟨p, 0, none⟩))) rfl (by kernel_rfl) (by kernel_rfl) (by kernel_rfl) (by kernel_rfl) (fun _ _ _ h => hQ _ _ _ _ _ h) (Or.inl ⟨by rfl, fun W hW => ?_⟩) hS ?_
  · clear hW
    go_simp
  simp only [Act.put, List.setIfInBounds_toArray, List.set_cons_zero, List.set_cons_succ]
  refine wpL_take (i := 5) (oi := ⟨some 33, _, _, _, _, _⟩) (v := v) rfl (by kernel_rfl) (by kernel_rfl) (by kernel_rfl) (by kernel_rfl) (by kernel_rfl) (fun _ _ _ h => hQ _ _ _ _ _ h) (Or.inl ⟨by rfl, fun W hW => ?_⟩) hS ?_
  · obtain ⟨g1, g2, g3⟩ := hW
    go_simp
  simp only [Act.put, List.setIfInBounds_toArray, List.set_cons_zero, List.set_cons_succ]
  refine wpL_takeY (i := 6) (oi := ⟨some 34, _, _, _, _, _⟩) (v := (.slice (some ⟨b, off, none⟩) len c)) rfl (by kernel_rfl) (by kernel_rfl) (by kernel_rfl) (by kernel_rfl) (fun _ _ _ h => hQ _ _ _ _ _ h) (Or.inl ⟨by rfl, fun W hW => ?_⟩) hS ?_
  · clear hW
    go_simp
  simp only [Act.put, List.setIfInBounds_toArray, List.set_cons_zero, List.set_cons_succ]
  refine wpL_takeY (i := 7) (oi := ⟨some 35, _, _, _, _, _⟩) (v := (.int .i64 (k : Int))) rfl (by kernel_rfl) (by kernel_rfl) (by kernel_rfl) (by kernel_rfl) (fun _ _ _ h => hQ _ _ _ _ _ h) (Or.inl ⟨by rfl, fun W hW => ?_⟩) hS ?_
  · clear hW
    go_simp
  simp only [Act.put, List.setIfInBounds_toArray, List.set_cons_zero, List.set_cons_succ]
  refine wpL_takeY (i := 8) (oi := ⟨some 36, _, _, _, _, _⟩) (v := (.pointer (some ⟨b, off + k, none⟩))) rfl (by kernel_rfl) (by kernel_rfl) (by kernel_rfl) (by kernel_rfl) (fun _ _ _ h => hQ _ _ _ _ _ h) (Or.inl ⟨by rfl, fun W hW => ?_⟩) hS ?_
  · clear hW
    go_simp
  simp only [Act.put, List.setIfInBounds_toArray, List.set_cons_zero, List.set_cons_succ]
  refine wpL_take (i := 9) (oi := ⟨some 37, _, _, _, _, _⟩) (v := (.int .i64 x)) rfl (by kernel_rfl) (by kernel_rfl) (by kernel_rfl) (by kernel_rfl) (by kernel_rfl) (fun _ _ _ h => hQ _ _ _ _ _ h) (Or.inl ⟨by rfl, fun W hW => ?_⟩) hS ?_
  · obtain ⟨g1, g2, g3⟩ := hW
    go_simp
  simp only [Act.put, List.setIfInBounds_toArray, List.set_cons_zero, List.set_cons_succ]
  refine wpL_takeY (i := 12) (oi := ⟨some 40, _, _, _, _, _⟩) (v := (.pointer (some ⟨p, 0, none⟩))) rfl (by kernel_rfl) (by kernel_rfl) (by kernel_rfl) (by kernel_rfl) (fun _ _ _ h => hQ _ _ _ _ _ h) (Or.inl ⟨by rfl, fun W hW => ?_⟩) hS ?_
  · clear hW
    go_simp
  simp only [Act.put, List.setIfInBounds_toArray, List.set_cons_zero, List.set_cons_succ]
  refine wpL_takeY (i := 13) (oi := ⟨some 41, _, _, _, _, _⟩) (v := (.pointer (some ⟨p, 0, none⟩))) rfl (by kernel_rfl) (by kernel_rfl) (by kernel_rfl) (by kernel_rfl) (fun _ _ _ h => hQ _ _ _ _ _ h) (Or.inl ⟨by rfl, fun W hW => ?_⟩) hS ?_
  · clear hW
    go_simp
  simp only [Act.put, List.setIfInBounds_toArray, List.set_cons_zero, List.set_cons_succ]
  refine wpL_takeY (i := 14) (oi := ⟨some 42, _, _, _, _, _⟩) (v := (.pointer (some ⟨p, 1, none⟩))) rfl (by kernel_rfl) (by kernel_rfl) (by kernel_rfl) (by kernel_rfl) (fun _ _ _ h => hQ _ _ _ _ _ h) (Or.inl ⟨by rfl, fun W hW => ?_⟩) hS ?_
  · clear hW
    go_simp
  simp only [Act.put, List.setIfInBounds_toArray, List.set_cons_zero, List.set_cons_succ]
  refine wpL_take (i := 15) (oi := ⟨some 43, _, _, _, _, _⟩) (v := u) rfl (by kernel_rfl) (by kernel_rfl) (by kernel_rfl) (by kernel_rfl) (by kernel_rfl) (fun _ _ _ h => hQ _ _ _ _ _ h) (Or.inl ⟨by rfl, fun W hW => ?_⟩) hS ?_
  · obtain ⟨g1, g2, g3⟩ := hW
    go_simp
  simp only [Act.put, List.setIfInBounds_toArray, List.set_cons_zero, List.set_cons_succ]
  clear hS
  have D := HD.out
  clear HD
  refine wpL_two (i := 10) (j := 16) (by kernel_rfl) (o := ⟨some 38, _, _, _, _, _⟩) rfl rfl (p := ⟨some 44, _, _, _, _, _⟩) rfl rfl (fun K hK => ?_) (fun K hK => ?_)
  · go_simp
    have D1 := D.alloc (.int .i64 x)
    have bn1 := Blk.new R 2 #[(.int .i64 x)]
    obtain ⟨g_1, hg_1⟩ : ∃ g, R.heap.size = g := ⟨_, rfl⟩
    obtain ⟨W1, hW1⟩ : ∃ w, R.alloc (.cells #[(.int .i64 x)] 2) = w := ⟨_, rfl⟩
    rw [hW1] at D1 bn1
    rw [hg_1] at bn1
    refine hK _ _ (fun _ => by rw [hW1]; exact ⟨D1.hd.cell 0, D1.hd.cell 1, D1.cx⟩) ?_
    rw [hW1]
    rw [hg_1]
    have fg_1 : g_1 < W1.heap.size := bn1.lt
    have kg_1 : R.heap.size ≤ g_1 := Nat.le_of_eq hg_1
    have rg_1rs := row_far D.rs kg_1
    have rg_1ds := row_far D.ds kg_1
    clear hK K
    simp only [List.setIfInBounds_toArray, List.set_cons_zero, List.set_cons_succ]
    refine wpL_two (i := 11) (j := 16) (by kernel_rfl) (o := ⟨some 39, _, _, _, _, _⟩) rfl rfl (p := ⟨some 44, _, _, _, _, _⟩) rfl rfl (fun K hK => ?_) (fun K hK => ?_)
    · refine wp_append_own_at (.tmp 33) (.tmp 38) 22 rfl base 2 i0 _ 1 8 Try.underlying22 hi0 hz0 hz1 hz2 rfl (by decide) v k xs rfl D1.rs ⟨g_1, 0, none⟩ 1 1 [(.int .i64 x)] rfl rfl (one_new _ _ bn1) (by simp [Value.oneCell']) (by unfold maxLen; omega) (by omega) D1.size ?_
      intro z1 W2 own gr _ wh
      have D2 := D1.app1 own gr wh
      obtain ⟨q1, m1, rfl⟩ := own_slice own
      refine hK _ _ (fun _ => ⟨D2.hd.cell 0, D2.hd.cell 1, D2.cx⟩) ?_
      clear hK K own gr wh
      simp only [Act.put, List.setIfInBounds_toArray, List.set_cons_zero, List.set_cons_succ]
      refine wpL_one (i := 16) (by kernel_rfl) (o := ⟨some 44, _, _, _, _, _⟩) rfl rfl (fun K hK => ?_)
      go_simp
      have D3 := D2.alloc (.int .i64 (-1))
      have bn2 := Blk.new W2 2 #[(.int .i64 (-1))]
      obtain ⟨g_2, hg_2⟩ : ∃ g, W2.heap.size = g := ⟨_, rfl⟩
      obtain ⟨W3, hW3⟩ : ∃ w, W2.alloc (.cells #[(.int .i64 (-1))] 2) = w := ⟨_, rfl⟩
      rw [hW3] at D3 bn2
      rw [hg_2] at bn2
      refine hK _ _ (fun _ => by rw [hW3]; exact ⟨D3.hd.cell 0, D3.hd.cell 1, D3.cx⟩) ?_
      rw [hW3]
      rw [hg_2]
      have fg_2 : g_2 < W3.heap.size := bn2.lt
      have kg_2 : W2.heap.size ≤ g_2 := Nat.le_of_eq hg_2
      have rg_2rs := row_far D2.rs kg_2
      have rg_2ds := row_far D2.ds kg_2
      clear hK K
      simp only [List.setIfInBounds_toArray, List.set_cons_zero, List.set_cons_succ]
      refine wpL_one (i := 17) (by kernel_rfl) (o := ⟨some 45, _, _, _, _, _⟩) rfl rfl (fun K hK => ?_)
      refine wp_append_own_at (.tmp 43) (.tmp 44) 22 rfl base 2 i0 _ 1 8 Try.underlying22 hi0 hz0 hz1 hz2 rfl (by decide) u k ys rfl D3.ds ⟨g_2, 0, none⟩ 1 1 [(.int .i64 (-1))] rfl rfl (one_new _ _ bn2) (by simp [Value.oneCell']) (by unfold maxLen; omega) (by omega) D3.size ?_
      intro z2 W4 own gr _ wh
      have D4 := D3.app2 own gr wh
      obtain ⟨q2, m2, rfl⟩ := own_slice own
      refine hK _ _ (fun _ => ⟨D4.hd.cell 0, D4.hd.cell 1, D4.cx⟩) ?_
      clear hK K own gr wh
      simp only [Act.put, List.setIfInBounds_toArray, List.set_cons_zero, List.set_cons_succ]
      refine wpL_re (listed' := #[true, true, true, true, true, true, true, true, true, true, true, true, true, true, true, true, true, true, false, false, false, false, false, false]) (by kernel_rfl) ?_
      exact late_tail p _ _ _ _ _ _ _ _ _ _ _ _ _ _ _ _ _ _ _ _ _ _ _ _ _ _ _ _ _ _ _ _ _ _ _ _ _ _ _ _ _ _ _ _ _ _ _ _ _ _ _ D4.hd (HH.out _ _ _ _ _ D4)
    · go_simp
      have D2 := D1.alloc (.int .i64 (-1))
      have bn1 := bn1.alloc (.cells #[(.int .i64 (-1))] 2)
      have bn2 := Blk.new W1 2 #[(.int .i64 (-1))]
      obtain ⟨g_2, hg_2⟩ : ∃ g, W1.heap.size = g := ⟨_, rfl⟩
      obtain ⟨W2, hW2⟩ : ∃ w, W1.alloc (.cells #[(.int .i64 (-1))] 2) = w := ⟨_, rfl⟩
      rw [hW2] at D2 bn1 bn2
      rw [hg_2] at bn2
      refine hK _ _ (fun _ => by rw [hW2]; exact ⟨D2.hd.cell 0, D2.hd.cell 1, D2.cx⟩) ?_
      rw [hW2]
      rw [hg_2]
      have fg_2 : g_2 < W2.heap.size := bn2.lt
      have kg_2 : W1.heap.size ≤ g_2 := Nat.le_of_eq hg_2
      have rg_2rs := row_far D1.rs kg_2
      have rg_2ds := row_far D1.ds kg_2
      clear hK K
      simp only [List.setIfInBounds_toArray, List.set_cons_zero, List.set_cons_succ]
      refine wpL_one (i := 11) (by kernel_rfl) (o := ⟨some 39, _, _, _, _, _⟩) rfl rfl (fun K hK => ?_)
      refine wp_append_own_at (.tmp 33) (.tmp 38) 22 rfl base 2 i0 _ 1 8 Try.underlying22 hi0 hz0 hz1 hz2 rfl (by decide) v k xs rfl D2.rs ⟨g_1, 0, none⟩ 1 1 [(.int .i64 x)] rfl rfl (one_new _ _ bn1) (by simp [Value.oneCell']) (by unfold maxLen; omega) (by omega) D2.size ?_
      intro z1 W3 own gr _ wh
      have D3 := D2.app1 own gr wh
      obtain ⟨q1, m1, rfl⟩ := own_slice own
      have bn2 := bn2.grown gr rg_2rs
      refine hK _ _ (fun _ => ⟨D3.hd.cell 0, D3.hd.cell 1, D3.cx⟩) ?_
      clear hK K own gr wh
      simp only [Act.put, List.setIfInBounds_toArray, List.set_cons_zero, List.set_cons_succ]
      refine wpL_one (i := 17) (by kernel_rfl) (o := ⟨some 45, _, _, _, _, _⟩) rfl rfl (fun K hK => ?_)
      refine wp_append_own_at (.tmp 43) (.tmp 44) 22 rfl base 2 i0 _ 1 8 Try.underlying22 hi0 hz0 hz1 hz2 rfl (by decide) u k ys rfl D3.ds ⟨g_2, 0, none⟩ 1 1 [(.int .i64 (-1))] rfl rfl (one_new _ _ bn2) (by simp [Value.oneCell']) (by unfold maxLen; omega) (by omega) D3.size ?_
      intro z2 W4 own gr _ wh
      have D4 := D3.app2 own gr wh
      obtain ⟨q2, m2, rfl⟩ := own_slice own
      refine hK _ _ (fun _ => ⟨D4.hd.cell 0, D4.hd.cell 1, D4.cx⟩) ?_
      clear hK K own gr wh
      simp only [Act.put, List.setIfInBounds_toArray, List.set_cons_zero, List.set_cons_succ]
      refine wpL_re (listed' := #[true, true, true, true, true, true, true, true, true, true, true, true, true, true, true, true, true, true, false, false, false, false, false, false]) (by kernel_rfl) ?_
      exact late_tail p _ _ _ _ _ _ _ _ _ _ _ _ _ _ _ _ _ _ _ _ _ _ _ _ _ _ _ _ _ _ _ _ _ _ _ _ _ _ _ _ _ _ _ _ _ _ _ _ _ _ _ D4.hd (HH.out _ _ _ _ _ D4)
  · go_simp
    have D1 := D.alloc (.int .i64 (-1))
    have bn2 := Blk.new R 2 #[(.int .i64 (-1))]
    obtain ⟨g_2, hg_2⟩ : ∃ g, R.heap.size = g := ⟨_, rfl⟩
    obtain ⟨W1, hW1⟩ : ∃ w, R.alloc (.cells #[(.int .i64 (-1))] 2) = w := ⟨_, rfl⟩
    rw [hW1] at D1 bn2
    rw [hg_2] at bn2
    refine hK _ _ (fun _ => by rw [hW1]; exact ⟨D1.hd.cell 0, D1.hd.cell 1, D1.cx⟩) ?_
    rw [hW1]
    rw [hg_2]
    have fg_2 : g_2 < W1.heap.size := bn2.lt
    have kg_2 : R.heap.size ≤ g_2 := Nat.le_of_eq hg_2
    have rg_2rs := row_far D.rs kg_2
    have rg_2ds := row_far D.ds kg_2
    clear hK K
    simp only [List.setIfInBounds_toArray, List.set_cons_zero, List.set_cons_succ]
    refine wpL_one (i := 10) (by kernel_rfl) (o := ⟨some 38, _, _, _, _, _⟩) rfl rfl (fun K hK => ?_)
    go_simp
    have D2 := D1.alloc (.int .i64 x)
    have bn2 := bn2.alloc (.cells #[(.int .i64 x)] 2)
    have bn1 := Blk.new W1 2 #[(.int .i64 x)]
    obtain ⟨g_1, hg_1⟩ : ∃ g, W1.heap.size = g := ⟨_, rfl⟩
    obtain ⟨W2, hW2⟩ : ∃ w, W1.alloc (.cells #[(.int .i64 x)] 2) = w := ⟨_, rfl⟩
    rw [hW2] at D2 bn2 bn1
    rw [hg_1] at bn1
    refine hK _ _ (fun _ => by rw [hW2]; exact ⟨D2.hd.cell 0, D2.hd.cell 1, D2.cx⟩) ?_
    rw [hW2]
    rw [hg_1]
    have fg_1 : g_1 < W2.heap.size := bn1.lt
    have kg_1 : W1.heap.size ≤ g_1 := Nat.le_of_eq hg_1
    have rg_1rs := row_far D1.rs kg_1
    have rg_1ds := row_far D1.ds kg_1
    clear hK K
    simp only [List.setIfInBounds_toArray, List.set_cons_zero, List.set_cons_succ]
    refine wpL_one (i := 11) (by kernel_rfl) (o := ⟨some 39, _, _, _, _, _⟩) rfl rfl (fun K hK => ?_)
    refine wp_append_own_at (.tmp 33) (.tmp 38) 22 rfl base 2 i0 _ 1 8 Try.underlying22 hi0 hz0 hz1 hz2 rfl (by decide) v k xs rfl D2.rs ⟨g_1, 0, none⟩ 1 1 [(.int .i64 x)] rfl rfl (one_new _ _ bn1) (by simp [Value.oneCell']) (by unfold maxLen; omega) (by omega) D2.size ?_
    intro z1 W3 own gr _ wh
    have D3 := D2.app1 own gr wh
    obtain ⟨q1, m1, rfl⟩ := own_slice own
    have bn2 := bn2.grown gr rg_2rs
    refine hK _ _ (fun _ => ⟨D3.hd.cell 0, D3.hd.cell 1, D3.cx⟩) ?_
    clear hK K own gr wh
    simp only [Act.put, List.setIfInBounds_toArray, List.set_cons_zero, List.set_cons_succ]
    refine wpL_one (i := 17) (by kernel_rfl) (o := ⟨some 45, _, _, _, _, _⟩) rfl rfl (fun K hK => ?_)
    refine wp_append_own_at (.tmp 43) (.tmp 44) 22 rfl base 2 i0 _ 1 8 Try.underlying22 hi0 hz0 hz1 hz2 rfl (by decide) u k ys rfl D3.ds ⟨g_2, 0, none⟩ 1 1 [(.int .i64 (-1))] rfl rfl (one_new _ _ bn2) (by simp [Value.oneCell']) (by unfold maxLen; omega) (by omega) D3.size ?_
    intro z2 W4 own gr _ wh
    have D4 := D3.app2 own gr wh
    obtain ⟨q2, m2, rfl⟩ := own_slice own
    refine hK _ _ (fun _ => ⟨D4.hd.cell 0, D4.hd.cell 1, D4.cx⟩) ?_
    clear hK K own gr wh
    simp only [Act.put, List.setIfInBounds_toArray, List.set_cons_zero, List.set_cons_succ]
    refine wpL_re (listed' := #[true, true, true, true, true, true, true, true, true, true, true, true, true, true, true, true, true, true, false, false, false, false, false, false]) (by kernel_rfl) ?_
    exact late_tail p _ _ _ _ _ _ _ _ _ _ _ _ _ _ _ _ _ _ _ _ _ _ _ _ _ _ _ _ _ _ _ _ _ _ _ _ _ _ _ _ _ _ _ _ _ _ _ _ _ _ _ D4.hd (HH.out _ _ _ _ _ D4)
end
end Go.Proofs.Ytggoflcphalnpaa
