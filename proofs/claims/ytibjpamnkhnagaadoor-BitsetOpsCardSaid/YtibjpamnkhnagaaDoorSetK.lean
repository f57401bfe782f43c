/- The chapter's examples: awake answers true in whatever world where the library's table lies, and turns nothing that was there. -/
import Derived.Test.YtibjpamnkhnagaaDoorSetJ
set_option linter.unusedVariables false
set_option linter.unusedSimpArgs false
namespace Go.Proofs.YtibjpamnkhnagaaDoor
open Go.RowKit Go.Proofs.YtibjpamnkhnagaaDoorW.PrintWords Mem Bit

def rng (a b : Nat) : Nat → Prop := fun k => a ≤ k ∧ k < b
theorem C_block {w : World} {b t : Nat} {k : IntKind} {xs : List Int} {fr : Nat × Nat} (hb : w.heap[b]? = some (.cells (xs.map (Value.int k)).toArray t fr)) (hm : xs.length ≤ 9223372036854775807) : Kd.C (Kd.int k) w (some ⟨b, 0, none⟩) xs.length xs := by
  refine Kd.C_of_reads (d := (0 : Int)) ⟨rfl, hm, fun _ => ⟨_, rfl, fun j hj => ?_⟩⟩
  rw [add_plain]
  simp [World.cell?, hb, List.getD_eq_getElem?_getD, hj]
theorem C_new (w : World) (t : Nat) (k : IntKind) (xs : List Int) (hm : xs.length ≤ 9223372036854775807) (cs : Array Value) (hcs : cs = (xs.map (Value.int k)).toArray) : Kd.C (Kd.int k) (w.alloc (.cells cs t)) (some ⟨w.heap.size, 0, none⟩) xs.length xs := by
  subst hcs
  exact C_block (heap_alloc_new w _) hm
theorem PS.here {w w' : World} {v : Option Addr} {o : Option (List Bool)} (h : PS w' (fun k => w.heap.size ≤ k) v o) : PS w' (rng w.heap.size w'.heap.size) v o := h.bound

/-- Two sets of one's own, apart. -/
structure AW (w0 W : World) (v1 v2 : Option Addr) (o1 o2 : Option (List Bool)) : Prop where
  ex : ∃ a1 b1 a2 b2, w0.heap.size ≤ a1 ∧ a1 ≤ b1 ∧ b1 ≤ a2 ∧ a2 ≤ b2 ∧ b2 ≤ W.heap.size ∧ PS W (rng a1 b1) v1 o1 ∧ PS W (rng a2 b2) v2 o2
  below : Below w0.heap.size w0 W
  db : DB w0
  len1 : lenO o1 ≤ 65536
section
variable {w0 W W' : World} {v1 v2 : Option Addr} {o1 o2 o' : Option (List Bool)}
theorem AW.step (h : AW w0 W v1 v2 o1 o2) (hb : Below W.heap.size W W') : AW w0 W' v1 v2 o1 o2 := by
  obtain ⟨a1, b1, a2, b2, h1, h2, h3, h4, h5, p1, p2⟩ := h.ex
  exact ⟨⟨a1, b1, a2, b2, h1, h2, h3, h4, Nat.le_trans h5 hb.size, p1.step (fun k _ hk => hb.block k hk), p2.step (fun k _ hk => hb.block k hk)⟩, h.below.trans (hb.mono h.below.size), h.db, h.len1⟩
theorem AW.drewN (h : AW w0 W v1 v2 o1 o2) (q : Nat) : AW w0 (W.drewN q) v1 v2 o1 o2 := h.step (pw_below_drewN (Below.refl _ _) q)
theorem AW.alloc (h : AW w0 W v1 v2 o1 o2) (x : Obj) : AW w0 (W.alloc x) v1 v2 o1 o2 := h.step (below_alloc (Below.refl _ _) x)
theorem AW.p1 (h : AW w0 W v1 v2 o1 o2) : PS W (fun k => k < W.heap.size) v1 o1 := by
  obtain ⟨a1, b1, a2, b2, h1, h2, h3, h4, h5, p1, p2⟩ := h.ex
  exact p1.mono (fun k hk => by have := hk.2; omega)
theorem AW.p2 (h : AW w0 W v1 v2 o1 o2) : PS W (fun k => k < W.heap.size) v2 o2 := by
  obtain ⟨a1, b1, a2, b2, h1, h2, h3, h4, h5, p1, p2⟩ := h.ex
  exact p2.mono (fun k hk => by have := hk.2; omega)
/-- The first is written. -/
theorem AW.write {Pr : Ending → Prop} {f : FuncId} {args : Array Value} (h : AW w0 W v1 v2 o1 o2) (hl : lenO o' ≤ 65536)
    (hc : ∀ ok ok2, PS W ok v1 o1 → PS W ok2 v2 o2 → (∀ k, ok2 k → ¬ ok k) → Calls Tryd.prog f args W fun e w' => Pr e ∧ PS w' ok v1 o' ∧ Kp ok W w') :
    Calls Tryd.prog f args W fun e w' => Pr e ∧ AW w0 w' v1 v2 o' o2 := by
  obtain ⟨a1, b1, a2, b2, h1, h2, h3, h4, h5, p1, p2⟩ := h.ex
  refine (hc _ _ p1 p2 (fun k hk hk' => by have := hk.1; have := hk'.2; omega)).mono ?_
  rintro e w' ⟨he, hp, hk⟩
  refine ⟨he, ⟨a1, b1, a2, b2, h1, h2, h3, h4, Nat.le_trans h5 hk.size, hp, p2.kp hk (fun k hk hk' => by have := hk.1; have := hk'.2; omega)⟩, ?_, ?_, hl⟩
  · exact h.below.trans (hk.belowB (fun k hk => by have := hk.1; omega) h.below.size)
  · exact h.db
theorem AW.with3 {Pr : Ending → Prop} {f : FuncId} {args : Array Value} {W2 : World} {v3 : Option Addr} {o3 : Option (List Bool)} (h : AW w0 W v1 v2 o1 o2) (hb : Below W.heap.size W W2) (p3 : PS W2 (fun k => W.heap.size ≤ k) v3 o3) (hl : lenO o' ≤ 65536)
    (hc : ∀ ok ok3, PS W2 ok v1 o1 → PS W2 ok3 v3 o3 → (∀ k, ok3 k → ¬ ok k) → Calls Tryd.prog f args W2 fun e w' => Pr e ∧ PS w' ok v1 o' ∧ Kp ok W2 w') :
    Calls Tryd.prog f args W2 fun e w' => Pr e ∧ AW w0 w' v1 v2 o' o2 := by
  obtain ⟨a1, b1, a2, b2, h1, h2, h3, h4, h5, p1, p2⟩ := h.ex
  have q1 : PS W2 (rng a1 b1) v1 o1 := p1.step (fun k _ hk => hb.block k hk)
  have q2 : PS W2 (rng a2 b2) v2 o2 := p2.step (fun k _ hk => hb.block k hk)
  refine (hc _ _ q1 p3 (fun k hk hk' => by have := hk'.2; omega)).mono ?_
  rintro e w' ⟨he, hp, hk⟩
  have h6 := hb.size
  refine ⟨he, ⟨a1, b1, a2, b2, h1, h2, h3, h4, Nat.le_trans h5 (Nat.le_trans h6 hk.size), hp, q2.kp hk (fun k hk hk' => by have := hk.1; have := hk'.2; omega)⟩, ?_, h.db, hl⟩
  exact (h.below.trans (hb.mono h.below.size)).trans (hk.belowB (fun k hk => by have := hk.1; omega) (Nat.le_trans h.below.size h6))
theorem AW.dbW (h : AW w0 W v1 v2 o1 o2) : DB W := h.db.below h.below
end

set_option maxRecDepth 100000 in
set_option maxHeartbeats 4000000 in
theorem awake_any (w : World) (hD : DB w) : Calls Tryd.prog 7 #[] w fun e w' => e = .returned (.bool true) ∧ Below w.heap.size w w' := by
  have hD0 := Aside0.mk hD
  clear hD
  go_enter Tryd.func7, Tryd.ntmps7
  go_wp2_with fail
  refine (of_any 5 _ _ [3, 1, 3, 9] _ (C_new w 3 .i64 [3, 1, 3, 9] (by decide) _ rfl) (by decide)).mono ?_
  rintro e w1 ⟨v1, rfl, P1, K1⟩
  rw [show ofO 5 [3, 1, 3, 9] = some [false, true, false, true, false] from by decide] at P1
  obtain ⟨p1, rfl⟩ : ∃ p1, v1 = some ⟨p1, 0, none⟩ := by
    rcases P1.ex with ⟨_, h⟩ | ⟨p, _, h, _⟩ | ⟨p, bs, h, _⟩
    · cases h
    · cases h
    · exact ⟨p, h⟩
  have hP1 := Aside0.mk (And.intro P1.here (And.intro (((Kp.refl (fun _ => False) w).alloc _).then_ K1 (fun _ h => h.elim)).none_below (K1.none_below)))
  clear P1 K1
  go_wp2_with fail
  refine (new_bad (-1) w1 (by decide)).mono ?_
  rintro e w' ⟨rfl, rfl⟩
  go_wp2_with fail
  refine (new_bad 65537 w1 (by decide)).mono ?_
  rintro e w' ⟨rfl, rfl⟩
  go_wp2_with fail
  refine (new_ok 65536 w1 (by decide)).mono ?_
  rintro e w2 ⟨p2, rfl, _, K2⟩
  have hK2 := Aside0.mk K2.none_below
  clear K2
  go_wp2_with fail
  refine (elems_any (some ⟨p1, 0, none⟩) (some [false, true, false, true, false]) w2 (hP1.out.1.step (fun k _ hk => hK2.out.block k hk) |>.mono (fun k hk => Nat.lt_of_lt_of_le hk.2 hK2.out.size)) (by decide) (hD0.out.below (hP1.out.2.1.trans (hK2.out.mono hP1.out.2.1.size)))).mono ?_
  rintro e w3 ⟨u, rfl, R3, B3⟩
  rw [show elemsO (some [false, true, false, true, false]) = [1, 3] from by decide] at R3
  obtain ⟨A3, c3, rfl, hle3, hC3⟩ := Kd.R_reads R3
  have hR3 := Aside0.mk (And.intro hC3 B3)
  clear R3 hC3 B3
  go_wp2_with fail
  refine (of_any 5 _ _ [3] _ (C_new w3 3 .i64 [3] (by decide) _ rfl) (by decide)).mono ?_
  rintro e w4 ⟨v2, rfl, P4, K4⟩
  rw [show ofO 5 [3] = some [false, false, false, true, false] from by decide] at P4
  obtain ⟨p2, rfl⟩ : ∃ p2, v2 = some ⟨p2, 0, none⟩ := by
    rcases P4.ex with ⟨_, h⟩ | ⟨p, _, h, _⟩ | ⟨p, bs, h, _⟩
    · cases h
    · cases h
    · exact ⟨p, h⟩
  have hw34 : Below w3.heap.size w3 w4 := ((Kp.refl (fun _ => False) w3).alloc _).then_ K4 (fun _ h => h.elim) |>.none_below
  have hw04 : Below w.heap.size w w4 := by
    have h1 := hP1.out.2.1
    have h2 := h1.trans (hK2.out.mono h1.size)
    have h3 := h2.trans (hR3.out.2.mono h2.size)
    exact h3.trans (hw34.mono h3.size)
  have H4 : Aside0 (AW w w4 (some ⟨p1, 0, none⟩) (some ⟨p2, 0, none⟩) (some [false, true, false, true, false]) (some [false, false, false, true, false])) := by
    have h1 := hK2.out.size
    have h2 := hR3.out.2.size
    have h3 := hP1.out.2.2.size
    have h4 := K4.size
    simp only [World.size_alloc] at h3 h4
    refine ⟨⟨⟨w.heap.size + 1, w1.heap.size, w3.heap.size + 1, w4.heap.size, by omega, by omega, by omega, by omega, Nat.le_refl _, ?_, ?_⟩, hw04, hD0.out, by decide⟩⟩
    · refine (hP1.out.1.step (fun k hk _ => ?_)).mono (fun k hk => ⟨by have := hk.1; simpa using this, hk.2⟩)
      rw [hw34.block k (by have := hk.2; omega), hR3.out.2.block k (by have := hk.2; omega), hK2.out.block k hk.2]
    · exact P4.here.mono (fun k hk => ⟨by have := hk.1; simpa using this, hk.2⟩)
  have hC4 : Aside0 (Kd.C (Kd.int .i64) (w4.alloc (.cells #[.int .i64 1, .int .i64 3] 3)) A3 2 [1, 3]) := ⟨Kd.C_alloc (Kd.C_below hR3.out.1 hw34) _⟩
  clear P4 K4 hw34 hw04 hR3 hP1 hK2
  go_wp2_with fail
  refine (law_equal A3 c3 [1, 3] _ _ [1, 3] _ hC4.out hle3 (C_new w4 3 .i64 [1, 3] (by decide) _ rfl) (by decide) (by decide) true (by decide)).mono ?_
  rintro e w5 ⟨rfl, q5, rfl⟩
  have H5 := Aside0.mk ((H4.out.alloc (.cells #[.int .i64 1, .int .i64 3] 3)).drewN q5)
  clear H4 hC4
  obtain ⟨w5, hw5⟩ : ∃ w5, ((w4.alloc (.cells #[.int .i64 1, .int .i64 3] 3)).drewN q5) = w5 := ⟨_, rfl⟩
  rw [hw5] at H5 ⊢
  clear hw5
  go_wp2_with fail
  refine (cap_any (some ⟨p1, 0, none⟩) _ _ w5 H5.out.p1).mono ?_
  rintro e w' ⟨rfl, rfl⟩
  go_wp2_with fail
  refine (count_any (some ⟨p1, 0, none⟩) _ w5 H5.out.p1 H5.out.len1 H5.out.dbW).mono ?_
  rw [show (elemsO (some [false, true, false, true, false])).length = 2 from by decide]
  rintro e w6 ⟨rfl, B⟩
  have H6 := Aside0.mk (H5.out.step B)
  clear B H5
  go_wp2_with fail
  refine (AW.write (Pr := fun e => e = .returned (.bool false)) H6.out (o' := some [false, true, false, true, false]) (by decide) (fun ok ok2 h1 h2 hd => add_any (some ⟨p1, 0, none⟩) ok _ 3 w6 h1)).mono ?_
  rintro e w7 ⟨rfl, H⟩
  have H7 := Aside0.mk H
  clear H H6
  go_wp2_with fail
  refine (AW.write (Pr := fun e => e = .returned (.bool true)) H7.out (o' := some [false, true, false, false, false]) (by decide) (fun ok ok2 h1 h2 hd => Subtract_any (some ⟨p1, 0, none⟩) (some ⟨p2, 0, none⟩) ok ok2 _ _ w7 h1 h2 (.inl hd))).mono ?_
  rintro e w8 ⟨rfl, H⟩
  have H8 := Aside0.mk H
  clear H H7
  go_wp2_with fail
  refine (AW.write (Pr := fun e => e = .returned (.bool false)) H8.out (o' := some [false, true, false, false, false]) (by decide) (fun ok ok2 h1 h2 hd => Subtract_any (some ⟨p1, 0, none⟩) (some ⟨p2, 0, none⟩) ok ok2 _ _ w8 h1 h2 (.inl hd))).mono ?_
  rintro e w9 ⟨rfl, H⟩
  have H9 := Aside0.mk H
  clear H H8
  go_wp2_with fail
  refine (has_any (some ⟨p1, 0, none⟩) _ _ 1 w9 H9.out.p1).mono ?_
  rw [show hasO _ _ = true from by decide]
  rintro e w10 ⟨rfl, q, rfl⟩
  have H10 := Aside0.mk (H9.out.drewN q)
  obtain ⟨w10, hw⟩ : ∃ w', w9.drewN q = w' := ⟨_, rfl⟩
  rw [hw] at H10 ⊢
  clear hw H9
  go_wp2_with fail
  refine (has_any (some ⟨p1, 0, none⟩) _ _ 3 w10 H10.out.p1).mono ?_
  rw [show hasO _ _ = false from by decide]
  rintro e w11 ⟨rfl, q, rfl⟩
  have H11 := Aside0.mk (H10.out.drewN q)
  obtain ⟨w11, hw⟩ : ∃ w', w10.drewN q = w' := ⟨_, rfl⟩
  rw [hw] at H11 ⊢
  clear hw H10
  go_wp2_with fail
  refine (count_any (some ⟨p1, 0, none⟩) _ w11 H11.out.p1 H11.out.len1 H11.out.dbW).mono ?_
  rw [show (elemsO (some [false, true, false, false, false])).length = 1 from by decide]
  rintro e w12 ⟨rfl, B⟩
  have H12 := Aside0.mk (H11.out.step B)
  clear B H11
  go_wp2_with fail
  refine (new_ok 6 w12 (by decide)).mono ?_
  rintro e w13 ⟨p6, rfl, N6, K6⟩
  have H13 := Aside0.mk (And.intro H12.out (And.intro K6.none_below (PS.set_ N6)))
  clear N6 K6 H12
  go_wp2_with fail
  refine (AW.with3 (Pr := fun e => e = .returned (.bool false)) H13.out.1 H13.out.2.1 H13.out.2.2 (o' := some [false, true, false, false, false]) (by decide) (fun ok ok3 h1 h3 hd => Union_any (some ⟨p1, 0, none⟩) (some ⟨p6, 0, none⟩) ok ok3 _ _ w13 h1 h3 (.inl hd))).mono ?_
  rintro e w14 ⟨rfl, H⟩
  have H14 := Aside0.mk H
  clear H H13
  go_wp2_with fail
  refine (AW.write (Pr := fun e => e = .returned (.bool true)) H14.out (o' := some [false, true, false, true, false]) (by decide) (fun ok ok2 h1 h2 hd => Union_any (some ⟨p1, 0, none⟩) (some ⟨p2, 0, none⟩) ok ok2 _ _ w14 h1 h2 (.inl hd))).mono ?_
  rintro e w15 ⟨rfl, H⟩
  have H15 := Aside0.mk H
  clear H H14
  go_wp2_with fail
  refine (count_any (some ⟨p1, 0, none⟩) _ w15 H15.out.p1 H15.out.len1 H15.out.dbW).mono ?_
  rw [show (elemsO (some [false, true, false, true, false])).length = 2 from by decide]
  rintro e w16 ⟨rfl, B⟩
  have H16 := Aside0.mk (H15.out.step B)
  clear B H15
  go_wp2_with fail
  refine (AW.write (Pr := fun e => e = .returned (.bool true)) H16.out (o' := some [false, false, false, true, false]) (by decide) (fun ok ok2 h1 h2 hd => remove_any (some ⟨p1, 0, none⟩) ok _ 1 w16 h1)).mono ?_
  rintro e w17 ⟨rfl, H⟩
  have H17 := Aside0.mk H
  clear H H16
  go_wp2_with fail
  refine (AW.write (Pr := fun e => e = .returned (.bool false)) H17.out (o' := some [false, false, false, true, false]) (by decide) (fun ok ok2 h1 h2 hd => remove_any (some ⟨p1, 0, none⟩) ok _ 1 w17 h1)).mono ?_
  rintro e w18 ⟨rfl, H⟩
  have H18 := Aside0.mk H
  clear H H17
  go_wp2_with fail
  refine (equal_any (some ⟨p1, 0, none⟩) (some ⟨p2, 0, none⟩) _ _ _ _ w18 H18.out.p1 H18.out.p2).mono ?_
  rw [show decide _ = true from by decide]
  rintro e w19 ⟨rfl, q, rfl⟩
  have H19 := Aside0.mk (H18.out.drewN q)
  obtain ⟨w19, hw⟩ : ∃ w', w18.drewN q = w' := ⟨_, rfl⟩
  rw [hw] at H19 ⊢
  clear hw H18
  go_wp2_with fail
  refine (clone_any (some ⟨p1, 0, none⟩) _ _ w19 H19.out.p1).mono ?_
  rintro e w20 ⟨v3, rfl, P20, K20⟩
  have H20 := Aside0.mk (And.intro P20 (H19.out.step K20.none_below))
  clear P20 K20 H19
  go_wp2_with fail
  refine (equal_any v3 (some ⟨p2, 0, none⟩) _ _ _ _ w20 H20.out.1 H20.out.2.p2).mono ?_
  rw [show decide _ = true from by decide]
  rintro e w21 ⟨rfl, q, rfl⟩
  have H21 := Aside0.mk ((H20.out.2.drewN q).below)
  clear H20
  go_wp2
  go_ret
  exact ⟨rfl, H21.out⟩
end Go.Proofs.YtibjpamnkhnagaaDoor
