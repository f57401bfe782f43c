import Derived.Test.YtjacphcbiaacnaaDoorMSFu7
section
namespace Go.Proofs.YtjacphcbiaacnaaDoor.PDigraphTells
open Mem Go.RowKit Go.Proofs.YtjacphcbiaacnaaDoorW.PrintWords Go.Proofs.YtjacphcbiaacnaaDoorW.PrintLast Go.Proofs.YtjacphcbiaacnaaDoorW.PrintMore
attribute [local go_sem] max2_int min2_int max_two min_two max_three min_three max_four min_four
set_option linter.unusedVariables false
set_option linter.unusedSimpArgs false
mutual
def burnishref52_next.l0 : Nat → List (List Int) → List Int → List Int → Int → Int → Int → Int → Int → Int → List Int → List Int → List (S48) → Int → List Int → List Int → List (S98) → Int → Option (Int)
 | 0, _, _, _, _, _, _, _, _, _, _, _, _, _, _, _, _, _ => none
 | k + 1, x2, x3, x4, x5, x13, x19, x20, x239000, x239001, x239002, x240000, x240001, x240002, x240003, x240004, x240005, x240006 => if x20 < x19 then (if 0 ≤ x20 then (if x20 < (x4.length : Int) then (if x20 < (x2.length : Int) then (burnishref52_next.l1 k x2 x3 x4 x5 x13 x20 (decide ((rd x4 x20) < 0)) x19 x20 (rd_L1 x2 x20) ((rd_L1 x2 x20).length : Int) 0 x239000 x239001 x239002 x240000 x240001 x240002 x240003 x240004 x240005 x240006) else (none)) else (none)) else (none)) else (some x13)
def burnishref52_next.l1 : Nat → List (List Int) → List Int → List Int → Int → Int → Int → Bool → Int → Int → List Int → Int → Int → Int → Int → List Int → List Int → List (S48) → Int → List Int → List Int → List (S98) → Int → Option (Int)
 | 0, _, _, _, _, _, _, _, _, _, _, _, _, _, _, _, _, _, _, _, _, _, _ => none
 | k + 1, x2, x3, x4, x5, x13, x14, x15, x19, x20, x31, x32, x33, x239000, x239001, x239002, x240000, x240001, x240002, x240003, x240004, x240005, x240006 => if x33 < x32 then (if 0 ≤ x33 then (if x33 < (x31.length : Int) then (if x15 = true then (if 0 ≤ (rd x31 x33) then (if (rd x31 x33) < (x4.length : Int) then (if (rd x4 (rd x31 x33)) ≥ 0 then ((burnishref52_delay.f k x239000 x239001 x239002 x240000 x240001 x240002 x240003 x240004 x240005 x240006 (rd x31 x33) x14).bind fun t245 => (burnishref52_next.l1 k x2 x3 x4 x5 x13 x14 (decide ((wrap64 ((rd x4 (rd x31 x33)) + t245)) ≤ x5)) x19 x20 x31 x32 (wrap64 (x33 + 1)) x239000 x239001 x239002 x240000 x240001 x240002 x240003 x240004 x240005 x240006)) else (burnishref52_next.l1 k x2 x3 x4 x5 x13 x14 false x19 x20 x31 x32 (wrap64 (x33 + 1)) x239000 x239001 x239002 x240000 x240001 x240002 x240003 x240004 x240005 x240006)) else (none)) else (none)) else (burnishref52_next.l1 k x2 x3 x4 x5 x13 x14 false x19 x20 x31 x32 (wrap64 (x33 + 1)) x239000 x239001 x239002 x240000 x240001 x240002 x240003 x240004 x240005 x240006)) else (none)) else (none)) else (if x15 = true then (if x13 < 0 then (burnishref52_next.l0 k x2 x3 x4 x5 x14 x19 (wrap64 (x20 + 1)) x239000 x239001 x239002 x240000 x240001 x240002 x240003 x240004 x240005 x240006) else (if 0 ≤ x14 then (if x14 < (x3.length : Int) then (if 0 ≤ x13 then (if x13 < (x3.length : Int) then (if (rd x3 x14) > (rd x3 x13) then (burnishref52_next.l0 k x2 x3 x4 x5 x14 x19 (wrap64 (x20 + 1)) x239000 x239001 x239002 x240000 x240001 x240002 x240003 x240004 x240005 x240006) else (burnishref52_next.l0 k x2 x3 x4 x5 x13 x19 (wrap64 (x20 + 1)) x239000 x239001 x239002 x240000 x240001 x240002 x240003 x240004 x240005 x240006)) else (none)) else (none)) else (none)) else (none))) else (burnishref52_next.l0 k x2 x3 x4 x5 x13 x19 (wrap64 (x20 + 1)) x239000 x239001 x239002 x240000 x240001 x240002 x240003 x240004 x240005 x240006))
end
def burnishref52_next.f (k : Nat) (a0_0 : Int) (a0_1 : Int) (l0_2 : List Int) (l1_0 : List Int) (l1_1 : List (S48)) (a1_2 : Int) (l1_3 : List Int) (l1_4 : List Int) (l1_5 : List (S98)) (a1_6 : Int) (l2 : List (List Int)) (l3 : List Int) (l4 : List Int) (a5 : Int) : Option (Int) := burnishref52_next.l0 k l2 l3 l4 a5 (-1) (l4.length : Int) 0 a0_0 a0_1 l0_2 l1_0 l1_1 a1_2 l1_3 l1_4 l1_5 a1_6
set_option maxHeartbeats 8000000 in
set_option maxRecDepth 100000 in
theorem burnishref52_next.calls (k : Nat) (a0_0 : Int) (a0_1 : Int) (A0_2 : Option Addr) (c0_2 : Nat) (l0_2 : List Int) (A1_0 : Option Addr) (c1_0 : Nat) (l1_0 : List Int) (A1_1 : Option Addr) (c1_1 : Nat) (l1_1 : List (S48)) (a1_2 : Int) (A1_3 : Option Addr) (c1_3 : Nat) (l1_3 : List Int) (A1_4 : Option Addr) (c1_4 : Nat) (l1_4 : List Int) (A1_5 : Option Addr) (c1_5 : Nat) (l1_5 : List (S98)) (a1_6 : Int) (A2 : Option Addr) (c2 : Nat) (l2 : List (List Int)) (A3 : Option Addr) (c3 : Nat) (l3 : List Int) (A4 : Option Addr) (c4 : Nat) (l4 : List Int) (a5 : Int) (r : Int) (w : World) (hr0_2 : Kd.C (Kd.int .i64) w A0_2 l0_2.length l0_2) (hc0_2 : l0_2.length ≤ c0_2) (hr1_0 : Kd.C (Kd.int .i64) w A1_0 l1_0.length l1_0) (hc1_0 : l1_0.length ≤ c1_0) (hr1_1 : Kd.C k48 w A1_1 l1_1.length l1_1) (hc1_1 : l1_1.length ≤ c1_1) (hr1_3 : Kd.C (Kd.int .i64) w A1_3 l1_3.length l1_3) (hc1_3 : l1_3.length ≤ c1_3) (hr1_4 : Kd.C (Kd.int .i64) w A1_4 l1_4.length l1_4) (hc1_4 : l1_4.length ≤ c1_4) (hr1_5 : Kd.C k98 w A1_5 l1_5.length l1_5) (hc1_5 : l1_5.length ≤ c1_5) (hr2 : Kd.C (Kd.slice 3 (Kd.int .i64)) w A2 l2.length l2) (hc2 : l2.length ≤ c2) (hr3 : Kd.C (Kd.int .i64) w A3 l3.length l3) (hc3 : l3.length ≤ c3) (hr4 : Kd.C (Kd.int .i64) w A4 l4.length l4) (hc4 : l4.length ≤ c4) (h : burnishref52_next.f k a0_0 a0_1 l0_2 l1_0 l1_1 a1_2 l1_3 l1_4 l1_5 a1_6 l2 l3 l4 a5 = some r) :
  Calls Tryd.prog 30 #[.agg #[.int .i64 a0_0, .int .i64 a0_1, .slice A0_2 l0_2.length c0_2], .agg #[.slice A1_0 l1_0.length c1_0, .slice A1_1 l1_1.length c1_1, .int .i64 a1_2, .slice A1_3 l1_3.length c1_3, .slice A1_4 l1_4.length c1_4, .slice A1_5 l1_5.length c1_5, .int .i64 a1_6], .slice A2 l2.length c2, .slice A3 l3.length c3, .slice A4 l4.length c4, .int .i64 a5] w fun e w' => e = .returned (.int .i64 r) ∧ Below w.heap.size w w' := by
 have hRs := Aside0.mk (And.intro hr2 (And.intro hr3 hr4))
 have hDl := Aside0.mk (fun (W1 : World) (e1 : Below w.heap.size w W1) (q : Nat) (i j d : Int) (hd : burnishref52_delay.f q a0_0 a0_1 l0_2 l1_0 l1_1 a1_2 l1_3 l1_4 l1_5 a1_6 i j = some d) => burnishref52_delay.calls q a0_0 a0_1 A0_2 c0_2 l0_2 A1_0 c1_0 l1_0 A1_1 c1_1 l1_1 a1_2 A1_3 c1_3 l1_3 A1_4 c1_4 l1_4 A1_5 c1_5 l1_5 a1_6 i j d W1 (Kd.C_below hr0_2 e1) hc0_2 (Kd.C_below hr1_0 e1) hc1_0 (Kd.C_below hr1_1 e1) hc1_1 (Kd.C_below hr1_3 e1) hc1_3 (Kd.C_below hr1_4 e1) hc1_4 (Kd.C_below hr1_5 e1) hc1_5 hd)
 have HH := Aside0.mk (show burnishref52_next.l0 k l2 l3 l4 a5 (-1) (l4.length : Int) 0 a0_0 a0_1 l0_2 l1_0 l1_1 a1_2 l1_3 l1_4 l1_5 a1_6 = some r from h)
 clear h hr0_2 hc0_2 hr1_0 hc1_0 hr1_1 hc1_1 hr1_3 hc1_3 hr1_4 hc1_4 hr1_5 hc1_5 hr2 hc2 hr3 hc3 hr4 hc4
 go_enter Tryd.func30, Tryd.ntmps30
 go_upto_region 1 with (fail)
 obtain ⟨w2, hw2⟩ : ∃ w2, (w.alloc (.cells #[.int .i64 a0_0, .int .i64 a0_1, .slice A0_2 l0_2.length c0_2] 37 (0, 0))).alloc (.cells #[.slice A1_0 l1_0.length c1_0, .slice A1_1 l1_1.length c1_1, .int .i64 a1_2, .slice A1_3 l1_3.length c1_3, .slice A1_4 l1_4.length c1_4, .slice A1_5 l1_5.length c1_5, .int .i64 a1_6] 31 (0, 0)) = w2 := ⟨_, rfl⟩
 obtain ⟨b0, hb0⟩ : ∃ b0, w.heap.size = b0 := ⟨_, rfl⟩
 obtain ⟨B2, h7, h8⟩ := blk2 hw2 hb0
 rw [hw2, hb0]
 clear hw2 hb0
 have hCl : Aside0 (∀ W1 : World, Below w2.heap.size w2 W1 → W1.cell? ⟨b0, 0, none⟩ = some (.int .i64 a0_0) ∧ W1.cell? ⟨b0, 1, none⟩ = some (.int .i64 a0_1) ∧ W1.cell? ⟨b0, 2, none⟩ = some (.slice A0_2 l0_2.length c0_2) ∧ W1.cell? ⟨b0 + 1, 0, none⟩ = some (.slice A1_0 l1_0.length c1_0) ∧ W1.cell? ⟨b0 + 1, 1, none⟩ = some (.slice A1_1 l1_1.length c1_1) ∧ W1.cell? ⟨b0 + 1, 2, none⟩ = some (.int .i64 a1_2) ∧ W1.cell? ⟨b0 + 1, 3, none⟩ = some (.slice A1_3 l1_3.length c1_3) ∧ W1.cell? ⟨b0 + 1, 4, none⟩ = some (.slice A1_4 l1_4.length c1_4) ∧ W1.cell? ⟨b0 + 1, 5, none⟩ = some (.slice A1_5 l1_5.length c1_5) ∧ W1.cell? ⟨b0 + 1, 6, none⟩ = some (.int .i64 a1_6)) := ⟨fun W1 e1 => by
  have z1 := (e1.block _ (blk_lt' h7)).trans h7
  have z2 := (e1.block _ (blk_lt' h8)).trans h8
  exact ⟨cell_at z1 rfl, cell_at z1 rfl, cell_at z1 rfl, cell_at z2 rfl, cell_at z2 rfl, cell_at z2 rfl, cell_at z2 rfl, cell_at z2 rfl, cell_at z2 rfl, cell_at z2 rfl⟩⟩
 have hB2 := Aside0.mk B2
 have hBz := Aside0.mk (Below.refl w2.heap.size w2)
 clear B2 h7 h8
 go_wp2_with fail
 go_loopg [13, 20] k (fun kq v13 v20 wi => ∃ x13 x20 : Int, v13 = .int .i64 x13 ∧ v20 = .int .i64 x20 ∧ Aside0 (burnishref52_next.l0 kq l2 l3 l4 a5 x13 (l4.length : Int) x20 a0_0 a0_1 l0_2 l1_0 l1_1 a1_2 l1_3 l1_4 l1_5 a1_6 = some r) ∧ Aside0 (Below w2.heap.size w2 wi))
 case atStart => exact ⟨-1, 0, rfl, rfl, HH, hBz⟩
 case round =>
  obtain ⟨x13, x20, rfl, rfl, HA, hJ⟩ := hrel
  clear HH hBz
  cases gk with
  | zero => exact absurd HA.out (by simp [burnishref52_next.l0])
  | succ k1 =>
   have H := HA.out
   clear HA
   simp only [burnishref52_next.l0] at H
   have hgk : k1 < k1 + 1 := by omega
   by_cases q1 : x20 < (l4.length : Int)
   ·rw [if_pos q1] at H
    by_cases q2 : 0 ≤ x20
    ·rw [if_pos q2, if_pos q1] at H
     by_cases q3 : x20 < (l2.length : Int)
     ·rw [if_pos q3] at H
      have q1b : decide (x20 < (l4.length : Int)) = true := decide_eq_true q1
      have hBw := hB2.out.trans (hJ.out.mono hB2.out.size)
      obtain ⟨ap, eA, v4⟩ := Kd.at_int (Kd.C_below hRs.out.2.2 hBw) x20 q2 q1
      subst eA
      obtain ⟨ad, Ae, ce, eA, v2, lb, Cb⟩ := at_L1 (Kd.C_below hRs.out.1 hBw) x20 q2 q3
      subst eA
      obtain ⟨E, hE⟩ : ∃ E, rd_L1 l2 x20 = E := ⟨_, rfl⟩
      rw [hE] at H v2 lb Cb
      replace H := Aside0.mk H
      have hCb := Aside0.mk (fun (W1 : World) (e1 : Below wr.heap.size wr W1) => Kd.C_below Cb e1)
      have hJo : Aside0 (Below wr.heap.size wr wr) := ⟨Below.refl _ _⟩
      have hq := Aside0.mk (And.intro q2 (And.intro q1 q3))
      clear Cb lb hE hBw
      go_wp2_with fail
      clear v4 v2
      go_loopg [15, 33] k1 (fun kq v15 v33 wi => ∃ (x15 : Bool) (x33 : Int), v15 = .bool x15 ∧ v33 = .int .i64 x33 ∧ Aside0 (burnishref52_next.l1 kq l2 l3 (l4) a5 x13 x20 x15 (l4.length : Int) x20 E (E.length : Int) x33 a0_0 a0_1 l0_2 l1_0 l1_1 a1_2 l1_3 l1_4 l1_5 a1_6 = some r) ∧ Aside0 (Below w2.heap.size w2 wi) ∧ Aside0 (Below wr.heap.size wr wi) ∧ Aside0 (kq ≤ k1))
      case atStart => exact ⟨_, 0, rfl, rfl, H, hJ, hJo, ⟨Nat.le_refl _⟩⟩
      case round =>
       obtain ⟨x15, x33, rfl, rfl, HA, hJ2, hJ3, hle⟩ := hrel
       clear H hJo
       cases gk with
       | zero => exact absurd HA.out (by simp [burnishref52_next.l1])
       | succ k3 =>
        have H := HA.out
        clear HA
        simp only [burnishref52_next.l1] at H
        have hgk3 : k3 < k3 + 1 := by omega
        by_cases q4 : x33 < (E.length : Int)
        ·rw [if_pos q4] at H
         by_cases q5 : 0 ≤ x33
         ·rw [if_pos q5, if_pos q4] at H
          have q4b : decide (x33 < (E.length : Int)) = true := decide_eq_true q4
          obtain ⟨ae, eA, v5⟩ := Kd.at_int (hCb.out _ hJ3.out) x33 q5 q4
          subst eA
          obtain ⟨pp, hpp⟩ : ∃ pp, rd E x33 = pp := ⟨_, rfl⟩
          rw [hpp] at H v5
          clear hpp
          go_upto_region 9 with (fail)
          clear v5
          cases x15 with
          | false =>
           rw [if_neg (by simp)] at H
           replace H := Aside0.mk H
           clear q1 q2 q3 q4 q5 q1b q4b
           go_quiet (fail)
           go_wp2_with fail
           go_roundg k3
           case rel => exact ⟨false, wrap64 (x33 + 1), (by first | rfl | (simp; done) | (simp [*]; done)), (by first | rfl | (simp; done) | (simp [*]; done)), H, ⟨bl2 hJ2.out (pw_below_drewN (Below.refl _ _) _)⟩, ⟨bl2 hJ3.out (pw_below_drewN (Below.refl _ _) _)⟩, ⟨by have := hle.out; omega⟩⟩
           case measure => exact hgk3
          | true =>
           rw [if_pos rfl] at H
           by_cases q6 : 0 ≤ pp
           ·rw [if_pos q6] at H
            by_cases q7 : pp < (l4.length : Int)
            ·rw [if_pos q7] at H
             obtain ⟨ap2, eA, v6⟩ := Kd.at_int (Kd.C_below hRs.out.2.2 (hB2.out.trans (hJ2.out.mono hB2.out.size))) pp q6 q7
             injection eA with eA
             subst eA
             obtain ⟨tp, htp⟩ : ∃ tp, rd l4 pp = tp := ⟨_, rfl⟩
             rw [htp] at H v6
             clear htp q1 q2 q3 q4 q5 q1b q4b
             by_cases q8 : tp ≥ 0
             ·rw [if_pos q8] at H
              have q8b : decide (0 ≤ tp) = true := decide_eq_true q8
              obtain ⟨d, hd, H1⟩ := Option.bind_eq_some_iff.1 H
              clear H
              have H := Aside0.mk H1
              replace hd := Aside0.mk hd
              obtain ⟨k0, k1, k2, l0, l1, l2, l3, l4, l5, l6⟩ := hCl.out wr hJ2.out
              clear H1 q8
              refine Held.begin_ (S := fun W1 => W1.cell? ⟨b0, 0, none⟩ = some (.int .i64 a0_0) ∧ W1.cell? ⟨b0, 1, none⟩ = some (.int .i64 a0_1) ∧ W1.cell? ⟨b0, 2, none⟩ = some (.slice A0_2 l0_2.length c0_2) ∧ W1.cell? ⟨b0 + 1, 0, none⟩ = some (.slice A1_0 l1_0.length c1_0) ∧ W1.cell? ⟨b0 + 1, 1, none⟩ = some (.slice A1_1 l1_1.length c1_1) ∧ W1.cell? ⟨b0 + 1, 2, none⟩ = some (.int .i64 a1_2) ∧ W1.cell? ⟨b0 + 1, 3, none⟩ = some (.slice A1_3 l1_3.length c1_3) ∧ W1.cell? ⟨b0 + 1, 4, none⟩ = some (.slice A1_4 l1_4.length c1_4) ∧ W1.cell? ⟨b0 + 1, 5, none⟩ = some (.slice A1_5 l1_5.length c1_5) ∧ W1.cell? ⟨b0 + 1, 6, none⟩ = some (.int .i64 a1_6) ∧ W1.cell? (ap.add pp.toNat) = some (.int .i64 tp)) 22 (by kernel_rfl) (by kernel_rfl) ?_ (fun hHeld => ?_)
              ·exact ⟨k0, k1, k2, l0, l1, l2, l3, l4, l5, l6, v6⟩
              simp only [List.length_cons, List.length_nil, Nat.reduceAdd, List.replicate, Array.replicate]
              refine Held.take_ (v := ?vv1438900) 0 rfl rfl (by kernel_rfl) (by kernel_rfl) (fun _ _ _ h => h) (by assumption) (Or.inl ⟨by rfl, ?hy1438900⟩) ?_
              case hy1438900 => intro w hSw; (try dsimp only at hSw); (go_simp <;> with_reducible rfl)
              try simp only [Act.put, List.setIfInBounds_toArray, List.set_cons_zero, List.set_cons_succ]
              refine Held.take_ (v := ?vv1438901) 1 rfl rfl (by kernel_rfl) (by kernel_rfl) (fun _ _ _ h => h) (by assumption) (Or.inl ⟨by rfl, ?hy1438901⟩) ?_
              case hy1438901 => intro w hSw; (try dsimp only at hSw); (go_simp <;> with_reducible rfl)
              try simp only [Act.put, List.setIfInBounds_toArray, List.set_cons_zero, List.set_cons_succ]
              refine Held.take_ (v := ?vv1438902) 2 rfl rfl (by kernel_rfl) (by kernel_rfl) (fun _ _ _ h => h) (by assumption) (Or.inl ⟨by rfl, ?hy1438902⟩) ?_
              case hy1438902 => intro w hSw; (try dsimp only at hSw); (go_simp <;> with_reducible rfl)
              try simp only [Act.put, List.setIfInBounds_toArray, List.set_cons_zero, List.set_cons_succ]
              refine Held.take_ (v := ?vv1438903) 3 rfl rfl (by kernel_rfl) (by kernel_rfl) (fun _ _ _ h => h) (by assumption) (Or.inl ⟨by rfl, ?hy1438903⟩) ?_
              case hy1438903 => intro w hSw; (try dsimp only at hSw); (go_simp <;> with_reducible rfl)
              try simp only [Act.put, List.setIfInBounds_toArray, List.set_cons_zero, List.set_cons_succ]
              refine Held.take_ (v := ?vv1438904) 4 rfl rfl (by kernel_rfl) (by kernel_rfl) (fun _ _ _ h => h) (by assumption) (Or.inl ⟨by rfl, ?hy1438904⟩) ?_
              case hy1438904 => intro w hSw; (try dsimp only at hSw); (go_simp <;> with_reducible rfl)
              try simp only [Act.put, List.setIfInBounds_toArray, List.set_cons_zero, List.set_cons_succ]
              refine Held.take_ (v := ?vv1438905) 5 rfl rfl (by kernel_rfl) (by kernel_rfl) (fun _ _ _ h => h) (by assumption) (Or.inl ⟨by rfl, ?hy1438905⟩) ?_
              case hy1438905 => intro w hSw; (try dsimp only at hSw); (go_simp <;> with_reducible rfl)
              try simp only [Act.put, List.setIfInBounds_toArray, List.set_cons_zero, List.set_cons_succ]
              refine Held.take_ (v := ?vv1438906) 6 rfl rfl (by kernel_rfl) (by kernel_rfl) (fun _ _ _ h => h) (by assumption) (Or.inl ⟨by rfl, ?hy1438906⟩) ?_
              case hy1438906 => intro w hSw; (try dsimp only at hSw); (go_simp <;> with_reducible rfl)
              try simp only [Act.put, List.setIfInBounds_toArray, List.set_cons_zero, List.set_cons_succ]
              refine Held.take_ (v := ?vv1438907) 7 rfl rfl (by kernel_rfl) (by kernel_rfl) (fun _ _ _ h => h) (by assumption) (Or.inl ⟨by rfl, ?hy1438907⟩) ?_
              case hy1438907 => intro w hSw; (try dsimp only at hSw); (go_simp <;> with_reducible rfl)
              try simp only [Act.put, List.setIfInBounds_toArray, List.set_cons_zero, List.set_cons_succ]
              refine Held.take_ (v := ?vv1438908) 8 rfl rfl (by kernel_rfl) (by kernel_rfl) (fun _ _ _ h => h) (by assumption) (Or.inl ⟨by rfl, ?hy1438908⟩) ?_
              case hy1438908 => intro w hSw; (try dsimp only at hSw); (go_simp <;> with_reducible rfl)
              try simp only [Act.put, List.setIfInBounds_toArray, List.set_cons_zero, List.set_cons_succ]
              refine Held.take_ (v := ?vv1438909) 9 rfl rfl (by kernel_rfl) (by kernel_rfl) (fun _ _ _ h => h) (by assumption) (Or.inl ⟨by rfl, ?hy1438909⟩) ?_
              case hy1438909 => intro w hSw; (try dsimp only at hSw); (go_simp <;> with_reducible rfl)
              try simp only [Act.put, List.setIfInBounds_toArray, List.set_cons_zero, List.set_cons_succ]
              refine Held.take_ (v := ?vv1438910) 10 rfl rfl (by kernel_rfl) (by kernel_rfl) (fun _ _ _ h => h) (by assumption) (Or.inl ⟨by rfl, ?hy1438910⟩) ?_
              case hy1438910 => intro w hSw; (try dsimp only at hSw); (go_simp <;> with_reducible rfl)
              try simp only [Act.put, List.setIfInBounds_toArray, List.set_cons_zero, List.set_cons_succ]
              refine Held.take_ (v := ?vv1438911) 11 rfl rfl (by kernel_rfl) (by kernel_rfl) (fun _ _ _ h => h) (by assumption) (Or.inl ⟨by rfl, ?hy1438911⟩) ?_
              case hy1438911 => intro w hSw; (try dsimp only at hSw); (go_simp <;> with_reducible rfl)
              try simp only [Act.put, List.setIfInBounds_toArray, List.set_cons_zero, List.set_cons_succ]
              refine Held.take_ (v := ?vv1438912) 12 rfl rfl (by kernel_rfl) (by kernel_rfl) (fun _ _ _ h => h) (by assumption) (Or.inl ⟨by rfl, ?hy1438912⟩) ?_
              case hy1438912 => intro w hSw; (try dsimp only at hSw); (go_simp <;> with_reducible rfl)
              try simp only [Act.put, List.setIfInBounds_toArray, List.set_cons_zero, List.set_cons_succ]
              refine Held.take_ (v := ?vv1438913) 13 rfl rfl (by kernel_rfl) (by kernel_rfl) (fun _ _ _ h => h) (by assumption) (Or.inl ⟨by rfl, ?hy1438913⟩) ?_
              case hy1438913 => intro w hSw; (try dsimp only at hSw); (go_simp <;> with_reducible rfl)
              try simp only [Act.put, List.setIfInBounds_toArray, List.set_cons_zero, List.set_cons_succ]
              refine Held.take_ (v := ?vv1438914) 14 rfl rfl (by kernel_rfl) (by kernel_rfl) (fun _ _ _ h => h) (by assumption) (Or.inl ⟨by rfl, ?hy1438914⟩) ?_
              case hy1438914 => intro w hSw; (try dsimp only at hSw); (go_simp <;> with_reducible rfl)
              try simp only [Act.put, List.setIfInBounds_toArray, List.set_cons_zero, List.set_cons_succ]
              refine Held.take_ (v := ?vv1438915) 15 rfl rfl (by kernel_rfl) (by kernel_rfl) (fun _ _ _ h => h) (by assumption) (Or.inl ⟨by rfl, ?hy1438915⟩) ?_
              case hy1438915 => intro w hSw; (try dsimp only at hSw); (go_simp <;> with_reducible rfl)
              try simp only [Act.put, List.setIfInBounds_toArray, List.set_cons_zero, List.set_cons_succ]
              refine Held.take_ (v := ?vv1438916) 16 rfl rfl (by kernel_rfl) (by kernel_rfl) (fun _ _ _ h => h) (by assumption) (Or.inl ⟨by rfl, ?hy1438916⟩) ?_
              case hy1438916 => intro w hSw; (try dsimp only at hSw); (go_simp <;> with_reducible rfl)
              try simp only [Act.put, List.setIfInBounds_toArray, List.set_cons_zero, List.set_cons_succ]
              refine Held.take_ (v := ?vv1438919) 19 rfl rfl (by kernel_rfl) (by kernel_rfl) (fun _ _ _ h => h) (by assumption) (Or.inl ⟨by rfl, ?hy1438919⟩) ?_
              case hy1438919 => intro w hSw; (try dsimp only at hSw); (go_simp <;> with_reducible rfl)
              try simp only [Act.put, List.setIfInBounds_toArray, List.set_cons_zero, List.set_cons_succ]
              refine Held.step_ 17 rfl rfl (by kernel_rfl) (fun K hK => ?_)
              go_simp
              go_at_call 44
              with_reducible refine (hDl.out _ ((hB2.out.trans (hJ2.out.mono hB2.out.size)).trans ((below_drew (Below.refl _ wr)).mono (Below.size (hB2.out.trans (hJ2.out.mono hB2.out.size))))) _ _ _ _ hd.out).mono ?_
              rintro e' w9 ⟨rfl, Bx0⟩
              have Bx := Aside0.mk ((below_drew (Below.refl _ wr)).trans Bx0)
              clear Bx0
              have f1 : (fun W1 => W1.cell? ⟨b0, 0, none⟩ = some (.int .i64 a0_0) ∧ W1.cell? ⟨b0, 1, none⟩ = some (.int .i64 a0_1) ∧ W1.cell? ⟨b0, 2, none⟩ = some (.slice A0_2 l0_2.length c0_2) ∧ W1.cell? ⟨b0 + 1, 0, none⟩ = some (.slice A1_0 l1_0.length c1_0) ∧ W1.cell? ⟨b0 + 1, 1, none⟩ = some (.slice A1_1 l1_1.length c1_1) ∧ W1.cell? ⟨b0 + 1, 2, none⟩ = some (.int .i64 a1_2) ∧ W1.cell? ⟨b0 + 1, 3, none⟩ = some (.slice A1_3 l1_3.length c1_3) ∧ W1.cell? ⟨b0 + 1, 4, none⟩ = some (.slice A1_4 l1_4.length c1_4) ∧ W1.cell? ⟨b0 + 1, 5, none⟩ = some (.slice A1_5 l1_5.length c1_5) ∧ W1.cell? ⟨b0 + 1, 6, none⟩ = some (.int .i64 a1_6) ∧ W1.cell? (ap.add pp.toNat) = some (.int .i64 tp)) w9 := ⟨(Bx.out.cell (World.block_lt_of_cell? _ _ k0)).trans k0, (Bx.out.cell (World.block_lt_of_cell? _ _ k1)).trans k1, (Bx.out.cell (World.block_lt_of_cell? _ _ k2)).trans k2, (Bx.out.cell (World.block_lt_of_cell? _ _ l0)).trans l0, (Bx.out.cell (World.block_lt_of_cell? _ _ l1)).trans l1, (Bx.out.cell (World.block_lt_of_cell? _ _ l2)).trans l2, (Bx.out.cell (World.block_lt_of_cell? _ _ l3)).trans l3, (Bx.out.cell (World.block_lt_of_cell? _ _ l4)).trans l4, (Bx.out.cell (World.block_lt_of_cell? _ _ l5)).trans l5, (Bx.out.cell (World.block_lt_of_cell? _ _ l6)).trans l6, (Bx.out.cell (World.block_lt_of_cell? _ _ v6)).trans v6⟩
              go_wp2_with fail
              refine hK.out _ _ f1 (fun hHeld2 => ?_)
              clear hK K f1
              try simp only [Act.put, List.setIfInBounds_toArray, List.set_cons_zero, List.set_cons_succ]
              refine Held.take_ (v := ?vv1669018) 18 rfl rfl (by kernel_rfl) (by kernel_rfl) (fun _ _ _ h => h) (by assumption) (Or.inl ⟨by rfl, ?hy1669018⟩) ?_
              case hy1669018 => intro w hSw; (try dsimp only at hSw); (go_simp <;> with_reducible rfl)
              try simp only [Act.put, List.setIfInBounds_toArray, List.set_cons_zero, List.set_cons_succ]
              refine Held.take_ (v := ?vv1669020) 20 rfl rfl (by kernel_rfl) (by kernel_rfl) (fun _ _ _ h => h) (by assumption) (Or.inl ⟨by rfl, ?hy1669020⟩) ?_
              case hy1669020 => intro w hSw; (try dsimp only at hSw); (go_simp <;> with_reducible rfl)
              try simp only [Act.put, List.setIfInBounds_toArray, List.set_cons_zero, List.set_cons_succ]
              refine Held.take_ (v := ?vv1669021) 21 rfl rfl (by kernel_rfl) (by kernel_rfl) (fun _ _ _ h => h) (by assumption) (Or.inl ⟨by rfl, ?hy1669021⟩) ?_
              case hy1669021 => intro w hSw; (try dsimp only at hSw); (go_simp <;> with_reducible rfl)
              try simp only [Act.put, List.setIfInBounds_toArray, List.set_cons_zero, List.set_cons_succ]
              refine Held.rest_ (by kernel_rfl) ?_
              simp only [List.drop_succ_cons, List.drop_zero]
              clear hHeld hHeld2 k0 k1 k2 l0 l1 l2 l3 l4 l5 l6 v6 hd q6 q7 q8b
              go_wp2_with fail
              go_roundg k3
              case rel => exact ⟨decide (wrap64 (tp + d) ≤ a5), wrap64 (x33 + 1), (by rw [i64_w]), (by first | rfl | (simp; done) | (simp [*]; done)), H, ⟨bl2 hJ2.out Bx.out⟩, ⟨bl2 hJ3.out Bx.out⟩, ⟨by have := hle.out; omega⟩⟩
              case measure => exact hgk3
             ·rw [if_neg q8] at H
              have q8b : decide (0 ≤ tp) = false := decide_eq_false q8
              replace H := Aside0.mk H
              clear q8
              go_quiet (fail)
              clear q6 q7 q8b v6
              go_wp2_with fail
              go_roundg k3
              case rel => exact ⟨false, wrap64 (x33 + 1), (by first | rfl | (simp; done) | (simp [*]; done)), (by first | rfl | (simp; done) | (simp [*]; done)), H, ⟨bl2 hJ2.out (pw_below_drewN (Below.refl _ _) _)⟩, ⟨bl2 hJ3.out (pw_below_drewN (Below.refl _ _) _)⟩, ⟨by have := hle.out; omega⟩⟩
              case measure => exact hgk3
            ·rw [if_neg q7] at H; cases H
           ·rw [if_neg q6] at H; cases H
         ·rw [if_neg q5] at H; cases H
        ·rw [if_neg q4] at H
         have q4b : decide (x33 < (E.length : Int)) = false := decide_eq_false q4
         go_upto_region 11 with (fail)
         clear q4 q4b q1b
         cases x15 with
         | false =>
          rw [if_neg (by simp)] at H
          replace H := Aside0.mk H
          clear q1 q2 q3
          go_quiet (fail)
          go_wp2_with fail
          go_roundg k3
          case rel => exact ⟨x13, wrap64 (x20 + 1), (by first | rfl | (simp; done) | (simp [*]; done)), (by first | rfl | (simp; done) | (simp [*]; done)), H, ⟨bl2 hJ2.out (pw_below_drewN (Below.refl _ _) _)⟩⟩
          case measure => (have := hle.out; omega)
         | true =>
          rw [if_pos rfl] at H
          by_cases q8 : x13 < 0
          ·rw [if_pos q8] at H
           have q8b : decide (x13 < 0) = true := decide_eq_true q8
           replace H := Aside0.mk H
           clear q1 q2 q3 q8
           go_quiet (fail)
           clear q8b
           go_wp2_with fail
           go_roundg k3
           case rel => exact ⟨x20, wrap64 (x20 + 1), (by first | rfl | (simp; done) | (simp [*]; done)), (by first | rfl | (simp; done) | (simp [*]; done)), H, ⟨bl2 hJ2.out (pw_below_drewN (Below.refl _ _) _)⟩⟩
           case measure => (have := hle.out; omega)
          ·rw [if_neg q8, if_pos q2] at H
           by_cases q5 : x20 < (l3.length : Int)
           ·rw [if_pos q5] at H
            by_cases q6 : 0 ≤ x13
            ·rw [if_pos q6] at H
             by_cases q7 : x13 < (l3.length : Int)
             ·rw [if_pos q7] at H
              have q8b : decide (x13 < 0) = false := decide_eq_false q8
              have R3 := Kd.C_below hRs.out.2.1 (hB2.out.trans (hJ2.out.mono hB2.out.size))
              obtain ⟨a3, eA, v7⟩ := Kd.at_int R3 x20 q2 q5
              subst eA
              obtain ⟨a4, eA, v8⟩ := Kd.at_int R3 x13 q6 q7
              injection eA with eA
              subst eA
              obtain ⟨y20, hy20⟩ : ∃ y, rd l3 x20 = y := ⟨_, rfl⟩
              obtain ⟨y13, hy13⟩ : ∃ y, rd l3 x13 = y := ⟨_, rfl⟩
              rw [hy20] at H v7
              rw [hy13] at H v8
              clear hy20 hy13 R3 q1 q3 q8
              by_cases q9 : y20 > y13
              ·rw [if_pos q9] at H
               have q9b : decide (y13 < y20) = true := decide_eq_true q9
               replace H := Aside0.mk H
               clear q9
               go_quiet (fail)
               clear q2 q5 q6 q7 q8b q9b v7 v8
               go_wp2_with fail
               go_roundg k3
               case rel => exact ⟨x20, wrap64 (x20 + 1), (by first | rfl | (simp; done) | (simp [*]; done)), (by first | rfl | (simp; done) | (simp [*]; done)), H, ⟨bl2 hJ2.out (pw_below_drewN (Below.refl _ _) _)⟩⟩
               case measure => (have := hle.out; omega)
              ·rw [if_neg q9] at H
               have q9b : decide (y13 < y20) = false := decide_eq_false q9
               replace H := Aside0.mk H
               clear q9
               go_quiet (fail)
               clear q2 q5 q6 q7 q8b q9b v7 v8
               go_wp2_with fail
               go_roundg k3
               case rel => exact ⟨x13, wrap64 (x20 + 1), (by first | rfl | (simp; done) | (simp [*]; done)), (by first | rfl | (simp; done) | (simp [*]; done)), H, ⟨bl2 hJ2.out (pw_below_drewN (Below.refl _ _) _)⟩⟩
               case measure => (have := hle.out; omega)
             ·rw [if_neg q7] at H; cases H
            ·rw [if_neg q6] at H; cases H
           ·rw [if_neg q5] at H; cases H
     ·rw [if_neg q3] at H; cases H
    ·rw [if_neg q2] at H; cases H
   ·rw [if_neg q1] at H
    have q1b : decide (x20 < (l4.length : Int)) = false := decide_eq_false q1
    have H9 : x13 = r := Option.some.inj H
    subst H9
    clear H q1
    go_wp2
    go_ret
    exact ⟨rfl, hB2.out.trans (hJ.out.mono hB2.out.size)⟩
end Go.Proofs.YtjacphcbiaacnaaDoor.PDigraphTells
end

