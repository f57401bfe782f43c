/- Printed functions of chapter 6; mended by mkQ.py. -/
import Derived.Test.YtjkclhpibielfaaQDigx0
import Derived.Test.YtjkclhpibielfaaQDigx1
namespace Go.Proofs.Ytjkclhpibielfaa.PDigraphTells
open Go.RowKit Go.Proofs.YtjkclhpibielfaaW.PrintWords Go.Proofs.YtjkclhpibielfaaW.PrintLast Go.Proofs.YtjkclhpibielfaaW.PrintMore
attribute [local go_sem] max2_int min2_int max_two min_two max_three min_three max_four min_four   -- for this text's walks alone
set_option linter.unusedVariables false
set_option linter.unusedSimpArgs false

/-! ### digraph_Preds: function 12 -/
mutual
def digraph_Preds.l0 : Nat → List (List Int) → List (List Int) → Int → Int → Option ((List (List Int)))
  | 0, _, _, _, _ => none
  | k + 1, x3, x17, x18, x19 => if x19 < x18 then (if 0 ≤ x19 then (if x19 < (x17.length : Int) then (digraph_Preds.l1 k x3 x19 x17 x18 x19 (rd_L1 x17 x19) ((rd_L1 x17 x19).length : Int) 0) else (none)) else (none)) else (some x3)
def digraph_Preds.l1 : Nat → List (List Int) → Int → List (List Int) → Int → Int → List Int → Int → Int → Option ((List (List Int)))
  | 0, _, _, _, _, _, _, _, _ => none
  | k + 1, x3, x4, x17, x18, x19, x24, x25, x26 => if x26 < x25 then (if 0 ≤ x26 then (if x26 < (x24.length : Int) then (if 0 ≤ (rd x24 x26) then (if (rd x24 x26) < (x3.length : Int) then (if ((rd_L1 x3 (rd x24 x26)).length : Int) = 0 then (if (rd_L1 x3 (rd x24 x26)).length < 17592186044416 then (digraph_Preds.l1 k (x3.set ((rd x24 x26) : Int).toNat ((rd_L1 x3 (rd x24 x26)) ++ [x4])) x4 x17 x18 x19 x24 x25 (wrap64 (x26 + 1))) else (none)) else (if 0 ≤ (wrap64 (((rd_L1 x3 (rd x24 x26)).length : Int) - 1)) then (if (wrap64 (((rd_L1 x3 (rd x24 x26)).length : Int) - 1)) < ((rd_L1 x3 (rd x24 x26)).length : Int) then (if (rd (rd_L1 x3 (rd x24 x26)) (wrap64 (((rd_L1 x3 (rd x24 x26)).length : Int) - 1))) = x4 then (digraph_Preds.l1 k x3 x4 x17 x18 x19 x24 x25 (wrap64 (x26 + 1))) else (if (rd_L1 x3 (rd x24 x26)).length < 17592186044416 then (digraph_Preds.l1 k (x3.set ((rd x24 x26) : Int).toNat ((rd_L1 x3 (rd x24 x26)) ++ [x4])) x4 x17 x18 x19 x24 x25 (wrap64 (x26 + 1))) else (none))) else (none)) else (none))) else (none)) else (none)) else (none)) else (none)) else (digraph_Preds.l0 k x3 x17 x18 (wrap64 (x19 + 1)))
end
def digraph_Preds.f (k : Nat) (l0_0 : List (List Int)) : Option ((List (List Int))) := (digraph_Check.f k l0_0).bind fun t112 => (if t112 = 0 then (if 0 ≤ (l0_0.length : Int) then (if ((l0_0.length : Int) : Int).toNat ≤ 11728124029610 then (digraph_Preds.l0 k (List.replicate ((l0_0.length : Int) : Int).toNat []) l0_0 (l0_0.length : Int) 0) else (none)) else (none)) else (some ([] : List (List Int))))
theorem digraph_Preds.mono_l : ∀ k, (∀ y0 y1 y2 y3, LeO (digraph_Preds.l0 k y0 y1 y2 y3) (digraph_Preds.l0 (k + 1) y0 y1 y2 y3)) ∧ (∀ y0 y1 y2 y3 y4 y5 y6 y7, LeO (digraph_Preds.l1 k y0 y1 y2 y3 y4 y5 y6 y7) (digraph_Preds.l1 (k + 1) y0 y1 y2 y3 y4 y5 y6 y7))
  | 0 => ⟨fun _ _ _ _ r h => by simp [digraph_Preds.l0] at h, fun _ _ _ _ _ _ _ _ r h => by simp [digraph_Preds.l1] at h⟩
  | k + 1 => by
    obtain ⟨ih0, ih1⟩ := digraph_Preds.mono_l k
    refine ⟨?_, ?_⟩
    · intro y0 y1 y2 y3
      unfold digraph_Preds.l0
      repeat' first
      | (with_reducible exact ih0 _ _ _ _)
      | (with_reducible exact ih1 _ _ _ _ _ _ _ _)
      | (with_reducible exact digraph_Check.mono _ _)
      | (with_reducible exact LeO.refl _)
      | (with_reducible exact LeO.none _)
      | (with_reducible refine LeO.ite ?_ ?_)
      | (with_reducible refine LeO.bind ?_ (fun _ => ?_))
      | exact ih0 _ _ _ _
      | exact ih1 _ _ _ _ _ _ _ _
      | exact digraph_Check.mono _ _
      | exact LeO.none _
      | refine LeO.ite ?_ ?_
      | refine LeO.bind ?_ (fun _ => ?_)
    · intro y0 y1 y2 y3 y4 y5 y6 y7
      unfold digraph_Preds.l1
      repeat' first
      | (with_reducible exact ih0 _ _ _ _)
      | (with_reducible exact ih1 _ _ _ _ _ _ _ _)
      | (with_reducible exact digraph_Check.mono _ _)
      | (with_reducible exact LeO.refl _)
      | (with_reducible exact LeO.none _)
      | (with_reducible refine LeO.ite ?_ ?_)
      | (with_reducible refine LeO.bind ?_ (fun _ => ?_))
      | exact ih0 _ _ _ _
      | exact ih1 _ _ _ _ _ _ _ _
      | exact digraph_Check.mono _ _
      | exact LeO.none _
      | refine LeO.ite ?_ ?_
      | refine LeO.bind ?_ (fun _ => ?_)
theorem digraph_Preds.mono : ∀ a0 k, LeO (digraph_Preds.f k a0) (digraph_Preds.f (k + 1) a0) := by
  intro a0 k
  obtain ⟨ih0, ih1⟩ := digraph_Preds.mono_l k
  unfold digraph_Preds.f
  repeat' first
      | (with_reducible exact ih0 _ _ _ _)
      | (with_reducible exact ih1 _ _ _ _ _ _ _ _)
      | (with_reducible exact digraph_Check.mono _ _)
      | (with_reducible exact LeO.refl _)
      | (with_reducible exact LeO.none _)
      | (with_reducible refine LeO.ite ?_ ?_)
      | (with_reducible refine LeO.bind ?_ (fun _ => ?_))
      | exact ih0 _ _ _ _
      | exact ih1 _ _ _ _ _ _ _ _
      | exact digraph_Check.mono _ _
      | exact LeO.none _
      | refine LeO.ite ?_ ?_
      | refine LeO.bind ?_ (fun _ => ?_)
set_option maxHeartbeats 8000000 in
set_option maxRecDepth 100000 in
theorem digraph_Preds.calls (k : Nat) (A0_0 : Option Addr) (c0_0 : Nat) (l0_0 : List (List Int)) (r : List (List Int)) (w : World) (hr0_0 : Kd.C (Kd.slice 3 (Kd.int .i64)) w A0_0 l0_0.length l0_0) (hc0_0 : l0_0.length ≤ c0_0) (h : digraph_Preds.f k l0_0 = some r) :
    Calls Try.prog 12 #[.agg #[.slice A0_0 l0_0.length c0_0]] w fun e w' => ∃ v0_ : Value, e = .returned (v0_) ∧ Kd.S (Kd.slice 3 (Kd.int .i64)) 36 w' w.heap.size (fun _ => True) v0_ r ∧ Below w.heap.size w w' := by
  have hu24 := Try.underlying24
  have HR0_0 := Aside0.mk hr0_0
  have HC0_0 := Aside0.mk hc0_0
  clear hr0_0 hc0_0
  have HB := Aside0.mk (Below.refl w.heap.size w)
  have H : ((digraph_Check.f k l0_0).bind fun t112 => (if t112 = 0 then (if 0 ≤ (l0_0.length : Int) then (if ((l0_0.length : Int) : Int).toNat ≤ 11728124029610 then (digraph_Preds.l0 k (List.replicate ((l0_0.length : Int) : Int).toNat []) l0_0 (l0_0.length : Int) 0) else (none)) else (none)) else (some ([] : List (List Int))))) = some r := h
  clear h
  replace H := Option.bind_eq_some_iff.mp H
  obtain ⟨t112, A20, H⟩ := H
  replace H : (if t112 = 0 then (if 0 ≤ (l0_0.length : Int) then (if ((l0_0.length : Int) : Int).toNat ≤ 11728124029610 then (digraph_Preds.l0 k (List.replicate ((l0_0.length : Int) : Int).toNat []) l0_0 (l0_0.length : Int) 0) else (none)) else (none)) else (some ([] : List (List Int)))) = some r := H
  have A2 := Aside0.mk A20
  clear A20
  by_cases c3 : t112 = 0
  · rw [if_pos c3] at H
    have c3b0 : (t112 == 0) = true := beq_iff_eq.mpr c3
    have c3b1 : (t112 != 0) = false := bne_eq_false_iff_eq.mpr c3
    clear c3
    by_cases c4 : 0 ≤ (l0_0.length : Int)
    · rw [if_pos c4] at H
      have c4b0 := eq_true c4
      have c4b1 : decide (0 ≤ (l0_0.length : Int)) = true := decide_eq_true c4
      clear c4
      by_cases c5 : ((l0_0.length : Int) : Int).toNat ≤ 11728124029610
      · rw [if_pos c5] at H
        have c5b0 := eq_true c5
        have c5b1 : decide (((l0_0.length : Int) : Int).toNat ≤ 11728124029610) = true := decide_eq_true c5
        clear c5
        obtain ⟨y113, hy113⟩ : ∃ y_ : List (List Int), y_ = (List.replicate ((l0_0.length : Int) : Int).toNat []) := ⟨_, rfl⟩
        replace H : (digraph_Preds.l0 k y113 l0_0 (l0_0.length : Int) 0) = some r := by first | (rw [hy113]; with_reducible exact H) | (have H2_ := (Option.bind_some _ _).symm.trans H; rw [hy113]; with_reducible exact H2_) | (have H2_ := (Option.bind_some _ _).symm.trans H; with_reducible exact H2_) | with_reducible exact H | (rw [hy113]; exact H) | exact H
        have Ny113 := Aside0.mk hy113
        clear hy113
        have H' := Aside0.mk H
        clear H
        go_enter Try.func12, Try.ntmps12
        go_wp2_with (first | ((with_reducible refine gate_dst (N := 1) rfl ?_); refine box_event ?hg (N := 1) ?hd (cs := #[.slice A0_0 l0_0.length c0_0]) (t := 24) ?hr ?_; (case hd => rfl); (case hg => rfl); (case hr => first | (go_simp; done) | (go_simp; rfl)); intro gb111 hg w6 hbox hb; have n0_ := Aside0.mk (below_step (by repeat (first | (with_reducible first | exact HB.out | apply below_alloc | apply pw_below_drewN | apply below_drew1) | exact HB.out)) hb); have n1_ := Aside0.mk (hbox); have n2_ := Aside0.mk ((by rw [hg]; exact (below_size (by repeat (first | (with_reducible first | exact HB.out | apply below_alloc | apply pw_below_drewN | apply below_drew1) | exact HB.out))) : w.heap.size ≤ gb111)); have n3_ := Aside0.mk ((by rw [hg]; exact (below_size (by repeat (first | (with_reducible first | exact HB.out | apply below_alloc | apply pw_below_drewN | apply below_drew1) | exact HB.out))) : w.heap.size ≤ gb111)); clear HB; have HB := n0_; have BK111 := n1_; have GW111 := n2_; have GE111 := n3_; clear n0_ n1_ n2_ n3_; clear hb hbox hg; have hcz7_0 : w6.cell? ⟨gb111, 0, none⟩ = some (.slice A0_0 l0_0.length c0_0) := (blk_cell BK111.out 0).trans rfl; have hfz7_0 := blk_frozen BK111.out 0) | ((with_reducible refine gate_callee (f := 7) rfl ?_); refine goesL_ (some 10) rfl rfl Try.func7 (by kernel_rfl) rfl #[.agg #[.slice A0_0 l0_0.length c0_0]] rfl (by (try simp only [List.map_toArray, List.map_cons, List.map_nil]); first | done | rfl | (simp only [List.length_drop, List.length_take]; rfl)) ?_; (with_reducible refine (digraph_Check.calls k _ _ l0_0 t112 _ ?side1 ?side2 A2.out).mono ?_); (case side1 => repeat (first | exact (Kd.C_below HR0_0.out HB.out) | (with_reducible refine Kd.C_alloc ?_ _) | (with_reducible refine Kd.C_drewN ?_ _) | (with_reducible refine Kd.C_drew ?_))); (case side2 => exact HC0_0.out); rintro e w8 ⟨rfl, hb⟩; refine ⟨_, rfl, ?_⟩; have n0_ := Aside0.mk (blk_below (g := gb111) (o := .cells #[.slice A0_0 l0_0.length c0_0] 24 (0, 0)) (by (with_reducible repeat (first | refine blk_drewN ?_ _ | refine blk_drew ?_ | refine blk_alloc ?_ _)); exact BK111.out) hb); have n1_ := Aside0.mk (below_step (by repeat (first | (with_reducible first | exact HB.out | apply below_alloc | apply pw_below_drewN | apply below_drew1 | refine below_set ?_ GE111.out) | exact HB.out)) hb); clear BK111; clear HB; have BK111 := n0_; have HB := n1_; clear n0_ n1_; (try clear hb); (try clear hb2); (try clear hk); (try clear hi); have hcz9_0 : w8.cell? ⟨gb111, 0, none⟩ = some (.slice A0_0 l0_0.length c0_0) := (blk_cell BK111.out 0).trans rfl; have hfz9_0 := blk_frozen BK111.out 0) | ((with_reducible refine gate_dst (N := 15) rfl ?_); refine Kd.S_make (Kd.slice 3 (Kd.int .i64)) _ 36 rfl (N := 15) rfl 22 _ _ rfl (l0_0.length : Int) rfl rfl Try.underlying22 (.slice none 0 0) 24 info36 rfl (by decide) (by omega) [] (ok := fun _ => True) (okp := fun _ => True) ⟨_, rfl, Kd.R_nil _ _ _ _ _⟩ (fun _ hk => hk) trivial (of_decide_eq_true (by first | (with_reducible assumption) | assumption)) (Nat.le_trans (Nat.mul_le_mul_right _ (of_decide_eq_true (by first | (with_reducible assumption) | assumption) : (l0_0.length : Int).toNat ≤ 11728124029610)) (by omega)) (Below.refl _ _) (Nat.le_refl _) ?_; intro v114 w10 ho11 hb hg_ hnew_; clear hg_ hnew_; (first | rw [← Ny113.out] at ho11 | (simp only [Int.reduceToNat] at ho11; rw [← Ny113.out] at ho11)); have n0_ := Aside0.mk (Kd.S_lower ho11 (below_size (by repeat (first | (with_reducible first | exact HB.out | apply below_alloc | apply pw_below_drewN | apply below_drew1 | refine below_set ?_ GE111.out) | exact HB.out)))); have n1_ := Aside0.mk (blk_below (g := gb111) (o := .cells #[.slice A0_0 l0_0.length c0_0] 24 (0, 0)) (by (with_reducible repeat (first | refine blk_drewN ?_ _ | refine blk_drew ?_ | refine blk_alloc ?_ _)); exact BK111.out) hb); have n2_ := Aside0.mk (below_step (by repeat (first | (with_reducible first | exact HB.out | apply below_alloc | apply pw_below_drewN | apply below_drew1 | refine below_set ?_ GE111.out) | exact HB.out)) hb); clear BK111; clear HB; have HO115 := n0_; have BK111 := n1_; have HB := n2_; clear n0_ n1_ n2_; clear hb ho11; have hcz12_0 : w10.cell? ⟨gb111, 0, none⟩ = some (.slice A0_0 l0_0.length c0_0) := (blk_cell BK111.out 0).trans rfl; have hfz12_0 := blk_frozen BK111.out 0))
        go_loopg [19] k (fun kq v19 w' => ∃ (x3_1 : List (List Int)) (x19_1 : Int), v19 = .int .i64 x19_1 ∧ Aside0 (digraph_Preds.l0 kq x3_1 l0_0 (l0_0.length : Int) x19_1 = some r) ∧ Aside0 (kq ≤ k) ∧ Aside0 (Kd.S (Kd.slice 3 (Kd.int .i64)) 36 w' w.heap.size (fun _ => True) v114 x3_1) ∧ Aside0 (w'.heap[gb111]? = some (.cells #[(.slice A0_0 l0_0.length c0_0)] 24 (0, 0))) ∧ Aside0 (Below w.heap.size w w'))
        case atStart => exact ⟨(y113), (0), (by first | rfl | (simp; done) | (simp [*]; done)), H', ⟨Nat.le_refl _⟩, ⟨by (with_reducible repeat (first | apply Kd.S_alloc | apply Kd.S_drewN | apply Kd.S_drew)); exact HO115.out⟩, ⟨by (with_reducible repeat (first | refine blk_drewN ?_ _ | refine blk_drew ?_ | refine blk_alloc ?_ _)); exact BK111.out⟩, ⟨by repeat (first | (with_reducible first | exact HB.out | apply below_alloc | apply pw_below_drewN | apply below_drew1 | refine below_set ?_ GE111.out) | exact HB.out)⟩⟩
        case round =>
          clear H'
          try clear c1
          try clear p2
          try clear c3
          try clear c3b0
          try clear c3b1
          try clear c4
          try clear c4b0
          try clear c4b1
          try clear c5
          try clear c5b0
          try clear c5b1
          try clear c7
          try clear c12
          try clear hcz12_0
          try clear hcz7_0
          try clear hcz9_0
          try clear hfz12_0
          try clear hfz7_0
          try clear hfz9_0
          obtain ⟨x3_1, x19_1, rfl, HA, HK1, HO_3, BK111, HB⟩ := hrel
          cases gk with
          | zero => exact absurd HA.out (by simp [digraph_Preds.l0])
          | succ k1 =>
            have H := HA.out
            clear HA
            simp only [digraph_Preds.l0] at H
            by_cases c13 : x19_1 < (l0_0.length : Int)
            · rw [if_pos c13] at H
              have c13b0 : decide (x19_1 < (l0_0.length : Int)) = true := decide_eq_true c13
              clear c13
              by_cases c14 : 0 ≤ x19_1
              · rw [if_pos c14] at H
                have c14b0 : decide (0 ≤ x19_1) = true := decide_eq_true c14
                clear c14
                by_cases c15 : x19_1 < (l0_0.length : Int)
                · rw [if_pos c15] at H
                  have c15b0 : decide (x19_1 < (l0_0.length : Int)) = true := decide_eq_true c15
                  clear c15
                  have H' := Aside0.mk H
                  clear H
                  have p116 : 0 ≤ (x19_1 : Int) := of_decide_eq_true (by first | (with_reducible assumption) | assumption)
                  have q116 : x19_1 < (l0_0.length : Int) := of_decide_eq_true (by first | (with_reducible assumption) | assumption)
                  obtain ⟨ad116, A116_0, c116_0, e116, hx116_0, hl116_0, hi116_0⟩ := at_L1 HR0_0.out x19_1 p116 q116
                  cases e116
                  replace hx116_0 := (HB.out.cell (World.block_lt_of_cell? w _ hx116_0)).trans hx116_0
                  have HR116_0 := Aside0.mk hi116_0
                  have HC116_0 := Aside0.mk hl116_0
                  clear hi116_0 hl116_0
                  replace p116 := eq_true p116
                  replace q116 := eq_true q116
                  go_wp2
                  go_loopg [26] k1 (fun kq v26 w' => ∃ (x3_2 : List (List Int)) (x26_2 : Int), v26 = .int .i64 x26_2 ∧ Aside0 (digraph_Preds.l1 kq x3_2 x19_1 l0_0 (l0_0.length : Int) x19_1 (rd_L1 l0_0 x19_1) ((rd_L1 l0_0 x19_1).length : Int) x26_2 = some r) ∧ Aside0 (kq ≤ k1) ∧ Aside0 (Kd.S (Kd.slice 3 (Kd.int .i64)) 36 w' w.heap.size (fun _ => True) v114 x3_2) ∧ Aside0 (w'.heap[gb111]? = some (.cells #[(.slice (some ad116) l0_0.length c0_0)] 24 (0, 0))) ∧ Aside0 (Below w.heap.size w w'))
                  case atStart => exact ⟨(x3_1), (0), (by first | rfl | (simp; done) | (simp [*]; done)), H', ⟨Nat.le_refl _⟩, ⟨by (with_reducible repeat (first | apply Kd.S_alloc | apply Kd.S_drewN | apply Kd.S_drew)); exact HO_3.out⟩, ⟨by (with_reducible repeat (first | refine blk_drewN ?_ _ | refine blk_drew ?_ | refine blk_alloc ?_ _)); exact BK111.out⟩, ⟨by repeat (first | (with_reducible first | exact HB.out | apply below_alloc | apply pw_below_drewN | apply below_drew1 | refine below_set ?_ GE111.out) | exact HB.out)⟩⟩
                  case round =>
                    clear H'
                    try clear c1
                    try clear p1
                    try clear q1
                    try clear hx1
                    try clear p2
                    try clear c3
                    try clear c3b0
                    try clear c3b1
                    try clear c4
                    try clear c4b0
                    try clear c4b1
                    try clear c5
                    try clear c5b0
                    try clear c5b1
                    try clear c7
                    try clear c11
                    try clear p11
                    try clear q11
                    try clear hx11
                    try clear c12
                    try clear c13
                    try clear c13b0
                    try clear c14
                    try clear c14b0
                    try clear c15
                    try clear c15b0
                    try clear hcz12_0
                    try clear hcz7_0
                    try clear hcz9_0
                    try clear hfz12_0
                    try clear hfz7_0
                    try clear hfz9_0
                    try clear hx116_0
                    try clear p116
                    try clear p2
                    try clear q116
                    obtain ⟨x3_2, x26_2, rfl, HA, HK2, HO_3, BK111, HB⟩ := hrel
                    cases gk with
                    | zero => exact absurd HA.out (by simp [digraph_Preds.l1])
                    | succ k2 =>
                      have H := HA.out
                      clear HA
                      simp only [digraph_Preds.l1] at H
                      by_cases c16 : x26_2 < ((rd_L1 l0_0 x19_1).length : Int)
                      · rw [if_pos c16] at H
                        have c16b0 : decide (x26_2 < ((rd_L1 l0_0 x19_1).length : Int)) = true := decide_eq_true c16
                        clear c16
                        by_cases c17 : 0 ≤ x26_2
                        · rw [if_pos c17] at H
                          have c17b0 : decide (0 ≤ x26_2) = true := decide_eq_true c17
                          clear c17
                          by_cases c18 : x26_2 < ((rd_L1 l0_0 x19_1).length : Int)
                          · rw [if_pos c18] at H
                            have c18b0 : decide (x26_2 < ((rd_L1 l0_0 x19_1).length : Int)) = true := decide_eq_true c18
                            clear c18
                            by_cases c19 : 0 ≤ (rd (rd_L1 l0_0 x19_1) x26_2)
                            · rw [if_pos c19] at H
                              have c19b0 : decide (0 ≤ (rd (rd_L1 l0_0 x19_1) x26_2)) = true := decide_eq_true c19
                              clear c19
                              by_cases c20 : (rd (rd_L1 l0_0 x19_1) x26_2) < (x3_2.length : Int)
                              · rw [if_pos c20] at H
                                have c20b0 : decide ((rd (rd_L1 l0_0 x19_1) x26_2) < (x3_2.length : Int)) = true := decide_eq_true c20
                                clear c20
                                by_cases c21 : ((rd_L1 x3_2 (rd (rd_L1 l0_0 x19_1) x26_2)).length : Int) = 0
                                · rw [if_pos c21] at H
                                  have c21b0 : (((rd_L1 x3_2 (rd (rd_L1 l0_0 x19_1) x26_2)).length : Int) == 0) = true := beq_iff_eq.mpr c21
                                  have c21b1 : (((rd_L1 x3_2 (rd (rd_L1 l0_0 x19_1) x26_2)).length : Int) != 0) = false := bne_eq_false_iff_eq.mpr c21
                                  clear c21
                                  by_cases c22 : (rd_L1 x3_2 (rd (rd_L1 l0_0 x19_1) x26_2)).length < 17592186044416
                                  · rw [if_pos c22] at H
                                    have LMc22 := Aside0.mk c22
                                    clear c22
                                    obtain ⟨y120, hy120⟩ : ∃ y_ : List Int, y_ = ((rd_L1 x3_2 (rd (rd_L1 l0_0 x19_1) x26_2)) ++ [x19_1]) := ⟨_, rfl⟩
                                    replace H : (digraph_Preds.l1 k2 (x3_2.set ((rd (rd_L1 l0_0 x19_1) x26_2) : Int).toNat y120) x19_1 l0_0 (l0_0.length : Int) x19_1 (rd_L1 l0_0 x19_1) ((rd_L1 l0_0 x19_1).length : Int) (wrap64 (x26_2 + 1))) = some r := by first | (rw [hy120]; with_reducible exact H) | (have H2_ := (Option.bind_some _ _).symm.trans H; rw [hy120]; with_reducible exact H2_) | (have H2_ := (Option.bind_some _ _).symm.trans H; with_reducible exact H2_) | with_reducible exact H | (rw [hy120]; exact H) | exact H
                                    have Ny120 := Aside0.mk hy120
                                    clear hy120
                                    obtain ⟨y123, hy123⟩ : ∃ y_ : List (List Int), y_ = (x3_2.set ((rd (rd_L1 l0_0 x19_1) x26_2) : Int).toNat y120) := ⟨_, rfl⟩
                                    replace H : (digraph_Preds.l1 k2 y123 x19_1 l0_0 (l0_0.length : Int) x19_1 (rd_L1 l0_0 x19_1) ((rd_L1 l0_0 x19_1).length : Int) (wrap64 (x26_2 + 1))) = some r := by first | (rw [hy123]; with_reducible exact H) | (have H2_ := (Option.bind_some _ _).symm.trans H; rw [hy123]; with_reducible exact H2_) | (have H2_ := (Option.bind_some _ _).symm.trans H; with_reducible exact H2_) | with_reducible exact H | (rw [hy123]; exact H) | exact H
                                    have Ny123 := Aside0.mk hy123
                                    clear hy123
                                    have H' := Aside0.mk H
                                    clear H
                                    have p117 : 0 ≤ (x26_2 : Int) := of_decide_eq_true (by first | (with_reducible assumption) | assumption)
                                    have q117 : x26_2 < ((rd_L1 l0_0 x19_1).length : Int) := of_decide_eq_true (by first | (with_reducible assumption) | assumption)
                                    obtain ⟨ad117, e117, hx117_0⟩ := Kd.at_int HR116_0.out x26_2 p117 q117
                                    cases e117
                                    replace hx117_0 := (HB.out.cell (World.block_lt_of_cell? w _ hx117_0)).trans hx117_0
                                    replace p117 := eq_true p117
                                    replace q117 := eq_true q117
                                    obtain ⟨Ao24, co24, eo24⟩ := Kd.S_slice HO_3.out
                                    subst eo24
                                    have p118 : 0 ≤ ((rd (rd_L1 l0_0 x19_1) x26_2) : Int) := of_decide_eq_true (by first | (with_reducible assumption) | assumption)
                                    have q118 : (rd (rd_L1 l0_0 x19_1) x26_2) < (x3_2.length : Int) := of_decide_eq_true (by first | (with_reducible assumption) | assumption)
                                    obtain ⟨ad118, A118_0, c118_0, e118, hx118_0, hl118_0, hi118_0⟩ := at_L1 (Kd.S_reads' HO_3.out).2.2 (rd (rd_L1 l0_0 x19_1) x26_2) p118 q118
                                    cases e118
                                    obtain ⟨ce118, hce118, hMe118, hcc118⟩ := Kd.S_get HO_3.out [] (rd (rd_L1 l0_0 x19_1) x26_2) p118 (by first | exact q118 | exact of_decide_eq_true (by first | (with_reducible assumption) | assumption) | (have e_ := (Kd.S_reads' HO_3.out).1; omega))
                                    obtain ⟨ve118_0, rfl, ge118_0⟩ := hMe118
                                    have hv118_0 := hcc118 0 _ rfl
                                    rw [Nat.add_zero, show ((Kd.slice 3 (Kd.int .i64))).sz = 1 from rfl, Nat.mul_one] at hv118_0
                                    replace hv118_0 := Option.some.inj (hv118_0.symm.trans hx118_0)
                                    rw [hv118_0] at ge118_0
                                    have HL118_0 := Aside0.mk (show Kd.R (Kd.int .i64) 3 _ _ _ _ (rd_L1 x3_2 (rd (rd_L1 l0_0 x19_1) x26_2)) from ge118_0)
                                    clear hv118_0 ge118_0
                                    have HX118_0 := Aside0.mk hx118_0
                                    clear hcc118 hce118
                                    have HR118_0 := Aside0.mk hi118_0
                                    have HC118_0 := Aside0.mk hl118_0
                                    clear hi118_0 hl118_0
                                    replace p118 := eq_true p118
                                    replace q118 := eq_true q118
                                    have p119 : 0 ≤ ((rd (rd_L1 l0_0 x19_1) x26_2) : Int) := of_decide_eq_true (by first | (with_reducible assumption) | assumption)
                                    have q119 : (rd (rd_L1 l0_0 x19_1) x26_2) < (x3_2.length : Int) := of_decide_eq_true (by first | (with_reducible assumption) | assumption)
                                    obtain ⟨ad119, A119_0, c119_0, e119, hx119_0, hl119_0, hi119_0⟩ := at_L1 (Kd.S_reads' HO_3.out).2.2 (rd (rd_L1 l0_0 x19_1) x26_2) p119 q119
                                    obtain rfl : ad118 = ad119 := (by injection e119)
                                    obtain ⟨ce119, hce119, hMe119, hcc119⟩ := Kd.S_get HO_3.out [] (rd (rd_L1 l0_0 x19_1) x26_2) p119 (by first | exact q119 | exact of_decide_eq_true (by first | (with_reducible assumption) | assumption) | (have e_ := (Kd.S_reads' HO_3.out).1; omega))
                                    obtain ⟨ve119_0, rfl, ge119_0⟩ := hMe119
                                    have hv119_0 := hcc119 0 _ rfl
                                    rw [Nat.add_zero, show ((Kd.slice 3 (Kd.int .i64))).sz = 1 from rfl, Nat.mul_one] at hv119_0
                                    replace hv119_0 := Option.some.inj (hv119_0.symm.trans hx119_0)
                                    rw [hv119_0] at ge119_0
                                    have HL119_0 := Aside0.mk (show Kd.R (Kd.int .i64) 3 _ _ _ _ (rd_L1 x3_2 (rd (rd_L1 l0_0 x19_1) x26_2)) from ge119_0)
                                    clear hv119_0 ge119_0
                                    have HX119_0 := Aside0.mk hx119_0
                                    clear hcc119 hce119
                                    have HR119_0 := Aside0.mk hi119_0
                                    have HC119_0 := Aside0.mk hl119_0
                                    clear hi119_0 hl119_0
                                    replace p119 := eq_true p119
                                    replace q119 := eq_true q119
                                    have ea_ := Option.some.inj (hx118_0.symm.trans hx119_0)
                                    injection ea_ with ea_ en_ ec_
                                    subst ea_
                                    subst ec_
                                    clear en_
                                    obtain ⟨go25, co25, eo25, gb25, gl25, cl25, HG25⟩ := Kd.S_form HO_3.out (by have h_ : ((rd (rd_L1 l0_0 x19_1) x26_2) : Int) < ((x3_2.length : Int) : Int) := of_decide_eq_true (by first | (with_reducible assumption) | assumption); have h2_ : 0 ≤ ((rd (rd_L1 l0_0 x19_1) x26_2) : Int) := (of_decide_eq_true (by first | (with_reducible assumption) | assumption)); omega)
                                    (first | cases eo25 | (injection eo25 with ea_ en_ ec_; (first | subst ea_ | (injection ea_ with ea_; subst ea_)); subst ec_; clear en_))
                                    have GB25 := Aside0.mk gb25
                                    have GG25 := Aside0.mk HG25
                                    clear gb25 gl25 HG25
                                    (first | simp only [add_plain] at hx118_0 | skip)
                                    (first | simp only [add_plain] at hx119_0 | skip)
                                    obtain ⟨oki25, ce25, hcl25, hM25, hcc25, _, _, hH25⟩ := Kd.S_elem HO_3.out [] ((rd (rd_L1 l0_0 x19_1) x26_2) : Int) (of_decide_eq_true (by first | (with_reducible assumption) | assumption)) (by have h_ : ((rd (rd_L1 l0_0 x19_1) x26_2) : Int) < ((x3_2.length : Int) : Int) := of_decide_eq_true (by first | (with_reducible assumption) | assumption); first | exact h_ | (have e_ := (Kd.S_reads' HO_3.out).1; omega) | simpa using h_)
                                    obtain ⟨ve25_0, rfl, ge25_0⟩ := hM25
                                    have hv25 := hcc25 0 _ rfl
                                    have hX25 := HX119_0.out
                                    (try simp only [add_plain] at hX25)
                                    (try simp only [Nat.add_zero] at hv25)
                                    (try rw [show ((Kd.slice 3 (Kd.int .i64))).sz = 1 from rfl, Nat.mul_one] at hv25)
                                    replace hv25 := Option.some.inj (hv25.symm.trans hX25)
                                    subst hv25
                                    clear hX25 hcc25 hcl25
                                    have UU25 := Aside0.mk (show Kd.R (Kd.int .i64) 3 _ w.heap.size oki25 (.slice A118_0 (rd_L1 x3_2 (rd (rd_L1 l0_0 x19_1) x26_2)).length c118_0) (rd_L1 x3_2 (rd (rd_L1 l0_0 x19_1) x26_2)) from ge25_0)
                                    have HH25 := Aside0.mk hH25
                                    have HN25 := Aside0.mk (Kd.S_reads' HO_3.out).1
                                    clear hH25 ge25_0
                                    go_wp2_with (first | ((with_reducible refine gate_builtin (b := .append) (xs := #[.tmp 54, .tmp 56]) rfl ?_); at_builtin; refine Kd.R_append (Kd.int .i64) (w0 := w) w.heap.size rfl (.tmp 54) (.tmp 56) 36 3 (.int .i64 0) 8 rfl Try.underlying36 info3 rfl (by decide) (by omega) (.slice A118_0 (rd_L1 x3_2 (rd (rd_L1 l0_0 x19_1) x26_2)).length c118_0) (rd_L1 x3_2 (rd (rd_L1 l0_0 x19_1) x26_2)) x19_1 [.int .i64 x19_1] (fun k_ => oki25 k_ ∨ ((fun _ => True)) k_ ∧ wr.heap.size ≤ k_) (fun _ => False) rfl rfl ?aP (fun _ hk => hk.elim) ?aF ?aO ?aB ?aS ?aL ?_; (case aP => exact rfl); (case aB => exact (by repeat (first | (with_reducible first | exact HB.out | apply below_alloc | apply pw_below_drewN | apply below_drew1 | refine below_set ?_ GE111.out) | exact HB.out))); (case aF => exact (fun k_ hk => .inr ⟨trivial, hk⟩)); (case aO => exact (by (with_reducible repeat (first | apply Kd.R_alloc | apply Kd.R_drewN | apply Kd.R_drew)); exact Kd.R_mono UU25.out (fun _ hk => .inl hk))); (case aS => exact (below_size (by repeat (first | (with_reducible first | exact HB.out | apply below_alloc | apply pw_below_drewN | apply below_drew1 | refine below_set ?_ GE111.out) | exact HB.out)))); (case aL => have := LMc22.out; omega); intro v121 w26 ho hb hg hat; rw [← Ny120.out] at ho; have n0_ := Aside0.mk (blk_grown (g := gb111) (o := .cells #[.slice (some ad116) l0_0.length c0_0] 24 (0, 0)) (by (with_reducible repeat (first | refine blk_drewN ?_ _ | refine blk_drew ?_ | refine blk_alloc ?_ _)); exact BK111.out) hg (Kd.R_ne HL119_0.out BK111.out (by decide))); have n1_ := Aside0.mk (hb); have n2_ := Aside0.mk (Kd.H_grown (Kd.H_widen (by repeat (first | exact HH25.out | refine Kd.H_alloc ?_ _ | refine Kd.H_drewN ?_ _ | refine Kd.H_drew ?_))) hg (fun k_ e_ => .inl (UU25.out.1 k_ e_))); have n3_ := Aside0.mk (ho); clear BK111; clear HB; clear HH25; clear HO_3; clear UU25; clear HL118_0; clear HL119_0; have BK111 := n0_; have HB := n1_; have HH25 := n2_; have HO122 := n3_; clear n0_ n1_ n2_ n3_; clear ho hb hg hat; have p23 : 0 ≤ ((rd (rd_L1 l0_0 x19_1) x26_2) : Int) := of_decide_eq_true (by first | (with_reducible assumption) | assumption); have q23 : ((rd (rd_L1 l0_0 x19_1) x26_2) : Int) < ((x3_2.length : Int) : Int) := of_decide_eq_true (by first | (with_reducible assumption) | assumption); replace p23 := eq_true p23; replace q23 := eq_true q23; obtain ⟨Ao29, co29, eo29⟩ := Kd.R_slice HO122.out; subst eo29; obtain ⟨_, _, hraw27, _, _, hcc27, _⟩ := Kd.H_raw HH25.out (of_decide_eq_true (by first | (with_reducible assumption) | assumption)) (by have h_ : ((rd (rd_L1 l0_0 x19_1) x26_2) : Int) < ((x3_2.length : Int) : Int) := of_decide_eq_true (by first | (with_reducible assumption) | assumption); first | exact h_ | (have e_ := (HN25.out); omega) | simpa using h_); obtain ⟨_, hfr27⟩ := Kd.H_at HH25.out (of_decide_eq_true (by first | (with_reducible assumption) | assumption)) (by have h_ : ((rd (rd_L1 l0_0 x19_1) x26_2) : Int) < ((x3_2.length : Int) : Int) := of_decide_eq_true (by first | (with_reducible assumption) | assumption); first | exact h_ | (have e_ := (HN25.out); omega) | simpa using h_); have hx27_0 := hcc27 0 _ rfl; have hf27_0 := hfr27 0; (try simp only [Nat.add_zero] at hx27_0 hf27_0); (try rw [show ((Kd.slice 3 (Kd.int .i64))).sz = 1 from rfl, Nat.mul_one] at hx27_0); (try rw [show ((Kd.slice 3 (Kd.int .i64))).sz = 1 from rfl, Nat.mul_one] at hf27_0); have HP27 := Kd.S_seg0 HH25.out (of_decide_eq_true (by first | (with_reducible assumption) | assumption)) (by have h_ : ((rd (rd_L1 l0_0 x19_1) x26_2) : Int) < ((x3_2.length : Int) : Int) := of_decide_eq_true (by first | (with_reducible assumption) | assumption); first | exact h_ | (have e_ := (HN25.out); omega) | simpa using h_) (seg := [.slice Ao29 y120.length co29]) (j := 0) (show 1 ≤ 1 from by decide) (x' := y120) (Kd.M_row HO122.out) (fun _ hk => hk); (try simp only [show ((Kd.slice 3 (Kd.int .i64))).sz = 1 from rfl, Nat.mul_one, Nat.add_zero] at HP27); clear hcc27 hfr27) | ((with_reducible refine gate_store (t := 36) (p := 58) rfl ?_); refine store_event (t := 36) (p := 58) (v := ?vo_w28) (w1 := (w26.setCell ⟨go25, ((rd (rd_L1 l0_0 x19_1) x26_2) : Int).toNat, none⟩ (.slice Ao29 y120.length co29))) ?hg ?ho ?hn ?hr ?_; (case ho => rfl); (case hg => rfl); (case hn => rfl); (case hr => first | (go_simp; done) | (go_simp; rfl)); intro w28 hw; have hg : w26.grownBy w28 (some go25) := (by rw [hw]; exact HP27.2); have hp_ : Kd.S (Kd.slice 3 (Kd.int .i64)) 36 w28 w.heap.size (fun _ => True) (.slice (some ⟨go25, 0, none⟩) x3_2.length co24) y123 := (by rw [hw, Ny123.out]; exact HP27.1); clear HP27; have n0_ := Aside0.mk (blk_grown (g := gb111) (o := .cells #[.slice (some ad116) l0_0.length c0_0] 24 (0, 0)) (by (with_reducible repeat (first | refine blk_drewN ?_ _ | refine blk_drew ?_ | refine blk_alloc ?_ _)); exact BK111.out) hg (Kd.R_ne hraw27 BK111.out (by decide))); have n1_ := Aside0.mk ((by rw [hw]; exact below_set HB.out GB25.out : Below w.heap.size w w28)); have n2_ := Aside0.mk (hp_); clear BK111; clear HB; clear HO122; clear HH25; have BK111 := n0_; have HB := n1_; have HO_3 := n2_; clear n0_ n1_ n2_; clear hg hw hp_ hraw27))
                                    go_roundg k2
                                    case measure => have := HK1.out; have := HK2.out; omega
                                    case rel => exact ⟨(y123), (wrap64 (x26_2 + 1)), (by first | rfl | (simp; done) | (simp [*]; done)), H', ⟨by have := HK1.out; have := HK2.out; omega⟩, ⟨by (with_reducible repeat (first | apply Kd.S_alloc | apply Kd.S_drewN | apply Kd.S_drew)); exact HO_3.out⟩, ⟨by (with_reducible repeat (first | refine blk_drewN ?_ _ | refine blk_drew ?_ | refine blk_alloc ?_ _)); exact BK111.out⟩, ⟨by repeat (first | (with_reducible first | exact HB.out | apply below_alloc | apply pw_below_drewN | apply below_drew1 | refine below_set ?_ GE111.out) | exact HB.out)⟩⟩
                                  · rw [if_neg c22] at H
                                    exact absurd H (by simp)
                                · rw [if_neg c21] at H
                                  have c21b0 : (((rd_L1 x3_2 (rd (rd_L1 l0_0 x19_1) x26_2)).length : Int) == 0) = false := beq_eq_false_iff_ne.mpr c21
                                  have c21b1 : (((rd_L1 x3_2 (rd (rd_L1 l0_0 x19_1) x26_2)).length : Int) != 0) = true := bne_iff_ne.mpr c21
                                  have c21b2 : ¬ ((rd_L1 x3_2 (rd (rd_L1 l0_0 x19_1) x26_2)) = []) := fun h_ => c21 (by rw [h_]; rfl)
                                  obtain ⟨ji30, hji30⟩ : ∃ j_ : Int, (wrap64 (((rd_L1 x3_2 (rd (rd_L1 l0_0 x19_1) x26_2)).length : Int) - 1)) = j_ := ⟨_, rfl⟩
                                  replace H : (if 0 ≤ (ji30) then (if (ji30) < ((rd_L1 x3_2 (rd (rd_L1 l0_0 x19_1) x26_2)).length : Int) then (if (rd (rd_L1 x3_2 (rd (rd_L1 l0_0 x19_1) x26_2)) (ji30)) = x19_1 then (digraph_Preds.l1 k2 x3_2 x19_1 l0_0 (l0_0.length : Int) x19_1 (rd_L1 l0_0 x19_1) ((rd_L1 l0_0 x19_1).length : Int) (wrap64 (x26_2 + 1))) else (if (rd_L1 x3_2 (rd (rd_L1 l0_0 x19_1) x26_2)).length < 17592186044416 then (digraph_Preds.l1 k2 (x3_2.set ((rd (rd_L1 l0_0 x19_1) x26_2) : Int).toNat ((rd_L1 x3_2 (rd (rd_L1 l0_0 x19_1) x26_2)) ++ [x19_1])) x19_1 l0_0 (l0_0.length : Int) x19_1 (rd_L1 l0_0 x19_1) ((rd_L1 l0_0 x19_1).length : Int) (wrap64 (x26_2 + 1))) else (none))) else (none)) else (none)) = some r := by first | (rw [hji30] at H; exact H) | (simp only [hji30] at H ⊢; exact H)
                                  have hji30w : (IntKind.i64.wrap (((rd_L1 x3_2 (rd (rd_L1 l0_0 x19_1) x26_2)).length : Int) - 1)) = ji30 := (i64_w _).trans hji30
                                  by_cases c31 : 0 ≤ (ji30)
                                  · rw [if_pos c31] at H
                                    have c31b0 : decide (0 ≤ (ji30)) = true := decide_eq_true c31
                                    clear c31
                                    by_cases c32 : (ji30) < ((rd_L1 x3_2 (rd (rd_L1 l0_0 x19_1) x26_2)).length : Int)
                                    · rw [if_pos c32] at H
                                      have c32b0 : decide ((ji30) < ((rd_L1 x3_2 (rd (rd_L1 l0_0 x19_1) x26_2)).length : Int)) = true := decide_eq_true c32
                                      clear c32
                                      by_cases c33 : (rd (rd_L1 x3_2 (rd (rd_L1 l0_0 x19_1) x26_2)) (ji30)) = x19_1
                                      · rw [if_pos c33] at H
                                        have c33b0 : ((rd (rd_L1 x3_2 (rd (rd_L1 l0_0 x19_1) x26_2)) (ji30)) == x19_1) = true := beq_iff_eq.mpr c33
                                        have c33b1 : ((rd (rd_L1 x3_2 (rd (rd_L1 l0_0 x19_1) x26_2)) (ji30)) != x19_1) = false := bne_eq_false_iff_eq.mpr c33
                                        clear c33
                                        have H' := Aside0.mk H
                                        clear H
                                        have p117 : 0 ≤ (x26_2 : Int) := of_decide_eq_true (by first | (with_reducible assumption) | assumption)
                                        have q117 : x26_2 < ((rd_L1 l0_0 x19_1).length : Int) := of_decide_eq_true (by first | (with_reducible assumption) | assumption)
                                        obtain ⟨ad117, e117, hx117_0⟩ := Kd.at_int HR116_0.out x26_2 p117 q117
                                        cases e117
                                        replace hx117_0 := (HB.out.cell (World.block_lt_of_cell? w _ hx117_0)).trans hx117_0
                                        replace p117 := eq_true p117
                                        replace q117 := eq_true q117
                                        obtain ⟨Ao34, co34, eo34⟩ := Kd.S_slice HO_3.out
                                        subst eo34
                                        have p118 : 0 ≤ ((rd (rd_L1 l0_0 x19_1) x26_2) : Int) := of_decide_eq_true (by first | (with_reducible assumption) | assumption)
                                        have q118 : (rd (rd_L1 l0_0 x19_1) x26_2) < (x3_2.length : Int) := of_decide_eq_true (by first | (with_reducible assumption) | assumption)
                                        obtain ⟨ad118, A118_0, c118_0, e118, hx118_0, hl118_0, hi118_0⟩ := at_L1 (Kd.S_reads' HO_3.out).2.2 (rd (rd_L1 l0_0 x19_1) x26_2) p118 q118
                                        cases e118
                                        obtain ⟨ce118, hce118, hMe118, hcc118⟩ := Kd.S_get HO_3.out [] (rd (rd_L1 l0_0 x19_1) x26_2) p118 (by first | exact q118 | exact of_decide_eq_true (by first | (with_reducible assumption) | assumption) | (have e_ := (Kd.S_reads' HO_3.out).1; omega))
                                        obtain ⟨ve118_0, rfl, ge118_0⟩ := hMe118
                                        have hv118_0 := hcc118 0 _ rfl
                                        rw [Nat.add_zero, show ((Kd.slice 3 (Kd.int .i64))).sz = 1 from rfl, Nat.mul_one] at hv118_0
                                        replace hv118_0 := Option.some.inj (hv118_0.symm.trans hx118_0)
                                        rw [hv118_0] at ge118_0
                                        have HL118_0 := Aside0.mk (show Kd.R (Kd.int .i64) 3 _ _ _ _ (rd_L1 x3_2 (rd (rd_L1 l0_0 x19_1) x26_2)) from ge118_0)
                                        clear hv118_0 ge118_0
                                        have HX118_0 := Aside0.mk hx118_0
                                        clear hcc118 hce118
                                        have HR118_0 := Aside0.mk hi118_0
                                        have HC118_0 := Aside0.mk hl118_0
                                        clear hi118_0 hl118_0
                                        replace p118 := eq_true p118
                                        replace q118 := eq_true q118
                                        have p124 : 0 ≤ ((rd (rd_L1 l0_0 x19_1) x26_2) : Int) := of_decide_eq_true (by first | (with_reducible assumption) | assumption)
                                        have q124 : (rd (rd_L1 l0_0 x19_1) x26_2) < (x3_2.length : Int) := of_decide_eq_true (by first | (with_reducible assumption) | assumption)
                                        obtain ⟨ad124, A124_0, c124_0, e124, hx124_0, hl124_0, hi124_0⟩ := at_L1 (Kd.S_reads' HO_3.out).2.2 (rd (rd_L1 l0_0 x19_1) x26_2) p124 q124
                                        obtain rfl : ad118 = ad124 := (by injection e124)
                                        obtain ⟨ce124, hce124, hMe124, hcc124⟩ := Kd.S_get HO_3.out [] (rd (rd_L1 l0_0 x19_1) x26_2) p124 (by first | exact q124 | exact of_decide_eq_true (by first | (with_reducible assumption) | assumption) | (have e_ := (Kd.S_reads' HO_3.out).1; omega))
                                        obtain ⟨ve124_0, rfl, ge124_0⟩ := hMe124
                                        have hv124_0 := hcc124 0 _ rfl
                                        rw [Nat.add_zero, show ((Kd.slice 3 (Kd.int .i64))).sz = 1 from rfl, Nat.mul_one] at hv124_0
                                        replace hv124_0 := Option.some.inj (hv124_0.symm.trans hx124_0)
                                        rw [hv124_0] at ge124_0
                                        have HL124_0 := Aside0.mk (show Kd.R (Kd.int .i64) 3 _ _ _ _ (rd_L1 x3_2 (rd (rd_L1 l0_0 x19_1) x26_2)) from ge124_0)
                                        clear hv124_0 ge124_0
                                        have HX124_0 := Aside0.mk hx124_0
                                        clear hcc124 hce124
                                        have HR124_0 := Aside0.mk hi124_0
                                        have HC124_0 := Aside0.mk hl124_0
                                        clear hi124_0 hl124_0
                                        replace p124 := eq_true p124
                                        replace q124 := eq_true q124
                                        have ea_ := Option.some.inj (hx118_0.symm.trans hx124_0)
                                        injection ea_ with ea_ en_ ec_
                                        subst ea_
                                        subst ec_
                                        clear en_
                                        have p125 : 0 ≤ ((ji30) : Int) := of_decide_eq_true (by first | (with_reducible assumption) | assumption)
                                        have q125 : (ji30) < ((rd_L1 x3_2 (rd (rd_L1 l0_0 x19_1) x26_2)).length : Int) := of_decide_eq_true (by first | (with_reducible assumption) | assumption)
                                        obtain ⟨ad125, e125, hx125_0⟩ := Kd.at_int (by repeat (first | (with_reducible exact HR124_0.out) | (with_reducible refine Kd.C_alloc ?_ _) | (with_reducible refine Kd.C_drewN ?_ _) | (with_reducible refine Kd.C_drew ?_) | exact HR124_0.out)) (ji30) p125 q125
                                        cases e125
                                        replace p125 := eq_true p125
                                        replace q125 := eq_true q125
                                        go_wp2
                                        go_roundg k2
                                        case measure => have := HK1.out; have := HK2.out; omega
                                        case rel => exact ⟨(x3_2), (wrap64 (x26_2 + 1)), (by first | rfl | (simp; done) | (simp [*]; done)), H', ⟨by have := HK1.out; have := HK2.out; omega⟩, ⟨by (with_reducible repeat (first | apply Kd.S_alloc | apply Kd.S_drewN | apply Kd.S_drew)); exact HO_3.out⟩, ⟨by (with_reducible repeat (first | refine blk_drewN ?_ _ | refine blk_drew ?_ | refine blk_alloc ?_ _)); exact BK111.out⟩, ⟨by repeat (first | (with_reducible first | exact HB.out | apply below_alloc | apply pw_below_drewN | apply below_drew1 | refine below_set ?_ GE111.out) | exact HB.out)⟩⟩
                                      · rw [if_neg c33] at H
                                        have c33b0 : ((rd (rd_L1 x3_2 (rd (rd_L1 l0_0 x19_1) x26_2)) (ji30)) == x19_1) = false := beq_eq_false_iff_ne.mpr c33
                                        have c33b1 : ((rd (rd_L1 x3_2 (rd (rd_L1 l0_0 x19_1) x26_2)) (ji30)) != x19_1) = true := bne_iff_ne.mpr c33
                                        by_cases c35 : (rd_L1 x3_2 (rd (rd_L1 l0_0 x19_1) x26_2)).length < 17592186044416
                                        · rw [if_pos c35] at H
                                          have LMc35 := Aside0.mk c35
                                          clear c35
                                          obtain ⟨y127, hy127⟩ : ∃ y_ : List Int, y_ = ((rd_L1 x3_2 (rd (rd_L1 l0_0 x19_1) x26_2)) ++ [x19_1]) := ⟨_, rfl⟩
                                          replace H : (digraph_Preds.l1 k2 (x3_2.set ((rd (rd_L1 l0_0 x19_1) x26_2) : Int).toNat y127) x19_1 l0_0 (l0_0.length : Int) x19_1 (rd_L1 l0_0 x19_1) ((rd_L1 l0_0 x19_1).length : Int) (wrap64 (x26_2 + 1))) = some r := by first | (rw [hy127]; with_reducible exact H) | (have H2_ := (Option.bind_some _ _).symm.trans H; rw [hy127]; with_reducible exact H2_) | (have H2_ := (Option.bind_some _ _).symm.trans H; with_reducible exact H2_) | with_reducible exact H | (rw [hy127]; exact H) | exact H
                                          have Ny127 := Aside0.mk hy127
                                          clear hy127
                                          obtain ⟨y130, hy130⟩ : ∃ y_ : List (List Int), y_ = (x3_2.set ((rd (rd_L1 l0_0 x19_1) x26_2) : Int).toNat y127) := ⟨_, rfl⟩
                                          replace H : (digraph_Preds.l1 k2 y130 x19_1 l0_0 (l0_0.length : Int) x19_1 (rd_L1 l0_0 x19_1) ((rd_L1 l0_0 x19_1).length : Int) (wrap64 (x26_2 + 1))) = some r := by first | (rw [hy130]; with_reducible exact H) | (have H2_ := (Option.bind_some _ _).symm.trans H; rw [hy130]; with_reducible exact H2_) | (have H2_ := (Option.bind_some _ _).symm.trans H; with_reducible exact H2_) | with_reducible exact H | (rw [hy130]; exact H) | exact H
                                          have Ny130 := Aside0.mk hy130
                                          clear hy130
                                          have H' := Aside0.mk H
                                          clear H
                                          have p117 : 0 ≤ (x26_2 : Int) := of_decide_eq_true (by first | (with_reducible assumption) | assumption)
                                          have q117 : x26_2 < ((rd_L1 l0_0 x19_1).length : Int) := of_decide_eq_true (by first | (with_reducible assumption) | assumption)
                                          obtain ⟨ad117, e117, hx117_0⟩ := Kd.at_int HR116_0.out x26_2 p117 q117
                                          cases e117
                                          replace hx117_0 := (HB.out.cell (World.block_lt_of_cell? w _ hx117_0)).trans hx117_0
                                          replace p117 := eq_true p117
                                          replace q117 := eq_true q117
                                          obtain ⟨Ao37, co37, eo37⟩ := Kd.S_slice HO_3.out
                                          subst eo37
                                          have p118 : 0 ≤ ((rd (rd_L1 l0_0 x19_1) x26_2) : Int) := of_decide_eq_true (by first | (with_reducible assumption) | assumption)
                                          have q118 : (rd (rd_L1 l0_0 x19_1) x26_2) < (x3_2.length : Int) := of_decide_eq_true (by first | (with_reducible assumption) | assumption)
                                          obtain ⟨ad118, A118_0, c118_0, e118, hx118_0, hl118_0, hi118_0⟩ := at_L1 (Kd.S_reads' HO_3.out).2.2 (rd (rd_L1 l0_0 x19_1) x26_2) p118 q118
                                          cases e118
                                          obtain ⟨ce118, hce118, hMe118, hcc118⟩ := Kd.S_get HO_3.out [] (rd (rd_L1 l0_0 x19_1) x26_2) p118 (by first | exact q118 | exact of_decide_eq_true (by first | (with_reducible assumption) | assumption) | (have e_ := (Kd.S_reads' HO_3.out).1; omega))
                                          obtain ⟨ve118_0, rfl, ge118_0⟩ := hMe118
                                          have hv118_0 := hcc118 0 _ rfl
                                          rw [Nat.add_zero, show ((Kd.slice 3 (Kd.int .i64))).sz = 1 from rfl, Nat.mul_one] at hv118_0
                                          replace hv118_0 := Option.some.inj (hv118_0.symm.trans hx118_0)
                                          rw [hv118_0] at ge118_0
                                          have HL118_0 := Aside0.mk (show Kd.R (Kd.int .i64) 3 _ _ _ _ (rd_L1 x3_2 (rd (rd_L1 l0_0 x19_1) x26_2)) from ge118_0)
                                          clear hv118_0 ge118_0
                                          have HX118_0 := Aside0.mk hx118_0
                                          clear hcc118 hce118
                                          have HR118_0 := Aside0.mk hi118_0
                                          have HC118_0 := Aside0.mk hl118_0
                                          clear hi118_0 hl118_0
                                          replace p118 := eq_true p118
                                          replace q118 := eq_true q118
                                          have p124 : 0 ≤ ((rd (rd_L1 l0_0 x19_1) x26_2) : Int) := of_decide_eq_true (by first | (with_reducible assumption) | assumption)
                                          have q124 : (rd (rd_L1 l0_0 x19_1) x26_2) < (x3_2.length : Int) := of_decide_eq_true (by first | (with_reducible assumption) | assumption)
                                          obtain ⟨ad124, A124_0, c124_0, e124, hx124_0, hl124_0, hi124_0⟩ := at_L1 (Kd.S_reads' HO_3.out).2.2 (rd (rd_L1 l0_0 x19_1) x26_2) p124 q124
                                          obtain rfl : ad118 = ad124 := (by injection e124)
                                          obtain ⟨ce124, hce124, hMe124, hcc124⟩ := Kd.S_get HO_3.out [] (rd (rd_L1 l0_0 x19_1) x26_2) p124 (by first | exact q124 | exact of_decide_eq_true (by first | (with_reducible assumption) | assumption) | (have e_ := (Kd.S_reads' HO_3.out).1; omega))
                                          obtain ⟨ve124_0, rfl, ge124_0⟩ := hMe124
                                          have hv124_0 := hcc124 0 _ rfl
                                          rw [Nat.add_zero, show ((Kd.slice 3 (Kd.int .i64))).sz = 1 from rfl, Nat.mul_one] at hv124_0
                                          replace hv124_0 := Option.some.inj (hv124_0.symm.trans hx124_0)
                                          rw [hv124_0] at ge124_0
                                          have HL124_0 := Aside0.mk (show Kd.R (Kd.int .i64) 3 _ _ _ _ (rd_L1 x3_2 (rd (rd_L1 l0_0 x19_1) x26_2)) from ge124_0)
                                          clear hv124_0 ge124_0
                                          have HX124_0 := Aside0.mk hx124_0
                                          clear hcc124 hce124
                                          have HR124_0 := Aside0.mk hi124_0
                                          have HC124_0 := Aside0.mk hl124_0
                                          clear hi124_0 hl124_0
                                          replace p124 := eq_true p124
                                          replace q124 := eq_true q124
                                          have ea_ := Option.some.inj (hx118_0.symm.trans hx124_0)
                                          injection ea_ with ea_ en_ ec_
                                          subst ea_
                                          subst ec_
                                          clear en_
                                          have p125 : 0 ≤ ((ji30) : Int) := of_decide_eq_true (by first | (with_reducible assumption) | assumption)
                                          have q125 : (ji30) < ((rd_L1 x3_2 (rd (rd_L1 l0_0 x19_1) x26_2)).length : Int) := of_decide_eq_true (by first | (with_reducible assumption) | assumption)
                                          obtain ⟨ad125, e125, hx125_0⟩ := Kd.at_int (by repeat (first | (with_reducible exact HR124_0.out) | (with_reducible refine Kd.C_alloc ?_ _) | (with_reducible refine Kd.C_drewN ?_ _) | (with_reducible refine Kd.C_drew ?_) | exact HR124_0.out)) (ji30) p125 q125
                                          cases e125
                                          replace p125 := eq_true p125
                                          replace q125 := eq_true q125
                                          have p126 : 0 ≤ ((rd (rd_L1 l0_0 x19_1) x26_2) : Int) := of_decide_eq_true (by first | (with_reducible assumption) | assumption)
                                          have q126 : (rd (rd_L1 l0_0 x19_1) x26_2) < (x3_2.length : Int) := of_decide_eq_true (by first | (with_reducible assumption) | assumption)
                                          obtain ⟨ad126, A126_0, c126_0, e126, hx126_0, hl126_0, hi126_0⟩ := at_L1 (Kd.S_reads' HO_3.out).2.2 (rd (rd_L1 l0_0 x19_1) x26_2) p126 q126
                                          obtain rfl : ad118 = ad126 := (by injection e126)
                                          obtain ⟨ce126, hce126, hMe126, hcc126⟩ := Kd.S_get HO_3.out [] (rd (rd_L1 l0_0 x19_1) x26_2) p126 (by first | exact q126 | exact of_decide_eq_true (by first | (with_reducible assumption) | assumption) | (have e_ := (Kd.S_reads' HO_3.out).1; omega))
                                          obtain ⟨ve126_0, rfl, ge126_0⟩ := hMe126
                                          have hv126_0 := hcc126 0 _ rfl
                                          rw [Nat.add_zero, show ((Kd.slice 3 (Kd.int .i64))).sz = 1 from rfl, Nat.mul_one] at hv126_0
                                          replace hv126_0 := Option.some.inj (hv126_0.symm.trans hx126_0)
                                          rw [hv126_0] at ge126_0
                                          have HL126_0 := Aside0.mk (show Kd.R (Kd.int .i64) 3 _ _ _ _ (rd_L1 x3_2 (rd (rd_L1 l0_0 x19_1) x26_2)) from ge126_0)
                                          clear hv126_0 ge126_0
                                          have HX126_0 := Aside0.mk hx126_0
                                          clear hcc126 hce126
                                          have HR126_0 := Aside0.mk hi126_0
                                          have HC126_0 := Aside0.mk hl126_0
                                          clear hi126_0 hl126_0
                                          replace p126 := eq_true p126
                                          replace q126 := eq_true q126
                                          have ea_ := Option.some.inj (hx118_0.symm.trans hx126_0)
                                          injection ea_ with ea_ en_ ec_
                                          subst ea_
                                          subst ec_
                                          clear en_
                                          obtain ⟨go38, co38, eo38, gb38, gl38, cl38, HG38⟩ := Kd.S_form HO_3.out (by have h_ : ((rd (rd_L1 l0_0 x19_1) x26_2) : Int) < ((x3_2.length : Int) : Int) := of_decide_eq_true (by first | (with_reducible assumption) | assumption); have h2_ : 0 ≤ ((rd (rd_L1 l0_0 x19_1) x26_2) : Int) := (of_decide_eq_true (by first | (with_reducible assumption) | assumption)); omega)
                                          (first | cases eo38 | (injection eo38 with ea_ en_ ec_; (first | subst ea_ | (injection ea_ with ea_; subst ea_)); subst ec_; clear en_))
                                          have GB38 := Aside0.mk gb38
                                          have GG38 := Aside0.mk HG38
                                          clear gb38 gl38 HG38
                                          (first | simp only [add_plain] at hx118_0 | skip)
                                          (first | simp only [add_plain] at hx124_0 | skip)
                                          (first | simp only [add_plain] at hx126_0 | skip)
                                          obtain ⟨oki38, ce38, hcl38, hM38, hcc38, _, _, hH38⟩ := Kd.S_elem HO_3.out [] ((rd (rd_L1 l0_0 x19_1) x26_2) : Int) (of_decide_eq_true (by first | (with_reducible assumption) | assumption)) (by have h_ : ((rd (rd_L1 l0_0 x19_1) x26_2) : Int) < ((x3_2.length : Int) : Int) := of_decide_eq_true (by first | (with_reducible assumption) | assumption); first | exact h_ | (have e_ := (Kd.S_reads' HO_3.out).1; omega) | simpa using h_)
                                          obtain ⟨ve38_0, rfl, ge38_0⟩ := hM38
                                          have hv38 := hcc38 0 _ rfl
                                          have hX38 := HX126_0.out
                                          (try simp only [add_plain] at hX38)
                                          (try simp only [Nat.add_zero] at hv38)
                                          (try rw [show ((Kd.slice 3 (Kd.int .i64))).sz = 1 from rfl, Nat.mul_one] at hv38)
                                          replace hv38 := Option.some.inj (hv38.symm.trans hX38)
                                          subst hv38
                                          clear hX38 hcc38 hcl38
                                          have UU38 := Aside0.mk (show Kd.R (Kd.int .i64) 3 _ w.heap.size oki38 (.slice (some ad125) (rd_L1 x3_2 (rd (rd_L1 l0_0 x19_1) x26_2)).length c118_0) (rd_L1 x3_2 (rd (rd_L1 l0_0 x19_1) x26_2)) from ge38_0)
                                          have HH38 := Aside0.mk hH38
                                          have HN38 := Aside0.mk (Kd.S_reads' HO_3.out).1
                                          clear hH38 ge38_0
                                          go_wp2_with (first | ((with_reducible refine gate_builtin (b := .append) (xs := #[.tmp 54, .tmp 56]) rfl ?_); at_builtin; refine Kd.R_append (Kd.int .i64) (w0 := w) w.heap.size rfl (.tmp 54) (.tmp 56) 36 3 (.int .i64 0) 8 rfl Try.underlying36 info3 rfl (by decide) (by omega) (.slice (some ad125) (rd_L1 x3_2 (rd (rd_L1 l0_0 x19_1) x26_2)).length c118_0) (rd_L1 x3_2 (rd (rd_L1 l0_0 x19_1) x26_2)) x19_1 [.int .i64 x19_1] (fun k_ => oki38 k_ ∨ ((fun _ => True)) k_ ∧ wr.heap.size ≤ k_) (fun _ => False) rfl rfl ?aP (fun _ hk => hk.elim) ?aF ?aO ?aB ?aS ?aL ?_; (case aP => exact rfl); (case aB => exact (by repeat (first | (with_reducible first | exact HB.out | apply below_alloc | apply pw_below_drewN | apply below_drew1 | refine below_set ?_ GE111.out) | exact HB.out))); (case aF => exact (fun k_ hk => .inr ⟨trivial, hk⟩)); (case aO => exact (by (with_reducible repeat (first | apply Kd.R_alloc | apply Kd.R_drewN | apply Kd.R_drew)); exact Kd.R_mono UU38.out (fun _ hk => .inl hk))); (case aS => exact (below_size (by repeat (first | (with_reducible first | exact HB.out | apply below_alloc | apply pw_below_drewN | apply below_drew1 | refine below_set ?_ GE111.out) | exact HB.out)))); (case aL => have := LMc35.out; omega); intro v128 w39 ho hb hg hat; rw [← Ny127.out] at ho; have n0_ := Aside0.mk (blk_grown (g := gb111) (o := .cells #[.slice (some ad116) l0_0.length c0_0] 24 (0, 0)) (by (with_reducible repeat (first | refine blk_drewN ?_ _ | refine blk_drew ?_ | refine blk_alloc ?_ _)); exact BK111.out) hg (Kd.R_ne HL126_0.out BK111.out (by decide))); have n1_ := Aside0.mk (hb); have n2_ := Aside0.mk (Kd.H_grown (Kd.H_widen (by repeat (first | exact HH38.out | refine Kd.H_alloc ?_ _ | refine Kd.H_drewN ?_ _ | refine Kd.H_drew ?_))) hg (fun k_ e_ => .inl (UU38.out.1 k_ e_))); have n3_ := Aside0.mk (ho); clear BK111; clear HB; clear HH38; clear HO_3; clear UU38; clear HL118_0; clear HL124_0; clear HL126_0; have BK111 := n0_; have HB := n1_; have HH38 := n2_; have HO129 := n3_; clear n0_ n1_ n2_ n3_; clear ho hb hg hat; have p36 : 0 ≤ ((rd (rd_L1 l0_0 x19_1) x26_2) : Int) := of_decide_eq_true (by first | (with_reducible assumption) | assumption); have q36 : ((rd (rd_L1 l0_0 x19_1) x26_2) : Int) < ((x3_2.length : Int) : Int) := of_decide_eq_true (by first | (with_reducible assumption) | assumption); replace p36 := eq_true p36; replace q36 := eq_true q36; obtain ⟨Ao42, co42, eo42⟩ := Kd.R_slice HO129.out; subst eo42; obtain ⟨_, _, hraw40, _, _, hcc40, _⟩ := Kd.H_raw HH38.out (of_decide_eq_true (by first | (with_reducible assumption) | assumption)) (by have h_ : ((rd (rd_L1 l0_0 x19_1) x26_2) : Int) < ((x3_2.length : Int) : Int) := of_decide_eq_true (by first | (with_reducible assumption) | assumption); first | exact h_ | (have e_ := (HN38.out); omega) | simpa using h_); obtain ⟨_, hfr40⟩ := Kd.H_at HH38.out (of_decide_eq_true (by first | (with_reducible assumption) | assumption)) (by have h_ : ((rd (rd_L1 l0_0 x19_1) x26_2) : Int) < ((x3_2.length : Int) : Int) := of_decide_eq_true (by first | (with_reducible assumption) | assumption); first | exact h_ | (have e_ := (HN38.out); omega) | simpa using h_); have hx40_0 := hcc40 0 _ rfl; have hf40_0 := hfr40 0; (try simp only [Nat.add_zero] at hx40_0 hf40_0); (try rw [show ((Kd.slice 3 (Kd.int .i64))).sz = 1 from rfl, Nat.mul_one] at hx40_0); (try rw [show ((Kd.slice 3 (Kd.int .i64))).sz = 1 from rfl, Nat.mul_one] at hf40_0); have HP40 := Kd.S_seg0 HH38.out (of_decide_eq_true (by first | (with_reducible assumption) | assumption)) (by have h_ : ((rd (rd_L1 l0_0 x19_1) x26_2) : Int) < ((x3_2.length : Int) : Int) := of_decide_eq_true (by first | (with_reducible assumption) | assumption); first | exact h_ | (have e_ := (HN38.out); omega) | simpa using h_) (seg := [.slice Ao42 y127.length co42]) (j := 0) (show 1 ≤ 1 from by decide) (x' := y127) (Kd.M_row HO129.out) (fun _ hk => hk); (try simp only [show ((Kd.slice 3 (Kd.int .i64))).sz = 1 from rfl, Nat.mul_one, Nat.add_zero] at HP40); clear hcc40 hfr40) | ((with_reducible refine gate_store (t := 36) (p := 58) rfl ?_); refine store_event (t := 36) (p := 58) (v := ?vo_w41) (w1 := (w39.setCell ⟨go38, ((rd (rd_L1 l0_0 x19_1) x26_2) : Int).toNat, none⟩ (.slice Ao42 y127.length co42))) ?hg ?ho ?hn ?hr ?_; (case ho => rfl); (case hg => rfl); (case hn => rfl); (case hr => first | (go_simp; done) | (go_simp; rfl)); intro w41 hw; have hg : w39.grownBy w41 (some go38) := (by rw [hw]; exact HP40.2); have hp_ : Kd.S (Kd.slice 3 (Kd.int .i64)) 36 w41 w.heap.size (fun _ => True) (.slice (some ⟨go38, 0, none⟩) x3_2.length co37) y130 := (by rw [hw, Ny130.out]; exact HP40.1); clear HP40; have n0_ := Aside0.mk (blk_grown (g := gb111) (o := .cells #[.slice (some ad116) l0_0.length c0_0] 24 (0, 0)) (by (with_reducible repeat (first | refine blk_drewN ?_ _ | refine blk_drew ?_ | refine blk_alloc ?_ _)); exact BK111.out) hg (Kd.R_ne hraw40 BK111.out (by decide))); have n1_ := Aside0.mk ((by rw [hw]; exact below_set HB.out GB38.out : Below w.heap.size w w41)); have n2_ := Aside0.mk (hp_); clear BK111; clear HB; clear HO129; clear HH38; have BK111 := n0_; have HB := n1_; have HO_3 := n2_; clear n0_ n1_ n2_; clear hg hw hp_ hraw40))
                                          go_roundg k2
                                          case measure => have := HK1.out; have := HK2.out; omega
                                          case rel => exact ⟨(y130), (wrap64 (x26_2 + 1)), (by first | rfl | (simp; done) | (simp [*]; done)), H', ⟨by have := HK1.out; have := HK2.out; omega⟩, ⟨by (with_reducible repeat (first | apply Kd.S_alloc | apply Kd.S_drewN | apply Kd.S_drew)); exact HO_3.out⟩, ⟨by (with_reducible repeat (first | refine blk_drewN ?_ _ | refine blk_drew ?_ | refine blk_alloc ?_ _)); exact BK111.out⟩, ⟨by repeat (first | (with_reducible first | exact HB.out | apply below_alloc | apply pw_below_drewN | apply below_drew1 | refine below_set ?_ GE111.out) | exact HB.out)⟩⟩
                                        · rw [if_neg c35] at H
                                          exact absurd H (by simp)
                                    · rw [if_neg c32] at H
                                      exact absurd H (by simp)
                                  · rw [if_neg c31] at H
                                    exact absurd H (by simp)
                              · rw [if_neg c20] at H
                                exact absurd H (by simp)
                            · rw [if_neg c19] at H
                              exact absurd H (by simp)
                          · rw [if_neg c18] at H
                            exact absurd H (by simp)
                        · rw [if_neg c17] at H
                          exact absurd H (by simp)
                      · rw [if_neg c16] at H
                        have c16b0 : decide (x26_2 < ((rd_L1 l0_0 x19_1).length : Int)) = false := decide_eq_false c16
                        clear c16
                        have H' := Aside0.mk H
                        clear H
                        go_wp2
                        go_roundg k2
                        case measure => have := HK1.out; have := HK2.out; omega
                        case rel => exact ⟨(x3_2), (wrap64 (x19_1 + 1)), (by first | rfl | (simp; done) | (simp [*]; done)), H', ⟨by have := HK1.out; have := HK2.out; omega⟩, ⟨by (with_reducible repeat (first | apply Kd.S_alloc | apply Kd.S_drewN | apply Kd.S_drew)); exact HO_3.out⟩, ⟨by (with_reducible repeat (first | refine blk_drewN ?_ _ | refine blk_drew ?_ | refine blk_alloc ?_ _)); exact BK111.out⟩, ⟨by repeat (first | (with_reducible first | exact HB.out | apply below_alloc | apply pw_below_drewN | apply below_drew1 | refine below_set ?_ GE111.out) | exact HB.out)⟩⟩
                · rw [if_neg c15] at H
                  exact absurd H (by simp)
              · rw [if_neg c14] at H
                exact absurd H (by simp)
            · rw [if_neg c13] at H
              have c13b0 : decide (x19_1 < (l0_0.length : Int)) = false := decide_eq_false c13
              clear c13
              obtain rfl := Option.some.inj H
              go_wp2
              go_ret
              exact ⟨_, by first | rfl | (simp [errW_none, errW_some] <;> rfl) | (simp [*, errW_none, errW_some] <;> rfl), by (with_reducible repeat (first | apply Kd.S_alloc | apply Kd.S_drewN | apply Kd.S_drew)); exact HO_3.out, by repeat (first | (with_reducible first | exact HB.out | apply below_alloc | apply pw_below_drewN | apply below_drew1 | refine below_set ?_ GE111.out) | exact HB.out)⟩
      · rw [if_neg c5] at H
        exact absurd H (by simp)
    · rw [if_neg c4] at H
      exact absurd H (by simp)
  · rw [if_neg c3] at H
    have c3b0 : (t112 == 0) = false := beq_eq_false_iff_ne.mpr c3
    have c3b1 : (t112 != 0) = true := bne_iff_ne.mpr c3
    obtain rfl := Option.some.inj H
    go_enter Try.func12, Try.ntmps12
    go_wp2_with (first | ((with_reducible refine gate_dst (N := 1) rfl ?_); refine box_event ?hg (N := 1) ?hd (cs := #[.slice A0_0 l0_0.length c0_0]) (t := 24) ?hr ?_; (case hd => rfl); (case hg => rfl); (case hr => first | (go_simp; done) | (go_simp; rfl)); intro gb111 hg w43 hbox hb; have n0_ := Aside0.mk (below_step (by repeat (first | (with_reducible first | exact HB.out | apply below_alloc | apply pw_below_drewN | apply below_drew1) | exact HB.out)) hb); have n1_ := Aside0.mk (hbox); have n2_ := Aside0.mk ((by rw [hg]; exact (below_size (by repeat (first | (with_reducible first | exact HB.out | apply below_alloc | apply pw_below_drewN | apply below_drew1) | exact HB.out))) : w.heap.size ≤ gb111)); have n3_ := Aside0.mk ((by rw [hg]; exact (below_size (by repeat (first | (with_reducible first | exact HB.out | apply below_alloc | apply pw_below_drewN | apply below_drew1) | exact HB.out))) : w.heap.size ≤ gb111)); clear HB; have HB := n0_; have BK111 := n1_; have GW111 := n2_; have GE111 := n3_; clear n0_ n1_ n2_ n3_; clear hb hbox hg; have hcz44_0 : w43.cell? ⟨gb111, 0, none⟩ = some (.slice A0_0 l0_0.length c0_0) := (blk_cell BK111.out 0).trans rfl; have hfz44_0 := blk_frozen BK111.out 0) | ((with_reducible refine gate_callee (f := 7) rfl ?_); refine goesL_ (some 10) rfl rfl Try.func7 (by kernel_rfl) rfl #[.agg #[.slice A0_0 l0_0.length c0_0]] rfl (by (try simp only [List.map_toArray, List.map_cons, List.map_nil]); first | done | rfl | (simp only [List.length_drop, List.length_take]; rfl)) ?_; (with_reducible refine (digraph_Check.calls k _ _ l0_0 t112 _ ?side1 ?side2 A2.out).mono ?_); (case side1 => repeat (first | exact (Kd.C_below HR0_0.out HB.out) | (with_reducible refine Kd.C_alloc ?_ _) | (with_reducible refine Kd.C_drewN ?_ _) | (with_reducible refine Kd.C_drew ?_))); (case side2 => exact HC0_0.out); rintro e w45 ⟨rfl, hb⟩; refine ⟨_, rfl, ?_⟩; have n0_ := Aside0.mk (blk_below (g := gb111) (o := .cells #[.slice A0_0 l0_0.length c0_0] 24 (0, 0)) (by (with_reducible repeat (first | refine blk_drewN ?_ _ | refine blk_drew ?_ | refine blk_alloc ?_ _)); exact BK111.out) hb); have n1_ := Aside0.mk (below_step (by repeat (first | (with_reducible first | exact HB.out | apply below_alloc | apply pw_below_drewN | apply below_drew1 | refine below_set ?_ GE111.out) | exact HB.out)) hb); clear BK111; clear HB; have BK111 := n0_; have HB := n1_; clear n0_ n1_; (try clear hb); (try clear hb2); (try clear hk); (try clear hi)))
    go_ret
    exact ⟨_, by first | rfl | (simp [errW_none, errW_some] <;> rfl) | (simp [*, errW_none, errW_some] <;> rfl), by first | exact Kd.S_nil _ _ _ _ _ | exact Kd.N_nil _ _ _ _ _ | exact Kd.V_nil _ _ _ _ _ | exact Kd.Q_nil _ _ _ _ _ | exact Kd.R_nil _ _ _ _ _, by repeat (first | (with_reducible first | exact HB.out | apply below_alloc | apply pw_below_drewN | apply below_drew1 | refine below_set ?_ GE111.out) | exact HB.out)⟩

end Go.Proofs.Ytjkclhpibielfaa.PDigraphTells
