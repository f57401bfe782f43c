import Derived.Test.YtbphjbfnnhfhlaaMPos15
section
/- The printed function burnishref08_PostDominators. -/
namespace Go.Proofs.Ytbphjbfnnhfhlaa.PDigraphTells
open Go.RowKit Go.Proofs.YtbphjbfnnhfhlaaW.PrintWords Go.Proofs.YtbphjbfnnhfhlaaW.PrintLast Go.Proofs.YtbphjbfnnhfhlaaW.PrintMore
attribute [local go_sem] max2_int min2_int max_two min_two max_three min_three max_four min_four   -- for this text's walks alone
set_option linter.unusedVariables false
set_option linter.unusedSimpArgs false

/-! ### burnishref08_PostDominators: function 15 -/
mutual
def burnishref08_PostDominators.j0 : Nat → Int → Bool → List (List Int) → Option (List Int)
  | 0, _, _, _ => none
  | k + 1, x3, x17, x249000 => if x17 = true then (some ([] : List Int)) else (if 0 ≤ (wrap64 (x3 + 1)) then (if (wrap64 (x3 + 1) : Int).toNat ≤ 11728124029610 then (burnishref08_PostDominators.l0 k x3 0 x249000 (List.replicate (wrap64 (x3 + 1) : Int).toNat [])) else (none)) else (none))
def burnishref08_PostDominators.l0 : Nat → Int → Int → List (List Int) → List (List Int) → Option (List Int)
  | 0, _, _, _, _ => none
  | k + 1, x3, x5, x249000, x254000 => if x5 < x3 then (if 0 ≤ x5 then (if x5 < (x249000.length : Int) then (burnishref08_PostDominators.l1 k x3 x5 (rd_L1 x249000 x5) ((rd_L1 x249000 x5).length : Int) 0 x249000 x254000) else (none)) else (none)) else ((burnishref08_Build.f k x254000 x3).bind fun t254 => (some t254))
def burnishref08_PostDominators.l1 : Nat → Int → Int → List Int → Int → Int → List (List Int) → List (List Int) → Option (List Int)
  | 0, _, _, _, _, _, _, _ => none
  | k + 1, x3, x5, x31, x32, x33, x249000, x254000 => if x33 < x32 then (if 0 ≤ x33 then (if x33 < (x31.length : Int) then (if 0 ≤ (rd x31 x33) then (if (rd x31 x33) < (x254000.length : Int) then (if (rd_L1 x254000 (rd x31 x33)).length < 17592186044416 then (burnishref08_PostDominators.l1 k x3 x5 x31 x32 (wrap64 (x33 + 1)) x249000 (x254000.set ((rd x31 x33) : Int).toNat ((rd_L1 x254000 (rd x31 x33)) ++ [x5]))) else (none)) else (none)) else (none)) else (none)) else (none)) else (if 0 ≤ x5 then (if x5 < (x249000.length : Int) then (if ((rd_L1 x249000 x5).length : Int) = 0 then (if 0 ≤ x3 then (if x3 < (x254000.length : Int) then (if (rd_L1 x254000 x3).length < 17592186044416 then (burnishref08_PostDominators.l0 k x3 (wrap64 (x5 + 1)) x249000 (x254000.set (x3 : Int).toNat ((rd_L1 x254000 x3) ++ [x5]))) else (none)) else (none)) else (none)) else (burnishref08_PostDominators.l0 k x3 (wrap64 (x5 + 1)) x249000 x254000)) else (none)) else (none))
end
def burnishref08_PostDominators.f (k : Nat) (l0_0 : List (List Int)) : Option (List Int) := (burnishref06_Check.f k l0_0).bind fun t249 => (if t249 = 0 then (burnishref08_PostDominators.j0 k (l0_0.length : Int) (decide ((l0_0.length : Int) ≥ 65536)) l0_0) else (burnishref08_PostDominators.j0 k (l0_0.length : Int) true l0_0))
theorem burnishref08_PostDominators.mono_l : ∀ k, (∀ y0 y1 y2, LeO (burnishref08_PostDominators.j0 k y0 y1 y2) (burnishref08_PostDominators.j0 (k + 1) y0 y1 y2)) ∧ (∀ y0 y1 y2 y3, LeO (burnishref08_PostDominators.l0 k y0 y1 y2 y3) (burnishref08_PostDominators.l0 (k + 1) y0 y1 y2 y3)) ∧ (∀ y0 y1 y2 y3 y4 y5 y6, LeO (burnishref08_PostDominators.l1 k y0 y1 y2 y3 y4 y5 y6) (burnishref08_PostDominators.l1 (k + 1) y0 y1 y2 y3 y4 y5 y6))
  | 0 => ⟨fun _ _ _ r h => by simp [burnishref08_PostDominators.j0] at h, fun _ _ _ _ r h => by simp [burnishref08_PostDominators.l0] at h, fun _ _ _ _ _ _ _ r h => by simp [burnishref08_PostDominators.l1] at h⟩
  | k + 1 => by
    obtain ⟨ih0, ih1, ih2⟩ := burnishref08_PostDominators.mono_l k
    refine ⟨?_, ?_, ?_⟩
    · intro y0 y1 y2
      unfold burnishref08_PostDominators.j0
      repeat' first
      | (with_reducible exact ih0 _ _ _)
      | (with_reducible exact ih1 _ _ _ _)
      | (with_reducible exact ih2 _ _ _ _ _ _ _)
      | (with_reducible exact burnishref06_Check.mono _ _)
      | (with_reducible exact burnishref08_Build.mono _ _ _)
      | (with_reducible exact LeO.refl _)
      | (with_reducible exact LeO.none _)
      | (with_reducible refine LeO.ite ?_ ?_)
      | (with_reducible refine LeO.bind ?_ (fun _ => ?_))
      | exact ih0 _ _ _
      | exact ih1 _ _ _ _
      | exact ih2 _ _ _ _ _ _ _
      | exact burnishref06_Check.mono _ _
      | exact burnishref08_Build.mono _ _ _
      | exact LeO.none _
      | refine LeO.ite ?_ ?_
      | refine LeO.bind ?_ (fun _ => ?_)
    · intro y0 y1 y2 y3
      unfold burnishref08_PostDominators.l0
      repeat' first
      | (with_reducible exact ih0 _ _ _)
      | (with_reducible exact ih1 _ _ _ _)
      | (with_reducible exact ih2 _ _ _ _ _ _ _)
      | (with_reducible exact burnishref06_Check.mono _ _)
      | (with_reducible exact burnishref08_Build.mono _ _ _)
      | (with_reducible exact LeO.refl _)
      | (with_reducible exact LeO.none _)
      | (with_reducible refine LeO.ite ?_ ?_)
      | (with_reducible refine LeO.bind ?_ (fun _ => ?_))
      | exact ih0 _ _ _
      | exact ih1 _ _ _ _
      | exact ih2 _ _ _ _ _ _ _
      | exact burnishref06_Check.mono _ _
      | exact burnishref08_Build.mono _ _ _
      | exact LeO.none _
      | refine LeO.ite ?_ ?_
      | refine LeO.bind ?_ (fun _ => ?_)
    · intro y0 y1 y2 y3 y4 y5 y6
      unfold burnishref08_PostDominators.l1
      repeat' first
      | (with_reducible exact ih0 _ _ _)
      | (with_reducible exact ih1 _ _ _ _)
      | (with_reducible exact ih2 _ _ _ _ _ _ _)
      | (with_reducible exact burnishref06_Check.mono _ _)
      | (with_reducible exact burnishref08_Build.mono _ _ _)
      | (with_reducible exact LeO.refl _)
      | (with_reducible exact LeO.none _)
      | (with_reducible refine LeO.ite ?_ ?_)
      | (with_reducible refine LeO.bind ?_ (fun _ => ?_))
      | exact ih0 _ _ _
      | exact ih1 _ _ _ _
      | exact ih2 _ _ _ _ _ _ _
      | exact burnishref06_Check.mono _ _
      | exact burnishref08_Build.mono _ _ _
      | exact LeO.none _
      | refine LeO.ite ?_ ?_
      | refine LeO.bind ?_ (fun _ => ?_)
theorem burnishref08_PostDominators.mono : ∀ a0 k, LeO (burnishref08_PostDominators.f k a0) (burnishref08_PostDominators.f (k + 1) a0) := by
  intro a0 k
  obtain ⟨ih0, ih1, ih2⟩ := burnishref08_PostDominators.mono_l k
  unfold burnishref08_PostDominators.f
  repeat' first
      | (with_reducible exact ih0 _ _ _)
      | (with_reducible exact ih1 _ _ _ _)
      | (with_reducible exact ih2 _ _ _ _ _ _ _)
      | (with_reducible exact burnishref06_Check.mono _ _)
      | (with_reducible exact burnishref08_Build.mono _ _ _)
      | (with_reducible exact LeO.refl _)
      | (with_reducible exact LeO.none _)
      | (with_reducible refine LeO.ite ?_ ?_)
      | (with_reducible refine LeO.bind ?_ (fun _ => ?_))
      | exact ih0 _ _ _
      | exact ih1 _ _ _ _
      | exact ih2 _ _ _ _ _ _ _
      | exact burnishref06_Check.mono _ _
      | exact burnishref08_Build.mono _ _ _
      | exact LeO.none _
      | refine LeO.ite ?_ ?_
      | refine LeO.bind ?_ (fun _ => ?_)
def burnishref08_PostDominators.T11 : Bool × List (List Nat × List Nat) := (true, [([], []), ([0], [0]), ([], []), ([], []), ([3], [3]), ([], []), ([4, 5], [4, 5]), ([6], [6]), ([], []), ([8], [8]), ([7, 9], [7, 9]), ([1, 2, 0, 1, 2, 3, 4, 5, 6, 7, 8, 9, 10], [1, 2]), ([11, 10, 10, 0, 1, 2, 3, 4, 5, 6, 7, 8, 9, 10], [10, 11])])
def burnishref08_PostDominators.B11 : List Nat := [0, 1, 0, 0, 8, 0, 56, 120, 0, 256, 1016, 2047, 4095]
theorem burnishref08_PostDominators.tab11 : rtab .any (opsOf Try.f15 11) = burnishref08_PostDominators.T11 := by kernel_rfl
theorem burnishref08_PostDominators.bits11 : waitsOk burnishref08_PostDominators.T11.2 burnishref08_PostDominators.B11 = true := by kernel_rfl
def burnishref08_PostDominators.T14 : Bool × List (List Nat × List Nat) := (true, [([], []), ([0], [0]), ([], []), ([], []), ([3], [3]), ([], []), ([4, 5], [4, 5]), ([6], [6]), ([], []), ([8], [8]), ([7, 9], [7, 9]), ([1, 2, 0, 1, 2, 3, 4, 5, 6, 7, 8, 9, 10], [1, 2]), ([11, 10, 10, 0, 1, 2, 3, 4, 5, 6, 7, 8, 9, 10], [10, 11])])
def burnishref08_PostDominators.B14 : List Nat := [0, 1, 0, 0, 8, 0, 56, 120, 0, 256, 1016, 2047, 4095]
theorem burnishref08_PostDominators.tab14 : rtab .any (opsOf Try.f15 14) = burnishref08_PostDominators.T14 := by kernel_rfl
theorem burnishref08_PostDominators.bits14 : waitsOk burnishref08_PostDominators.T14.2 burnishref08_PostDominators.B14 = true := by kernel_rfl
set_option maxHeartbeats 8000000 in
set_option maxRecDepth 100000 in
theorem burnishref08_PostDominators.calls (k : Nat) (A0_0 : Option Addr) (c0_0 : Nat) (l0_0 : List (List Int)) (r : List Int) (w : World) (hr0_0 : Kd.C (Kd.slice 3 (Kd.int .i64)) w A0_0 l0_0.length l0_0) (hc0_0 : l0_0.length ≤ c0_0) (h : burnishref08_PostDominators.f k l0_0 = some r) :
    Calls Try.prog 15 #[.agg #[.slice A0_0 l0_0.length c0_0]] w fun e w' => ∃ v0_ : Value, e = .returned (v0_) ∧ Kd.R (Kd.int .i64) 3 w' w.heap.size (fun _ => True) v0_ r ∧ Below w.heap.size w w' := by
  have hu24 := Try.underlying24
  have HR0_0 := Aside0.mk hr0_0
  have HC0_0 := Aside0.mk hc0_0
  clear hr0_0 hc0_0
  have HB := Aside0.mk (Below.refl w.heap.size w)
  have H : ((burnishref06_Check.f k l0_0).bind fun t249 => (if t249 = 0 then (burnishref08_PostDominators.j0 k (l0_0.length : Int) (decide ((l0_0.length : Int) ≥ 65536)) l0_0) else (burnishref08_PostDominators.j0 k (l0_0.length : Int) true l0_0))) = some r := h
  clear h
  have HC2 := Aside0.mk H
  clear H
  go_enter Try.func15, Try.ntmps15
  go_upto_region 2 with (first | ((with_reducible refine gate_dst (N := 1) rfl ?_); refine box_event ?hg (N := 1) ?hd (cs := #[.slice A0_0 l0_0.length c0_0]) (t := 24) ?hr ?_; (case hd => rfl); (case hg => rfl); (case hr => first | (go_simp; done) | (go_simp; rfl)); intro gb248 hg w3 hbox hb; have n0_ := Aside0.mk (below_step (by repeat (first | (with_reducible first | exact HB.out | apply below_alloc | apply pw_below_drewN | apply below_drew1) | exact HB.out)) hb); have n1_ := Aside0.mk (hbox); have n2_ := Aside0.mk ((by rw [hg]; exact (below_size (by repeat (first | (with_reducible first | exact HB.out | apply below_alloc | apply pw_below_drewN | apply below_drew1) | exact HB.out))) : w.heap.size ≤ gb248)); have n3_ := Aside0.mk ((by rw [hg]; exact (below_size (by repeat (first | (with_reducible first | exact HB.out | apply below_alloc | apply pw_below_drewN | apply below_drew1) | exact HB.out))) : w.heap.size ≤ gb248)); clear HB; have HB := n0_; have BK248 := n1_; have GW248 := n2_; have GE248 := n3_; clear n0_ n1_ n2_ n3_; clear hb hbox hg; have hcz4_0 : w3.cell? ⟨gb248, 0, none⟩ = some (.slice A0_0 l0_0.length c0_0) := (blk_cell BK248.out 0).trans rfl; have hfz4_0 := blk_frozen BK248.out 0))
  (try simp only [Act.put, List.setIfInBounds_toArray, List.set_cons_zero, List.set_cons_succ])
  go_cut [17] (fun v17 wc => ∃ (kq : Nat) (x17_1 : Bool), v17 = .bool x17_1 ∧ Aside0 (burnishref08_PostDominators.j0 kq (l0_0.length : Int) x17_1 l0_0 = some r) ∧ Aside0 (kq ≤ k) ∧ Aside0 (wc.heap[gb248]? = some (.cells #[(.slice A0_0 l0_0.length c0_0)] 24 (0, 0))) ∧ Aside0 (Below w.heap.size w wc))
  case first =>
    have H := HC2.out
    clear HC2
    replace H := Option.bind_eq_some_iff.mp H
    obtain ⟨t249, A50, H⟩ := H
    replace H : (if t249 = 0 then (burnishref08_PostDominators.j0 k (l0_0.length : Int) (decide ((l0_0.length : Int) ≥ 65536)) l0_0) else (burnishref08_PostDominators.j0 k (l0_0.length : Int) true l0_0)) = some r := H
    have A5 := Aside0.mk A50
    clear A50
    by_cases c6 : t249 = 0
    · rw [if_pos c6] at H
      have c6b0 : (t249 == 0) = true := beq_iff_eq.mpr c6
      have c6b1 : (t249 != 0) = false := bne_eq_false_iff_eq.mpr c6
      clear c6
      (first | rw [c6b0] | (simp only [i64_w, i32_w]; rw [c6b0]) | skip)
      have H' := Aside0.mk H
      clear H
      have hcz7_0 : w3.cell? ⟨gb248, 0, none⟩ = some (.slice A0_0 l0_0.length c0_0) := (blk_cell BK248.out 0).trans rfl
      have hfz7_0 := blk_frozen BK248.out 0
      go_wp2_with (first | ((with_reducible refine gate_callee (f := 16) rfl ?_); refine goesL_ (some 12) rfl rfl Try.func16 (by kernel_rfl) rfl #[.agg #[.slice A0_0 l0_0.length c0_0]] rfl (by (try simp only [List.map_toArray, List.map_cons, List.map_nil]); first | done | rfl | (simp only [List.length_drop, List.length_take]; rfl)) ?_; (with_reducible refine (burnishref06_Check.calls k _ _ l0_0 t249 _ ?side1 ?side2 A5.out).mono ?_); (case side1 => repeat (first | exact (Kd.C_below HR0_0.out HB.out) | (with_reducible refine Kd.C_alloc ?_ _) | (with_reducible refine Kd.C_drewN ?_ _) | (with_reducible refine Kd.C_drew ?_))); (case side2 => exact HC0_0.out); rintro e w8 ⟨rfl, hb⟩; refine ⟨_, rfl, ?_⟩; have n0_ := Aside0.mk (blk_below (g := gb248) (o := .cells #[.slice A0_0 l0_0.length c0_0] 24 (0, 0)) (by (with_reducible repeat (first | refine blk_drewN ?_ _ | refine blk_drew ?_ | refine blk_alloc ?_ _)); exact BK248.out) hb); have n1_ := Aside0.mk (below_step (by repeat (first | (with_reducible first | exact HB.out | apply below_alloc | apply pw_below_drewN | apply below_drew1 | refine below_set ?_ GE248.out) | exact HB.out)) hb); clear BK248; clear HB; have BK248 := n0_; have HB := n1_; clear n0_ n1_; (try clear hb); (try clear hb2); (try clear hk); (try clear hi)))
      go_meet
      case rel => exact ⟨_, (decide ((l0_0.length : Int) ≥ 65536)), (by first | rfl | (simp; done) | (simp [*]; done)), H', ⟨by first | omega | exact Nat.le_refl _⟩, ⟨by (with_reducible repeat (first | refine blk_drewN ?_ _ | refine blk_drew ?_ | refine blk_alloc ?_ _)); exact BK248.out⟩, ⟨by repeat (first | (with_reducible first | exact HB.out | apply below_alloc | apply pw_below_drewN | apply below_drew1 | refine below_set ?_ GE248.out) | exact HB.out)⟩⟩
    · rw [if_neg c6] at H
      have c6b0 : (t249 == 0) = false := beq_eq_false_iff_ne.mpr c6
      have c6b1 : (t249 != 0) = true := bne_iff_ne.mpr c6
      (first | rw [c6b0] | (simp only [i64_w, i32_w]; rw [c6b0]) | skip)
      have H' := Aside0.mk H
      clear H
      have hcz9_0 : w3.cell? ⟨gb248, 0, none⟩ = some (.slice A0_0 l0_0.length c0_0) := (blk_cell BK248.out 0).trans rfl
      have hfz9_0 := blk_frozen BK248.out 0
      go_wp2_with (first | ((with_reducible refine gate_callee (f := 16) rfl ?_); refine goesL_ (some 12) rfl rfl Try.func16 (by kernel_rfl) rfl #[.agg #[.slice A0_0 l0_0.length c0_0]] rfl (by (try simp only [List.map_toArray, List.map_cons, List.map_nil]); first | done | rfl | (simp only [List.length_drop, List.length_take]; rfl)) ?_; (with_reducible refine (burnishref06_Check.calls k _ _ l0_0 t249 _ ?side1 ?side2 A5.out).mono ?_); (case side1 => repeat (first | exact (Kd.C_below HR0_0.out HB.out) | (with_reducible refine Kd.C_alloc ?_ _) | (with_reducible refine Kd.C_drewN ?_ _) | (with_reducible refine Kd.C_drew ?_))); (case side2 => exact HC0_0.out); rintro e w10 ⟨rfl, hb⟩; refine ⟨_, rfl, ?_⟩; have n0_ := Aside0.mk (blk_below (g := gb248) (o := .cells #[.slice A0_0 l0_0.length c0_0] 24 (0, 0)) (by (with_reducible repeat (first | refine blk_drewN ?_ _ | refine blk_drew ?_ | refine blk_alloc ?_ _)); exact BK248.out) hb); have n1_ := Aside0.mk (below_step (by repeat (first | (with_reducible first | exact HB.out | apply below_alloc | apply pw_below_drewN | apply below_drew1 | refine below_set ?_ GE248.out) | exact HB.out)) hb); clear BK248; clear HB; have BK248 := n0_; have HB := n1_; clear n0_ n1_; (try clear hb); (try clear hb2); (try clear hk); (try clear hi)))
      go_meet
      case rel => exact ⟨_, (true), (by first | rfl | (simp; done) | (simp [*]; done)), H', ⟨by first | omega | exact Nat.le_refl _⟩, ⟨by (with_reducible repeat (first | refine blk_drewN ?_ _ | refine blk_drew ?_ | refine blk_alloc ?_ _)); exact BK248.out⟩, ⟨by repeat (first | (with_reducible first | exact HB.out | apply below_alloc | apply pw_below_drewN | apply below_drew1 | refine below_set ?_ GE248.out) | exact HB.out)⟩⟩
  case rest =>
    clear HC2
    try clear c1
    try clear p2
    try clear c6
    try clear c6b0
    try clear c6b1
    try clear hcz4_0
    try clear hcz7_0
    try clear hcz9_0
    try clear hfz4_0
    try clear hfz7_0
    try clear hfz9_0
    obtain ⟨kq, x17_1, rfl, HA, HJ1, BK248, HB⟩ := hcut
    cases kq with
    | zero => exact absurd HA.out (by simp [burnishref08_PostDominators.j0])
    | succ kj1 =>
      have H := HA.out
      clear HA
      simp only [burnishref08_PostDominators.j0] at H
      by_cases c11 : x17_1 = true
      · subst c11
        have H1 : (some ([] : List Int)) = some r := by rw [if_pos rfl] at H; exact H
        clear H
        have H := H1
        clear H1
        obtain rfl := Option.some.inj H
        go_wp2
        go_ret
        exact ⟨_, by first | rfl | (simp [errW_none, errW_some] <;> rfl) | (simp [*, errW_none, errW_some] <;> rfl), by first | exact Kd.R_nil _ _ _ _ _ | exact Kd.N_nil _ _ _ _ _ | exact Kd.V_nil _ _ _ _ _ | exact Kd.Q_nil _ _ _ _ _ | exact Kd.S_nil _ _ _ _ _, by repeat (first | (with_reducible first | exact HB.out | apply below_alloc | apply pw_below_drewN | apply below_drew1 | refine below_set ?_ GE248.out) | exact HB.out)⟩
      · replace c11 := Bool.eq_false_iff.mpr c11
        subst c11
        have H1 : (if 0 ≤ (wrap64 ((l0_0.length : Int) + 1)) then (if (wrap64 ((l0_0.length : Int) + 1) : Int).toNat ≤ 11728124029610 then (burnishref08_PostDominators.l0 kj1 (l0_0.length : Int) 0 l0_0 (List.replicate (wrap64 ((l0_0.length : Int) + 1) : Int).toNat [])) else (none)) else (none)) = some r := by rw [if_neg (show ¬ (false = true) by decide)] at H; exact H
        clear H
        have H := H1
        clear H1
        obtain ⟨ji12, hji12⟩ : ∃ j_ : Int, (wrap64 ((l0_0.length : Int) + 1)) = j_ := ⟨_, rfl⟩
        replace H : (if 0 ≤ (ji12) then (if (ji12 : Int).toNat ≤ 11728124029610 then (burnishref08_PostDominators.l0 kj1 (l0_0.length : Int) 0 l0_0 (List.replicate (ji12 : Int).toNat [])) else (none)) else (none)) = some r := by first | (rw [hji12] at H; exact H) | (simp only [hji12] at H ⊢; exact H)
        have hji12w : (IntKind.i64.wrap ((l0_0.length : Int) + 1)) = ji12 := (i64_w _).trans hji12
        by_cases c13 : 0 ≤ (ji12)
        · rw [if_pos c13] at H
          have c13b0 := eq_true c13
          have c13b1 : decide (0 ≤ (ji12)) = true := decide_eq_true c13
          clear c13
          by_cases c14 : (ji12 : Int).toNat ≤ 11728124029610
          · rw [if_pos c14] at H
            have c14b0 := eq_true c14
            have c14b1 : decide ((ji12 : Int).toNat ≤ 11728124029610) = true := decide_eq_true c14
            clear c14
            obtain ⟨y250, hy250⟩ : ∃ y_ : List (List Int), y_ = (List.replicate (ji12 : Int).toNat []) := ⟨_, rfl⟩
            replace H : (burnishref08_PostDominators.l0 kj1 (l0_0.length : Int) 0 l0_0 y250) = some r := by first | (rw [hy250]; with_reducible exact H) | (have H2_ := (Option.bind_some _ _).symm.trans H; rw [hy250]; with_reducible exact H2_) | (have H2_ := (Option.bind_some _ _).symm.trans H; with_reducible exact H2_) | with_reducible exact H | (rw [hy250]; exact H) | exact H
            have Ny250 := Aside0.mk hy250
            clear hy250
            have H' := Aside0.mk H
            clear H
            go_wp2_with (first | ((with_reducible refine gate_dst (N := 20) rfl ?_); refine Kd.S_make (Kd.slice 3 (Kd.int .i64)) _ 28 rfl (N := 20) rfl 22 _ _ rfl ji12 rfl rfl Try.underlying22 (.slice none 0 0) 24 info28 rfl (by decide) (by omega) [] (ok := fun _ => True) (okp := fun _ => True) ⟨_, rfl, Kd.R_nil _ _ _ _ _⟩ (fun _ hk => hk) trivial (of_decide_eq_true (by first | (with_reducible assumption) | assumption)) (Nat.le_trans (Nat.mul_le_mul_right _ (of_decide_eq_true (by first | (with_reducible assumption) | assumption) : ji12.toNat ≤ 11728124029610)) (by omega)) (Below.refl _ _) (Nat.le_refl _) ?_; intro v251 w15 ho16 hb hg_ hnew_; clear hg_ hnew_; (first | rw [← Ny250.out] at ho16 | (simp only [Int.reduceToNat] at ho16; rw [← Ny250.out] at ho16)); have n0_ := Aside0.mk (Kd.S_lower ho16 (below_size (by repeat (first | (with_reducible first | exact HB.out | apply below_alloc | apply pw_below_drewN | apply below_drew1 | refine below_set ?_ GE248.out) | exact HB.out)))); have n1_ := Aside0.mk (blk_below (g := gb248) (o := .cells #[.slice A0_0 l0_0.length c0_0] 24 (0, 0)) (by (with_reducible repeat (first | refine blk_drewN ?_ _ | refine blk_drew ?_ | refine blk_alloc ?_ _)); exact BK248.out) hb); have n2_ := Aside0.mk (below_step (by repeat (first | (with_reducible first | exact HB.out | apply below_alloc | apply pw_below_drewN | apply below_drew1 | refine below_set ?_ GE248.out) | exact HB.out)) hb); clear BK248; clear HB; have HO252 := n0_; have BK248 := n1_; have HB := n2_; clear n0_ n1_ n2_; clear hb ho16; obtain ⟨Ao17, co17, eo17⟩ := Kd.S_slice HO252.out; subst eo17) | ((with_reducible refine gate_dst (N := 4) rfl ?_); refine box_event ?hg (N := 4) ?hd (cs := #[.slice none 0 0]) (t := 24) ?hr ?_; (case hd => rfl); (case hg => rfl); (case hr => first | (go_simp; done) | (go_simp; rfl)); intro gb253 hg w18 hbox hb; have n0_ := Aside0.mk (Kd.S_below (by (with_reducible repeat (first | apply Kd.S_alloc | apply Kd.S_drewN | apply Kd.S_drew)); exact HO252.out) hb); have n1_ := Aside0.mk (blk_below (g := gb248) (o := .cells #[.slice A0_0 l0_0.length c0_0] 24 (0, 0)) (by (with_reducible repeat (first | refine blk_drewN ?_ _ | refine blk_drew ?_ | refine blk_alloc ?_ _)); exact BK248.out) hb); have n2_ := Aside0.mk (below_step (by repeat (first | (with_reducible first | exact HB.out | apply below_alloc | apply pw_below_drewN | apply below_drew1 | refine below_set ?_ GE248.out) | exact HB.out)) hb); have n3_ := Aside0.mk (hbox); have n4_ := Aside0.mk ((by rw [hg]; exact (below_size (by repeat (first | (with_reducible first | exact HB.out | apply below_alloc | apply pw_below_drewN | apply below_drew1 | refine below_set ?_ GE248.out) | exact HB.out))) : w.heap.size ≤ gb253)); have n5_ := Aside0.mk ((by rw [hg]; exact (below_size (by repeat (first | (with_reducible first | exact HB.out | apply below_alloc | apply pw_below_drewN | apply below_drew1 | refine below_set ?_ GE248.out) | exact HB.out))) : w.heap.size ≤ gb253)); have n6_ := Aside0.mk ((by rw [hg]; exact Nat.ne_of_lt (blk_lt (g := gb248) (o := .cells #[.slice A0_0 l0_0.length c0_0] 24 (0, 0)) (by (with_reducible repeat (first | refine blk_drewN ?_ _ | refine blk_drew ?_ | refine blk_alloc ?_ _)); exact BK248.out)) : gb248 ≠ gb253)); have n7_ := Aside0.mk ((by rw [hg]; exact Nat.ne_of_gt (blk_lt (g := gb248) (o := .cells #[.slice A0_0 l0_0.length c0_0] 24 (0, 0)) (by (with_reducible repeat (first | refine blk_drewN ?_ _ | refine blk_drew ?_ | refine blk_alloc ?_ _)); exact BK248.out)) : gb253 ≠ gb248)); clear HO252; clear BK248; clear HB; have HO252 := n0_; have BK248 := n1_; have HB := n2_; have BK253 := n3_; have GW253 := n4_; have GE253 := n5_; have NB248_253 := n6_; have NB253_248 := n7_; clear n0_ n1_ n2_ n3_ n4_ n5_ n6_ n7_; clear hb hbox hg; have hnb19 := NB253_248.out; have hnc19 := NB248_253.out; have hcz20_0 : w18.cell? ⟨gb253, 0, none⟩ = some (.slice none 0 0) := (blk_cell BK253.out 0).trans rfl; have hfz20_0 := blk_frozen BK253.out 0))
            go_loopg [5] kj1 (fun kq v5 w' => ∃ (x5_2 : Int) (x254000_2 : List (List Int)) (u254000 : Value), v5 = .int .i64 x5_2 ∧ Aside0 (burnishref08_PostDominators.l0 kq (l0_0.length : Int) x5_2 l0_0 x254000_2 = some r) ∧ Aside0 (kq ≤ kj1) ∧ Aside0 (Kd.S (Kd.slice 3 (Kd.int .i64)) 28 w' w.heap.size (fun _ => True) u254000 x254000_2) ∧ Aside0 (w'.heap[gb248]? = some (.cells #[(.slice A0_0 l0_0.length c0_0)] 24 (0, 0))) ∧ Aside0 (w'.heap[gb253]? = some (.cells #[u254000] 24 (0, 0))) ∧ Aside0 (Below w.heap.size w w'))
            case atStart => exact ⟨(0), (y250), (.slice Ao17 y250.length co17), (by first | rfl | (simp; done) | (simp [*]; done)), H', ⟨Nat.le_refl _⟩, ⟨by (with_reducible repeat (first | apply Kd.S_alloc | apply Kd.S_drewN | apply Kd.S_drew)); exact Kd.S_mono (Kd.S_far (p := ⟨gb253, 0, none⟩) (Kd.S_types HO252.out BK253.out (by decide)) (fun _ hk => hk.2) (.slice Ao17 y250.length co17)) (fun _ hk => trivial)⟩, ⟨by (with_reducible repeat (first | refine blk_drewN ?_ _ | refine blk_drew ?_ | refine blk_alloc ?_ _)); refine blk_far ?_ NB248_253.out _; (with_reducible repeat (first | refine blk_drewN ?_ _ | refine blk_drew ?_ | refine blk_alloc ?_ _)); exact BK248.out⟩, ⟨by (with_reducible repeat (first | refine blk_drewN ?_ _ | refine blk_drew ?_ | refine blk_alloc ?_ _)); refine blk_put (cs := #[.slice none 0 0]) ?_ 0 _ rfl; (with_reducible repeat (first | refine blk_drewN ?_ _ | refine blk_drew ?_ | refine blk_alloc ?_ _)); exact BK253.out⟩, ⟨by repeat (first | (with_reducible first | exact HB.out | apply below_alloc | apply pw_below_drewN | apply below_drew1 | refine below_set ?_ GE248.out | refine below_set ?_ GE253.out) | exact HB.out)⟩⟩
            case round =>
              clear H'
              try clear c1
              try clear p2
              try clear c6
              try clear c6b0
              try clear c6b1
              try clear p6
              try clear c11
              try clear c13
              try clear c13b0
              try clear c13b1
              try clear c14
              try clear c14b0
              try clear c14b1
              try clear c15
              try clear c16
              try clear c19
              try clear hcz20_0
              try clear hcz4_0
              try clear hcz7_0
              try clear hcz9_0
              try clear hfz20_0
              try clear hfz4_0
              try clear hfz7_0
              try clear hfz9_0
              try clear p2
              obtain ⟨x5_2, x254000_2, u254000, rfl, HA, HK2, HO_254000, BK248, BK253, HB⟩ := hrel
              cases gk with
              | zero => exact absurd HA.out (by simp [burnishref08_PostDominators.l0])
              | succ k2 =>
                have H := HA.out
                clear HA
                simp only [burnishref08_PostDominators.l0] at H
                by_cases c21 : x5_2 < (l0_0.length : Int)
                · rw [if_pos c21] at H
                  have c21b0 : decide (x5_2 < (l0_0.length : Int)) = true := decide_eq_true c21
                  clear c21
                  by_cases c22 : 0 ≤ x5_2
                  · rw [if_pos c22] at H
                    have c22b0 : decide (0 ≤ x5_2) = true := decide_eq_true c22
                    clear c22
                    by_cases c23 : x5_2 < (l0_0.length : Int)
                    · rw [if_pos c23] at H
                      have c23b0 : decide (x5_2 < (l0_0.length : Int)) = true := decide_eq_true c23
                      clear c23
                      have H' := Aside0.mk H
                      clear H
                      have hnb24 := NB248_253.out
                      have hnc24 := NB253_248.out
                      have hcz25_0 : wr.cell? ⟨gb248, 0, none⟩ = some (.slice A0_0 l0_0.length c0_0) := (blk_cell BK248.out 0).trans rfl
                      have hfz25_0 := blk_frozen BK248.out 0
                      have p257 : 0 ≤ (x5_2 : Int) := of_decide_eq_true (by first | (with_reducible assumption) | assumption)
                      have q257 : x5_2 < (l0_0.length : Int) := of_decide_eq_true (by first | (with_reducible assumption) | assumption)
                      obtain ⟨ad257, A257_0, c257_0, e257, hx257_0, hl257_0, hi257_0⟩ := at_L1 HR0_0.out x5_2 p257 q257
                      cases e257
                      replace hx257_0 := (HB.out.cell (World.block_lt_of_cell? w _ hx257_0)).trans hx257_0
                      have HR257_0 := Aside0.mk hi257_0
                      have HC257_0 := Aside0.mk hl257_0
                      clear hi257_0 hl257_0
                      replace p257 := eq_true p257
                      replace q257 := eq_true q257
                      go_wp2
                      go_loopg [33] k2 (fun kq v33 w' => ∃ (x33_3 : Int) (x254000_3 : List (List Int)) (u254000 : Value), v33 = .int .i64 x33_3 ∧ Aside0 (burnishref08_PostDominators.l1 kq (l0_0.length : Int) x5_2 (rd_L1 l0_0 x5_2) ((rd_L1 l0_0 x5_2).length : Int) x33_3 l0_0 x254000_3 = some r) ∧ Aside0 (kq ≤ k2) ∧ Aside0 (Kd.S (Kd.slice 3 (Kd.int .i64)) 28 w' w.heap.size (fun _ => True) u254000 x254000_3) ∧ Aside0 (w'.heap[gb248]? = some (.cells #[(.slice (some ad257) l0_0.length c0_0)] 24 (0, 0))) ∧ Aside0 (w'.heap[gb253]? = some (.cells #[u254000] 24 (0, 0))) ∧ Aside0 (Below w.heap.size w w'))
                      case atStart => exact ⟨(0), (x254000_2), (u254000), (by first | rfl | (simp; done) | (simp [*]; done)), H', ⟨Nat.le_refl _⟩, ⟨by (with_reducible repeat (first | apply Kd.S_alloc | apply Kd.S_drewN | apply Kd.S_drew)); exact HO_254000.out⟩, ⟨by (with_reducible repeat (first | refine blk_drewN ?_ _ | refine blk_drew ?_ | refine blk_alloc ?_ _)); exact BK248.out⟩, ⟨by (with_reducible repeat (first | refine blk_drewN ?_ _ | refine blk_drew ?_ | refine blk_alloc ?_ _)); exact BK253.out⟩, ⟨by repeat (first | (with_reducible first | exact HB.out | apply below_alloc | apply pw_below_drewN | apply below_drew1 | refine below_set ?_ GE248.out | refine below_set ?_ GE253.out) | exact HB.out)⟩⟩
                      case round =>
                        clear H'
                        try clear c1
                        try clear c2
                        try clear p2
                        try clear q2
                        try clear hx2
                        try clear c6
                        try clear c6b0
                        try clear c6b1
                        try clear p6
                        try clear c11
                        try clear c13
                        try clear c13b0
                        try clear c13b1
                        try clear c14
                        try clear c14b0
                        try clear c14b1
                        try clear c15
                        try clear c16
                        try clear c19
                        try clear c21
                        try clear c21b0
                        try clear c22
                        try clear c22b0
                        try clear c23
                        try clear c23b0
                        try clear c24
                        try clear c25
                        try clear p25
                        try clear q25
                        try clear hx25
                        try clear hcz20_0
                        try clear hcz25_0
                        try clear hcz4_0
                        try clear hcz7_0
                        try clear hcz9_0
                        try clear hfz20_0
                        try clear hfz25_0
                        try clear hfz4_0
                        try clear hfz7_0
                        try clear hfz9_0
                        try clear hx257_0
                        try clear p2
                        try clear p257
                        try clear p6
                        try clear q257
                        obtain ⟨x33_3, x254000_3, u254000, rfl, HA, HK3, HO_254000, BK248, BK253, HB⟩ := hrel
                        cases gk with
                        | zero => exact absurd HA.out (by simp [burnishref08_PostDominators.l1])
                        | succ k3 =>
                          have H := HA.out
                          clear HA
                          simp only [burnishref08_PostDominators.l1] at H
                          by_cases c26 : x33_3 < ((rd_L1 l0_0 x5_2).length : Int)
                          · rw [if_pos c26] at H
                            have c26b0 : decide (x33_3 < ((rd_L1 l0_0 x5_2).length : Int)) = true := decide_eq_true c26
                            clear c26
                            by_cases c27 : 0 ≤ x33_3
                            · rw [if_pos c27] at H
                              have c27b0 : decide (0 ≤ x33_3) = true := decide_eq_true c27
                              clear c27
                              by_cases c28 : x33_3 < ((rd_L1 l0_0 x5_2).length : Int)
                              · rw [if_pos c28] at H
                                have c28b0 : decide (x33_3 < ((rd_L1 l0_0 x5_2).length : Int)) = true := decide_eq_true c28
                                clear c28
                                by_cases c29 : 0 ≤ (rd (rd_L1 l0_0 x5_2) x33_3)
                                · rw [if_pos c29] at H
                                  have c29b0 : decide (0 ≤ (rd (rd_L1 l0_0 x5_2) x33_3)) = true := decide_eq_true c29
                                  clear c29
                                  by_cases c30 : (rd (rd_L1 l0_0 x5_2) x33_3) < (x254000_3.length : Int)
                                  · rw [if_pos c30] at H
                                    have c30b0 : decide ((rd (rd_L1 l0_0 x5_2) x33_3) < (x254000_3.length : Int)) = true := decide_eq_true c30
                                    clear c30
                                    by_cases c31 : (rd_L1 x254000_3 (rd (rd_L1 l0_0 x5_2) x33_3)).length < 17592186044416
                                    · rw [if_pos c31] at H
                                      have LMc31 := Aside0.mk c31
                                      clear c31
                                      obtain ⟨y260, hy260⟩ : ∃ y_ : List Int, y_ = ((rd_L1 x254000_3 (rd (rd_L1 l0_0 x5_2) x33_3)) ++ [x5_2]) := ⟨_, rfl⟩
                                      replace H : (burnishref08_PostDominators.l1 k3 (l0_0.length : Int) x5_2 (rd_L1 l0_0 x5_2) ((rd_L1 l0_0 x5_2).length : Int) (wrap64 (x33_3 + 1)) l0_0 (x254000_3.set ((rd (rd_L1 l0_0 x5_2) x33_3) : Int).toNat y260)) = some r := by first | (rw [hy260]; with_reducible exact H) | (have H2_ := (Option.bind_some _ _).symm.trans H; rw [hy260]; with_reducible exact H2_) | (have H2_ := (Option.bind_some _ _).symm.trans H; with_reducible exact H2_) | with_reducible exact H | (rw [hy260]; exact H) | exact H
                                      have Ny260 := Aside0.mk hy260
                                      clear hy260
                                      obtain ⟨y263, hy263⟩ : ∃ y_ : List (List Int), y_ = (x254000_3.set ((rd (rd_L1 l0_0 x5_2) x33_3) : Int).toNat y260) := ⟨_, rfl⟩
                                      replace H : (burnishref08_PostDominators.l1 k3 (l0_0.length : Int) x5_2 (rd_L1 l0_0 x5_2) ((rd_L1 l0_0 x5_2).length : Int) (wrap64 (x33_3 + 1)) l0_0 y263) = some r := by first | (rw [hy263]; with_reducible exact H) | (have H2_ := (Option.bind_some _ _).symm.trans H; rw [hy263]; with_reducible exact H2_) | (have H2_ := (Option.bind_some _ _).symm.trans H; with_reducible exact H2_) | with_reducible exact H | (rw [hy263]; exact H) | exact H
                                      have Ny263 := Aside0.mk hy263
                                      clear hy263
                                      have H' := Aside0.mk H
                                      clear H
                                      have p258 : 0 ≤ (x33_3 : Int) := of_decide_eq_true (by first | (with_reducible assumption) | assumption)
                                      have q258 : x33_3 < ((rd_L1 l0_0 x5_2).length : Int) := of_decide_eq_true (by first | (with_reducible assumption) | assumption)
                                      obtain ⟨ad258, e258, hx258_0⟩ := Kd.at_int HR257_0.out x33_3 p258 q258
                                      cases e258
                                      replace hx258_0 := (HB.out.cell (World.block_lt_of_cell? w _ hx258_0)).trans hx258_0
                                      replace p258 := eq_true p258
                                      replace q258 := eq_true q258
                                      try go_wp2
                                      have n0_ := Aside0.mk (Kd.S_drew HO_254000.out)
                                      have n1_ := Aside0.mk (blk_drew BK248.out)
                                      have n2_ := Aside0.mk (blk_drew BK253.out)
                                      have n3_ := Aside0.mk (below_drew1 HB.out)
                                      clear HO_254000
                                      clear BK248
                                      clear BK253
                                      clear HB
                                      have HO_254000 := n0_
                                      have BK248 := n1_
                                      have BK253 := n2_
                                      have HB := n3_
                                      clear n0_ n1_ n2_ n3_
                                      obtain ⟨Ao34, co34, eo34⟩ := Kd.S_slice HO_254000.out
                                      (first | subst eo34 | (injection eo34 with f1_ f2_ f3_; have f4_ := f1_.symm; have f5_ := f3_.symm; clear f1_ f2_ f3_; subst f4_; subst f5_))
                                      have p259 : 0 ≤ ((rd (rd_L1 l0_0 x5_2) x33_3) : Int) := of_decide_eq_true (by first | (with_reducible assumption) | assumption)
                                      have q259 : (rd (rd_L1 l0_0 x5_2) x33_3) < (x254000_3.length : Int) := of_decide_eq_true (by first | (with_reducible assumption) | assumption)
                                      obtain ⟨ad259, A259_0, c259_0, e259, hx259_0, hl259_0, hi259_0⟩ := at_L1 (Kd.S_reads' HO_254000.out).2.2 (rd (rd_L1 l0_0 x5_2) x33_3) p259 q259
                                      cases e259
                                      obtain ⟨ce259, hce259, hMe259, hcc259⟩ := Kd.S_get HO_254000.out [] (rd (rd_L1 l0_0 x5_2) x33_3) p259 (by first | exact q259 | exact of_decide_eq_true (by first | (with_reducible assumption) | assumption) | (have e_ := (Kd.S_reads' HO_254000.out).1; omega))
                                      obtain ⟨ve259_0, rfl, ge259_0⟩ := hMe259
                                      have hv259_0 := hcc259 0 _ rfl
                                      rw [Nat.add_zero, show ((Kd.slice 3 (Kd.int .i64))).sz = 1 from rfl, Nat.mul_one] at hv259_0
                                      replace hv259_0 := Option.some.inj (hv259_0.symm.trans hx259_0)
                                      rw [hv259_0] at ge259_0
                                      have HL259_0 := Aside0.mk (show Kd.R (Kd.int .i64) 3 _ _ _ _ (rd_L1 x254000_3 (rd (rd_L1 l0_0 x5_2) x33_3)) from ge259_0)
                                      clear hv259_0 ge259_0
                                      have HX259_0 := Aside0.mk hx259_0
                                      clear hcc259 hce259
                                      have HR259_0 := Aside0.mk hi259_0
                                      have HC259_0 := Aside0.mk hl259_0
                                      clear hi259_0 hl259_0
                                      replace p259 := eq_true p259
                                      replace q259 := eq_true q259
                                      obtain ⟨go35, co35, eo35, gb35, gl35, cl35, HG35⟩ := Kd.S_form HO_254000.out (by have h_ : ((rd (rd_L1 l0_0 x5_2) x33_3) : Int) < ((x254000_3.length : Int) : Int) := of_decide_eq_true (by first | (with_reducible assumption) | assumption); have h2_ : 0 ≤ ((rd (rd_L1 l0_0 x5_2) x33_3) : Int) := (of_decide_eq_true (by first | (with_reducible assumption) | assumption)); omega)
                                      (first | cases eo35 | (injection eo35 with ea_ en_ ec_; (first | subst ea_ | (injection ea_ with ea_; subst ea_)); subst ec_; clear en_))
                                      have GB35 := Aside0.mk gb35
                                      have GG35 := Aside0.mk HG35
                                      clear gb35 gl35 HG35
                                      (first | simp only [add_plain] at hx259_0 | skip)
                                      obtain ⟨oki35, ce35, hcl35, hM35, hcc35, _, _, hH35⟩ := Kd.S_elem HO_254000.out [] ((rd (rd_L1 l0_0 x5_2) x33_3) : Int) (of_decide_eq_true (by first | (with_reducible assumption) | assumption)) (by have h_ : ((rd (rd_L1 l0_0 x5_2) x33_3) : Int) < ((x254000_3.length : Int) : Int) := of_decide_eq_true (by first | (with_reducible assumption) | assumption); first | exact h_ | (have e_ := (Kd.S_reads' HO_254000.out).1; omega) | simpa using h_)
                                      obtain ⟨ve35_0, rfl, ge35_0⟩ := hM35
                                      have hv35 := hcc35 0 _ rfl
                                      have hX35 := HX259_0.out
                                      (try simp only [add_plain] at hX35)
                                      (try simp only [Nat.add_zero] at hv35)
                                      (try rw [show ((Kd.slice 3 (Kd.int .i64))).sz = 1 from rfl, Nat.mul_one] at hv35)
                                      replace hv35 := Option.some.inj (hv35.symm.trans hX35)
                                      subst hv35
                                      clear hX35 hcc35 hcl35
                                      have UU35 := Aside0.mk (show Kd.R (Kd.int .i64) 3 _ w.heap.size oki35 (.slice A259_0 (rd_L1 x254000_3 (rd (rd_L1 l0_0 x5_2) x33_3)).length c259_0) (rd_L1 x254000_3 (rd (rd_L1 l0_0 x5_2) x33_3)) from ge35_0)
                                      have HH35 := Aside0.mk hH35
                                      have HN35 := Aside0.mk (Kd.S_reads' HO_254000.out).1
                                      clear hH35 ge35_0
                                      refine start_ (n := 13) (S := fun w' => w'.cell? ⟨gb253, 0, none⟩ = some (.slice (some ⟨go35, 0, none⟩) x254000_3.length co34) ∧ w'.cell? ⟨go35, ((rd (rd_L1 l0_0 x5_2) x33_3) : Int).toNat, none⟩ = some (.slice A259_0 (rd_L1 x254000_3 (rd (rd_L1 l0_0 x5_2) x33_3)).length c259_0)) (ds := [12]) #[false, false, false, false, false, false, false, false, false, false, false, false, false] (by kernel_rfl) rfl rfl ⟨(blk_cell BK253.out 0).trans rfl, hx259_0⟩ (fun hHeld => ?_); refine with_tabW burnishref08_PostDominators.tab11 burnishref08_PostDominators.bits11 (fun HT_ HW_ => ?_)
                                      generalize wr.drew = w33 at HO_254000 BK248 BK253 HB GG35 HH35 HL259_0 HR259_0 HX259_0 UU35 hx259_0 hHeld ⊢
                                      refine pure_ (i := 0) (N := some 37) (v := ?_) (a' := ?_) #[true, false, false, false, false, false, false, false, false, false, false, false, false] rfl rfl (any_of HT_.out (by kernel_rfl)) (fun _ _ _ h => h) (Or.inl ⟨by rfl, ?_⟩) ?_ ?_
                                      rotate_left
                                      · intro w'
                                        go_simp
                                        with_reducible rfl
                                      rotate_left
                                      · simp only [Act.put, List.setIfInBounds_toArray, List.set_cons_zero, List.set_cons_succ, i64_w, i32_w]
                                        rfl
                                      refine pure_ (i := 2) (N := some 39) (v := ?_) (a' := ?_) #[true, false, true, false, false, false, false, false, false, false, false, false, false] rfl rfl (any_of HT_.out (by kernel_rfl)) (fun _ _ _ h => h) (Or.inl ⟨by rfl, ?_⟩) ?_ ?_
                                      rotate_left
                                      · intro w'
                                        go_simp
                                        with_reducible rfl
                                      rotate_left
                                      · simp only [Act.put, List.setIfInBounds_toArray, List.set_cons_zero, List.set_cons_succ, i64_w, i32_w]
                                        rfl
                                      refine pure_ (i := 3) (N := some 40) (v := ?_) (a' := ?_) #[true, false, true, true, false, false, false, false, false, false, false, false, false] rfl rfl (any_of HT_.out (by kernel_rfl)) (fun _ _ _ h => h) (Or.inl ⟨by rfl, ?_⟩) ?_ ?_
                                      rotate_left
                                      · intro w'
                                        go_simp
                                        with_reducible rfl
                                      rotate_left
                                      · simp only [Act.put, List.setIfInBounds_toArray, List.set_cons_zero, List.set_cons_succ, i64_w, i32_w]
                                        rfl
                                      refine pure_ (i := 5) (N := some 42) (v := ?_) (a' := ?_) #[true, false, true, true, false, true, false, false, false, false, false, false, false] rfl rfl (any_of HT_.out (by kernel_rfl)) (fun _ _ _ h => h) (Or.inl ⟨by rfl, ?_⟩) ?_ ?_
                                      rotate_left
                                      · intro w'
                                        go_simp
                                        with_reducible rfl
                                      rotate_left
                                      · simp only [Act.put, List.setIfInBounds_toArray, List.set_cons_zero, List.set_cons_succ, i64_w, i32_w]
                                        rfl
                                      refine pure_ (i := 8) (N := some 45) (v := ?_) (a' := ?_) #[true, false, true, true, false, true, false, false, true, false, false, false, false] rfl rfl (any_of HT_.out (by kernel_rfl)) (fun _ _ _ h => h) (Or.inl ⟨by rfl, ?_⟩) ?_ ?_
                                      rotate_left
                                      · intro w'
                                        go_simp
                                        with_reducible rfl
                                      rotate_left
                                      · simp only [Act.put, List.setIfInBounds_toArray, List.set_cons_zero, List.set_cons_succ, i64_w, i32_w]
                                        rfl
                                      refine take_ (i := 1) (N := some 38) (v := ?_) (a' := ?_) #[true, true, true, true, false, true, false, false, true, false, false, false, false] rfl rfl (take_ofW HT_.out HW_.out (by kernel_rfl)) (fun _ _ _ h => h) (Or.inl ⟨by rfl, ?_⟩) hHeld ?_ ?_
                                      rotate_left
                                      · rintro w' ⟨s0, s1⟩
                                        go_simp
                                        with_reducible rfl
                                      rotate_left
                                      · simp only [Act.put, List.setIfInBounds_toArray, List.set_cons_zero, List.set_cons_succ, i64_w, i32_w]
                                        rfl
                                      refine take_ (i := 4) (N := some 41) (v := ?_) (a' := ?_) #[true, true, true, true, true, true, false, false, true, false, false, false, false] rfl rfl (take_ofW HT_.out HW_.out (by kernel_rfl)) (fun _ _ _ h => h) (Or.inl ⟨by rfl, ?_⟩) hHeld ?_ ?_
                                      rotate_left
                                      · rintro w' ⟨s0, s1⟩
                                        go_simp
                                        with_reducible rfl
                                      rotate_left
                                      · simp only [Act.put, List.setIfInBounds_toArray, List.set_cons_zero, List.set_cons_succ, i64_w, i32_w]
                                        rfl
                                      refine pure_ (i := 6) (N := some 43) (v := ?_) (a' := ?_) #[true, true, true, true, true, true, true, false, true, false, false, false, false] rfl rfl (any_of HT_.out (by kernel_rfl)) (fun _ _ _ h => h) (Or.inl ⟨by rfl, ?_⟩) ?_ ?_
                                      rotate_left
                                      · intro w'
                                        go_simp
                                        with_reducible rfl
                                      rotate_left
                                      · simp only [Act.put, List.setIfInBounds_toArray, List.set_cons_zero, List.set_cons_succ, i64_w, i32_w]
                                        rfl
                                      refine take_ (i := 7) (N := some 44) (v := ?_) (a' := ?_) #[true, true, true, true, true, true, true, true, true, false, false, false, false] rfl rfl (take_ofW HT_.out HW_.out (by kernel_rfl)) (fun _ _ _ h => h) (Or.inl ⟨by rfl, ?_⟩) hHeld ?_ ?_
                                      rotate_left
                                      · rintro w' ⟨s0, s1⟩
                                        go_simp
                                        with_reducible rfl
                                      rotate_left
                                      · simp only [Act.put, List.setIfInBounds_toArray, List.set_cons_zero, List.set_cons_succ, i64_w, i32_w]
                                        rfl
                                      refine one_ (i := 9) (N := some 46) #[true, true, true, true, true, true, true, true, true, true, false, false, false] rfl rfl (one_of HT_.out (by kernel_rfl)) (by decide) (fun K hK => ?_)
                                      refine value_ (w1 := ?_) (v := ?_) (by rfl) rfl ?_ ?_
                                      rotate_left 2
                                      · go_simp
                                        constructor
                                        · rfl
                                        · rfl
                                      refine hK.out _ _ ⟨(blk_cell (blk_alloc BK253.out _) 0).trans rfl, (World.cell?_alloc_lt _ _ _ (World.block_lt_of_cell? _ _ (hHeld.2))).trans (hHeld.2)⟩ (fun hHeld => ?_)
                                      clear hK K
                                      refine norm_ (a' := ?_) ?_ ?_
                                      rotate_left
                                      · show Act.put _ (some 46) _ = _
                                        simp only [Act.put, List.setIfInBounds_toArray, List.set_cons_zero, List.set_cons_succ, i64_w, i32_w]
                                        rfl
                                      refine one_ (i := 10) (N := some 47) #[true, true, true, true, true, true, true, true, true, true, true, false, false] rfl rfl (one_of HT_.out (by kernel_rfl)) (by decide) (fun K hK => ?_)
                                      refine Kd.R_append_step (Kd.int .i64) (w0 := w) w.heap.size (by rfl) (.tmp 44) (.tmp 46) 28 3 (.int .i64 0) 8 rfl Try.underlying28 info3 rfl (by decide) (by omega) (.slice A259_0 (rd_L1 x254000_3 (rd (rd_L1 l0_0 x5_2) x33_3)).length c259_0) (rd_L1 x254000_3 (rd (rd_L1 l0_0 x5_2) x33_3)) x5_2 [.int .i64 x5_2] (fun k_ => oki35 k_ ∨ ((fun _ => True)) k_ ∧ w33.heap.size ≤ k_) (fun _ => False) rfl rfl ?aP (fun _ hk => hk.elim) ?aF ?aO ?aB ?aS ?aL ?_
                                      (case aP => exact rfl)
                                      (case aB => exact (by repeat (first | (with_reducible first | exact HB.out | apply below_alloc | apply pw_below_drewN | apply below_drew1 | refine below_set ?_ GE248.out | refine below_set ?_ GE253.out) | exact HB.out)))
                                      (case aF => exact (fun k_ hk => .inr ⟨trivial, hk⟩))
                                      (case aO => exact (by (with_reducible repeat (first | apply Kd.R_alloc | apply Kd.R_drewN | apply Kd.R_drew)); exact Kd.R_mono UU35.out (fun _ hk => .inl hk)))
                                      (case aS => exact (below_size (by repeat (first | (with_reducible first | exact HB.out | apply below_alloc | apply pw_below_drewN | apply below_drew1 | refine below_set ?_ GE248.out | refine below_set ?_ GE253.out) | exact HB.out))))
                                      (case aL => have := LMc31.out; omega)
                                      intro v261 w36 ho hb hg hat
                                      (first | have HS1_ := cell_grown hg (hHeld.2) (by first | (rw [add_block]; exact (fun e_ => ((HL259_0.out.1 _ e_.symm).2) rfl)) | (show some (Addr.add _ _).block ≠ _; rw [add_block]; exact (fun e_ => ((HL259_0.out.1 _ e_.symm).2) rfl)) | exact (fun e_ => ((HL259_0.out.1 _ e_.symm).2) rfl)) | have HS1_ := cell_grown hg (cell_unalloc (hHeld.2) (by first | (rw [add_block]; exact Kd.S_lt HO_254000.out _ rfl) | (show (Addr.add _ _).block < _; rw [add_block]; exact Kd.S_lt HO_254000.out _ rfl) | exact Kd.S_lt HO_254000.out _ rfl)) (by first | (rw [add_block]; exact (fun e_ => ((HL259_0.out.1 _ e_.symm).2) rfl)) | (show some (Addr.add _ _).block ≠ _; rw [add_block]; exact (fun e_ => ((HL259_0.out.1 _ e_.symm).2) rfl)) | exact (fun e_ => ((HL259_0.out.1 _ e_.symm).2) rfl)))
                                      rw [← Ny260.out] at ho
                                      have n0_ := Aside0.mk (blk_grown (g := gb248) (o := .cells #[.slice (some ad257) l0_0.length c0_0] 24 (0, 0)) (by (with_reducible repeat (first | refine blk_drewN ?_ _ | refine blk_drew ?_ | refine blk_alloc ?_ _)); exact BK248.out) hg (Kd.R_ne HL259_0.out BK248.out (by decide)))
                                      have n1_ := Aside0.mk (blk_grown (g := gb253) (o := .cells #[.slice (some ⟨go35, 0, none⟩) x254000_3.length co34] 24 (0, 0)) (by (with_reducible repeat (first | refine blk_drewN ?_ _ | refine blk_drew ?_ | refine blk_alloc ?_ _)); exact BK253.out) hg (Kd.R_ne HL259_0.out BK253.out (by decide)))
                                      have n2_ := Aside0.mk (hb)
                                      have n3_ := Aside0.mk (Kd.H_grown (Kd.H_widen (by repeat (first | exact HH35.out | refine Kd.H_alloc ?_ _ | refine Kd.H_drewN ?_ _ | refine Kd.H_drew ?_))) hg (fun k_ e_ => .inl (UU35.out.1 k_ e_)))
                                      have n4_ := Aside0.mk (ho)
                                      clear BK248
                                      clear BK253
                                      clear HB
                                      clear HH35
                                      clear HO_254000
                                      clear UU35
                                      clear HL259_0
                                      have BK248 := n0_
                                      have BK253 := n1_
                                      have HB := n2_
                                      have HH35 := n3_
                                      have HO262 := n4_
                                      clear n0_ n1_ n2_ n3_ n4_
                                      clear ho hb hg hat
                                      have p32 : 0 ≤ ((rd (rd_L1 l0_0 x5_2) x33_3) : Int) := of_decide_eq_true (by first | (with_reducible assumption) | assumption)
                                      have q32 : ((rd (rd_L1 l0_0 x5_2) x33_3) : Int) < ((x254000_3.length : Int) : Int) := of_decide_eq_true (by first | (with_reducible assumption) | assumption)
                                      replace p32 := eq_true p32
                                      replace q32 := eq_true q32
                                      obtain ⟨Ao39, co39, eo39⟩ := Kd.R_slice HO262.out
                                      (first | subst eo39 | (injection eo39 with f1_ f2_ f3_; have f4_ := f1_.symm; have f5_ := f3_.symm; clear f1_ f2_ f3_; subst f4_; subst f5_))
                                      obtain ⟨_, _, hraw37, _, _, hcc37, _⟩ := Kd.H_raw HH35.out (of_decide_eq_true (by first | (with_reducible assumption) | assumption)) (by have h_ : ((rd (rd_L1 l0_0 x5_2) x33_3) : Int) < ((x254000_3.length : Int) : Int) := of_decide_eq_true (by first | (with_reducible assumption) | assumption); first | exact h_ | (have e_ := (HN35.out); omega) | simpa using h_)
                                      obtain ⟨_, hfr37⟩ := Kd.H_at HH35.out (of_decide_eq_true (by first | (with_reducible assumption) | assumption)) (by have h_ : ((rd (rd_L1 l0_0 x5_2) x33_3) : Int) < ((x254000_3.length : Int) : Int) := of_decide_eq_true (by first | (with_reducible assumption) | assumption); first | exact h_ | (have e_ := (HN35.out); omega) | simpa using h_)
                                      have hx37_0 := hcc37 0 _ rfl
                                      have hf37_0 := hfr37 0
                                      (try simp only [Nat.add_zero] at hx37_0 hf37_0)
                                      (try rw [show ((Kd.slice 3 (Kd.int .i64))).sz = 1 from rfl, Nat.mul_one] at hx37_0)
                                      (try rw [show ((Kd.slice 3 (Kd.int .i64))).sz = 1 from rfl, Nat.mul_one] at hf37_0)
                                      have HP37 := Kd.S_seg0 HH35.out (of_decide_eq_true (by first | (with_reducible assumption) | assumption)) (by have h_ : ((rd (rd_L1 l0_0 x5_2) x33_3) : Int) < ((x254000_3.length : Int) : Int) := of_decide_eq_true (by first | (with_reducible assumption) | assumption); first | exact h_ | (have e_ := (HN35.out); omega) | simpa using h_) (seg := [.slice Ao39 y260.length co39]) (j := 0) (show 1 ≤ 1 from by decide) (x' := y260) (Kd.M_row HO262.out) (fun _ hk => hk)
                                      (try simp only [show ((Kd.slice 3 (Kd.int .i64))).sz = 1 from rfl, Nat.mul_one, Nat.add_zero] at HP37)
                                      clear hcc37 hfr37
                                      have HNB248_go35 := Aside0.mk (show gb248 ≠ go35 from by have h_ := Kd.R_ne hraw37 BK248.out (by decide); intro e_; exact h_ (by rw [e_]; rfl))
                                      have HNB253_go35 := Aside0.mk (show gb253 ≠ go35 from by have h_ := Kd.R_ne hraw37 BK253.out (by decide); intro e_; exact h_ (by rw [e_]; rfl))
                                      have HS37 := HP37.1
                                      rw [← Ny263.out] at HS37
                                      have HQ37 := Aside0.mk HS37
                                      obtain ⟨_, hgg37⟩ := Kd.R_typed hraw37 go35 rfl
                                      have GG37_ := Aside0.mk hgg37
                                      clear HP37 HS37 hgg37
                                      refine hK.out _ _ ⟨(blk_cell BK253.out 0).trans rfl, HS1_⟩ (fun hHeld => ?_)
                                      clear hK K
                                      refine norm_ (a' := ?_) ?_ ?_
                                      rotate_left
                                      · show Act.put _ (some 47) _ = _
                                        simp only [Act.put, List.setIfInBounds_toArray, List.set_cons_zero, List.set_cons_succ, i64_w, i32_w]
                                        rfl
                                      refine pure_ (i := 11) (N := some 48) (v := ?_) (a' := ?_) #[true, true, true, true, true, true, true, true, true, true, true, true, false] rfl rfl (any_of HT_.out (by kernel_rfl)) (fun _ _ _ h => h) (Or.inl ⟨by rfl, ?_⟩) ?_ ?_
                                      rotate_left
                                      · intro w'
                                        go_simp
                                        with_reducible rfl
                                      rotate_left
                                      · simp only [Act.put, List.setIfInBounds_toArray, List.set_cons_zero, List.set_cons_succ, i64_w, i32_w]
                                        rfl
                                      refine last_ (i := 12) (N := none) #[true, true, true, true, true, true, true, true, true, true, true, true, true] rfl rfl (one_of HT_.out (by kernel_rfl)) (by decide) (fun K hK => ?_)
                                      refine skip_ (w1 := ?_) (by rfl) rfl ?_ ?_
                                      rotate_left
                                      · go_simp
                                        rfl
                                      refine hK.out _ _ ?_
                                      clear hK K
                                      refine done_ (done_of HT_.out (by kernel_rfl)) ?_
                                      try go_wp2
                                      go_roundg k3
                                      case measure => have := HJ1.out; have := HK2.out; have := HK3.out; omega
                                      case rel => exact ⟨(wrap64 (x33_3 + 1)), (y263), (.slice (some ⟨go35, 0, none⟩) x254000_3.length co34), (by first | rfl | (simp; done) | (simp [*]; done)), H', ⟨by have := HJ1.out; have := HK2.out; have := HK3.out; omega⟩, ⟨by (with_reducible repeat (first | apply Kd.S_alloc | apply Kd.S_drewN | apply Kd.S_drew)); exact HQ37.out⟩, ⟨by (with_reducible repeat (first | refine blk_drewN ?_ _ | refine blk_drew ?_ | refine blk_alloc ?_ _)); refine blk_far ?_ HNB248_go35.out _; (with_reducible repeat (first | refine blk_drewN ?_ _ | refine blk_drew ?_ | refine blk_alloc ?_ _)); exact BK248.out⟩, ⟨by (with_reducible repeat (first | refine blk_drewN ?_ _ | refine blk_drew ?_ | refine blk_alloc ?_ _)); refine blk_far ?_ HNB253_go35.out _; (with_reducible repeat (first | refine blk_drewN ?_ _ | refine blk_drew ?_ | refine blk_alloc ?_ _)); exact BK253.out⟩, ⟨by repeat (first | (with_reducible first | exact HB.out | apply below_alloc | apply pw_below_drewN | apply below_drew1 | refine below_set ?_ GB35.out | refine below_set ?_ GE248.out | refine below_set ?_ GE253.out) | exact HB.out)⟩⟩
                                    · rw [if_neg c31] at H
                                      exact absurd H (by simp)
                                  · rw [if_neg c30] at H
                                    exact absurd H (by simp)
                                · rw [if_neg c29] at H
                                  exact absurd H (by simp)
                              · rw [if_neg c28] at H
                                exact absurd H (by simp)
                            · rw [if_neg c27] at H
                              exact absurd H (by simp)
                          · rw [if_neg c26] at H
                            have c26b0 : decide (x33_3 < ((rd_L1 l0_0 x5_2).length : Int)) = false := decide_eq_false c26
                            clear c26
                            by_cases c40 : 0 ≤ x5_2
                            · rw [if_pos c40] at H
                              have c40b0 : decide (0 ≤ x5_2) = true := decide_eq_true c40
                              clear c40
                              by_cases c41 : x5_2 < (l0_0.length : Int)
                              · rw [if_pos c41] at H
                                have c41b0 : decide (x5_2 < (l0_0.length : Int)) = true := decide_eq_true c41
                                clear c41
                                by_cases c42 : ((rd_L1 l0_0 x5_2).length : Int) = 0
                                · rw [if_pos c42] at H
                                  have c42b0 : (((rd_L1 l0_0 x5_2).length : Int) == 0) = true := beq_iff_eq.mpr c42
                                  have c42b1 : (((rd_L1 l0_0 x5_2).length : Int) != 0) = false := bne_eq_false_iff_eq.mpr c42
                                  clear c42
                                  by_cases c43 : 0 ≤ (l0_0.length : Int)
                                  · rw [if_pos c43] at H
                                    have c43b0 : decide (0 ≤ (l0_0.length : Int)) = true := decide_eq_true c43
                                    have c43b1 : decide (0 ≤ l0_0.length) = true := decide_eq_true (by omega)
                                    clear c43
                                    by_cases c44 : (l0_0.length : Int) < (x254000_3.length : Int)
                                    · rw [if_pos c44] at H
                                      have c44b0 : decide ((l0_0.length : Int) < (x254000_3.length : Int)) = true := decide_eq_true c44
                                      have c44b1 : decide (l0_0.length < x254000_3.length) = true := decide_eq_true (Int.ofNat_lt.mp c44)
                                      clear c44
                                      by_cases c45 : (rd_L1 x254000_3 (l0_0.length : Int)).length < 17592186044416
                                      · rw [if_pos c45] at H
                                        have LMc45 := Aside0.mk c45
                                        clear c45
                                        obtain ⟨y266, hy266⟩ : ∃ y_ : List Int, y_ = ((rd_L1 x254000_3 (l0_0.length : Int)) ++ [x5_2]) := ⟨_, rfl⟩
                                        replace H : (burnishref08_PostDominators.l0 k3 (l0_0.length : Int) (wrap64 (x5_2 + 1)) l0_0 (x254000_3.set ((l0_0.length : Int) : Int).toNat y266)) = some r := by first | (rw [hy266]; with_reducible exact H) | (have H2_ := (Option.bind_some _ _).symm.trans H; rw [hy266]; with_reducible exact H2_) | (have H2_ := (Option.bind_some _ _).symm.trans H; with_reducible exact H2_) | with_reducible exact H | (rw [hy266]; exact H) | exact H
                                        have Ny266 := Aside0.mk hy266
                                        clear hy266
                                        obtain ⟨y269, hy269⟩ : ∃ y_ : List (List Int), y_ = (x254000_3.set ((l0_0.length : Int) : Int).toNat y266) := ⟨_, rfl⟩
                                        replace H : (burnishref08_PostDominators.l0 k3 (l0_0.length : Int) (wrap64 (x5_2 + 1)) l0_0 y269) = some r := by first | (rw [hy269]; with_reducible exact H) | (have H2_ := (Option.bind_some _ _).symm.trans H; rw [hy269]; with_reducible exact H2_) | (have H2_ := (Option.bind_some _ _).symm.trans H; with_reducible exact H2_) | with_reducible exact H | (rw [hy269]; exact H) | exact H
                                        have Ny269 := Aside0.mk hy269
                                        clear hy269
                                        have H' := Aside0.mk H
                                        clear H
                                        have hnb47 := NB248_253.out
                                        have hnc47 := NB253_248.out
                                        have hcz48_0 : wr.cell? ⟨gb248, 0, none⟩ = some (.slice (some ad257) l0_0.length c0_0) := (blk_cell BK248.out 0).trans rfl
                                        have hfz48_0 := blk_frozen BK248.out 0
                                        have p264 : 0 ≤ (x5_2 : Int) := of_decide_eq_true (by first | (with_reducible assumption) | assumption)
                                        have q264 : x5_2 < (l0_0.length : Int) := of_decide_eq_true (by first | (with_reducible assumption) | assumption)
                                        obtain ⟨ad264, A264_0, c264_0, e264, hx264_0, hl264_0, hi264_0⟩ := at_L1 HR0_0.out x5_2 p264 q264
                                        obtain rfl : ad257 = ad264 := (by injection e264)
                                        replace hx264_0 := (HB.out.cell (World.block_lt_of_cell? w _ hx264_0)).trans hx264_0
                                        have HR264_0 := Aside0.mk hi264_0
                                        have HC264_0 := Aside0.mk hl264_0
                                        clear hi264_0 hl264_0
                                        replace p264 := eq_true p264
                                        replace q264 := eq_true q264
                                        try go_wp2
                                        have n0_ := Aside0.mk (Kd.S_drew HO_254000.out)
                                        have n1_ := Aside0.mk (blk_drew BK248.out)
                                        have n2_ := Aside0.mk (blk_drew BK253.out)
                                        have n3_ := Aside0.mk (below_drew1 HB.out)
                                        clear HO_254000
                                        clear BK248
                                        clear BK253
                                        clear HB
                                        have HO_254000 := n0_
                                        have BK248 := n1_
                                        have BK253 := n2_
                                        have HB := n3_
                                        clear n0_ n1_ n2_ n3_
                                        obtain ⟨Ao50, co50, eo50⟩ := Kd.S_slice HO_254000.out
                                        (first | subst eo50 | (injection eo50 with f1_ f2_ f3_; have f4_ := f1_.symm; have f5_ := f3_.symm; clear f1_ f2_ f3_; subst f4_; subst f5_))
                                        have p265 : 0 ≤ ((l0_0.length : Int) : Int) := of_decide_eq_true (by first | (with_reducible assumption) | assumption)
                                        have q265 : (l0_0.length : Int) < (x254000_3.length : Int) := of_decide_eq_true (by first | (with_reducible assumption) | assumption)
                                        obtain ⟨ad265, A265_0, c265_0, e265, hx265_0, hl265_0, hi265_0⟩ := at_L1 (Kd.S_reads' HO_254000.out).2.2 (l0_0.length : Int) p265 q265
                                        cases e265
                                        obtain ⟨ce265, hce265, hMe265, hcc265⟩ := Kd.S_get HO_254000.out [] (l0_0.length : Int) p265 (by first | exact q265 | exact of_decide_eq_true (by first | (with_reducible assumption) | assumption) | (have e_ := (Kd.S_reads' HO_254000.out).1; omega))
                                        obtain ⟨ve265_0, rfl, ge265_0⟩ := hMe265
                                        have hv265_0 := hcc265 0 _ rfl
                                        rw [Nat.add_zero, show ((Kd.slice 3 (Kd.int .i64))).sz = 1 from rfl, Nat.mul_one] at hv265_0
                                        replace hv265_0 := Option.some.inj (hv265_0.symm.trans hx265_0)
                                        rw [hv265_0] at ge265_0
                                        have HL265_0 := Aside0.mk (show Kd.R (Kd.int .i64) 3 _ _ _ _ (rd_L1 x254000_3 (l0_0.length : Int)) from ge265_0)
                                        clear hv265_0 ge265_0
                                        have HX265_0 := Aside0.mk hx265_0
                                        clear hcc265 hce265
                                        have HR265_0 := Aside0.mk hi265_0
                                        have HC265_0 := Aside0.mk hl265_0
                                        clear hi265_0 hl265_0
                                        (try simp only [Go.IntWalk.toNatUp] at hx265_0)
                                        replace p265 := eq_true p265
                                        replace q265 := eq_true q265
                                        obtain ⟨go51, co51, eo51, gb51, gl51, cl51, HG51⟩ := Kd.S_form HO_254000.out (by have h_ : ((l0_0.length : Int) : Int) < ((x254000_3.length : Int) : Int) := of_decide_eq_true (by first | (with_reducible assumption) | assumption); have h2_ : 0 ≤ ((l0_0.length : Int) : Int) := (of_decide_eq_true (by first | (with_reducible assumption) | assumption)); omega)
                                        (first | cases eo51 | (injection eo51 with ea_ en_ ec_; (first | subst ea_ | (injection ea_ with ea_; subst ea_)); subst ec_; clear en_))
                                        have GB51 := Aside0.mk gb51
                                        have GG51 := Aside0.mk HG51
                                        clear gb51 gl51 HG51
                                        (first | simp only [add_plain] at hx265_0 | skip)
                                        obtain ⟨oki51, ce51, hcl51, hM51, hcc51, _, _, hH51⟩ := Kd.S_elem HO_254000.out [] ((l0_0.length : Int) : Int) (of_decide_eq_true (by first | (with_reducible assumption) | assumption)) (by have h_ : ((l0_0.length : Int) : Int) < ((x254000_3.length : Int) : Int) := of_decide_eq_true (by first | (with_reducible assumption) | assumption); first | exact h_ | (have e_ := (Kd.S_reads' HO_254000.out).1; omega) | simpa using h_)
                                        obtain ⟨ve51_0, rfl, ge51_0⟩ := hM51
                                        have hv51 := hcc51 0 _ rfl
                                        have hX51 := HX265_0.out
                                        (try simp only [add_plain] at hX51)
                                        (try simp only [Nat.add_zero] at hv51)
                                        (try rw [show ((Kd.slice 3 (Kd.int .i64))).sz = 1 from rfl, Nat.mul_one] at hv51)
                                        replace hv51 := Option.some.inj (hv51.symm.trans hX51)
                                        subst hv51
                                        clear hX51 hcc51 hcl51
                                        have UU51 := Aside0.mk (show Kd.R (Kd.int .i64) 3 _ w.heap.size oki51 (.slice A265_0 (rd_L1 x254000_3 (l0_0.length : Int)).length c265_0) (rd_L1 x254000_3 (l0_0.length : Int)) from ge51_0)
                                        have HH51 := Aside0.mk hH51
                                        have HN51 := Aside0.mk (Kd.S_reads' HO_254000.out).1
                                        clear hH51 ge51_0
                                        refine start_ (n := 13) (S := fun w' => w'.cell? ⟨gb253, 0, none⟩ = some (.slice (some ⟨go51, 0, none⟩) x254000_3.length co50) ∧ w'.cell? ⟨go51, l0_0.length, none⟩ = some (.slice A265_0 (rd_L1 x254000_3 (l0_0.length : Int)).length c265_0)) (ds := [12]) #[false, false, false, false, false, false, false, false, false, false, false, false, false] (by kernel_rfl) rfl rfl ⟨(blk_cell BK253.out 0).trans rfl, hx265_0⟩ (fun hHeld => ?_); refine with_tabW burnishref08_PostDominators.tab14 burnishref08_PostDominators.bits14 (fun HT_ HW_ => ?_)
                                        generalize wr.drew = w49 at HO_254000 BK248 BK253 HB GG51 HH51 HL265_0 HR265_0 HX265_0 UU51 hx265_0 hHeld ⊢
                                        refine pure_ (i := 0) (N := some 57) (v := ?_) (a' := ?_) #[true, false, false, false, false, false, false, false, false, false, false, false, false] rfl rfl (any_of HT_.out (by kernel_rfl)) (fun _ _ _ h => h) (Or.inl ⟨by rfl, ?_⟩) ?_ ?_
                                        rotate_left
                                        · intro w'
                                          go_simp
                                          with_reducible rfl
                                        rotate_left
                                        · simp only [Act.put, List.setIfInBounds_toArray, List.set_cons_zero, List.set_cons_succ, i64_w, i32_w]
                                          rfl
                                        refine pure_ (i := 2) (N := some 59) (v := ?_) (a' := ?_) #[true, false, true, false, false, false, false, false, false, false, false, false, false] rfl rfl (any_of HT_.out (by kernel_rfl)) (fun _ _ _ h => h) (Or.inl ⟨by rfl, ?_⟩) ?_ ?_
                                        rotate_left
                                        · intro w'
                                          go_simp
                                          with_reducible rfl
                                        rotate_left
                                        · simp only [Act.put, List.setIfInBounds_toArray, List.set_cons_zero, List.set_cons_succ, i64_w, i32_w]
                                          rfl
                                        refine pure_ (i := 3) (N := some 60) (v := ?_) (a' := ?_) #[true, false, true, true, false, false, false, false, false, false, false, false, false] rfl rfl (any_of HT_.out (by kernel_rfl)) (fun _ _ _ h => h) (Or.inl ⟨by rfl, ?_⟩) ?_ ?_
                                        rotate_left
                                        · intro w'
                                          go_simp
                                          with_reducible rfl
                                        rotate_left
                                        · simp only [Act.put, List.setIfInBounds_toArray, List.set_cons_zero, List.set_cons_succ, i64_w, i32_w]
                                          rfl
                                        refine pure_ (i := 5) (N := some 62) (v := ?_) (a' := ?_) #[true, false, true, true, false, true, false, false, false, false, false, false, false] rfl rfl (any_of HT_.out (by kernel_rfl)) (fun _ _ _ h => h) (Or.inl ⟨by rfl, ?_⟩) ?_ ?_
                                        rotate_left
                                        · intro w'
                                          go_simp
                                          with_reducible rfl
                                        rotate_left
                                        · simp only [Act.put, List.setIfInBounds_toArray, List.set_cons_zero, List.set_cons_succ, i64_w, i32_w]
                                          rfl
                                        refine pure_ (i := 8) (N := some 65) (v := ?_) (a' := ?_) #[true, false, true, true, false, true, false, false, true, false, false, false, false] rfl rfl (any_of HT_.out (by kernel_rfl)) (fun _ _ _ h => h) (Or.inl ⟨by rfl, ?_⟩) ?_ ?_
                                        rotate_left
                                        · intro w'
                                          go_simp
                                          with_reducible rfl
                                        rotate_left
                                        · simp only [Act.put, List.setIfInBounds_toArray, List.set_cons_zero, List.set_cons_succ, i64_w, i32_w]
                                          rfl
                                        refine take_ (i := 1) (N := some 58) (v := ?_) (a' := ?_) #[true, true, true, true, false, true, false, false, true, false, false, false, false] rfl rfl (take_ofW HT_.out HW_.out (by kernel_rfl)) (fun _ _ _ h => h) (Or.inl ⟨by rfl, ?_⟩) hHeld ?_ ?_
                                        rotate_left
                                        · rintro w' ⟨s0, s1⟩
                                          go_simp
                                          with_reducible rfl
                                        rotate_left
                                        · simp only [Act.put, List.setIfInBounds_toArray, List.set_cons_zero, List.set_cons_succ, i64_w, i32_w]
                                          rfl
                                        refine take_ (i := 4) (N := some 61) (v := ?_) (a' := ?_) #[true, true, true, true, true, true, false, false, true, false, false, false, false] rfl rfl (take_ofW HT_.out HW_.out (by kernel_rfl)) (fun _ _ _ h => h) (Or.inl ⟨by rfl, ?_⟩) hHeld ?_ ?_
                                        rotate_left
                                        · rintro w' ⟨s0, s1⟩
                                          go_simp
                                          with_reducible rfl
                                        rotate_left
                                        · simp only [Act.put, List.setIfInBounds_toArray, List.set_cons_zero, List.set_cons_succ, i64_w, i32_w]
                                          rfl
                                        refine pure_ (i := 6) (N := some 63) (v := ?_) (a' := ?_) #[true, true, true, true, true, true, true, false, true, false, false, false, false] rfl rfl (any_of HT_.out (by kernel_rfl)) (fun _ _ _ h => h) (Or.inl ⟨by rfl, ?_⟩) ?_ ?_
                                        rotate_left
                                        · intro w'
                                          go_simp
                                          with_reducible rfl
                                        rotate_left
                                        · simp only [Act.put, List.setIfInBounds_toArray, List.set_cons_zero, List.set_cons_succ, i64_w, i32_w]
                                          rfl
                                        refine take_ (i := 7) (N := some 64) (v := ?_) (a' := ?_) #[true, true, true, true, true, true, true, true, true, false, false, false, false] rfl rfl (take_ofW HT_.out HW_.out (by kernel_rfl)) (fun _ _ _ h => h) (Or.inl ⟨by rfl, ?_⟩) hHeld ?_ ?_
                                        rotate_left
                                        · rintro w' ⟨s0, s1⟩
                                          go_simp
                                          with_reducible rfl
                                        rotate_left
                                        · simp only [Act.put, List.setIfInBounds_toArray, List.set_cons_zero, List.set_cons_succ, i64_w, i32_w]
                                          rfl
                                        refine one_ (i := 9) (N := some 66) #[true, true, true, true, true, true, true, true, true, true, false, false, false] rfl rfl (one_of HT_.out (by kernel_rfl)) (by decide) (fun K hK => ?_)
                                        refine value_ (w1 := ?_) (v := ?_) (by rfl) rfl ?_ ?_
                                        rotate_left 2
                                        · go_simp
                                          constructor
                                          · rfl
                                          · rfl
                                        refine hK.out _ _ ⟨(blk_cell (blk_alloc BK253.out _) 0).trans rfl, (World.cell?_alloc_lt _ _ _ (World.block_lt_of_cell? _ _ (hHeld.2))).trans (hHeld.2)⟩ (fun hHeld => ?_)
                                        clear hK K
                                        refine norm_ (a' := ?_) ?_ ?_
                                        rotate_left
                                        · show Act.put _ (some 66) _ = _
                                          simp only [Act.put, List.setIfInBounds_toArray, List.set_cons_zero, List.set_cons_succ, i64_w, i32_w]
                                          rfl
                                        refine one_ (i := 10) (N := some 67) #[true, true, true, true, true, true, true, true, true, true, true, false, false] rfl rfl (one_of HT_.out (by kernel_rfl)) (by decide) (fun K hK => ?_)
                                        refine Kd.R_append_step (Kd.int .i64) (w0 := w) w.heap.size (by rfl) (.tmp 64) (.tmp 66) 28 3 (.int .i64 0) 8 rfl Try.underlying28 info3 rfl (by decide) (by omega) (.slice A265_0 (rd_L1 x254000_3 (l0_0.length : Int)).length c265_0) (rd_L1 x254000_3 (l0_0.length : Int)) x5_2 [.int .i64 x5_2] (fun k_ => oki51 k_ ∨ ((fun _ => True)) k_ ∧ w49.heap.size ≤ k_) (fun _ => False) rfl rfl ?aP (fun _ hk => hk.elim) ?aF ?aO ?aB ?aS ?aL ?_
                                        (case aP => exact rfl)
                                        (case aB => exact (by repeat (first | (with_reducible first | exact HB.out | apply below_alloc | apply pw_below_drewN | apply below_drew1 | refine below_set ?_ GE248.out | refine below_set ?_ GE253.out) | exact HB.out)))
                                        (case aF => exact (fun k_ hk => .inr ⟨trivial, hk⟩))
                                        (case aO => exact (by (with_reducible repeat (first | apply Kd.R_alloc | apply Kd.R_drewN | apply Kd.R_drew)); exact Kd.R_mono UU51.out (fun _ hk => .inl hk)))
                                        (case aS => exact (below_size (by repeat (first | (with_reducible first | exact HB.out | apply below_alloc | apply pw_below_drewN | apply below_drew1 | refine below_set ?_ GE248.out | refine below_set ?_ GE253.out) | exact HB.out))))
                                        (case aL => have := LMc45.out; omega)
                                        intro v267 w52 ho hb hg hat
                                        (first | have HS1_ := cell_grown hg (hHeld.2) (by first | (rw [add_block]; exact (fun e_ => ((HL265_0.out.1 _ e_.symm).2) rfl)) | (show some (Addr.add _ _).block ≠ _; rw [add_block]; exact (fun e_ => ((HL265_0.out.1 _ e_.symm).2) rfl)) | exact (fun e_ => ((HL265_0.out.1 _ e_.symm).2) rfl)) | have HS1_ := cell_grown hg (cell_unalloc (hHeld.2) (by first | (rw [add_block]; exact Kd.S_lt HO_254000.out _ rfl) | (show (Addr.add _ _).block < _; rw [add_block]; exact Kd.S_lt HO_254000.out _ rfl) | exact Kd.S_lt HO_254000.out _ rfl)) (by first | (rw [add_block]; exact (fun e_ => ((HL265_0.out.1 _ e_.symm).2) rfl)) | (show some (Addr.add _ _).block ≠ _; rw [add_block]; exact (fun e_ => ((HL265_0.out.1 _ e_.symm).2) rfl)) | exact (fun e_ => ((HL265_0.out.1 _ e_.symm).2) rfl)))
                                        rw [← Ny266.out] at ho
                                        have n0_ := Aside0.mk (blk_grown (g := gb248) (o := .cells #[.slice (some ad257) l0_0.length c0_0] 24 (0, 0)) (by (with_reducible repeat (first | refine blk_drewN ?_ _ | refine blk_drew ?_ | refine blk_alloc ?_ _)); exact BK248.out) hg (Kd.R_ne HL265_0.out BK248.out (by decide)))
                                        have n1_ := Aside0.mk (blk_grown (g := gb253) (o := .cells #[.slice (some ⟨go51, 0, none⟩) x254000_3.length co50] 24 (0, 0)) (by (with_reducible repeat (first | refine blk_drewN ?_ _ | refine blk_drew ?_ | refine blk_alloc ?_ _)); exact BK253.out) hg (Kd.R_ne HL265_0.out BK253.out (by decide)))
                                        have n2_ := Aside0.mk (hb)
                                        have n3_ := Aside0.mk (Kd.H_grown (Kd.H_widen (by repeat (first | exact HH51.out | refine Kd.H_alloc ?_ _ | refine Kd.H_drewN ?_ _ | refine Kd.H_drew ?_))) hg (fun k_ e_ => .inl (UU51.out.1 k_ e_)))
                                        have n4_ := Aside0.mk (ho)
                                        clear BK248
                                        clear BK253
                                        clear HB
                                        clear HH51
                                        clear HO_254000
                                        clear UU51
                                        clear HL265_0
                                        have BK248 := n0_
                                        have BK253 := n1_
                                        have HB := n2_
                                        have HH51 := n3_
                                        have HO268 := n4_
                                        clear n0_ n1_ n2_ n3_ n4_
                                        clear ho hb hg hat
                                        have p46 : 0 ≤ ((l0_0.length : Int) : Int) := of_decide_eq_true (by first | (with_reducible assumption) | assumption)
                                        have q46 : ((l0_0.length : Int) : Int) < ((x254000_3.length : Int) : Int) := of_decide_eq_true (by first | (with_reducible assumption) | assumption)
                                        replace p46 := eq_true p46
                                        replace q46 := eq_true q46
                                        obtain ⟨Ao55, co55, eo55⟩ := Kd.R_slice HO268.out
                                        (first | subst eo55 | (injection eo55 with f1_ f2_ f3_; have f4_ := f1_.symm; have f5_ := f3_.symm; clear f1_ f2_ f3_; subst f4_; subst f5_))
                                        obtain ⟨_, _, hraw53, _, _, hcc53, _⟩ := Kd.H_raw HH51.out (of_decide_eq_true (by first | (with_reducible assumption) | assumption)) (by have h_ : ((l0_0.length : Int) : Int) < ((x254000_3.length : Int) : Int) := of_decide_eq_true (by first | (with_reducible assumption) | assumption); first | exact h_ | (have e_ := (HN51.out); omega) | simpa using h_)
                                        obtain ⟨_, hfr53⟩ := Kd.H_at HH51.out (of_decide_eq_true (by first | (with_reducible assumption) | assumption)) (by have h_ : ((l0_0.length : Int) : Int) < ((x254000_3.length : Int) : Int) := of_decide_eq_true (by first | (with_reducible assumption) | assumption); first | exact h_ | (have e_ := (HN51.out); omega) | simpa using h_)
                                        have hx53_0 := hcc53 0 _ rfl
                                        have hf53_0 := hfr53 0
                                        (try simp only [Nat.add_zero] at hx53_0 hf53_0)
                                        (try rw [show ((Kd.slice 3 (Kd.int .i64))).sz = 1 from rfl, Nat.mul_one] at hx53_0)
                                        (try rw [show ((Kd.slice 3 (Kd.int .i64))).sz = 1 from rfl, Nat.mul_one] at hf53_0)
                                        have HP53 := Kd.S_seg0 HH51.out (of_decide_eq_true (by first | (with_reducible assumption) | assumption)) (by have h_ : ((l0_0.length : Int) : Int) < ((x254000_3.length : Int) : Int) := of_decide_eq_true (by first | (with_reducible assumption) | assumption); first | exact h_ | (have e_ := (HN51.out); omega) | simpa using h_) (seg := [.slice Ao55 y266.length co55]) (j := 0) (show 1 ≤ 1 from by decide) (x' := y266) (Kd.M_row HO268.out) (fun _ hk => hk)
                                        (try simp only [show ((Kd.slice 3 (Kd.int .i64))).sz = 1 from rfl, Nat.mul_one, Nat.add_zero] at HP53)
                                        clear hcc53 hfr53
                                        (try simp only [Int.toNat_natCast] at hf53_0)
                                        have HNB248_go51 := Aside0.mk (show gb248 ≠ go51 from by have h_ := Kd.R_ne hraw53 BK248.out (by decide); intro e_; exact h_ (by rw [e_]; rfl))
                                        have HNB253_go51 := Aside0.mk (show gb253 ≠ go51 from by have h_ := Kd.R_ne hraw53 BK253.out (by decide); intro e_; exact h_ (by rw [e_]; rfl))
                                        have HS53 := HP53.1
                                        rw [← Ny269.out] at HS53
                                        have HQ53 := Aside0.mk HS53
                                        obtain ⟨_, hgg53⟩ := Kd.R_typed hraw53 go51 rfl
                                        have GG53_ := Aside0.mk hgg53
                                        clear HP53 HS53 hgg53
                                        refine hK.out _ _ ⟨(blk_cell BK253.out 0).trans rfl, HS1_⟩ (fun hHeld => ?_)
                                        clear hK K
                                        refine norm_ (a' := ?_) ?_ ?_
                                        rotate_left
                                        · show Act.put _ (some 67) _ = _
                                          simp only [Act.put, List.setIfInBounds_toArray, List.set_cons_zero, List.set_cons_succ, i64_w, i32_w]
                                          rfl
                                        refine pure_ (i := 11) (N := some 68) (v := ?_) (a' := ?_) #[true, true, true, true, true, true, true, true, true, true, true, true, false] rfl rfl (any_of HT_.out (by kernel_rfl)) (fun _ _ _ h => h) (Or.inl ⟨by rfl, ?_⟩) ?_ ?_
                                        rotate_left
                                        · intro w'
                                          go_simp
                                          with_reducible rfl
                                        rotate_left
                                        · simp only [Act.put, List.setIfInBounds_toArray, List.set_cons_zero, List.set_cons_succ, i64_w, i32_w]
                                          rfl
                                        refine last_ (i := 12) (N := none) #[true, true, true, true, true, true, true, true, true, true, true, true, true] rfl rfl (one_of HT_.out (by kernel_rfl)) (by decide) (fun K hK => ?_)
                                        refine skip_ (w1 := ?_) (by rfl) rfl ?_ ?_
                                        rotate_left
                                        · go_simp
                                          rfl
                                        refine hK.out _ _ ?_
                                        clear hK K
                                        refine done_ (done_of HT_.out (by kernel_rfl)) ?_
                                        try go_wp2
                                        go_roundg k3
                                        case measure => have := HJ1.out; have := HK2.out; have := HK3.out; omega
                                        case rel => exact ⟨(wrap64 (x5_2 + 1)), (y269), (.slice (some ⟨go51, 0, none⟩) x254000_3.length co50), (by first | rfl | (simp; done) | (simp [*]; done)), H', ⟨by have := HJ1.out; have := HK2.out; have := HK3.out; omega⟩, ⟨by (with_reducible repeat (first | apply Kd.S_alloc | apply Kd.S_drewN | apply Kd.S_drew)); exact HQ53.out⟩, ⟨by (with_reducible repeat (first | refine blk_drewN ?_ _ | refine blk_drew ?_ | refine blk_alloc ?_ _)); refine blk_far ?_ HNB248_go51.out _; (with_reducible repeat (first | refine blk_drewN ?_ _ | refine blk_drew ?_ | refine blk_alloc ?_ _)); exact BK248.out⟩, ⟨by (with_reducible repeat (first | refine blk_drewN ?_ _ | refine blk_drew ?_ | refine blk_alloc ?_ _)); refine blk_far ?_ HNB253_go51.out _; (with_reducible repeat (first | refine blk_drewN ?_ _ | refine blk_drew ?_ | refine blk_alloc ?_ _)); exact BK253.out⟩, ⟨by repeat (first | (with_reducible first | exact HB.out | apply below_alloc | apply pw_below_drewN | apply below_drew1 | refine below_set ?_ GB51.out | refine below_set ?_ GE248.out | refine below_set ?_ GE253.out) | exact HB.out)⟩⟩
                                      · rw [if_neg c45] at H
                                        exact absurd H (by simp)
                                    · rw [if_neg c44] at H
                                      exact absurd H (by simp)
                                  · rw [if_neg c43] at H
                                    exact absurd H (by simp)
                                · rw [if_neg c42] at H
                                  have c42b0 : (((rd_L1 l0_0 x5_2).length : Int) == 0) = false := beq_eq_false_iff_ne.mpr c42
                                  have c42b1 : (((rd_L1 l0_0 x5_2).length : Int) != 0) = true := bne_iff_ne.mpr c42
                                  have c42b2 : ¬ ((rd_L1 l0_0 x5_2) = []) := fun h_ => c42 (by rw [h_]; rfl)
                                  have H' := Aside0.mk H
                                  clear H
                                  have hnb56 := NB248_253.out
                                  have hnc56 := NB253_248.out
                                  have hcz57_0 : wr.cell? ⟨gb248, 0, none⟩ = some (.slice (some ad257) l0_0.length c0_0) := (blk_cell BK248.out 0).trans rfl
                                  have hfz57_0 := blk_frozen BK248.out 0
                                  have p264 : 0 ≤ (x5_2 : Int) := of_decide_eq_true (by first | (with_reducible assumption) | assumption)
                                  have q264 : x5_2 < (l0_0.length : Int) := of_decide_eq_true (by first | (with_reducible assumption) | assumption)
                                  obtain ⟨ad264, A264_0, c264_0, e264, hx264_0, hl264_0, hi264_0⟩ := at_L1 HR0_0.out x5_2 p264 q264
                                  obtain rfl : ad257 = ad264 := (by injection e264)
                                  replace hx264_0 := (HB.out.cell (World.block_lt_of_cell? w _ hx264_0)).trans hx264_0
                                  have HR264_0 := Aside0.mk hi264_0
                                  have HC264_0 := Aside0.mk hl264_0
                                  clear hi264_0 hl264_0
                                  replace p264 := eq_true p264
                                  replace q264 := eq_true q264
                                  go_wp2
                                  go_roundg k3
                                  case measure => have := HJ1.out; have := HK2.out; have := HK3.out; omega
                                  case rel => exact ⟨(wrap64 (x5_2 + 1)), (x254000_3), (u254000), (by first | rfl | (simp; done) | (simp [*]; done)), H', ⟨by have := HJ1.out; have := HK2.out; have := HK3.out; omega⟩, ⟨by (with_reducible repeat (first | apply Kd.S_alloc | apply Kd.S_drewN | apply Kd.S_drew)); exact HO_254000.out⟩, ⟨by (with_reducible repeat (first | refine blk_drewN ?_ _ | refine blk_drew ?_ | refine blk_alloc ?_ _)); exact BK248.out⟩, ⟨by (with_reducible repeat (first | refine blk_drewN ?_ _ | refine blk_drew ?_ | refine blk_alloc ?_ _)); exact BK253.out⟩, ⟨by repeat (first | (with_reducible first | exact HB.out | apply below_alloc | apply pw_below_drewN | apply below_drew1 | refine below_set ?_ GE248.out | refine below_set ?_ GE253.out) | exact HB.out)⟩⟩
                              · rw [if_neg c41] at H
                                exact absurd H (by simp)
                            · rw [if_neg c40] at H
                              exact absurd H (by simp)
                    · rw [if_neg c23] at H
                      exact absurd H (by simp)
                  · rw [if_neg c22] at H
                    exact absurd H (by simp)
                · rw [if_neg c21] at H
                  have c21b0 : decide (x5_2 < (l0_0.length : Int)) = false := decide_eq_false c21
                  clear c21
                  replace H := Option.bind_eq_some_iff.mp H
                  obtain ⟨t254, A580, H⟩ := H
                  replace H : (some t254) = some r := H
                  have A58 := Aside0.mk A580
                  clear A580
                  obtain rfl := Option.some.inj H
                  have hnb59 := NB253_248.out
                  have hnc59 := NB248_253.out
                  have hcz60_0 : wr.cell? ⟨gb253, 0, none⟩ = some (u254000) := (blk_cell BK253.out 0).trans rfl
                  have hfz60_0 := blk_frozen BK253.out 0
                  obtain ⟨Ao61, co61, eo61⟩ := Kd.S_slice HO_254000.out
                  subst eo61
                  go_wp2_with (first | ((with_reducible refine gate_callee (f := 13) rfl ?_); refine goesL_ (some 71) rfl rfl Try.func13 (by kernel_rfl) rfl #[.agg #[.slice Ao61 x254000_2.length co61], .int .i64 (l0_0.length : Int)] rfl (by (try simp only [List.map_toArray, List.map_cons, List.map_nil]); first | done | rfl | (simp only [List.length_drop, List.length_take]; rfl)) ?_; (with_reducible refine (burnishref08_Build.calls k2 _ _ x254000_2 (l0_0.length : Int) t254 _ ?side1 ?side2 A58.out).mono ?_); (case side1 => repeat (first | exact (Kd.S_reads' HO_254000.out).2.2 | (with_reducible refine Kd.C_alloc ?_ _) | (with_reducible refine Kd.C_drewN ?_ _) | (with_reducible refine Kd.C_drew ?_))); (case side2 => exact (Kd.S_reads' HO_254000.out).2.1); rintro e w62 ⟨v255, rfl, ho0, hb⟩; refine ⟨_, rfl, ?_⟩; have n0_ := Aside0.mk (Kd.S_elder' (by (with_reducible repeat (first | apply Kd.S_alloc | apply Kd.S_drewN | apply Kd.S_drew)); exact HO_254000.out) (Kd.R_base ho0) hb); have n1_ := Aside0.mk (Kd.R_lower ho0 (below_size (by repeat (first | (with_reducible first | exact HB.out | apply below_alloc | apply pw_below_drewN | apply below_drew1 | refine below_set ?_ GE248.out | refine below_set ?_ GE253.out) | exact HB.out)))); have n2_ := Aside0.mk (blk_below (g := gb248) (o := .cells #[.slice A0_0 l0_0.length c0_0] 24 (0, 0)) (by (with_reducible repeat (first | refine blk_drewN ?_ _ | refine blk_drew ?_ | refine blk_alloc ?_ _)); exact BK248.out) hb); have n3_ := Aside0.mk (blk_below (g := gb253) (o := .cells #[.slice Ao61 x254000_2.length co61] 24 (0, 0)) (by (with_reducible repeat (first | refine blk_drewN ?_ _ | refine blk_drew ?_ | refine blk_alloc ?_ _)); exact BK253.out) hb); have n4_ := Aside0.mk (below_step (by repeat (first | (with_reducible first | exact HB.out | apply below_alloc | apply pw_below_drewN | apply below_drew1 | refine below_set ?_ GE248.out | refine below_set ?_ GE253.out) | exact HB.out)) hb); clear HO_254000; clear BK248; clear BK253; clear HB; have HO_254000 := n0_; have HO256 := n1_; have BK248 := n2_; have BK253 := n3_; have HB := n4_; clear n0_ n1_ n2_ n3_ n4_; (try clear hb); (try clear hb2); (try clear hk); (try clear hi); (try clear ho0)))
                  go_ret
                  exact ⟨_, by first | rfl | (simp [errW_none, errW_some] <;> rfl) | (simp only [← hji12]; first | rfl | (simp [errW_none, errW_some] <;> rfl)) | (simp [*, errW_none, errW_some] <;> rfl), by (with_reducible repeat (first | apply Kd.R_alloc | apply Kd.R_drewN | apply Kd.R_drew)); exact HO256.out, by repeat (first | (with_reducible first | exact HB.out | apply below_alloc | apply pw_below_drewN | apply below_drew1 | refine below_set ?_ GE248.out | refine below_set ?_ GE253.out) | exact HB.out)⟩
          · rw [if_neg c14] at H
            exact absurd H (by simp)
        · rw [if_neg c13] at H
          exact absurd H (by simp)
end Go.Proofs.Ytbphjbfnnhfhlaa.PDigraphTells
end

