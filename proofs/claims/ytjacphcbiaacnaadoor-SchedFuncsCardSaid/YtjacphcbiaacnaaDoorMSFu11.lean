import Derived.Test.YtjacphcbiaacnaaDoorMSFu10
section
namespace Go.Proofs.YtjacphcbiaacnaaDoor.PDigraphTells
open Go.RowKit Go.Proofs.YtjacphcbiaacnaaDoorW.PrintWords Go.Proofs.YtjacphcbiaacnaaDoorW.PrintLast Go.Proofs.YtjacphcbiaacnaaDoorW.PrintMore
attribute [local go_sem] max2_int min2_int max_two min_two max_three min_three max_four min_four
set_option linter.unusedVariables false
set_option linter.unusedSimpArgs false
mutual
def sched_Dependences.l0 : Nat → List (List Int) → Int → Int → List Int → List (S48) → Int → List Int → List Int → List (S98) → Int → Option ((List (List Int)))
 | 0, _, _, _, _, _, _, _, _, _, _ => none
 | k + 1, x3, x12, x13, x127000, x127001, x127002, x127003, x127004, x127005, x127006 => if x13 < x12 then (sched_Dependences.l1 k x3 x13 x12 x13 x13 0 x127000 x127001 x127002 x127003 x127004 x127005 x127006) else (some x3)
def sched_Dependences.l1 : Nat → List (List Int) → Int → Int → Int → Int → Int → List Int → List (S48) → Int → List Int → List Int → List (S98) → Int → Option ((List (List Int)))
 | 0, _, _, _, _, _, _, _, _, _, _, _, _, _ => none
 | k + 1, x3, x4, x12, x13, x16, x17, x127000, x127001, x127002, x127003, x127004, x127005, x127006 => if x17 < x16 then (if 0 ≤ x4 then (if x4 < (x127001.length : Int) then (if 0 ≤ x17 then (if x17 < (x127001.length : Int) then ((sched_depends.f k ((rd_T48 x127001 x4).f0) ((rd_T48 x127001 x4).f1) ((rd_T48 x127001 x4).f2) ((rd_T48 x127001 x4).f3) ((rd_T48 x127001 x4).f4) ((rd_T48 x127001 x4).f5) ((rd_T48 x127001 x4).f6) ((rd_T48 x127001 x4).f7) ((rd_T48 x127001 x17).f0) ((rd_T48 x127001 x17).f1) ((rd_T48 x127001 x17).f2) ((rd_T48 x127001 x17).f3) ((rd_T48 x127001 x17).f4) ((rd_T48 x127001 x17).f5) ((rd_T48 x127001 x17).f6) ((rd_T48 x127001 x17).f7)).bind fun t132 => (if t132 = true then (if x4 < (x3.length : Int) then (if (rd_L1 x3 x4).length < 17592186044416 then (sched_Dependences.l1 k (x3.set (x4 : Int).toNat ((rd_L1 x3 x4) ++ [x17])) x4 x12 x13 x16 (wrap64 (x17 + 1)) x127000 x127001 x127002 x127003 x127004 x127005 x127006) else (none)) else (none)) else (sched_Dependences.l1 k x3 x4 x12 x13 x16 (wrap64 (x17 + 1)) x127000 x127001 x127002 x127003 x127004 x127005 x127006))) else (none)) else (none)) else (none)) else (none)) else (sched_Dependences.l0 k x3 x12 (wrap64 (x13 + 1)) x127000 x127001 x127002 x127003 x127004 x127005 x127006)
end
def sched_Dependences.f (k : Nat) (l0_0 : List Int) (l0_1 : List (S48)) (a0_2 : Int) (l0_3 : List Int) (l0_4 : List Int) (l0_5 : List (S98)) (a0_6 : Int) : Option ((List (List Int))) := if 0 ≤ (l0_1.length : Int) then (if ((l0_1.length : Int) : Int).toNat ≤ 11728124029610 then (sched_Dependences.l0 k (List.replicate ((l0_1.length : Int) : Int).toNat []) (l0_1.length : Int) 0 l0_0 l0_1 a0_2 l0_3 l0_4 l0_5 a0_6) else (none)) else (none)
def sched_Dependences.T8 : Bool × List (List Nat × List Nat) := (true, [([], []), ([0], [0]), ([], []), ([1, 2], [1, 2]), ([3], [3]), ([], []), ([5], [5]), ([], []), ([6, 7], [6, 7]), ([8], [8]), ([4, 9], [4, 9])])
def sched_Dependences.B8 : List Nat := [0, 1, 0, 7, 15, 0, 32, 0, 224, 480, 1023]
theorem sched_Dependences.tab8 : rtab .any (opsOf Tryd.f18 8) = sched_Dependences.T8 := by kernel_rfl
theorem sched_Dependences.bits8 : waitsOk sched_Dependences.T8.2 sched_Dependences.B8 = true := by kernel_rfl
set_option maxHeartbeats 8000000 in
set_option maxRecDepth 100000 in
theorem sched_Dependences.calls (k : Nat) (A0_0 : Option Addr) (c0_0 : Nat) (l0_0 : List Int) (A0_1 : Option Addr) (c0_1 : Nat) (l0_1 : List (S48)) (a0_2 : Int) (A0_3 : Option Addr) (c0_3 : Nat) (l0_3 : List Int) (A0_4 : Option Addr) (c0_4 : Nat) (l0_4 : List Int) (A0_5 : Option Addr) (c0_5 : Nat) (l0_5 : List (S98)) (a0_6 : Int) (r : List (List Int)) (w : World) (hr0_0 : Kd.C (Kd.int .i64) w A0_0 l0_0.length l0_0) (hc0_0 : l0_0.length ≤ c0_0) (hr0_1 : Kd.C k48 w A0_1 l0_1.length l0_1) (hc0_1 : l0_1.length ≤ c0_1) (hr0_3 : Kd.C (Kd.int .i64) w A0_3 l0_3.length l0_3) (hc0_3 : l0_3.length ≤ c0_3) (hr0_4 : Kd.C (Kd.int .i64) w A0_4 l0_4.length l0_4) (hc0_4 : l0_4.length ≤ c0_4) (hr0_5 : Kd.C k98 w A0_5 l0_5.length l0_5) (hc0_5 : l0_5.length ≤ c0_5) (h : sched_Dependences.f k l0_0 l0_1 a0_2 l0_3 l0_4 l0_5 a0_6 = some r) :
  Calls Tryd.prog 18 #[.agg #[.slice A0_0 l0_0.length c0_0, .slice A0_1 l0_1.length c0_1, .int .i64 a0_2, .slice A0_3 l0_3.length c0_3, .slice A0_4 l0_4.length c0_4, .slice A0_5 l0_5.length c0_5, .int .i64 a0_6]] w fun e w' => ∃ v0_ : Value, e = .returned (v0_) ∧ Kd.S (Kd.slice 3 (Kd.int .i64)) 22 w' w.heap.size (fun _ => True) v0_ r ∧ Below w.heap.size w w' := by
 have hu31 := Tryd.underlying31
 have hu48 := Tryd.underlying48
 have HR0_0 := Aside0.mk hr0_0
 have HC0_0 := Aside0.mk hc0_0
 clear hr0_0 hc0_0
 have HR0_1 := Aside0.mk hr0_1
 have HC0_1 := Aside0.mk hc0_1
 clear hr0_1 hc0_1
 have HR0_3 := Aside0.mk hr0_3
 have HC0_3 := Aside0.mk hc0_3
 clear hr0_3 hc0_3
 have HR0_4 := Aside0.mk hr0_4
 have HC0_4 := Aside0.mk hc0_4
 clear hr0_4 hc0_4
 have HR0_5 := Aside0.mk hr0_5
 have HC0_5 := Aside0.mk hc0_5
 clear hr0_5 hc0_5
 have HB := Aside0.mk (Below.refl w.heap.size w)
 have H : (if 0 ≤ (l0_1.length : Int) then (if ((l0_1.length : Int) : Int).toNat ≤ 11728124029610 then (sched_Dependences.l0 k (List.replicate ((l0_1.length : Int) : Int).toNat []) (l0_1.length : Int) 0 l0_0 l0_1 a0_2 l0_3 l0_4 l0_5 a0_6) else (none)) else (none)) = some r := h
 clear h
 by_cases c2 : 0 ≤ (l0_1.length : Int)
 ·rw [if_pos c2] at H
  have c2b0 := eq_true c2
  have c2b1 : decide (0 ≤ (l0_1.length : Int)) = true := decide_eq_true c2
  clear c2
  by_cases c3 : ((l0_1.length : Int) : Int).toNat ≤ 11728124029610
  ·rw [if_pos c3] at H
   have c3b0 := eq_true c3
   have c3b1 : decide (((l0_1.length : Int) : Int).toNat ≤ 11728124029610) = true := decide_eq_true c3
   clear c3
   obtain ⟨y127, hy127⟩ : ∃ y_ : List (List Int), y_ = (List.replicate ((l0_1.length : Int) : Int).toNat []) := ⟨_, rfl⟩
   replace H : (sched_Dependences.l0 k y127 (l0_1.length : Int) 0 l0_0 l0_1 a0_2 l0_3 l0_4 l0_5 a0_6) = some r := by first | (rw [hy127]; with_reducible exact H) | (have H2_ := (Option.bind_some _ _).symm.trans H; rw [hy127]; with_reducible exact H2_) | (have H2_ := (Option.bind_some _ _).symm.trans H; with_reducible exact H2_) | with_reducible exact H | (rw [hy127]; exact H) | exact H
   have Ny127 := Aside0.mk hy127
   clear hy127
   have H' := Aside0.mk H
   clear H
   go_enter Tryd.func18, Tryd.ntmps18
   go_wp2_with (first | ((with_reducible refine gate_dst (N := 1) rfl ?_); refine box_event ?hg (N := 1) ?hd (cs := #[.slice A0_0 l0_0.length c0_0, .slice A0_1 l0_1.length c0_1, .int .i64 a0_2, .slice A0_3 l0_3.length c0_3, .slice A0_4 l0_4.length c0_4, .slice A0_5 l0_5.length c0_5, .int .i64 a0_6]) (t := 31) ?hr ?_; (case hd => rfl); (case hg => rfl); (case hr => first | (go_simp; done) | (go_simp; rfl)); intro gb126 hg w4 hbox hb; have n0_ := Aside0.mk (below_step (by repeat (first | (with_reducible first | exact HB.out | apply below_alloc | apply pw_below_drewN | apply below_drew1) | exact HB.out)) hb); have n1_ := Aside0.mk (hbox); have n2_ := Aside0.mk ((by rw [hg]; exact (below_size (by repeat (first | (with_reducible first | exact HB.out | apply below_alloc | apply pw_below_drewN | apply below_drew1) | exact HB.out))) : w.heap.size ≤ gb126)); have n3_ := Aside0.mk ((by rw [hg]; exact (below_size (by repeat (first | (with_reducible first | exact HB.out | apply below_alloc | apply pw_below_drewN | apply below_drew1) | exact HB.out))) : w.heap.size ≤ gb126)); clear HB; have HB := n0_; have BK126 := n1_; have GW126 := n2_; have GE126 := n3_; clear n0_ n1_ n2_ n3_; clear hb hbox hg; obtain ⟨hcz5_0, hcz5_1, hcz5_2, hcz5_3, hcz5_4, hcz5_5, hcz5_6⟩ := cz7 BK126.out; obtain ⟨hfz5_0, hfz5_1, hfz5_2, hfz5_3, hfz5_4, hfz5_5, hfz5_6⟩ := fz7 BK126.out) | ((with_reducible refine gate_dst (N := 9) rfl ?_); refine Kd.S_make (Kd.slice 3 (Kd.int .i64)) _ 22 rfl (N := 9) rfl 44 _ _ rfl (l0_1.length : Int) rfl rfl Tryd.underlying44 (.slice none 0 0) 24 info22 rfl (by decide) (by omega) [] (ok := fun _ => True) (okp := fun _ => True) ⟨_, rfl, Kd.R_nil _ _ _ _ _⟩ (fun _ hk => hk) trivial (of_decide_eq_true (by first | (with_reducible assumption) | assumption)) (Nat.le_trans (Nat.mul_le_mul_right _ (of_decide_eq_true (by first | (with_reducible assumption) | assumption) : (l0_1.length : Int).toNat ≤ 11728124029610)) (by omega)) (Below.refl _ _) (Nat.le_refl _) ?_; intro v128 w6 ho7 hb hg_ hnew_; clear hg_ hnew_; (first | rw [← Ny127.out] at ho7 | (simp only [Int.reduceToNat] at ho7; rw [← Ny127.out] at ho7)); have n0_ := Aside0.mk (Kd.S_lower ho7 (below_size (by repeat (first | (with_reducible first | exact HB.out | apply below_alloc | apply pw_below_drewN | apply below_drew1 | refine below_set ?_ GE126.out) | exact HB.out)))); have n1_ := Aside0.mk (blk_below (g := gb126) (by (with_reducible repeat (first | refine blk_drewN ?_ _ | refine blk_drew ?_ | refine blk_alloc ?_ _)); exact BK126.out) hb); have n2_ := Aside0.mk (below_step (by repeat (first | (with_reducible first | exact HB.out | apply below_alloc | apply pw_below_drewN | apply below_drew1 | refine below_set ?_ GE126.out) | exact HB.out)) hb); clear BK126; clear HB; have HO129 := n0_; have BK126 := n1_; have HB := n2_; clear n0_ n1_ n2_; clear hb ho7; obtain ⟨hcz8_0, hcz8_1, hcz8_2, hcz8_3, hcz8_4, hcz8_5, hcz8_6⟩ := cz7 BK126.out; obtain ⟨hfz8_0, hfz8_1, hfz8_2, hfz8_3, hfz8_4, hfz8_5, hfz8_6⟩ := fz7 BK126.out))
   go_loopg [13] k (fun kq v13 w' => ∃ (x3_1 : List (List Int)) (x13_1 : Int), v13 = .int .i64 x13_1 ∧ Aside0 (sched_Dependences.l0 kq x3_1 (l0_1.length : Int) x13_1 l0_0 l0_1 a0_2 l0_3 l0_4 l0_5 a0_6 = some r) ∧ Aside0 (kq ≤ k) ∧ Aside0 (Kd.S (Kd.slice 3 (Kd.int .i64)) 22 w' w.heap.size (fun _ => True) v128 x3_1) ∧ Aside0 (w'.heap[gb126]? = some (.cells #[(.slice A0_0 l0_0.length c0_0), (.slice A0_1 l0_1.length c0_1), .int .i64 a0_2, (.slice A0_3 l0_3.length c0_3), (.slice A0_4 l0_4.length c0_4), (.slice A0_5 l0_5.length c0_5), .int .i64 a0_6] 31 (0, 0))) ∧ Aside0 (Below w.heap.size w w'))
   case atStart => exact ⟨(y127), (0), (by first | rfl | (simp; done) | (simp [*]; done)), H', ⟨Nat.le_refl _⟩, ⟨by (with_reducible repeat (first | apply Kd.S_alloc | apply Kd.S_drewN | apply Kd.S_drew)); exact HO129.out⟩, ⟨by (with_reducible repeat (first | refine blk_drewN ?_ _ | refine blk_drew ?_ | refine blk_alloc ?_ _)); exact BK126.out⟩, ⟨by repeat (first | (with_reducible first | exact HB.out | apply below_alloc | apply pw_below_drewN | apply below_drew1 | refine below_set ?_ GE126.out) | exact HB.out)⟩⟩
   case round =>
    clear H'
    try clear c1
    try clear c2
    try clear c2b0
    try clear c2b1
    try clear p2
    try clear c3
    try clear c3b0
    try clear c3b1
    try clear hcz5_0 hcz5_1 hcz5_2 hcz5_3 hcz5_4 hcz5_5 hcz5_6
    try clear hcz8_0 hcz8_1 hcz8_2 hcz8_3 hcz8_4 hcz8_5 hcz8_6
    try clear hfz5_0 hfz5_1 hfz5_2 hfz5_3 hfz5_4 hfz5_5 hfz5_6
    try clear hfz8_0 hfz8_1 hfz8_2 hfz8_3 hfz8_4 hfz8_5 hfz8_6
    obtain ⟨x3_1, x13_1, rfl, HA, HK1, HO_3, BK126, HB⟩ := hrel
    cases gk with
    | zero => exact absurd HA.out (by simp [sched_Dependences.l0])
    | succ k1 =>
     have H := HA.out
     clear HA
     simp only [sched_Dependences.l0] at H
     by_cases c9 : x13_1 < (l0_1.length : Int)
     ·rw [if_pos c9] at H
      have c9b0 : decide (x13_1 < (l0_1.length : Int)) = true := decide_eq_true c9
      clear c9
      have H' := Aside0.mk H
      clear H
      go_wp2
      go_loopg [17] k1 (fun kq v17 w' => ∃ (x3_2 : List (List Int)) (x17_2 : Int), v17 = .int .i64 x17_2 ∧ Aside0 (sched_Dependences.l1 kq x3_2 x13_1 (l0_1.length : Int) x13_1 x13_1 x17_2 l0_0 l0_1 a0_2 l0_3 l0_4 l0_5 a0_6 = some r) ∧ Aside0 (kq ≤ k1) ∧ Aside0 (Kd.S (Kd.slice 3 (Kd.int .i64)) 22 w' w.heap.size (fun _ => True) v128 x3_2) ∧ Aside0 (w'.heap[gb126]? = some (.cells #[(.slice A0_0 l0_0.length c0_0), (.slice A0_1 l0_1.length c0_1), .int .i64 a0_2, (.slice A0_3 l0_3.length c0_3), (.slice A0_4 l0_4.length c0_4), (.slice A0_5 l0_5.length c0_5), .int .i64 a0_6] 31 (0, 0))) ∧ Aside0 (Below w.heap.size w w'))
      case atStart => exact ⟨(x3_1), (0), (by first | rfl | (simp; done) | (simp [*]; done)), H', ⟨Nat.le_refl _⟩, ⟨by (with_reducible repeat (first | apply Kd.S_alloc | apply Kd.S_drewN | apply Kd.S_drew)); exact HO_3.out⟩, ⟨by (with_reducible repeat (first | refine blk_drewN ?_ _ | refine blk_drew ?_ | refine blk_alloc ?_ _)); exact BK126.out⟩, ⟨by repeat (first | (with_reducible first | exact HB.out | apply below_alloc | apply pw_below_drewN | apply below_drew1 | refine below_set ?_ GE126.out) | exact HB.out)⟩⟩
      case round =>
       clear H'
       try clear c1
       try clear c2
       try clear c2b0
       try clear c2b1
       try clear p2
       try clear c3
       try clear c3b0
       try clear c3b1
       try clear c9
       try clear c9b0
       try clear hcz5_0 hcz5_1 hcz5_2 hcz5_3 hcz5_4 hcz5_5 hcz5_6
       try clear hcz8_0 hcz8_1 hcz8_2 hcz8_3 hcz8_4 hcz8_5 hcz8_6
       try clear hfz5_0 hfz5_1 hfz5_2 hfz5_3 hfz5_4 hfz5_5 hfz5_6
       try clear hfz8_0 hfz8_1 hfz8_2 hfz8_3 hfz8_4 hfz8_5 hfz8_6
       try clear p2
       obtain ⟨x3_2, x17_2, rfl, HA, HK2, HO_3, BK126, HB⟩ := hrel
       cases gk with
       | zero => exact absurd HA.out (by simp [sched_Dependences.l1])
       | succ k2 =>
        have H := HA.out
        clear HA
        simp only [sched_Dependences.l1] at H
        by_cases c10 : x17_2 < x13_1
        ·rw [if_pos c10] at H
         have c10b0 : decide (x17_2 < x13_1) = true := decide_eq_true c10
         clear c10
         by_cases c11 : 0 ≤ x13_1
         ·rw [if_pos c11] at H
          have c11b0 : decide (0 ≤ x13_1) = true := decide_eq_true c11
          clear c11
          by_cases c12 : x13_1 < (l0_1.length : Int)
          ·rw [if_pos c12] at H
           have c12b0 : decide (x13_1 < (l0_1.length : Int)) = true := decide_eq_true c12
           clear c12
           by_cases c13 : 0 ≤ x17_2
           ·rw [if_pos c13] at H
            have c13b0 : decide (0 ≤ x17_2) = true := decide_eq_true c13
            clear c13
            by_cases c14 : x17_2 < (l0_1.length : Int)
            ·rw [if_pos c14] at H
             have c14b0 : decide (x17_2 < (l0_1.length : Int)) = true := decide_eq_true c14
             clear c14
             replace H := Option.bind_eq_some_iff.mp H
             obtain ⟨t132, A150, H⟩ := H
             replace H : (if t132 = true then (if x13_1 < (x3_2.length : Int) then (if (rd_L1 x3_2 x13_1).length < 17592186044416 then (sched_Dependences.l1 k2 (x3_2.set (x13_1 : Int).toNat ((rd_L1 x3_2 x13_1) ++ [x17_2])) x13_1 (l0_1.length : Int) x13_1 x13_1 (wrap64 (x17_2 + 1)) l0_0 l0_1 a0_2 l0_3 l0_4 l0_5 a0_6) else (none)) else (none)) else (sched_Dependences.l1 k2 x3_2 x13_1 (l0_1.length : Int) x13_1 x13_1 (wrap64 (x17_2 + 1)) l0_0 l0_1 a0_2 l0_3 l0_4 l0_5 a0_6)) = some r := H
             have A15 := Aside0.mk A150
             clear A150
             by_cases c16 : t132 = true
             ·subst c16
              have H1 : (if x13_1 < (x3_2.length : Int) then (if (rd_L1 x3_2 x13_1).length < 17592186044416 then (sched_Dependences.l1 k2 (x3_2.set (x13_1 : Int).toNat ((rd_L1 x3_2 x13_1) ++ [x17_2])) x13_1 (l0_1.length : Int) x13_1 x13_1 (wrap64 (x17_2 + 1)) l0_0 l0_1 a0_2 l0_3 l0_4 l0_5 a0_6) else (none)) else (none)) = some r := by rw [if_pos rfl] at H; exact H
              clear H
              have H := H1
              clear H1
              by_cases c17 : x13_1 < (x3_2.length : Int)
              ·rw [if_pos c17] at H
               have c17b0 : decide (x13_1 < (x3_2.length : Int)) = true := decide_eq_true c17
               clear c17
               by_cases c18 : (rd_L1 x3_2 x13_1).length < 17592186044416
               ·rw [if_pos c18] at H
                have LMc18 := Aside0.mk c18
                clear c18
                obtain ⟨y134, hy134⟩ : ∃ y_ : List Int, y_ = ((rd_L1 x3_2 x13_1) ++ [x17_2]) := ⟨_, rfl⟩
                replace H : (sched_Dependences.l1 k2 (x3_2.set (x13_1 : Int).toNat y134) x13_1 (l0_1.length : Int) x13_1 x13_1 (wrap64 (x17_2 + 1)) l0_0 l0_1 a0_2 l0_3 l0_4 l0_5 a0_6) = some r := by first | (rw [hy134]; with_reducible exact H) | (have H2_ := (Option.bind_some _ _).symm.trans H; rw [hy134]; with_reducible exact H2_) | (have H2_ := (Option.bind_some _ _).symm.trans H; with_reducible exact H2_) | with_reducible exact H | (rw [hy134]; exact H) | exact H
                have Ny134 := Aside0.mk hy134
                clear hy134
                obtain ⟨y137, hy137⟩ : ∃ y_ : List (List Int), y_ = (x3_2.set (x13_1 : Int).toNat y134) := ⟨_, rfl⟩
                replace H : (sched_Dependences.l1 k2 y137 x13_1 (l0_1.length : Int) x13_1 x13_1 (wrap64 (x17_2 + 1)) l0_0 l0_1 a0_2 l0_3 l0_4 l0_5 a0_6) = some r := by first | (rw [hy137]; with_reducible exact H) | (have H2_ := (Option.bind_some _ _).symm.trans H; rw [hy137]; with_reducible exact H2_) | (have H2_ := (Option.bind_some _ _).symm.trans H; with_reducible exact H2_) | with_reducible exact H | (rw [hy137]; exact H) | exact H
                have Ny137 := Aside0.mk hy137
                clear hy137
                have H' := Aside0.mk H
                clear H
                try go_wp2
                have n0_ := Aside0.mk (Kd.S_drew HO_3.out)
                have n1_ := Aside0.mk (blk_drew BK126.out)
                have n2_ := Aside0.mk (below_drew1 HB.out)
                clear HO_3
                clear BK126
                clear HB
                have HO_3 := n0_
                have BK126 := n1_
                have HB := n2_
                clear n0_ n1_ n2_
                have p130 : 0 ≤ (x13_1 : Int) := of_decide_eq_true (by first | (with_reducible assumption) | assumption)
                have q130 : x13_1 < (l0_1.length : Int) := of_decide_eq_true (by first | (with_reducible assumption) | assumption)
                obtain ⟨ad130, A130_3, c130_3, e130, hx130_0, hx130_1, hx130_2, hx130_3, hx130_4, hx130_5, hx130_6, hx130_7, hl130_3, hi130_3⟩ := at_T48 HR0_1.out x13_1 p130 q130
                have hw130_7 := hx130_7
                have hw130_6 := hx130_6
                have hw130_5 := hx130_5
                have hw130_4 := hx130_4
                have hw130_3 := hx130_3
                have hw130_2 := hx130_2
                have hw130_1 := hx130_1
                have hw130_0 := hx130_0
                cases e130
                replace hx130_0 := (HB.out.cell (World.block_lt_of_cell? w _ hx130_0)).trans hx130_0
                replace hx130_1 := (HB.out.cell (World.block_lt_of_cell? w _ hx130_1)).trans hx130_1
                replace hx130_2 := (HB.out.cell (World.block_lt_of_cell? w _ hx130_2)).trans hx130_2
                replace hx130_3 := (HB.out.cell (World.block_lt_of_cell? w _ hx130_3)).trans hx130_3
                replace hx130_4 := (HB.out.cell (World.block_lt_of_cell? w _ hx130_4)).trans hx130_4
                replace hx130_5 := (HB.out.cell (World.block_lt_of_cell? w _ hx130_5)).trans hx130_5
                replace hx130_6 := (HB.out.cell (World.block_lt_of_cell? w _ hx130_6)).trans hx130_6
                replace hx130_7 := (HB.out.cell (World.block_lt_of_cell? w _ hx130_7)).trans hx130_7
                have HR130_3 := Aside0.mk hi130_3
                have HC130_3 := Aside0.mk hl130_3
                clear hi130_3 hl130_3
                replace p130 := eq_true p130
                replace q130 := eq_true q130
                have p131 : 0 ≤ (x17_2 : Int) := of_decide_eq_true (by first | (with_reducible assumption) | assumption)
                have q131 : x17_2 < (l0_1.length : Int) := of_decide_eq_true (by first | (with_reducible assumption) | assumption)
                obtain ⟨ad131, A131_3, c131_3, e131, hx131_0, hx131_1, hx131_2, hx131_3, hx131_4, hx131_5, hx131_6, hx131_7, hl131_3, hi131_3⟩ := at_T48 HR0_1.out x17_2 p131 q131
                have hw131_7 := hx131_7
                have hw131_6 := hx131_6
                have hw131_5 := hx131_5
                have hw131_4 := hx131_4
                have hw131_3 := hx131_3
                have hw131_2 := hx131_2
                have hw131_1 := hx131_1
                have hw131_0 := hx131_0
                obtain rfl : ad130 = ad131 := (by injection e131)
                replace hx131_0 := (HB.out.cell (World.block_lt_of_cell? w _ hx131_0)).trans hx131_0
                replace hx131_1 := (HB.out.cell (World.block_lt_of_cell? w _ hx131_1)).trans hx131_1
                replace hx131_2 := (HB.out.cell (World.block_lt_of_cell? w _ hx131_2)).trans hx131_2
                replace hx131_3 := (HB.out.cell (World.block_lt_of_cell? w _ hx131_3)).trans hx131_3
                replace hx131_4 := (HB.out.cell (World.block_lt_of_cell? w _ hx131_4)).trans hx131_4
                replace hx131_5 := (HB.out.cell (World.block_lt_of_cell? w _ hx131_5)).trans hx131_5
                replace hx131_6 := (HB.out.cell (World.block_lt_of_cell? w _ hx131_6)).trans hx131_6
                replace hx131_7 := (HB.out.cell (World.block_lt_of_cell? w _ hx131_7)).trans hx131_7
                have HR131_3 := Aside0.mk hi131_3
                have HC131_3 := Aside0.mk hl131_3
                clear hi131_3 hl131_3
                replace p131 := eq_true p131
                replace q131 := eq_true q131
                refine start_ (n := 11) (S := fun w' => w'.cell? ⟨gb126, 0, none⟩ = some (.slice A0_0 l0_0.length c0_0) ∧ w'.cell? ⟨gb126, 1, none⟩ = some (.slice (some ad130) l0_1.length c0_1) ∧ w'.cell? ⟨gb126, 2, none⟩ = some (.int .i64 a0_2) ∧ w'.cell? ⟨gb126, 3, none⟩ = some (.slice A0_3 l0_3.length c0_3) ∧ w'.cell? ⟨gb126, 4, none⟩ = some (.slice A0_4 l0_4.length c0_4) ∧ w'.cell? ⟨gb126, 5, none⟩ = some (.slice A0_5 l0_5.length c0_5) ∧ w'.cell? ⟨gb126, 6, none⟩ = some (.int .i64 a0_6) ∧ w'.cell? (ad130.add ((x13_1).toNat * 8)) = some (.int .i64 ((rd_T48 l0_1 x13_1).f0)) ∧ w'.cell? ⟨(ad130.add ((x13_1).toNat * 8)).block, (ad130.add ((x13_1).toNat * 8)).off + 1, none⟩ = some (.int .i64 ((rd_T48 l0_1 x13_1).f1)) ∧ w'.cell? ⟨(ad130.add ((x13_1).toNat * 8)).block, (ad130.add ((x13_1).toNat * 8)).off + 2, none⟩ = some (.int .i64 ((rd_T48 l0_1 x13_1).f2)) ∧ w'.cell? ⟨(ad130.add ((x13_1).toNat * 8)).block, (ad130.add ((x13_1).toNat * 8)).off + 3, none⟩ = some (.slice A130_3 ((rd_T48 l0_1 x13_1).f3).length c130_3) ∧ w'.cell? ⟨(ad130.add ((x13_1).toNat * 8)).block, (ad130.add ((x13_1).toNat * 8)).off + 4, none⟩ = some (.int .i64 ((rd_T48 l0_1 x13_1).f4)) ∧ w'.cell? ⟨(ad130.add ((x13_1).toNat * 8)).block, (ad130.add ((x13_1).toNat * 8)).off + 5, none⟩ = some (.int .i64 ((rd_T48 l0_1 x13_1).f5)) ∧ w'.cell? ⟨(ad130.add ((x13_1).toNat * 8)).block, (ad130.add ((x13_1).toNat * 8)).off + 6, none⟩ = some (.int .i64 ((rd_T48 l0_1 x13_1).f6)) ∧ w'.cell? ⟨(ad130.add ((x13_1).toNat * 8)).block, (ad130.add ((x13_1).toNat * 8)).off + 7, none⟩ = some (.bool ((rd_T48 l0_1 x13_1).f7)) ∧ w'.cell? (ad130.add ((x17_2).toNat * 8)) = some (.int .i64 ((rd_T48 l0_1 x17_2).f0)) ∧ w'.cell? ⟨(ad130.add ((x17_2).toNat * 8)).block, (ad130.add ((x17_2).toNat * 8)).off + 1, none⟩ = some (.int .i64 ((rd_T48 l0_1 x17_2).f1)) ∧ w'.cell? ⟨(ad130.add ((x17_2).toNat * 8)).block, (ad130.add ((x17_2).toNat * 8)).off + 2, none⟩ = some (.int .i64 ((rd_T48 l0_1 x17_2).f2)) ∧ w'.cell? ⟨(ad130.add ((x17_2).toNat * 8)).block, (ad130.add ((x17_2).toNat * 8)).off + 3, none⟩ = some (.slice A131_3 ((rd_T48 l0_1 x17_2).f3).length c131_3) ∧ w'.cell? ⟨(ad130.add ((x17_2).toNat * 8)).block, (ad130.add ((x17_2).toNat * 8)).off + 4, none⟩ = some (.int .i64 ((rd_T48 l0_1 x17_2).f4)) ∧ w'.cell? ⟨(ad130.add ((x17_2).toNat * 8)).block, (ad130.add ((x17_2).toNat * 8)).off + 5, none⟩ = some (.int .i64 ((rd_T48 l0_1 x17_2).f5)) ∧ w'.cell? ⟨(ad130.add ((x17_2).toNat * 8)).block, (ad130.add ((x17_2).toNat * 8)).off + 6, none⟩ = some (.int .i64 ((rd_T48 l0_1 x17_2).f6)) ∧ w'.cell? ⟨(ad130.add ((x17_2).toNat * 8)).block, (ad130.add ((x17_2).toNat * 8)).off + 7, none⟩ = some (.bool ((rd_T48 l0_1 x17_2).f7))) (ds := []) #[false, false, false, false, false, false, false, false, false, false, false] (by kernel_rfl) rfl rfl ⟨(blk_cell BK126.out 0).trans rfl, (blk_cell BK126.out 1).trans rfl, (blk_cell BK126.out 2).trans rfl, (blk_cell BK126.out 3).trans rfl, (blk_cell BK126.out 4).trans rfl, (blk_cell BK126.out 5).trans rfl, (blk_cell BK126.out 6).trans rfl, ((HB.out.cell (World.block_lt_of_cell? w _ hw130_0)).trans hw130_0), ((HB.out.cell (World.block_lt_of_cell? w _ hw130_1)).trans hw130_1), ((HB.out.cell (World.block_lt_of_cell? w _ hw130_2)).trans hw130_2), ((HB.out.cell (World.block_lt_of_cell? w _ hw130_3)).trans hw130_3), ((HB.out.cell (World.block_lt_of_cell? w _ hw130_4)).trans hw130_4), ((HB.out.cell (World.block_lt_of_cell? w _ hw130_5)).trans hw130_5), ((HB.out.cell (World.block_lt_of_cell? w _ hw130_6)).trans hw130_6), ((HB.out.cell (World.block_lt_of_cell? w _ hw130_7)).trans hw130_7), ((HB.out.cell (World.block_lt_of_cell? w _ hw131_0)).trans hw131_0), ((HB.out.cell (World.block_lt_of_cell? w _ hw131_1)).trans hw131_1), ((HB.out.cell (World.block_lt_of_cell? w _ hw131_2)).trans hw131_2), ((HB.out.cell (World.block_lt_of_cell? w _ hw131_3)).trans hw131_3), ((HB.out.cell (World.block_lt_of_cell? w _ hw131_4)).trans hw131_4), ((HB.out.cell (World.block_lt_of_cell? w _ hw131_5)).trans hw131_5), ((HB.out.cell (World.block_lt_of_cell? w _ hw131_6)).trans hw131_6), ((HB.out.cell (World.block_lt_of_cell? w _ hw131_7)).trans hw131_7)⟩ (fun hHeld => ?_); refine with_tabW sched_Dependences.tab8 sched_Dependences.bits8 (fun HT_ HW_ => ?_)
                generalize wr.drew = w20 at HO_3 BK126 HB HR130_3 HR131_3 hx130_0 hx130_1 hx130_2 hx130_3 hx130_4 hx130_5 hx130_6 hx130_7 hx131_0 hx131_1 hx131_2 hx131_3 hx131_4 hx131_5 hx131_6 hx131_7 hHeld ⊢
                refine pure_ (i := 0) (N := some 20) (v := ?_) (a' := ?_) #[true, false, false, false, false, false, false, false, false, false, false] rfl rfl (any_of HT_.out (by kernel_rfl)) (fun _ _ _ h => h) (Or.inl ⟨by rfl, ?_⟩) ?_ ?_
                rotate_left
                ·intro w'
                 go_simp
                 with_reducible rfl
                rotate_left
                ·simp only [Act.put, List.setIfInBounds_toArray, List.set_cons_zero, List.set_cons_succ, i64_w, i32_w]
                 rfl
                refine pure_ (i := 2) (N := some 22) (v := ?_) (a' := ?_) #[true, false, true, false, false, false, false, false, false, false, false] rfl rfl (any_of HT_.out (by kernel_rfl)) (fun _ _ _ h => h) (Or.inl ⟨by rfl, ?_⟩) ?_ ?_
                rotate_left
                ·intro w'
                 go_simp
                 with_reducible rfl
                rotate_left
                ·simp only [Act.put, List.setIfInBounds_toArray, List.set_cons_zero, List.set_cons_succ, i64_w, i32_w]
                 rfl
                refine pure_ (i := 5) (N := some 25) (v := ?_) (a' := ?_) #[true, false, true, false, false, true, false, false, false, false, false] rfl rfl (any_of HT_.out (by kernel_rfl)) (fun _ _ _ h => h) (Or.inl ⟨by rfl, ?_⟩) ?_ ?_
                rotate_left
                ·intro w'
                 go_simp
                 with_reducible rfl
                rotate_left
                ·simp only [Act.put, List.setIfInBounds_toArray, List.set_cons_zero, List.set_cons_succ, i64_w, i32_w]
                 rfl
                refine pure_ (i := 7) (N := some 27) (v := ?_) (a' := ?_) #[true, false, true, false, false, true, false, true, false, false, false] rfl rfl (any_of HT_.out (by kernel_rfl)) (fun _ _ _ h => h) (Or.inl ⟨by rfl, ?_⟩) ?_ ?_
                rotate_left
                ·intro w'
                 go_simp
                 with_reducible rfl
                rotate_left
                ·simp only [Act.put, List.setIfInBounds_toArray, List.set_cons_zero, List.set_cons_succ, i64_w, i32_w]
                 rfl
                refine take_ (i := 1) (N := some 21) (v := ?_) (a' := ?_) #[true, true, true, false, false, true, false, true, false, false, false] rfl rfl (take_ofW HT_.out HW_.out (by kernel_rfl)) (fun _ _ _ h => h) (Or.inl ⟨by rfl, ?_⟩) hHeld ?_ ?_
                rotate_left
                ·rintro w' ⟨s0, s1, s2, s3, s4, s5, s6, s7, s8, s9, s10, s11, s12, s13, s14, s15, s16, s17, s18, s19, s20, s21, s22⟩
                 go_simp
                 with_reducible rfl
                rotate_left
                ·simp only [Act.put, List.setIfInBounds_toArray, List.set_cons_zero, List.set_cons_succ, i64_w, i32_w]
                 rfl
                refine pure_ (i := 3) (N := some 23) (v := ?_) (a' := ?_) #[true, true, true, true, false, true, false, true, false, false, false] rfl rfl (any_of HT_.out (by kernel_rfl)) (fun _ _ _ h => h) (Or.inl ⟨by rfl, ?_⟩) ?_ ?_
                rotate_left
                ·intro w'
                 go_simp
                 with_reducible rfl
                rotate_left
                ·simp only [Act.put, List.setIfInBounds_toArray, List.set_cons_zero, List.set_cons_succ, i64_w, i32_w]
                 rfl
                refine take_ (i := 4) (N := some 24) (v := ?_) (a' := ?_) #[true, true, true, true, true, true, false, true, false, false, false] rfl rfl (take_ofW HT_.out HW_.out (by kernel_rfl)) (fun _ _ _ h => h) (Or.inl ⟨by rfl, ?_⟩) hHeld ?_ ?_
                rotate_left
                ·rintro w' ⟨s0, s1, s2, s3, s4, s5, s6, s7, s8, s9, s10, s11, s12, s13, s14, s15, s16, s17, s18, s19, s20, s21, s22⟩
                 go_simp
                 with_reducible rfl
                rotate_left
                ·simp only [Act.put, List.setIfInBounds_toArray, List.set_cons_zero, List.set_cons_succ, i64_w, i32_w]
                 rfl
                refine take_ (i := 6) (N := some 26) (v := ?_) (a' := ?_) #[true, true, true, true, true, true, true, true, false, false, false] rfl rfl (take_ofW HT_.out HW_.out (by kernel_rfl)) (fun _ _ _ h => h) (Or.inl ⟨by rfl, ?_⟩) hHeld ?_ ?_
                rotate_left
                ·rintro w' ⟨s0, s1, s2, s3, s4, s5, s6, s7, s8, s9, s10, s11, s12, s13, s14, s15, s16, s17, s18, s19, s20, s21, s22⟩
                 go_simp
                 with_reducible rfl
                rotate_left
                ·simp only [Act.put, List.setIfInBounds_toArray, List.set_cons_zero, List.set_cons_succ, i64_w, i32_w]
                 rfl
                refine pure_ (i := 8) (N := some 28) (v := ?_) (a' := ?_) #[true, true, true, true, true, true, true, true, true, false, false] rfl rfl (any_of HT_.out (by kernel_rfl)) (fun _ _ _ h => h) (Or.inl ⟨by rfl, ?_⟩) ?_ ?_
                rotate_left
                ·intro w'
                 go_simp
                 with_reducible rfl
                rotate_left
                ·simp only [Act.put, List.setIfInBounds_toArray, List.set_cons_zero, List.set_cons_succ, i64_w, i32_w]
                 rfl
                refine take_ (i := 9) (N := some 29) (v := ?_) (a' := ?_) #[true, true, true, true, true, true, true, true, true, true, false] rfl rfl (take_ofW HT_.out HW_.out (by kernel_rfl)) (fun _ _ _ h => h) (Or.inl ⟨by rfl, ?_⟩) hHeld ?_ ?_
                rotate_left
                ·rintro w' ⟨s0, s1, s2, s3, s4, s5, s6, s7, s8, s9, s10, s11, s12, s13, s14, s15, s16, s17, s18, s19, s20, s21, s22⟩
                 go_simp
                 with_reducible rfl
                rotate_left
                ·simp only [Act.put, List.setIfInBounds_toArray, List.set_cons_zero, List.set_cons_succ, i64_w, i32_w]
                 rfl
                refine one_ (i := 10) (N := some 30) #[true, true, true, true, true, true, true, true, true, true, true] rfl rfl (one_of HT_.out (by kernel_rfl)) (by decide) (fun K hK => ?_)
                refine goes_ Tryd.func34 (by kernel_rfl) rfl #[.agg #[.int .i64 ((rd_T48 l0_1 x13_1).f0), .int .i64 ((rd_T48 l0_1 x13_1).f1), .int .i64 ((rd_T48 l0_1 x13_1).f2), .slice A130_3 ((rd_T48 l0_1 x13_1).f3).length c130_3, .int .i64 ((rd_T48 l0_1 x13_1).f4), .int .i64 ((rd_T48 l0_1 x13_1).f5), .int .i64 ((rd_T48 l0_1 x13_1).f6), .bool ((rd_T48 l0_1 x13_1).f7)], .agg #[.int .i64 ((rd_T48 l0_1 x17_2).f0), .int .i64 ((rd_T48 l0_1 x17_2).f1), .int .i64 ((rd_T48 l0_1 x17_2).f2), .slice A131_3 ((rd_T48 l0_1 x17_2).f3).length c131_3, .int .i64 ((rd_T48 l0_1 x17_2).f4), .int .i64 ((rd_T48 l0_1 x17_2).f5), .int .i64 ((rd_T48 l0_1 x17_2).f6), .bool ((rd_T48 l0_1 x17_2).f7)]] (by rfl) rfl rfl (by (try simp only [List.map_toArray, List.map_cons, List.map_nil]); first | done | rfl | (simp only [List.length_drop, List.length_take]; rfl)) ?_
                with_reducible refine (sched_depends.calls k2 ((rd_T48 l0_1 x13_1).f0) ((rd_T48 l0_1 x13_1).f1) ((rd_T48 l0_1 x13_1).f2) _ _ ((rd_T48 l0_1 x13_1).f3) ((rd_T48 l0_1 x13_1).f4) ((rd_T48 l0_1 x13_1).f5) ((rd_T48 l0_1 x13_1).f6) ((rd_T48 l0_1 x13_1).f7) ((rd_T48 l0_1 x17_2).f0) ((rd_T48 l0_1 x17_2).f1) ((rd_T48 l0_1 x17_2).f2) _ _ ((rd_T48 l0_1 x17_2).f3) ((rd_T48 l0_1 x17_2).f4) ((rd_T48 l0_1 x17_2).f5) ((rd_T48 l0_1 x17_2).f6) ((rd_T48 l0_1 x17_2).f7) true _ ?side1 ?side2 ?side3 ?side4 A15.out).mono ?_
                (case side1 => repeat (first | exact (Kd.C_below HR130_3.out HB.out) | (with_reducible refine Kd.C_alloc ?_ _) | (with_reducible refine Kd.C_drewN ?_ _) | (with_reducible refine Kd.C_drew ?_)))
                (case side2 => exact HC130_3.out)
                (case side3 => repeat (first | exact (Kd.C_below HR131_3.out HB.out) | (with_reducible refine Kd.C_alloc ?_ _) | (with_reducible refine Kd.C_drewN ?_ _) | (with_reducible refine Kd.C_drew ?_)))
                (case side4 => exact HC131_3.out)
                rintro e w21 ⟨rfl, hb⟩
                refine ⟨_, rfl, ?_⟩
                have n0_ := Aside0.mk (Kd.S_below (by (with_reducible repeat (first | apply Kd.S_alloc | apply Kd.S_drewN | apply Kd.S_drew)); exact HO_3.out) hb)
                have n1_ := Aside0.mk (blk_below (g := gb126) (by (with_reducible repeat (first | refine blk_drewN ?_ _ | refine blk_drew ?_ | refine blk_alloc ?_ _)); exact BK126.out) hb)
                have n2_ := Aside0.mk (below_step (by repeat (first | (with_reducible first | exact HB.out | apply below_alloc | apply pw_below_drewN | apply below_drew1 | refine below_set ?_ GE126.out) | exact HB.out)) hb)
                clear HO_3
                clear BK126
                clear HB
                have HO_3 := n0_
                have BK126 := n1_
                have HB := n2_
                clear n0_ n1_ n2_
                (try clear hb)
                (try clear hb2)
                (try clear hk)
                (try clear hi)
                refine hK.out _ _ ⟨(blk_cell BK126.out 0).trans rfl, (blk_cell BK126.out 1).trans rfl, (blk_cell BK126.out 2).trans rfl, (blk_cell BK126.out 3).trans rfl, (blk_cell BK126.out 4).trans rfl, (blk_cell BK126.out 5).trans rfl, (blk_cell BK126.out 6).trans rfl, ((HB.out.cell (World.block_lt_of_cell? w _ hw130_0)).trans hw130_0), ((HB.out.cell (World.block_lt_of_cell? w _ hw130_1)).trans hw130_1), ((HB.out.cell (World.block_lt_of_cell? w _ hw130_2)).trans hw130_2), ((HB.out.cell (World.block_lt_of_cell? w _ hw130_3)).trans hw130_3), ((HB.out.cell (World.block_lt_of_cell? w _ hw130_4)).trans hw130_4), ((HB.out.cell (World.block_lt_of_cell? w _ hw130_5)).trans hw130_5), ((HB.out.cell (World.block_lt_of_cell? w _ hw130_6)).trans hw130_6), ((HB.out.cell (World.block_lt_of_cell? w _ hw130_7)).trans hw130_7), ((HB.out.cell (World.block_lt_of_cell? w _ hw131_0)).trans hw131_0), ((HB.out.cell (World.block_lt_of_cell? w _ hw131_1)).trans hw131_1), ((HB.out.cell (World.block_lt_of_cell? w _ hw131_2)).trans hw131_2), ((HB.out.cell (World.block_lt_of_cell? w _ hw131_3)).trans hw131_3), ((HB.out.cell (World.block_lt_of_cell? w _ hw131_4)).trans hw131_4), ((HB.out.cell (World.block_lt_of_cell? w _ hw131_5)).trans hw131_5), ((HB.out.cell (World.block_lt_of_cell? w _ hw131_6)).trans hw131_6), ((HB.out.cell (World.block_lt_of_cell? w _ hw131_7)).trans hw131_7)⟩ (fun hHeld => ?_)
                clear hK K
                refine norm_ (a' := ?_) ?_ ?_
                rotate_left
                ·show Act.put _ (some 30) _ = _
                 simp only [Act.put, List.setIfInBounds_toArray, List.set_cons_zero, List.set_cons_succ, i64_w, i32_w]
                 rfl
                refine done_ (done_of HT_.out (by kernel_rfl)) ?_
                obtain ⟨Ao22, co22, eo22⟩ := Kd.S_slice HO_3.out
                subst eo22
                have p133 : 0 ≤ (x13_1 : Int) := of_decide_eq_true (by first | (with_reducible assumption) | assumption)
                have q133 : x13_1 < (x3_2.length : Int) := of_decide_eq_true (by first | (with_reducible assumption) | assumption)
                obtain ⟨ad133, A133_0, c133_0, e133, hx133_0, hl133_0, hi133_0⟩ := at_L1 (Kd.S_reads' HO_3.out).2.2 x13_1 p133 q133
                cases e133
                obtain ⟨ce133, hce133, hMe133, hcc133⟩ := Kd.S_get HO_3.out [] x13_1 p133 (by first | exact q133 | exact of_decide_eq_true (by first | (with_reducible assumption) | assumption) | (have e_ := (Kd.S_reads' HO_3.out).1; omega))
                obtain ⟨ve133_0, rfl, ge133_0⟩ := hMe133
                have hv133_0 := hcc133 0 _ rfl
                rw [Nat.add_zero, show ((Kd.slice 3 (Kd.int .i64))).sz = 1 from rfl, Nat.mul_one] at hv133_0
                replace hv133_0 := Option.some.inj (hv133_0.symm.trans hx133_0)
                rw [hv133_0] at ge133_0
                have HL133_0 := Aside0.mk (show Kd.R (Kd.int .i64) 3 _ _ _ _ (rd_L1 x3_2 x13_1) from ge133_0)
                clear hv133_0 ge133_0
                have HX133_0 := Aside0.mk hx133_0
                clear hcc133 hce133
                have HR133_0 := Aside0.mk hi133_0
                have HC133_0 := Aside0.mk hl133_0
                clear hi133_0 hl133_0
                replace p133 := eq_true p133
                replace q133 := eq_true q133
                obtain ⟨go23, co23, eo23, gb23, gl23, cl23, HG23⟩ := Kd.S_form HO_3.out (by have h_ : (x13_1 : Int) < ((x3_2.length : Int) : Int) := of_decide_eq_true (by first | (with_reducible assumption) | assumption); have h2_ : 0 ≤ (x13_1 : Int) := (of_decide_eq_true (by first | (with_reducible assumption) | assumption)); omega)
                (first | cases eo23 | (injection eo23 with ea_ en_ ec_; (first | subst ea_ | (injection ea_ with ea_; subst ea_)); subst ec_; clear en_))
                have GB23 := Aside0.mk gb23
                have GG23 := Aside0.mk HG23
                clear gb23 gl23 HG23
                (first | simp only [add_plain] at hx133_0 | skip)
                obtain ⟨oki23, ce23, hcl23, hM23, hcc23, _, _, hH23⟩ := Kd.S_elem HO_3.out [] (x13_1 : Int) (of_decide_eq_true (by first | (with_reducible assumption) | assumption)) (by have h_ : (x13_1 : Int) < ((x3_2.length : Int) : Int) := of_decide_eq_true (by first | (with_reducible assumption) | assumption); first | exact h_ | (have e_ := (Kd.S_reads' HO_3.out).1; omega) | simpa using h_)
                obtain ⟨ve23_0, rfl, ge23_0⟩ := hM23
                have hv23 := hcc23 0 _ rfl
                have hX23 := HX133_0.out
                (try simp only [add_plain] at hX23)
                (try simp only [Nat.add_zero] at hv23)
                (try rw [show ((Kd.slice 3 (Kd.int .i64))).sz = 1 from rfl, Nat.mul_one] at hv23)
                replace hv23 := Option.some.inj (hv23.symm.trans hX23)
                subst hv23
                clear hX23 hcc23 hcl23
                have UU23 := Aside0.mk (show Kd.R (Kd.int .i64) 3 _ w.heap.size oki23 (.slice A133_0 (rd_L1 x3_2 x13_1).length c133_0) (rd_L1 x3_2 x13_1) from ge23_0)
                have HH23 := Aside0.mk hH23
                have HN23 := Aside0.mk (Kd.S_reads' HO_3.out).1
                clear hH23 ge23_0
                try go_wp2_with (first | ((with_reducible refine gate_builtin (b := .append) (xs := #[.tmp 36, .tmp 38]) rfl ?_); at_builtin; refine Kd.R_append (Kd.int .i64) (w0 := w) w.heap.size rfl (.tmp 36) (.tmp 38) 22 3 (.int .i64 0) 8 rfl Tryd.underlying22 info3 rfl (by decide) (by omega) (.slice A133_0 (rd_L1 x3_2 x13_1).length c133_0) (rd_L1 x3_2 x13_1) x17_2 [.int .i64 x17_2] (fun k_ => oki23 k_ ∨ ((fun _ => True)) k_ ∧ w21.heap.size ≤ k_) (fun _ => False) rfl rfl ?aP (fun _ hk => hk.elim) ?aF ?aO ?aB ?aS ?aL ?_; (case aP => exact rfl); (case aB => exact (by repeat (first | (with_reducible first | exact HB.out | apply below_alloc | apply pw_below_drewN | apply below_drew1 | refine below_set ?_ GE126.out) | exact HB.out))); (case aF => exact (fun k_ hk => .inr ⟨trivial, hk⟩)); (case aO => exact (by (with_reducible repeat (first | apply Kd.R_alloc | apply Kd.R_drewN | apply Kd.R_drew)); exact Kd.R_mono UU23.out (fun _ hk => .inl hk))); (case aS => exact (below_size (by repeat (first | (with_reducible first | exact HB.out | apply below_alloc | apply pw_below_drewN | apply below_drew1 | refine below_set ?_ GE126.out) | exact HB.out)))); (case aL => have := LMc18.out; omega); intro v135 w24 ho hb hg hat; rw [← Ny134.out] at ho; have n0_ := Aside0.mk (blk_grown (g := gb126) (o := .cells #[.slice A0_0 l0_0.length c0_0, .slice (some ad130) l0_1.length c0_1, .int .i64 a0_2, .slice A0_3 l0_3.length c0_3, .slice A0_4 l0_4.length c0_4, .slice A0_5 l0_5.length c0_5, .int .i64 a0_6] 31 (0, 0)) (by (with_reducible repeat (first | refine blk_drewN ?_ _ | refine blk_drew ?_ | refine blk_alloc ?_ _)); exact BK126.out) hg (Kd.R_ne HL133_0.out BK126.out (by decide))); have n1_ := Aside0.mk (hb); have n2_ := Aside0.mk (Kd.H_grown (Kd.H_widen (by repeat (first | exact HH23.out | refine Kd.H_alloc ?_ _ | refine Kd.H_drewN ?_ _ | refine Kd.H_drew ?_))) hg (fun k_ e_ => .inl (UU23.out.1 k_ e_))); have n3_ := Aside0.mk (ho); clear BK126; clear HB; clear HH23; clear HO_3; clear UU23; clear HL133_0; have BK126 := n0_; have HB := n1_; have HH23 := n2_; have HO136 := n3_; clear n0_ n1_ n2_ n3_; clear ho hb hg hat; have p19 : 0 ≤ (x13_1 : Int) := of_decide_eq_true (by first | (with_reducible assumption) | assumption); have q19 : (x13_1 : Int) < ((x3_2.length : Int) : Int) := of_decide_eq_true (by first | (with_reducible assumption) | assumption); replace p19 := eq_true p19; replace q19 := eq_true q19; obtain ⟨Ao27, co27, eo27⟩ := Kd.R_slice HO136.out; subst eo27; obtain ⟨_, _, hraw25, _, _, hcc25, _⟩ := Kd.H_raw HH23.out (of_decide_eq_true (by first | (with_reducible assumption) | assumption)) (by have h_ : (x13_1 : Int) < ((x3_2.length : Int) : Int) := of_decide_eq_true (by first | (with_reducible assumption) | assumption); first | exact h_ | (have e_ := (HN23.out); omega) | simpa using h_); obtain ⟨_, hfr25⟩ := Kd.H_at HH23.out (of_decide_eq_true (by first | (with_reducible assumption) | assumption)) (by have h_ : (x13_1 : Int) < ((x3_2.length : Int) : Int) := of_decide_eq_true (by first | (with_reducible assumption) | assumption); first | exact h_ | (have e_ := (HN23.out); omega) | simpa using h_); have hx25_0 := hcc25 0 _ rfl; have hf25_0 := hfr25 0; (try simp only [Nat.add_zero] at hx25_0 hf25_0); (try rw [show ((Kd.slice 3 (Kd.int .i64))).sz = 1 from rfl, Nat.mul_one] at hx25_0); (try rw [show ((Kd.slice 3 (Kd.int .i64))).sz = 1 from rfl, Nat.mul_one] at hf25_0); have HP25 := Kd.S_seg0 HH23.out (of_decide_eq_true (by first | (with_reducible assumption) | assumption)) (by have h_ : (x13_1 : Int) < ((x3_2.length : Int) : Int) := of_decide_eq_true (by first | (with_reducible assumption) | assumption); first | exact h_ | (have e_ := (HN23.out); omega) | simpa using h_) (seg := [.slice Ao27 y134.length co27]) (j := 0) (show 1 ≤ 1 from by decide) (x' := y134) (Kd.M_row HO136.out) (fun _ hk => hk); (try simp only [show ((Kd.slice 3 (Kd.int .i64))).sz = 1 from rfl, Nat.mul_one, Nat.add_zero] at HP25); clear hcc25 hfr25) | ((with_reducible refine gate_store (t := 22) (p := 40) rfl ?_); refine store_event (t := 22) (p := 40) (v := ?vo_w26) (w1 := (w24.setCell ⟨go23, (x13_1 : Int).toNat, none⟩ (.slice Ao27 y134.length co27))) ?hg ?ho ?hn ?hr ?_; (case ho => rfl); (case hg => rfl); (case hn => rfl); (case hr => first | (go_simp; done) | (go_simp; rfl)); intro w26 hw; have hg : w24.grownBy w26 (some go23) := (by rw [hw]; exact HP25.2); have hp_ : Kd.S (Kd.slice 3 (Kd.int .i64)) 22 w26 w.heap.size (fun _ => True) (.slice (some ⟨go23, 0, none⟩) x3_2.length co22) y137 := (by rw [hw, Ny137.out]; exact HP25.1); clear HP25; have n0_ := Aside0.mk (blk_grown (g := gb126) (o := .cells #[.slice A0_0 l0_0.length c0_0, .slice (some ad130) l0_1.length c0_1, .int .i64 a0_2, .slice A0_3 l0_3.length c0_3, .slice A0_4 l0_4.length c0_4, .slice A0_5 l0_5.length c0_5, .int .i64 a0_6] 31 (0, 0)) (by (with_reducible repeat (first | refine blk_drewN ?_ _ | refine blk_drew ?_ | refine blk_alloc ?_ _)); exact BK126.out) hg (Kd.R_ne hraw25 BK126.out (by decide))); have n1_ := Aside0.mk ((by rw [hw]; exact below_set HB.out GB23.out : Below w.heap.size w w26)); have n2_ := Aside0.mk (hp_); clear BK126; clear HB; clear HO136; clear HH23; have BK126 := n0_; have HB := n1_; have HO_3 := n2_; clear n0_ n1_ n2_; clear hg hw hp_ hraw25))
                go_roundg k2
                case measure => have := HK1.out; have := HK2.out; omega
                case rel => exact ⟨(y137), (wrap64 (x17_2 + 1)), (by first | rfl | (simp; done) | (simp [*]; done)), H', ⟨by have := HK1.out; have := HK2.out; omega⟩, ⟨by (with_reducible repeat (first | apply Kd.S_alloc | apply Kd.S_drewN | apply Kd.S_drew)); exact HO_3.out⟩, ⟨by (with_reducible repeat (first | refine blk_drewN ?_ _ | refine blk_drew ?_ | refine blk_alloc ?_ _)); exact BK126.out⟩, ⟨by repeat (first | (with_reducible first | exact HB.out | apply below_alloc | apply pw_below_drewN | apply below_drew1 | refine below_set ?_ GE126.out) | exact HB.out)⟩⟩
               ·rw [if_neg c18] at H
                exact absurd H (by simp)
              ·rw [if_neg c17] at H
               exact absurd H (by simp)
             ·replace c16 := Bool.eq_false_iff.mpr c16
              subst c16
              have H1 : (sched_Dependences.l1 k2 x3_2 x13_1 (l0_1.length : Int) x13_1 x13_1 (wrap64 (x17_2 + 1)) l0_0 l0_1 a0_2 l0_3 l0_4 l0_5 a0_6) = some r := by rw [if_neg (show ¬ (false = true) by decide)] at H; exact H
              clear H
              have H := H1
              clear H1
              have H' := Aside0.mk H
              clear H
              try go_wp2
              have n0_ := Aside0.mk (Kd.S_drew HO_3.out)
              have n1_ := Aside0.mk (blk_drew BK126.out)
              have n2_ := Aside0.mk (below_drew1 HB.out)
              clear HO_3
              clear BK126
              clear HB
              have HO_3 := n0_
              have BK126 := n1_
              have HB := n2_
              clear n0_ n1_ n2_
              have p130 : 0 ≤ (x13_1 : Int) := of_decide_eq_true (by first | (with_reducible assumption) | assumption)
              have q130 : x13_1 < (l0_1.length : Int) := of_decide_eq_true (by first | (with_reducible assumption) | assumption)
              obtain ⟨ad130, A130_3, c130_3, e130, hx130_0, hx130_1, hx130_2, hx130_3, hx130_4, hx130_5, hx130_6, hx130_7, hl130_3, hi130_3⟩ := at_T48 HR0_1.out x13_1 p130 q130
              have hw130_7 := hx130_7
              have hw130_6 := hx130_6
              have hw130_5 := hx130_5
              have hw130_4 := hx130_4
              have hw130_3 := hx130_3
              have hw130_2 := hx130_2
              have hw130_1 := hx130_1
              have hw130_0 := hx130_0
              cases e130
              replace hx130_0 := (HB.out.cell (World.block_lt_of_cell? w _ hx130_0)).trans hx130_0
              replace hx130_1 := (HB.out.cell (World.block_lt_of_cell? w _ hx130_1)).trans hx130_1
              replace hx130_2 := (HB.out.cell (World.block_lt_of_cell? w _ hx130_2)).trans hx130_2
              replace hx130_3 := (HB.out.cell (World.block_lt_of_cell? w _ hx130_3)).trans hx130_3
              replace hx130_4 := (HB.out.cell (World.block_lt_of_cell? w _ hx130_4)).trans hx130_4
              replace hx130_5 := (HB.out.cell (World.block_lt_of_cell? w _ hx130_5)).trans hx130_5
              replace hx130_6 := (HB.out.cell (World.block_lt_of_cell? w _ hx130_6)).trans hx130_6
              replace hx130_7 := (HB.out.cell (World.block_lt_of_cell? w _ hx130_7)).trans hx130_7
              have HR130_3 := Aside0.mk hi130_3
              have HC130_3 := Aside0.mk hl130_3
              clear hi130_3 hl130_3
              replace p130 := eq_true p130
              replace q130 := eq_true q130
              have p131 : 0 ≤ (x17_2 : Int) := of_decide_eq_true (by first | (with_reducible assumption) | assumption)
              have q131 : x17_2 < (l0_1.length : Int) := of_decide_eq_true (by first | (with_reducible assumption) | assumption)
              obtain ⟨ad131, A131_3, c131_3, e131, hx131_0, hx131_1, hx131_2, hx131_3, hx131_4, hx131_5, hx131_6, hx131_7, hl131_3, hi131_3⟩ := at_T48 HR0_1.out x17_2 p131 q131
              have hw131_7 := hx131_7
              have hw131_6 := hx131_6
              have hw131_5 := hx131_5
              have hw131_4 := hx131_4
              have hw131_3 := hx131_3
              have hw131_2 := hx131_2
              have hw131_1 := hx131_1
              have hw131_0 := hx131_0
              obtain rfl : ad130 = ad131 := (by injection e131)
              replace hx131_0 := (HB.out.cell (World.block_lt_of_cell? w _ hx131_0)).trans hx131_0
              replace hx131_1 := (HB.out.cell (World.block_lt_of_cell? w _ hx131_1)).trans hx131_1
              replace hx131_2 := (HB.out.cell (World.block_lt_of_cell? w _ hx131_2)).trans hx131_2
              replace hx131_3 := (HB.out.cell (World.block_lt_of_cell? w _ hx131_3)).trans hx131_3
              replace hx131_4 := (HB.out.cell (World.block_lt_of_cell? w _ hx131_4)).trans hx131_4
              replace hx131_5 := (HB.out.cell (World.block_lt_of_cell? w _ hx131_5)).trans hx131_5
              replace hx131_6 := (HB.out.cell (World.block_lt_of_cell? w _ hx131_6)).trans hx131_6
              replace hx131_7 := (HB.out.cell (World.block_lt_of_cell? w _ hx131_7)).trans hx131_7
              have HR131_3 := Aside0.mk hi131_3
              have HC131_3 := Aside0.mk hl131_3
              clear hi131_3 hl131_3
              replace p131 := eq_true p131
              replace q131 := eq_true q131
              refine start_ (n := 11) (S := fun w' => w'.cell? ⟨gb126, 0, none⟩ = some (.slice A0_0 l0_0.length c0_0) ∧ w'.cell? ⟨gb126, 1, none⟩ = some (.slice (some ad130) l0_1.length c0_1) ∧ w'.cell? ⟨gb126, 2, none⟩ = some (.int .i64 a0_2) ∧ w'.cell? ⟨gb126, 3, none⟩ = some (.slice A0_3 l0_3.length c0_3) ∧ w'.cell? ⟨gb126, 4, none⟩ = some (.slice A0_4 l0_4.length c0_4) ∧ w'.cell? ⟨gb126, 5, none⟩ = some (.slice A0_5 l0_5.length c0_5) ∧ w'.cell? ⟨gb126, 6, none⟩ = some (.int .i64 a0_6) ∧ w'.cell? (ad130.add ((x13_1).toNat * 8)) = some (.int .i64 ((rd_T48 l0_1 x13_1).f0)) ∧ w'.cell? ⟨(ad130.add ((x13_1).toNat * 8)).block, (ad130.add ((x13_1).toNat * 8)).off + 1, none⟩ = some (.int .i64 ((rd_T48 l0_1 x13_1).f1)) ∧ w'.cell? ⟨(ad130.add ((x13_1).toNat * 8)).block, (ad130.add ((x13_1).toNat * 8)).off + 2, none⟩ = some (.int .i64 ((rd_T48 l0_1 x13_1).f2)) ∧ w'.cell? ⟨(ad130.add ((x13_1).toNat * 8)).block, (ad130.add ((x13_1).toNat * 8)).off + 3, none⟩ = some (.slice A130_3 ((rd_T48 l0_1 x13_1).f3).length c130_3) ∧ w'.cell? ⟨(ad130.add ((x13_1).toNat * 8)).block, (ad130.add ((x13_1).toNat * 8)).off + 4, none⟩ = some (.int .i64 ((rd_T48 l0_1 x13_1).f4)) ∧ w'.cell? ⟨(ad130.add ((x13_1).toNat * 8)).block, (ad130.add ((x13_1).toNat * 8)).off + 5, none⟩ = some (.int .i64 ((rd_T48 l0_1 x13_1).f5)) ∧ w'.cell? ⟨(ad130.add ((x13_1).toNat * 8)).block, (ad130.add ((x13_1).toNat * 8)).off + 6, none⟩ = some (.int .i64 ((rd_T48 l0_1 x13_1).f6)) ∧ w'.cell? ⟨(ad130.add ((x13_1).toNat * 8)).block, (ad130.add ((x13_1).toNat * 8)).off + 7, none⟩ = some (.bool ((rd_T48 l0_1 x13_1).f7)) ∧ w'.cell? (ad130.add ((x17_2).toNat * 8)) = some (.int .i64 ((rd_T48 l0_1 x17_2).f0)) ∧ w'.cell? ⟨(ad130.add ((x17_2).toNat * 8)).block, (ad130.add ((x17_2).toNat * 8)).off + 1, none⟩ = some (.int .i64 ((rd_T48 l0_1 x17_2).f1)) ∧ w'.cell? ⟨(ad130.add ((x17_2).toNat * 8)).block, (ad130.add ((x17_2).toNat * 8)).off + 2, none⟩ = some (.int .i64 ((rd_T48 l0_1 x17_2).f2)) ∧ w'.cell? ⟨(ad130.add ((x17_2).toNat * 8)).block, (ad130.add ((x17_2).toNat * 8)).off + 3, none⟩ = some (.slice A131_3 ((rd_T48 l0_1 x17_2).f3).length c131_3) ∧ w'.cell? ⟨(ad130.add ((x17_2).toNat * 8)).block, (ad130.add ((x17_2).toNat * 8)).off + 4, none⟩ = some (.int .i64 ((rd_T48 l0_1 x17_2).f4)) ∧ w'.cell? ⟨(ad130.add ((x17_2).toNat * 8)).block, (ad130.add ((x17_2).toNat * 8)).off + 5, none⟩ = some (.int .i64 ((rd_T48 l0_1 x17_2).f5)) ∧ w'.cell? ⟨(ad130.add ((x17_2).toNat * 8)).block, (ad130.add ((x17_2).toNat * 8)).off + 6, none⟩ = some (.int .i64 ((rd_T48 l0_1 x17_2).f6)) ∧ w'.cell? ⟨(ad130.add ((x17_2).toNat * 8)).block, (ad130.add ((x17_2).toNat * 8)).off + 7, none⟩ = some (.bool ((rd_T48 l0_1 x17_2).f7))) (ds := []) #[false, false, false, false, false, false, false, false, false, false, false] (by kernel_rfl) rfl rfl ⟨(blk_cell BK126.out 0).trans rfl, (blk_cell BK126.out 1).trans rfl, (blk_cell BK126.out 2).trans rfl, (blk_cell BK126.out 3).trans rfl, (blk_cell BK126.out 4).trans rfl, (blk_cell BK126.out 5).trans rfl, (blk_cell BK126.out 6).trans rfl, ((HB.out.cell (World.block_lt_of_cell? w _ hw130_0)).trans hw130_0), ((HB.out.cell (World.block_lt_of_cell? w _ hw130_1)).trans hw130_1), ((HB.out.cell (World.block_lt_of_cell? w _ hw130_2)).trans hw130_2), ((HB.out.cell (World.block_lt_of_cell? w _ hw130_3)).trans hw130_3), ((HB.out.cell (World.block_lt_of_cell? w _ hw130_4)).trans hw130_4), ((HB.out.cell (World.block_lt_of_cell? w _ hw130_5)).trans hw130_5), ((HB.out.cell (World.block_lt_of_cell? w _ hw130_6)).trans hw130_6), ((HB.out.cell (World.block_lt_of_cell? w _ hw130_7)).trans hw130_7), ((HB.out.cell (World.block_lt_of_cell? w _ hw131_0)).trans hw131_0), ((HB.out.cell (World.block_lt_of_cell? w _ hw131_1)).trans hw131_1), ((HB.out.cell (World.block_lt_of_cell? w _ hw131_2)).trans hw131_2), ((HB.out.cell (World.block_lt_of_cell? w _ hw131_3)).trans hw131_3), ((HB.out.cell (World.block_lt_of_cell? w _ hw131_4)).trans hw131_4), ((HB.out.cell (World.block_lt_of_cell? w _ hw131_5)).trans hw131_5), ((HB.out.cell (World.block_lt_of_cell? w _ hw131_6)).trans hw131_6), ((HB.out.cell (World.block_lt_of_cell? w _ hw131_7)).trans hw131_7)⟩ (fun hHeld => ?_); refine with_tabW sched_Dependences.tab8 sched_Dependences.bits8 (fun HT_ HW_ => ?_)
              generalize wr.drew = w28 at HO_3 BK126 HB HR130_3 HR131_3 hx130_0 hx130_1 hx130_2 hx130_3 hx130_4 hx130_5 hx130_6 hx130_7 hx131_0 hx131_1 hx131_2 hx131_3 hx131_4 hx131_5 hx131_6 hx131_7 hHeld ⊢
              refine pure_ (i := 0) (N := some 20) (v := ?_) (a' := ?_) #[true, false, false, false, false, false, false, false, false, false, false] rfl rfl (any_of HT_.out (by kernel_rfl)) (fun _ _ _ h => h) (Or.inl ⟨by rfl, ?_⟩) ?_ ?_
              rotate_left
              ·intro w'
               go_simp
               with_reducible rfl
              rotate_left
              ·simp only [Act.put, List.setIfInBounds_toArray, List.set_cons_zero, List.set_cons_succ, i64_w, i32_w]
               rfl
              refine pure_ (i := 2) (N := some 22) (v := ?_) (a' := ?_) #[true, false, true, false, false, false, false, false, false, false, false] rfl rfl (any_of HT_.out (by kernel_rfl)) (fun _ _ _ h => h) (Or.inl ⟨by rfl, ?_⟩) ?_ ?_
              rotate_left
              ·intro w'
               go_simp
               with_reducible rfl
              rotate_left
              ·simp only [Act.put, List.setIfInBounds_toArray, List.set_cons_zero, List.set_cons_succ, i64_w, i32_w]
               rfl
              refine pure_ (i := 5) (N := some 25) (v := ?_) (a' := ?_) #[true, false, true, false, false, true, false, false, false, false, false] rfl rfl (any_of HT_.out (by kernel_rfl)) (fun _ _ _ h => h) (Or.inl ⟨by rfl, ?_⟩) ?_ ?_
              rotate_left
              ·intro w'
               go_simp
               with_reducible rfl
              rotate_left
              ·simp only [Act.put, List.setIfInBounds_toArray, List.set_cons_zero, List.set_cons_succ, i64_w, i32_w]
               rfl
              refine pure_ (i := 7) (N := some 27) (v := ?_) (a' := ?_) #[true, false, true, false, false, true, false, true, false, false, false] rfl rfl (any_of HT_.out (by kernel_rfl)) (fun _ _ _ h => h) (Or.inl ⟨by rfl, ?_⟩) ?_ ?_
              rotate_left
              ·intro w'
               go_simp
               with_reducible rfl
              rotate_left
              ·simp only [Act.put, List.setIfInBounds_toArray, List.set_cons_zero, List.set_cons_succ, i64_w, i32_w]
               rfl
              refine take_ (i := 1) (N := some 21) (v := ?_) (a' := ?_) #[true, true, true, false, false, true, false, true, false, false, false] rfl rfl (take_ofW HT_.out HW_.out (by kernel_rfl)) (fun _ _ _ h => h) (Or.inl ⟨by rfl, ?_⟩) hHeld ?_ ?_
              rotate_left
              ·rintro w' ⟨s0, s1, s2, s3, s4, s5, s6, s7, s8, s9, s10, s11, s12, s13, s14, s15, s16, s17, s18, s19, s20, s21, s22⟩
               go_simp
               with_reducible rfl
              rotate_left
              ·simp only [Act.put, List.setIfInBounds_toArray, List.set_cons_zero, List.set_cons_succ, i64_w, i32_w]
               rfl
              refine pure_ (i := 3) (N := some 23) (v := ?_) (a' := ?_) #[true, true, true, true, false, true, false, true, false, false, false] rfl rfl (any_of HT_.out (by kernel_rfl)) (fun _ _ _ h => h) (Or.inl ⟨by rfl, ?_⟩) ?_ ?_
              rotate_left
              ·intro w'
               go_simp
               with_reducible rfl
              rotate_left
              ·simp only [Act.put, List.setIfInBounds_toArray, List.set_cons_zero, List.set_cons_succ, i64_w, i32_w]
               rfl
              refine take_ (i := 4) (N := some 24) (v := ?_) (a' := ?_) #[true, true, true, true, true, true, false, true, false, false, false] rfl rfl (take_ofW HT_.out HW_.out (by kernel_rfl)) (fun _ _ _ h => h) (Or.inl ⟨by rfl, ?_⟩) hHeld ?_ ?_
              rotate_left
              ·rintro w' ⟨s0, s1, s2, s3, s4, s5, s6, s7, s8, s9, s10, s11, s12, s13, s14, s15, s16, s17, s18, s19, s20, s21, s22⟩
               go_simp
               with_reducible rfl
              rotate_left
              ·simp only [Act.put, List.setIfInBounds_toArray, List.set_cons_zero, List.set_cons_succ, i64_w, i32_w]
               rfl
              refine take_ (i := 6) (N := some 26) (v := ?_) (a' := ?_) #[true, true, true, true, true, true, true, true, false, false, false] rfl rfl (take_ofW HT_.out HW_.out (by kernel_rfl)) (fun _ _ _ h => h) (Or.inl ⟨by rfl, ?_⟩) hHeld ?_ ?_
              rotate_left
              ·rintro w' ⟨s0, s1, s2, s3, s4, s5, s6, s7, s8, s9, s10, s11, s12, s13, s14, s15, s16, s17, s18, s19, s20, s21, s22⟩
               go_simp
               with_reducible rfl
              rotate_left
              ·simp only [Act.put, List.setIfInBounds_toArray, List.set_cons_zero, List.set_cons_succ, i64_w, i32_w]
               rfl
              refine pure_ (i := 8) (N := some 28) (v := ?_) (a' := ?_) #[true, true, true, true, true, true, true, true, true, false, false] rfl rfl (any_of HT_.out (by kernel_rfl)) (fun _ _ _ h => h) (Or.inl ⟨by rfl, ?_⟩) ?_ ?_
              rotate_left
              ·intro w'
               go_simp
               with_reducible rfl
              rotate_left
              ·simp only [Act.put, List.setIfInBounds_toArray, List.set_cons_zero, List.set_cons_succ, i64_w, i32_w]
               rfl
              refine take_ (i := 9) (N := some 29) (v := ?_) (a' := ?_) #[true, true, true, true, true, true, true, true, true, true, false] rfl rfl (take_ofW HT_.out HW_.out (by kernel_rfl)) (fun _ _ _ h => h) (Or.inl ⟨by rfl, ?_⟩) hHeld ?_ ?_
              rotate_left
              ·rintro w' ⟨s0, s1, s2, s3, s4, s5, s6, s7, s8, s9, s10, s11, s12, s13, s14, s15, s16, s17, s18, s19, s20, s21, s22⟩
               go_simp
               with_reducible rfl
              rotate_left
              ·simp only [Act.put, List.setIfInBounds_toArray, List.set_cons_zero, List.set_cons_succ, i64_w, i32_w]
               rfl
              refine one_ (i := 10) (N := some 30) #[true, true, true, true, true, true, true, true, true, true, true] rfl rfl (one_of HT_.out (by kernel_rfl)) (by decide) (fun K hK => ?_)
              refine goes_ Tryd.func34 (by kernel_rfl) rfl #[.agg #[.int .i64 ((rd_T48 l0_1 x13_1).f0), .int .i64 ((rd_T48 l0_1 x13_1).f1), .int .i64 ((rd_T48 l0_1 x13_1).f2), .slice A130_3 ((rd_T48 l0_1 x13_1).f3).length c130_3, .int .i64 ((rd_T48 l0_1 x13_1).f4), .int .i64 ((rd_T48 l0_1 x13_1).f5), .int .i64 ((rd_T48 l0_1 x13_1).f6), .bool ((rd_T48 l0_1 x13_1).f7)], .agg #[.int .i64 ((rd_T48 l0_1 x17_2).f0), .int .i64 ((rd_T48 l0_1 x17_2).f1), .int .i64 ((rd_T48 l0_1 x17_2).f2), .slice A131_3 ((rd_T48 l0_1 x17_2).f3).length c131_3, .int .i64 ((rd_T48 l0_1 x17_2).f4), .int .i64 ((rd_T48 l0_1 x17_2).f5), .int .i64 ((rd_T48 l0_1 x17_2).f6), .bool ((rd_T48 l0_1 x17_2).f7)]] (by rfl) rfl rfl (by (try simp only [List.map_toArray, List.map_cons, List.map_nil]); first | done | rfl | (simp only [List.length_drop, List.length_take]; rfl)) ?_
              with_reducible refine (sched_depends.calls k2 ((rd_T48 l0_1 x13_1).f0) ((rd_T48 l0_1 x13_1).f1) ((rd_T48 l0_1 x13_1).f2) _ _ ((rd_T48 l0_1 x13_1).f3) ((rd_T48 l0_1 x13_1).f4) ((rd_T48 l0_1 x13_1).f5) ((rd_T48 l0_1 x13_1).f6) ((rd_T48 l0_1 x13_1).f7) ((rd_T48 l0_1 x17_2).f0) ((rd_T48 l0_1 x17_2).f1) ((rd_T48 l0_1 x17_2).f2) _ _ ((rd_T48 l0_1 x17_2).f3) ((rd_T48 l0_1 x17_2).f4) ((rd_T48 l0_1 x17_2).f5) ((rd_T48 l0_1 x17_2).f6) ((rd_T48 l0_1 x17_2).f7) false _ ?side1 ?side2 ?side3 ?side4 A15.out).mono ?_
              (case side1 => repeat (first | exact (Kd.C_below HR130_3.out HB.out) | (with_reducible refine Kd.C_alloc ?_ _) | (with_reducible refine Kd.C_drewN ?_ _) | (with_reducible refine Kd.C_drew ?_)))
              (case side2 => exact HC130_3.out)
              (case side3 => repeat (first | exact (Kd.C_below HR131_3.out HB.out) | (with_reducible refine Kd.C_alloc ?_ _) | (with_reducible refine Kd.C_drewN ?_ _) | (with_reducible refine Kd.C_drew ?_)))
              (case side4 => exact HC131_3.out)
              rintro e w29 ⟨rfl, hb⟩
              refine ⟨_, rfl, ?_⟩
              have n0_ := Aside0.mk (Kd.S_below (by (with_reducible repeat (first | apply Kd.S_alloc | apply Kd.S_drewN | apply Kd.S_drew)); exact HO_3.out) hb)
              have n1_ := Aside0.mk (blk_below (g := gb126) (by (with_reducible repeat (first | refine blk_drewN ?_ _ | refine blk_drew ?_ | refine blk_alloc ?_ _)); exact BK126.out) hb)
              have n2_ := Aside0.mk (below_step (by repeat (first | (with_reducible first | exact HB.out | apply below_alloc | apply pw_below_drewN | apply below_drew1 | refine below_set ?_ GE126.out) | exact HB.out)) hb)
              clear HO_3
              clear BK126
              clear HB
              have HO_3 := n0_
              have BK126 := n1_
              have HB := n2_
              clear n0_ n1_ n2_
              (try clear hb)
              (try clear hb2)
              (try clear hk)
              (try clear hi)
              refine hK.out _ _ ⟨(blk_cell BK126.out 0).trans rfl, (blk_cell BK126.out 1).trans rfl, (blk_cell BK126.out 2).trans rfl, (blk_cell BK126.out 3).trans rfl, (blk_cell BK126.out 4).trans rfl, (blk_cell BK126.out 5).trans rfl, (blk_cell BK126.out 6).trans rfl, ((HB.out.cell (World.block_lt_of_cell? w _ hw130_0)).trans hw130_0), ((HB.out.cell (World.block_lt_of_cell? w _ hw130_1)).trans hw130_1), ((HB.out.cell (World.block_lt_of_cell? w _ hw130_2)).trans hw130_2), ((HB.out.cell (World.block_lt_of_cell? w _ hw130_3)).trans hw130_3), ((HB.out.cell (World.block_lt_of_cell? w _ hw130_4)).trans hw130_4), ((HB.out.cell (World.block_lt_of_cell? w _ hw130_5)).trans hw130_5), ((HB.out.cell (World.block_lt_of_cell? w _ hw130_6)).trans hw130_6), ((HB.out.cell (World.block_lt_of_cell? w _ hw130_7)).trans hw130_7), ((HB.out.cell (World.block_lt_of_cell? w _ hw131_0)).trans hw131_0), ((HB.out.cell (World.block_lt_of_cell? w _ hw131_1)).trans hw131_1), ((HB.out.cell (World.block_lt_of_cell? w _ hw131_2)).trans hw131_2), ((HB.out.cell (World.block_lt_of_cell? w _ hw131_3)).trans hw131_3), ((HB.out.cell (World.block_lt_of_cell? w _ hw131_4)).trans hw131_4), ((HB.out.cell (World.block_lt_of_cell? w _ hw131_5)).trans hw131_5), ((HB.out.cell (World.block_lt_of_cell? w _ hw131_6)).trans hw131_6), ((HB.out.cell (World.block_lt_of_cell? w _ hw131_7)).trans hw131_7)⟩ (fun hHeld => ?_)
              clear hK K
              refine norm_ (a' := ?_) ?_ ?_
              rotate_left
              ·show Act.put _ (some 30) _ = _
               simp only [Act.put, List.setIfInBounds_toArray, List.set_cons_zero, List.set_cons_succ, i64_w, i32_w]
               rfl
              refine done_ (done_of HT_.out (by kernel_rfl)) ?_
              try go_wp2
              go_roundg k2
              case measure => have := HK1.out; have := HK2.out; omega
              case rel => exact ⟨(x3_2), (wrap64 (x17_2 + 1)), (by first | rfl | (simp; done) | (simp [*]; done)), H', ⟨by have := HK1.out; have := HK2.out; omega⟩, ⟨by (with_reducible repeat (first | apply Kd.S_alloc | apply Kd.S_drewN | apply Kd.S_drew)); exact HO_3.out⟩, ⟨by (with_reducible repeat (first | refine blk_drewN ?_ _ | refine blk_drew ?_ | refine blk_alloc ?_ _)); exact BK126.out⟩, ⟨by repeat (first | (with_reducible first | exact HB.out | apply below_alloc | apply pw_below_drewN | apply below_drew1 | refine below_set ?_ GE126.out) | exact HB.out)⟩⟩
            ·rw [if_neg c14] at H
             exact absurd H (by simp)
           ·rw [if_neg c13] at H
            exact absurd H (by simp)
          ·rw [if_neg c12] at H
           exact absurd H (by simp)
         ·rw [if_neg c11] at H
          exact absurd H (by simp)
        ·rw [if_neg c10] at H
         have c10b0 : decide (x17_2 < x13_1) = false := decide_eq_false c10
         clear c10
         have H' := Aside0.mk H
         clear H
         go_wp2
         go_roundg k2
         case measure => have := HK1.out; have := HK2.out; omega
         case rel => exact ⟨(x3_2), (wrap64 (x13_1 + 1)), (by first | rfl | (simp; done) | (simp [*]; done)), H', ⟨by have := HK1.out; have := HK2.out; omega⟩, ⟨by (with_reducible repeat (first | apply Kd.S_alloc | apply Kd.S_drewN | apply Kd.S_drew)); exact HO_3.out⟩, ⟨by (with_reducible repeat (first | refine blk_drewN ?_ _ | refine blk_drew ?_ | refine blk_alloc ?_ _)); exact BK126.out⟩, ⟨by repeat (first | (with_reducible first | exact HB.out | apply below_alloc | apply pw_below_drewN | apply below_drew1 | refine below_set ?_ GE126.out) | exact HB.out)⟩⟩
     ·rw [if_neg c9] at H
      have c9b0 : decide (x13_1 < (l0_1.length : Int)) = false := decide_eq_false c9
      clear c9
      obtain rfl := Option.some.inj H
      go_wp2
      go_ret
      exact ⟨_, by first | rfl | (simp [errW_none, errW_some] <;> rfl) | (simp [*, errW_none, errW_some] <;> rfl), by (with_reducible repeat (first | apply Kd.S_alloc | apply Kd.S_drewN | apply Kd.S_drew)); exact HO_3.out, by repeat (first | (with_reducible first | exact HB.out | apply below_alloc | apply pw_below_drewN | apply below_drew1 | refine below_set ?_ GE126.out) | exact HB.out)⟩
  ·rw [if_neg c3] at H
   exact absurd H (by simp)
 ·rw [if_neg c2] at H
  exact absurd H (by simp)
end Go.Proofs.YtjacphcbiaacnaaDoor.PDigraphTells
end

section
namespace Go.Proofs.YtjacphcbiaacnaaDoor.PDigraphTells
open Go.RowKit Go.Proofs.YtjacphcbiaacnaaDoorW.PrintWords Go.Proofs.YtjacphcbiaacnaaDoorW.PrintLast Go.Proofs.YtjacphcbiaacnaaDoorW.PrintMore
attribute [local go_sem] max2_int min2_int max_two min_two max_three min_three max_four min_four
set_option linter.unusedVariables false
set_option linter.unusedSimpArgs false
def machine_Latency.f (a0_0 : Int) (a0_1 : Int) (l0_2 : List Int) (a1 : Int) : Option (Int) := if a1 < 0 then (some 1) else (if a1 ≥ (l0_2.length : Int) then (some 1) else (if 0 ≤ a1 then (if a1 < (l0_2.length : Int) then (some (rd l0_2 a1)) else (none)) else (none)))
set_option maxHeartbeats 8000000 in
set_option maxRecDepth 100000 in
theorem machine_Latency.calls (a0_0 : Int) (a0_1 : Int) (A0_2 : Option Addr) (c0_2 : Nat) (l0_2 : List Int) (a1 : Int) (r : Int) (w : World) (hr0_2 : Kd.C (Kd.int .i64) w A0_2 l0_2.length l0_2) (hc0_2 : l0_2.length ≤ c0_2) (h : machine_Latency.f a0_0 a0_1 l0_2 a1 = some r) :
  Calls Tryd.prog 20 #[.agg #[.int .i64 a0_0, .int .i64 a0_1, .slice A0_2 l0_2.length c0_2], .int .i64 a1] w fun e w' => e = .returned (.int .i64 r) ∧ Below w.heap.size w w' := by
 have hu24 := Tryd.underlying24
 have HR0_2 := Aside0.mk hr0_2
 have HC0_2 := Aside0.mk hc0_2
 clear hr0_2 hc0_2
 have HB := Aside0.mk (Below.refl w.heap.size w)
 have H : (if a1 < 0 then (some 1) else (if a1 ≥ (l0_2.length : Int) then (some 1) else (if 0 ≤ a1 then (if a1 < (l0_2.length : Int) then (some (rd l0_2 a1)) else (none)) else (none)))) = some r := h
 clear h
 by_cases c3 : a1 < 0
 ·rw [if_pos c3] at H
  have c3b0 : decide (a1 < 0) = true := decide_eq_true c3
  clear c3
  obtain rfl := Option.some.inj H
  go_enter Tryd.func20, Tryd.ntmps20
  go_wp2_with (first | ((with_reducible refine gate_dst (N := 2) rfl ?_); (try (refine gate_guard (by rfl) ?_; dsimp only)); refine box_event ?hg (N := 2) ?hd (cs := #[.int .i64 a0_0, .int .i64 a0_1, .slice A0_2 l0_2.length c0_2]) (t := 24) ?hr ?_; (case hd => rfl); (case hg => rfl); (case hr => first | (go_simp; done) | (go_simp; rfl)); intro gb138 hg w4 hbox hb; have n0_ := Aside0.mk (below_step (by repeat (first | (with_reducible first | exact HB.out | apply below_alloc | apply pw_below_drewN | apply below_drew1) | exact HB.out)) hb); have n1_ := Aside0.mk (hbox); have n2_ := Aside0.mk ((by rw [hg]; exact (below_size (by repeat (first | (with_reducible first | exact HB.out | apply below_alloc | apply pw_below_drewN | apply below_drew1) | exact HB.out))) : w.heap.size ≤ gb138)); have n3_ := Aside0.mk ((by rw [hg]; exact (below_size (by repeat (first | (with_reducible first | exact HB.out | apply below_alloc | apply pw_below_drewN | apply below_drew1) | exact HB.out))) : w.heap.size ≤ gb138)); clear HB; have HB := n0_; have BK138 := n1_; have GW138 := n2_; have GE138 := n3_; clear n0_ n1_ n2_ n3_; clear hb hbox hg))
  go_ret
  exact ⟨by first | rfl | (simp [errW_none, errW_some] <;> rfl) | (simp [*, errW_none, errW_some] <;> rfl), by repeat (first | (with_reducible first | exact HB.out | apply below_alloc | apply pw_below_drewN | apply below_drew1 | refine below_set ?_ GE138.out) | exact HB.out)⟩
 ·rw [if_neg c3] at H
  have c3b0 : decide (a1 < 0) = false := decide_eq_false c3
  clear c3
  by_cases c5 : a1 ≥ (l0_2.length : Int)
  ·rw [if_pos c5] at H
   have c5b0 : decide ((l0_2.length : Int) ≤ a1) = true := decide_eq_true c5
   clear c5
   obtain rfl := Option.some.inj H
   go_enter Tryd.func20, Tryd.ntmps20
   go_wp2_with (first | ((with_reducible refine gate_dst (N := 2) rfl ?_); (try (refine gate_guard (by rfl) ?_; dsimp only)); refine box_event ?hg (N := 2) ?hd (cs := #[.int .i64 a0_0, .int .i64 a0_1, .slice A0_2 l0_2.length c0_2]) (t := 24) ?hr ?_; (case hd => rfl); (case hg => rfl); (case hr => first | (go_simp; done) | (go_simp; rfl)); intro gb138 hg w6 hbox hb; have n0_ := Aside0.mk (below_step (by repeat (first | (with_reducible first | exact HB.out | apply below_alloc | apply pw_below_drewN | apply below_drew1) | exact HB.out)) hb); have n1_ := Aside0.mk (hbox); have n2_ := Aside0.mk ((by rw [hg]; exact (below_size (by repeat (first | (with_reducible first | exact HB.out | apply below_alloc | apply pw_below_drewN | apply below_drew1) | exact HB.out))) : w.heap.size ≤ gb138)); have n3_ := Aside0.mk ((by rw [hg]; exact (below_size (by repeat (first | (with_reducible first | exact HB.out | apply below_alloc | apply pw_below_drewN | apply below_drew1) | exact HB.out))) : w.heap.size ≤ gb138)); clear HB; have HB := n0_; have BK138 := n1_; have GW138 := n2_; have GE138 := n3_; clear n0_ n1_ n2_ n3_; clear hb hbox hg; obtain ⟨hcz7_0, hcz7_1, hcz7_2⟩ := cz3 BK138.out; obtain ⟨hfz7_0, hfz7_1, hfz7_2⟩ := fz3 BK138.out))
   go_ret
   exact ⟨by first | rfl | (simp [errW_none, errW_some] <;> rfl) | (simp [*, errW_none, errW_some] <;> rfl), by repeat (first | (with_reducible first | exact HB.out | apply below_alloc | apply pw_below_drewN | apply below_drew1 | refine below_set ?_ GE138.out) | exact HB.out)⟩
  ·rw [if_neg c5] at H
   have c5b0 : decide ((l0_2.length : Int) ≤ a1) = false := decide_eq_false c5
   clear c5
   by_cases c8 : 0 ≤ a1
   ·rw [if_pos c8] at H
    have c8b0 : decide (0 ≤ a1) = true := decide_eq_true c8
    clear c8
    by_cases c9 : a1 < (l0_2.length : Int)
    ·rw [if_pos c9] at H
     have c9b0 : decide (a1 < (l0_2.length : Int)) = true := decide_eq_true c9
     clear c9
     obtain rfl := Option.some.inj H
     go_enter Tryd.func20, Tryd.ntmps20
     go_wp2_with (first | ((with_reducible refine gate_dst (N := 2) rfl ?_); (try (refine gate_guard (by rfl) ?_; dsimp only)); refine box_event ?hg (N := 2) ?hd (cs := #[.int .i64 a0_0, .int .i64 a0_1, .slice A0_2 l0_2.length c0_2]) (t := 24) ?hr ?_; (case hd => rfl); (case hg => rfl); (case hr => first | (go_simp; done) | (go_simp; rfl)); intro gb138 hg w10 hbox hb; have n0_ := Aside0.mk (below_step (by repeat (first | (with_reducible first | exact HB.out | apply below_alloc | apply pw_below_drewN | apply below_drew1) | exact HB.out)) hb); have n1_ := Aside0.mk (hbox); have n2_ := Aside0.mk ((by rw [hg]; exact (below_size (by repeat (first | (with_reducible first | exact HB.out | apply below_alloc | apply pw_below_drewN | apply below_drew1) | exact HB.out))) : w.heap.size ≤ gb138)); have n3_ := Aside0.mk ((by rw [hg]; exact (below_size (by repeat (first | (with_reducible first | exact HB.out | apply below_alloc | apply pw_below_drewN | apply below_drew1) | exact HB.out))) : w.heap.size ≤ gb138)); clear HB; have HB := n0_; have BK138 := n1_; have GW138 := n2_; have GE138 := n3_; clear n0_ n1_ n2_ n3_; clear hb hbox hg; obtain ⟨hcz11_0, hcz11_1, hcz11_2⟩ := cz3 BK138.out; obtain ⟨hfz11_0, hfz11_1, hfz11_2⟩ := fz3 BK138.out; have p139 : 0 ≤ (a1 : Int) := of_decide_eq_true (by first | (with_reducible assumption) | assumption); have q139 : a1 < (l0_2.length : Int) := of_decide_eq_true (by first | (with_reducible assumption) | assumption); obtain ⟨ad139, e139, hx139_0⟩ := Kd.at_int HR0_2.out a1 p139 q139; cases e139; replace hx139_0 := (HB.out.cell (World.block_lt_of_cell? w _ hx139_0)).trans hx139_0; replace p139 := eq_true p139; replace q139 := eq_true q139))
     go_ret
     exact ⟨by first | rfl | (simp [errW_none, errW_some] <;> rfl) | (simp [*, errW_none, errW_some] <;> rfl), by repeat (first | (with_reducible first | exact HB.out | apply below_alloc | apply pw_below_drewN | apply below_drew1 | refine below_set ?_ GE138.out) | exact HB.out)⟩
    ·rw [if_neg c9] at H
     exact absurd H (by simp)
   ·rw [if_neg c8] at H
    exact absurd H (by simp)
end Go.Proofs.YtjacphcbiaacnaaDoor.PDigraphTells
end

section
set_option linter.unusedVariables false
set_option linter.unusedSimpArgs false
set_option linter.unusedSectionVars false
namespace Go.Proofs.YtjacphcbiaacnaaDoor
open Go.RowKit Go.Proofs.YtjacphcbiaacnaaDoorW.PrintWords Go.Proofs.YtjacphcbiaacnaaDoor.PDigraphTells
theorem index_l0 (l : List Int) (x : Int) (hl : l.length < 1000000000) : ∀ (d i : Nat), i + d = l.length → ∃ r, Ev (fun q => slices_Index_int_int.l0 q l x (l.length : Int) (i : Int)) r ∧ (0 ≤ r ↔ x ∈ l.drop i) := by
 intro d
 induction d with
 | zero =>
  intro i hi
  refine ⟨-1, Ev.fix fun q => ?_, ?_⟩
  ·rw [slices_Index_int_int.l0, if_neg (by omega)]
  ·rw [List.drop_of_length_le (by omega)]; simp
 | succ d ih =>
  intro i hi
  have hlt : i < l.length := by omega
  rw [List.drop_eq_getElem_cons hlt]
  by_cases e : x = l[i]
  ·refine ⟨(i : Int), Ev.fix fun q => ?_, ?_⟩
   ·rw [slices_Index_int_int.l0, if_pos (by omega), if_pos (by omega), if_pos (by omega), rd_get l i hlt, if_pos e]
   ·exact ⟨fun _ => by rw [e]; exact List.mem_cons_self, fun _ => by omega⟩
  ·obtain ⟨r, h1, h2⟩ := ih (i + 1) (by omega)
   refine ⟨r, Ev.suc (fun q => ?_) h1, ?_⟩
   ·show slices_Index_int_int.l0 (q + 1) _ _ _ _ = _
    rw [slices_Index_int_int.l0, if_pos (by omega), if_pos (by omega), if_pos (by omega), rd_get l i hlt, if_neg e, w64 i (by omega)]
   ·rw [h2, List.mem_cons]; simp [e]
theorem contains_f (l : List Int) (x : Int) (hl : l.length < 1000000000) : Ev (fun q => slices_Contains_int_int.f q l x) (decide (x ∈ l)) := by
 obtain ⟨r, h1, h2⟩ := index_l0 l x hl l.length 0 (Nat.zero_add _)
 rw [List.drop_zero] at h2
 have h3 : Ev (fun q => (slices_Index_int_int.f q l x).bind fun t110 => (some (decide (t110 ≥ 0)))) (decide (r ≥ 0)) := Ev.bind (G := fun _ t110 => some (decide (t110 ≥ 0))) h1 (Ev.ret _)
 rw [show decide (x ∈ l) = decide (r ≥ 0) from decide_eq_decide.2 h2.symm]
 exact h3
theorem rin_l0 (l : List Int) (x : Int) (hl : l.length < 1000000000) : ∀ (d i : Nat), i + d = l.length → Ev (fun q => burnishref52_in.l0 q x l (l.length : Int) (i : Int)) (decide (x ∈ l.drop i)) := by
 intro d
 induction d with
 | zero =>
  intro i hi
  rw [List.drop_of_length_le (by omega)]
  exact Ev.fix fun q => by rw [burnishref52_in.l0, if_neg (by omega)]; simp
 | succ d ih =>
  intro i hi
  have hlt : i < l.length := by omega
  rw [List.drop_eq_getElem_cons hlt]
  by_cases e : l[i] = x
  ·rw [decide_eq_true (by rw [e]; simp)]
   exact Ev.fix fun q => by rw [burnishref52_in.l0, if_pos (by omega), if_pos (by omega), if_pos (by omega), rd_get l i hlt, if_pos e]
  ·rw [show decide (x ∈ l[i] :: l.drop (i + 1)) = decide (x ∈ l.drop (i + 1)) from decide_eq_decide.2 (by rw [List.mem_cons]; exact ⟨fun h => h.resolve_left (fun h => e h.symm), .inr⟩)]
   refine Ev.suc (fun q => ?_) (ih (i + 1) (by omega))
   show burnishref52_in.l0 (q + 1) _ _ _ _ = _
   rw [burnishref52_in.l0, if_pos (by omega), if_pos (by omega), if_pos (by omega), rd_get l i hlt, if_neg e, w64 i (by omega)]
theorem rin_f (l : List Int) (x : Int) (hl : l.length < 1000000000) : Ev (fun q => burnishref52_in.f q l x) (decide (x ∈ l)) := by
 have := rin_l0 l x hl l.length 0 (Nat.zero_add _)
 rwa [List.drop_zero] at this
def usB (k i : S48) : Bool := decide (0 ≤ i.f2) && decide (i.f2 ∈ k.f3)
def memB (o : Int) : Bool := o == 29 || o == 30 || o == 28
def wrB (o : Int) : Bool := o == 29 || o == 30
def slB (o : Int) : Bool := o == 40 || o == 41
def ordB (o : Int) : Bool := memB o || o == 14 || o == 15 || o == 26 || o == 31
def depB (k i : S48) : Bool := usB k i || (decide (0 ≤ k.f2) && (k.f2 == i.f2 || decide (k.f2 ∈ i.f3))) || (memB k.f0 && memB i.f0 && (wrB k.f0 || wrB i.f0)) || (slB k.f0 && slB i.f0 && k.f4 == i.f4 && (k.f0 == 40 || i.f0 == 40)) || (ordB k.f0 && ordB i.f0)
theorem isMem_f (o : Int) : sched_isMemory.f o = some (memB o, wrB o) := by
 unfold sched_isMemory.f memB wrB
 by_cases h1 : o = 29
 ·subst h1; rfl
 ·by_cases h2 : o = 30
  ·subst h2; rfl
  ·simp [h1, h2]
theorem isMove_f (o : Int) : sched_isMove.f o = some (slB o) := by
 unfold sched_isMove.f slB
 by_cases h1 : o = 40
 ·subst h1; rfl
 ·simp [h1]
theorem isOrd_f (o : Int) : sched_isOrdered.f o = some (ordB o) := by
 unfold sched_isOrdered.f ordB memB
 by_cases h1 : o = 14
 ·subst h1; rfl
 by_cases h2 : o = 15
 ·subst h2; rfl
 by_cases h3 : o = 26
 ·subst h3; rfl
 by_cases h4 : o = 28
 ·subst h4; rfl
 by_cases h5 : o = 29
 ·subst h5; rfl
 by_cases h6 : o = 30
 ·subst h6; rfl
 by_cases h7 : o = 31
 ·subst h7; rfl
 simp [h1, h2, h3, h4, h5, h6, h7]
section
variable (a0 a1 a2 : Int) (L : List Int) (a4 a5 a6 : Int) (a7 : Bool) (b0 b1 b2 : Int) (M : List Int) (b4 b5 b6 : Int) (b7 : Bool)
theorem rmem_f : burnishref52_memory.f a0 a1 a2 L a4 a5 a6 a7 = some (memB a0) := by
 unfold burnishref52_memory.f memB
 by_cases h1 : a0 = 28
 ·subst h1; rfl
 by_cases h2 : a0 = 29
 ·subst h2; rfl
 rw [if_neg h1, if_neg h2, show (a0 == 29) = false by simp [h2], show (a0 == 28) = false by simp [h1]]
 simp
theorem rslot_f : burnishref52_slot.f a0 a1 a2 L a4 a5 a6 a7 = some (slB a0) := by
 unfold burnishref52_slot.f slB
 by_cases h1 : a0 = 40
 ·subst h1; rfl
 simp [h1]
theorem rord_f : burnishref52_ordered.f a0 a1 a2 L a4 a5 a6 a7 = some (ordB a0) := by
 unfold burnishref52_ordered.f ordB
 rw [rmem_f, Option.bind_some]
 cases memB a0 with
 | true => rfl
 | false =>
  rw [if_neg (by simp)]
  by_cases h2 : a0 = 14
  ·subst h2; rfl
  by_cases h3 : a0 = 15
  ·subst h3; rfl
  by_cases h4 : a0 = 26
  ·subst h4; rfl
  simp [h2, h3, h4]
variable (hL : L.length < 1000000000) (hM : M.length < 1000000000)
theorem uses_f (hL : L.length < 1000000000) : Ev (fun q => sched_uses.f q a0 a1 a2 L a4 a5 a6 a7 b0 b1 b2 M b4 b5 b6 b7) (usB ⟨a0, a1, a2, L, a4, a5, a6, a7⟩ ⟨b0, b1, b2, M, b4, b5, b6, b7⟩) := by
 unfold sched_uses.f usB
 by_cases h : b2 ≥ 0
 ·rw [decide_eq_true h, Bool.true_and]
  exact Ev.of (fun q => by rw [if_pos h]) (Ev.bind (G := fun _ t => some t) (contains_f L b2 hL) (Ev.ret _))
 ·rw [decide_eq_false h, Bool.false_and]
  exact Ev.of (fun q => by rw [if_neg h]) (Ev.ret _)
theorem ruses_f (hL : L.length < 1000000000) : Ev (fun q => burnishref52_uses.f q a0 a1 a2 L a4 a5 a6 a7 b0 b1 b2 M b4 b5 b6 b7) (usB ⟨a0, a1, a2, L, a4, a5, a6, a7⟩ ⟨b0, b1, b2, M, b4, b5, b6, b7⟩) := by
 unfold burnishref52_uses.f usB
 by_cases h : b2 ≥ 0
 ·rw [decide_eq_true h, Bool.true_and]
  exact Ev.of (fun q => by rw [if_pos h]) (Ev.bind (G := fun _ t => some t) (rin_f L b2 hL) (Ev.ret _))
 ·rw [decide_eq_false h, Bool.false_and]
  exact Ev.of (fun q => by rw [if_neg h]) (Ev.ret _)
theorem dep_j2 (x : Bool) : Ev (fun q => sched_depends.j2 q x a0 a1 a2 L a4 a5 a6 a7 b0 b1 b2 M b4 b5 b6 b7) (x || (ordB a0 && ordB b0)) := by
 refine Ev.fix fun q => ?_
 rw [sched_depends.j2, isOrd_f, isOrd_f]
 cases x <;> cases ordB a0 <;> cases ordB b0 <;> rfl
theorem dep_j1 (x : Bool) : Ev (fun q => sched_depends.j1 q x a0 a1 a2 L a4 a5 a6 a7 b0 b1 b2 M b4 b5 b6 b7) (x || (slB a0 && slB b0 && a4 == b4 && (a0 == 40 || b0 == 40)) || (ordB a0 && ordB b0)) := by
 cases x with
 | true => exact Ev.fix fun q => by rw [sched_depends.j1, if_pos rfl]; simp
 | false =>
  have h := dep_j2 a0 a1 a2 L a4 a5 a6 a7 b0 b1 b2 M b4 b5 b6 b7
  refine Ev.suc (fun q => ?_) (h (slB a0 && slB b0 && a4 == b4 && (a0 == 40 || b0 == 40)))
  show sched_depends.j1 (q + 1) _ _ _ _ _ _ _ _ _ _ _ _ _ _ _ _ _ = _
  rw [sched_depends.j1, if_neg (by simp), isMove_f, isMove_f]
  cases slB a0 with
  | false => rfl
  | true =>
   cases slB b0 with
   | false => rfl
   | true =>
    by_cases h1 : a4 = b4
    ·by_cases h2 : a0 = 40
     ·simp [h1, h2]
     ·have e2 : (a0 == 40) = false := by simp [h2]
      simp [h1, h2, e2]
    ·have e1 : (a4 == b4) = false := by simp [h1]
     simp [h1, e1]
theorem dep_j0 (x : Bool) : Ev (fun q => sched_depends.j0 q x a0 a1 a2 L a4 a5 a6 a7 b0 b1 b2 M b4 b5 b6 b7) (x || (memB a0 && memB b0 && (wrB a0 || wrB b0)) || (slB a0 && slB b0 && a4 == b4 && (a0 == 40 || b0 == 40)) || (ordB a0 && ordB b0)) := by
 cases x with
 | true => exact Ev.fix fun q => by rw [sched_depends.j0, if_pos rfl]; simp
 | false =>
  have h := dep_j1 a0 a1 a2 L a4 a5 a6 a7 b0 b1 b2 M b4 b5 b6 b7
  refine Ev.suc (fun q => ?_) (h (memB a0 && memB b0 && (wrB a0 || wrB b0)))
  show sched_depends.j0 (q + 1) _ _ _ _ _ _ _ _ _ _ _ _ _ _ _ _ _ = _
  rw [sched_depends.j0, if_neg (by simp), isMem_f, isMem_f]
  cases memB a0 <;> cases memB b0 <;> cases wrB a0 <;> simp
theorem rdep_j2 (x : Bool) : Ev (fun q => burnishref52_depends.j2 q x a0 a1 a2 L a4 a5 a6 a7 b0 b1 b2 M b4 b5 b6 b7) (x || (ordB a0 && ordB b0)) := by
 refine Ev.fix fun q => ?_
 rw [burnishref52_depends.j2, rord_f, rord_f]
 cases x <;> cases ordB a0 <;> cases ordB b0 <;> rfl
theorem rdep_j1 (x : Bool) : Ev (fun q => burnishref52_depends.j1 q x a0 a1 a2 L a4 a5 a6 a7 b0 b1 b2 M b4 b5 b6 b7) (x || (slB a0 && slB b0 && a4 == b4 && (a0 == 40 || b0 == 40)) || (ordB a0 && ordB b0)) := by
 cases x with
 | true => exact Ev.fix fun q => by rw [burnishref52_depends.j1, if_pos rfl]; simp
 | false =>
  have h := rdep_j2 a0 a1 a2 L a4 a5 a6 a7 b0 b1 b2 M b4 b5 b6 b7
  refine Ev.suc (fun q => ?_) (h (slB a0 && slB b0 && a4 == b4 && (a0 == 40 || b0 == 40)))
  show burnishref52_depends.j1 (q + 1) _ _ _ _ _ _ _ _ _ _ _ _ _ _ _ _ _ = _
  rw [burnishref52_depends.j1, if_neg (by simp), rslot_f, rslot_f]
  cases slB a0 with
  | false => rfl
  | true =>
   cases slB b0 with
   | false => rfl
   | true =>
    by_cases h1 : a4 = b4
    ·by_cases h2 : a0 = 40
     ·simp [h1, h2]
     ·have e2 : (a0 == 40) = false := by simp [h2]
      simp [h1, h2, e2]
    ·have e1 : (a4 == b4) = false := by simp [h1]
     simp [h1, e1]
theorem mem_wr (o : Int) (h : memB o = true) : (o != 28) = wrB o := by
 unfold memB at h
 unfold wrB
 by_cases h1 : o = 28
 ·subst h1; rfl
 ·by_cases h2 : o = 29
  ·subst h2; rfl
  ·by_cases h3 : o = 30
   ·subst h3; rfl
   ·simp [h1, h2, h3] at h
theorem rdep_j0 (x : Bool) : Ev (fun q => burnishref52_depends.j0 q x a0 a1 a2 L a4 a5 a6 a7 b0 b1 b2 M b4 b5 b6 b7) (x || (memB a0 && memB b0 && (wrB a0 || wrB b0)) || (slB a0 && slB b0 && a4 == b4 && (a0 == 40 || b0 == 40)) || (ordB a0 && ordB b0)) := by
 cases x with
 | true => exact Ev.fix fun q => by rw [burnishref52_depends.j0, if_pos rfl]; simp
 | false =>
  have h := rdep_j1 a0 a1 a2 L a4 a5 a6 a7 b0 b1 b2 M b4 b5 b6 b7
  refine Ev.suc (fun q => ?_) (h (memB a0 && memB b0 && (wrB a0 || wrB b0)))
  show burnishref52_depends.j0 (q + 1) _ _ _ _ _ _ _ _ _ _ _ _ _ _ _ _ _ = _
  rw [burnishref52_depends.j0, if_neg (by simp), rmem_f, rmem_f]
  cases h1 : memB a0 with
  | false => simp
  | true =>
   cases h2 : memB b0 with
   | false => simp
   | true =>
    have e1 := mem_wr a0 h1
    have e2 := mem_wr b0 h2
    by_cases h3 : a0 = 28
    ·have e3 : wrB a0 = false := by rw [h3]; rfl
     simp only [Option.bind_some, if_pos, if_pos h3, e2, e3, Bool.true_and, Bool.false_or]
    ·have e3 : wrB a0 = true := by rw [← e1]; simp [h3]
     simp only [Option.bind_some, if_pos, if_neg h3, e3, Bool.true_and, Bool.true_or]
theorem dep_f (hL : L.length < 1000000000) (hM : M.length < 1000000000) : Ev (fun q => sched_depends.f q a0 a1 a2 L a4 a5 a6 a7 b0 b1 b2 M b4 b5 b6 b7) (depB ⟨a0, a1, a2, L, a4, a5, a6, a7⟩ ⟨b0, b1, b2, M, b4, b5, b6, b7⟩) := by
 unfold sched_depends.f depB
 have hj := dep_j0 a0 a1 a2 L a4 a5 a6 a7 b0 b1 b2 M b4 b5 b6 b7
 refine Ev.bind (uses_f a0 a1 a2 L a4 a5 a6 a7 b0 b1 b2 M b4 b5 b6 b7 hL) ?_
 cases usB ⟨a0, a1, a2, L, a4, a5, a6, a7⟩ ⟨b0, b1, b2, M, b4, b5, b6, b7⟩ with
 | true => exact Ev.of (fun q => by rw [if_pos rfl]) (hj true)
 | false =>
  by_cases h1 : a2 ≥ 0
  ·by_cases h2 : a2 = b2
   ·refine Ev.of (fun q => by rw [if_neg (by simp), if_pos h1, if_pos h2]) ?_
    rw [show (false || (decide (0 ≤ a2) && (a2 == b2 || decide (a2 ∈ M)))) = true by rw [decide_eq_true h1, show (a2 == b2) = true by simp [h2]]; rfl]
    exact hj true
   ·refine Ev.of (fun q => by rw [if_neg (by simp), if_pos h1, if_neg h2]) (Ev.bind (contains_f M a2 hM) ?_)
    have := hj (decide (a2 ∈ M))
    simp only [Bool.false_or, decide_eq_true h1, Bool.true_and, show (a2 == b2) = false by simp [h2]]
    exact this
  ·refine Ev.of (fun q => by rw [if_neg (by simp), if_neg h1]) ?_
   have := hj false
   simp only [Bool.false_or, decide_eq_false h1, Bool.false_and]
   simpa using this
theorem rdep_f (hL : L.length < 1000000000) (hM : M.length < 1000000000) : Ev (fun q => burnishref52_depends.f q a0 a1 a2 L a4 a5 a6 a7 b0 b1 b2 M b4 b5 b6 b7) (depB ⟨a0, a1, a2, L, a4, a5, a6, a7⟩ ⟨b0, b1, b2, M, b4, b5, b6, b7⟩) := by
 unfold burnishref52_depends.f depB
 have hj := rdep_j0 a0 a1 a2 L a4 a5 a6 a7 b0 b1 b2 M b4 b5 b6 b7
 refine Ev.bind (ruses_f a0 a1 a2 L a4 a5 a6 a7 b0 b1 b2 M b4 b5 b6 b7 hL) ?_
 cases usB ⟨a0, a1, a2, L, a4, a5, a6, a7⟩ ⟨b0, b1, b2, M, b4, b5, b6, b7⟩ with
 | true => exact Ev.of (fun q => by rw [if_pos rfl]) (hj true)
 | false =>
  by_cases h1 : a2 ≥ 0
  ·by_cases h2 : a2 = b2
   ·refine Ev.of (fun q => by rw [if_neg (by simp), if_pos h1, if_pos h2]) ?_
    rw [show (false || (decide (0 ≤ a2) && (a2 == b2 || decide (a2 ∈ M)))) = true by rw [decide_eq_true h1, show (a2 == b2) = true by simp [h2]]; rfl]
    exact hj true
   ·refine Ev.of (fun q => by rw [if_neg (by simp), if_pos h1, if_neg h2]) (Ev.bind (rin_f M a2 hM) ?_)
    have := hj (decide (a2 ∈ M))
    simp only [Bool.false_or, decide_eq_true h1, Bool.true_and, show (a2 == b2) = false by simp [h2]]
    exact this
  ·refine Ev.of (fun q => by rw [if_neg (by simp), if_neg h1]) ?_
   have := hj false
   simp only [Bool.false_or, decide_eq_false h1, Bool.false_and]
   simpa using this
end
end Go.Proofs.YtjacphcbiaacnaaDoor
end

