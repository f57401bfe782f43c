import Derived.WalkSmall
import Derived.StillTail
import Derived.Deep.Draws
import Derived.Test.YtmlikgmcekofbaaMCom6
section
/- The printed function burnishref07_ready. -/
namespace Go.Proofs.Ytmlikgmcekofbaa.PDigraphTells
open Go.RowKit Go.Proofs.YtmlikgmcekofbaaW.PrintWords Go.Proofs.YtmlikgmcekofbaaW.PrintLast Go.Proofs.YtmlikgmcekofbaaW.PrintMore
attribute [local go_sem] max2_int min2_int max_two min_two max_three min_three max_four min_four   -- for this text's walks alone
set_option linter.unusedVariables false
set_option linter.unusedSimpArgs false

/-! ### burnishref07_ready: function 23 -/
mutual
def burnishref07_ready.l0 : Nat → List (List Bool) → List Int → List Bool → List Bool → List Int → Int → Int → Option (Bool)
  | 0, _, _, _, _, _, _, _ => none
  | k + 1, x0, x1, x2, x7, x16, x17, x18 => if x18 < x17 then (if 0 ≤ x18 then (if x18 < (x16.length : Int) then (if 0 ≤ (rd x16 x18) then (if (rd x16 x18) < (x7.length : Int) then (burnishref07_ready.l0 k x0 x1 x2 (x7.set ((rd x16 x18) : Int).toNat true) x16 x17 (wrap64 (x18 + 1))) else (none)) else (none)) else (none)) else (none)) else (burnishref07_ready.l1 k x0 x2 x7 x1 (x1.length : Int) 0)
def burnishref07_ready.l1 : Nat → List (List Bool) → List Bool → List Bool → List Int → Int → Int → Option (Bool)
  | 0, _, _, _, _, _, _ => none
  | k + 1, x0, x2, x7, x26, x27, x28 => if x28 < x27 then (if 0 ≤ x28 then (if x28 < (x26.length : Int) then (burnishref07_ready.l2 k x0 x2 x7 (rd x26 x28) 0 x26 x27 x28) else (none)) else (none)) else (some true)
def burnishref07_ready.l2 : Nat → List (List Bool) → List Bool → List Bool → Int → Int → List Int → Int → Int → Option (Bool)
  | 0, _, _, _, _, _, _, _, _ => none
  | k + 1, x0, x2, x7, x11, x12, x26, x27, x28 => if x12 < (x0.length : Int) then (if 0 ≤ x11 then (if x11 < (x0.length : Int) then (if 0 ≤ x12 then (if x12 < ((rd_L3 x0 x11).length : Int) then (if rdOf false (rd_L3 x0 x11) x12 = true then (if x12 < (x7.length : Int) then (if rdOf false x7 x12 = true then (burnishref07_ready.l2 k x0 x2 x7 x11 (wrap64 (x12 + 1)) x26 x27 x28) else (if x12 < (x2.length : Int) then (if rdOf false x2 x12 = true then (burnishref07_ready.l2 k x0 x2 x7 x11 (wrap64 (x12 + 1)) x26 x27 x28) else (some false)) else (none))) else (none)) else (burnishref07_ready.l2 k x0 x2 x7 x11 (wrap64 (x12 + 1)) x26 x27 x28)) else (none)) else (none)) else (none)) else (none)) else (burnishref07_ready.l1 k x0 x2 x7 x26 x27 (wrap64 (x28 + 1)))
end
def burnishref07_ready.f (k : Nat) (l0 : List (List Bool)) (l1 : List Int) (l2 : List Bool) : Option (Bool) := if 0 ≤ (l0.length : Int) then (if ((l0.length : Int) : Int).toNat ≤ 281474976710656 then (burnishref07_ready.l0 k l0 l1 l2 (List.replicate ((l0.length : Int) : Int).toNat false) l1 (l1.length : Int) 0) else (none)) else (none)
set_option maxHeartbeats 8000000 in
set_option maxRecDepth 100000 in
theorem burnishref07_ready.calls (k : Nat) (A0 : Option Addr) (c0 : Nat) (l0 : List (List Bool)) (A1 : Option Addr) (c1 : Nat) (l1 : List Int) (A2 : Option Addr) (c2 : Nat) (l2 : List Bool) (r : Bool) (w : World) (hr0 : Kd.C (Kd.slice 4 Kd.bool) w A0 l0.length l0) (hc0 : l0.length ≤ c0) (hr1 : Kd.C (Kd.int .i64) w A1 l1.length l1) (hc1 : l1.length ≤ c1) (hr2 : Kd.C Kd.bool w A2 l2.length l2) (hc2 : l2.length ≤ c2) (h : burnishref07_ready.f k l0 l1 l2 = some r) :
    Calls Try.prog 23 #[.slice A0 l0.length c0, .slice A1 l1.length c1, .slice A2 l2.length c2] w fun e w' => e = .returned (.bool r) ∧ Below w.heap.size w w' := by
  have HR0 := Aside0.mk hr0
  have HC0 := Aside0.mk hc0
  clear hr0 hc0
  have HR1 := Aside0.mk hr1
  have HC1 := Aside0.mk hc1
  clear hr1 hc1
  have HR2 := Aside0.mk hr2
  have HC2 := Aside0.mk hc2
  clear hr2 hc2
  have HB := Aside0.mk (Below.refl w.heap.size w)
  have H : (if 0 ≤ (l0.length : Int) then (if ((l0.length : Int) : Int).toNat ≤ 281474976710656 then (burnishref07_ready.l0 k l0 l1 l2 (List.replicate ((l0.length : Int) : Int).toNat false) l1 (l1.length : Int) 0) else (none)) else (none)) = some r := h
  clear h
  by_cases c4 : 0 ≤ (l0.length : Int)
  · rw [if_pos c4] at H
    have c4b0 := eq_true c4
    have c4b1 : decide (0 ≤ (l0.length : Int)) = true := decide_eq_true c4
    clear c4
    by_cases c5 : ((l0.length : Int) : Int).toNat ≤ 281474976710656
    · rw [if_pos c5] at H
      have c5b0 := eq_true c5
      have c5b1 : decide (((l0.length : Int) : Int).toNat ≤ 281474976710656) = true := decide_eq_true c5
      clear c5
      obtain ⟨y258, hy258⟩ : ∃ y_ : List Bool, y_ = (List.replicate ((l0.length : Int) : Int).toNat false) := ⟨_, rfl⟩
      replace H : (burnishref07_ready.l0 k l0 l1 l2 y258 l1 (l1.length : Int) 0) = some r := by first | (rw [hy258]; with_reducible exact H) | (have H2_ := (Option.bind_some _ _).symm.trans H; rw [hy258]; with_reducible exact H2_) | (have H2_ := (Option.bind_some _ _).symm.trans H; with_reducible exact H2_) | with_reducible exact H | (rw [hy258]; exact H) | exact H
      have Ny258 := Aside0.mk hy258
      clear hy258
      have H' := Aside0.mk H
      clear H
      go_enter Try.func23, Try.ntmps23
      go_wp2_with (first | ((with_reducible refine gate_dst (N := 15) rfl ?_); refine Kd.R_make Kd.bool _ 4 rfl (N := 15) rfl 32 _ _ rfl (l0.length : Int) rfl rfl Try.underlying32 (.bool false) 1 info4 rfl (by decide) (by omega) false (ok := fun _ => True) (okp := fun _ => True) rfl (fun _ hk => hk) trivial (of_decide_eq_true (by first | (with_reducible assumption) | assumption)) (Nat.le_trans (Nat.mul_le_mul_right _ (of_decide_eq_true (by first | (with_reducible assumption) | assumption) : (l0.length : Int).toNat ≤ 281474976710656)) (by omega)) (Below.refl _ _) (Nat.le_refl _) ?_; intro v259 w6 ho7 hb hg_ hnew_; clear hg_ hnew_; (first | rw [← Ny258.out] at ho7 | (simp only [Int.reduceToNat] at ho7; rw [← Ny258.out] at ho7)); have n0_ := Aside0.mk (Kd.R_lower ho7 (below_size (by repeat (first | (with_reducible first | exact HB.out | apply below_alloc | apply pw_below_drewN | apply below_drew1) | exact HB.out)))); have n1_ := Aside0.mk (below_step (by repeat (first | (with_reducible first | exact HB.out | apply below_alloc | apply pw_below_drewN | apply below_drew1) | exact HB.out)) hb); clear HB; have HO260 := n0_; have HB := n1_; clear n0_ n1_; clear hb ho7))
      go_loopg [18] k (fun kq v18 w' => ∃ (x7_1 : List Bool) (x18_1 : Int), v18 = .int .i64 x18_1 ∧ Aside0 (burnishref07_ready.l0 kq l0 l1 l2 x7_1 l1 (l1.length : Int) x18_1 = some r) ∧ Aside0 (kq ≤ k) ∧ Aside0 (Kd.R Kd.bool 4 w' w.heap.size (fun _ => True) v259 x7_1) ∧ Aside0 (Below w.heap.size w w'))
      case atStart => exact ⟨(y258), (0), (by first | rfl | (simp; done) | (simp [*]; done)), H', ⟨Nat.le_refl _⟩, ⟨by (with_reducible repeat (first | apply Kd.R_alloc | apply Kd.R_drewN | apply Kd.R_drew)); exact HO260.out⟩, ⟨by repeat (first | (with_reducible first | exact HB.out | apply below_alloc | apply pw_below_drewN | apply below_drew1) | exact HB.out)⟩⟩
      case round =>
        clear H'
        try clear c1
        try clear c2
        try clear p2
        try clear c4
        try clear c4b0
        try clear c4b1
        try clear c5
        try clear c5b0
        try clear c5b1
        obtain ⟨x7_1, x18_1, rfl, HA, HK1, HO_7, HB⟩ := hrel
        cases gk with
        | zero => exact absurd HA.out (by simp [burnishref07_ready.l0])
        | succ k1 =>
          have H := HA.out
          clear HA
          simp only [burnishref07_ready.l0] at H
          by_cases c8 : x18_1 < (l1.length : Int)
          · rw [if_pos c8] at H
            have c8b0 : decide (x18_1 < (l1.length : Int)) = true := decide_eq_true c8
            clear c8
            by_cases c9 : 0 ≤ x18_1
            · rw [if_pos c9] at H
              have c9b0 : decide (0 ≤ x18_1) = true := decide_eq_true c9
              clear c9
              by_cases c10 : x18_1 < (l1.length : Int)
              · rw [if_pos c10] at H
                have c10b0 : decide (x18_1 < (l1.length : Int)) = true := decide_eq_true c10
                clear c10
                by_cases c11 : 0 ≤ (rd l1 x18_1)
                · rw [if_pos c11] at H
                  have c11b0 : decide (0 ≤ (rd l1 x18_1)) = true := decide_eq_true c11
                  clear c11
                  by_cases c12 : (rd l1 x18_1) < (x7_1.length : Int)
                  · rw [if_pos c12] at H
                    have c12b0 : decide ((rd l1 x18_1) < (x7_1.length : Int)) = true := decide_eq_true c12
                    clear c12
                    obtain ⟨y262, hy262⟩ : ∃ y_ : List Bool, y_ = (x7_1.set ((rd l1 x18_1) : Int).toNat true) := ⟨_, rfl⟩
                    replace H : (burnishref07_ready.l0 k1 l0 l1 l2 y262 l1 (l1.length : Int) (wrap64 (x18_1 + 1))) = some r := by first | (rw [hy262]; with_reducible exact H) | (have H2_ := (Option.bind_some _ _).symm.trans H; rw [hy262]; with_reducible exact H2_) | (have H2_ := (Option.bind_some _ _).symm.trans H; with_reducible exact H2_) | with_reducible exact H | (rw [hy262]; exact H) | exact H
                    have Ny262 := Aside0.mk hy262
                    clear hy262
                    have H' := Aside0.mk H
                    clear H
                    have p261 : 0 ≤ (x18_1 : Int) := of_decide_eq_true (by first | (with_reducible assumption) | assumption)
                    have q261 : x18_1 < (l1.length : Int) := of_decide_eq_true (by first | (with_reducible assumption) | assumption)
                    obtain ⟨ad261, e261, hx261_0⟩ := Kd.at_int HR1.out x18_1 p261 q261
                    cases e261
                    replace hx261_0 := (HB.out.cell (World.block_lt_of_cell? w _ hx261_0)).trans hx261_0
                    replace p261 := eq_true p261
                    replace q261 := eq_true q261
                    have p13 : 0 ≤ ((rd l1 x18_1) : Int) := of_decide_eq_true (by first | (with_reducible assumption) | assumption)
                    have q13 : ((rd l1 x18_1) : Int) < ((x7_1.length : Int) : Int) := of_decide_eq_true (by first | (with_reducible assumption) | assumption)
                    obtain ⟨go13, co13, eo13, gb13, gl13, cl13, HG13⟩ := Kd.R_form HO_7.out (by omega)
                    (first | cases eo13 | (injection eo13 with ea_ en_ ec_; (first | subst ea_ | (injection ea_ with ea_; subst ea_)); subst ec_; clear en_))
                    have GB13 := Aside0.mk gb13
                    have GG13 := Aside0.mk HG13
                    clear gb13 gl13 HG13
                    obtain ⟨hx13_0, hf13_0⟩ := Kd.R_celln false HO_7.out ((rd l1 x18_1) : Int) p13 q13
                    replace p13 := eq_true p13
                    replace q13 := eq_true q13
                    have HP14 := Kd.R_putg HO_7.out ((rd l1 x18_1) : Int) true
                    go_wp2_with (first | ((with_reducible refine gate_store (t := 4) (p := 24) rfl ?_); refine store_event (t := 4) (p := 24) (v := ?vo_w15) (w1 := (wr.setCell ⟨go13, ((rd l1 x18_1) : Int).toNat, none⟩ (.bool true))) ?hg ?ho ?hn ?hr ?_; (case ho => rfl); (case hg => rfl); (case hn => rfl); (case hr => first | (go_simp; done) | (go_simp; rfl)); intro w15 hw; have hg : wr.grownBy w15 (some go13) := (by rw [hw]; exact HP14.2); have hp_ : Kd.R Kd.bool 4 w15 w.heap.size (fun _ => True) (.slice (some ⟨go13, 0, none⟩) x7_1.length co13) y262 := (by rw [hw, Ny262.out]; exact HP14.1); clear HP14; have n0_ := Aside0.mk (hp_); have n1_ := Aside0.mk ((by rw [hw]; exact below_set (HB.out) GB13.out : Below w.heap.size w w15)); clear HO_7; clear HB; have HO_7 := n0_; have HB := n1_; clear n0_ n1_; clear hg hw hp_))
                    go_roundg k1
                    case measure => have := HK1.out; omega
                    case rel => exact ⟨(y262), (wrap64 (x18_1 + 1)), (by first | rfl | (simp; done) | (simp [*]; done)), H', ⟨by have := HK1.out; omega⟩, ⟨by (with_reducible repeat (first | apply Kd.R_alloc | apply Kd.R_drewN | apply Kd.R_drew)); exact HO_7.out⟩, ⟨by repeat (first | (with_reducible first | exact HB.out | apply below_alloc | apply pw_below_drewN | apply below_drew1) | exact HB.out)⟩⟩
                  · rw [if_neg c12] at H
                    exact absurd H (by simp)
                · rw [if_neg c11] at H
                  exact absurd H (by simp)
              · rw [if_neg c10] at H
                exact absurd H (by simp)
            · rw [if_neg c9] at H
              exact absurd H (by simp)
          · rw [if_neg c8] at H
            have c8b0 : decide (x18_1 < (l1.length : Int)) = false := decide_eq_false c8
            clear c8
            have H' := Aside0.mk H
            clear H
            go_wp2
            go_loopg [28] k1 (fun kq v28 w' => ∃ (x28_2 : Int), v28 = .int .i64 x28_2 ∧ Aside0 (burnishref07_ready.l1 kq l0 l2 x7_1 l1 (l1.length : Int) x28_2 = some r) ∧ Aside0 (kq ≤ k1) ∧ Aside0 (Kd.R Kd.bool 4 w' w.heap.size (fun _ => True) v259 x7_1) ∧ Aside0 (Below w.heap.size w w'))
            case atStart => exact ⟨(0), (by first | rfl | (simp; done) | (simp [*]; done)), H', ⟨Nat.le_refl _⟩, ⟨by (with_reducible repeat (first | apply Kd.R_alloc | apply Kd.R_drewN | apply Kd.R_drew)); exact HO_7.out⟩, ⟨by repeat (first | (with_reducible first | exact HB.out | apply below_alloc | apply pw_below_drewN | apply below_drew1) | exact HB.out)⟩⟩
            case round =>
              clear H'
              try clear c1
              try clear p1
              try clear q1
              try clear hx1
              try clear c2
              try clear p2
              try clear q2
              try clear hx2
              try clear c4
              try clear c4b0
              try clear c4b1
              try clear c5
              try clear c5b0
              try clear c5b1
              try clear p6
              try clear c8
              try clear c8b0
              try clear c9
              try clear c9b0
              try clear c10
              try clear c10b0
              try clear c11
              try clear c11b0
              try clear c12
              try clear c12b0
              try clear p13
              try clear q13
              try clear hx13
              try clear hf13
              try clear hx13_0
              try clear hx261_0
              try clear p13
              try clear p2
              try clear p261
              try clear q13
              try clear q261
              obtain ⟨x28_2, rfl, HA, HK2, HO_7, HB⟩ := hrel
              cases gk with
              | zero => exact absurd HA.out (by simp [burnishref07_ready.l1])
              | succ k2 =>
                have H := HA.out
                clear HA
                simp only [burnishref07_ready.l1] at H
                by_cases c16 : x28_2 < (l1.length : Int)
                · rw [if_pos c16] at H
                  have c16b0 : decide (x28_2 < (l1.length : Int)) = true := decide_eq_true c16
                  clear c16
                  by_cases c17 : 0 ≤ x28_2
                  · rw [if_pos c17] at H
                    have c17b0 : decide (0 ≤ x28_2) = true := decide_eq_true c17
                    clear c17
                    by_cases c18 : x28_2 < (l1.length : Int)
                    · rw [if_pos c18] at H
                      have c18b0 : decide (x28_2 < (l1.length : Int)) = true := decide_eq_true c18
                      clear c18
                      have H' := Aside0.mk H
                      clear H
                      have p263 : 0 ≤ (x28_2 : Int) := of_decide_eq_true (by first | (with_reducible assumption) | assumption)
                      have q263 : x28_2 < (l1.length : Int) := of_decide_eq_true (by first | (with_reducible assumption) | assumption)
                      obtain ⟨ad263, e263, hx263_0⟩ := Kd.at_int HR1.out x28_2 p263 q263
                      cases e263
                      replace hx263_0 := (HB.out.cell (World.block_lt_of_cell? w _ hx263_0)).trans hx263_0
                      replace p263 := eq_true p263
                      replace q263 := eq_true q263
                      go_wp2
                      go_loopg [12] k2 (fun kq v12 w' => ∃ (x12_3 : Int), v12 = .int .i64 x12_3 ∧ Aside0 (burnishref07_ready.l2 kq l0 l2 x7_1 (rd l1 x28_2) x12_3 l1 (l1.length : Int) x28_2 = some r) ∧ Aside0 (kq ≤ k2) ∧ Aside0 (Kd.R Kd.bool 4 w' w.heap.size (fun _ => True) v259 x7_1) ∧ Aside0 (Below w.heap.size w w'))
                      case atStart => exact ⟨(0), (by first | rfl | (simp; done) | (simp [*]; done)), H', ⟨Nat.le_refl _⟩, ⟨by (with_reducible repeat (first | apply Kd.R_alloc | apply Kd.R_drewN | apply Kd.R_drew)); exact HO_7.out⟩, ⟨by repeat (first | (with_reducible first | exact HB.out | apply below_alloc | apply pw_below_drewN | apply below_drew1) | exact HB.out)⟩⟩
                      case round =>
                        clear H'
                        try clear c1
                        try clear p1
                        try clear q1
                        try clear hx1
                        try clear c2
                        try clear p2
                        try clear q2
                        try clear hx2
                        try clear c4
                        try clear c4b0
                        try clear c4b1
                        try clear c5
                        try clear c5b0
                        try clear c5b1
                        try clear p6
                        try clear c8
                        try clear c8b0
                        try clear c9
                        try clear c9b0
                        try clear c10
                        try clear c10b0
                        try clear c11
                        try clear c11b0
                        try clear c12
                        try clear c12b0
                        try clear p13
                        try clear q13
                        try clear hx13
                        try clear hf13
                        try clear c16
                        try clear c16b0
                        try clear c17
                        try clear c17b0
                        try clear c18
                        try clear c18b0
                        try clear hx13_0
                        try clear hx261_0
                        try clear hx263_0
                        try clear p1
                        try clear p13
                        try clear p2
                        try clear p261
                        try clear p263
                        try clear p6
                        try clear q1
                        try clear q13
                        try clear q2
                        try clear q261
                        try clear q263
                        obtain ⟨x12_3, rfl, HA, HK3, HO_7, HB⟩ := hrel
                        cases gk with
                        | zero => exact absurd HA.out (by simp [burnishref07_ready.l2])
                        | succ k3 =>
                          have H := HA.out
                          clear HA
                          simp only [burnishref07_ready.l2] at H
                          by_cases c19 : x12_3 < (l0.length : Int)
                          · rw [if_pos c19] at H
                            have c19b0 : decide (x12_3 < (l0.length : Int)) = true := decide_eq_true c19
                            clear c19
                            by_cases c20 : 0 ≤ (rd l1 x28_2)
                            · rw [if_pos c20] at H
                              have c20b0 : decide (0 ≤ (rd l1 x28_2)) = true := decide_eq_true c20
                              clear c20
                              by_cases c21 : (rd l1 x28_2) < (l0.length : Int)
                              · rw [if_pos c21] at H
                                have c21b0 : decide ((rd l1 x28_2) < (l0.length : Int)) = true := decide_eq_true c21
                                clear c21
                                by_cases c22 : 0 ≤ x12_3
                                · rw [if_pos c22] at H
                                  have c22b0 : decide (0 ≤ x12_3) = true := decide_eq_true c22
                                  clear c22
                                  by_cases c23 : x12_3 < ((rd_L3 l0 (rd l1 x28_2)).length : Int)
                                  · rw [if_pos c23] at H
                                    have c23b0 : decide (x12_3 < ((rd_L3 l0 (rd l1 x28_2)).length : Int)) = true := decide_eq_true c23
                                    clear c23
                                    obtain ⟨bq24, hbq24⟩ : ∃ b_ : Bool, b_ = (rdOf false (rd_L3 l0 (rd l1 x28_2)) x12_3) := ⟨_, rfl⟩
                                    replace H : (if bq24 = true then (if x12_3 < (x7_1.length : Int) then (if rdOf false x7_1 x12_3 = true then (burnishref07_ready.l2 k3 l0 l2 x7_1 (rd l1 x28_2) (wrap64 (x12_3 + 1)) l1 (l1.length : Int) x28_2) else (if x12_3 < (l2.length : Int) then (if rdOf false l2 x12_3 = true then (burnishref07_ready.l2 k3 l0 l2 x7_1 (rd l1 x28_2) (wrap64 (x12_3 + 1)) l1 (l1.length : Int) x28_2) else (some false)) else (none))) else (none)) else (burnishref07_ready.l2 k3 l0 l2 x7_1 (rd l1 x28_2) (wrap64 (x12_3 + 1)) l1 (l1.length : Int) x28_2)) = some r := by rw [← hbq24] at H; exact H
                                    have Nbq24 := Aside0.mk hbq24
                                    clear hbq24
                                    by_cases c25 : bq24 = true
                                    · subst c25
                                      have H1 : (if x12_3 < (x7_1.length : Int) then (if rdOf false x7_1 x12_3 = true then (burnishref07_ready.l2 k3 l0 l2 x7_1 (rd l1 x28_2) (wrap64 (x12_3 + 1)) l1 (l1.length : Int) x28_2) else (if x12_3 < (l2.length : Int) then (if rdOf false l2 x12_3 = true then (burnishref07_ready.l2 k3 l0 l2 x7_1 (rd l1 x28_2) (wrap64 (x12_3 + 1)) l1 (l1.length : Int) x28_2) else (some false)) else (none))) else (none)) = some r := by rw [if_pos rfl] at H; exact H
                                      clear H
                                      have H := H1
                                      clear H1
                                      by_cases c26 : x12_3 < (x7_1.length : Int)
                                      · rw [if_pos c26] at H
                                        have c26b0 : decide (x12_3 < (x7_1.length : Int)) = true := decide_eq_true c26
                                        clear c26
                                        obtain ⟨bq27, hbq27⟩ : ∃ b_ : Bool, b_ = (rdOf false x7_1 x12_3) := ⟨_, rfl⟩
                                        replace H : (if bq27 = true then (burnishref07_ready.l2 k3 l0 l2 x7_1 (rd l1 x28_2) (wrap64 (x12_3 + 1)) l1 (l1.length : Int) x28_2) else (if x12_3 < (l2.length : Int) then (if rdOf false l2 x12_3 = true then (burnishref07_ready.l2 k3 l0 l2 x7_1 (rd l1 x28_2) (wrap64 (x12_3 + 1)) l1 (l1.length : Int) x28_2) else (some false)) else (none))) = some r := by rw [← hbq27] at H; exact H
                                        have Nbq27 := Aside0.mk hbq27
                                        clear hbq27
                                        by_cases c28 : bq27 = true
                                        · subst c28
                                          have H1 : (burnishref07_ready.l2 k3 l0 l2 x7_1 (rd l1 x28_2) (wrap64 (x12_3 + 1)) l1 (l1.length : Int) x28_2) = some r := by rw [if_pos rfl] at H; exact H
                                          clear H
                                          have H := H1
                                          clear H1
                                          have H' := Aside0.mk H
                                          clear H
                                          have p264 : 0 ≤ ((rd l1 x28_2) : Int) := of_decide_eq_true (by first | (with_reducible assumption) | assumption)
                                          have q264 : (rd l1 x28_2) < (l0.length : Int) := of_decide_eq_true (by first | (with_reducible assumption) | assumption)
                                          obtain ⟨ad264, A264_0, c264_0, e264, hx264_0, hl264_0, hi264_0⟩ := at_L3 HR0.out (rd l1 x28_2) p264 q264
                                          cases e264
                                          replace hx264_0 := (HB.out.cell (World.block_lt_of_cell? w _ hx264_0)).trans hx264_0
                                          have HR264_0 := Aside0.mk hi264_0
                                          have HC264_0 := Aside0.mk hl264_0
                                          clear hi264_0 hl264_0
                                          replace p264 := eq_true p264
                                          replace q264 := eq_true q264
                                          have p265 : 0 ≤ (x12_3 : Int) := of_decide_eq_true (by first | (with_reducible assumption) | assumption)
                                          have q265 : x12_3 < ((rd_L3 l0 (rd l1 x28_2)).length : Int) := of_decide_eq_true (by first | (with_reducible assumption) | assumption)
                                          obtain ⟨ad265, e265, hx265_0⟩ := Kd.at_bool HR264_0.out x12_3 p265 q265
                                          (try rw [← Nbq24.out] at hx265_0)
                                          (try rw [← Nbq27.out] at hx265_0)
                                          cases e265
                                          replace hx265_0 := (HB.out.cell (World.block_lt_of_cell? w _ hx265_0)).trans hx265_0
                                          replace p265 := eq_true p265
                                          replace q265 := eq_true q265
                                          obtain ⟨Ao29, co29, eo29⟩ := Kd.R_slice HO_7.out
                                          subst eo29
                                          have p266 : 0 ≤ (x12_3 : Int) := of_decide_eq_true (by first | (with_reducible assumption) | assumption)
                                          have q266 : x12_3 < (x7_1.length : Int) := of_decide_eq_true (by first | (with_reducible assumption) | assumption)
                                          obtain ⟨ad266, e266, hx266_0⟩ := Kd.at_bool (Kd.R_reads' HO_7.out).2.2 x12_3 p266 q266
                                          (try rw [← Nbq24.out] at hx266_0)
                                          (try rw [← Nbq27.out] at hx266_0)
                                          cases e266
                                          replace p266 := eq_true p266
                                          replace q266 := eq_true q266
                                          go_wp2
                                          go_roundg k3
                                          case measure => have := HK1.out; have := HK2.out; have := HK3.out; omega
                                          case rel => exact ⟨(wrap64 (x12_3 + 1)), (by first | rfl | (simp; done) | (simp [*]; done)), H', ⟨by have := HK1.out; have := HK2.out; have := HK3.out; omega⟩, ⟨by (with_reducible repeat (first | apply Kd.R_alloc | apply Kd.R_drewN | apply Kd.R_drew)); exact HO_7.out⟩, ⟨by repeat (first | (with_reducible first | exact HB.out | apply below_alloc | apply pw_below_drewN | apply below_drew1) | exact HB.out)⟩⟩
                                        · replace c28 := Bool.eq_false_iff.mpr c28
                                          subst c28
                                          have H1 : (if x12_3 < (l2.length : Int) then (if rdOf false l2 x12_3 = true then (burnishref07_ready.l2 k3 l0 l2 x7_1 (rd l1 x28_2) (wrap64 (x12_3 + 1)) l1 (l1.length : Int) x28_2) else (some false)) else (none)) = some r := by rw [if_neg (show ¬ (false = true) by decide)] at H; exact H
                                          clear H
                                          have H := H1
                                          clear H1
                                          by_cases c30 : x12_3 < (l2.length : Int)
                                          · rw [if_pos c30] at H
                                            have c30b0 : decide (x12_3 < (l2.length : Int)) = true := decide_eq_true c30
                                            clear c30
                                            obtain ⟨bq31, hbq31⟩ : ∃ b_ : Bool, b_ = (rdOf false l2 x12_3) := ⟨_, rfl⟩
                                            replace H : (if bq31 = true then (burnishref07_ready.l2 k3 l0 l2 x7_1 (rd l1 x28_2) (wrap64 (x12_3 + 1)) l1 (l1.length : Int) x28_2) else (some false)) = some r := by rw [← hbq31] at H; exact H
                                            have Nbq31 := Aside0.mk hbq31
                                            clear hbq31
                                            by_cases c32 : bq31 = true
                                            · subst c32
                                              have H1 : (burnishref07_ready.l2 k3 l0 l2 x7_1 (rd l1 x28_2) (wrap64 (x12_3 + 1)) l1 (l1.length : Int) x28_2) = some r := by rw [if_pos rfl] at H; exact H
                                              clear H
                                              have H := H1
                                              clear H1
                                              have H' := Aside0.mk H
                                              clear H
                                              have p264 : 0 ≤ ((rd l1 x28_2) : Int) := of_decide_eq_true (by first | (with_reducible assumption) | assumption)
                                              have q264 : (rd l1 x28_2) < (l0.length : Int) := of_decide_eq_true (by first | (with_reducible assumption) | assumption)
                                              obtain ⟨ad264, A264_0, c264_0, e264, hx264_0, hl264_0, hi264_0⟩ := at_L3 HR0.out (rd l1 x28_2) p264 q264
                                              cases e264
                                              replace hx264_0 := (HB.out.cell (World.block_lt_of_cell? w _ hx264_0)).trans hx264_0
                                              have HR264_0 := Aside0.mk hi264_0
                                              have HC264_0 := Aside0.mk hl264_0
                                              clear hi264_0 hl264_0
                                              replace p264 := eq_true p264
                                              replace q264 := eq_true q264
                                              have p265 : 0 ≤ (x12_3 : Int) := of_decide_eq_true (by first | (with_reducible assumption) | assumption)
                                              have q265 : x12_3 < ((rd_L3 l0 (rd l1 x28_2)).length : Int) := of_decide_eq_true (by first | (with_reducible assumption) | assumption)
                                              obtain ⟨ad265, e265, hx265_0⟩ := Kd.at_bool HR264_0.out x12_3 p265 q265
                                              (try rw [← Nbq24.out] at hx265_0)
                                              (try rw [← Nbq27.out] at hx265_0)
                                              (try rw [← Nbq31.out] at hx265_0)
                                              cases e265
                                              replace hx265_0 := (HB.out.cell (World.block_lt_of_cell? w _ hx265_0)).trans hx265_0
                                              replace p265 := eq_true p265
                                              replace q265 := eq_true q265
                                              obtain ⟨Ao33, co33, eo33⟩ := Kd.R_slice HO_7.out
                                              subst eo33
                                              have p266 : 0 ≤ (x12_3 : Int) := of_decide_eq_true (by first | (with_reducible assumption) | assumption)
                                              have q266 : x12_3 < (x7_1.length : Int) := of_decide_eq_true (by first | (with_reducible assumption) | assumption)
                                              obtain ⟨ad266, e266, hx266_0⟩ := Kd.at_bool (Kd.R_reads' HO_7.out).2.2 x12_3 p266 q266
                                              (try rw [← Nbq24.out] at hx266_0)
                                              (try rw [← Nbq27.out] at hx266_0)
                                              (try rw [← Nbq31.out] at hx266_0)
                                              cases e266
                                              replace p266 := eq_true p266
                                              replace q266 := eq_true q266
                                              have p267 : 0 ≤ (x12_3 : Int) := of_decide_eq_true (by first | (with_reducible assumption) | assumption)
                                              have q267 : x12_3 < (l2.length : Int) := of_decide_eq_true (by first | (with_reducible assumption) | assumption)
                                              obtain ⟨ad267, e267, hx267_0⟩ := Kd.at_bool HR2.out x12_3 p267 q267
                                              (try rw [← Nbq24.out] at hx267_0)
                                              (try rw [← Nbq27.out] at hx267_0)
                                              (try rw [← Nbq31.out] at hx267_0)
                                              cases e267
                                              replace hx267_0 := (HB.out.cell (World.block_lt_of_cell? w _ hx267_0)).trans hx267_0
                                              replace p267 := eq_true p267
                                              replace q267 := eq_true q267
                                              go_wp2
                                              go_roundg k3
                                              case measure => have := HK1.out; have := HK2.out; have := HK3.out; omega
                                              case rel => exact ⟨(wrap64 (x12_3 + 1)), (by first | rfl | (simp; done) | (simp [*]; done)), H', ⟨by have := HK1.out; have := HK2.out; have := HK3.out; omega⟩, ⟨by (with_reducible repeat (first | apply Kd.R_alloc | apply Kd.R_drewN | apply Kd.R_drew)); exact HO_7.out⟩, ⟨by repeat (first | (with_reducible first | exact HB.out | apply below_alloc | apply pw_below_drewN | apply below_drew1) | exact HB.out)⟩⟩
                                            · replace c32 := Bool.eq_false_iff.mpr c32
                                              subst c32
                                              have H1 : (some false) = some r := by rw [if_neg (show ¬ (false = true) by decide)] at H; exact H
                                              clear H
                                              have H := H1
                                              clear H1
                                              obtain rfl := Option.some.inj H
                                              have p264 : 0 ≤ ((rd l1 x28_2) : Int) := of_decide_eq_true (by first | (with_reducible assumption) | assumption)
                                              have q264 : (rd l1 x28_2) < (l0.length : Int) := of_decide_eq_true (by first | (with_reducible assumption) | assumption)
                                              obtain ⟨ad264, A264_0, c264_0, e264, hx264_0, hl264_0, hi264_0⟩ := at_L3 HR0.out (rd l1 x28_2) p264 q264
                                              cases e264
                                              replace hx264_0 := (HB.out.cell (World.block_lt_of_cell? w _ hx264_0)).trans hx264_0
                                              have HR264_0 := Aside0.mk hi264_0
                                              have HC264_0 := Aside0.mk hl264_0
                                              clear hi264_0 hl264_0
                                              replace p264 := eq_true p264
                                              replace q264 := eq_true q264
                                              have p265 : 0 ≤ (x12_3 : Int) := of_decide_eq_true (by first | (with_reducible assumption) | assumption)
                                              have q265 : x12_3 < ((rd_L3 l0 (rd l1 x28_2)).length : Int) := of_decide_eq_true (by first | (with_reducible assumption) | assumption)
                                              obtain ⟨ad265, e265, hx265_0⟩ := Kd.at_bool HR264_0.out x12_3 p265 q265
                                              (try rw [← Nbq24.out] at hx265_0)
                                              (try rw [← Nbq27.out] at hx265_0)
                                              (try rw [← Nbq31.out] at hx265_0)
                                              cases e265
                                              replace hx265_0 := (HB.out.cell (World.block_lt_of_cell? w _ hx265_0)).trans hx265_0
                                              replace p265 := eq_true p265
                                              replace q265 := eq_true q265
                                              obtain ⟨Ao34, co34, eo34⟩ := Kd.R_slice HO_7.out
                                              subst eo34
                                              have p266 : 0 ≤ (x12_3 : Int) := of_decide_eq_true (by first | (with_reducible assumption) | assumption)
                                              have q266 : x12_3 < (x7_1.length : Int) := of_decide_eq_true (by first | (with_reducible assumption) | assumption)
                                              obtain ⟨ad266, e266, hx266_0⟩ := Kd.at_bool (Kd.R_reads' HO_7.out).2.2 x12_3 p266 q266
                                              (try rw [← Nbq24.out] at hx266_0)
                                              (try rw [← Nbq27.out] at hx266_0)
                                              (try rw [← Nbq31.out] at hx266_0)
                                              cases e266
                                              replace p266 := eq_true p266
                                              replace q266 := eq_true q266
                                              have p267 : 0 ≤ (x12_3 : Int) := of_decide_eq_true (by first | (with_reducible assumption) | assumption)
                                              have q267 : x12_3 < (l2.length : Int) := of_decide_eq_true (by first | (with_reducible assumption) | assumption)
                                              obtain ⟨ad267, e267, hx267_0⟩ := Kd.at_bool HR2.out x12_3 p267 q267
                                              (try rw [← Nbq24.out] at hx267_0)
                                              (try rw [← Nbq27.out] at hx267_0)
                                              (try rw [← Nbq31.out] at hx267_0)
                                              cases e267
                                              replace hx267_0 := (HB.out.cell (World.block_lt_of_cell? w _ hx267_0)).trans hx267_0
                                              replace p267 := eq_true p267
                                              replace q267 := eq_true q267
                                              go_wp2
                                              go_ret
                                              exact ⟨by first | rfl | (simp [errW_none, errW_some] <;> rfl) | (simp [*, errW_none, errW_some] <;> rfl), by repeat (first | (with_reducible first | exact HB.out | apply below_alloc | apply pw_below_drewN | apply below_drew1) | exact HB.out)⟩
                                          · rw [if_neg c30] at H
                                            exact absurd H (by simp)
                                      · rw [if_neg c26] at H
                                        exact absurd H (by simp)
                                    · replace c25 := Bool.eq_false_iff.mpr c25
                                      subst c25
                                      have H1 : (burnishref07_ready.l2 k3 l0 l2 x7_1 (rd l1 x28_2) (wrap64 (x12_3 + 1)) l1 (l1.length : Int) x28_2) = some r := by rw [if_neg (show ¬ (false = true) by decide)] at H; exact H
                                      clear H
                                      have H := H1
                                      clear H1
                                      have H' := Aside0.mk H
                                      clear H
                                      have p264 : 0 ≤ ((rd l1 x28_2) : Int) := of_decide_eq_true (by first | (with_reducible assumption) | assumption)
                                      have q264 : (rd l1 x28_2) < (l0.length : Int) := of_decide_eq_true (by first | (with_reducible assumption) | assumption)
                                      obtain ⟨ad264, A264_0, c264_0, e264, hx264_0, hl264_0, hi264_0⟩ := at_L3 HR0.out (rd l1 x28_2) p264 q264
                                      cases e264
                                      replace hx264_0 := (HB.out.cell (World.block_lt_of_cell? w _ hx264_0)).trans hx264_0
                                      have HR264_0 := Aside0.mk hi264_0
                                      have HC264_0 := Aside0.mk hl264_0
                                      clear hi264_0 hl264_0
                                      replace p264 := eq_true p264
                                      replace q264 := eq_true q264
                                      have p265 : 0 ≤ (x12_3 : Int) := of_decide_eq_true (by first | (with_reducible assumption) | assumption)
                                      have q265 : x12_3 < ((rd_L3 l0 (rd l1 x28_2)).length : Int) := of_decide_eq_true (by first | (with_reducible assumption) | assumption)
                                      obtain ⟨ad265, e265, hx265_0⟩ := Kd.at_bool HR264_0.out x12_3 p265 q265
                                      (try rw [← Nbq24.out] at hx265_0)
                                      cases e265
                                      replace hx265_0 := (HB.out.cell (World.block_lt_of_cell? w _ hx265_0)).trans hx265_0
                                      replace p265 := eq_true p265
                                      replace q265 := eq_true q265
                                      go_wp2
                                      go_roundg k3
                                      case measure => have := HK1.out; have := HK2.out; have := HK3.out; omega
                                      case rel => exact ⟨(wrap64 (x12_3 + 1)), (by first | rfl | (simp; done) | (simp [*]; done)), H', ⟨by have := HK1.out; have := HK2.out; have := HK3.out; omega⟩, ⟨by (with_reducible repeat (first | apply Kd.R_alloc | apply Kd.R_drewN | apply Kd.R_drew)); exact HO_7.out⟩, ⟨by repeat (first | (with_reducible first | exact HB.out | apply below_alloc | apply pw_below_drewN | apply below_drew1) | exact HB.out)⟩⟩
                                  · rw [if_neg c23] at H
                                    exact absurd H (by simp)
                                · rw [if_neg c22] at H
                                  exact absurd H (by simp)
                              · rw [if_neg c21] at H
                                exact absurd H (by simp)
                            · rw [if_neg c20] at H
                              exact absurd H (by simp)
                          · rw [if_neg c19] at H
                            have c19b0 : decide (x12_3 < (l0.length : Int)) = false := decide_eq_false c19
                            clear c19
                            have H' := Aside0.mk H
                            clear H
                            go_wp2
                            go_roundg k3
                            case measure => have := HK1.out; have := HK2.out; have := HK3.out; omega
                            case rel => exact ⟨(wrap64 (x28_2 + 1)), (by first | rfl | (simp; done) | (simp [*]; done)), H', ⟨by have := HK1.out; have := HK2.out; have := HK3.out; omega⟩, ⟨by (with_reducible repeat (first | apply Kd.R_alloc | apply Kd.R_drewN | apply Kd.R_drew)); exact HO_7.out⟩, ⟨by repeat (first | (with_reducible first | exact HB.out | apply below_alloc | apply pw_below_drewN | apply below_drew1) | exact HB.out)⟩⟩
                    · rw [if_neg c18] at H
                      exact absurd H (by simp)
                  · rw [if_neg c17] at H
                    exact absurd H (by simp)
                · rw [if_neg c16] at H
                  have c16b0 : decide (x28_2 < (l1.length : Int)) = false := decide_eq_false c16
                  clear c16
                  obtain rfl := Option.some.inj H
                  go_wp2
                  go_ret
                  exact ⟨by first | rfl | (simp [errW_none, errW_some] <;> rfl) | (simp [*, errW_none, errW_some] <;> rfl), by repeat (first | (with_reducible first | exact HB.out | apply below_alloc | apply pw_below_drewN | apply below_drew1) | exact HB.out)⟩
    · rw [if_neg c5] at H
      exact absurd H (by simp)
  · rw [if_neg c4] at H
    exact absurd H (by simp)

-- NOT PRINTED: function 10 (burnishref07_Components)

-- NOT PRINTED: function 13 (burnishref07_Index)

-- NOT PRINTED: function 3 (burnishlaw07_SccComponents)
end Go.Proofs.Ytmlikgmcekofbaa.PDigraphTells
end

section
/- The printed function slices_Index_int_int. -/
namespace Go.Proofs.Ytmlikgmcekofbaa.PDigraphTells
open Go.RowKit Go.Proofs.YtmlikgmcekofbaaW.PrintWords Go.Proofs.YtmlikgmcekofbaaW.PrintLast Go.Proofs.YtmlikgmcekofbaaW.PrintMore
attribute [local go_sem] max2_int min2_int max_two min_two max_three min_three max_four min_four   -- for this text's walks alone
set_option linter.unusedVariables false
set_option linter.unusedSimpArgs false

/-! ### slices_Index_int_int: function 30 -/
def slices_Index_int_int.l0 : Nat → List Int → Int → Int → Int → Option (Int)
  | 0, _, _, _, _ => none
  | k + 1, x0, x1, x7, x8 => if x8 < x7 then (if 0 ≤ x8 then (if x8 < (x0.length : Int) then (if x1 = (rd x0 x8) then (some x8) else (slices_Index_int_int.l0 k x0 x1 x7 (wrap64 (x8 + 1)))) else (none)) else (none)) else (some (-1))
def slices_Index_int_int.f (k : Nat) (l0 : List Int) (a1 : Int) : Option (Int) := slices_Index_int_int.l0 k l0 a1 (l0.length : Int) 0
set_option maxHeartbeats 8000000 in
set_option maxRecDepth 100000 in
theorem slices_Index_int_int.calls (k : Nat) (A0 : Option Addr) (c0 : Nat) (l0 : List Int) (a1 : Int) (r : Int) (w : World) (hr0 : Kd.C (Kd.int .i64) w A0 l0.length l0) (hc0 : l0.length ≤ c0) (h : slices_Index_int_int.f k l0 a1 = some r) :
    Calls Try.prog 30 #[.slice A0 l0.length c0, .int .i64 a1] w fun e w' => e = .returned (.int .i64 r) ∧ Drawn0 w w' := by
  have HR0 := Aside0.mk hr0
  have HC0 := Aside0.mk hc0
  clear hr0 hc0
  have H : (slices_Index_int_int.l0 k l0 a1 (l0.length : Int) 0) = some r := h
  clear h
  have H' := Aside0.mk H
  clear H
  go_enter Try.func30, Try.ntmps30
  go_wp2
  go_loopg [8] k (fun kq v8 w' => ∃ (x8_1 : Int), v8 = .int .i64 x8_1 ∧ Aside0 (slices_Index_int_int.l0 kq l0 a1 (l0.length : Int) x8_1 = some r) ∧ Aside0 (kq ≤ k) ∧ Drawn0 w w')
  case atStart => exact ⟨(0), (by first | rfl | (simp; done) | (simp [*]; done)), H', ⟨Nat.le_refl _⟩, by repeat (first | exact Drawn0.refl _ | apply Drawn0.step)⟩
  case round =>
    clear H'
    try clear p2
    obtain ⟨x8_1, rfl, HA, HK1, ⟨m1, rfl⟩⟩ := hrel
    cases gk with
    | zero => exact absurd HA.out (by simp [slices_Index_int_int.l0])
    | succ k1 =>
      have H := HA.out
      clear HA
      simp only [slices_Index_int_int.l0] at H
      by_cases c3 : x8_1 < (l0.length : Int)
      · rw [if_pos c3] at H
        have c3b0 : decide (x8_1 < (l0.length : Int)) = true := decide_eq_true c3
        clear c3
        by_cases c4 : 0 ≤ x8_1
        · rw [if_pos c4] at H
          have c4b0 : decide (0 ≤ x8_1) = true := decide_eq_true c4
          clear c4
          by_cases c5 : x8_1 < (l0.length : Int)
          · rw [if_pos c5] at H
            have c5b0 : decide (x8_1 < (l0.length : Int)) = true := decide_eq_true c5
            clear c5
            by_cases c6 : a1 = (rd l0 x8_1)
            · rw [if_pos c6] at H
              have c6b0 : (a1 == (rd l0 x8_1)) = true := beq_iff_eq.mpr c6
              have c6b1 : (a1 != (rd l0 x8_1)) = false := bne_eq_false_iff_eq.mpr c6
              clear c6
              obtain rfl := Option.some.inj H
              have p216 : 0 ≤ (x8_1 : Int) := of_decide_eq_true (by first | (with_reducible assumption) | assumption)
              have q216 : x8_1 < (l0.length : Int) := of_decide_eq_true (by first | (with_reducible assumption) | assumption)
              obtain ⟨ad216, e216, hx216_0⟩ := Kd.at_int HR0.out x8_1 p216 q216
              cases e216
              replace p216 := eq_true p216
              replace q216 := eq_true q216
              go_wp2
              go_ret
              exact ⟨by first | rfl | (simp; done) | (simp [*]; done), by repeat (first | exact Drawn0.refl _ | apply Drawn0.step)⟩
            · rw [if_neg c6] at H
              have c6b0 : (a1 == (rd l0 x8_1)) = false := beq_eq_false_iff_ne.mpr c6
              have c6b1 : (a1 != (rd l0 x8_1)) = true := bne_iff_ne.mpr c6
              have H' := Aside0.mk H
              clear H
              have p216 : 0 ≤ (x8_1 : Int) := of_decide_eq_true (by first | (with_reducible assumption) | assumption)
              have q216 : x8_1 < (l0.length : Int) := of_decide_eq_true (by first | (with_reducible assumption) | assumption)
              obtain ⟨ad216, e216, hx216_0⟩ := Kd.at_int HR0.out x8_1 p216 q216
              cases e216
              replace p216 := eq_true p216
              replace q216 := eq_true q216
              go_wp2
              go_roundg k1
              case measure => have := HK1.out; omega
              case rel => exact ⟨(wrap64 (x8_1 + 1)), (by first | rfl | (simp; done) | (simp [*]; done)), H', ⟨by have := HK1.out; omega⟩, by repeat (first | exact Drawn0.refl _ | apply Drawn0.step)⟩
          · rw [if_neg c5] at H
            exact absurd H (by simp)
        · rw [if_neg c4] at H
          exact absurd H (by simp)
      · rw [if_neg c3] at H
        have c3b0 : decide (x8_1 < (l0.length : Int)) = false := decide_eq_false c3
        clear c3
        obtain rfl := Option.some.inj H
        go_wp2
        go_ret
        exact ⟨by first | rfl | (simp; done) | (simp [*]; done), by repeat (first | exact Drawn0.refl _ | apply Drawn0.step)⟩
end Go.Proofs.Ytmlikgmcekofbaa.PDigraphTells
end

section
/- The printed function slices_Contains_int_int. -/
namespace Go.Proofs.Ytmlikgmcekofbaa.PDigraphTells
open Go.RowKit Go.Proofs.YtmlikgmcekofbaaW.PrintWords Go.Proofs.YtmlikgmcekofbaaW.PrintLast Go.Proofs.YtmlikgmcekofbaaW.PrintMore
attribute [local go_sem] max2_int min2_int max_two min_two max_three min_three max_four min_four   -- for this text's walks alone
set_option linter.unusedVariables false
set_option linter.unusedSimpArgs false

/-! ### slices_Contains_int_int: function 24 -/
def slices_Contains_int_int.f (k : Nat) (l0 : List Int) (a1 : Int) : Option (Bool) := (slices_Index_int_int.f k l0 a1).bind fun t217 => (some (decide (t217 ≥ 0)))
set_option maxHeartbeats 8000000 in
set_option maxRecDepth 100000 in
theorem slices_Contains_int_int.calls (k : Nat) (A0 : Option Addr) (c0 : Nat) (l0 : List Int) (a1 : Int) (r : Bool) (w : World) (hr0 : Kd.C (Kd.int .i64) w A0 l0.length l0) (hc0 : l0.length ≤ c0) (h : slices_Contains_int_int.f k l0 a1 = some r) :
    Calls Try.prog 24 #[.slice A0 l0.length c0, .int .i64 a1] w fun e w' => e = .returned (.bool r) ∧ Drawn0 w w' := by
  have HR0 := Aside0.mk hr0
  have HC0 := Aside0.mk hc0
  clear hr0 hc0
  have H : ((slices_Index_int_int.f k l0 a1).bind fun t217 => (some (decide (t217 ≥ 0)))) = some r := h
  clear h
  replace H := Option.bind_eq_some_iff.mp H
  obtain ⟨t217, A30, H⟩ := H
  replace H : (some (decide (t217 ≥ 0))) = some r := H
  have A3 := Aside0.mk A30
  clear A30
  obtain rfl := Option.some.inj H
  go_enter Try.func24, Try.ntmps24
  go_wp2_with (first | ((with_reducible refine gate_callee (f := 30) rfl ?_); refine goesL_ (some 7) rfl rfl Try.func30 (by kernel_rfl) rfl #[.slice A0 l0.length c0, .int .i64 a1] rfl (by (try simp only [List.map_toArray, List.map_cons, List.map_nil]); first | done | rfl | (simp only [List.length_drop, List.length_take]; rfl)) ?_; (with_reducible refine (slices_Index_int_int.calls k _ _ l0 a1 t217 _ ?side1 ?side2 A3.out).mono ?_); (case side1 => repeat (first | exact HR0.out | (with_reducible refine Kd.C_alloc ?_ _) | (with_reducible refine Kd.C_drewN ?_ _) | (with_reducible refine Kd.C_drew ?_))); (case side2 => exact HC0.out); rintro e w' ⟨rfl, ⟨nd, rfl⟩⟩; refine ⟨_, rfl, ?_⟩))
  go_ret
  exact ⟨by first | rfl | (simp; done) | (simp [*]; done), by repeat (first | exact Drawn0.refl _ | apply Drawn0.step)⟩

-- NOT PRINTED: function 15 (scc_OnCycle)

-- NOT PRINTED: function 8 (burnishlaw07_awake)
end Go.Proofs.Ytmlikgmcekofbaa.PDigraphTells
end

section
/- The printed function burnishlaw07_large. -/
namespace Go.Proofs.Ytmlikgmcekofbaa.PDigraphTells
open Go.RowKit Go.Proofs.YtmlikgmcekofbaaW.PrintWords Go.Proofs.YtmlikgmcekofbaaW.PrintLast Go.Proofs.YtmlikgmcekofbaaW.PrintMore
attribute [local go_sem] max2_int min2_int max_two min_two max_three min_three max_four min_four   -- for this text's walks alone
set_option linter.unusedVariables false
set_option linter.unusedSimpArgs false

/-! ### burnishlaw07_large: function 7 -/
def burnishlaw07_large.l0 : Nat → Int → List (List Int) → Int → Int → List (List Int) → Option (Bool)
  | 0, _, _, _, _, _ => none
  | k + 1, x3, x7, x8, x9, x102000 => if x9 < x8 then (if 0 ≤ x9 then (if x9 < (x7.length : Int) then (if ((rd_L1 x7 x9).length : Int) > 200 then (some true) else (burnishlaw07_large.l0 k (wrap64 (x3 + ((rd_L1 x7 x9).length : Int))) x7 x8 (wrap64 (x9 + 1)) x102000)) else (none)) else (none)) else (if (x102000.length : Int) > 50 then (some true) else (some (decide (x3 > 1000))))
def burnishlaw07_large.f (k : Nat) (l0_0 : List (List Int)) : Option (Bool) := burnishlaw07_large.l0 k 0 l0_0 (l0_0.length : Int) 0 l0_0
set_option maxHeartbeats 8000000 in
set_option maxRecDepth 100000 in
theorem burnishlaw07_large.calls (k : Nat) (A0_0 : Option Addr) (c0_0 : Nat) (l0_0 : List (List Int)) (r : Bool) (w : World) (hr0_0 : Kd.C (Kd.slice 3 (Kd.int .i64)) w A0_0 l0_0.length l0_0) (hc0_0 : l0_0.length ≤ c0_0) (h : burnishlaw07_large.f k l0_0 = some r) :
    Calls Try.prog 7 #[.agg #[.slice A0_0 l0_0.length c0_0]] w fun e w' => e = .returned (.bool r) ∧ Below w.heap.size w w' := by
  have hu24 := Try.underlying24
  have HR0_0 := Aside0.mk hr0_0
  have HC0_0 := Aside0.mk hc0_0
  clear hr0_0 hc0_0
  have HB := Aside0.mk (Below.refl w.heap.size w)
  have H : (burnishlaw07_large.l0 k 0 l0_0 (l0_0.length : Int) 0 l0_0) = some r := h
  clear h
  have H' := Aside0.mk H
  clear H
  go_enter Try.func7, Try.ntmps7
  go_wp2_with (first | ((with_reducible refine gate_dst (N := 1) rfl ?_); refine box_event ?hg (N := 1) ?hd (cs := #[.slice A0_0 l0_0.length c0_0]) (t := 24) ?hr ?_; (case hd => rfl); (case hg => rfl); (case hr => first | (go_simp; done) | (go_simp; rfl)); intro gb101 hg w2 hbox hb; have n0_ := Aside0.mk (below_step (by repeat (first | (with_reducible first | exact HB.out | apply below_alloc | apply pw_below_drewN | apply below_drew1) | exact HB.out)) hb); have n1_ := Aside0.mk (hbox); have n2_ := Aside0.mk ((by rw [hg]; exact (below_size (by repeat (first | (with_reducible first | exact HB.out | apply below_alloc | apply pw_below_drewN | apply below_drew1) | exact HB.out))) : w.heap.size ≤ gb101)); have n3_ := Aside0.mk ((by rw [hg]; exact (below_size (by repeat (first | (with_reducible first | exact HB.out | apply below_alloc | apply pw_below_drewN | apply below_drew1) | exact HB.out))) : w.heap.size ≤ gb101)); clear HB; have HB := n0_; have BK101 := n1_; have GW101 := n2_; have GE101 := n3_; clear n0_ n1_ n2_ n3_; clear hb hbox hg; have hcz3_0 : w2.cell? ⟨gb101, 0, none⟩ = some (.slice A0_0 l0_0.length c0_0) := (blk_cell BK101.out 0).trans rfl; have hfz3_0 := blk_frozen BK101.out 0))
  go_loopg [3, 9] k (fun kq v3 v9 w' => ∃ (x3_1 : Int) (x9_1 : Int), v3 = .int .i64 x3_1 ∧ v9 = .int .i64 x9_1 ∧ Aside0 (burnishlaw07_large.l0 kq x3_1 l0_0 (l0_0.length : Int) x9_1 l0_0 = some r) ∧ Aside0 (kq ≤ k) ∧ Aside0 (w'.heap[gb101]? = some (.cells #[(.slice A0_0 l0_0.length c0_0)] 24 (0, 0))) ∧ Aside0 (Below w.heap.size w w'))
  case atStart => exact ⟨(0), (0), (by first | rfl | (simp; done) | (simp [*]; done)), (by first | rfl | (simp; done) | (simp [*]; done)), H', ⟨Nat.le_refl _⟩, ⟨by (with_reducible repeat (first | refine blk_drewN ?_ _ | refine blk_drew ?_ | refine blk_alloc ?_ _)); exact BK101.out⟩, ⟨by repeat (first | (with_reducible first | exact HB.out | apply below_alloc | apply pw_below_drewN | apply below_drew1 | refine below_set ?_ GE101.out) | exact HB.out)⟩⟩
  case round =>
    clear H'
    try clear p2
    try clear hcz3_0
    try clear hfz3_0
    obtain ⟨x3_1, x9_1, rfl, rfl, HA, HK1, BK101, HB⟩ := hrel
    cases gk with
    | zero => exact absurd HA.out (by simp [burnishlaw07_large.l0])
    | succ k1 =>
      have H := HA.out
      clear HA
      simp only [burnishlaw07_large.l0] at H
      by_cases c4 : x9_1 < (l0_0.length : Int)
      · rw [if_pos c4] at H
        have c4b0 : decide (x9_1 < (l0_0.length : Int)) = true := decide_eq_true c4
        clear c4
        by_cases c5 : 0 ≤ x9_1
        · rw [if_pos c5] at H
          have c5b0 : decide (0 ≤ x9_1) = true := decide_eq_true c5
          clear c5
          by_cases c6 : x9_1 < (l0_0.length : Int)
          · rw [if_pos c6] at H
            have c6b0 : decide (x9_1 < (l0_0.length : Int)) = true := decide_eq_true c6
            clear c6
            by_cases c7 : ((rd_L1 l0_0 x9_1).length : Int) > 200
            · rw [if_pos c7] at H
              have c7b0 : decide (200 < ((rd_L1 l0_0 x9_1).length : Int)) = true := decide_eq_true c7
              have c7b1 : decide (200 < (rd_L1 l0_0 x9_1).length) = true := decide_eq_true (by omega)
              clear c7
              obtain rfl := Option.some.inj H
              have p102 : 0 ≤ (x9_1 : Int) := of_decide_eq_true (by first | (with_reducible assumption) | assumption)
              have q102 : x9_1 < (l0_0.length : Int) := of_decide_eq_true (by first | (with_reducible assumption) | assumption)
              obtain ⟨ad102, A102_0, c102_0, e102, hx102_0, hl102_0, hi102_0⟩ := at_L1 HR0_0.out x9_1 p102 q102
              cases e102
              replace hx102_0 := (HB.out.cell (World.block_lt_of_cell? w _ hx102_0)).trans hx102_0
              have HR102_0 := Aside0.mk hi102_0
              have HC102_0 := Aside0.mk hl102_0
              clear hi102_0 hl102_0
              replace p102 := eq_true p102
              replace q102 := eq_true q102
              go_wp2
              go_ret
              exact ⟨by first | rfl | (simp [errW_none, errW_some] <;> rfl) | (simp [*, errW_none, errW_some] <;> rfl), by repeat (first | (with_reducible first | exact HB.out | apply below_alloc | apply pw_below_drewN | apply below_drew1 | refine below_set ?_ GE101.out) | exact HB.out)⟩
            · rw [if_neg c7] at H
              have c7b0 : decide (200 < ((rd_L1 l0_0 x9_1).length : Int)) = false := decide_eq_false c7
              have c7b1 : decide (200 < (rd_L1 l0_0 x9_1).length) = false := decide_eq_false (by omega)
              clear c7
              have H' := Aside0.mk H
              clear H
              have p102 : 0 ≤ (x9_1 : Int) := of_decide_eq_true (by first | (with_reducible assumption) | assumption)
              have q102 : x9_1 < (l0_0.length : Int) := of_decide_eq_true (by first | (with_reducible assumption) | assumption)
              obtain ⟨ad102, A102_0, c102_0, e102, hx102_0, hl102_0, hi102_0⟩ := at_L1 HR0_0.out x9_1 p102 q102
              cases e102
              replace hx102_0 := (HB.out.cell (World.block_lt_of_cell? w _ hx102_0)).trans hx102_0
              have HR102_0 := Aside0.mk hi102_0
              have HC102_0 := Aside0.mk hl102_0
              clear hi102_0 hl102_0
              replace p102 := eq_true p102
              replace q102 := eq_true q102
              go_wp2
              go_roundg k1
              case measure => have := HK1.out; omega
              case rel => exact ⟨(wrap64 (x3_1 + ((rd_L1 l0_0 x9_1).length : Int))), (wrap64 (x9_1 + 1)), (by first | rfl | (simp; done) | (simp [*]; done)), (by first | rfl | (simp; done) | (simp [*]; done)), H', ⟨by have := HK1.out; omega⟩, ⟨by (with_reducible repeat (first | refine blk_drewN ?_ _ | refine blk_drew ?_ | refine blk_alloc ?_ _)); exact BK101.out⟩, ⟨by repeat (first | (with_reducible first | exact HB.out | apply below_alloc | apply pw_below_drewN | apply below_drew1 | refine below_set ?_ GE101.out) | exact HB.out)⟩⟩
          · rw [if_neg c6] at H
            exact absurd H (by simp)
        · rw [if_neg c5] at H
          exact absurd H (by simp)
      · rw [if_neg c4] at H
        have c4b0 : decide (x9_1 < (l0_0.length : Int)) = false := decide_eq_false c4
        clear c4
        by_cases c8 : (l0_0.length : Int) > 50
        · rw [if_pos c8] at H
          have c8b0 : decide (50 < (l0_0.length : Int)) = true := decide_eq_true c8
          have c8b1 : decide (50 < l0_0.length) = true := decide_eq_true (by omega)
          clear c8
          obtain rfl := Option.some.inj H
          have hcz9_0 : wr.cell? ⟨gb101, 0, none⟩ = some (.slice A0_0 l0_0.length c0_0) := (blk_cell BK101.out 0).trans rfl
          have hfz9_0 := blk_frozen BK101.out 0
          go_wp2
          go_ret
          exact ⟨by first | rfl | (simp [errW_none, errW_some] <;> rfl) | (simp [*, errW_none, errW_some] <;> rfl), by repeat (first | (with_reducible first | exact HB.out | apply below_alloc | apply pw_below_drewN | apply below_drew1 | refine below_set ?_ GE101.out) | exact HB.out)⟩
        · rw [if_neg c8] at H
          have c8b0 : decide (50 < (l0_0.length : Int)) = false := decide_eq_false c8
          have c8b1 : decide (50 < l0_0.length) = false := decide_eq_false (by omega)
          clear c8
          obtain rfl := Option.some.inj H
          have hcz10_0 : wr.cell? ⟨gb101, 0, none⟩ = some (.slice A0_0 l0_0.length c0_0) := (blk_cell BK101.out 0).trans rfl
          have hfz10_0 := blk_frozen BK101.out 0
          go_wp2
          go_ret
          exact ⟨by first | rfl | (simp [errW_none, errW_some] <;> rfl) | (simp [*, errW_none, errW_some] <;> rfl), by repeat (first | (with_reducible first | exact HB.out | apply below_alloc | apply pw_below_drewN | apply below_drew1 | refine below_set ?_ GE101.out) | exact HB.out)⟩
end Go.Proofs.Ytmlikgmcekofbaa.PDigraphTells
end

section
/- Distances in plain lists: what fixes them, the search by a queue, the rounds of the reference, shortest paths. -/
set_option linter.unusedVariables false
set_option linter.unusedSimpArgs false
namespace Go.Proofs.Ytmlikgmcekofbaa.Grf

inductive Walk (adj : Int → List Int) : Nat → Int → Int → Prop
  | zero (a : Int) : Walk adj 0 a a
  | cons {k : Nat} {a b c : Int} (e : b ∈ adj a) (h : Walk adj k b c) : Walk adj (k + 1) a c
theorem Walk.reach {adj : Int → List Int} {k : Nat} {a b : Int} (h : Walk adj k a b) : Reach adj a b := by
  induction h with
  | zero a => exact .refl a
  | cons e _ ih => exact Reach.head e ih
theorem Walk.snoc {adj : Int → List Int} {k : Nat} {a b c : Int} (h : Walk adj k a b) (e : c ∈ adj b) : Walk adj (k + 1) a c := by
  induction h with
  | zero a => exact .cons e (.zero _)
  | cons e1 _ ih => exact .cons e1 (ih e)
theorem Reach.walk {adj : Int → List Int} {a b : Int} (h : Reach adj a b) : ∃ k, Walk adj k a b := by
  induction h with
  | refl => exact ⟨0, .zero _⟩
  | tail _ e ih => obtain ⟨k, h⟩ := ih; exact ⟨k + 1, h.snoc e⟩

/-- f tells the distances to t. -/
structure Far (adj : Int → List Int) (V : List Int) (t : Int) (f : Int → Int) : Prop where
  zero : f t = 0
  none_ : ∀ a ∈ V, f a < 0 → f a = -1
  walk : ∀ a ∈ V, 0 ≤ f a → Walk adj (f a).toNat a t
  edge : ∀ a ∈ V, ∀ b ∈ adj a, 0 ≤ f b → 0 ≤ f a ∧ f a ≤ f b + 1
theorem Far.least {adj : Int → List Int} {V : List Int} {t : Int} {f : Int → Int} (hV : ∀ a ∈ V, ∀ b ∈ adj a, b ∈ V) (h : Far adj V t f) : ∀ {k : Nat} {a : Int}, a ∈ V → Walk adj k a t → 0 ≤ f a ∧ f a ≤ k
  | 0, a, _, hw => by
    cases hw
    rw [h.zero]; omega
  | k + 1, a, ha, hw => by
    cases hw with
    | cons e hw =>
    have h1 := h.least hV (hV a ha _ e) hw
    have h2 := h.edge a ha _ e h1.1
    omega
theorem Far.uniq {adj : Int → List Int} {V : List Int} {t : Int} {f g : Int → Int} (hV : ∀ a ∈ V, ∀ b ∈ adj a, b ∈ V) (hf : Far adj V t f) (hg : Far adj V t g) (a : Int) (ha : a ∈ V) : f a = g a := by
  by_cases h1 : 0 ≤ f a
  · have h2 := hg.least hV ha (hf.walk a ha h1)
    have h3 := hf.least hV ha (hg.walk a ha h2.1)
    omega
  · by_cases h2 : 0 ≤ g a
    · have h3 := hf.least hV ha (hg.walk a ha h2)
      omega
    · rw [hf.none_ a ha (by omega), hg.none_ a ha (by omega)]
theorem Far.reach {adj : Int → List Int} {V : List Int} {t : Int} {f : Int → Int} (hV : ∀ a ∈ V, ∀ b ∈ adj a, b ∈ V) (h : Far adj V t f) {a : Int} (ha : a ∈ V) : 0 ≤ f a ↔ Reach adj a t :=
  ⟨fun h1 => (h.walk a ha h1).reach, fun h1 => by obtain ⟨k, h2⟩ := h1.walk; exact (h.least hV ha h2).1⟩

/-! ### The search by a queue. -/
def put (f : Int → Int) (p v : Int) : Int → Int := fun x => if x = p then v else f x
theorem put_same (f : Int → Int) (p v : Int) : put f p v p = v := by simp [put]
theorem put_other (f : Int → Int) {p x : Int} (v : Int) (h : x ≠ p) : put f p v x = f x := by simp [put, h]
def relax (x : Int) : List Int → (Int → Int) → List Int → (Int → Int) × List Int
  | [], f, q => (f, q)
  | p :: ps, f, q => if f p < 0 then relax x ps (put f p (f x + 1)) (q ++ [p]) else relax x ps f q
def cneg (V : List Int) (f : Int → Int) : Nat := (V.filter fun x => decide (f x < 0)).length
theorem cneg_put {V : List Int} {f : Int → Int} {p v : Int} (hp : p ∈ V) (h : f p < 0) (hv : 0 ≤ v) : cneg V (put f p v) < cneg V f := by
  refine filter_lt _ _ V (fun x _ hx => ?_) ⟨p, hp, ?_, ?_⟩
  · by_cases e : x = p
    · rw [e, put_same] at hx; simp at hx; omega
    · rw [put_other _ _ e] at hx; exact hx
  · rw [put_same]; simp; exact hv
  · simpa using h
/-- What holds while the queue is x :: q and the predecessors ps of x are still to be seen. -/
structure BJ (adj pre : Int → List Int) (V : List Int) (t x : Int) (ps : List Int) (f : Int → Int) (q : List Int) : Prop where
  zero : f t = 0
  none_ : ∀ a, f a < 0 → f a = -1
  walk : ∀ a, 0 ≤ f a → Walk adj (f a).toNat a t
  fx : 0 ≤ f x
  sorted : (x :: q).Pairwise (fun a b => f a ≤ f b)
  nonneg : ∀ a ∈ q, 0 ≤ f a
  high : ∀ a, 0 ≤ f a → f a ≤ f x + 1
  done : ∀ a, 0 ≤ f a → a ∉ x :: q → ∀ p ∈ pre a, 0 ≤ f p ∧ f p ≤ f a + 1
  seen : ∀ p ∈ pre x, p ∉ ps → 0 ≤ f p
  qV : ∀ a ∈ x :: q, a ∈ V
theorem relax_inv {adj pre : Int → List Int} {V : List Int} {t x : Int} (hpre : ∀ a ∈ V, ∀ p, p ∈ pre a ↔ p ∈ V ∧ a ∈ adj p) : ∀ (ps : List Int) (f : Int → Int) (q : List Int), (∀ p ∈ ps, p ∈ pre x) → BJ adj pre V t x ps f q →
    BJ adj pre V t x [] (relax x ps f q).1 (relax x ps f q).2 ∧ 2 * cneg V (relax x ps f q).1 + (relax x ps f q).2.length ≤ 2 * cneg V f + q.length
  | [], f, q, _, h => ⟨h, Nat.le_refl _⟩
  | p :: ps, f, q, hps, h => by
    rw [relax]
    have hx : x ∈ V := h.qV x List.mem_cons_self
    have hpp := hps p List.mem_cons_self
    have hpV := ((hpre x hx p).1 hpp).1
    have hpe := ((hpre x hx p).1 hpp).2
    by_cases hp : f p < 0
    · rw [if_pos hp]
      have hpx : x ≠ p := fun e => by have := h.fx; rw [e] at this; omega
      have hpq : ∀ a, 0 ≤ f a → a ≠ p := fun a ha e => by rw [e] at ha; omega
      have hfx : put f p (f x + 1) x = f x := put_other _ _ hpx
      have h2 : BJ adj pre V t x ps (put f p (f x + 1)) (q ++ [p]) := by
        have hfx0 := h.fx
        refine ⟨?_, fun a ha => ?_, fun a ha => ?_, ?_, ?_, fun a ha => ?_, fun a ha => ?_, fun a ha hn r hr => ?_, fun r hr hn => ?_, fun a ha => ?_⟩
        · rw [put_other _ _ (hpq t (by rw [h.zero]; omega))]; exact h.zero
        · by_cases e : a = p
          · rw [e, put_same] at ha; omega
          · rw [put_other _ _ e] at ha ⊢; exact h.none_ a ha
        · by_cases e : a = p
          · rw [e, put_same]
            rw [show (f x + 1).toNat = (f x).toNat + 1 by omega]
            exact .cons hpe (h.walk x hfx0)
          · rw [put_other _ _ e] at ha ⊢; exact h.walk a ha
        · rw [hfx]; exact hfx0
        · have hs := h.sorted
          rw [show x :: (q ++ [p]) = (x :: q) ++ [p] from rfl, List.pairwise_append]
          have hall : ∀ a ∈ x :: q, 0 ≤ f a := fun a ha => by
            rcases List.mem_cons.1 ha with rfl | ha
            · exact hfx0
            · exact h.nonneg a ha
          refine ⟨?_, by simp, fun a ha b hb => ?_⟩
          · refine List.Pairwise.imp_of_mem (fun {a b} ha hb hab => ?_) hs
            rw [put_other _ _ (hpq a (hall a ha)), put_other _ _ (hpq b (hall b hb))]
            exact hab
          · rw [List.mem_singleton] at hb
            rw [hb, put_same, put_other _ _ (hpq a (hall a ha))]
            exact h.high a (hall a ha)
        · rcases List.mem_append.1 ha with ha | ha
          · rw [put_other _ _ (hpq a (h.nonneg a ha))]; exact h.nonneg a ha
          · rw [List.mem_singleton] at ha; rw [ha, put_same]; omega
        · rw [hfx]
          by_cases e : a = p
          · rw [e, put_same]; omega
          · rw [put_other _ _ e] at ha ⊢; exact h.high a ha
        · have e : a ≠ p := fun e => hn (by rw [e]; simp)
          rw [put_other _ _ e] at ha ⊢
          have h3 := h.done a ha (fun h4 => hn (by rw [show x :: (q ++ [p]) = (x :: q) ++ [p] from rfl]; exact List.mem_append.2 (.inl h4))) r hr
          rw [put_other _ _ (hpq r h3.1)]
          exact h3
        · by_cases e : r = p
          · rw [e, put_same]; omega
          · rw [put_other _ _ e]
            exact h.seen r hr (fun h4 => by rcases List.mem_cons.1 h4 with h5 | h5; exact e h5; exact hn h5)
        · rw [show x :: (q ++ [p]) = (x :: q) ++ [p] from rfl] at ha
          rcases List.mem_append.1 ha with ha | ha
          · exact h.qV a ha
          · rw [List.mem_singleton] at ha; rw [ha]; exact hpV
      obtain ⟨h3, h4⟩ := relax_inv hpre ps _ _ (fun r hr => hps r (List.mem_cons_of_mem _ hr)) h2
      refine ⟨h3, ?_⟩
      have h5 := cneg_put (V := V) (v := f x + 1) hpV hp (by have := h.fx; omega)
      simp only [List.length_append, List.length_cons, List.length_nil] at h4
      omega
    · rw [if_neg hp]
      refine relax_inv hpre ps f q (fun r hr => hps r (List.mem_cons_of_mem _ hr)) ⟨h.zero, h.none_, h.walk, h.fx, h.sorted, h.nonneg, h.high, h.done, fun r hr hn => ?_, h.qV⟩
      by_cases e : r = p
      · rw [e]; omega
      · exact h.seen r hr (fun h4 => by rcases List.mem_cons.1 h4 with h5 | h5; exact e h5; exact hn h5)
/-- What holds ahead of a round of the queue. -/
structure BI (adj pre : Int → List Int) (V : List Int) (t : Int) (f : Int → Int) (q : List Int) : Prop where
  zero : f t = 0
  none_ : ∀ a, f a < 0 → f a = -1
  walk : ∀ a, 0 ≤ f a → Walk adj (f a).toNat a t
  sorted : q.Pairwise (fun a b => f a ≤ f b)
  nonneg : ∀ a ∈ q, 0 ≤ f a
  high : ∀ x q', q = x :: q' → ∀ a, 0 ≤ f a → f a ≤ f x + 1
  done : ∀ a, 0 ≤ f a → a ∉ q → ∀ p ∈ pre a, 0 ≤ f p ∧ f p ≤ f a + 1
  qV : ∀ a ∈ q, a ∈ V
theorem BI.round {adj pre : Int → List Int} {V : List Int} {t x : Int} {f : Int → Int} {q : List Int} (hpre : ∀ a ∈ V, ∀ p, p ∈ pre a ↔ p ∈ V ∧ a ∈ adj p) (h : BI adj pre V t f (x :: q)) :
    BI adj pre V t (relax x (pre x) f q).1 (relax x (pre x) f q).2 ∧ 2 * cneg V (relax x (pre x) f q).1 + (relax x (pre x) f q).2.length ≤ 2 * cneg V f + q.length := by
  have h1 : BJ adj pre V t x (pre x) f q := ⟨h.zero, h.none_, h.walk, h.nonneg x List.mem_cons_self, h.sorted, fun a ha => h.nonneg a (List.mem_cons_of_mem _ ha), h.high x q rfl, h.done, fun p hp hn => absurd hp hn, h.qV⟩
  obtain ⟨h2, h3⟩ := relax_inv hpre (pre x) f q (fun _ h => h) h1
  refine ⟨⟨h2.zero, h2.none_, h2.walk, (List.pairwise_cons.1 h2.sorted).2, h2.nonneg, fun y q' e a ha => ?_, fun a ha hn p hp => ?_, fun a ha => h2.qV a (List.mem_cons_of_mem _ ha)⟩, h3⟩
  · have h4 := h2.high a ha
    have h5 := (List.pairwise_cons.1 h2.sorted).1 y (by rw [e]; exact List.mem_cons_self)
    omega
  · by_cases e : a = x
    · subst e
      have h4 := h2.seen p hp (by simp)
      exact ⟨h4, h2.high p h4⟩
    · exact h2.done a ha (fun h4 => by rcases List.mem_cons.1 h4 with h5 | h5; exact e h5; exact hn h5) p hp
theorem BI.start {adj pre : Int → List Int} {V : List Int} {t : Int} (ht : t ∈ V) : BI adj pre V t (put (fun _ => -1) t 0) [t] := by
  have h0 : ∀ a, 0 ≤ put (fun _ => -1) t 0 a → a = t := fun a ha => Classical.byContradiction fun e => by rw [put_other _ _ e] at ha; omega
  refine ⟨put_same _ _ _, fun a ha => ?_, fun a ha => ?_, by simp, fun a ha => ?_, fun x q' e a ha => ?_, fun a ha hn => ?_, fun a ha => ?_⟩
  · by_cases e : a = t
    · rw [e, put_same] at ha; omega
    · rw [put_other _ _ e]
  · rw [h0 a ha, put_same]; exact .zero t
  · rw [List.mem_singleton] at ha; rw [ha, put_same]; omega
  · injection e with e1 e2
    rw [h0 a ha, ← e1, put_same]; omega
  · exact absurd (by rw [h0 a ha]; simp) hn
  · rw [List.mem_singleton] at ha; rw [ha]; exact ht
theorem BI.far {adj pre : Int → List Int} {V : List Int} {t : Int} {f : Int → Int} (hV : ∀ a ∈ V, ∀ b ∈ adj a, b ∈ V) (hpre : ∀ a ∈ V, ∀ p, p ∈ pre a ↔ p ∈ V ∧ a ∈ adj p) (h : BI adj pre V t f []) : Far adj V t f :=
  ⟨h.zero, fun a _ => h.none_ a, fun a _ => h.walk a, fun a ha b hb hf => h.done b hf (by simp) a ((hpre b (hV a ha b hb) a).2 ⟨ha, hb⟩)⟩

/-! ### Shortest paths. -/
/-- The least successor that is nearer by one. -/
def near (f : Int → Int) (d : Int) : List Int → Int → Int
  | [], nx => nx
  | s :: l, nx => near f d l (if f s = d - 1 ∧ (nx < 0 ∨ s < nx) then s else nx)
theorem near_spec (f : Int → Int) (d : Int) : ∀ (l : List Int) (nx : Int), (∀ s ∈ l, 0 ≤ s) → (nx < 0 ∨ (0 ≤ nx ∧ f nx = d - 1)) →
    (near f d l nx < 0 ∧ nx < 0 ∧ ∀ s ∈ l, f s ≠ d - 1) ∨ (0 ≤ near f d l nx ∧ f (near f d l nx) = d - 1 ∧ (near f d l nx = nx ∨ near f d l nx ∈ l) ∧ (0 ≤ nx → near f d l nx ≤ nx) ∧ ∀ s ∈ l, f s = d - 1 → near f d l nx ≤ s)
  | [], nx, _, h => by
    rw [near]
    rcases h with h | h
    · exact .inl ⟨h, h, by simp⟩
    · exact .inr ⟨h.1, h.2, .inl rfl, fun _ => Int.le_refl _, by simp⟩
  | s :: l, nx, hl, h => by
    rw [near]
    have hs := hl s List.mem_cons_self
    by_cases hc : f s = d - 1 ∧ (nx < 0 ∨ s < nx)
    · rw [if_pos hc]
      rcases near_spec f d l s (fun x hx => hl x (List.mem_cons_of_mem _ hx)) (.inr ⟨hs, hc.1⟩) with h1 | h1
      · omega
      · refine .inr ⟨h1.1, h1.2.1, ?_, fun h0 => ?_, fun x hx hfx => ?_⟩
        · rcases h1.2.2.1 with h2 | h2
          · exact .inr (by rw [h2]; exact List.mem_cons_self)
          · exact .inr (List.mem_cons_of_mem _ h2)
        · have := h1.2.2.2.1 hs; omega
        · rcases List.mem_cons.1 hx with rfl | hx
          · exact h1.2.2.2.1 hs
          · exact h1.2.2.2.2 x hx hfx
    · rw [if_neg hc]
      rcases near_spec f d l nx (fun x hx => hl x (List.mem_cons_of_mem _ hx)) h with h1 | h1
      · refine .inl ⟨h1.1, h1.2.1, fun x hx hfx => ?_⟩
        rcases List.mem_cons.1 hx with rfl | hx
        · exact hc ⟨hfx, .inl h1.2.1⟩
        · exact h1.2.2 x hx hfx
      · refine .inr ⟨h1.1, h1.2.1, ?_, h1.2.2.2.1, fun x hx hfx => ?_⟩
        · rcases h1.2.2.1 with h2 | h2
          · exact .inl h2
          · exact .inr (List.mem_cons_of_mem _ h2)
        · rcases List.mem_cons.1 hx with rfl | hx
          · by_cases hn : 0 ≤ nx
            · have h3 := h1.2.2.2.1 hn
              have : ¬ x < nx := fun h4 => hc ⟨hfx, .inr h4⟩
              omega
            · exact absurd ⟨hfx, .inl (by omega)⟩ hc
          · exact h1.2.2.2.2 x hx hfx
def path (adj : Int → List Int) (f : Int → Int) : Nat → Int → List Int
  | 0, n => [n]
  | k + 1, n => n :: path adj f k (near f (f n) (adj n) (-1))
theorem Far.next {adj : Int → List Int} {V : List Int} {t : Int} {f : Int → Int} (hV : ∀ a ∈ V, ∀ b ∈ adj a, b ∈ V) (h0 : ∀ a ∈ V, 0 ≤ a) (h : Far adj V t f) {n : Int} (hn : n ∈ V) (hp : 0 < f n) :
    near f (f n) (adj n) (-1) ∈ adj n ∧ f (near f (f n) (adj n) (-1)) = f n - 1 ∧ ∀ s ∈ adj n, f s = f n - 1 → near f (f n) (adj n) (-1) ≤ s := by
  rcases near_spec f (f n) (adj n) (-1) (fun s hs => h0 s (hV n hn s hs)) (.inl (by omega)) with h1 | h1
  · exfalso
    have hw := h.walk n hn (by omega)
    obtain ⟨k, hk⟩ : ∃ k, (f n).toNat = k + 1 := ⟨(f n).toNat - 1, by omega⟩
    rw [hk] at hw
    cases hw with
    | cons e hw =>
    rename_i b
    have hb := hV n hn b e
    have h2 := h.least hV hb hw
    have h3 := h.edge n hn b e h2.1
    exact h1.2.2 b e (by omega)
  · refine ⟨?_, h1.2.1, h1.2.2.2.2⟩
    rcases h1.2.2.1 with h2 | h2
    · omega
    · exact h2
end Go.Proofs.Ytmlikgmcekofbaa.Grf
end

section
/- The small printed functions of chapter 6 in plain lists. -/
set_option linter.unusedVariables false
set_option linter.unusedSimpArgs false
namespace Go.Proofs.Ytmlikgmcekofbaa
open Go.RowKit Go.Proofs.YtmlikgmcekofbaaW.PrintWords Go.Proofs.Ytmlikgmcekofbaa.PDigraphTells

/-- From some fuel on, g answers r. -/
def Ev {α : Type} (g : Nat → Option α) (r : α) : Prop := ∃ K, ∀ k, K ≤ k → g k = some r
theorem Ev.suc {α : Type} {g h : Nat → Option α} {r : α} (e : ∀ k, g (k + 1) = h k) (H : Ev h r) : Ev g r := by
  obtain ⟨K, hK⟩ := H
  refine ⟨K + 1, fun k hk => ?_⟩
  obtain ⟨m, rfl⟩ : ∃ m, k = m + 1 := ⟨k - 1, by omega⟩
  rw [e]
  exact hK m (by omega)
theorem Ev.ret {α : Type} (r : α) : Ev (fun _ => some r) r := ⟨0, fun _ _ => rfl⟩
theorem Ev.bind {α β : Type} {g : Nat → Option α} {G : Nat → α → Option β} {a : α} {r : β} (h : Ev g a) (H : Ev (fun k => G k a) r) : Ev (fun k => (g k).bind (G k)) r := by
  obtain ⟨K, hK⟩ := h
  obtain ⟨L, hL⟩ := H
  refine ⟨K + L, fun k hk => ?_⟩
  show (g k).bind (G k) = some r
  rw [hK k (by omega), Option.bind_some]
  exact hL k (by omega)
theorem Ev.get {α : Type} {g : Nat → Option α} {r : α} (h : Ev g r) : ∃ k, g k = some r := by
  obtain ⟨K, hK⟩ := h
  exact ⟨K, hK K (Nat.le_refl _)⟩
theorem Ev.of {α : Type} {g h : Nat → Option α} {r : α} (e : ∀ k, g k = h k) (H : Ev h r) : Ev g r := by
  obtain ⟨K, hK⟩ := H
  exact ⟨K, fun k hk => by rw [e]; exact hK k hk⟩

theorem rd_get (l : List Int) (i : Nat) (h : i < l.length) : rd l (i : Int) = l[i] := by
  simp [rd, h]
theorem rd1_get (l : List (List Int)) (i : Nat) (h : i < l.length) : rd_L1 l (i : Int) = l[i] := by
  simp [rd_L1, h]
theorem w64 (i n : Nat) (h : i < n) (hn : n < 4611686018427387904) : wrap64 ((i : Int) + 1) = ((i + 1 : Nat) : Int) := by
  unfold wrap64; omega

/-- A node of the graph. -/
def isNode (G : List (List Int)) (s : Int) : Prop := 0 ≤ s ∧ s < G.length
instance (G : List (List Int)) (s : Int) : Decidable (isNode G s) := by unfold isNode; infer_instance
def okRows (G : List (List Int)) : Bool := G.all fun l => l.all fun s => decide (isNode G s)
def chk (G : List (List Int)) : Int := if G.length > 65536 then 11 else if okRows G = true then 0 else 10
theorem okRows_iff (G : List (List Int)) : okRows G = true ↔ ∀ l ∈ G, ∀ s ∈ l, isNode G s := by
  unfold okRows; simp [List.all_eq_true]
theorem chk_ok {G : List (List Int)} : chk G = 0 ↔ G.length ≤ 65536 ∧ ∀ l ∈ G, ∀ s ∈ l, isNode G s := by
  unfold chk
  rw [← okRows_iff]
  split
  · simp; omega
  · split
    · rename_i h1 h2; simp [h2]; omega
    · rename_i h1 h2; simp [h2]
def short (G : List (List Int)) : Prop := G.length < 4611686018427387904 ∧ ∀ l ∈ G, l.length < 4611686018427387904

theorem chk_l1_good (G : List (List Int)) (hl : G.length < 4611686018427387904) (i : Nat) (row : List Int) (hr : row.length < 4611686018427387904) (r : Int) (hK : Ev (fun k => digraph_Check.l0 k G (G.length : Int) (wrap64 ((i : Int) + 1)) G) r) :
    ∀ (d j : Nat), j + d = row.length → (∀ s ∈ row.drop j, isNode G s) → Ev (fun k => digraph_Check.l1 k G (G.length : Int) (i : Int) row (row.length : Int) (j : Int) G) r := by
  intro d
  induction d with
  | zero =>
    intro j hj _
    refine Ev.suc (fun k => ?_) hK
    simp only [digraph_Check.l1]
    rw [if_neg (by omega)]
  | succ d ih =>
    intro j hj hs
    have hlt : j < row.length := by omega
    rw [List.drop_eq_getElem_cons hlt] at hs
    have h1 := hs _ List.mem_cons_self
    refine Ev.suc (fun k => ?_) (ih (j + 1) (by omega) (fun s h => hs s (List.mem_cons_of_mem _ h)))
    simp only [digraph_Check.l1]
    rw [if_pos (by omega), if_pos (by omega), if_pos (by omega), rd_get row j hlt, if_neg (by unfold isNode at h1; omega), if_neg (by unfold isNode at h1; omega), w64 j row.length hlt hr]
theorem chk_l1_bad (G : List (List Int)) (i : Nat) (row : List Int) (hr : row.length < 4611686018427387904) :
    ∀ (d j : Nat), j + d = row.length → (∃ s ∈ row.drop j, ¬ isNode G s) → Ev (fun k => digraph_Check.l1 k G (G.length : Int) (i : Int) row (row.length : Int) (j : Int) G) 10 := by
  intro d
  induction d with
  | zero =>
    intro j hj hs
    rw [List.drop_eq_nil_of_le (by omega)] at hs
    obtain ⟨s, h, _⟩ := hs
    cases h
  | succ d ih =>
    intro j hj hs
    have hlt : j < row.length := by omega
    by_cases h1 : isNode G row[j]
    · refine Ev.suc (fun k => ?_) (ih (j + 1) (by omega) ?_)
      · simp only [digraph_Check.l1]
        rw [if_pos (by omega), if_pos (by omega), if_pos (by omega), rd_get row j hlt, if_neg (by unfold isNode at h1; omega), if_neg (by unfold isNode at h1; omega), w64 j row.length hlt hr]
      · rw [List.drop_eq_getElem_cons hlt] at hs
        obtain ⟨s, h2, h3⟩ := hs
        rcases List.mem_cons.1 h2 with h4 | h4
        · exact absurd (by rw [h4]; exact h1) h3
        · exact ⟨s, h4, h3⟩
    · refine Ev.suc (fun k => ?_) (Ev.ret 10)
      simp only [digraph_Check.l1]
      rw [if_pos (by omega), if_pos (by omega), if_pos (by omega), rd_get row j hlt]
      by_cases h2 : row[j] < 0
      · rw [if_pos h2]
      · rw [if_neg h2, if_pos (by unfold isNode at h1; omega)]
theorem chk_l0 (G : List (List Int)) (hs : short G) : ∀ (d i : Nat), i + d = G.length → Ev (fun k => digraph_Check.l0 k G (G.length : Int) (i : Int) G) (if (G.drop i).all (fun l => l.all fun s => decide (isNode G s)) = true then 0 else 10) := by
  intro d
  induction d with
  | zero =>
    intro i hi
    rw [List.drop_eq_nil_of_le (by omega)]
    refine Ev.suc (fun k => ?_) (Ev.ret 0)
    simp only [digraph_Check.l0]
    rw [if_neg (by omega)]
  | succ d ih =>
    intro i hi
    have hlt : i < G.length := by omega
    have hr := hs.2 _ (List.getElem_mem hlt)
    have hstep : ∀ k, digraph_Check.l0 (k + 1) G (G.length : Int) (i : Int) G = digraph_Check.l1 k G (G.length : Int) (i : Int) G[i] (G[i].length : Int) ((0 : Nat) : Int) G := by
      intro k
      simp only [digraph_Check.l0]
      rw [if_pos (by omega), if_pos (by omega), if_pos (by omega), rd1_get G i hlt]
      rfl
    rw [List.drop_eq_getElem_cons hlt, List.all_cons]
    by_cases h : (G[i].all fun s => decide (isNode G s)) = true
    · rw [h, Bool.true_and]
      refine Ev.suc hstep (chk_l1_good G hs.1 i G[i] hr _ ?_ G[i].length 0 (by omega) ?_)
      · rw [w64 i G.length hlt hs.1]; exact ih (i + 1) (by omega)
      · intro s h2; rw [List.drop_zero] at h2; simpa using List.all_eq_true.1 h s h2
    · rw [Bool.not_eq_true] at h
      rw [h, Bool.false_and, if_neg (by simp)]
      refine Ev.suc hstep (chk_l1_bad G i G[i] hr G[i].length 0 (by omega) ?_)
      rw [List.all_eq_false] at h
      obtain ⟨s, h2, h3⟩ := h
      exact ⟨s, by rw [List.drop_zero]; exact h2, by simpa using h3⟩
theorem chk_f (G : List (List Int)) (hs : short G) : Ev (fun k => digraph_Check.f k G) (chk G) := by
  unfold digraph_Check.f chk
  by_cases h : G.length > 65536
  · rw [if_pos h]
    exact Ev.of (fun k => by rw [if_pos (by omega)]) (Ev.ret 11)
  · rw [if_neg h]
    refine Ev.of (fun k => by rw [if_neg (by omega)]) ?_
    have := chk_l0 G hs G.length 0 (by omega)
    rw [List.drop_zero] at this
    exact this
/-! ### The comparisons. -/
/-! ### The number of edges. -/
def edges (G : List (List Int)) : Nat := (G.map List.length).sum
theorem row_le_edges : ∀ (G : List (List Int)) (l : List Int), l ∈ G → l.length ≤ edges G
  | [], _, h => by cases h
  | a :: G, l, h => by
    simp only [edges, List.map_cons, List.sum_cons]
    rcases List.mem_cons.1 h with rfl | h
    · omega
    · have := row_le_edges G l h
      simp only [edges] at this
      omega
end Go.Proofs.Ytmlikgmcekofbaa
end

section
/- The reference's search and reachability in plain lists. -/
set_option linter.unusedVariables false
set_option linter.unusedSimpArgs false
namespace Go.Proofs.Ytmlikgmcekofbaa
open Go.RowKit Go.Proofs.YtmlikgmcekofbaaW.PrintWords Go.Proofs.Ytmlikgmcekofbaa.PDigraphTells Grf

def adj (G : List (List Int)) (a : Int) : List Int := rd_L1 G a
def nodes (G : List (List Int)) : List Int := (List.range G.length).map fun (i : Nat) => (i : Int)
theorem mem_nodes (G : List (List Int)) (a : Int) : a ∈ nodes G ↔ isNode G a := by
  unfold nodes isNode
  rw [List.mem_map]
  constructor
  · rintro ⟨i, hi, rfl⟩
    rw [List.mem_range] at hi
    omega
  · intro h
    exact ⟨a.toNat, List.mem_range.2 (by omega), by omega⟩
theorem nodes_len (G : List (List Int)) : (nodes G).length = G.length := by unfold nodes; simp
theorem nodes_nd (G : List (List Int)) : (nodes G).Nodup := by
  unfold nodes
  unfold List.Nodup
  rw [List.pairwise_map]
  exact List.nodup_range.imp (fun h e => h (by omega))
theorem adj_eq {G : List (List Int)} {a : Int} (h : isNode G a) : ∃ (hi : a.toNat < G.length), adj G a = G[a.toNat] := by
  unfold isNode at h
  have hi : a.toNat < G.length := by omega
  exact ⟨hi, by unfold adj; simp [rd_L1, hi]⟩
theorem adj_mem {G : List (List Int)} {a : Int} (h : isNode G a) : adj G a ∈ G := by
  obtain ⟨hi, e⟩ := adj_eq h
  rw [e]
  exact List.getElem_mem hi
theorem adj_nat (G : List (List Int)) (i : Nat) (h : i < G.length) : adj G (i : Int) = G[i] := rd1_get G i h
/-- A graph that Check passes. -/
def okG (G : List (List Int)) : Prop := chk G = 0
theorem okG.len {G : List (List Int)} (h : okG G) : G.length ≤ 65536 := (chk_ok.1 h).1
theorem okG.row {G : List (List Int)} (h : okG G) {l : List Int} (hl : l ∈ G) {s : Int} (hs : s ∈ l) : isNode G s := (chk_ok.1 h).2 l hl s hs
theorem okG.adj {G : List (List Int)} (h : okG G) {a b : Int} (ha : isNode G a) (hb : b ∈ adj G a) : isNode G b := h.row (adj_mem ha) hb
theorem okG.cl {G : List (List Int)} (h : okG G) : ∀ a ∈ nodes G, ∀ b ∈ Go.Proofs.Ytmlikgmcekofbaa.adj G a, b ∈ nodes G := fun a ha b hb => (mem_nodes G b).2 (h.adj ((mem_nodes G a).1 ha) hb)

/-- The depth-first postorder. -/
def post (G : List (List Int)) (a : Int) : List Int := if chk G = 0 ∧ isNode G a then (visit (adj G) G.length a (fun _ => false) []).2 else []
theorem cnt_all (G : List (List Int)) : cnt (nodes G) (fun _ => false) = G.length := by
  unfold cnt
  rw [List.filter_eq_self.2 (by simp), nodes_len]
end Go.Proofs.Ytmlikgmcekofbaa
end

section
/- Small words on the machine's memory for the hand-made walks: a block's cells, and 'Kp S w w'': w' is w but for the blocks of S and new blocks. -/
set_option linter.unusedVariables false
namespace Go.Proofs.Ytmlikgmcekofbaa.Mem
open Go.RowKit Go.Proofs.YtmlikgmcekofbaaW.PrintWords

theorem cell_at {w : World} {p j t : Nat} {cs : Array Value} {v : Value} (h : w.heap[p]? = some (.cells cs t (0, 0))) (hj : cs[j]? = some v) : w.cell? ⟨p, j, none⟩ = some v := by
  simp [World.cell?, h, hj]
theorem free_at {w : World} {p t : Nat} {cs : Array Value} (h : w.heap[p]? = some (.cells cs t (0, 0))) (j : Nat) : w.frozen? ⟨p, j, none⟩ = false := by
  simp [World.frozen?, h]
theorem blk_lt' {w : World} {p : Nat} {o : Obj} (h : w.heap[p]? = some o) : p < w.heap.size := (Array.getElem?_eq_some_iff.1 h).1

theorem set_at {w : World} {p j t : Nat} {cs : Array Value} {fr : Nat × Nat} (h : w.heap[p]? = some (.cells cs t fr)) (v : Value) : (w.setCell ⟨p, j, none⟩ v).heap[p]? = some (.cells (cs.setIfInBounds j v) t fr) := by
  simp [World.setCell, Array.getElem?_modify, h]

theorem still_tail {P : Program} {id : Nat} {Q : Exit → Act → World → Prop} {a : Act} {w : World} {l : List Oper} (n : Nat) (hm : P.follows .mixedOrders = true) (hB : Region.lexTailB .any l.toArray n = true)
    (h : wpStill P l.toArray w.drew (fun a' => wpList P l.toArray Q (l.drop n) a' w.drew) (l.take n) a) : (Code.region id l.toArray true).wp P Q a w := wp_region_still_tail n hm hB h

structure Kp (S : Nat → Prop) (w w' : World) : Prop where
  os : w'.os = w.os
  tape : w'.tape = w.tape
  output : w'.output = w.output
  kept : Kept w w' S

section
variable {S S2 S' : Nat → Prop} {w W W2 : World}
theorem Kp.size (h : Kp S w W) : w.heap.size ≤ W.heap.size := h.kept.1
theorem Kp.block (h : Kp S w W) {k : Nat} (hk : k < w.heap.size) (hn : ¬ S k) : W.heap[k]? = w.heap[k]? := h.kept.2 k hk hn
theorem Kp.refl (S : Nat → Prop) (w : World) : Kp S w w := ⟨rfl, rfl, rfl, Kept.refl _ _⟩
theorem Kp.of_below (h : Below w.heap.size w W) (S : Nat → Prop) : Kp S w W := ⟨h.os, h.tape, h.output, Kept.of_below h S⟩
theorem Kp.mono (h : Kp S w W) (hs : ∀ k, S k → S' k) : Kp S' w W := ⟨h.os, h.tape, h.output, h.kept.mono hs⟩
theorem Kp.then_ (h : Kp S w W) (k : Kp S2 W W2) (hs : ∀ k, S2 k → S k ∨ w.heap.size ≤ k) : Kp S w W2 :=
  ⟨k.os.trans h.os, k.tape.trans h.tape, k.output.trans h.output, h.kept.then_ k.kept hs⟩
theorem Kp.alloc (h : Kp S w W) (o : Obj) : Kp S w (W.alloc o) := ⟨h.os, h.tape, h.output, h.kept.alloc o⟩
theorem Kp.drew (h : Kp S w W) : Kp S w W.drew := ⟨h.os, h.tape, h.output, h.kept⟩
theorem Kp.drewN (h : Kp S w W) (m : Nat) : Kp S w (W.drewN m) := ⟨h.os, h.tape, h.output, h.kept⟩
theorem Kp.setCell (h : Kp S w W) {p : Addr} (hp : S p.block ∨ w.heap.size ≤ p.block) (u : Value) : Kp S w (W.setCell p u) := ⟨h.os, h.tape, h.output, h.kept.setCell hp u⟩
theorem Kp.grown {row : Option Nat} (h : Kp S w W) (hg : W.grownBy W2 row) (hr : ∀ k, row = some k → S k ∨ w.heap.size ≤ k) : Kp S w W2 :=
  ⟨hg.os.trans h.os, hg.tape.trans h.tape, hg.output.trans h.output, Kept.of_grown hg h.kept hr⟩
theorem Kp.below (h : Kp S w W) (hs : ∀ k, S k → w.heap.size ≤ k) : Below w.heap.size w W :=
  ⟨h.os, h.tape, h.output, h.size, fun k hk => h.block hk (fun h' => by have := hs k h'; omega)⟩
theorem Kp.belowB {B : Nat} (h : Kp S w W) (hs : ∀ k, S k → B ≤ k) (hB : B ≤ w.heap.size) : Below B w W :=
  ⟨h.os, h.tape, h.output, h.size, fun k hk => h.block (by omega) (fun h' => by have := hs k h'; omega)⟩
theorem Kp.none_below (h : Kp (fun _ => False) w W) : Below w.heap.size w W := h.below (fun _ hk => hk.elim)
theorem Kp.blk {k : Nat} {o : Obj} (h : Kp S w W) (hb : w.heap[k]? = some o) (hn : ¬ S k) : W.heap[k]? = some o := (h.block (blk_lt' hb) hn).trans hb
end
end Go.Proofs.Ytmlikgmcekofbaa.Mem
end

