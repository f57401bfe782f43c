/- Printed functions of chapter 6; mended by mkQ.py. -/
import Derived.Test.YtjkclhpibielfaaQDigx0
import Derived.Test.YtjkclhpibielfaaQDigx5
namespace Go.Proofs.Ytjkclhpibielfaa.PDigraphTells
open Go.RowKit Go.Proofs.YtjkclhpibielfaaW.PrintWords Go.Proofs.YtjkclhpibielfaaW.PrintLast Go.Proofs.YtjkclhpibielfaaW.PrintMore
attribute [local go_sem] max2_int min2_int max_two min_two max_three min_three max_four min_four   -- for this text's walks alone
set_option linter.unusedVariables false
set_option linter.unusedSimpArgs false

/-! ### burnishref06_Reachable: function 18 -/
mutual
def burnishref06_Reachable.l0 : Nat → List Bool → Bool → List (List Int) → Option (List Bool)
  | 0, _, _, _ => none
  | k + 1, x5, x6, x236000 => if x6 = true then (burnishref06_Reachable.l1 k x5 false x236000 (x236000.length : Int) 0 x236000) else (some x5)
def burnishref06_Reachable.l1 : Nat → List Bool → Bool → List (List Int) → Int → Int → List (List Int) → Option (List Bool)
  | 0, _, _, _, _, _, _ => none
  | k + 1, x5, x6, x24, x25, x26, x236000 => if x26 < x25 then (if 0 ≤ x26 then (if x26 < (x24.length : Int) then (burnishref06_Reachable.l2 k x5 x6 x26 x24 x25 x26 (rd_L1 x24 x26) ((rd_L1 x24 x26).length : Int) 0 x236000) else (none)) else (none)) else (burnishref06_Reachable.l0 k x5 x6 x236000)
def burnishref06_Reachable.l2 : Nat → List Bool → Bool → Int → List (List Int) → Int → Int → List Int → Int → Int → List (List Int) → Option (List Bool)
  | 0, _, _, _, _, _, _, _, _, _, _ => none
  | k + 1, x5, x6, x7, x24, x25, x26, x31, x32, x33, x236000 => if x33 < x32 then (if 0 ≤ x33 then (if x33 < (x31.length : Int) then (if 0 ≤ x7 then (if x7 < (x5.length : Int) then (if rdOf false x5 x7 = true then (if 0 ≤ (rd x31 x33) then (if (rd x31 x33) < (x5.length : Int) then (if (rdOf false x5 (rd x31 x33) = true) then (burnishref06_Reachable.l2 k x5 x6 x7 x24 x25 x26 x31 x32 (wrap64 (x33 + 1)) x236000) else (burnishref06_Reachable.l2 k (x5.set ((rd x31 x33) : Int).toNat true) true x7 x24 x25 x26 x31 x32 (wrap64 (x33 + 1)) x236000)) else (none)) else (none)) else (burnishref06_Reachable.l2 k x5 x6 x7 x24 x25 x26 x31 x32 (wrap64 (x33 + 1)) x236000)) else (none)) else (none)) else (none)) else (none)) else (burnishref06_Reachable.l1 k x5 x6 x24 x25 (wrap64 (x26 + 1)) x236000)
end
def burnishref06_Reachable.f (k : Nat) (l0_0 : List (List Int)) (a1 : Int) : Option (List Bool) := (burnishref06_ok.f k l0_0 a1).bind fun t236 => (if t236 = true then (if 0 ≤ (l0_0.length : Int) then (if ((l0_0.length : Int) : Int).toNat ≤ 281474976710656 then ((some (List.replicate ((l0_0.length : Int) : Int).toNat false : List Bool)).bind fun y237 => (if 0 ≤ a1 then (if a1 < (y237.length : Int) then (burnishref06_Reachable.l0 k (y237.set (a1 : Int).toNat true) true l0_0) else (none)) else (none))) else (none)) else (none)) else (some ([] : List Bool)))
theorem burnishref06_Reachable.mono_l : ∀ k, (∀ y0 y1 y2, LeO (burnishref06_Reachable.l0 k y0 y1 y2) (burnishref06_Reachable.l0 (k + 1) y0 y1 y2)) ∧ (∀ y0 y1 y2 y3 y4 y5, LeO (burnishref06_Reachable.l1 k y0 y1 y2 y3 y4 y5) (burnishref06_Reachable.l1 (k + 1) y0 y1 y2 y3 y4 y5)) ∧ (∀ y0 y1 y2 y3 y4 y5 y6 y7 y8 y9, LeO (burnishref06_Reachable.l2 k y0 y1 y2 y3 y4 y5 y6 y7 y8 y9) (burnishref06_Reachable.l2 (k + 1) y0 y1 y2 y3 y4 y5 y6 y7 y8 y9))
  | 0 => ⟨fun _ _ _ r h => by simp [burnishref06_Reachable.l0] at h, fun _ _ _ _ _ _ r h => by simp [burnishref06_Reachable.l1] at h, fun _ _ _ _ _ _ _ _ _ _ r h => by simp [burnishref06_Reachable.l2] at h⟩
  | k + 1 => by
    obtain ⟨ih0, ih1, ih2⟩ := burnishref06_Reachable.mono_l k
    refine ⟨?_, ?_, ?_⟩
    · intro y0 y1 y2
      unfold burnishref06_Reachable.l0
      repeat' first
      | (with_reducible exact ih0 _ _ _)
      | (with_reducible exact ih1 _ _ _ _ _ _)
      | (with_reducible exact ih2 _ _ _ _ _ _ _ _ _ _)
      | (with_reducible exact burnishref06_ok.mono _ _ _)
      | (with_reducible exact LeO.refl _)
      | (with_reducible exact LeO.none _)
      | (with_reducible refine LeO.ite ?_ ?_)
      | (with_reducible refine LeO.bind ?_ (fun _ => ?_))
      | exact ih0 _ _ _
      | exact ih1 _ _ _ _ _ _
      | exact ih2 _ _ _ _ _ _ _ _ _ _
      | exact burnishref06_ok.mono _ _ _
      | exact LeO.none _
      | refine LeO.ite ?_ ?_
      | refine LeO.bind ?_ (fun _ => ?_)
    · intro y0 y1 y2 y3 y4 y5
      unfold burnishref06_Reachable.l1
      repeat' first
      | (with_reducible exact ih0 _ _ _)
      | (with_reducible exact ih1 _ _ _ _ _ _)
      | (with_reducible exact ih2 _ _ _ _ _ _ _ _ _ _)
      | (with_reducible exact burnishref06_ok.mono _ _ _)
      | (with_reducible exact LeO.refl _)
      | (with_reducible exact LeO.none _)
      | (with_reducible refine LeO.ite ?_ ?_)
      | (with_reducible refine LeO.bind ?_ (fun _ => ?_))
      | exact ih0 _ _ _
      | exact ih1 _ _ _ _ _ _
      | exact ih2 _ _ _ _ _ _ _ _ _ _
      | exact burnishref06_ok.mono _ _ _
      | exact LeO.none _
      | refine LeO.ite ?_ ?_
      | refine LeO.bind ?_ (fun _ => ?_)
    · intro y0 y1 y2 y3 y4 y5 y6 y7 y8 y9
      unfold burnishref06_Reachable.l2
      repeat' first
      | (with_reducible exact ih0 _ _ _)
      | (with_reducible exact ih1 _ _ _ _ _ _)
      | (with_reducible exact ih2 _ _ _ _ _ _ _ _ _ _)
      | (with_reducible exact burnishref06_ok.mono _ _ _)
      | (with_reducible exact LeO.refl _)
      | (with_reducible exact LeO.none _)
      | (with_reducible refine LeO.ite ?_ ?_)
      | (with_reducible refine LeO.bind ?_ (fun _ => ?_))
      | exact ih0 _ _ _
      | exact ih1 _ _ _ _ _ _
      | exact ih2 _ _ _ _ _ _ _ _ _ _
      | exact burnishref06_ok.mono _ _ _
      | exact LeO.none _
      | refine LeO.ite ?_ ?_
      | refine LeO.bind ?_ (fun _ => ?_)
theorem burnishref06_Reachable.mono : ∀ a0 a1 k, LeO (burnishref06_Reachable.f k a0 a1) (burnishref06_Reachable.f (k + 1) a0 a1) := by
  intro a0 a1 k
  obtain ⟨ih0, ih1, ih2⟩ := burnishref06_Reachable.mono_l k
  unfold burnishref06_Reachable.f
  repeat' first
      | (with_reducible exact ih0 _ _ _)
      | (with_reducible exact ih1 _ _ _ _ _ _)
      | (with_reducible exact ih2 _ _ _ _ _ _ _ _ _ _)
      | (with_reducible exact burnishref06_ok.mono _ _ _)
      | (with_reducible exact LeO.refl _)
      | (with_reducible exact LeO.none _)
      | (with_reducible refine LeO.ite ?_ ?_)
      | (with_reducible refine LeO.bind ?_ (fun _ => ?_))
      | exact ih0 _ _ _
      | exact ih1 _ _ _ _ _ _
      | exact ih2 _ _ _ _ _ _ _ _ _ _
      | exact burnishref06_ok.mono _ _ _
      | exact LeO.none _
      | refine LeO.ite ?_ ?_
      | refine LeO.bind ?_ (fun _ => ?_)
set_option maxHeartbeats 8000000 in
set_option maxRecDepth 100000 in
theorem burnishref06_Reachable.calls (k : Nat) (A0_0 : Option Addr) (c0_0 : Nat) (l0_0 : List (List Int)) (a1 : Int) (r : List Bool) (w : World) (hr0_0 : Kd.C (Kd.slice 3 (Kd.int .i64)) w A0_0 l0_0.length l0_0) (hc0_0 : l0_0.length ≤ c0_0) (h : burnishref06_Reachable.f k l0_0 a1 = some r) :
    Calls Try.prog 18 #[.agg #[.slice A0_0 l0_0.length c0_0], .int .i64 a1] w fun e w' => ∃ v0_ : Value, e = .returned (v0_) ∧ Kd.R Kd.bool 4 w' w.heap.size (fun _ => True) v0_ r ∧ Below w.heap.size w w' := by
  have hu24 := Try.underlying24
  have HR0_0 := Aside0.mk hr0_0
  have HC0_0 := Aside0.mk hc0_0
  clear hr0_0 hc0_0
  have HB := Aside0.mk (Below.refl w.heap.size w)
  have H : ((burnishref06_ok.f k l0_0 a1).bind fun t236 => (if t236 = true then (if 0 ≤ (l0_0.length : Int) then (if ((l0_0.length : Int) : Int).toNat ≤ 281474976710656 then ((some (List.replicate ((l0_0.length : Int) : Int).toNat false : List Bool)).bind fun y237 => (if 0 ≤ a1 then (if a1 < (y237.length : Int) then (burnishref06_Reachable.l0 k (y237.set (a1 : Int).toNat true) true l0_0) else (none)) else (none))) else (none)) else (none)) else (some ([] : List Bool)))) = some r := h
  clear h
  replace H := Option.bind_eq_some_iff.mp H
  obtain ⟨t236, A30, H⟩ := H
  replace H : (if t236 = true then (if 0 ≤ (l0_0.length : Int) then (if ((l0_0.length : Int) : Int).toNat ≤ 281474976710656 then ((some (List.replicate ((l0_0.length : Int) : Int).toNat false : List Bool)).bind fun y237 => (if 0 ≤ a1 then (if a1 < (y237.length : Int) then (burnishref06_Reachable.l0 k (y237.set (a1 : Int).toNat true) true l0_0) else (none)) else (none))) else (none)) else (none)) else (some ([] : List Bool))) = some r := H
  have A3 := Aside0.mk A30
  clear A30
  by_cases c4 : t236 = true
  · subst c4
    have H1 : (if 0 ≤ (l0_0.length : Int) then (if ((l0_0.length : Int) : Int).toNat ≤ 281474976710656 then ((some (List.replicate ((l0_0.length : Int) : Int).toNat false : List Bool)).bind fun y237 => (if 0 ≤ a1 then (if a1 < (y237.length : Int) then (burnishref06_Reachable.l0 k (y237.set (a1 : Int).toNat true) true l0_0) else (none)) else (none))) else (none)) else (none)) = some r := by rw [if_pos rfl] at H; exact H
    clear H
    have H := H1
    clear H1
    by_cases c5 : 0 ≤ (l0_0.length : Int)
    · rw [if_pos c5] at H
      have c5b0 := eq_true c5
      have c5b1 : decide (0 ≤ (l0_0.length : Int)) = true := decide_eq_true c5
      clear c5
      by_cases c6 : ((l0_0.length : Int) : Int).toNat ≤ 281474976710656
      · rw [if_pos c6] at H
        have c6b0 := eq_true c6
        have c6b1 : decide (((l0_0.length : Int) : Int).toNat ≤ 281474976710656) = true := decide_eq_true c6
        clear c6
        obtain ⟨y237, hy237⟩ : ∃ y_ : List Bool, y_ = (List.replicate ((l0_0.length : Int) : Int).toNat false) := ⟨_, rfl⟩
        replace H : (if 0 ≤ a1 then (if a1 < (y237.length : Int) then (burnishref06_Reachable.l0 k (y237.set (a1 : Int).toNat true) true l0_0) else (none)) else (none)) = some r := by first | (rw [hy237]; with_reducible exact H) | (have H2_ := (Option.bind_some _ _).symm.trans H; rw [hy237]; with_reducible exact H2_) | (have H2_ := (Option.bind_some _ _).symm.trans H; with_reducible exact H2_) | with_reducible exact H | (rw [hy237]; exact H) | exact H
        have Ny237 := Aside0.mk hy237
        clear hy237
        by_cases c7 : 0 ≤ a1
        · rw [if_pos c7] at H
          have c7b0 : decide (0 ≤ a1) = true := decide_eq_true c7
          clear c7
          by_cases c8 : a1 < (y237.length : Int)
          · rw [if_pos c8] at H
            have c8b0 : decide (a1 < (y237.length : Int)) = true := decide_eq_true c8
            clear c8
            obtain ⟨y240, hy240⟩ : ∃ y_ : List Bool, y_ = (y237.set (a1 : Int).toNat true) := ⟨_, rfl⟩
            replace H : (burnishref06_Reachable.l0 k y240 true l0_0) = some r := by first | (rw [hy240]; with_reducible exact H) | (have H2_ := (Option.bind_some _ _).symm.trans H; rw [hy240]; with_reducible exact H2_) | (have H2_ := (Option.bind_some _ _).symm.trans H; with_reducible exact H2_) | with_reducible exact H | (rw [hy240]; exact H) | exact H
            have Ny240 := Aside0.mk hy240
            clear hy240
            have H' := Aside0.mk H
            clear H
            go_enter Try.func18, Try.ntmps18
            go_wp2_with (first | ((with_reducible refine gate_dst (N := 2) rfl ?_); refine box_event ?hg (N := 2) ?hd (cs := #[.slice A0_0 l0_0.length c0_0]) (t := 24) ?hr ?_; (case hd => rfl); (case hg => rfl); (case hr => first | (go_simp; done) | (go_simp; rfl)); intro gb235 hg w10 hbox hb; have n0_ := Aside0.mk (below_step (by repeat (first | (with_reducible first | exact HB.out | apply below_alloc | apply pw_below_drewN | apply below_drew1) | exact HB.out)) hb); have n1_ := Aside0.mk (hbox); have n2_ := Aside0.mk ((by rw [hg]; exact (below_size (by repeat (first | (with_reducible first | exact HB.out | apply below_alloc | apply pw_below_drewN | apply below_drew1) | exact HB.out))) : w.heap.size ≤ gb235)); have n3_ := Aside0.mk ((by rw [hg]; exact (below_size (by repeat (first | (with_reducible first | exact HB.out | apply below_alloc | apply pw_below_drewN | apply below_drew1) | exact HB.out))) : w.heap.size ≤ gb235)); clear HB; have HB := n0_; have BK235 := n1_; have GW235 := n2_; have GE235 := n3_; clear n0_ n1_ n2_ n3_; clear hb hbox hg; have hcz11_0 : w10.cell? ⟨gb235, 0, none⟩ = some (.slice A0_0 l0_0.length c0_0) := (blk_cell BK235.out 0).trans rfl; have hfz11_0 := blk_frozen BK235.out 0) | ((with_reducible refine gate_callee (f := 29) rfl ?_); refine goesL_ (some 13) rfl rfl Try.func29 (by kernel_rfl) rfl #[.agg #[.slice A0_0 l0_0.length c0_0], .int .i64 a1] rfl (by (try simp only [List.map_toArray, List.map_cons, List.map_nil]); first | done | rfl | (simp only [List.length_drop, List.length_take]; rfl)) ?_; (with_reducible refine (burnishref06_ok.calls k _ _ l0_0 a1 true _ ?side1 ?side2 A3.out).mono ?_); (case side1 => repeat (first | exact (Kd.C_below HR0_0.out HB.out) | (with_reducible refine Kd.C_alloc ?_ _) | (with_reducible refine Kd.C_drewN ?_ _) | (with_reducible refine Kd.C_drew ?_))); (case side2 => exact HC0_0.out); rintro e w12 ⟨rfl, hb⟩; refine ⟨_, rfl, ?_⟩; have n0_ := Aside0.mk (blk_below (g := gb235) (o := .cells #[.slice A0_0 l0_0.length c0_0] 24 (0, 0)) (by (with_reducible repeat (first | refine blk_drewN ?_ _ | refine blk_drew ?_ | refine blk_alloc ?_ _)); exact BK235.out) hb); have n1_ := Aside0.mk (below_step (by repeat (first | (with_reducible first | exact HB.out | apply below_alloc | apply pw_below_drewN | apply below_drew1 | refine below_set ?_ GE235.out) | exact HB.out)) hb); clear BK235; clear HB; have BK235 := n0_; have HB := n1_; clear n0_ n1_; (try clear hb); (try clear hb2); (try clear hk); (try clear hi); have hcz13_0 : w12.cell? ⟨gb235, 0, none⟩ = some (.slice A0_0 l0_0.length c0_0) := (blk_cell BK235.out 0).trans rfl; have hfz13_0 := blk_frozen BK235.out 0) | ((with_reducible refine gate_dst (N := 18) rfl ?_); refine Kd.R_make Kd.bool _ 4 rfl (N := 18) rfl 33 _ _ rfl (l0_0.length : Int) rfl rfl Try.underlying33 (.bool false) 1 info4 rfl (by decide) (by omega) false (ok := fun _ => True) (okp := fun _ => True) rfl (fun _ hk => hk) trivial (of_decide_eq_true (by first | (with_reducible assumption) | assumption)) (Nat.le_trans (Nat.mul_le_mul_right _ (of_decide_eq_true (by first | (with_reducible assumption) | assumption) : (l0_0.length : Int).toNat ≤ 281474976710656)) (by omega)) (Below.refl _ _) (Nat.le_refl _) ?_; intro v238 w14 ho15 hb hg_ hnew_; clear hg_ hnew_; (first | rw [← Ny237.out] at ho15 | (simp only [Int.reduceToNat] at ho15; rw [← Ny237.out] at ho15)); have n0_ := Aside0.mk (Kd.R_lower ho15 (below_size (by repeat (first | (with_reducible first | exact HB.out | apply below_alloc | apply pw_below_drewN | apply below_drew1 | refine below_set ?_ GE235.out) | exact HB.out)))); have n1_ := Aside0.mk (blk_below (g := gb235) (o := .cells #[.slice A0_0 l0_0.length c0_0] 24 (0, 0)) (by (with_reducible repeat (first | refine blk_drewN ?_ _ | refine blk_drew ?_ | refine blk_alloc ?_ _)); exact BK235.out) hb); have n2_ := Aside0.mk (below_step (by repeat (first | (with_reducible first | exact HB.out | apply below_alloc | apply pw_below_drewN | apply below_drew1 | refine below_set ?_ GE235.out) | exact HB.out)) hb); clear BK235; clear HB; have HO239 := n0_; have BK235 := n1_; have HB := n2_; clear n0_ n1_ n2_; clear hb ho15; have p9 : 0 ≤ (a1 : Int) := of_decide_eq_true (by first | (with_reducible assumption) | assumption); have q9 : (a1 : Int) < ((y237.length : Int) : Int) := of_decide_eq_true (by first | (with_reducible assumption) | assumption); obtain ⟨go9, co9, eo9, gb9, gl9, cl9, HG9⟩ := Kd.R_form HO239.out (by omega); (first | cases eo9 | (injection eo9 with ea_ en_ ec_; (first | subst ea_ | (injection ea_ with ea_; subst ea_)); subst ec_; clear en_)); have GB9 := Aside0.mk gb9; have GG9 := Aside0.mk HG9; clear gb9 gl9 HG9; obtain ⟨hx9_0, hf9_0⟩ := Kd.R_celln false HO239.out (a1 : Int) p9 q9; replace p9 := eq_true p9; replace q9 := eq_true q9; obtain ⟨hy16_, hz16_⟩ := Kd.R_celln false HO239.out (a1 : Int) (of_decide_eq_true (by first | (with_reducible assumption) | assumption)) (of_decide_eq_true (by first | (with_reducible assumption) | assumption)); have HP16 := Kd.R_putg HO239.out (a1 : Int) true) | ((with_reducible refine gate_store (t := 4) (p := 21) rfl ?_); refine store_event (t := 4) (p := 21) (v := ?vo_w17) (w1 := (w14.setCell ⟨go9, (a1 : Int).toNat, none⟩ (.bool true))) ?hg ?ho ?hn ?hr ?_; (case ho => rfl); (case hg => rfl); (case hn => rfl); (case hr => first | (go_simp; done) | (go_simp; rfl)); intro w17 hw; have hg : w14.grownBy w17 (some go9) := (by rw [hw]; exact HP16.2); have hp_ : Kd.R Kd.bool 4 w17 w.heap.size (fun _ => True) (.slice (some ⟨go9, 0, none⟩) y237.length co9) y240 := (by rw [hw, Ny240.out]; exact HP16.1); clear HP16; have n0_ := Aside0.mk (blk_grown (g := gb235) (o := .cells #[.slice A0_0 l0_0.length c0_0] 24 (0, 0)) (by (with_reducible repeat (first | refine blk_drewN ?_ _ | refine blk_drew ?_ | refine blk_alloc ?_ _)); exact BK235.out) hg (Kd.R_ne HO239.out BK235.out (by decide))); have n1_ := Aside0.mk (hp_); have n2_ := Aside0.mk ((by rw [hw]; exact below_set (HB.out) GB9.out : Below w.heap.size w w17)); clear BK235; clear HO239; clear HB; have BK235 := n0_; have HO239 := n1_; have HB := n2_; clear n0_ n1_ n2_; clear hg hw hp_))
            go_loopg [6] k (fun kq v6 w' => ∃ (x5_1 : List Bool) (x6_1 : Bool), v6 = .bool x6_1 ∧ Aside0 (burnishref06_Reachable.l0 kq x5_1 x6_1 l0_0 = some r) ∧ Aside0 (kq ≤ k) ∧ Aside0 (Kd.R Kd.bool 4 w' w.heap.size (fun _ => True) (.slice (some ⟨go9, 0, none⟩) y237.length co9) x5_1) ∧ Aside0 (w'.heap[gb235]? = some (.cells #[(.slice A0_0 l0_0.length c0_0)] 24 (0, 0))) ∧ Aside0 (Below w.heap.size w w'))
            case atStart => exact ⟨(y240), (true), (by first | rfl | (simp; done) | (simp [*]; done)), H', ⟨Nat.le_refl _⟩, ⟨by (with_reducible repeat (first | apply Kd.R_alloc | apply Kd.R_drewN | apply Kd.R_drew)); exact HO239.out⟩, ⟨by (with_reducible repeat (first | refine blk_drewN ?_ _ | refine blk_drew ?_ | refine blk_alloc ?_ _)); exact BK235.out⟩, ⟨by repeat (first | (with_reducible first | exact HB.out | apply below_alloc | apply pw_below_drewN | apply below_drew1 | refine below_set ?_ GE235.out) | exact HB.out)⟩⟩
            case round =>
              clear H'
              try clear c1
              try clear c2
              try clear p2
              try clear c4
              try clear c5
              try clear c5b0
              try clear c5b1
              try clear c6
              try clear c6b0
              try clear c6b1
              try clear c7
              try clear c7b0
              try clear c8
              try clear c8b0
              try clear p9
              try clear q9
              try clear hx9
              try clear hf9
              try clear hcz11_0
              try clear hcz13_0
              try clear hfz11_0
              try clear hfz13_0
              try clear hx9_0
              try clear p9
              try clear q9
              obtain ⟨x5_1, x6_1, rfl, HA, HK1, HO_5, BK235, HB⟩ := hrel
              have hl5_1 := (Kd.R_reads' HO_5.out).1
              rw [hl5_1] at HO_5
              (try simp only [hl5_1])
              (try simp only [hl5_1] at BK235)
              cases gk with
              | zero => exact absurd HA.out (by simp [burnishref06_Reachable.l0])
              | succ k1 =>
                have H := HA.out
                clear HA
                simp only [burnishref06_Reachable.l0] at H
                by_cases c18 : x6_1 = true
                · subst c18
                  have H1 : (burnishref06_Reachable.l1 k1 x5_1 false l0_0 (l0_0.length : Int) 0 l0_0) = some r := by rw [if_pos rfl] at H; exact H
                  clear H
                  have H := H1
                  clear H1
                  have H' := Aside0.mk H
                  clear H
                  have hcz19_0 : wr.cell? ⟨gb235, 0, none⟩ = some (.slice A0_0 l0_0.length c0_0) := (blk_cell BK235.out 0).trans rfl
                  have hfz19_0 := blk_frozen BK235.out 0
                  go_wp2
                  go_loopg [6, 26] k1 (fun kq v6 v26 w' => ∃ (x5_2 : List Bool) (x6_2 : Bool) (x26_2 : Int), v6 = .bool x6_2 ∧ v26 = .int .i64 x26_2 ∧ Aside0 (burnishref06_Reachable.l1 kq x5_2 x6_2 l0_0 (l0_0.length : Int) x26_2 l0_0 = some r) ∧ Aside0 (kq ≤ k1) ∧ Aside0 (Kd.R Kd.bool 4 w' w.heap.size (fun _ => True) (.slice (some ⟨go9, 0, none⟩) x5_1.length co9) x5_2) ∧ Aside0 (w'.heap[gb235]? = some (.cells #[(.slice A0_0 l0_0.length c0_0)] 24 (0, 0))) ∧ Aside0 (Below w.heap.size w w'))
                  case atStart => exact ⟨(x5_1), (false), (0), (by first | rfl | (simp; done) | (simp [*]; done)), (by first | rfl | (simp; done) | (simp [*]; done)), H', ⟨Nat.le_refl _⟩, ⟨by (try simp only [hl5_1]); (with_reducible repeat (first | apply Kd.R_alloc | apply Kd.R_drewN | apply Kd.R_drew)); exact HO_5.out⟩, ⟨by (try simp only [hl5_1]); (with_reducible repeat (first | refine blk_drewN ?_ _ | refine blk_drew ?_ | refine blk_alloc ?_ _)); exact BK235.out⟩, ⟨by repeat (first | (with_reducible first | exact HB.out | apply below_alloc | apply pw_below_drewN | apply below_drew1 | refine below_set ?_ GE235.out) | exact HB.out)⟩⟩
                  case round =>
                    clear H'
                    try clear c1
                    try clear c2
                    try clear p2
                    try clear c4
                    try clear c5
                    try clear c5b0
                    try clear c5b1
                    try clear c6
                    try clear c6b0
                    try clear c6b1
                    try clear c7
                    try clear c7b0
                    try clear c8
                    try clear c8b0
                    try clear p9
                    try clear q9
                    try clear hx9
                    try clear hf9
                    try clear c18
                    try clear hcz11_0
                    try clear hcz13_0
                    try clear hcz19_0
                    try clear hfz11_0
                    try clear hfz13_0
                    try clear hfz19_0
                    try clear hx9_0
                    try clear p2
                    try clear p9
                    try clear q9
                    obtain ⟨x5_2, x6_2, x26_2, rfl, rfl, HA, HK2, HO_5, BK235, HB⟩ := hrel
                    have hl5_2 := (Kd.R_reads' HO_5.out).1
                    rw [hl5_2] at HO_5
                    (try simp only [hl5_2])
                    (try simp only [hl5_2] at BK235)
                    cases gk with
                    | zero => exact absurd HA.out (by simp [burnishref06_Reachable.l1])
                    | succ k2 =>
                      have H := HA.out
                      clear HA
                      simp only [burnishref06_Reachable.l1] at H
                      by_cases c20 : x26_2 < (l0_0.length : Int)
                      · rw [if_pos c20] at H
                        have c20b0 : decide (x26_2 < (l0_0.length : Int)) = true := decide_eq_true c20
                        clear c20
                        by_cases c21 : 0 ≤ x26_2
                        · rw [if_pos c21] at H
                          have c21b0 : decide (0 ≤ x26_2) = true := decide_eq_true c21
                          clear c21
                          by_cases c22 : x26_2 < (l0_0.length : Int)
                          · rw [if_pos c22] at H
                            have c22b0 : decide (x26_2 < (l0_0.length : Int)) = true := decide_eq_true c22
                            clear c22
                            have H' := Aside0.mk H
                            clear H
                            have p241 : 0 ≤ (x26_2 : Int) := of_decide_eq_true (by first | (with_reducible assumption) | assumption)
                            have q241 : x26_2 < (l0_0.length : Int) := of_decide_eq_true (by first | (with_reducible assumption) | assumption)
                            obtain ⟨ad241, A241_0, c241_0, e241, hx241_0, hl241_0, hi241_0⟩ := at_L1 HR0_0.out x26_2 p241 q241
                            cases e241
                            replace hx241_0 := (HB.out.cell (World.block_lt_of_cell? w _ hx241_0)).trans hx241_0
                            have HR241_0 := Aside0.mk hi241_0
                            have HC241_0 := Aside0.mk hl241_0
                            clear hi241_0 hl241_0
                            replace p241 := eq_true p241
                            replace q241 := eq_true q241
                            go_wp2
                            go_loopg [6, 33] k2 (fun kq v6 v33 w' => ∃ (x5_3 : List Bool) (x6_3 : Bool) (x33_3 : Int), v6 = .bool x6_3 ∧ v33 = .int .i64 x33_3 ∧ Aside0 (burnishref06_Reachable.l2 kq x5_3 x6_3 x26_2 l0_0 (l0_0.length : Int) x26_2 (rd_L1 l0_0 x26_2) ((rd_L1 l0_0 x26_2).length : Int) x33_3 l0_0 = some r) ∧ Aside0 (kq ≤ k2) ∧ Aside0 (Kd.R Kd.bool 4 w' w.heap.size (fun _ => True) (.slice (some ⟨go9, 0, none⟩) x5_2.length co9) x5_3) ∧ Aside0 (w'.heap[gb235]? = some (.cells #[(.slice (some ad241) l0_0.length c0_0)] 24 (0, 0))) ∧ Aside0 (Below w.heap.size w w'))
                            case atStart => exact ⟨(x5_2), (x6_2), (0), (by first | rfl | (simp; done) | (simp [*]; done)), (by first | rfl | (simp; done) | (simp [*]; done)), H', ⟨Nat.le_refl _⟩, ⟨by (try simp only [hl5_1]); (try simp only [hl5_2]); (with_reducible repeat (first | apply Kd.R_alloc | apply Kd.R_drewN | apply Kd.R_drew)); exact HO_5.out⟩, ⟨by (try simp only [hl5_1]); (try simp only [hl5_2]); (with_reducible repeat (first | refine blk_drewN ?_ _ | refine blk_drew ?_ | refine blk_alloc ?_ _)); exact BK235.out⟩, ⟨by repeat (first | (with_reducible first | exact HB.out | apply below_alloc | apply pw_below_drewN | apply below_drew1 | refine below_set ?_ GE235.out) | exact HB.out)⟩⟩
                            case round =>
                              clear H'
                              try clear c1
                              try clear c2
                              try clear p2
                              try clear q2
                              try clear hx2
                              try clear c4
                              try clear c5
                              try clear c5b0
                              try clear c5b1
                              try clear c6
                              try clear c6b0
                              try clear c6b1
                              try clear c7
                              try clear c7b0
                              try clear c8
                              try clear c8b0
                              try clear p9
                              try clear q9
                              try clear hx9
                              try clear hf9
                              try clear c18
                              try clear c20
                              try clear c20b0
                              try clear c21
                              try clear c21b0
                              try clear c22
                              try clear c22b0
                              try clear hcz11_0
                              try clear hcz13_0
                              try clear hcz19_0
                              try clear hfz11_0
                              try clear hfz13_0
                              try clear hfz19_0
                              try clear hx241_0
                              try clear hx9_0
                              try clear p2
                              try clear p241
                              try clear p9
                              try clear q241
                              try clear q9
                              obtain ⟨x5_3, x6_3, x33_3, rfl, rfl, HA, HK3, HO_5, BK235, HB⟩ := hrel
                              have hl5_3 := (Kd.R_reads' HO_5.out).1
                              rw [hl5_3] at HO_5
                              (try simp only [hl5_3])
                              (try simp only [hl5_3] at BK235)
                              cases gk with
                              | zero => exact absurd HA.out (by simp [burnishref06_Reachable.l2])
                              | succ k3 =>
                                have H := HA.out
                                clear HA
                                simp only [burnishref06_Reachable.l2] at H
                                by_cases c23 : x33_3 < ((rd_L1 l0_0 x26_2).length : Int)
                                · rw [if_pos c23] at H
                                  have c23b0 : decide (x33_3 < ((rd_L1 l0_0 x26_2).length : Int)) = true := decide_eq_true c23
                                  clear c23
                                  by_cases c24 : 0 ≤ x33_3
                                  · rw [if_pos c24] at H
                                    have c24b0 : decide (0 ≤ x33_3) = true := decide_eq_true c24
                                    clear c24
                                    by_cases c25 : x33_3 < ((rd_L1 l0_0 x26_2).length : Int)
                                    · rw [if_pos c25] at H
                                      have c25b0 : decide (x33_3 < ((rd_L1 l0_0 x26_2).length : Int)) = true := decide_eq_true c25
                                      clear c25
                                      by_cases c26 : 0 ≤ x26_2
                                      · rw [if_pos c26] at H
                                        have c26b0 : decide (0 ≤ x26_2) = true := decide_eq_true c26
                                        clear c26
                                        by_cases c27 : x26_2 < (x5_3.length : Int)
                                        · rw [if_pos c27] at H
                                          have c27b0 : decide (x26_2 < (x5_3.length : Int)) = true := decide_eq_true c27
                                          clear c27
                                          obtain ⟨bq28, hbq28⟩ : ∃ b_ : Bool, b_ = (rdOf false x5_3 x26_2) := ⟨_, rfl⟩
                                          replace H : (if bq28 = true then (if 0 ≤ (rd (rd_L1 l0_0 x26_2) x33_3) then (if (rd (rd_L1 l0_0 x26_2) x33_3) < (x5_3.length : Int) then (if (rdOf false x5_3 (rd (rd_L1 l0_0 x26_2) x33_3) = true) then (burnishref06_Reachable.l2 k3 x5_3 x6_3 x26_2 l0_0 (l0_0.length : Int) x26_2 (rd_L1 l0_0 x26_2) ((rd_L1 l0_0 x26_2).length : Int) (wrap64 (x33_3 + 1)) l0_0) else (burnishref06_Reachable.l2 k3 (x5_3.set ((rd (rd_L1 l0_0 x26_2) x33_3) : Int).toNat true) true x26_2 l0_0 (l0_0.length : Int) x26_2 (rd_L1 l0_0 x26_2) ((rd_L1 l0_0 x26_2).length : Int) (wrap64 (x33_3 + 1)) l0_0)) else (none)) else (none)) else (burnishref06_Reachable.l2 k3 x5_3 x6_3 x26_2 l0_0 (l0_0.length : Int) x26_2 (rd_L1 l0_0 x26_2) ((rd_L1 l0_0 x26_2).length : Int) (wrap64 (x33_3 + 1)) l0_0)) = some r := by rw [← hbq28] at H; exact H
                                          have Nbq28 := Aside0.mk hbq28
                                          clear hbq28
                                          by_cases c29 : bq28 = true
                                          · subst c29
                                            have H1 : (if 0 ≤ (rd (rd_L1 l0_0 x26_2) x33_3) then (if (rd (rd_L1 l0_0 x26_2) x33_3) < (x5_3.length : Int) then (if (rdOf false x5_3 (rd (rd_L1 l0_0 x26_2) x33_3) = true) then (burnishref06_Reachable.l2 k3 x5_3 x6_3 x26_2 l0_0 (l0_0.length : Int) x26_2 (rd_L1 l0_0 x26_2) ((rd_L1 l0_0 x26_2).length : Int) (wrap64 (x33_3 + 1)) l0_0) else (burnishref06_Reachable.l2 k3 (x5_3.set ((rd (rd_L1 l0_0 x26_2) x33_3) : Int).toNat true) true x26_2 l0_0 (l0_0.length : Int) x26_2 (rd_L1 l0_0 x26_2) ((rd_L1 l0_0 x26_2).length : Int) (wrap64 (x33_3 + 1)) l0_0)) else (none)) else (none)) = some r := by rw [if_pos rfl] at H; exact H
                                            clear H
                                            have H := H1
                                            clear H1
                                            by_cases c30 : 0 ≤ (rd (rd_L1 l0_0 x26_2) x33_3)
                                            · rw [if_pos c30] at H
                                              have c30b0 : decide (0 ≤ (rd (rd_L1 l0_0 x26_2) x33_3)) = true := decide_eq_true c30
                                              clear c30
                                              by_cases c31 : (rd (rd_L1 l0_0 x26_2) x33_3) < (x5_3.length : Int)
                                              · rw [if_pos c31] at H
                                                have c31b0 : decide ((rd (rd_L1 l0_0 x26_2) x33_3) < (x5_3.length : Int)) = true := decide_eq_true c31
                                                clear c31
                                                obtain ⟨bq32, hbq32⟩ : ∃ b_ : Bool, b_ = (rdOf false x5_3 (rd (rd_L1 l0_0 x26_2) x33_3)) := ⟨_, rfl⟩
                                                replace H : (if (bq32 = true) then (burnishref06_Reachable.l2 k3 x5_3 x6_3 x26_2 l0_0 (l0_0.length : Int) x26_2 (rd_L1 l0_0 x26_2) ((rd_L1 l0_0 x26_2).length : Int) (wrap64 (x33_3 + 1)) l0_0) else (burnishref06_Reachable.l2 k3 (x5_3.set ((rd (rd_L1 l0_0 x26_2) x33_3) : Int).toNat true) true x26_2 l0_0 (l0_0.length : Int) x26_2 (rd_L1 l0_0 x26_2) ((rd_L1 l0_0 x26_2).length : Int) (wrap64 (x33_3 + 1)) l0_0)) = some r := by rw [← hbq32] at H; exact H
                                                have Nbq32 := Aside0.mk hbq32
                                                clear hbq32
                                                by_cases c33 : (bq32 = true)
                                                · subst c33
                                                  have H1 : (burnishref06_Reachable.l2 k3 x5_3 x6_3 x26_2 l0_0 (l0_0.length : Int) x26_2 (rd_L1 l0_0 x26_2) ((rd_L1 l0_0 x26_2).length : Int) (wrap64 (x33_3 + 1)) l0_0) = some r := by rw [if_pos rfl] at H; exact H
                                                  clear H
                                                  have H := H1
                                                  clear H1
                                                  have H' := Aside0.mk H
                                                  clear H
                                                  have p242 : 0 ≤ (x33_3 : Int) := of_decide_eq_true (by first | (with_reducible assumption) | assumption)
                                                  have q242 : x33_3 < ((rd_L1 l0_0 x26_2).length : Int) := of_decide_eq_true (by first | (with_reducible assumption) | assumption)
                                                  obtain ⟨ad242, e242, hx242_0⟩ := Kd.at_int HR241_0.out x33_3 p242 q242
                                                  cases e242
                                                  replace hx242_0 := (HB.out.cell (World.block_lt_of_cell? w _ hx242_0)).trans hx242_0
                                                  replace p242 := eq_true p242
                                                  replace q242 := eq_true q242
                                                  have p243 : 0 ≤ (x26_2 : Int) := of_decide_eq_true (by first | (with_reducible assumption) | assumption)
                                                  have q243 : x26_2 < (x5_3.length : Int) := of_decide_eq_true (by first | (with_reducible assumption) | assumption)
                                                  obtain ⟨ad243, e243, hx243_0⟩ := Kd.at_bool (Kd.R_reads' HO_5.out).2.2 x26_2 p243 q243
                                                  (try rw [← Nbq28.out] at hx243_0)
                                                  (try rw [← Nbq32.out] at hx243_0)
                                                  obtain rfl : (⟨go9, 0, none⟩ : Addr) = ad243 := (by injection e243)
                                                  (first | simp only [add_plain] at hx243_0 | simp only [add_at] at hx243_0 | simp only [Addr.add, Nat.zero_add] at hx243_0 | skip)
                                                  replace p243 := eq_true p243
                                                  replace q243 := eq_true q243
                                                  have p244 : 0 ≤ ((rd (rd_L1 l0_0 x26_2) x33_3) : Int) := of_decide_eq_true (by first | (with_reducible assumption) | assumption)
                                                  have q244 : (rd (rd_L1 l0_0 x26_2) x33_3) < (x5_3.length : Int) := of_decide_eq_true (by first | (with_reducible assumption) | assumption)
                                                  obtain ⟨ad244, e244, hx244_0⟩ := Kd.at_bool (Kd.R_reads' HO_5.out).2.2 (rd (rd_L1 l0_0 x26_2) x33_3) p244 q244
                                                  (try rw [← Nbq28.out] at hx244_0)
                                                  (try rw [← Nbq32.out] at hx244_0)
                                                  obtain rfl : (⟨go9, 0, none⟩ : Addr) = ad244 := (by injection e244)
                                                  (first | simp only [add_plain] at hx244_0 | simp only [add_at] at hx244_0 | simp only [Addr.add, Nat.zero_add] at hx244_0 | skip)
                                                  replace p244 := eq_true p244
                                                  replace q244 := eq_true q244
                                                  go_wp2
                                                  (try simp only [← hl5_3])
                                                  go_roundg k3
                                                  case measure => have := HK1.out; have := HK2.out; have := HK3.out; omega
                                                  case rel => exact ⟨(x5_3), (x6_3), (wrap64 (x33_3 + 1)), (by first | rfl | (simp; done) | (simp [*]; done)), (by first | rfl | (simp; done) | (simp [*]; done)), H', ⟨by have := HK1.out; have := HK2.out; have := HK3.out; omega⟩, ⟨by (try simp only [hl5_1]); (try simp only [hl5_2]); (try simp only [hl5_3]); (with_reducible repeat (first | apply Kd.R_alloc | apply Kd.R_drewN | apply Kd.R_drew)); exact HO_5.out⟩, ⟨by (try simp only [hl5_1]); (try simp only [hl5_2]); (try simp only [hl5_3]); (with_reducible repeat (first | refine blk_drewN ?_ _ | refine blk_drew ?_ | refine blk_alloc ?_ _)); exact BK235.out⟩, ⟨by repeat (first | (with_reducible first | exact HB.out | apply below_alloc | apply pw_below_drewN | apply below_drew1 | refine below_set ?_ GE235.out) | exact HB.out)⟩⟩
                                                · replace c33 := Bool.eq_false_iff.mpr c33
                                                  subst c33
                                                  have H1 : (burnishref06_Reachable.l2 k3 (x5_3.set ((rd (rd_L1 l0_0 x26_2) x33_3) : Int).toNat true) true x26_2 l0_0 (l0_0.length : Int) x26_2 (rd_L1 l0_0 x26_2) ((rd_L1 l0_0 x26_2).length : Int) (wrap64 (x33_3 + 1)) l0_0) = some r := by rw [if_neg (show ¬ (false = true) by decide)] at H; exact H
                                                  clear H
                                                  have H := H1
                                                  clear H1
                                                  obtain ⟨y245, hy245⟩ : ∃ y_ : List Bool, y_ = (x5_3.set ((rd (rd_L1 l0_0 x26_2) x33_3) : Int).toNat true) := ⟨_, rfl⟩
                                                  replace H : (burnishref06_Reachable.l2 k3 y245 true x26_2 l0_0 (l0_0.length : Int) x26_2 (rd_L1 l0_0 x26_2) ((rd_L1 l0_0 x26_2).length : Int) (wrap64 (x33_3 + 1)) l0_0) = some r := by first | (rw [hy245]; with_reducible exact H) | (have H2_ := (Option.bind_some _ _).symm.trans H; rw [hy245]; with_reducible exact H2_) | (have H2_ := (Option.bind_some _ _).symm.trans H; with_reducible exact H2_) | with_reducible exact H | (rw [hy245]; exact H) | exact H
                                                  have Ny245 := Aside0.mk hy245
                                                  clear hy245
                                                  have H' := Aside0.mk H
                                                  clear H
                                                  have p242 : 0 ≤ (x33_3 : Int) := of_decide_eq_true (by first | (with_reducible assumption) | assumption)
                                                  have q242 : x33_3 < ((rd_L1 l0_0 x26_2).length : Int) := of_decide_eq_true (by first | (with_reducible assumption) | assumption)
                                                  obtain ⟨ad242, e242, hx242_0⟩ := Kd.at_int HR241_0.out x33_3 p242 q242
                                                  cases e242
                                                  replace hx242_0 := (HB.out.cell (World.block_lt_of_cell? w _ hx242_0)).trans hx242_0
                                                  replace p242 := eq_true p242
                                                  replace q242 := eq_true q242
                                                  have p243 : 0 ≤ (x26_2 : Int) := of_decide_eq_true (by first | (with_reducible assumption) | assumption)
                                                  have q243 : x26_2 < (x5_3.length : Int) := of_decide_eq_true (by first | (with_reducible assumption) | assumption)
                                                  obtain ⟨ad243, e243, hx243_0⟩ := Kd.at_bool (Kd.R_reads' HO_5.out).2.2 x26_2 p243 q243
                                                  (try rw [← Nbq28.out] at hx243_0)
                                                  (try rw [← Nbq32.out] at hx243_0)
                                                  obtain rfl : (⟨go9, 0, none⟩ : Addr) = ad243 := (by injection e243)
                                                  (first | simp only [add_plain] at hx243_0 | simp only [add_at] at hx243_0 | simp only [Addr.add, Nat.zero_add] at hx243_0 | skip)
                                                  replace p243 := eq_true p243
                                                  replace q243 := eq_true q243
                                                  have p244 : 0 ≤ ((rd (rd_L1 l0_0 x26_2) x33_3) : Int) := of_decide_eq_true (by first | (with_reducible assumption) | assumption)
                                                  have q244 : (rd (rd_L1 l0_0 x26_2) x33_3) < (x5_3.length : Int) := of_decide_eq_true (by first | (with_reducible assumption) | assumption)
                                                  obtain ⟨ad244, e244, hx244_0⟩ := Kd.at_bool (Kd.R_reads' HO_5.out).2.2 (rd (rd_L1 l0_0 x26_2) x33_3) p244 q244
                                                  (try rw [← Nbq28.out] at hx244_0)
                                                  (try rw [← Nbq32.out] at hx244_0)
                                                  obtain rfl : (⟨go9, 0, none⟩ : Addr) = ad244 := (by injection e244)
                                                  (first | simp only [add_plain] at hx244_0 | simp only [add_at] at hx244_0 | simp only [Addr.add, Nat.zero_add] at hx244_0 | skip)
                                                  replace p244 := eq_true p244
                                                  replace q244 := eq_true q244
                                                  have p34 : 0 ≤ ((rd (rd_L1 l0_0 x26_2) x33_3) : Int) := of_decide_eq_true (by first | (with_reducible assumption) | assumption)
                                                  have q34 : ((rd (rd_L1 l0_0 x26_2) x33_3) : Int) < ((x5_3.length : Int) : Int) := of_decide_eq_true (by first | (with_reducible assumption) | assumption)
                                                  obtain ⟨hx34_0, hf34_0⟩ := Kd.R_celln false HO_5.out ((rd (rd_L1 l0_0 x26_2) x33_3) : Int) p34 q34
                                                  replace p34 := eq_true p34
                                                  replace q34 := eq_true q34
                                                  have HP35 := Kd.R_putg HO_5.out ((rd (rd_L1 l0_0 x26_2) x33_3) : Int) true
                                                  go_wp2_with (first | ((with_reducible refine gate_store (t := 4) (p := 50) rfl ?_); refine store_event (t := 4) (p := 50) (v := ?vo_w36) (w1 := (wr.setCell ⟨go9, ((rd (rd_L1 l0_0 x26_2) x33_3) : Int).toNat, none⟩ (.bool true))) ?hg ?ho ?hn ?hr ?_; (case ho => rfl); (case hg => rfl); (case hn => rfl); (case hr => first | (go_simp; done) | (go_simp; rfl)); intro w36 hw; have hg : wr.grownBy w36 (some go9) := (by rw [hw]; exact HP35.2); have hp_ : Kd.R Kd.bool 4 w36 w.heap.size (fun _ => True) (.slice (some ⟨go9, 0, none⟩) x5_3.length co9) y245 := (by rw [hw, Ny245.out]; exact HP35.1); clear HP35; have n0_ := Aside0.mk (hp_); have n1_ := Aside0.mk (blk_grown (g := gb235) (o := .cells #[.slice (some ad241) l0_0.length c0_0] 24 (0, 0)) (by (with_reducible repeat (first | refine blk_drewN ?_ _ | refine blk_drew ?_ | refine blk_alloc ?_ _)); exact BK235.out) hg (Kd.R_ne HO_5.out BK235.out (by decide))); have n2_ := Aside0.mk ((by rw [hw]; exact below_set (HB.out) GB9.out : Below w.heap.size w w36)); clear HO_5; clear BK235; clear HB; have HO_5 := n0_; have BK235 := n1_; have HB := n2_; clear n0_ n1_ n2_; clear hg hw hp_))
                                                  (try simp only [← hl5_3])
                                                  go_roundg k3
                                                  case measure => have := HK1.out; have := HK2.out; have := HK3.out; omega
                                                  case rel => exact ⟨(y245), (true), (wrap64 (x33_3 + 1)), (by first | rfl | (simp; done) | (simp [*]; done)), (by first | rfl | (simp; done) | (simp [*]; done)), H', ⟨by have := HK1.out; have := HK2.out; have := HK3.out; omega⟩, ⟨by (try simp only [hl5_1]); (try simp only [hl5_2]); (try simp only [hl5_3]); (with_reducible repeat (first | apply Kd.R_alloc | apply Kd.R_drewN | apply Kd.R_drew)); exact HO_5.out⟩, ⟨by (try simp only [hl5_1]); (try simp only [hl5_2]); (try simp only [hl5_3]); (with_reducible repeat (first | refine blk_drewN ?_ _ | refine blk_drew ?_ | refine blk_alloc ?_ _)); exact BK235.out⟩, ⟨by repeat (first | (with_reducible first | exact HB.out | apply below_alloc | apply pw_below_drewN | apply below_drew1 | refine below_set ?_ GE235.out) | exact HB.out)⟩⟩
                                              · rw [if_neg c31] at H
                                                exact absurd H (by simp)
                                            · rw [if_neg c30] at H
                                              exact absurd H (by simp)
                                          · replace c29 := Bool.eq_false_iff.mpr c29
                                            subst c29
                                            have H1 : (burnishref06_Reachable.l2 k3 x5_3 x6_3 x26_2 l0_0 (l0_0.length : Int) x26_2 (rd_L1 l0_0 x26_2) ((rd_L1 l0_0 x26_2).length : Int) (wrap64 (x33_3 + 1)) l0_0) = some r := by rw [if_neg (show ¬ (false = true) by decide)] at H; exact H
                                            clear H
                                            have H := H1
                                            clear H1
                                            have H' := Aside0.mk H
                                            clear H
                                            have p242 : 0 ≤ (x33_3 : Int) := of_decide_eq_true (by first | (with_reducible assumption) | assumption)
                                            have q242 : x33_3 < ((rd_L1 l0_0 x26_2).length : Int) := of_decide_eq_true (by first | (with_reducible assumption) | assumption)
                                            obtain ⟨ad242, e242, hx242_0⟩ := Kd.at_int HR241_0.out x33_3 p242 q242
                                            cases e242
                                            replace hx242_0 := (HB.out.cell (World.block_lt_of_cell? w _ hx242_0)).trans hx242_0
                                            replace p242 := eq_true p242
                                            replace q242 := eq_true q242
                                            have p243 : 0 ≤ (x26_2 : Int) := of_decide_eq_true (by first | (with_reducible assumption) | assumption)
                                            have q243 : x26_2 < (x5_3.length : Int) := of_decide_eq_true (by first | (with_reducible assumption) | assumption)
                                            obtain ⟨ad243, e243, hx243_0⟩ := Kd.at_bool (Kd.R_reads' HO_5.out).2.2 x26_2 p243 q243
                                            (try rw [← Nbq28.out] at hx243_0)
                                            obtain rfl : (⟨go9, 0, none⟩ : Addr) = ad243 := (by injection e243)
                                            (first | simp only [add_plain] at hx243_0 | simp only [add_at] at hx243_0 | simp only [Addr.add, Nat.zero_add] at hx243_0 | skip)
                                            replace p243 := eq_true p243
                                            replace q243 := eq_true q243
                                            go_wp2
                                            (try simp only [← hl5_3])
                                            go_roundg k3
                                            case measure => have := HK1.out; have := HK2.out; have := HK3.out; omega
                                            case rel => exact ⟨(x5_3), (x6_3), (wrap64 (x33_3 + 1)), (by first | rfl | (simp; done) | (simp [*]; done)), (by first | rfl | (simp; done) | (simp [*]; done)), H', ⟨by have := HK1.out; have := HK2.out; have := HK3.out; omega⟩, ⟨by (try simp only [hl5_1]); (try simp only [hl5_2]); (try simp only [hl5_3]); (with_reducible repeat (first | apply Kd.R_alloc | apply Kd.R_drewN | apply Kd.R_drew)); exact HO_5.out⟩, ⟨by (try simp only [hl5_1]); (try simp only [hl5_2]); (try simp only [hl5_3]); (with_reducible repeat (first | refine blk_drewN ?_ _ | refine blk_drew ?_ | refine blk_alloc ?_ _)); exact BK235.out⟩, ⟨by repeat (first | (with_reducible first | exact HB.out | apply below_alloc | apply pw_below_drewN | apply below_drew1 | refine below_set ?_ GE235.out) | exact HB.out)⟩⟩
                                        · rw [if_neg c27] at H
                                          exact absurd H (by simp)
                                      · rw [if_neg c26] at H
                                        exact absurd H (by simp)
                                    · rw [if_neg c25] at H
                                      exact absurd H (by simp)
                                  · rw [if_neg c24] at H
                                    exact absurd H (by simp)
                                · rw [if_neg c23] at H
                                  have c23b0 : decide (x33_3 < ((rd_L1 l0_0 x26_2).length : Int)) = false := decide_eq_false c23
                                  clear c23
                                  have H' := Aside0.mk H
                                  clear H
                                  go_wp2
                                  (try simp only [← hl5_2, ← hl5_3])
                                  go_roundg k3
                                  case measure => have := HK1.out; have := HK2.out; have := HK3.out; omega
                                  case rel => exact ⟨(x5_3), (x6_3), (wrap64 (x26_2 + 1)), (by first | rfl | (simp; done) | (simp [*]; done)), (by first | rfl | (simp; done) | (simp [*]; done)), H', ⟨by have := HK1.out; have := HK2.out; have := HK3.out; omega⟩, ⟨by (try simp only [hl5_1]); (try simp only [hl5_2]); (try simp only [hl5_3]); (with_reducible repeat (first | apply Kd.R_alloc | apply Kd.R_drewN | apply Kd.R_drew)); exact HO_5.out⟩, ⟨by (try simp only [hl5_1]); (try simp only [hl5_2]); (try simp only [hl5_3]); (with_reducible repeat (first | refine blk_drewN ?_ _ | refine blk_drew ?_ | refine blk_alloc ?_ _)); exact BK235.out⟩, ⟨by repeat (first | (with_reducible first | exact HB.out | apply below_alloc | apply pw_below_drewN | apply below_drew1 | refine below_set ?_ GE235.out) | exact HB.out)⟩⟩
                          · rw [if_neg c22] at H
                            exact absurd H (by simp)
                        · rw [if_neg c21] at H
                          exact absurd H (by simp)
                      · rw [if_neg c20] at H
                        have c20b0 : decide (x26_2 < (l0_0.length : Int)) = false := decide_eq_false c20
                        clear c20
                        have H' := Aside0.mk H
                        clear H
                        go_wp2
                        (try simp only [← hl5_1, ← hl5_2])
                        go_roundg k2
                        case measure => have := HK1.out; have := HK2.out; omega
                        case rel => exact ⟨(x5_2), (x6_2), (by first | rfl | (simp; done) | (simp [*]; done)), H', ⟨by have := HK1.out; have := HK2.out; omega⟩, ⟨by (try simp only [hl5_1]); (try simp only [hl5_2]); (with_reducible repeat (first | apply Kd.R_alloc | apply Kd.R_drewN | apply Kd.R_drew)); exact HO_5.out⟩, ⟨by (try simp only [hl5_1]); (try simp only [hl5_2]); (with_reducible repeat (first | refine blk_drewN ?_ _ | refine blk_drew ?_ | refine blk_alloc ?_ _)); exact BK235.out⟩, ⟨by repeat (first | (with_reducible first | exact HB.out | apply below_alloc | apply pw_below_drewN | apply below_drew1 | refine below_set ?_ GE235.out) | exact HB.out)⟩⟩
                · replace c18 := Bool.eq_false_iff.mpr c18
                  subst c18
                  have H1 : (some x5_1) = some r := by rw [if_neg (show ¬ (false = true) by decide)] at H; exact H
                  clear H
                  have H := H1
                  clear H1
                  obtain rfl := Option.some.inj H
                  go_wp2
                  go_ret
                  exact ⟨_, by first | rfl | (simp [errW_none, errW_some] <;> rfl) | (simp [*, errW_none, errW_some] <;> rfl), by (with_reducible repeat (first | apply Kd.R_alloc | apply Kd.R_drewN | apply Kd.R_drew)); exact HO_5.out, by repeat (first | (with_reducible first | exact HB.out | apply below_alloc | apply pw_below_drewN | apply below_drew1 | refine below_set ?_ GE235.out) | exact HB.out)⟩
          · rw [if_neg c8] at H
            exact absurd H (by simp)
        · rw [if_neg c7] at H
          exact absurd H (by simp)
      · rw [if_neg c6] at H
        exact absurd H (by simp)
    · rw [if_neg c5] at H
      exact absurd H (by simp)
  · replace c4 := Bool.eq_false_iff.mpr c4
    subst c4
    have H1 : (some ([] : List Bool)) = some r := by rw [if_neg (show ¬ (false = true) by decide)] at H; exact H
    clear H
    have H := H1
    clear H1
    obtain rfl := Option.some.inj H
    go_enter Try.func18, Try.ntmps18
    go_wp2_with (first | ((with_reducible refine gate_dst (N := 2) rfl ?_); refine box_event ?hg (N := 2) ?hd (cs := #[.slice A0_0 l0_0.length c0_0]) (t := 24) ?hr ?_; (case hd => rfl); (case hg => rfl); (case hr => first | (go_simp; done) | (go_simp; rfl)); intro gb235 hg w37 hbox hb; have n0_ := Aside0.mk (below_step (by repeat (first | (with_reducible first | exact HB.out | apply below_alloc | apply pw_below_drewN | apply below_drew1) | exact HB.out)) hb); have n1_ := Aside0.mk (hbox); have n2_ := Aside0.mk ((by rw [hg]; exact (below_size (by repeat (first | (with_reducible first | exact HB.out | apply below_alloc | apply pw_below_drewN | apply below_drew1) | exact HB.out))) : w.heap.size ≤ gb235)); have n3_ := Aside0.mk ((by rw [hg]; exact (below_size (by repeat (first | (with_reducible first | exact HB.out | apply below_alloc | apply pw_below_drewN | apply below_drew1) | exact HB.out))) : w.heap.size ≤ gb235)); clear HB; have HB := n0_; have BK235 := n1_; have GW235 := n2_; have GE235 := n3_; clear n0_ n1_ n2_ n3_; clear hb hbox hg; have hcz38_0 : w37.cell? ⟨gb235, 0, none⟩ = some (.slice A0_0 l0_0.length c0_0) := (blk_cell BK235.out 0).trans rfl; have hfz38_0 := blk_frozen BK235.out 0) | ((with_reducible refine gate_callee (f := 29) rfl ?_); refine goesL_ (some 13) rfl rfl Try.func29 (by kernel_rfl) rfl #[.agg #[.slice A0_0 l0_0.length c0_0], .int .i64 a1] rfl (by (try simp only [List.map_toArray, List.map_cons, List.map_nil]); first | done | rfl | (simp only [List.length_drop, List.length_take]; rfl)) ?_; (with_reducible refine (burnishref06_ok.calls k _ _ l0_0 a1 false _ ?side1 ?side2 A3.out).mono ?_); (case side1 => repeat (first | exact (Kd.C_below HR0_0.out HB.out) | (with_reducible refine Kd.C_alloc ?_ _) | (with_reducible refine Kd.C_drewN ?_ _) | (with_reducible refine Kd.C_drew ?_))); (case side2 => exact HC0_0.out); rintro e w39 ⟨rfl, hb⟩; refine ⟨_, rfl, ?_⟩; have n0_ := Aside0.mk (blk_below (g := gb235) (o := .cells #[.slice A0_0 l0_0.length c0_0] 24 (0, 0)) (by (with_reducible repeat (first | refine blk_drewN ?_ _ | refine blk_drew ?_ | refine blk_alloc ?_ _)); exact BK235.out) hb); have n1_ := Aside0.mk (below_step (by repeat (first | (with_reducible first | exact HB.out | apply below_alloc | apply pw_below_drewN | apply below_drew1 | refine below_set ?_ GE235.out) | exact HB.out)) hb); clear BK235; clear HB; have BK235 := n0_; have HB := n1_; clear n0_ n1_; (try clear hb); (try clear hb2); (try clear hk); (try clear hi)))
    go_ret
    exact ⟨_, by first | rfl | (simp [errW_none, errW_some] <;> rfl) | (simp [*, errW_none, errW_some] <;> rfl), by first | exact Kd.R_nil _ _ _ _ _ | exact Kd.N_nil _ _ _ _ _ | exact Kd.V_nil _ _ _ _ _ | exact Kd.Q_nil _ _ _ _ _ | exact Kd.S_nil _ _ _ _ _, by repeat (first | (with_reducible first | exact HB.out | apply below_alloc | apply pw_below_drewN | apply below_drew1 | refine below_set ?_ GE235.out) | exact HB.out)⟩

/-! ### burnishref06_visit: function 33 -/
mutual
def burnishref06_visit.l0 : Nat → Int → List Bool → List Int → List Int → Int → Int → List (List Int) → Option (List Int × List Bool)
  | 0, _, _, _, _, _, _, _ => none
  | k + 1, x1, x2, x3, x18, x19, x20, x247000 => if x20 < x19 then (if 0 ≤ x20 then (if x20 < (x18.length : Int) then (if 0 ≤ (rd x18 x20) then (if (rd x18 x20) < (x2.length : Int) then (if (rdOf false x2 (rd x18 x20) = true) then (burnishref06_visit.l0 k x1 x2 x3 x18 x19 (wrap64 (x20 + 1)) x247000) else ((burnishref06_visit.f k x247000 (rd x18 x20) x2 x3).bind fun bt251 => (burnishref06_visit.l0 k x1 bt251.2 bt251.1 x18 x19 (wrap64 (x20 + 1)) x247000))) else (none)) else (none)) else (none)) else (none)) else (if x3.length < 17592186044416 then (some ((x3 ++ [x1]), x2)) else (none))
def burnishref06_visit.f : Nat → List (List Int) → Int → List Bool → List Int → Option (List Int × List Bool)
  | 0, _, _, _, _ => none
  | k + 1, l0_0, a1, l2, l3 => if 0 ≤ a1 then (if a1 < (l2.length : Int) then (if a1 < (l0_0.length : Int) then (burnishref06_visit.l0 k a1 (l2.set (a1 : Int).toNat true) l3 (rd_L1 l0_0 a1) ((rd_L1 l0_0 a1).length : Int) 0 l0_0) else (none)) else (none)) else (none)
end
theorem burnishref06_visit.mono_l : ∀ k, (∀ y0 y1 y2 y3, LeO (burnishref06_visit.f k y0 y1 y2 y3) (burnishref06_visit.f (k + 1) y0 y1 y2 y3)) ∧ (∀ y0 y1 y2 y3 y4 y5 y6, LeO (burnishref06_visit.l0 k y0 y1 y2 y3 y4 y5 y6) (burnishref06_visit.l0 (k + 1) y0 y1 y2 y3 y4 y5 y6))
  | 0 => ⟨fun _ _ _ _ r h => by simp [burnishref06_visit.f] at h, fun _ _ _ _ _ _ _ r h => by simp [burnishref06_visit.l0] at h⟩
  | k + 1 => by
    obtain ⟨ih0, ih1⟩ := burnishref06_visit.mono_l k
    refine ⟨?_, ?_⟩
    · intro y0 y1 y2 y3
      unfold burnishref06_visit.f
      repeat' first
      | (with_reducible exact ih0 _ _ _ _)
      | (with_reducible exact ih1 _ _ _ _ _ _ _)
      | (with_reducible exact LeO.refl _)
      | (with_reducible exact LeO.none _)
      | (with_reducible refine LeO.ite ?_ ?_)
      | (with_reducible refine LeO.bind ?_ (fun _ => ?_))
      | exact ih0 _ _ _ _
      | exact ih1 _ _ _ _ _ _ _
      | exact LeO.none _
      | refine LeO.ite ?_ ?_
      | refine LeO.bind ?_ (fun _ => ?_)
    · intro y0 y1 y2 y3 y4 y5 y6
      unfold burnishref06_visit.l0
      repeat' first
      | (with_reducible exact ih0 _ _ _ _)
      | (with_reducible exact ih1 _ _ _ _ _ _ _)
      | (with_reducible exact LeO.refl _)
      | (with_reducible exact LeO.none _)
      | (with_reducible refine LeO.ite ?_ ?_)
      | (with_reducible refine LeO.bind ?_ (fun _ => ?_))
      | exact ih0 _ _ _ _
      | exact ih1 _ _ _ _ _ _ _
      | exact LeO.none _
      | refine LeO.ite ?_ ?_
      | refine LeO.bind ?_ (fun _ => ?_)
theorem burnishref06_visit.mono : ∀ a0 a1 a2 a3 k, LeO (burnishref06_visit.f k a0 a1 a2 a3) (burnishref06_visit.f (k + 1) a0 a1 a2 a3) := by
  intro a0 a1 a2 a3 k
  obtain ⟨ih0, ih1⟩ := burnishref06_visit.mono_l k
  exact ih0 a0 a1 a2 a3
set_option maxHeartbeats 8000000 in
set_option maxRecDepth 100000 in
theorem burnishref06_visit.calls (k : Nat) : ∀ (A0_0 : Option Addr) (c0_0 : Nat) (l0_0 : List (List Int)) (a1 : Int) (P2_ : Nat → Prop) (u9000_ : Value) (l2 : List Bool) (P3_ : Nat → Prop) (u9001_ : Value) (l3 : List Int) (r1 : List Int) (r2 : List Bool) (w0 w : World) (hB : Below w0.heap.size w0 w) (hr0_0 : Kd.C (Kd.slice 3 (Kd.int .i64)) w0 A0_0 l0_0.length l0_0) (hc0_0 : l0_0.length ≤ c0_0) (ho2 : Kd.R Kd.bool 4 w w0.heap.size P2_ u9000_ l2) (ho3 : Kd.R (Kd.int .i64) 3 w w0.heap.size P3_ u9001_ l3) (h : burnishref06_visit.f k l0_0 a1 l2 l3 = some (r1, r2)),
    Calls Try.prog 33 #[.agg #[.slice A0_0 l0_0.length c0_0], .int .i64 a1, u9000_, u9001_] w fun e w' => ∃ v0_ : Value, e = .returned (v0_) ∧ Kd.R (Kd.int .i64) 3 w' w0.heap.size (fun k_ => ((P2_ k_ ∨ P3_ k_) ∨ w.heap.size ≤ k_)) v0_ r1 ∧ Kd.R Kd.bool 4 w' w0.heap.size (fun k_ => ((P2_ k_ ∨ P3_ k_) ∨ w.heap.size ≤ k_)) u9000_ r2 ∧ Below w0.heap.size w0 w' ∧ Kept w w' (fun k_ => P2_ k_ ∨ P3_ k_) := by
  induction k using Nat.strongRecOn with
  | _ k ih =>
  intro A0_0 c0_0 l0_0 a1 P2_ u9000_ l2 P3_ u9001_ l3 r1 r2 w0 w hB hr0_0 hc0_0 ho2 ho3 h
  cases k with
  | zero => exact absurd h (by simp [burnishref06_visit.f])
  | succ k =>
  simp only [burnishref06_visit.f] at h
  have hu24 := Try.underlying24
  have HR0_0 := Aside0.mk hr0_0
  have HC0_0 := Aside0.mk hc0_0
  clear hr0_0 hc0_0
  have HO2 := Aside0.mk (show Kd.R Kd.bool 4 w w0.heap.size (fun k_ => ((P2_ k_ ∨ P3_ k_) ∨ w.heap.size ≤ k_)) u9000_ l2 from Kd.R_mono ho2 (fun k_ hk => (.inl (.inl hk))))
  have HO3 := Aside0.mk (show Kd.R (Kd.int .i64) 3 w w0.heap.size (fun k_ => ((P2_ k_ ∨ P3_ k_) ∨ w.heap.size ≤ k_)) u9001_ l3 from Kd.R_mono ho3 (fun k_ hk => (.inl (.inr hk))))
  have HK := Aside0.mk (Kept.refl w (fun k_ => P2_ k_ ∨ P3_ k_))
  have HW0 := Aside0.mk hB.size
  have HB := Aside0.mk hB
  clear hB
  have H : (if 0 ≤ a1 then (if a1 < (l2.length : Int) then (if a1 < (l0_0.length : Int) then (burnishref06_visit.l0 k a1 (l2.set (a1 : Int).toNat true) l3 (rd_L1 l0_0 a1) ((rd_L1 l0_0 a1).length : Int) 0 l0_0) else (none)) else (none)) else (none)) = some (r1, r2) := h
  clear h
  by_cases c5 : 0 ≤ a1
  · rw [if_pos c5] at H
    have c5b0 : decide (0 ≤ a1) = true := decide_eq_true c5
    clear c5
    by_cases c6 : a1 < (l2.length : Int)
    · rw [if_pos c6] at H
      have c6b0 : decide (a1 < (l2.length : Int)) = true := decide_eq_true c6
      clear c6
      obtain ⟨y247, hy247⟩ : ∃ y_ : List Bool, y_ = (l2.set (a1 : Int).toNat true) := ⟨_, rfl⟩
      replace H : (if a1 < (l0_0.length : Int) then (burnishref06_visit.l0 k a1 y247 l3 (rd_L1 l0_0 a1) ((rd_L1 l0_0 a1).length : Int) 0 l0_0) else (none)) = some (r1, r2) := by first | (rw [hy247]; with_reducible exact H) | (have H2_ := (Option.bind_some _ _).symm.trans H; rw [hy247]; with_reducible exact H2_) | (have H2_ := (Option.bind_some _ _).symm.trans H; with_reducible exact H2_) | with_reducible exact H | (rw [hy247]; exact H) | exact H
      have Ny247 := Aside0.mk hy247
      clear hy247
      by_cases c8 : a1 < (l0_0.length : Int)
      · rw [if_pos c8] at H
        have c8b0 : decide (a1 < (l0_0.length : Int)) = true := decide_eq_true c8
        clear c8
        have H' := Aside0.mk H
        clear H
        go_enter Try.func33, Try.ntmps33
        go_wp2_with (first | ((with_reducible refine gate_dst (N := 4) rfl ?_); refine box_event ?hg (N := 4) ?hd (cs := #[.slice A0_0 l0_0.length c0_0]) (t := 24) ?hr ?_; (case hd => rfl); (case hg => rfl); (case hr => first | (go_simp; done) | (go_simp; rfl)); intro gb246 hg w9 hbox hb; have n0_ := Aside0.mk (Kd.R_below (by (with_reducible repeat (first | apply Kd.R_alloc | apply Kd.R_drewN | apply Kd.R_drew)); exact HO2.out) hb); have n1_ := Aside0.mk (Kd.R_below (by (with_reducible repeat (first | apply Kd.R_alloc | apply Kd.R_drewN | apply Kd.R_drew)); exact HO3.out) hb); have n2_ := Aside0.mk (Kept.below (S := (fun k_ => P2_ k_ ∨ P3_ k_)) (by repeat (first | (with_reducible first | exact HK.out | apply Kept.alloc | apply Kept.drewN | apply Kept.drew) | exact HK.out)) hb); have n3_ := Aside0.mk (below_step (by repeat (first | (with_reducible first | exact HB.out | apply below_alloc | apply pw_below_drewN | apply below_drew1) | exact HB.out)) hb); have n4_ := Aside0.mk (hbox); have n5_ := Aside0.mk ((by rw [hg]; exact (by first | exact HK.out.1 | exact (show Kept w _ (fun k_ => P2_ k_ ∨ P3_ k_) from by repeat (first | (with_reducible first | exact HK.out | apply Kept.alloc | apply Kept.drewN | apply Kept.drew) | exact HK.out)).1) : w.heap.size ≤ gb246)); have n6_ := Aside0.mk ((by rw [hg]; exact (below_size (by repeat (first | (with_reducible first | exact HB.out | apply below_alloc | apply pw_below_drewN | apply below_drew1) | exact HB.out))) : w0.heap.size ≤ gb246)); clear HO2; clear HO3; clear HK; clear HB; have HO2 := n0_; have HO3 := n1_; have HK := n2_; have HB := n3_; have BK246 := n4_; have GW246 := n5_; have GE246 := n6_; clear n0_ n1_ n2_ n3_ n4_ n5_ n6_; clear hb hbox hg; have p7 : 0 ≤ (a1 : Int) := of_decide_eq_true (by first | (with_reducible assumption) | assumption); have q7 : (a1 : Int) < ((l2.length : Int) : Int) := of_decide_eq_true (by first | (with_reducible assumption) | assumption); obtain ⟨go7, co7, eo7, gb7, gl7, cl7, HG7⟩ := Kd.R_form HO2.out (by omega); (first | cases eo7 | (injection eo7 with ea_ en_ ec_; (first | subst ea_ | (injection ea_ with ea_; subst ea_)); subst ec_; clear en_)); have GB7 := Aside0.mk gb7; have GG7 := Aside0.mk HG7; clear gb7 gl7 HG7; have HMgo7 := Aside0.mk (show ((P2_ go7 ∨ P3_ go7) ∨ w.heap.size ≤ go7) from (HO2.out.1 _ rfl)); obtain ⟨hx7_0, hf7_0⟩ := Kd.R_celln false HO2.out (a1 : Int) p7 q7; replace p7 := eq_true p7; replace q7 := eq_true q7; obtain ⟨hy10_, hz10_⟩ := Kd.R_celln false HO2.out (a1 : Int) (of_decide_eq_true (by first | (with_reducible assumption) | assumption)) (of_decide_eq_true (by first | (with_reducible assumption) | assumption)); have HP10 := Kd.R_putg HO2.out (a1 : Int) true) | ((with_reducible refine gate_store (t := 4) (p := 13) rfl ?_); refine store_event (t := 4) (p := 13) (v := ?vo_w11) (w1 := (w9.setCell ⟨go7, (a1 : Int).toNat, none⟩ (.bool true))) ?hg ?ho ?hn ?hr ?_; (case ho => rfl); (case hg => rfl); (case hn => rfl); (case hr => first | (go_simp; done) | (go_simp; rfl)); intro w11 hw; have hg : w9.grownBy w11 (some go7) := (by rw [hw]; exact HP10.2); have hp_ : Kd.R Kd.bool 4 w11 w0.heap.size (fun k_ => ((P2_ k_ ∨ P3_ k_) ∨ w.heap.size ≤ k_)) (.slice (some ⟨go7, 0, none⟩) l2.length co7) y247 := (by rw [hw, Ny247.out]; exact HP10.1); clear HP10; have n0_ := Aside0.mk (hp_); have n1_ := Aside0.mk (Kd.R_over' (v := (.slice (some ⟨go7, 0, none⟩) l2.length co7)) (by (with_reducible repeat (first | apply Kd.R_alloc | apply Kd.R_drewN | apply Kd.R_drew)); exact HO3.out) (Kd.R_typed HO2.out) (by decide) hg); have n2_ := Aside0.mk (blk_grown (g := gb246) (o := .cells #[.slice A0_0 l0_0.length c0_0] 24 (0, 0)) (by (with_reducible repeat (first | refine blk_drewN ?_ _ | refine blk_drew ?_ | refine blk_alloc ?_ _)); exact BK246.out) hg (Kd.R_ne HO2.out BK246.out (by decide))); have n3_ := Aside0.mk ((by rw [hw]; exact below_set (HB.out) GB7.out : Below w0.heap.size w0 w11)); have n4_ := Aside0.mk (Kept.of_grown (S := (fun k_ => P2_ k_ ∨ P3_ k_)) hg (by repeat (first | (with_reducible first | exact HK.out | apply Kept.alloc | apply Kept.drewN | apply Kept.drew | refine Kept.setCell ?_ (.inr GW246.out) _) | exact HK.out)) (fun k_ e_ => (HO2.out.1 k_ e_))); clear HO2; clear HO3; clear BK246; clear HB; clear HK; have HO2 := n0_; have HO3 := n1_; have BK246 := n2_; have HB := n3_; have HK := n4_; clear n0_ n1_ n2_ n3_ n4_; clear hg hw hp_; have hcz12_0 : w11.cell? ⟨gb246, 0, none⟩ = some (.slice A0_0 l0_0.length c0_0) := (blk_cell BK246.out 0).trans rfl; have hfz12_0 := blk_frozen BK246.out 0; have p248 : 0 ≤ (a1 : Int) := of_decide_eq_true (by first | (with_reducible assumption) | assumption); have q248 : a1 < (l0_0.length : Int) := of_decide_eq_true (by first | (with_reducible assumption) | assumption); obtain ⟨ad248, A248_0, c248_0, e248, hx248_0, hl248_0, hi248_0⟩ := at_L1 HR0_0.out a1 p248 q248; cases e248; replace hx248_0 := (HB.out.cell (World.block_lt_of_cell? w0 _ hx248_0)).trans hx248_0; have HR248_0 := Aside0.mk hi248_0; have HC248_0 := Aside0.mk hl248_0; clear hi248_0 hl248_0; replace p248 := eq_true p248; replace q248 := eq_true q248))
        go_loopg [3, 20] k (fun kq v3 v20 w' => ∃ (x2_1 : List Bool) (x3_1 : List Int) (x20_1 : Int), v20 = .int .i64 x20_1 ∧ Aside0 (burnishref06_visit.l0 kq a1 x2_1 x3_1 (rd_L1 l0_0 a1) ((rd_L1 l0_0 a1).length : Int) x20_1 l0_0 = some (r1, r2)) ∧ Aside0 (kq ≤ k) ∧ Aside0 (Kd.R Kd.bool 4 w' w0.heap.size (fun k_ => ((P2_ k_ ∨ P3_ k_) ∨ w.heap.size ≤ k_)) (.slice (some ⟨go7, 0, none⟩) l2.length co7) x2_1) ∧ Aside0 (Kd.R (Kd.int .i64) 3 w' w0.heap.size (fun k_ => ((P2_ k_ ∨ P3_ k_) ∨ w.heap.size ≤ k_)) v3 x3_1) ∧ Aside0 (w'.heap[gb246]? = some (.cells #[(.slice (some ad248) l0_0.length c0_0)] 24 (0, 0))) ∧ Aside0 (Kept w w' (fun k_ => P2_ k_ ∨ P3_ k_)) ∧ Aside0 (Below w0.heap.size w0 w'))
        case atStart => exact ⟨(y247), (l3), (0), (by first | rfl | (simp; done) | (simp [*]; done)), H', ⟨Nat.le_refl _⟩, ⟨by (with_reducible repeat (first | apply Kd.R_alloc | apply Kd.R_drewN | apply Kd.R_drew)); exact HO2.out⟩, ⟨by (with_reducible repeat (first | apply Kd.R_alloc | apply Kd.R_drewN | apply Kd.R_drew)); exact HO3.out⟩, ⟨by (with_reducible repeat (first | refine blk_drewN ?_ _ | refine blk_drew ?_ | refine blk_alloc ?_ _)); exact BK246.out⟩, ⟨by repeat (first | (with_reducible first | exact HK.out | apply Kept.alloc | apply Kept.drewN | apply Kept.drew | refine Kept.setCell ?_ (.inr GW246.out) _) | exact HK.out)⟩, ⟨by repeat (first | (with_reducible first | exact HB.out | apply below_alloc | apply pw_below_drewN | apply below_drew1 | refine below_set ?_ GE246.out) | exact HB.out)⟩⟩
        case round =>
          clear H'
          try clear c2
          try clear p2
          try clear q2
          try clear hx2
          try clear c3
          try clear c5
          try clear c5b0
          try clear c6
          try clear c6b0
          try clear p7
          try clear q7
          try clear hx7
          try clear hf7
          try clear c8
          try clear c8b0
          try clear hcz12_0
          try clear hfz12_0
          try clear hx248_0
          try clear hx7_0
          try clear p248
          try clear p7
          try clear q248
          try clear q7
          obtain ⟨x2_1, x3_1, x20_1, rfl, HA, HK1, HO_2, HO_3, BK246, HK, HB⟩ := hrel
          have hl2_1 := (Kd.R_reads' HO_2.out).1
          rw [hl2_1] at HO_2
          (try simp only [hl2_1])
          (try simp only [hl2_1] at BK246)
          (try simp only [hl2_1] at HO_3)
          cases gk with
          | zero => exact absurd HA.out (by simp [burnishref06_visit.l0])
          | succ k1 =>
            have H := HA.out
            clear HA
            simp only [burnishref06_visit.l0] at H
            by_cases c13 : x20_1 < ((rd_L1 l0_0 a1).length : Int)
            · rw [if_pos c13] at H
              have c13b0 : decide (x20_1 < ((rd_L1 l0_0 a1).length : Int)) = true := decide_eq_true c13
              clear c13
              by_cases c14 : 0 ≤ x20_1
              · rw [if_pos c14] at H
                have c14b0 : decide (0 ≤ x20_1) = true := decide_eq_true c14
                clear c14
                by_cases c15 : x20_1 < ((rd_L1 l0_0 a1).length : Int)
                · rw [if_pos c15] at H
                  have c15b0 : decide (x20_1 < ((rd_L1 l0_0 a1).length : Int)) = true := decide_eq_true c15
                  clear c15
                  by_cases c16 : 0 ≤ (rd (rd_L1 l0_0 a1) x20_1)
                  · rw [if_pos c16] at H
                    have c16b0 : decide (0 ≤ (rd (rd_L1 l0_0 a1) x20_1)) = true := decide_eq_true c16
                    clear c16
                    by_cases c17 : (rd (rd_L1 l0_0 a1) x20_1) < (x2_1.length : Int)
                    · rw [if_pos c17] at H
                      have c17b0 : decide ((rd (rd_L1 l0_0 a1) x20_1) < (x2_1.length : Int)) = true := decide_eq_true c17
                      clear c17
                      obtain ⟨bq18, hbq18⟩ : ∃ b_ : Bool, b_ = (rdOf false x2_1 (rd (rd_L1 l0_0 a1) x20_1)) := ⟨_, rfl⟩
                      replace H : (if (bq18 = true) then (burnishref06_visit.l0 k1 a1 x2_1 x3_1 (rd_L1 l0_0 a1) ((rd_L1 l0_0 a1).length : Int) (wrap64 (x20_1 + 1)) l0_0) else ((burnishref06_visit.f k1 l0_0 (rd (rd_L1 l0_0 a1) x20_1) x2_1 x3_1).bind fun bt251 => (burnishref06_visit.l0 k1 a1 bt251.2 bt251.1 (rd_L1 l0_0 a1) ((rd_L1 l0_0 a1).length : Int) (wrap64 (x20_1 + 1)) l0_0))) = some (r1, r2) := by rw [← hbq18] at H; exact H
                      have Nbq18 := Aside0.mk hbq18
                      clear hbq18
                      by_cases c19 : (bq18 = true)
                      · subst c19
                        have H1 : (burnishref06_visit.l0 k1 a1 x2_1 x3_1 (rd_L1 l0_0 a1) ((rd_L1 l0_0 a1).length : Int) (wrap64 (x20_1 + 1)) l0_0) = some (r1, r2) := by rw [if_pos rfl] at H; exact H
                        clear H
                        have H := H1
                        clear H1
                        have H' := Aside0.mk H
                        clear H
                        have p249 : 0 ≤ (x20_1 : Int) := of_decide_eq_true (by first | (with_reducible assumption) | assumption)
                        have q249 : x20_1 < ((rd_L1 l0_0 a1).length : Int) := of_decide_eq_true (by first | (with_reducible assumption) | assumption)
                        obtain ⟨ad249, e249, hx249_0⟩ := Kd.at_int HR248_0.out x20_1 p249 q249
                        cases e249
                        replace hx249_0 := (HB.out.cell (World.block_lt_of_cell? w0 _ hx249_0)).trans hx249_0
                        replace p249 := eq_true p249
                        replace q249 := eq_true q249
                        have p250 : 0 ≤ ((rd (rd_L1 l0_0 a1) x20_1) : Int) := of_decide_eq_true (by first | (with_reducible assumption) | assumption)
                        have q250 : (rd (rd_L1 l0_0 a1) x20_1) < (x2_1.length : Int) := of_decide_eq_true (by first | (with_reducible assumption) | assumption)
                        obtain ⟨ad250, e250, hx250_0⟩ := Kd.at_bool (Kd.R_reads' HO_2.out).2.2 (rd (rd_L1 l0_0 a1) x20_1) p250 q250
                        (try rw [← Nbq18.out] at hx250_0)
                        obtain rfl : (⟨go7, 0, none⟩ : Addr) = ad250 := (by injection e250)
                        (first | simp only [add_plain] at hx250_0 | simp only [add_at] at hx250_0 | simp only [Addr.add, Nat.zero_add] at hx250_0 | skip)
                        replace p250 := eq_true p250
                        replace q250 := eq_true q250
                        go_wp2
                        (try simp only [← hl2_1])
                        go_roundg k1
                        case measure => have := HK1.out; omega
                        case rel => exact ⟨(x2_1), (x3_1), (wrap64 (x20_1 + 1)), (by first | rfl | (simp; done) | (simp [*]; done)), H', ⟨by have := HK1.out; omega⟩, ⟨by (try simp only [hl2_1]); (with_reducible repeat (first | apply Kd.R_alloc | apply Kd.R_drewN | apply Kd.R_drew)); exact HO_2.out⟩, ⟨by (try simp only [hl2_1]); (with_reducible repeat (first | apply Kd.R_alloc | apply Kd.R_drewN | apply Kd.R_drew)); exact HO_3.out⟩, ⟨by (try simp only [hl2_1]); (with_reducible repeat (first | refine blk_drewN ?_ _ | refine blk_drew ?_ | refine blk_alloc ?_ _)); exact BK246.out⟩, ⟨by repeat (first | (with_reducible first | exact HK.out | apply Kept.alloc | apply Kept.drewN | apply Kept.drew | refine Kept.setCell ?_ (.inr GW246.out) _) | exact HK.out)⟩, ⟨by repeat (first | (with_reducible first | exact HB.out | apply below_alloc | apply pw_below_drewN | apply below_drew1 | refine below_set ?_ GE246.out) | exact HB.out)⟩⟩
                      · replace c19 := Bool.eq_false_iff.mpr c19
                        subst c19
                        have H1 : ((burnishref06_visit.f k1 l0_0 (rd (rd_L1 l0_0 a1) x20_1) x2_1 x3_1).bind fun bt251 => (burnishref06_visit.l0 k1 a1 bt251.2 bt251.1 (rd_L1 l0_0 a1) ((rd_L1 l0_0 a1).length : Int) (wrap64 (x20_1 + 1)) l0_0)) = some (r1, r2) := by rw [if_neg (show ¬ (false = true) by decide)] at H; exact H
                        clear H
                        have H := H1
                        clear H1
                        replace H := Option.bind_eq_some_iff.mp H
                        obtain ⟨⟨t251, t254⟩, A200, H⟩ := H
                        replace H : (burnishref06_visit.l0 k1 a1 t254 t251 (rd_L1 l0_0 a1) ((rd_L1 l0_0 a1).length : Int) (wrap64 (x20_1 + 1)) l0_0) = some (r1, r2) := H
                        have A20 := Aside0.mk A200
                        clear A200
                        have H' := Aside0.mk H
                        clear H
                        have p249 : 0 ≤ (x20_1 : Int) := of_decide_eq_true (by first | (with_reducible assumption) | assumption)
                        have q249 : x20_1 < ((rd_L1 l0_0 a1).length : Int) := of_decide_eq_true (by first | (with_reducible assumption) | assumption)
                        obtain ⟨ad249, e249, hx249_0⟩ := Kd.at_int HR248_0.out x20_1 p249 q249
                        cases e249
                        replace hx249_0 := (HB.out.cell (World.block_lt_of_cell? w0 _ hx249_0)).trans hx249_0
                        replace p249 := eq_true p249
                        replace q249 := eq_true q249
                        have p250 : 0 ≤ ((rd (rd_L1 l0_0 a1) x20_1) : Int) := of_decide_eq_true (by first | (with_reducible assumption) | assumption)
                        have q250 : (rd (rd_L1 l0_0 a1) x20_1) < (x2_1.length : Int) := of_decide_eq_true (by first | (with_reducible assumption) | assumption)
                        obtain ⟨ad250, e250, hx250_0⟩ := Kd.at_bool (Kd.R_reads' HO_2.out).2.2 (rd (rd_L1 l0_0 a1) x20_1) p250 q250
                        (try rw [← Nbq18.out] at hx250_0)
                        obtain rfl : (⟨go7, 0, none⟩ : Addr) = ad250 := (by injection e250)
                        (first | simp only [add_plain] at hx250_0 | simp only [add_at] at hx250_0 | simp only [Addr.add, Nat.zero_add] at hx250_0 | skip)
                        replace p250 := eq_true p250
                        replace q250 := eq_true q250
                        have hcz21_0 : wr.cell? ⟨gb246, 0, none⟩ = some (.slice (some ad248) l0_0.length c0_0) := (blk_cell BK246.out 0).trans rfl
                        have hfz21_0 := blk_frozen BK246.out 0
                        obtain ⟨Ao22, co22, eo22⟩ := Kd.R_slice HO_3.out
                        subst eo22
                        go_wp2_with (first | ((with_reducible refine gate_callee (f := 33) rfl ?_); refine goesL_ (some 33) rfl rfl Try.func33 (by kernel_rfl) rfl #[.agg #[.slice (some ad248) l0_0.length c0_0], .int .i64 (rd (rd_L1 l0_0 a1) x20_1), .slice (some ⟨go7, 0, none⟩) x2_1.length co7, .slice Ao22 x3_1.length co22] rfl (by (try simp only [List.map_toArray, List.map_cons, List.map_nil]); first | done | rfl | (simp only [List.length_drop, List.length_take]; rfl)) ?_; (with_reducible refine (ih k1 (by have := HK1.out; omega) _ _ l0_0 (rd (rd_L1 l0_0 a1) x20_1) (fun k_ => some k_ = (.slice (some ⟨go7, 0, none⟩) x2_1.length co7 : Value).ownBlock) (.slice (some ⟨go7, 0, none⟩) x2_1.length co7) x2_1 (fun k_ => some k_ = (.slice Ao22 x3_1.length co22 : Value).ownBlock) (.slice Ao22 x3_1.length co22) x3_1 t251 t254 w0 _ ?side1 ?side2 ?side3 ?side4 ?side5 A20.out).mono ?_); (case side1 => repeat (first | (with_reducible first | exact HB.out | apply below_alloc | apply pw_below_drewN | apply below_drew1 | refine below_set ?_ GE246.out) | exact HB.out)); (case side2 => exact HR0_0.out); (case side3 => exact HC0_0.out); (case side4 => exact Kd.R_tight rfl HO_2.out); (case side5 => exact Kd.R_tight rfl HO_3.out); rintro e w23 ⟨v252, rfl, ho0, hy0, hb, hkp⟩; refine ⟨_, rfl, ?_⟩; have n0_ := Aside0.mk (Kd.R_reok rfl hy0 (fun k_ e_ => HO_2.out.1 k_ e_)); have n1_ := Aside0.mk (blk_kept (by (with_reducible repeat (first | refine blk_drewN ?_ _ | refine blk_drew ?_ | refine blk_alloc ?_ _)); exact BK246.out) hkp (fun hs_ => Or.elim hs_ (fun e_ => (fun e_ => (Kd.R_ne HO_2.out BK246.out (by decide)) e_) e_) (fun e_ => (fun e_ => (Kd.R_ne HO_3.out BK246.out (by decide)) e_) e_))); have n2_ := Aside0.mk (Kd.R_mono (ok' := fun k_ => ((P2_ k_ ∨ P3_ k_) ∨ w.heap.size ≤ k_)) ho0 (fun k_ hk_ => Or.elim hk_ (fun hs_ => Or.elim hs_ (fun hs_ => (HO_2.out.1 k_ (hs_).symm)) (fun hs_ => (HO_3.out.1 k_ (hs_).symm))) (fun hn_ => (.inr (Nat.le_trans (by first | exact HK.out.1 | exact (show Kept w _ (fun k_ => P2_ k_ ∨ P3_ k_) from by repeat (first | (with_reducible first | exact HK.out | apply Kept.alloc | apply Kept.drewN | apply Kept.drew | refine Kept.setCell ?_ (.inr GW246.out) _) | exact HK.out)).1) hn_))))); have n3_ := Aside0.mk (Kept.then_ (S := (fun k_ => P2_ k_ ∨ P3_ k_)) (by repeat (first | (with_reducible first | exact HK.out | apply Kept.alloc | apply Kept.drewN | apply Kept.drew | refine Kept.setCell ?_ (.inr GW246.out) _) | exact HK.out)) hkp (fun k_ hs_ => Or.elim hs_ (fun e_ => (fun e_ => (HO_2.out.1 k_ e_.symm)) e_) (fun e_ => (fun e_ => (HO_3.out.1 k_ e_.symm)) e_))); have n4_ := Aside0.mk (hb); clear HO_2; clear BK246; clear HK; clear HB; clear HO_3; have HO_2 := n0_; have BK246 := n1_; have HO253 := n2_; have HK := n3_; have HB := n4_; clear n0_ n1_ n2_ n3_ n4_; (try clear hb); (try clear hkp); (try clear ho0); (try clear hy0)))
                        (try simp only [← hl2_1])
                        go_roundg k1
                        case measure => have := HK1.out; omega
                        case rel => exact ⟨(t254), (t251), (wrap64 (x20_1 + 1)), (by first | rfl | (simp; done) | (simp [*]; done)), H', ⟨by have := HK1.out; omega⟩, ⟨by (try simp only [hl2_1]); (with_reducible repeat (first | apply Kd.R_alloc | apply Kd.R_drewN | apply Kd.R_drew)); exact HO_2.out⟩, ⟨by (try simp only [hl2_1]); (with_reducible repeat (first | apply Kd.R_alloc | apply Kd.R_drewN | apply Kd.R_drew)); exact HO253.out⟩, ⟨by (try simp only [hl2_1]); (with_reducible repeat (first | refine blk_drewN ?_ _ | refine blk_drew ?_ | refine blk_alloc ?_ _)); exact BK246.out⟩, ⟨by repeat (first | (with_reducible first | exact HK.out | apply Kept.alloc | apply Kept.drewN | apply Kept.drew | refine Kept.setCell ?_ (.inr GW246.out) _) | exact HK.out)⟩, ⟨by repeat (first | (with_reducible first | exact HB.out | apply below_alloc | apply pw_below_drewN | apply below_drew1 | refine below_set ?_ GE246.out) | exact HB.out)⟩⟩
                    · rw [if_neg c17] at H
                      exact absurd H (by simp)
                  · rw [if_neg c16] at H
                    exact absurd H (by simp)
                · rw [if_neg c15] at H
                  exact absurd H (by simp)
              · rw [if_neg c14] at H
                exact absurd H (by simp)
            · rw [if_neg c13] at H
              have c13b0 : decide (x20_1 < ((rd_L1 l0_0 a1).length : Int)) = false := decide_eq_false c13
              clear c13
              by_cases c24 : x3_1.length < 17592186044416
              · rw [if_pos c24] at H
                have LMc24 := Aside0.mk c24
                clear c24
                obtain ⟨y255, hy255⟩ : ∃ y_ : List Int, y_ = (x3_1 ++ [a1]) := ⟨_, rfl⟩
                replace H : (some (y255, x2_1)) = some (r1, r2) := by first | (rw [hy255]; with_reducible exact H) | (have H2_ := (Option.bind_some _ _).symm.trans H; rw [hy255]; with_reducible exact H2_) | (have H2_ := (Option.bind_some _ _).symm.trans H; with_reducible exact H2_) | with_reducible exact H | (rw [hy255]; exact H) | exact H
                have Ny255 := Aside0.mk hy255
                clear hy255
                simp only [Option.some.injEq, Prod.mk.injEq] at H
                obtain ⟨rfl, rfl⟩ := H
                go_wp2_with (first | ((with_reducible refine gate_builtin (b := .append) (xs := #[.tmp 35, .tmp 37]) rfl ?_); at_builtin; refine Kd.R_append (Kd.int .i64) (w0 := w0) w0.heap.size rfl (.tmp 35) (.tmp 37) 36 3 (.int .i64 0) 8 rfl Try.underlying36 info3 rfl (by decide) (by omega) u3 x3_1 a1 [.int .i64 a1] (fun k_ => ((P2_ k_ ∨ P3_ k_) ∨ w.heap.size ≤ k_)) (fun _ => False) rfl rfl ?aP (fun _ hk => hk.elim) ?aF ?aO ?aB ?aS ?aL ?_; (case aP => exact rfl); (case aB => exact (by repeat (first | (with_reducible first | exact HB.out | apply below_alloc | apply pw_below_drewN | apply below_drew1 | refine below_set ?_ GE246.out) | exact HB.out))); (case aF => exact (fun k_ hk => (.inr (Nat.le_trans (by first | exact HK.out.1 | exact (show Kept w _ (fun k_ => P2_ k_ ∨ P3_ k_) from by repeat (first | (with_reducible first | exact HK.out | apply Kept.alloc | apply Kept.drewN | apply Kept.drew | refine Kept.setCell ?_ (.inr GW246.out) _) | exact HK.out)).1) hk)))); (case aO => exact (by (with_reducible repeat (first | apply Kd.R_alloc | apply Kd.R_drewN | apply Kd.R_drew)); exact HO_3.out)); (case aS => exact (below_size (by repeat (first | (with_reducible first | exact HB.out | apply below_alloc | apply pw_below_drewN | apply below_drew1 | refine below_set ?_ GE246.out) | exact HB.out)))); (case aL => have := LMc24.out; omega); intro v256 w25 ho hb hg hat; rw [← Ny255.out] at ho; have n0_ := Aside0.mk (Kd.R_over' (by (with_reducible repeat (first | apply Kd.R_alloc | apply Kd.R_drewN | apply Kd.R_drew)); exact HO_2.out) (Kd.R_typed (by (with_reducible repeat (first | apply Kd.R_alloc | apply Kd.R_drewN | apply Kd.R_drew)); exact HO_3.out)) (by decide) hg); have n1_ := Aside0.mk (blk_grown (g := gb246) (o := .cells #[.slice (some ad248) l0_0.length c0_0] 24 (0, 0)) (by (with_reducible repeat (first | refine blk_drewN ?_ _ | refine blk_drew ?_ | refine blk_alloc ?_ _)); exact BK246.out) hg (Kd.R_ne HO_3.out BK246.out (by decide))); have n2_ := Aside0.mk (hb); have n3_ := Aside0.mk (Kept.of_grown (S := (fun k_ => P2_ k_ ∨ P3_ k_)) hg (by repeat (first | (with_reducible first | exact HK.out | apply Kept.alloc | apply Kept.drewN | apply Kept.drew | refine Kept.setCell ?_ (.inr GW246.out) _) | exact HK.out)) (fun k_ e_ => (HO_3.out.1 k_ e_))); have n4_ := Aside0.mk (ho); clear HO_2; clear BK246; clear HB; clear HK; clear HO_3; have HO_2 := n0_; have BK246 := n1_; have HB := n2_; have HK := n3_; have HO257 := n4_; clear n0_ n1_ n2_ n3_ n4_; clear ho hb hg hat))
                go_ret
                exact ⟨_, by first | rfl | (simp [errW_none, errW_some] <;> rfl) | (simp [*, errW_none, errW_some] <;> rfl), by (with_reducible repeat (first | apply Kd.R_alloc | apply Kd.R_drewN | apply Kd.R_drew)); exact HO257.out, (by first | exact (by (with_reducible repeat (first | apply Kd.R_alloc | apply Kd.R_drewN | apply Kd.R_drew)); exact HO_2.out) | (simp only [hl2_1]; exact (by (with_reducible repeat (first | apply Kd.R_alloc | apply Kd.R_drewN | apply Kd.R_drew)); exact HO_2.out))), by repeat (first | (with_reducible first | exact HB.out | apply below_alloc | apply pw_below_drewN | apply below_drew1 | refine below_set ?_ GE246.out) | exact HB.out), by repeat (first | (with_reducible first | exact HK.out | apply Kept.alloc | apply Kept.drewN | apply Kept.drew | refine Kept.setCell ?_ (.inr GW246.out) _) | exact HK.out)⟩
              · rw [if_neg c24] at H
                exact absurd H (by simp)
      · rw [if_neg c8] at H
        exact absurd H (by simp)
    · rw [if_neg c6] at H
      exact absurd H (by simp)
  · rw [if_neg c5] at H
    exact absurd H (by simp)

end Go.Proofs.Ytjkclhpibielfaa.PDigraphTells
