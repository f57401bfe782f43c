import Derived.Test.YtjacphcbiaacnaaDoorMSFu4
section
namespace Go.Proofs.YtjacphcbiaacnaaDoor.PDigraphTells
open Mem Go.RowKit Go.Proofs.YtjacphcbiaacnaaDoorW.PrintWords Go.Proofs.YtjacphcbiaacnaaDoorW.PrintLast Go.Proofs.YtjacphcbiaacnaaDoorW.PrintMore
attribute [local go_sem] max2_int min2_int max_two min_two max_three min_three max_four min_four
set_option linter.unusedVariables false
set_option linter.unusedSimpArgs false
mutual
def burnishref52_depends.j0 : Nat → Bool → Int → Int → Int → List Int → Int → Int → Int → Bool → Int → Int → Int → List Int → Int → Int → Int → Bool → Option (Bool)
 | 0, _, _, _, _, _, _, _, _, _, _, _, _, _, _, _, _, _ => none
 | k + 1, x26, x192000, x192001, x192002, x192003, x192004, x192005, x192006, x192007, x193000, x193001, x193002, x193003, x193004, x193005, x193006, x193007 => if x26 = true then (some true) else ((burnishref52_memory.f x192000 x192001 x192002 x192003 x192004 x192005 x192006 x192007).bind fun t195 => (if t195 = true then ((burnishref52_memory.f x193000 x193001 x193002 x193003 x193004 x193005 x193006 x193007).bind fun t196 => (if t196 = true then (if x192000 = 28 then (burnishref52_depends.j1 k (x193000 != 28) x192000 x192001 x192002 x192003 x192004 x192005 x192006 x192007 x193000 x193001 x193002 x193003 x193004 x193005 x193006 x193007) else (burnishref52_depends.j1 k true x192000 x192001 x192002 x192003 x192004 x192005 x192006 x192007 x193000 x193001 x193002 x193003 x193004 x193005 x193006 x193007)) else (burnishref52_depends.j1 k false x192000 x192001 x192002 x192003 x192004 x192005 x192006 x192007 x193000 x193001 x193002 x193003 x193004 x193005 x193006 x193007))) else (burnishref52_depends.j1 k false x192000 x192001 x192002 x192003 x192004 x192005 x192006 x192007 x193000 x193001 x193002 x193003 x193004 x193005 x193006 x193007)))
def burnishref52_depends.j1 : Nat → Bool → Int → Int → Int → List Int → Int → Int → Int → Bool → Int → Int → Int → List Int → Int → Int → Int → Bool → Option (Bool)
 | 0, _, _, _, _, _, _, _, _, _, _, _, _, _, _, _, _, _ => none
 | k + 1, x42, x192000, x192001, x192002, x192003, x192004, x192005, x192006, x192007, x193000, x193001, x193002, x193003, x193004, x193005, x193006, x193007 => if x42 = true then (some true) else ((burnishref52_slot.f x192000 x192001 x192002 x192003 x192004 x192005 x192006 x192007).bind fun t197 => (if t197 = true then ((burnishref52_slot.f x193000 x193001 x193002 x193003 x193004 x193005 x193006 x193007).bind fun t198 => (if t198 = true then (if x192004 = x193004 then (if x192000 = 40 then (burnishref52_depends.j2 k true x192000 x192001 x192002 x192003 x192004 x192005 x192006 x192007 x193000 x193001 x193002 x193003 x193004 x193005 x193006 x193007) else (burnishref52_depends.j2 k (x193000 == 40) x192000 x192001 x192002 x192003 x192004 x192005 x192006 x192007 x193000 x193001 x193002 x193003 x193004 x193005 x193006 x193007)) else (burnishref52_depends.j2 k false x192000 x192001 x192002 x192003 x192004 x192005 x192006 x192007 x193000 x193001 x193002 x193003 x193004 x193005 x193006 x193007)) else (burnishref52_depends.j2 k false x192000 x192001 x192002 x192003 x192004 x192005 x192006 x192007 x193000 x193001 x193002 x193003 x193004 x193005 x193006 x193007))) else (burnishref52_depends.j2 k false x192000 x192001 x192002 x192003 x192004 x192005 x192006 x192007 x193000 x193001 x193002 x193003 x193004 x193005 x193006 x193007)))
def burnishref52_depends.j2 : Nat → Bool → Int → Int → Int → List Int → Int → Int → Int → Bool → Int → Int → Int → List Int → Int → Int → Int → Bool → Option (Bool)
 | 0, _, _, _, _, _, _, _, _, _, _, _, _, _, _, _, _, _ => none
 | k + 1, x65, x192000, x192001, x192002, x192003, x192004, x192005, x192006, x192007, x193000, x193001, x193002, x193003, x193004, x193005, x193006, x193007 => if x65 = true then (some true) else ((burnishref52_ordered.f x192000 x192001 x192002 x192003 x192004 x192005 x192006 x192007).bind fun t199 => (if t199 = true then ((burnishref52_ordered.f x193000 x193001 x193002 x193003 x193004 x193005 x193006 x193007).bind fun t200 => (some t200)) else (some false)))
end
def burnishref52_depends.f (k : Nat) (a0_0 : Int) (a0_1 : Int) (a0_2 : Int) (l0_3 : List Int) (a0_4 : Int) (a0_5 : Int) (a0_6 : Int) (a0_7 : Bool) (a1_0 : Int) (a1_1 : Int) (a1_2 : Int) (l1_3 : List Int) (a1_4 : Int) (a1_5 : Int) (a1_6 : Int) (a1_7 : Bool) : Option (Bool) := (burnishref52_uses.f k a0_0 a0_1 a0_2 l0_3 a0_4 a0_5 a0_6 a0_7 a1_0 a1_1 a1_2 l1_3 a1_4 a1_5 a1_6 a1_7).bind fun t193 => (if t193 = true then (burnishref52_depends.j0 k true a0_0 a0_1 a0_2 l0_3 a0_4 a0_5 a0_6 a0_7 a1_0 a1_1 a1_2 l1_3 a1_4 a1_5 a1_6 a1_7) else (if a0_2 ≥ 0 then (if a0_2 = a1_2 then (burnishref52_depends.j0 k true a0_0 a0_1 a0_2 l0_3 a0_4 a0_5 a0_6 a0_7 a1_0 a1_1 a1_2 l1_3 a1_4 a1_5 a1_6 a1_7) else ((burnishref52_in.f k l1_3 a0_2).bind fun t194 => (burnishref52_depends.j0 k t194 a0_0 a0_1 a0_2 l0_3 a0_4 a0_5 a0_6 a0_7 a1_0 a1_1 a1_2 l1_3 a1_4 a1_5 a1_6 a1_7))) else (burnishref52_depends.j0 k false a0_0 a0_1 a0_2 l0_3 a0_4 a0_5 a0_6 a0_7 a1_0 a1_1 a1_2 l1_3 a1_4 a1_5 a1_6 a1_7)))
set_option maxHeartbeats 8000000 in
set_option maxRecDepth 100000 in
theorem burnishref52_depends.calls (k : Nat) (a0_0 : Int) (a0_1 : Int) (a0_2 : Int) (A0_3 : Option Addr) (c0_3 : Nat) (l0_3 : List Int) (a0_4 : Int) (a0_5 : Int) (a0_6 : Int) (a0_7 : Bool) (a1_0 : Int) (a1_1 : Int) (a1_2 : Int) (A1_3 : Option Addr) (c1_3 : Nat) (l1_3 : List Int) (a1_4 : Int) (a1_5 : Int) (a1_6 : Int) (a1_7 : Bool) (r : Bool) (w : World) (hr0_3 : Kd.C (Kd.int .i64) w A0_3 l0_3.length l0_3) (hc0_3 : l0_3.length ≤ c0_3) (hr1_3 : Kd.C (Kd.int .i64) w A1_3 l1_3.length l1_3) (hc1_3 : l1_3.length ≤ c1_3) (h : burnishref52_depends.f k a0_0 a0_1 a0_2 l0_3 a0_4 a0_5 a0_6 a0_7 a1_0 a1_1 a1_2 l1_3 a1_4 a1_5 a1_6 a1_7 = some r) :
  Calls Tryd.prog 36 #[.agg #[.int .i64 a0_0, .int .i64 a0_1, .int .i64 a0_2, .slice A0_3 l0_3.length c0_3, .int .i64 a0_4, .int .i64 a0_5, .int .i64 a0_6, .bool a0_7], .agg #[.int .i64 a1_0, .int .i64 a1_1, .int .i64 a1_2, .slice A1_3 l1_3.length c1_3, .int .i64 a1_4, .int .i64 a1_5, .int .i64 a1_6, .bool a1_7]] w fun e w' => e = .returned (.bool r) ∧ Below w.heap.size w w' := by
 have hX := Aside0.mk (And.intro hr0_3 (And.intro hc0_3 (And.intro hr1_3 hc1_3)))
 clear hr0_3 hc0_3 hr1_3 hc1_3
 obtain ⟨u, hu, h⟩ := Option.bind_eq_some_iff.1 h
 replace h := Aside0.mk h
 replace hu := Aside0.mk hu
 go_enter Tryd.func36, Tryd.ntmps36
 go_upto_region 1 with (fail)
 obtain ⟨w2, hw2⟩ : ∃ w2, (w.alloc (.cells #[.int .i64 a0_0, .int .i64 a0_1, .int .i64 a0_2, .slice A0_3 l0_3.length c0_3, .int .i64 a0_4, .int .i64 a0_5, .int .i64 a0_6, .bool a0_7] 48 (0, 0))).alloc (.cells #[.int .i64 a1_0, .int .i64 a1_1, .int .i64 a1_2, .slice A1_3 l1_3.length c1_3, .int .i64 a1_4, .int .i64 a1_5, .int .i64 a1_6, .bool a1_7] 48 (0, 0)) = w2 := ⟨_, rfl⟩
 obtain ⟨b0, hb0⟩ : ∃ b0, w.heap.size = b0 := ⟨_, rfl⟩
 obtain ⟨B2, h7, h8⟩ := blk2 hw2 hb0
 rw [hw2, hb0]
 clear hw2 hb0
 have hB2 := Aside0.mk B2
 have hC0 : ∀ W1 : World, Below w2.heap.size w2 W1 → W1.cell? ⟨b0, 0, none⟩ = some (.int .i64 a0_0) ∧ W1.cell? ⟨b0, 1, none⟩ = some (.int .i64 a0_1) ∧ W1.cell? ⟨b0, 2, none⟩ = some (.int .i64 a0_2) ∧ W1.cell? ⟨b0, 3, none⟩ = some (.slice A0_3 l0_3.length c0_3) ∧ W1.cell? ⟨b0, 4, none⟩ = some (.int .i64 a0_4) ∧ W1.cell? ⟨b0, 5, none⟩ = some (.int .i64 a0_5) ∧ W1.cell? ⟨b0, 6, none⟩ = some (.int .i64 a0_6) ∧ W1.cell? ⟨b0, 7, none⟩ = some (.bool a0_7) ∧ W1.cell? ⟨b0 + 1, 0, none⟩ = some (.int .i64 a1_0) ∧ W1.cell? ⟨b0 + 1, 1, none⟩ = some (.int .i64 a1_1) ∧ W1.cell? ⟨b0 + 1, 2, none⟩ = some (.int .i64 a1_2) ∧ W1.cell? ⟨b0 + 1, 3, none⟩ = some (.slice A1_3 l1_3.length c1_3) ∧ W1.cell? ⟨b0 + 1, 4, none⟩ = some (.int .i64 a1_4) ∧ W1.cell? ⟨b0 + 1, 5, none⟩ = some (.int .i64 a1_5) ∧ W1.cell? ⟨b0 + 1, 6, none⟩ = some (.int .i64 a1_6) ∧ W1.cell? ⟨b0 + 1, 7, none⟩ = some (.bool a1_7) := fun W1 e1 => by
  have z1 := (e1.block _ (blk_lt' h7)).trans h7
  have z2 := (e1.block _ (blk_lt' h8)).trans h8
  exact ⟨cell_at z1 rfl, cell_at z1 rfl, cell_at z1 rfl, cell_at z1 rfl, cell_at z1 rfl, cell_at z1 rfl, cell_at z1 rfl, cell_at z1 rfl, cell_at z2 rfl, cell_at z2 rfl, cell_at z2 rfl, cell_at z2 rfl, cell_at z2 rfl, cell_at z2 rfl, cell_at z2 rfl, cell_at z2 rfl⟩
 have hCl := Aside0.mk hC0
 replace hX := Aside0.mk (And.intro (Kd.C_below hX.out.1 B2) (And.intro hX.out.2.1 (And.intro (Kd.C_below hX.out.2.2.1 B2) hX.out.2.2.2)))
 have hBz := Aside0.mk (Below.refl w2.heap.size w2)
 obtain ⟨k0, k1, k2, k3, k4, k5, k6, k7, l0, l1, l2, l3, l4, l5, l6, l7⟩ := hCl.out w2 hBz.out
 clear B2 h7 h8 hC0
 go_cut [26] (fun v wc => ∃ c : Bool, v = .bool c ∧ Aside0 (burnishref52_depends.j0 k c a0_0 a0_1 a0_2 l0_3 a0_4 a0_5 a0_6 a0_7 a1_0 a1_1 a1_2 l1_3 a1_4 a1_5 a1_6 a1_7 = some r) ∧ Aside0 (Below w2.heap.size w2 wc))
 case first =>
  go_wp2_with fail
  refine (burnishref52_uses.calls k a0_0 a0_1 a0_2 A0_3 c0_3 l0_3 a0_4 a0_5 a0_6 a0_7 a1_0 a1_1 a1_2 A1_3 c1_3 l1_3 a1_4 a1_5 a1_6 a1_7 u w2 (Kd.C_below hX.out.1 hBz.out) hX.out.2.1 (Kd.C_below hX.out.2.2.1 hBz.out) hX.out.2.2.2 hu.out).mono ?_
  rintro e w3 ⟨rfl, Bx⟩
  have B3 : Aside0 (Below w2.heap.size w2 w3) := ⟨bl2 hBz.out Bx⟩
  clear Bx k0 k1 k2 k3 k4 k5 k6 k7 l0 l1 l2 l3 l4 l5 l6 l7
  obtain ⟨k0, k1, k2, k3, k4, k5, k6, k7, l0, l1, l2, l3, l4, l5, l6, l7⟩ := hCl.out _ B3.out
  clear hu
  cases u with
  | true =>
   replace h : burnishref52_depends.j0 k true a0_0 a0_1 a0_2 l0_3 a0_4 a0_5 a0_6 a0_7 a1_0 a1_1 a1_2 l1_3 a1_4 a1_5 a1_6 a1_7 = some r := by have := h.out; simpa using this
   clear k0 k1 k2 k3 k4 k5 k6 k7 l0 l1 l2 l3 l4 l5 l6 l7
   go_wp2
   go_meet
   exact ⟨true, rfl, ⟨h⟩, B3⟩
  | false =>
   replace h := h.out
   rw [if_neg (by simp)] at h
   by_cases q1 : a0_2 ≥ 0
   ·rw [if_pos q1] at h
    have q1b : decide (0 ≤ a0_2) = true := decide_eq_true q1
    by_cases q2 : a0_2 = a1_2
    ·rw [if_pos q2] at h
     subst q2
     replace h := Aside0.mk h
     clear q1
     go_wp2
     go_meet
     exact ⟨true, rfl, h, B3⟩
    ·rw [if_neg q2] at h
     have q2b : (a0_2 == a1_2) = false := beq_eq_false_iff_ne.2 q2
     obtain ⟨v, hv, h⟩ := Option.bind_eq_some_iff.1 h
     replace h := Aside0.mk h
     replace hv := Aside0.mk hv
     clear q1 q2
     go_wp2_with fail
     refine (burnishref52_in.calls k A1_3 c1_3 l1_3 a0_2 v w3 (Kd.C_below hX.out.2.2.1 B3.out) hX.out.2.2.2 hv.out).mono ?_
     rintro e w4 ⟨rfl, hd⟩
     obtain ⟨nd, rfl⟩ := hd
     have Bx : Below w3.heap.size w3 (w3.drewN nd) := pw_below_drewN (Below.refl _ _) _
     have B4 : Aside0 (Below w2.heap.size w2 (w3.drewN nd)) := ⟨bl2 B3.out Bx⟩
     clear Bx k0 k1 k2 k3 k4 k5 k6 k7 l0 l1 l2 l3 l4 l5 l6 l7
     obtain ⟨k0, k1, k2, k3, k4, k5, k6, k7, l0, l1, l2, l3, l4, l5, l6, l7⟩ := hCl.out _ B4.out
     clear k0 k1 k2 k3 k4 k5 k6 k7 l0 l1 l2 l3 l4 l5 l6 l7 q1b q2b
     go_wp2
     go_meet
     exact ⟨v, rfl, ⟨h.out⟩, B4⟩
   ·rw [if_neg q1] at h
    have q1b : decide (0 ≤ a0_2) = false := decide_eq_false q1
    replace h := Aside0.mk h
    clear q1
    go_wp2
    go_meet
    exact ⟨false, rfl, h, B3⟩
 case rest =>
  obtain ⟨c, rfl, h, Bc⟩ := hcut
  clear k0 k1 k2 k3 k4 k5 k6 k7 l0 l1 l2 l3 l4 l5 l6 l7
  obtain ⟨k0, k1, k2, k3, k4, k5, k6, k7, l0, l1, l2, l3, l4, l5, l6, l7⟩ := hCl.out _ Bc.out
  obtain ⟨k, rfl⟩ : ∃ q, k = q + 1 := by
   cases k with
   | zero => exact absurd h.out (by simp [burnishref52_depends.j0])
   | succ k => exact ⟨k, rfl⟩
  have H := h.out
  clear h
  rw [burnishref52_depends.j0] at H
  cases c with
  | true =>
   rw [if_pos rfl] at H
   have H9 : true = r := Option.some.inj H
   subst H9
   clear H k0 k1 k2 k3 k4 k5 k6 k7 l0 l1 l2 l3 l4 l5 l6 l7
   go_wp2
   go_ret
   exact ⟨rfl, hB2.out.trans (Bc.out.mono hB2.out.size)⟩
  | false =>
   rw [if_neg (by simp)] at H
   go_upto_region 3 with (fail)
   go_cut [42] (fun v wc => ∃ c : Bool, v = .bool c ∧ Aside0 (burnishref52_depends.j1 k c a0_0 a0_1 a0_2 l0_3 a0_4 a0_5 a0_6 a0_7 a1_0 a1_1 a1_2 l1_3 a1_4 a1_5 a1_6 a1_7 = some r) ∧ Aside0 (Below w2.heap.size w2 wc))
   case first =>
    obtain ⟨u, hu, H⟩ := Option.bind_eq_some_iff.1 H
    replace H := Aside0.mk H
    replace hu := Aside0.mk hu
    go_wp2_with fail
    refine (burnishref52_memory.calls a0_0 a0_1 a0_2 A0_3 c0_3 l0_3 a0_4 a0_5 a0_6 a0_7 u wc (Kd.C_below hX.out.1 Bc.out) hX.out.2.1 hu.out).mono ?_
    rintro e w5 ⟨rfl, Bx⟩
    have B5 : Aside0 (Below w2.heap.size w2 w5) := ⟨bl2 Bc.out Bx⟩
    clear Bx k0 k1 k2 k3 k4 k5 k6 k7 l0 l1 l2 l3 l4 l5 l6 l7
    obtain ⟨k0, k1, k2, k3, k4, k5, k6, k7, l0, l1, l2, l3, l4, l5, l6, l7⟩ := hCl.out _ B5.out
    clear hu
    replace H := H.out
    cases u with
    | false =>
     rw [if_neg (by simp)] at H
     replace H := Aside0.mk H
     clear k0 k1 k2 k3 k4 k5 k6 k7 l0 l1 l2 l3 l4 l5 l6 l7
     go_wp2
     go_meet
     exact ⟨false, rfl, H, B5⟩
    | true =>
     rw [if_pos rfl] at H
     obtain ⟨v, hv, H⟩ := Option.bind_eq_some_iff.1 H
     replace H := Aside0.mk H
     replace hv := Aside0.mk hv
     go_wp2_with fail
     refine (burnishref52_memory.calls a1_0 a1_1 a1_2 A1_3 c1_3 l1_3 a1_4 a1_5 a1_6 a1_7 v w5 (Kd.C_below hX.out.2.2.1 B5.out) hX.out.2.2.2 hv.out).mono ?_
     rintro e w6 ⟨rfl, Bx⟩
     have B6 : Aside0 (Below w2.heap.size w2 w6) := ⟨bl2 B5.out Bx⟩
     clear Bx k0 k1 k2 k3 k4 k5 k6 k7 l0 l1 l2 l3 l4 l5 l6 l7
     obtain ⟨k0, k1, k2, k3, k4, k5, k6, k7, l0, l1, l2, l3, l4, l5, l6, l7⟩ := hCl.out _ B6.out
     clear hv
     replace H := H.out
     cases v with
     | false =>
      rw [if_neg (by simp)] at H
      replace H := Aside0.mk H
      clear k0 k1 k2 k3 k4 k5 k6 k7 l0 l1 l2 l3 l4 l5 l6 l7
      go_wp2
      go_meet
      exact ⟨false, rfl, H, B6⟩
     | true =>
      rw [if_pos rfl] at H
      by_cases q1 : a0_0 = 28
      ·rw [if_pos q1] at H
       have q1b : (a0_0 != 28) = false := bne_eq_false_iff_eq.2 q1
       by_cases q2 : a1_0 = 28
       ·have q2b : (a1_0 != 28) = false := bne_eq_false_iff_eq.2 q2
        rw [q2b] at H
        clear q1 q2
        replace H := Aside0.mk H
        go_wp2
        go_meet
        exact ⟨false, rfl, H, B6⟩
       ·have q2b : (a1_0 != 28) = true := bne_iff_ne.2 q2
        rw [q2b] at H
        clear q1 q2
        replace H := Aside0.mk H
        go_wp2
        go_meet
        exact ⟨true, rfl, H, B6⟩
      ·rw [if_neg q1] at H
       have q1b : (a0_0 != 28) = true := bne_iff_ne.2 q1
       clear q1
       replace H := Aside0.mk H
       go_wp2
       go_meet
       exact ⟨true, rfl, H, B6⟩
   case rest =>
    clear H
    obtain ⟨c, rfl, h, Bd⟩ := hcut
    clear k0 k1 k2 k3 k4 k5 k6 k7 l0 l1 l2 l3 l4 l5 l6 l7
    obtain ⟨k0, k1, k2, k3, k4, k5, k6, k7, l0, l1, l2, l3, l4, l5, l6, l7⟩ := hCl.out _ Bd.out
    obtain ⟨k, rfl⟩ : ∃ q, k = q + 1 := by
     cases k with
     | zero => exact absurd h.out (by simp [burnishref52_depends.j1])
     | succ k => exact ⟨k, rfl⟩
    have H := h.out
    clear h
    rw [burnishref52_depends.j1] at H
    cases c with
    | true =>
     rw [if_pos rfl] at H
     have H9 : true = r := Option.some.inj H
     subst H9
     clear H k0 k1 k2 k3 k4 k5 k6 k7 l0 l1 l2 l3 l4 l5 l6 l7
     go_wp2
     go_ret
     exact ⟨rfl, hB2.out.trans (Bd.out.mono hB2.out.size)⟩
    | false =>
     rw [if_neg (by simp)] at H
     go_upto_region 5 with (fail)
     go_cut [65] (fun v wc => ∃ c : Bool, v = .bool c ∧ Aside0 (burnishref52_depends.j2 k c a0_0 a0_1 a0_2 l0_3 a0_4 a0_5 a0_6 a0_7 a1_0 a1_1 a1_2 l1_3 a1_4 a1_5 a1_6 a1_7 = some r) ∧ Aside0 (Below w2.heap.size w2 wc))
     case first =>
      obtain ⟨u, hu, H⟩ := Option.bind_eq_some_iff.1 H
      replace H := Aside0.mk H
      replace hu := Aside0.mk hu
      go_wp2_with fail
      refine (burnishref52_slot.calls a0_0 a0_1 a0_2 A0_3 c0_3 l0_3 a0_4 a0_5 a0_6 a0_7 u wc (Kd.C_below hX.out.1 Bd.out) hX.out.2.1 hu.out).mono ?_
      rintro e w5 ⟨rfl, Bx⟩
      have B5 : Aside0 (Below w2.heap.size w2 w5) := ⟨bl2 Bd.out Bx⟩
      clear Bx k0 k1 k2 k3 k4 k5 k6 k7 l0 l1 l2 l3 l4 l5 l6 l7
      obtain ⟨k0, k1, k2, k3, k4, k5, k6, k7, l0, l1, l2, l3, l4, l5, l6, l7⟩ := hCl.out _ B5.out
      clear hu
      replace H := H.out
      cases u with
      | false =>
       rw [if_neg (by simp)] at H
       replace H := Aside0.mk H
       clear k0 k1 k2 k3 k4 k5 k6 k7 l0 l1 l2 l3 l4 l5 l6 l7
       go_wp2
       go_meet
       exact ⟨false, rfl, H, B5⟩
      | true =>
       rw [if_pos rfl] at H
       obtain ⟨v, hv, H⟩ := Option.bind_eq_some_iff.1 H
       replace H := Aside0.mk H
       replace hv := Aside0.mk hv
       go_wp2_with fail
       refine (burnishref52_slot.calls a1_0 a1_1 a1_2 A1_3 c1_3 l1_3 a1_4 a1_5 a1_6 a1_7 v w5 (Kd.C_below hX.out.2.2.1 B5.out) hX.out.2.2.2 hv.out).mono ?_
       rintro e w6 ⟨rfl, Bx⟩
       have B6 : Aside0 (Below w2.heap.size w2 w6) := ⟨bl2 B5.out Bx⟩
       clear Bx k0 k1 k2 k3 k4 k5 k6 k7 l0 l1 l2 l3 l4 l5 l6 l7
       obtain ⟨k0, k1, k2, k3, k4, k5, k6, k7, l0, l1, l2, l3, l4, l5, l6, l7⟩ := hCl.out _ B6.out
       clear hv
       replace H := H.out
       cases v with
       | false =>
        rw [if_neg (by simp)] at H
        replace H := Aside0.mk H
        clear k0 k1 k2 k3 k4 k5 k6 k7 l0 l1 l2 l3 l4 l5 l6 l7
        go_wp2
        go_meet
        exact ⟨false, rfl, H, B6⟩
       | true =>
        rw [if_pos rfl] at H
        by_cases q0 : a0_4 = a1_4
        ·rw [if_pos q0] at H
         have q0b : (a0_4 == a1_4) = true := beq_iff_eq.2 q0
         by_cases q1 : a0_0 = 40
         ·rw [if_pos q1] at H
          have q1b : (a0_0 == 40) = true := beq_iff_eq.2 q1
          clear q0 q1
          replace H := Aside0.mk H
          go_wp2
          go_meet
          exact ⟨true, rfl, H, B6⟩
         ·rw [if_neg q1] at H
          have q1b : (a0_0 == 40) = false := beq_eq_false_iff_ne.2 q1
          by_cases q2 : a1_0 = 40
          ·have q2b : (a1_0 == 40) = true := beq_iff_eq.2 q2
           rw [q2b] at H
           clear q0 q1 q2
           replace H := Aside0.mk H
           go_wp2
           go_meet
           exact ⟨true, rfl, H, B6⟩
          ·have q2b : (a1_0 == 40) = false := beq_eq_false_iff_ne.2 q2
           rw [q2b] at H
           clear q0 q1 q2
           replace H := Aside0.mk H
           go_wp2
           go_meet
           exact ⟨false, rfl, H, B6⟩
        ·rw [if_neg q0] at H
         have q0b : (a0_4 == a1_4) = false := beq_eq_false_iff_ne.2 q0
         clear q0
         replace H := Aside0.mk H
         go_wp2
         go_meet
         exact ⟨false, rfl, H, B6⟩
     case rest =>
      clear H
      obtain ⟨c, rfl, h, Be⟩ := hcut
      clear k0 k1 k2 k3 k4 k5 k6 k7 l0 l1 l2 l3 l4 l5 l6 l7
      obtain ⟨k0, k1, k2, k3, k4, k5, k6, k7, l0, l1, l2, l3, l4, l5, l6, l7⟩ := hCl.out _ Be.out
      obtain ⟨k, rfl⟩ : ∃ q, k = q + 1 := by
       cases k with
       | zero => exact absurd h.out (by simp [burnishref52_depends.j2])
       | succ k => exact ⟨k, rfl⟩
      have H := h.out
      clear h
      rw [burnishref52_depends.j2] at H
      cases c with
      | true =>
       rw [if_pos rfl] at H
       have H9 : true = r := Option.some.inj H
       subst H9
       clear H k0 k1 k2 k3 k4 k5 k6 k7 l0 l1 l2 l3 l4 l5 l6 l7
       go_wp2
       go_ret
       exact ⟨rfl, hB2.out.trans (Be.out.mono hB2.out.size)⟩
      | false =>
       rw [if_neg (by simp)] at H
       obtain ⟨u, hu, H⟩ := Option.bind_eq_some_iff.1 H
       replace H := Aside0.mk H
       replace hu := Aside0.mk hu
       go_wp2_with fail
       refine (burnishref52_ordered.calls a0_0 a0_1 a0_2 A0_3 c0_3 l0_3 a0_4 a0_5 a0_6 a0_7 u wc (Kd.C_below hX.out.1 Be.out) hX.out.2.1 hu.out).mono ?_
       rintro e w5 ⟨rfl, Bx⟩
       have B5 : Aside0 (Below w2.heap.size w2 w5) := ⟨bl2 Be.out Bx⟩
       clear Bx k0 k1 k2 k3 k4 k5 k6 k7 l0 l1 l2 l3 l4 l5 l6 l7
       obtain ⟨k0, k1, k2, k3, k4, k5, k6, k7, l0, l1, l2, l3, l4, l5, l6, l7⟩ := hCl.out _ B5.out
       clear hu
       replace H := H.out
       cases u with
       | false =>
        rw [if_neg (by simp)] at H
        have H9 : false = r := Option.some.inj H
        subst H9
        clear H k0 k1 k2 k3 k4 k5 k6 k7 l0 l1 l2 l3 l4 l5 l6 l7
        go_wp2
        go_ret
        exact ⟨rfl, hB2.out.trans (B5.out.mono hB2.out.size)⟩
       | true =>
        rw [if_pos rfl] at H
        obtain ⟨v, hv, H⟩ := Option.bind_eq_some_iff.1 H
        replace H := Aside0.mk H
        replace hv := Aside0.mk hv
        go_wp2_with fail
        refine (burnishref52_ordered.calls a1_0 a1_1 a1_2 A1_3 c1_3 l1_3 a1_4 a1_5 a1_6 a1_7 v w5 (Kd.C_below hX.out.2.2.1 B5.out) hX.out.2.2.2 hv.out).mono ?_
        rintro e w6 ⟨rfl, Bx⟩
        have B6 : Aside0 (Below w2.heap.size w2 w6) := ⟨bl2 B5.out Bx⟩
        clear Bx k0 k1 k2 k3 k4 k5 k6 k7 l0 l1 l2 l3 l4 l5 l6 l7
        obtain ⟨k0, k1, k2, k3, k4, k5, k6, k7, l0, l1, l2, l3, l4, l5, l6, l7⟩ := hCl.out _ B6.out
        clear hv
        replace H := H.out
        have H9 : v = r := Option.some.inj H
        subst H9
        clear H k0 k1 k2 k3 k4 k5 k6 k7 l0 l1 l2 l3 l4 l5 l6 l7
        go_wp2
        go_ret
        exact ⟨rfl, hB2.out.trans (B6.out.mono hB2.out.size)⟩
end Go.Proofs.YtjacphcbiaacnaaDoor.PDigraphTells
end

section
namespace Go.Proofs.YtjacphcbiaacnaaDoor.PDigraphTells
open Go.RowKit Go.Proofs.YtjacphcbiaacnaaDoorW.PrintWords Go.Proofs.YtjacphcbiaacnaaDoorW.PrintLast Go.Proofs.YtjacphcbiaacnaaDoorW.PrintMore
attribute [local go_sem] max2_int min2_int max_two min_two max_three min_three max_four min_four
set_option linter.unusedVariables false
set_option linter.unusedSimpArgs false
mutual
def burnishref52_Dependences.l0 : Nat → List (List Int) → Int → Int → List Int → List (S48) → Int → List Int → List Int → List (S98) → Int → Option ((List (List Int)))
 | 0, _, _, _, _, _, _, _, _, _, _ => none
 | k + 1, x3, x11, x12, x202000, x202001, x202002, x202003, x202004, x202005, x202006 => if x12 < x11 then (burnishref52_Dependences.l1 k x3 x12 0 x11 x12 x202000 x202001 x202002 x202003 x202004 x202005 x202006) else (some x3)
def burnishref52_Dependences.l1 : Nat → List (List Int) → Int → Int → Int → Int → List Int → List (S48) → Int → List Int → List Int → List (S98) → Int → Option ((List (List Int)))
 | 0, _, _, _, _, _, _, _, _, _, _, _, _ => none
 | k + 1, x3, x4, x5, x11, x12, x202000, x202001, x202002, x202003, x202004, x202005, x202006 => if x5 < x4 then (if 0 ≤ x4 then (if x4 < (x202001.length : Int) then (if 0 ≤ x5 then (if x5 < (x202001.length : Int) then ((burnishref52_depends.f k ((rd_T48 x202001 x4).f0) ((rd_T48 x202001 x4).f1) ((rd_T48 x202001 x4).f2) ((rd_T48 x202001 x4).f3) ((rd_T48 x202001 x4).f4) ((rd_T48 x202001 x4).f5) ((rd_T48 x202001 x4).f6) ((rd_T48 x202001 x4).f7) ((rd_T48 x202001 x5).f0) ((rd_T48 x202001 x5).f1) ((rd_T48 x202001 x5).f2) ((rd_T48 x202001 x5).f3) ((rd_T48 x202001 x5).f4) ((rd_T48 x202001 x5).f5) ((rd_T48 x202001 x5).f6) ((rd_T48 x202001 x5).f7)).bind fun t207 => (if t207 = true then (if x4 < (x3.length : Int) then (if (rd_L1 x3 x4).length < 17592186044416 then (burnishref52_Dependences.l1 k (x3.set (x4 : Int).toNat ((rd_L1 x3 x4) ++ [x5])) x4 (wrap64 (x5 + 1)) x11 x12 x202000 x202001 x202002 x202003 x202004 x202005 x202006) else (none)) else (none)) else (burnishref52_Dependences.l1 k x3 x4 (wrap64 (x5 + 1)) x11 x12 x202000 x202001 x202002 x202003 x202004 x202005 x202006))) else (none)) else (none)) else (none)) else (none)) else (burnishref52_Dependences.l0 k x3 x11 (wrap64 (x12 + 1)) x202000 x202001 x202002 x202003 x202004 x202005 x202006)
end
def burnishref52_Dependences.f (k : Nat) (l0_0 : List Int) (l0_1 : List (S48)) (a0_2 : Int) (l0_3 : List Int) (l0_4 : List Int) (l0_5 : List (S98)) (a0_6 : Int) : Option ((List (List Int))) := if 0 ≤ (l0_1.length : Int) then (if ((l0_1.length : Int) : Int).toNat ≤ 11728124029610 then ((some (List.replicate ((l0_1.length : Int) : Int).toNat [] : List (List Int))).bind fun y202 => (burnishref52_Dependences.l0 k y202 (y202.length : Int) 0 l0_0 l0_1 a0_2 l0_3 l0_4 l0_5 a0_6)) else (none)) else (none)
def burnishref52_Dependences.T8 : Bool × List (List Nat × List Nat) := (true, [([], []), ([0], [0]), ([], []), ([1, 2], [1, 2]), ([3], [3]), ([], []), ([5], [5]), ([], []), ([6, 7], [6, 7]), ([8], [8]), ([4, 9], [4, 9])])
def burnishref52_Dependences.B8 : List Nat := [0, 1, 0, 7, 15, 0, 32, 0, 224, 480, 1023]
theorem burnishref52_Dependences.tab8 : rtab .any (opsOf Tryd.f22 8) = burnishref52_Dependences.T8 := by kernel_rfl
theorem burnishref52_Dependences.bits8 : waitsOk burnishref52_Dependences.T8.2 burnishref52_Dependences.B8 = true := by kernel_rfl
set_option maxHeartbeats 8000000 in
set_option maxRecDepth 100000 in
theorem burnishref52_Dependences.calls (k : Nat) (A0_0 : Option Addr) (c0_0 : Nat) (l0_0 : List Int) (A0_1 : Option Addr) (c0_1 : Nat) (l0_1 : List (S48)) (a0_2 : Int) (A0_3 : Option Addr) (c0_3 : Nat) (l0_3 : List Int) (A0_4 : Option Addr) (c0_4 : Nat) (l0_4 : List Int) (A0_5 : Option Addr) (c0_5 : Nat) (l0_5 : List (S98)) (a0_6 : Int) (r : List (List Int)) (w : World) (hr0_0 : Kd.C (Kd.int .i64) w A0_0 l0_0.length l0_0) (hc0_0 : l0_0.length ≤ c0_0) (hr0_1 : Kd.C k48 w A0_1 l0_1.length l0_1) (hc0_1 : l0_1.length ≤ c0_1) (hr0_3 : Kd.C (Kd.int .i64) w A0_3 l0_3.length l0_3) (hc0_3 : l0_3.length ≤ c0_3) (hr0_4 : Kd.C (Kd.int .i64) w A0_4 l0_4.length l0_4) (hc0_4 : l0_4.length ≤ c0_4) (hr0_5 : Kd.C k98 w A0_5 l0_5.length l0_5) (hc0_5 : l0_5.length ≤ c0_5) (h : burnishref52_Dependences.f k l0_0 l0_1 a0_2 l0_3 l0_4 l0_5 a0_6 = some r) :
  Calls Tryd.prog 22 #[.agg #[.slice A0_0 l0_0.length c0_0, .slice A0_1 l0_1.length c0_1, .int .i64 a0_2, .slice A0_3 l0_3.length c0_3, .slice A0_4 l0_4.length c0_4, .slice A0_5 l0_5.length c0_5, .int .i64 a0_6]] w fun e w' => ∃ v0_ : Value, e = .returned (v0_) ∧ Kd.S (Kd.slice 3 (Kd.int .i64)) 22 w' w.heap.size (fun _ => True) v0_ r ∧ Below w.heap.size w w' := by
 have hu31 := Tryd.underlying31
 have hu48 := Tryd.underlying48
 have HR0_0 := Aside0.mk hr0_0
 have HC0_0 := Aside0.mk hc0_0
 clear hr0_0 hc0_0
 have HR0_1 := Aside0.mk hr0_1
 have HC0_1 := Aside0.mk hc0_1
 clear hr0_1 hc0_1
 have HR0_3 := Aside0.mk hr0_3
 have HC0_3 := Aside0.mk hc0_3
 clear hr0_3 hc0_3
 have HR0_4 := Aside0.mk hr0_4
 have HC0_4 := Aside0.mk hc0_4
 clear hr0_4 hc0_4
 have HR0_5 := Aside0.mk hr0_5
 have HC0_5 := Aside0.mk hc0_5
 clear hr0_5 hc0_5
 have HB := Aside0.mk (Below.refl w.heap.size w)
 have H : (if 0 ≤ (l0_1.length : Int) then (if ((l0_1.length : Int) : Int).toNat ≤ 11728124029610 then ((some (List.replicate ((l0_1.length : Int) : Int).toNat [] : List (List Int))).bind fun y202 => (burnishref52_Dependences.l0 k y202 (y202.length : Int) 0 l0_0 l0_1 a0_2 l0_3 l0_4 l0_5 a0_6)) else (none)) else (none)) = some r := h
 clear h
 by_cases c2 : 0 ≤ (l0_1.length : Int)
 ·rw [if_pos c2] at H
  have c2b0 := eq_true c2
  have c2b1 : decide (0 ≤ (l0_1.length : Int)) = true := decide_eq_true c2
  clear c2
  by_cases c3 : ((l0_1.length : Int) : Int).toNat ≤ 11728124029610
  ·rw [if_pos c3] at H
   have c3b0 := eq_true c3
   have c3b1 : decide (((l0_1.length : Int) : Int).toNat ≤ 11728124029610) = true := decide_eq_true c3
   clear c3
   obtain ⟨y202, hy202⟩ : ∃ y_ : List (List Int), y_ = (List.replicate ((l0_1.length : Int) : Int).toNat []) := ⟨_, rfl⟩
   replace H : (burnishref52_Dependences.l0 k y202 (y202.length : Int) 0 l0_0 l0_1 a0_2 l0_3 l0_4 l0_5 a0_6) = some r := by first | (rw [hy202]; with_reducible exact H) | (have H2_ := (Option.bind_some _ _).symm.trans H; rw [hy202]; with_reducible exact H2_) | (have H2_ := (Option.bind_some _ _).symm.trans H; with_reducible exact H2_) | with_reducible exact H | (rw [hy202]; exact H) | exact H
   have Ny202 := Aside0.mk hy202
   clear hy202
   have H' := Aside0.mk H
   clear H
   go_enter Tryd.func22, Tryd.ntmps22
   go_wp2_with (first | ((with_reducible refine gate_dst (N := 1) rfl ?_); refine box_event ?hg (N := 1) ?hd (cs := #[.slice A0_0 l0_0.length c0_0, .slice A0_1 l0_1.length c0_1, .int .i64 a0_2, .slice A0_3 l0_3.length c0_3, .slice A0_4 l0_4.length c0_4, .slice A0_5 l0_5.length c0_5, .int .i64 a0_6]) (t := 31) ?hr ?_; (case hd => rfl); (case hg => rfl); (case hr => first | (go_simp; done) | (go_simp; rfl)); intro gb201 hg w4 hbox hb; have n0_ := Aside0.mk (below_step (by repeat (first | (with_reducible first | exact HB.out | apply below_alloc | apply pw_below_drewN | apply below_drew1) | exact HB.out)) hb); have n1_ := Aside0.mk (hbox); have n2_ := Aside0.mk ((by rw [hg]; exact (below_size (by repeat (first | (with_reducible first | exact HB.out | apply below_alloc | apply pw_below_drewN | apply below_drew1) | exact HB.out))) : w.heap.size ≤ gb201)); have n3_ := Aside0.mk ((by rw [hg]; exact (below_size (by repeat (first | (with_reducible first | exact HB.out | apply below_alloc | apply pw_below_drewN | apply below_drew1) | exact HB.out))) : w.heap.size ≤ gb201)); clear HB; have HB := n0_; have BK201 := n1_; have GW201 := n2_; have GE201 := n3_; clear n0_ n1_ n2_ n3_; clear hb hbox hg; obtain ⟨hcz5_0, hcz5_1, hcz5_2, hcz5_3, hcz5_4, hcz5_5, hcz5_6⟩ := cz7 BK201.out; obtain ⟨hfz5_0, hfz5_1, hfz5_2, hfz5_3, hfz5_4, hfz5_5, hfz5_6⟩ := fz7 BK201.out) | ((with_reducible refine gate_dst (N := 9) rfl ?_); refine Kd.S_make (Kd.slice 3 (Kd.int .i64)) _ 22 rfl (N := 9) rfl 44 _ _ rfl (l0_1.length : Int) rfl rfl Tryd.underlying44 (.slice none 0 0) 24 info22 rfl (by decide) (by omega) [] (ok := fun _ => True) (okp := fun _ => True) ⟨_, rfl, Kd.R_nil _ _ _ _ _⟩ (fun _ hk => hk) trivial (of_decide_eq_true (by first | (with_reducible assumption) | assumption)) (Nat.le_trans (Nat.mul_le_mul_right _ (of_decide_eq_true (by first | (with_reducible assumption) | assumption) : (l0_1.length : Int).toNat ≤ 11728124029610)) (by omega)) (Below.refl _ _) (Nat.le_refl _) ?_; intro v203 w6 ho7 hb hg_ hnew_; clear hg_ hnew_; (first | rw [← Ny202.out] at ho7 | (simp only [Int.reduceToNat] at ho7; rw [← Ny202.out] at ho7)); have n0_ := Aside0.mk (Kd.S_lower ho7 (below_size (by repeat (first | (with_reducible first | exact HB.out | apply below_alloc | apply pw_below_drewN | apply below_drew1 | refine below_set ?_ GE201.out) | exact HB.out)))); have n1_ := Aside0.mk (blk_below (g := gb201) (by (with_reducible repeat (first | refine blk_drewN ?_ _ | refine blk_drew ?_ | refine blk_alloc ?_ _)); exact BK201.out) hb); have n2_ := Aside0.mk (below_step (by repeat (first | (with_reducible first | exact HB.out | apply below_alloc | apply pw_below_drewN | apply below_drew1 | refine below_set ?_ GE201.out) | exact HB.out)) hb); clear BK201; clear HB; have HO204 := n0_; have BK201 := n1_; have HB := n2_; clear n0_ n1_ n2_; clear hb ho7; obtain ⟨Ao8, co8, eo8⟩ := Kd.S_slice HO204.out; subst eo8))
   go_loopg [12] k (fun kq v12 w' => ∃ (x3_1 : List (List Int)) (x12_1 : Int), v12 = .int .i64 x12_1 ∧ Aside0 (burnishref52_Dependences.l0 kq x3_1 (y202.length : Int) x12_1 l0_0 l0_1 a0_2 l0_3 l0_4 l0_5 a0_6 = some r) ∧ Aside0 (kq ≤ k) ∧ Aside0 (Kd.S (Kd.slice 3 (Kd.int .i64)) 22 w' w.heap.size (fun _ => True) (.slice Ao8 y202.length co8) x3_1) ∧ Aside0 (w'.heap[gb201]? = some (.cells #[(.slice A0_0 l0_0.length c0_0), (.slice A0_1 l0_1.length c0_1), .int .i64 a0_2, (.slice A0_3 l0_3.length c0_3), (.slice A0_4 l0_4.length c0_4), (.slice A0_5 l0_5.length c0_5), .int .i64 a0_6] 31 (0, 0))) ∧ Aside0 (Below w.heap.size w w'))
   case atStart => exact ⟨(y202), (0), (by first | rfl | (simp; done) | (simp [*]; done)), H', ⟨Nat.le_refl _⟩, ⟨by (with_reducible repeat (first | apply Kd.S_alloc | apply Kd.S_drewN | apply Kd.S_drew)); exact HO204.out⟩, ⟨by (with_reducible repeat (first | refine blk_drewN ?_ _ | refine blk_drew ?_ | refine blk_alloc ?_ _)); exact BK201.out⟩, ⟨by repeat (first | (with_reducible first | exact HB.out | apply below_alloc | apply pw_below_drewN | apply below_drew1 | refine below_set ?_ GE201.out) | exact HB.out)⟩⟩
   case round =>
    clear H'
    try clear c2
    try clear c2b0
    try clear c2b1
    try clear p2
    try clear c3
    try clear c3b0
    try clear c3b1
    try clear hcz5_0 hcz5_1 hcz5_2 hcz5_3 hcz5_4 hcz5_5 hcz5_6
    try clear hfz5_0 hfz5_1 hfz5_2 hfz5_3 hfz5_4 hfz5_5 hfz5_6
    obtain ⟨x3_1, x12_1, rfl, HA, HK1, HO_3, BK201, HB⟩ := hrel
    have hl3_1 := (Kd.S_reads' HO_3.out).1
    rw [hl3_1] at HO_3
    (try simp only [hl3_1])
    (try simp only [hl3_1] at BK201)
    cases gk with
    | zero => exact absurd HA.out (by simp [burnishref52_Dependences.l0])
    | succ k1 =>
     have H := HA.out
     clear HA
     simp only [burnishref52_Dependences.l0] at H
     by_cases c9 : x12_1 < (y202.length : Int)
     ·rw [if_pos c9] at H
      have c9b0 : decide (x12_1 < (y202.length : Int)) = true := decide_eq_true c9
      (try rw [hl3_1] at c9b0)
      clear c9
      have H' := Aside0.mk H
      clear H
      go_wp2
      go_loopg [5] k1 (fun kq v5 w' => ∃ (x3_2 : List (List Int)) (x5_2 : Int), v5 = .int .i64 x5_2 ∧ Aside0 (burnishref52_Dependences.l1 kq x3_2 x12_1 x5_2 (y202.length : Int) x12_1 l0_0 l0_1 a0_2 l0_3 l0_4 l0_5 a0_6 = some r) ∧ Aside0 (kq ≤ k1) ∧ Aside0 (Kd.S (Kd.slice 3 (Kd.int .i64)) 22 w' w.heap.size (fun _ => True) (.slice Ao8 x3_1.length co8) x3_2) ∧ Aside0 (w'.heap[gb201]? = some (.cells #[(.slice A0_0 l0_0.length c0_0), (.slice A0_1 l0_1.length c0_1), .int .i64 a0_2, (.slice A0_3 l0_3.length c0_3), (.slice A0_4 l0_4.length c0_4), (.slice A0_5 l0_5.length c0_5), .int .i64 a0_6] 31 (0, 0))) ∧ Aside0 (Below w.heap.size w w'))
      case atStart => exact ⟨(x3_1), (0), (by first | rfl | (simp; done) | (simp [*]; done)), H', ⟨Nat.le_refl _⟩, ⟨by (try simp only [hl3_1]); (with_reducible repeat (first | apply Kd.S_alloc | apply Kd.S_drewN | apply Kd.S_drew)); exact HO_3.out⟩, ⟨by (try simp only [hl3_1]); (with_reducible repeat (first | refine blk_drewN ?_ _ | refine blk_drew ?_ | refine blk_alloc ?_ _)); exact BK201.out⟩, ⟨by repeat (first | (with_reducible first | exact HB.out | apply below_alloc | apply pw_below_drewN | apply below_drew1 | refine below_set ?_ GE201.out) | exact HB.out)⟩⟩
      case round =>
       clear H'
       try clear c2
       try clear c2b0
       try clear c2b1
       try clear p2
       try clear c3
       try clear c3b0
       try clear c3b1
       try clear c9
       try clear c9b0
       try clear hcz5_0 hcz5_1 hcz5_2 hcz5_3 hcz5_4 hcz5_5 hcz5_6
       try clear hfz5_0 hfz5_1 hfz5_2 hfz5_3 hfz5_4 hfz5_5 hfz5_6
       try clear p2
       obtain ⟨x3_2, x5_2, rfl, HA, HK2, HO_3, BK201, HB⟩ := hrel
       have hl3_2 := (Kd.S_reads' HO_3.out).1
       rw [hl3_2] at HO_3
       (try simp only [hl3_2])
       (try simp only [hl3_2] at BK201)
       cases gk with
       | zero => exact absurd HA.out (by simp [burnishref52_Dependences.l1])
       | succ k2 =>
        have H := HA.out
        clear HA
        simp only [burnishref52_Dependences.l1] at H
        by_cases c10 : x5_2 < x12_1
        ·rw [if_pos c10] at H
         have c10b0 : decide (x5_2 < x12_1) = true := decide_eq_true c10
         clear c10
         by_cases c11 : 0 ≤ x12_1
         ·rw [if_pos c11] at H
          have c11b0 : decide (0 ≤ x12_1) = true := decide_eq_true c11
          clear c11
          by_cases c12 : x12_1 < (l0_1.length : Int)
          ·rw [if_pos c12] at H
           have c12b0 : decide (x12_1 < (l0_1.length : Int)) = true := decide_eq_true c12
           (try rw [hl3_1] at c12b0)
           (try rw [hl3_2] at c12b0)
           clear c12
           by_cases c13 : 0 ≤ x5_2
           ·rw [if_pos c13] at H
            have c13b0 : decide (0 ≤ x5_2) = true := decide_eq_true c13
            clear c13
            by_cases c14 : x5_2 < (l0_1.length : Int)
            ·rw [if_pos c14] at H
             have c14b0 : decide (x5_2 < (l0_1.length : Int)) = true := decide_eq_true c14
             (try rw [hl3_1] at c14b0)
             (try rw [hl3_2] at c14b0)
             clear c14
             replace H := Option.bind_eq_some_iff.mp H
             obtain ⟨t207, A150, H⟩ := H
             replace H : (if t207 = true then (if x12_1 < (x3_2.length : Int) then (if (rd_L1 x3_2 x12_1).length < 17592186044416 then (burnishref52_Dependences.l1 k2 (x3_2.set (x12_1 : Int).toNat ((rd_L1 x3_2 x12_1) ++ [x5_2])) x12_1 (wrap64 (x5_2 + 1)) (y202.length : Int) x12_1 l0_0 l0_1 a0_2 l0_3 l0_4 l0_5 a0_6) else (none)) else (none)) else (burnishref52_Dependences.l1 k2 x3_2 x12_1 (wrap64 (x5_2 + 1)) (y202.length : Int) x12_1 l0_0 l0_1 a0_2 l0_3 l0_4 l0_5 a0_6)) = some r := H
             have A15 := Aside0.mk A150
             clear A150
             by_cases c16 : t207 = true
             ·subst c16
              have H1 : (if x12_1 < (x3_2.length : Int) then (if (rd_L1 x3_2 x12_1).length < 17592186044416 then (burnishref52_Dependences.l1 k2 (x3_2.set (x12_1 : Int).toNat ((rd_L1 x3_2 x12_1) ++ [x5_2])) x12_1 (wrap64 (x5_2 + 1)) (y202.length : Int) x12_1 l0_0 l0_1 a0_2 l0_3 l0_4 l0_5 a0_6) else (none)) else (none)) = some r := by rw [if_pos rfl] at H; exact H
              clear H
              have H := H1
              clear H1
              by_cases c17 : x12_1 < (x3_2.length : Int)
              ·rw [if_pos c17] at H
               have c17b0 : decide (x12_1 < (x3_2.length : Int)) = true := decide_eq_true c17
               (try rw [hl3_1] at c17b0)
               (try rw [hl3_2] at c17b0)
               clear c17
               by_cases c18 : (rd_L1 x3_2 x12_1).length < 17592186044416
               ·rw [if_pos c18] at H
                have LMc18 := Aside0.mk c18
                clear c18
                obtain ⟨y209, hy209⟩ : ∃ y_ : List Int, y_ = ((rd_L1 x3_2 x12_1) ++ [x5_2]) := ⟨_, rfl⟩
                replace H : (burnishref52_Dependences.l1 k2 (x3_2.set (x12_1 : Int).toNat y209) x12_1 (wrap64 (x5_2 + 1)) (y202.length : Int) x12_1 l0_0 l0_1 a0_2 l0_3 l0_4 l0_5 a0_6) = some r := by first | (rw [hy209]; with_reducible exact H) | (have H2_ := (Option.bind_some _ _).symm.trans H; rw [hy209]; with_reducible exact H2_) | (have H2_ := (Option.bind_some _ _).symm.trans H; with_reducible exact H2_) | with_reducible exact H | (rw [hy209]; exact H) | exact H
                have Ny209 := Aside0.mk hy209
                clear hy209
                obtain ⟨y212, hy212⟩ : ∃ y_ : List (List Int), y_ = (x3_2.set (x12_1 : Int).toNat y209) := ⟨_, rfl⟩
                replace H : (burnishref52_Dependences.l1 k2 y212 x12_1 (wrap64 (x5_2 + 1)) (y202.length : Int) x12_1 l0_0 l0_1 a0_2 l0_3 l0_4 l0_5 a0_6) = some r := by first | (rw [hy212]; with_reducible exact H) | (have H2_ := (Option.bind_some _ _).symm.trans H; rw [hy212]; with_reducible exact H2_) | (have H2_ := (Option.bind_some _ _).symm.trans H; with_reducible exact H2_) | with_reducible exact H | (rw [hy212]; exact H) | exact H
                have Ny212 := Aside0.mk hy212
                clear hy212
                have H' := Aside0.mk H
                clear H
                try go_wp2
                have n0_ := Aside0.mk (Kd.S_drew HO_3.out)
                have n1_ := Aside0.mk (blk_drew BK201.out)
                have n2_ := Aside0.mk (below_drew1 HB.out)
                clear HO_3
                clear BK201
                clear HB
                have HO_3 := n0_
                have BK201 := n1_
                have HB := n2_
                clear n0_ n1_ n2_
                have p205 : 0 ≤ (x12_1 : Int) := of_decide_eq_true (by first | (with_reducible assumption) | assumption)
                have q205 : x12_1 < (l0_1.length : Int) := of_decide_eq_true (by first | (with_reducible assumption) | assumption)
                obtain ⟨ad205, A205_3, c205_3, e205, hx205_0, hx205_1, hx205_2, hx205_3, hx205_4, hx205_5, hx205_6, hx205_7, hl205_3, hi205_3⟩ := at_T48 HR0_1.out x12_1 p205 q205
                have hw205_7 := hx205_7
                have hw205_6 := hx205_6
                have hw205_5 := hx205_5
                have hw205_4 := hx205_4
                have hw205_3 := hx205_3
                have hw205_2 := hx205_2
                have hw205_1 := hx205_1
                have hw205_0 := hx205_0
                cases e205
                replace hx205_0 := (HB.out.cell (World.block_lt_of_cell? w _ hx205_0)).trans hx205_0
                replace hx205_1 := (HB.out.cell (World.block_lt_of_cell? w _ hx205_1)).trans hx205_1
                replace hx205_2 := (HB.out.cell (World.block_lt_of_cell? w _ hx205_2)).trans hx205_2
                replace hx205_3 := (HB.out.cell (World.block_lt_of_cell? w _ hx205_3)).trans hx205_3
                replace hx205_4 := (HB.out.cell (World.block_lt_of_cell? w _ hx205_4)).trans hx205_4
                replace hx205_5 := (HB.out.cell (World.block_lt_of_cell? w _ hx205_5)).trans hx205_5
                replace hx205_6 := (HB.out.cell (World.block_lt_of_cell? w _ hx205_6)).trans hx205_6
                replace hx205_7 := (HB.out.cell (World.block_lt_of_cell? w _ hx205_7)).trans hx205_7
                have HR205_3 := Aside0.mk hi205_3
                have HC205_3 := Aside0.mk hl205_3
                clear hi205_3 hl205_3
                replace p205 := eq_true p205
                replace q205 := eq_true q205
                have p206 : 0 ≤ (x5_2 : Int) := of_decide_eq_true (by first | (with_reducible assumption) | assumption)
                have q206 : x5_2 < (l0_1.length : Int) := of_decide_eq_true (by first | (with_reducible assumption) | assumption)
                obtain ⟨ad206, A206_3, c206_3, e206, hx206_0, hx206_1, hx206_2, hx206_3, hx206_4, hx206_5, hx206_6, hx206_7, hl206_3, hi206_3⟩ := at_T48 HR0_1.out x5_2 p206 q206
                have hw206_7 := hx206_7
                have hw206_6 := hx206_6
                have hw206_5 := hx206_5
                have hw206_4 := hx206_4
                have hw206_3 := hx206_3
                have hw206_2 := hx206_2
                have hw206_1 := hx206_1
                have hw206_0 := hx206_0
                obtain rfl : ad205 = ad206 := (by injection e206)
                replace hx206_0 := (HB.out.cell (World.block_lt_of_cell? w _ hx206_0)).trans hx206_0
                replace hx206_1 := (HB.out.cell (World.block_lt_of_cell? w _ hx206_1)).trans hx206_1
                replace hx206_2 := (HB.out.cell (World.block_lt_of_cell? w _ hx206_2)).trans hx206_2
                replace hx206_3 := (HB.out.cell (World.block_lt_of_cell? w _ hx206_3)).trans hx206_3
                replace hx206_4 := (HB.out.cell (World.block_lt_of_cell? w _ hx206_4)).trans hx206_4
                replace hx206_5 := (HB.out.cell (World.block_lt_of_cell? w _ hx206_5)).trans hx206_5
                replace hx206_6 := (HB.out.cell (World.block_lt_of_cell? w _ hx206_6)).trans hx206_6
                replace hx206_7 := (HB.out.cell (World.block_lt_of_cell? w _ hx206_7)).trans hx206_7
                have HR206_3 := Aside0.mk hi206_3
                have HC206_3 := Aside0.mk hl206_3
                clear hi206_3 hl206_3
                replace p206 := eq_true p206
                replace q206 := eq_true q206
                refine start_ (n := 11) (S := fun w' => w'.cell? ⟨gb201, 0, none⟩ = some (.slice A0_0 l0_0.length c0_0) ∧ w'.cell? ⟨gb201, 1, none⟩ = some (.slice (some ad205) l0_1.length c0_1) ∧ w'.cell? ⟨gb201, 2, none⟩ = some (.int .i64 a0_2) ∧ w'.cell? ⟨gb201, 3, none⟩ = some (.slice A0_3 l0_3.length c0_3) ∧ w'.cell? ⟨gb201, 4, none⟩ = some (.slice A0_4 l0_4.length c0_4) ∧ w'.cell? ⟨gb201, 5, none⟩ = some (.slice A0_5 l0_5.length c0_5) ∧ w'.cell? ⟨gb201, 6, none⟩ = some (.int .i64 a0_6) ∧ w'.cell? (ad205.add ((x12_1).toNat * 8)) = some (.int .i64 ((rd_T48 l0_1 x12_1).f0)) ∧ w'.cell? ⟨(ad205.add ((x12_1).toNat * 8)).block, (ad205.add ((x12_1).toNat * 8)).off + 1, none⟩ = some (.int .i64 ((rd_T48 l0_1 x12_1).f1)) ∧ w'.cell? ⟨(ad205.add ((x12_1).toNat * 8)).block, (ad205.add ((x12_1).toNat * 8)).off + 2, none⟩ = some (.int .i64 ((rd_T48 l0_1 x12_1).f2)) ∧ w'.cell? ⟨(ad205.add ((x12_1).toNat * 8)).block, (ad205.add ((x12_1).toNat * 8)).off + 3, none⟩ = some (.slice A205_3 ((rd_T48 l0_1 x12_1).f3).length c205_3) ∧ w'.cell? ⟨(ad205.add ((x12_1).toNat * 8)).block, (ad205.add ((x12_1).toNat * 8)).off + 4, none⟩ = some (.int .i64 ((rd_T48 l0_1 x12_1).f4)) ∧ w'.cell? ⟨(ad205.add ((x12_1).toNat * 8)).block, (ad205.add ((x12_1).toNat * 8)).off + 5, none⟩ = some (.int .i64 ((rd_T48 l0_1 x12_1).f5)) ∧ w'.cell? ⟨(ad205.add ((x12_1).toNat * 8)).block, (ad205.add ((x12_1).toNat * 8)).off + 6, none⟩ = some (.int .i64 ((rd_T48 l0_1 x12_1).f6)) ∧ w'.cell? ⟨(ad205.add ((x12_1).toNat * 8)).block, (ad205.add ((x12_1).toNat * 8)).off + 7, none⟩ = some (.bool ((rd_T48 l0_1 x12_1).f7)) ∧ w'.cell? (ad205.add ((x5_2).toNat * 8)) = some (.int .i64 ((rd_T48 l0_1 x5_2).f0)) ∧ w'.cell? ⟨(ad205.add ((x5_2).toNat * 8)).block, (ad205.add ((x5_2).toNat * 8)).off + 1, none⟩ = some (.int .i64 ((rd_T48 l0_1 x5_2).f1)) ∧ w'.cell? ⟨(ad205.add ((x5_2).toNat * 8)).block, (ad205.add ((x5_2).toNat * 8)).off + 2, none⟩ = some (.int .i64 ((rd_T48 l0_1 x5_2).f2)) ∧ w'.cell? ⟨(ad205.add ((x5_2).toNat * 8)).block, (ad205.add ((x5_2).toNat * 8)).off + 3, none⟩ = some (.slice A206_3 ((rd_T48 l0_1 x5_2).f3).length c206_3) ∧ w'.cell? ⟨(ad205.add ((x5_2).toNat * 8)).block, (ad205.add ((x5_2).toNat * 8)).off + 4, none⟩ = some (.int .i64 ((rd_T48 l0_1 x5_2).f4)) ∧ w'.cell? ⟨(ad205.add ((x5_2).toNat * 8)).block, (ad205.add ((x5_2).toNat * 8)).off + 5, none⟩ = some (.int .i64 ((rd_T48 l0_1 x5_2).f5)) ∧ w'.cell? ⟨(ad205.add ((x5_2).toNat * 8)).block, (ad205.add ((x5_2).toNat * 8)).off + 6, none⟩ = some (.int .i64 ((rd_T48 l0_1 x5_2).f6)) ∧ w'.cell? ⟨(ad205.add ((x5_2).toNat * 8)).block, (ad205.add ((x5_2).toNat * 8)).off + 7, none⟩ = some (.bool ((rd_T48 l0_1 x5_2).f7))) (ds := []) #[false, false, false, false, false, false, false, false, false, false, false] (by kernel_rfl) rfl rfl ⟨(blk_cell BK201.out 0).trans rfl, (blk_cell BK201.out 1).trans rfl, (blk_cell BK201.out 2).trans rfl, (blk_cell BK201.out 3).trans rfl, (blk_cell BK201.out 4).trans rfl, (blk_cell BK201.out 5).trans rfl, (blk_cell BK201.out 6).trans rfl, ((HB.out.cell (World.block_lt_of_cell? w _ hw205_0)).trans hw205_0), ((HB.out.cell (World.block_lt_of_cell? w _ hw205_1)).trans hw205_1), ((HB.out.cell (World.block_lt_of_cell? w _ hw205_2)).trans hw205_2), ((HB.out.cell (World.block_lt_of_cell? w _ hw205_3)).trans hw205_3), ((HB.out.cell (World.block_lt_of_cell? w _ hw205_4)).trans hw205_4), ((HB.out.cell (World.block_lt_of_cell? w _ hw205_5)).trans hw205_5), ((HB.out.cell (World.block_lt_of_cell? w _ hw205_6)).trans hw205_6), ((HB.out.cell (World.block_lt_of_cell? w _ hw205_7)).trans hw205_7), ((HB.out.cell (World.block_lt_of_cell? w _ hw206_0)).trans hw206_0), ((HB.out.cell (World.block_lt_of_cell? w _ hw206_1)).trans hw206_1), ((HB.out.cell (World.block_lt_of_cell? w _ hw206_2)).trans hw206_2), ((HB.out.cell (World.block_lt_of_cell? w _ hw206_3)).trans hw206_3), ((HB.out.cell (World.block_lt_of_cell? w _ hw206_4)).trans hw206_4), ((HB.out.cell (World.block_lt_of_cell? w _ hw206_5)).trans hw206_5), ((HB.out.cell (World.block_lt_of_cell? w _ hw206_6)).trans hw206_6), ((HB.out.cell (World.block_lt_of_cell? w _ hw206_7)).trans hw206_7)⟩ (fun hHeld => ?_); refine with_tabW burnishref52_Dependences.tab8 burnishref52_Dependences.bits8 (fun HT_ HW_ => ?_)
                generalize wr.drew = w20 at HO_3 BK201 HB HR205_3 HR206_3 hx205_0 hx205_1 hx205_2 hx205_3 hx205_4 hx205_5 hx205_6 hx205_7 hx206_0 hx206_1 hx206_2 hx206_3 hx206_4 hx206_5 hx206_6 hx206_7 hHeld ⊢
                refine pure_ (i := 0) (N := some 20) (v := ?_) (a' := ?_) #[true, false, false, false, false, false, false, false, false, false, false] rfl rfl (any_of HT_.out (by kernel_rfl)) (fun _ _ _ h => h) (Or.inl ⟨by rfl, ?_⟩) ?_ ?_
                rotate_left
                ·intro w'
                 go_simp
                 with_reducible rfl
                rotate_left
                ·simp only [Act.put, List.setIfInBounds_toArray, List.set_cons_zero, List.set_cons_succ, i64_w, i32_w]
                 rfl
                refine pure_ (i := 2) (N := some 22) (v := ?_) (a' := ?_) #[true, false, true, false, false, false, false, false, false, false, false] rfl rfl (any_of HT_.out (by kernel_rfl)) (fun _ _ _ h => h) (Or.inl ⟨by rfl, ?_⟩) ?_ ?_
                rotate_left
                ·intro w'
                 go_simp
                 with_reducible rfl
                rotate_left
                ·simp only [Act.put, List.setIfInBounds_toArray, List.set_cons_zero, List.set_cons_succ, i64_w, i32_w]
                 rfl
                refine pure_ (i := 5) (N := some 25) (v := ?_) (a' := ?_) #[true, false, true, false, false, true, false, false, false, false, false] rfl rfl (any_of HT_.out (by kernel_rfl)) (fun _ _ _ h => h) (Or.inl ⟨by rfl, ?_⟩) ?_ ?_
                rotate_left
                ·intro w'
                 go_simp
                 with_reducible rfl
                rotate_left
                ·simp only [Act.put, List.setIfInBounds_toArray, List.set_cons_zero, List.set_cons_succ, i64_w, i32_w]
                 rfl
                refine pure_ (i := 7) (N := some 27) (v := ?_) (a' := ?_) #[true, false, true, false, false, true, false, true, false, false, false] rfl rfl (any_of HT_.out (by kernel_rfl)) (fun _ _ _ h => h) (Or.inl ⟨by rfl, ?_⟩) ?_ ?_
                rotate_left
                ·intro w'
                 go_simp
                 with_reducible rfl
                rotate_left
                ·simp only [Act.put, List.setIfInBounds_toArray, List.set_cons_zero, List.set_cons_succ, i64_w, i32_w]
                 rfl
                refine take_ (i := 1) (N := some 21) (v := ?_) (a' := ?_) #[true, true, true, false, false, true, false, true, false, false, false] rfl rfl (take_ofW HT_.out HW_.out (by kernel_rfl)) (fun _ _ _ h => h) (Or.inl ⟨by rfl, ?_⟩) hHeld ?_ ?_
                rotate_left
                ·rintro w' ⟨s0, s1, s2, s3, s4, s5, s6, s7, s8, s9, s10, s11, s12, s13, s14, s15, s16, s17, s18, s19, s20, s21, s22⟩
                 go_simp
                 with_reducible rfl
                rotate_left
                ·simp only [Act.put, List.setIfInBounds_toArray, List.set_cons_zero, List.set_cons_succ, i64_w, i32_w]
                 rfl
                refine pure_ (i := 3) (N := some 23) (v := ?_) (a' := ?_) #[true, true, true, true, false, true, false, true, false, false, false] rfl rfl (any_of HT_.out (by kernel_rfl)) (fun _ _ _ h => h) (Or.inl ⟨by rfl, ?_⟩) ?_ ?_
                rotate_left
                ·intro w'
                 go_simp
                 with_reducible rfl
                rotate_left
                ·simp only [Act.put, List.setIfInBounds_toArray, List.set_cons_zero, List.set_cons_succ, i64_w, i32_w]
                 rfl
                refine take_ (i := 4) (N := some 24) (v := ?_) (a' := ?_) #[true, true, true, true, true, true, false, true, false, false, false] rfl rfl (take_ofW HT_.out HW_.out (by kernel_rfl)) (fun _ _ _ h => h) (Or.inl ⟨by rfl, ?_⟩) hHeld ?_ ?_
                rotate_left
                ·rintro w' ⟨s0, s1, s2, s3, s4, s5, s6, s7, s8, s9, s10, s11, s12, s13, s14, s15, s16, s17, s18, s19, s20, s21, s22⟩
                 go_simp
                 with_reducible rfl
                rotate_left
                ·simp only [Act.put, List.setIfInBounds_toArray, List.set_cons_zero, List.set_cons_succ, i64_w, i32_w]
                 rfl
                refine take_ (i := 6) (N := some 26) (v := ?_) (a' := ?_) #[true, true, true, true, true, true, true, true, false, false, false] rfl rfl (take_ofW HT_.out HW_.out (by kernel_rfl)) (fun _ _ _ h => h) (Or.inl ⟨by rfl, ?_⟩) hHeld ?_ ?_
                rotate_left
                ·rintro w' ⟨s0, s1, s2, s3, s4, s5, s6, s7, s8, s9, s10, s11, s12, s13, s14, s15, s16, s17, s18, s19, s20, s21, s22⟩
                 go_simp
                 with_reducible rfl
                rotate_left
                ·simp only [Act.put, List.setIfInBounds_toArray, List.set_cons_zero, List.set_cons_succ, i64_w, i32_w]
                 rfl
                refine pure_ (i := 8) (N := some 28) (v := ?_) (a' := ?_) #[true, true, true, true, true, true, true, true, true, false, false] rfl rfl (any_of HT_.out (by kernel_rfl)) (fun _ _ _ h => h) (Or.inl ⟨by rfl, ?_⟩) ?_ ?_
                rotate_left
                ·intro w'
                 go_simp
                 with_reducible rfl
                rotate_left
                ·simp only [Act.put, List.setIfInBounds_toArray, List.set_cons_zero, List.set_cons_succ, i64_w, i32_w]
                 rfl
                refine take_ (i := 9) (N := some 29) (v := ?_) (a' := ?_) #[true, true, true, true, true, true, true, true, true, true, false] rfl rfl (take_ofW HT_.out HW_.out (by kernel_rfl)) (fun _ _ _ h => h) (Or.inl ⟨by rfl, ?_⟩) hHeld ?_ ?_
                rotate_left
                ·rintro w' ⟨s0, s1, s2, s3, s4, s5, s6, s7, s8, s9, s10, s11, s12, s13, s14, s15, s16, s17, s18, s19, s20, s21, s22⟩
                 go_simp
                 with_reducible rfl
                rotate_left
                ·simp only [Act.put, List.setIfInBounds_toArray, List.set_cons_zero, List.set_cons_succ, i64_w, i32_w]
                 rfl
                refine one_ (i := 10) (N := some 30) #[true, true, true, true, true, true, true, true, true, true, true] rfl rfl (one_of HT_.out (by kernel_rfl)) (by decide) (fun K hK => ?_)
                refine goes_ Tryd.func36 (by kernel_rfl) rfl #[.agg #[.int .i64 ((rd_T48 l0_1 x12_1).f0), .int .i64 ((rd_T48 l0_1 x12_1).f1), .int .i64 ((rd_T48 l0_1 x12_1).f2), .slice A205_3 ((rd_T48 l0_1 x12_1).f3).length c205_3, .int .i64 ((rd_T48 l0_1 x12_1).f4), .int .i64 ((rd_T48 l0_1 x12_1).f5), .int .i64 ((rd_T48 l0_1 x12_1).f6), .bool ((rd_T48 l0_1 x12_1).f7)], .agg #[.int .i64 ((rd_T48 l0_1 x5_2).f0), .int .i64 ((rd_T48 l0_1 x5_2).f1), .int .i64 ((rd_T48 l0_1 x5_2).f2), .slice A206_3 ((rd_T48 l0_1 x5_2).f3).length c206_3, .int .i64 ((rd_T48 l0_1 x5_2).f4), .int .i64 ((rd_T48 l0_1 x5_2).f5), .int .i64 ((rd_T48 l0_1 x5_2).f6), .bool ((rd_T48 l0_1 x5_2).f7)]] (by rfl) rfl rfl (by (try simp only [List.map_toArray, List.map_cons, List.map_nil]); first | done | rfl | (simp only [List.length_drop, List.length_take]; rfl)) ?_
                with_reducible refine (burnishref52_depends.calls k2 ((rd_T48 l0_1 x12_1).f0) ((rd_T48 l0_1 x12_1).f1) ((rd_T48 l0_1 x12_1).f2) _ _ ((rd_T48 l0_1 x12_1).f3) ((rd_T48 l0_1 x12_1).f4) ((rd_T48 l0_1 x12_1).f5) ((rd_T48 l0_1 x12_1).f6) ((rd_T48 l0_1 x12_1).f7) ((rd_T48 l0_1 x5_2).f0) ((rd_T48 l0_1 x5_2).f1) ((rd_T48 l0_1 x5_2).f2) _ _ ((rd_T48 l0_1 x5_2).f3) ((rd_T48 l0_1 x5_2).f4) ((rd_T48 l0_1 x5_2).f5) ((rd_T48 l0_1 x5_2).f6) ((rd_T48 l0_1 x5_2).f7) true _ ?side1 ?side2 ?side3 ?side4 A15.out).mono ?_
                (case side1 => repeat (first | exact (Kd.C_below HR205_3.out HB.out) | (with_reducible refine Kd.C_alloc ?_ _) | (with_reducible refine Kd.C_drewN ?_ _) | (with_reducible refine Kd.C_drew ?_)))
                (case side2 => exact HC205_3.out)
                (case side3 => repeat (first | exact (Kd.C_below HR206_3.out HB.out) | (with_reducible refine Kd.C_alloc ?_ _) | (with_reducible refine Kd.C_drewN ?_ _) | (with_reducible refine Kd.C_drew ?_)))
                (case side4 => exact HC206_3.out)
                rintro e w21 ⟨rfl, hb⟩
                refine ⟨_, rfl, ?_⟩
                have n0_ := Aside0.mk (Kd.S_below (by (with_reducible repeat (first | apply Kd.S_alloc | apply Kd.S_drewN | apply Kd.S_drew)); exact HO_3.out) hb)
                have n1_ := Aside0.mk (blk_below (g := gb201) (by (with_reducible repeat (first | refine blk_drewN ?_ _ | refine blk_drew ?_ | refine blk_alloc ?_ _)); exact BK201.out) hb)
                have n2_ := Aside0.mk (below_step (by repeat (first | (with_reducible first | exact HB.out | apply below_alloc | apply pw_below_drewN | apply below_drew1 | refine below_set ?_ GE201.out) | exact HB.out)) hb)
                clear HO_3
                clear BK201
                clear HB
                have HO_3 := n0_
                have BK201 := n1_
                have HB := n2_
                clear n0_ n1_ n2_
                (try clear hb)
                (try clear hb2)
                (try clear hk)
                (try clear hi)
                refine hK.out _ _ ⟨(blk_cell BK201.out 0).trans rfl, (blk_cell BK201.out 1).trans rfl, (blk_cell BK201.out 2).trans rfl, (blk_cell BK201.out 3).trans rfl, (blk_cell BK201.out 4).trans rfl, (blk_cell BK201.out 5).trans rfl, (blk_cell BK201.out 6).trans rfl, ((HB.out.cell (World.block_lt_of_cell? w _ hw205_0)).trans hw205_0), ((HB.out.cell (World.block_lt_of_cell? w _ hw205_1)).trans hw205_1), ((HB.out.cell (World.block_lt_of_cell? w _ hw205_2)).trans hw205_2), ((HB.out.cell (World.block_lt_of_cell? w _ hw205_3)).trans hw205_3), ((HB.out.cell (World.block_lt_of_cell? w _ hw205_4)).trans hw205_4), ((HB.out.cell (World.block_lt_of_cell? w _ hw205_5)).trans hw205_5), ((HB.out.cell (World.block_lt_of_cell? w _ hw205_6)).trans hw205_6), ((HB.out.cell (World.block_lt_of_cell? w _ hw205_7)).trans hw205_7), ((HB.out.cell (World.block_lt_of_cell? w _ hw206_0)).trans hw206_0), ((HB.out.cell (World.block_lt_of_cell? w _ hw206_1)).trans hw206_1), ((HB.out.cell (World.block_lt_of_cell? w _ hw206_2)).trans hw206_2), ((HB.out.cell (World.block_lt_of_cell? w _ hw206_3)).trans hw206_3), ((HB.out.cell (World.block_lt_of_cell? w _ hw206_4)).trans hw206_4), ((HB.out.cell (World.block_lt_of_cell? w _ hw206_5)).trans hw206_5), ((HB.out.cell (World.block_lt_of_cell? w _ hw206_6)).trans hw206_6), ((HB.out.cell (World.block_lt_of_cell? w _ hw206_7)).trans hw206_7)⟩ (fun hHeld => ?_)
                clear hK K
                refine norm_ (a' := ?_) ?_ ?_
                rotate_left
                ·show Act.put _ (some 30) _ = _
                 simp only [Act.put, List.setIfInBounds_toArray, List.set_cons_zero, List.set_cons_succ, i64_w, i32_w]
                 rfl
                refine done_ (done_of HT_.out (by kernel_rfl)) ?_
                have p208 : 0 ≤ (x12_1 : Int) := of_decide_eq_true (by first | (with_reducible assumption) | assumption)
                have q208 : x12_1 < (x3_2.length : Int) := of_decide_eq_true (by first | (with_reducible assumption) | assumption)
                obtain ⟨ad208, A208_0, c208_0, e208, hx208_0, hl208_0, hi208_0⟩ := at_L1 (Kd.S_reads' HO_3.out).2.2 x12_1 p208 q208
                cases e208
                obtain ⟨ce208, hce208, hMe208, hcc208⟩ := Kd.S_get HO_3.out [] x12_1 p208 (by first | exact q208 | exact of_decide_eq_true (by first | (with_reducible assumption) | assumption) | (have e_ := (Kd.S_reads' HO_3.out).1; omega))
                obtain ⟨ve208_0, rfl, ge208_0⟩ := hMe208
                have hv208_0 := hcc208 0 _ rfl
                rw [Nat.add_zero, show ((Kd.slice 3 (Kd.int .i64))).sz = 1 from rfl, Nat.mul_one] at hv208_0
                replace hv208_0 := Option.some.inj (hv208_0.symm.trans hx208_0)
                rw [hv208_0] at ge208_0
                have HL208_0 := Aside0.mk (show Kd.R (Kd.int .i64) 3 _ _ _ _ (rd_L1 x3_2 x12_1) from ge208_0)
                clear hv208_0 ge208_0
                have HX208_0 := Aside0.mk hx208_0
                clear hcc208 hce208
                have HR208_0 := Aside0.mk hi208_0
                have HC208_0 := Aside0.mk hl208_0
                clear hi208_0 hl208_0
                replace p208 := eq_true p208
                replace q208 := eq_true q208
                obtain ⟨go22, co22, eo22, gb22, gl22, cl22, HG22⟩ := Kd.S_form HO_3.out (by have h_ : (x12_1 : Int) < ((x3_2.length : Int) : Int) := of_decide_eq_true (by first | (with_reducible assumption) | assumption); have h2_ : 0 ≤ (x12_1 : Int) := (of_decide_eq_true (by first | (with_reducible assumption) | assumption)); omega)
                (first | cases eo22 | (injection eo22 with ea_ en_ ec_; (first | subst ea_ | (injection ea_ with ea_; subst ea_)); subst ec_; clear en_))
                have GB22 := Aside0.mk gb22
                have GG22 := Aside0.mk HG22
                clear gb22 gl22 HG22
                (first | simp only [add_plain] at hx208_0 | skip)
                obtain ⟨oki22, ce22, hcl22, hM22, hcc22, _, _, hH22⟩ := Kd.S_elem HO_3.out [] (x12_1 : Int) (of_decide_eq_true (by first | (with_reducible assumption) | assumption)) (by have h_ : (x12_1 : Int) < ((x3_2.length : Int) : Int) := of_decide_eq_true (by first | (with_reducible assumption) | assumption); first | exact h_ | (have e_ := (Kd.S_reads' HO_3.out).1; omega) | simpa using h_)
                obtain ⟨ve22_0, rfl, ge22_0⟩ := hM22
                have hv22 := hcc22 0 _ rfl
                have hX22 := HX208_0.out
                (try simp only [add_plain] at hX22)
                (try simp only [Nat.add_zero] at hv22)
                (try rw [show ((Kd.slice 3 (Kd.int .i64))).sz = 1 from rfl, Nat.mul_one] at hv22)
                replace hv22 := Option.some.inj (hv22.symm.trans hX22)
                subst hv22
                clear hX22 hcc22 hcl22
                have UU22 := Aside0.mk (show Kd.R (Kd.int .i64) 3 _ w.heap.size oki22 (.slice A208_0 (rd_L1 x3_2 x12_1).length c208_0) (rd_L1 x3_2 x12_1) from ge22_0)
                have HH22 := Aside0.mk hH22
                have HN22 := Aside0.mk (Kd.S_reads' HO_3.out).1
                clear hH22 ge22_0
                try go_wp2_with (first | ((with_reducible refine gate_builtin (b := .append) (xs := #[.tmp 36, .tmp 38]) rfl ?_); at_builtin; refine Kd.R_append (Kd.int .i64) (w0 := w) w.heap.size rfl (.tmp 36) (.tmp 38) 22 3 (.int .i64 0) 8 rfl Tryd.underlying22 info3 rfl (by decide) (by omega) (.slice A208_0 (rd_L1 x3_2 x12_1).length c208_0) (rd_L1 x3_2 x12_1) x5_2 [.int .i64 x5_2] (fun k_ => oki22 k_ ∨ ((fun _ => True)) k_ ∧ w21.heap.size ≤ k_) (fun _ => False) rfl rfl ?aP (fun _ hk => hk.elim) ?aF ?aO ?aB ?aS ?aL ?_; (case aP => exact rfl); (case aB => exact (by repeat (first | (with_reducible first | exact HB.out | apply below_alloc | apply pw_below_drewN | apply below_drew1 | refine below_set ?_ GE201.out) | exact HB.out))); (case aF => exact (fun k_ hk => .inr ⟨trivial, hk⟩)); (case aO => exact (by (with_reducible repeat (first | apply Kd.R_alloc | apply Kd.R_drewN | apply Kd.R_drew)); exact Kd.R_mono UU22.out (fun _ hk => .inl hk))); (case aS => exact (below_size (by repeat (first | (with_reducible first | exact HB.out | apply below_alloc | apply pw_below_drewN | apply below_drew1 | refine below_set ?_ GE201.out) | exact HB.out)))); (case aL => have := LMc18.out; omega); intro v210 w23 ho hb hg hat; rw [← Ny209.out] at ho; have n0_ := Aside0.mk (blk_grown (g := gb201) (o := .cells #[.slice A0_0 l0_0.length c0_0, .slice (some ad205) l0_1.length c0_1, .int .i64 a0_2, .slice A0_3 l0_3.length c0_3, .slice A0_4 l0_4.length c0_4, .slice A0_5 l0_5.length c0_5, .int .i64 a0_6] 31 (0, 0)) (by (with_reducible repeat (first | refine blk_drewN ?_ _ | refine blk_drew ?_ | refine blk_alloc ?_ _)); exact BK201.out) hg (Kd.R_ne HL208_0.out BK201.out (by decide))); have n1_ := Aside0.mk (hb); have n2_ := Aside0.mk (Kd.H_grown (Kd.H_widen (by repeat (first | exact HH22.out | refine Kd.H_alloc ?_ _ | refine Kd.H_drewN ?_ _ | refine Kd.H_drew ?_))) hg (fun k_ e_ => .inl (UU22.out.1 k_ e_))); have n3_ := Aside0.mk (ho); clear BK201; clear HB; clear HH22; clear HO_3; clear UU22; clear HL208_0; have BK201 := n0_; have HB := n1_; have HH22 := n2_; have HO211 := n3_; clear n0_ n1_ n2_ n3_; clear ho hb hg hat; have p19 : 0 ≤ (x12_1 : Int) := of_decide_eq_true (by first | (with_reducible assumption) | assumption); have q19 : (x12_1 : Int) < ((x3_2.length : Int) : Int) := of_decide_eq_true (by first | (with_reducible assumption) | assumption); replace p19 := eq_true p19; replace q19 := eq_true q19; obtain ⟨Ao26, co26, eo26⟩ := Kd.R_slice HO211.out; subst eo26; obtain ⟨_, _, hraw24, _, _, hcc24, _⟩ := Kd.H_raw HH22.out (of_decide_eq_true (by first | (with_reducible assumption) | assumption)) (by have h_ : (x12_1 : Int) < ((x3_2.length : Int) : Int) := of_decide_eq_true (by first | (with_reducible assumption) | assumption); first | exact h_ | (have e_ := (HN22.out); omega) | simpa using h_); obtain ⟨_, hfr24⟩ := Kd.H_at HH22.out (of_decide_eq_true (by first | (with_reducible assumption) | assumption)) (by have h_ : (x12_1 : Int) < ((x3_2.length : Int) : Int) := of_decide_eq_true (by first | (with_reducible assumption) | assumption); first | exact h_ | (have e_ := (HN22.out); omega) | simpa using h_); have hx24_0 := hcc24 0 _ rfl; have hf24_0 := hfr24 0; (try simp only [Nat.add_zero] at hx24_0 hf24_0); (try rw [show ((Kd.slice 3 (Kd.int .i64))).sz = 1 from rfl, Nat.mul_one] at hx24_0); (try rw [show ((Kd.slice 3 (Kd.int .i64))).sz = 1 from rfl, Nat.mul_one] at hf24_0); have HP24 := Kd.S_seg0 HH22.out (of_decide_eq_true (by first | (with_reducible assumption) | assumption)) (by have h_ : (x12_1 : Int) < ((x3_2.length : Int) : Int) := of_decide_eq_true (by first | (with_reducible assumption) | assumption); first | exact h_ | (have e_ := (HN22.out); omega) | simpa using h_) (seg := [.slice Ao26 y209.length co26]) (j := 0) (show 1 ≤ 1 from by decide) (x' := y209) (Kd.M_row HO211.out) (fun _ hk => hk); (try simp only [show ((Kd.slice 3 (Kd.int .i64))).sz = 1 from rfl, Nat.mul_one, Nat.add_zero] at HP24); clear hcc24 hfr24) | ((with_reducible refine gate_store (t := 22) (p := 40) rfl ?_); refine store_event (t := 22) (p := 40) (v := ?vo_w25) (w1 := (w23.setCell ⟨go22, (x12_1 : Int).toNat, none⟩ (.slice Ao26 y209.length co26))) ?hg ?ho ?hn ?hr ?_; (case ho => rfl); (case hg => rfl); (case hn => rfl); (case hr => first | (go_simp; done) | (go_simp; rfl)); intro w25 hw; have hg : w23.grownBy w25 (some go22) := (by rw [hw]; exact HP24.2); have hp_ : Kd.S (Kd.slice 3 (Kd.int .i64)) 22 w25 w.heap.size (fun _ => True) (.slice (some ⟨go22, 0, none⟩) x3_2.length co8) y212 := (by rw [hw, Ny212.out]; exact HP24.1); clear HP24; have n0_ := Aside0.mk (blk_grown (g := gb201) (o := .cells #[.slice A0_0 l0_0.length c0_0, .slice (some ad205) l0_1.length c0_1, .int .i64 a0_2, .slice A0_3 l0_3.length c0_3, .slice A0_4 l0_4.length c0_4, .slice A0_5 l0_5.length c0_5, .int .i64 a0_6] 31 (0, 0)) (by (with_reducible repeat (first | refine blk_drewN ?_ _ | refine blk_drew ?_ | refine blk_alloc ?_ _)); exact BK201.out) hg (Kd.R_ne hraw24 BK201.out (by decide))); have n1_ := Aside0.mk ((by rw [hw]; exact below_set HB.out GB22.out : Below w.heap.size w w25)); have n2_ := Aside0.mk (hp_); clear BK201; clear HB; clear HO211; clear HH22; have BK201 := n0_; have HB := n1_; have HO_3 := n2_; clear n0_ n1_ n2_; clear hg hw hp_ hraw24))
                (try simp only [← hl3_2])
                go_roundg k2
                case measure => have := HK1.out; have := HK2.out; omega
                case rel => exact ⟨(y212), (wrap64 (x5_2 + 1)), (by first | rfl | (simp; done) | (simp [*]; done)), H', ⟨by have := HK1.out; have := HK2.out; omega⟩, ⟨by (try simp only [hl3_1]); (try simp only [hl3_2]); (with_reducible repeat (first | apply Kd.S_alloc | apply Kd.S_drewN | apply Kd.S_drew)); exact HO_3.out⟩, ⟨by (try simp only [hl3_1]); (try simp only [hl3_2]); (with_reducible repeat (first | refine blk_drewN ?_ _ | refine blk_drew ?_ | refine blk_alloc ?_ _)); exact BK201.out⟩, ⟨by repeat (first | (with_reducible first | exact HB.out | apply below_alloc | apply pw_below_drewN | apply below_drew1 | refine below_set ?_ GE201.out) | exact HB.out)⟩⟩
               ·rw [if_neg c18] at H
                exact absurd H (by simp)
              ·rw [if_neg c17] at H
               exact absurd H (by simp)
             ·replace c16 := Bool.eq_false_iff.mpr c16
              subst c16
              have H1 : (burnishref52_Dependences.l1 k2 x3_2 x12_1 (wrap64 (x5_2 + 1)) (y202.length : Int) x12_1 l0_0 l0_1 a0_2 l0_3 l0_4 l0_5 a0_6) = some r := by rw [if_neg (show ¬ (false = true) by decide)] at H; exact H
              clear H
              have H := H1
              clear H1
              have H' := Aside0.mk H
              clear H
              try go_wp2
              have n0_ := Aside0.mk (Kd.S_drew HO_3.out)
              have n1_ := Aside0.mk (blk_drew BK201.out)
              have n2_ := Aside0.mk (below_drew1 HB.out)
              clear HO_3
              clear BK201
              clear HB
              have HO_3 := n0_
              have BK201 := n1_
              have HB := n2_
              clear n0_ n1_ n2_
              have p205 : 0 ≤ (x12_1 : Int) := of_decide_eq_true (by first | (with_reducible assumption) | assumption)
              have q205 : x12_1 < (l0_1.length : Int) := of_decide_eq_true (by first | (with_reducible assumption) | assumption)
              obtain ⟨ad205, A205_3, c205_3, e205, hx205_0, hx205_1, hx205_2, hx205_3, hx205_4, hx205_5, hx205_6, hx205_7, hl205_3, hi205_3⟩ := at_T48 HR0_1.out x12_1 p205 q205
              have hw205_7 := hx205_7
              have hw205_6 := hx205_6
              have hw205_5 := hx205_5
              have hw205_4 := hx205_4
              have hw205_3 := hx205_3
              have hw205_2 := hx205_2
              have hw205_1 := hx205_1
              have hw205_0 := hx205_0
              cases e205
              replace hx205_0 := (HB.out.cell (World.block_lt_of_cell? w _ hx205_0)).trans hx205_0
              replace hx205_1 := (HB.out.cell (World.block_lt_of_cell? w _ hx205_1)).trans hx205_1
              replace hx205_2 := (HB.out.cell (World.block_lt_of_cell? w _ hx205_2)).trans hx205_2
              replace hx205_3 := (HB.out.cell (World.block_lt_of_cell? w _ hx205_3)).trans hx205_3
              replace hx205_4 := (HB.out.cell (World.block_lt_of_cell? w _ hx205_4)).trans hx205_4
              replace hx205_5 := (HB.out.cell (World.block_lt_of_cell? w _ hx205_5)).trans hx205_5
              replace hx205_6 := (HB.out.cell (World.block_lt_of_cell? w _ hx205_6)).trans hx205_6
              replace hx205_7 := (HB.out.cell (World.block_lt_of_cell? w _ hx205_7)).trans hx205_7
              have HR205_3 := Aside0.mk hi205_3
              have HC205_3 := Aside0.mk hl205_3
              clear hi205_3 hl205_3
              replace p205 := eq_true p205
              replace q205 := eq_true q205
              have p206 : 0 ≤ (x5_2 : Int) := of_decide_eq_true (by first | (with_reducible assumption) | assumption)
              have q206 : x5_2 < (l0_1.length : Int) := of_decide_eq_true (by first | (with_reducible assumption) | assumption)
              obtain ⟨ad206, A206_3, c206_3, e206, hx206_0, hx206_1, hx206_2, hx206_3, hx206_4, hx206_5, hx206_6, hx206_7, hl206_3, hi206_3⟩ := at_T48 HR0_1.out x5_2 p206 q206
              have hw206_7 := hx206_7
              have hw206_6 := hx206_6
              have hw206_5 := hx206_5
              have hw206_4 := hx206_4
              have hw206_3 := hx206_3
              have hw206_2 := hx206_2
              have hw206_1 := hx206_1
              have hw206_0 := hx206_0
              obtain rfl : ad205 = ad206 := (by injection e206)
              replace hx206_0 := (HB.out.cell (World.block_lt_of_cell? w _ hx206_0)).trans hx206_0
              replace hx206_1 := (HB.out.cell (World.block_lt_of_cell? w _ hx206_1)).trans hx206_1
              replace hx206_2 := (HB.out.cell (World.block_lt_of_cell? w _ hx206_2)).trans hx206_2
              replace hx206_3 := (HB.out.cell (World.block_lt_of_cell? w _ hx206_3)).trans hx206_3
              replace hx206_4 := (HB.out.cell (World.block_lt_of_cell? w _ hx206_4)).trans hx206_4
              replace hx206_5 := (HB.out.cell (World.block_lt_of_cell? w _ hx206_5)).trans hx206_5
              replace hx206_6 := (HB.out.cell (World.block_lt_of_cell? w _ hx206_6)).trans hx206_6
              replace hx206_7 := (HB.out.cell (World.block_lt_of_cell? w _ hx206_7)).trans hx206_7
              have HR206_3 := Aside0.mk hi206_3
              have HC206_3 := Aside0.mk hl206_3
              clear hi206_3 hl206_3
              replace p206 := eq_true p206
              replace q206 := eq_true q206
              refine start_ (n := 11) (S := fun w' => w'.cell? ⟨gb201, 0, none⟩ = some (.slice A0_0 l0_0.length c0_0) ∧ w'.cell? ⟨gb201, 1, none⟩ = some (.slice (some ad205) l0_1.length c0_1) ∧ w'.cell? ⟨gb201, 2, none⟩ = some (.int .i64 a0_2) ∧ w'.cell? ⟨gb201, 3, none⟩ = some (.slice A0_3 l0_3.length c0_3) ∧ w'.cell? ⟨gb201, 4, none⟩ = some (.slice A0_4 l0_4.length c0_4) ∧ w'.cell? ⟨gb201, 5, none⟩ = some (.slice A0_5 l0_5.length c0_5) ∧ w'.cell? ⟨gb201, 6, none⟩ = some (.int .i64 a0_6) ∧ w'.cell? (ad205.add ((x12_1).toNat * 8)) = some (.int .i64 ((rd_T48 l0_1 x12_1).f0)) ∧ w'.cell? ⟨(ad205.add ((x12_1).toNat * 8)).block, (ad205.add ((x12_1).toNat * 8)).off + 1, none⟩ = some (.int .i64 ((rd_T48 l0_1 x12_1).f1)) ∧ w'.cell? ⟨(ad205.add ((x12_1).toNat * 8)).block, (ad205.add ((x12_1).toNat * 8)).off + 2, none⟩ = some (.int .i64 ((rd_T48 l0_1 x12_1).f2)) ∧ w'.cell? ⟨(ad205.add ((x12_1).toNat * 8)).block, (ad205.add ((x12_1).toNat * 8)).off + 3, none⟩ = some (.slice A205_3 ((rd_T48 l0_1 x12_1).f3).length c205_3) ∧ w'.cell? ⟨(ad205.add ((x12_1).toNat * 8)).block, (ad205.add ((x12_1).toNat * 8)).off + 4, none⟩ = some (.int .i64 ((rd_T48 l0_1 x12_1).f4)) ∧ w'.cell? ⟨(ad205.add ((x12_1).toNat * 8)).block, (ad205.add ((x12_1).toNat * 8)).off + 5, none⟩ = some (.int .i64 ((rd_T48 l0_1 x12_1).f5)) ∧ w'.cell? ⟨(ad205.add ((x12_1).toNat * 8)).block, (ad205.add ((x12_1).toNat * 8)).off + 6, none⟩ = some (.int .i64 ((rd_T48 l0_1 x12_1).f6)) ∧ w'.cell? ⟨(ad205.add ((x12_1).toNat * 8)).block, (ad205.add ((x12_1).toNat * 8)).off + 7, none⟩ = some (.bool ((rd_T48 l0_1 x12_1).f7)) ∧ w'.cell? (ad205.add ((x5_2).toNat * 8)) = some (.int .i64 ((rd_T48 l0_1 x5_2).f0)) ∧ w'.cell? ⟨(ad205.add ((x5_2).toNat * 8)).block, (ad205.add ((x5_2).toNat * 8)).off + 1, none⟩ = some (.int .i64 ((rd_T48 l0_1 x5_2).f1)) ∧ w'.cell? ⟨(ad205.add ((x5_2).toNat * 8)).block, (ad205.add ((x5_2).toNat * 8)).off + 2, none⟩ = some (.int .i64 ((rd_T48 l0_1 x5_2).f2)) ∧ w'.cell? ⟨(ad205.add ((x5_2).toNat * 8)).block, (ad205.add ((x5_2).toNat * 8)).off + 3, none⟩ = some (.slice A206_3 ((rd_T48 l0_1 x5_2).f3).length c206_3) ∧ w'.cell? ⟨(ad205.add ((x5_2).toNat * 8)).block, (ad205.add ((x5_2).toNat * 8)).off + 4, none⟩ = some (.int .i64 ((rd_T48 l0_1 x5_2).f4)) ∧ w'.cell? ⟨(ad205.add ((x5_2).toNat * 8)).block, (ad205.add ((x5_2).toNat * 8)).off + 5, none⟩ = some (.int .i64 ((rd_T48 l0_1 x5_2).f5)) ∧ w'.cell? ⟨(ad205.add ((x5_2).toNat * 8)).block, (ad205.add ((x5_2).toNat * 8)).off + 6, none⟩ = some (.int .i64 ((rd_T48 l0_1 x5_2).f6)) ∧ w'.cell? ⟨(ad205.add ((x5_2).toNat * 8)).block, (ad205.add ((x5_2).toNat * 8)).off + 7, none⟩ = some (.bool ((rd_T48 l0_1 x5_2).f7))) (ds := []) #[false, false, false, false, false, false, false, false, false, false, false] (by kernel_rfl) rfl rfl ⟨(blk_cell BK201.out 0).trans rfl, (blk_cell BK201.out 1).trans rfl, (blk_cell BK201.out 2).trans rfl, (blk_cell BK201.out 3).trans rfl, (blk_cell BK201.out 4).trans rfl, (blk_cell BK201.out 5).trans rfl, (blk_cell BK201.out 6).trans rfl, ((HB.out.cell (World.block_lt_of_cell? w _ hw205_0)).trans hw205_0), ((HB.out.cell (World.block_lt_of_cell? w _ hw205_1)).trans hw205_1), ((HB.out.cell (World.block_lt_of_cell? w _ hw205_2)).trans hw205_2), ((HB.out.cell (World.block_lt_of_cell? w _ hw205_3)).trans hw205_3), ((HB.out.cell (World.block_lt_of_cell? w _ hw205_4)).trans hw205_4), ((HB.out.cell (World.block_lt_of_cell? w _ hw205_5)).trans hw205_5), ((HB.out.cell (World.block_lt_of_cell? w _ hw205_6)).trans hw205_6), ((HB.out.cell (World.block_lt_of_cell? w _ hw205_7)).trans hw205_7), ((HB.out.cell (World.block_lt_of_cell? w _ hw206_0)).trans hw206_0), ((HB.out.cell (World.block_lt_of_cell? w _ hw206_1)).trans hw206_1), ((HB.out.cell (World.block_lt_of_cell? w _ hw206_2)).trans hw206_2), ((HB.out.cell (World.block_lt_of_cell? w _ hw206_3)).trans hw206_3), ((HB.out.cell (World.block_lt_of_cell? w _ hw206_4)).trans hw206_4), ((HB.out.cell (World.block_lt_of_cell? w _ hw206_5)).trans hw206_5), ((HB.out.cell (World.block_lt_of_cell? w _ hw206_6)).trans hw206_6), ((HB.out.cell (World.block_lt_of_cell? w _ hw206_7)).trans hw206_7)⟩ (fun hHeld => ?_); refine with_tabW burnishref52_Dependences.tab8 burnishref52_Dependences.bits8 (fun HT_ HW_ => ?_)
              generalize wr.drew = w27 at HO_3 BK201 HB HR205_3 HR206_3 hx205_0 hx205_1 hx205_2 hx205_3 hx205_4 hx205_5 hx205_6 hx205_7 hx206_0 hx206_1 hx206_2 hx206_3 hx206_4 hx206_5 hx206_6 hx206_7 hHeld ⊢
              refine pure_ (i := 0) (N := some 20) (v := ?_) (a' := ?_) #[true, false, false, false, false, false, false, false, false, false, false] rfl rfl (any_of HT_.out (by kernel_rfl)) (fun _ _ _ h => h) (Or.inl ⟨by rfl, ?_⟩) ?_ ?_
              rotate_left
              ·intro w'
               go_simp
               with_reducible rfl
              rotate_left
              ·simp only [Act.put, List.setIfInBounds_toArray, List.set_cons_zero, List.set_cons_succ, i64_w, i32_w]
               rfl
              refine pure_ (i := 2) (N := some 22) (v := ?_) (a' := ?_) #[true, false, true, false, false, false, false, false, false, false, false] rfl rfl (any_of HT_.out (by kernel_rfl)) (fun _ _ _ h => h) (Or.inl ⟨by rfl, ?_⟩) ?_ ?_
              rotate_left
              ·intro w'
               go_simp
               with_reducible rfl
              rotate_left
              ·simp only [Act.put, List.setIfInBounds_toArray, List.set_cons_zero, List.set_cons_succ, i64_w, i32_w]
               rfl
              refine pure_ (i := 5) (N := some 25) (v := ?_) (a' := ?_) #[true, false, true, false, false, true, false, false, false, false, false] rfl rfl (any_of HT_.out (by kernel_rfl)) (fun _ _ _ h => h) (Or.inl ⟨by rfl, ?_⟩) ?_ ?_
              rotate_left
              ·intro w'
               go_simp
               with_reducible rfl
              rotate_left
              ·simp only [Act.put, List.setIfInBounds_toArray, List.set_cons_zero, List.set_cons_succ, i64_w, i32_w]
               rfl
              refine pure_ (i := 7) (N := some 27) (v := ?_) (a' := ?_) #[true, false, true, false, false, true, false, true, false, false, false] rfl rfl (any_of HT_.out (by kernel_rfl)) (fun _ _ _ h => h) (Or.inl ⟨by rfl, ?_⟩) ?_ ?_
              rotate_left
              ·intro w'
               go_simp
               with_reducible rfl
              rotate_left
              ·simp only [Act.put, List.setIfInBounds_toArray, List.set_cons_zero, List.set_cons_succ, i64_w, i32_w]
               rfl
              refine take_ (i := 1) (N := some 21) (v := ?_) (a' := ?_) #[true, true, true, false, false, true, false, true, false, false, false] rfl rfl (take_ofW HT_.out HW_.out (by kernel_rfl)) (fun _ _ _ h => h) (Or.inl ⟨by rfl, ?_⟩) hHeld ?_ ?_
              rotate_left
              ·rintro w' ⟨s0, s1, s2, s3, s4, s5, s6, s7, s8, s9, s10, s11, s12, s13, s14, s15, s16, s17, s18, s19, s20, s21, s22⟩
               go_simp
               with_reducible rfl
              rotate_left
              ·simp only [Act.put, List.setIfInBounds_toArray, List.set_cons_zero, List.set_cons_succ, i64_w, i32_w]
               rfl
              refine pure_ (i := 3) (N := some 23) (v := ?_) (a' := ?_) #[true, true, true, true, false, true, false, true, false, false, false] rfl rfl (any_of HT_.out (by kernel_rfl)) (fun _ _ _ h => h) (Or.inl ⟨by rfl, ?_⟩) ?_ ?_
              rotate_left
              ·intro w'
               go_simp
               with_reducible rfl
              rotate_left
              ·simp only [Act.put, List.setIfInBounds_toArray, List.set_cons_zero, List.set_cons_succ, i64_w, i32_w]
               rfl
              refine take_ (i := 4) (N := some 24) (v := ?_) (a' := ?_) #[true, true, true, true, true, true, false, true, false, false, false] rfl rfl (take_ofW HT_.out HW_.out (by kernel_rfl)) (fun _ _ _ h => h) (Or.inl ⟨by rfl, ?_⟩) hHeld ?_ ?_
              rotate_left
              ·rintro w' ⟨s0, s1, s2, s3, s4, s5, s6, s7, s8, s9, s10, s11, s12, s13, s14, s15, s16, s17, s18, s19, s20, s21, s22⟩
               go_simp
               with_reducible rfl
              rotate_left
              ·simp only [Act.put, List.setIfInBounds_toArray, List.set_cons_zero, List.set_cons_succ, i64_w, i32_w]
               rfl
              refine take_ (i := 6) (N := some 26) (v := ?_) (a' := ?_) #[true, true, true, true, true, true, true, true, false, false, false] rfl rfl (take_ofW HT_.out HW_.out (by kernel_rfl)) (fun _ _ _ h => h) (Or.inl ⟨by rfl, ?_⟩) hHeld ?_ ?_
              rotate_left
              ·rintro w' ⟨s0, s1, s2, s3, s4, s5, s6, s7, s8, s9, s10, s11, s12, s13, s14, s15, s16, s17, s18, s19, s20, s21, s22⟩
               go_simp
               with_reducible rfl
              rotate_left
              ·simp only [Act.put, List.setIfInBounds_toArray, List.set_cons_zero, List.set_cons_succ, i64_w, i32_w]
               rfl
              refine pure_ (i := 8) (N := some 28) (v := ?_) (a' := ?_) #[true, true, true, true, true, true, true, true, true, false, false] rfl rfl (any_of HT_.out (by kernel_rfl)) (fun _ _ _ h => h) (Or.inl ⟨by rfl, ?_⟩) ?_ ?_
              rotate_left
              ·intro w'
               go_simp
               with_reducible rfl
              rotate_left
              ·simp only [Act.put, List.setIfInBounds_toArray, List.set_cons_zero, List.set_cons_succ, i64_w, i32_w]
               rfl
              refine take_ (i := 9) (N := some 29) (v := ?_) (a' := ?_) #[true, true, true, true, true, true, true, true, true, true, false] rfl rfl (take_ofW HT_.out HW_.out (by kernel_rfl)) (fun _ _ _ h => h) (Or.inl ⟨by rfl, ?_⟩) hHeld ?_ ?_
              rotate_left
              ·rintro w' ⟨s0, s1, s2, s3, s4, s5, s6, s7, s8, s9, s10, s11, s12, s13, s14, s15, s16, s17, s18, s19, s20, s21, s22⟩
               go_simp
               with_reducible rfl
              rotate_left
              ·simp only [Act.put, List.setIfInBounds_toArray, List.set_cons_zero, List.set_cons_succ, i64_w, i32_w]
               rfl
              refine one_ (i := 10) (N := some 30) #[true, true, true, true, true, true, true, true, true, true, true] rfl rfl (one_of HT_.out (by kernel_rfl)) (by decide) (fun K hK => ?_)
              refine goes_ Tryd.func36 (by kernel_rfl) rfl #[.agg #[.int .i64 ((rd_T48 l0_1 x12_1).f0), .int .i64 ((rd_T48 l0_1 x12_1).f1), .int .i64 ((rd_T48 l0_1 x12_1).f2), .slice A205_3 ((rd_T48 l0_1 x12_1).f3).length c205_3, .int .i64 ((rd_T48 l0_1 x12_1).f4), .int .i64 ((rd_T48 l0_1 x12_1).f5), .int .i64 ((rd_T48 l0_1 x12_1).f6), .bool ((rd_T48 l0_1 x12_1).f7)], .agg #[.int .i64 ((rd_T48 l0_1 x5_2).f0), .int .i64 ((rd_T48 l0_1 x5_2).f1), .int .i64 ((rd_T48 l0_1 x5_2).f2), .slice A206_3 ((rd_T48 l0_1 x5_2).f3).length c206_3, .int .i64 ((rd_T48 l0_1 x5_2).f4), .int .i64 ((rd_T48 l0_1 x5_2).f5), .int .i64 ((rd_T48 l0_1 x5_2).f6), .bool ((rd_T48 l0_1 x5_2).f7)]] (by rfl) rfl rfl (by (try simp only [List.map_toArray, List.map_cons, List.map_nil]); first | done | rfl | (simp only [List.length_drop, List.length_take]; rfl)) ?_
              with_reducible refine (burnishref52_depends.calls k2 ((rd_T48 l0_1 x12_1).f0) ((rd_T48 l0_1 x12_1).f1) ((rd_T48 l0_1 x12_1).f2) _ _ ((rd_T48 l0_1 x12_1).f3) ((rd_T48 l0_1 x12_1).f4) ((rd_T48 l0_1 x12_1).f5) ((rd_T48 l0_1 x12_1).f6) ((rd_T48 l0_1 x12_1).f7) ((rd_T48 l0_1 x5_2).f0) ((rd_T48 l0_1 x5_2).f1) ((rd_T48 l0_1 x5_2).f2) _ _ ((rd_T48 l0_1 x5_2).f3) ((rd_T48 l0_1 x5_2).f4) ((rd_T48 l0_1 x5_2).f5) ((rd_T48 l0_1 x5_2).f6) ((rd_T48 l0_1 x5_2).f7) false _ ?side1 ?side2 ?side3 ?side4 A15.out).mono ?_
              (case side1 => repeat (first | exact (Kd.C_below HR205_3.out HB.out) | (with_reducible refine Kd.C_alloc ?_ _) | (with_reducible refine Kd.C_drewN ?_ _) | (with_reducible refine Kd.C_drew ?_)))
              (case side2 => exact HC205_3.out)
              (case side3 => repeat (first | exact (Kd.C_below HR206_3.out HB.out) | (with_reducible refine Kd.C_alloc ?_ _) | (with_reducible refine Kd.C_drewN ?_ _) | (with_reducible refine Kd.C_drew ?_)))
              (case side4 => exact HC206_3.out)
              rintro e w28 ⟨rfl, hb⟩
              refine ⟨_, rfl, ?_⟩
              have n0_ := Aside0.mk (Kd.S_below (by (with_reducible repeat (first | apply Kd.S_alloc | apply Kd.S_drewN | apply Kd.S_drew)); exact HO_3.out) hb)
              have n1_ := Aside0.mk (blk_below (g := gb201) (by (with_reducible repeat (first | refine blk_drewN ?_ _ | refine blk_drew ?_ | refine blk_alloc ?_ _)); exact BK201.out) hb)
              have n2_ := Aside0.mk (below_step (by repeat (first | (with_reducible first | exact HB.out | apply below_alloc | apply pw_below_drewN | apply below_drew1 | refine below_set ?_ GE201.out) | exact HB.out)) hb)
              clear HO_3
              clear BK201
              clear HB
              have HO_3 := n0_
              have BK201 := n1_
              have HB := n2_
              clear n0_ n1_ n2_
              (try clear hb)
              (try clear hb2)
              (try clear hk)
              (try clear hi)
              refine hK.out _ _ ⟨(blk_cell BK201.out 0).trans rfl, (blk_cell BK201.out 1).trans rfl, (blk_cell BK201.out 2).trans rfl, (blk_cell BK201.out 3).trans rfl, (blk_cell BK201.out 4).trans rfl, (blk_cell BK201.out 5).trans rfl, (blk_cell BK201.out 6).trans rfl, ((HB.out.cell (World.block_lt_of_cell? w _ hw205_0)).trans hw205_0), ((HB.out.cell (World.block_lt_of_cell? w _ hw205_1)).trans hw205_1), ((HB.out.cell (World.block_lt_of_cell? w _ hw205_2)).trans hw205_2), ((HB.out.cell (World.block_lt_of_cell? w _ hw205_3)).trans hw205_3), ((HB.out.cell (World.block_lt_of_cell? w _ hw205_4)).trans hw205_4), ((HB.out.cell (World.block_lt_of_cell? w _ hw205_5)).trans hw205_5), ((HB.out.cell (World.block_lt_of_cell? w _ hw205_6)).trans hw205_6), ((HB.out.cell (World.block_lt_of_cell? w _ hw205_7)).trans hw205_7), ((HB.out.cell (World.block_lt_of_cell? w _ hw206_0)).trans hw206_0), ((HB.out.cell (World.block_lt_of_cell? w _ hw206_1)).trans hw206_1), ((HB.out.cell (World.block_lt_of_cell? w _ hw206_2)).trans hw206_2), ((HB.out.cell (World.block_lt_of_cell? w _ hw206_3)).trans hw206_3), ((HB.out.cell (World.block_lt_of_cell? w _ hw206_4)).trans hw206_4), ((HB.out.cell (World.block_lt_of_cell? w _ hw206_5)).trans hw206_5), ((HB.out.cell (World.block_lt_of_cell? w _ hw206_6)).trans hw206_6), ((HB.out.cell (World.block_lt_of_cell? w _ hw206_7)).trans hw206_7)⟩ (fun hHeld => ?_)
              clear hK K
              refine norm_ (a' := ?_) ?_ ?_
              rotate_left
              ·show Act.put _ (some 30) _ = _
               simp only [Act.put, List.setIfInBounds_toArray, List.set_cons_zero, List.set_cons_succ, i64_w, i32_w]
               rfl
              refine done_ (done_of HT_.out (by kernel_rfl)) ?_
              try go_wp2
              (try simp only [← hl3_2])
              go_roundg k2
              case measure => have := HK1.out; have := HK2.out; omega
              case rel => exact ⟨(x3_2), (wrap64 (x5_2 + 1)), (by first | rfl | (simp; done) | (simp [*]; done)), H', ⟨by have := HK1.out; have := HK2.out; omega⟩, ⟨by (try simp only [hl3_1]); (try simp only [hl3_2]); (with_reducible repeat (first | apply Kd.S_alloc | apply Kd.S_drewN | apply Kd.S_drew)); exact HO_3.out⟩, ⟨by (try simp only [hl3_1]); (try simp only [hl3_2]); (with_reducible repeat (first | refine blk_drewN ?_ _ | refine blk_drew ?_ | refine blk_alloc ?_ _)); exact BK201.out⟩, ⟨by repeat (first | (with_reducible first | exact HB.out | apply below_alloc | apply pw_below_drewN | apply below_drew1 | refine below_set ?_ GE201.out) | exact HB.out)⟩⟩
            ·rw [if_neg c14] at H
             exact absurd H (by simp)
           ·rw [if_neg c13] at H
            exact absurd H (by simp)
          ·rw [if_neg c12] at H
           exact absurd H (by simp)
         ·rw [if_neg c11] at H
          exact absurd H (by simp)
        ·rw [if_neg c10] at H
         have c10b0 : decide (x5_2 < x12_1) = false := decide_eq_false c10
         clear c10
         have H' := Aside0.mk H
         clear H
         go_wp2
         (try simp only [← hl3_1, ← hl3_2])
         go_roundg k2
         case measure => have := HK1.out; have := HK2.out; omega
         case rel => exact ⟨(x3_2), (wrap64 (x12_1 + 1)), (by first | rfl | (simp; done) | (simp [*]; done)), H', ⟨by have := HK1.out; have := HK2.out; omega⟩, ⟨by (try simp only [hl3_1]); (try simp only [hl3_2]); (with_reducible repeat (first | apply Kd.S_alloc | apply Kd.S_drewN | apply Kd.S_drew)); exact HO_3.out⟩, ⟨by (try simp only [hl3_1]); (try simp only [hl3_2]); (with_reducible repeat (first | refine blk_drewN ?_ _ | refine blk_drew ?_ | refine blk_alloc ?_ _)); exact BK201.out⟩, ⟨by repeat (first | (with_reducible first | exact HB.out | apply below_alloc | apply pw_below_drewN | apply below_drew1 | refine below_set ?_ GE201.out) | exact HB.out)⟩⟩
     ·rw [if_neg c9] at H
      have c9b0 : decide (x12_1 < (y202.length : Int)) = false := decide_eq_false c9
      (try rw [hl3_1] at c9b0)
      (try rw [hl3_1] at c9b0)
      clear c9
      obtain rfl := Option.some.inj H
      go_wp2
      go_ret
      exact ⟨_, by first | rfl | (simp [errW_none, errW_some] <;> rfl) | (simp [*, errW_none, errW_some] <;> rfl), by (with_reducible repeat (first | apply Kd.S_alloc | apply Kd.S_drewN | apply Kd.S_drew)); exact HO_3.out, by repeat (first | (with_reducible first | exact HB.out | apply below_alloc | apply pw_below_drewN | apply below_drew1 | refine below_set ?_ GE201.out) | exact HB.out)⟩
  ·rw [if_neg c3] at H
   exact absurd H (by simp)
 ·rw [if_neg c2] at H
  exact absurd H (by simp)
end Go.Proofs.YtjacphcbiaacnaaDoor.PDigraphTells
end

