import Derived.Test.YtjacphcbiaacnaaDoorMSFu9
section
namespace Go.Proofs.YtjacphcbiaacnaaDoor.PDigraphTells
open Go.RowKit Go.Proofs.YtjacphcbiaacnaaDoorW.PrintWords Go.Proofs.YtjacphcbiaacnaaDoorW.PrintLast Go.Proofs.YtjacphcbiaacnaaDoorW.PrintMore
attribute [local go_sem] max2_int min2_int max_two min_two max_three min_three max_four min_four
set_option linter.unusedVariables false
set_option linter.unusedSimpArgs false
def machine_ValidModel.l0 : Nat → List Int → Int → Int → Int → Int → List Int → Option (Bool)
 | 0, _, _, _, _, _, _ => none
 | k + 1, x6, x7, x8, x105000, x105001, x105002 => if x8 < x7 then (if 0 ≤ x8 then (if x8 < (x6.length : Int) then ((machine_within.f (rd x6 x8) 1 100).bind fun t106 => (if t106 = true then (machine_ValidModel.l0 k x6 x7 (wrap64 (x8 + 1)) x105000 x105001 x105002) else (some false))) else (none)) else (none)) else ((machine_within.f x105000 1 8).bind fun t107 => (if t107 = true then ((machine_within.f x105001 8 64).bind fun t108 => (if t108 = true then (some (decide ((x105002.length : Int) ≤ 64))) else (some false))) else (some false)))
def machine_ValidModel.f (k : Nat) (a0_0 : Int) (a0_1 : Int) (l0_2 : List Int) : Option (Bool) := machine_ValidModel.l0 k l0_2 (l0_2.length : Int) 0 a0_0 a0_1 l0_2
set_option maxHeartbeats 8000000 in
set_option maxRecDepth 100000 in
theorem machine_ValidModel.calls (k : Nat) (a0_0 : Int) (a0_1 : Int) (A0_2 : Option Addr) (c0_2 : Nat) (l0_2 : List Int) (r : Bool) (w : World) (hr0_2 : Kd.C (Kd.int .i64) w A0_2 l0_2.length l0_2) (hc0_2 : l0_2.length ≤ c0_2) (h : machine_ValidModel.f k a0_0 a0_1 l0_2 = some r) :
  Calls Tryd.prog 17 #[.agg #[.int .i64 a0_0, .int .i64 a0_1, .slice A0_2 l0_2.length c0_2]] w fun e w' => e = .returned (.bool r) ∧ Below w.heap.size w w' := by
 have hu24 := Tryd.underlying24
 have HR0_2 := Aside0.mk hr0_2
 have HC0_2 := Aside0.mk hc0_2
 clear hr0_2 hc0_2
 have HB := Aside0.mk (Below.refl w.heap.size w)
 have H : (machine_ValidModel.l0 k l0_2 (l0_2.length : Int) 0 a0_0 a0_1 l0_2) = some r := h
 clear h
 have H' := Aside0.mk H
 clear H
 go_enter Tryd.func17, Tryd.ntmps17
 go_wp2_with (first | ((with_reducible refine gate_dst (N := 1) rfl ?_); (try (refine gate_guard (by rfl) ?_; dsimp only)); refine box_event ?hg (N := 1) ?hd (cs := #[.int .i64 a0_0, .int .i64 a0_1, .slice A0_2 l0_2.length c0_2]) (t := 24) ?hr ?_; (case hd => rfl); (case hg => rfl); (case hr => first | (go_simp; done) | (go_simp; rfl)); intro gb104 hg w2 hbox hb; have n0_ := Aside0.mk (below_step (by repeat (first | (with_reducible first | exact HB.out | apply below_alloc | apply pw_below_drewN | apply below_drew1) | exact HB.out)) hb); have n1_ := Aside0.mk (hbox); have n2_ := Aside0.mk ((by rw [hg]; exact (below_size (by repeat (first | (with_reducible first | exact HB.out | apply below_alloc | apply pw_below_drewN | apply below_drew1) | exact HB.out))) : w.heap.size ≤ gb104)); have n3_ := Aside0.mk ((by rw [hg]; exact (below_size (by repeat (first | (with_reducible first | exact HB.out | apply below_alloc | apply pw_below_drewN | apply below_drew1) | exact HB.out))) : w.heap.size ≤ gb104)); clear HB; have HB := n0_; have BK104 := n1_; have GW104 := n2_; have GE104 := n3_; clear n0_ n1_ n2_ n3_; clear hb hbox hg; obtain ⟨hcz3_0, hcz3_1, hcz3_2⟩ := cz3 BK104.out; obtain ⟨hfz3_0, hfz3_1, hfz3_2⟩ := fz3 BK104.out))
 go_loopg [8] k (fun kq v8 w' => ∃ (x8_1 : Int), v8 = .int .i64 x8_1 ∧ Aside0 (machine_ValidModel.l0 kq l0_2 (l0_2.length : Int) x8_1 a0_0 a0_1 l0_2 = some r) ∧ Aside0 (kq ≤ k) ∧ Aside0 (w'.heap[gb104]? = some (.cells #[.int .i64 a0_0, .int .i64 a0_1, (.slice A0_2 l0_2.length c0_2)] 24 (0, 0))) ∧ Aside0 (Below w.heap.size w w'))
 case atStart => exact ⟨(0), (by first | rfl | (simp; done) | (simp [*]; done)), H', ⟨Nat.le_refl _⟩, ⟨by (with_reducible repeat (first | refine blk_drewN ?_ _ | refine blk_drew ?_ | refine blk_alloc ?_ _)); exact BK104.out⟩, ⟨by repeat (first | (with_reducible first | exact HB.out | apply below_alloc | apply pw_below_drewN | apply below_drew1 | refine below_set ?_ GE104.out) | exact HB.out)⟩⟩
 case round =>
  clear H'
  try clear c1
  try clear p2
  try clear hcz3_0 hcz3_1 hcz3_2
  try clear hfz3_0 hfz3_1 hfz3_2
  obtain ⟨x8_1, rfl, HA, HK1, BK104, HB⟩ := hrel
  cases gk with
  | zero => exact absurd HA.out (by simp [machine_ValidModel.l0])
  | succ k1 =>
   have H := HA.out
   clear HA
   simp only [machine_ValidModel.l0] at H
   by_cases c4 : x8_1 < (l0_2.length : Int)
   ·rw [if_pos c4] at H
    have c4b0 : decide (x8_1 < (l0_2.length : Int)) = true := decide_eq_true c4
    clear c4
    by_cases c5 : 0 ≤ x8_1
    ·rw [if_pos c5] at H
     have c5b0 : decide (0 ≤ x8_1) = true := decide_eq_true c5
     clear c5
     by_cases c6 : x8_1 < (l0_2.length : Int)
     ·rw [if_pos c6] at H
      have c6b0 : decide (x8_1 < (l0_2.length : Int)) = true := decide_eq_true c6
      clear c6
      replace H := Option.bind_eq_some_iff.mp H
      obtain ⟨t106, A70, H⟩ := H
      replace H : (if t106 = true then (machine_ValidModel.l0 k1 l0_2 (l0_2.length : Int) (wrap64 (x8_1 + 1)) a0_0 a0_1 l0_2) else (some false)) = some r := H
      have A7 := Aside0.mk A70
      clear A70
      by_cases c8 : t106 = true
      ·subst c8
       have H1 : (machine_ValidModel.l0 k1 l0_2 (l0_2.length : Int) (wrap64 (x8_1 + 1)) a0_0 a0_1 l0_2) = some r := by rw [if_pos rfl] at H; exact H
       clear H
       have H := H1
       clear H1
       have H' := Aside0.mk H
       clear H
       have p105 : 0 ≤ (x8_1 : Int) := of_decide_eq_true (by first | (with_reducible assumption) | assumption)
       have q105 : x8_1 < (l0_2.length : Int) := of_decide_eq_true (by first | (with_reducible assumption) | assumption)
       obtain ⟨ad105, e105, hx105_0⟩ := Kd.at_int HR0_2.out x8_1 p105 q105
       cases e105
       replace hx105_0 := (HB.out.cell (World.block_lt_of_cell? w _ hx105_0)).trans hx105_0
       replace p105 := eq_true p105
       replace q105 := eq_true q105
       go_wp2_with (first | ((with_reducible refine gate_callee (f := 33) rfl ?_); refine goesL_ (some 13) rfl rfl Tryd.func33 (by kernel_rfl) rfl #[.int .i64 (rd l0_2 x8_1), .int .i64 1, .int .i64 100] rfl (by (try simp only [List.map_toArray, List.map_cons, List.map_nil]); first | done | rfl | (simp only [List.length_drop, List.length_take]; rfl)) ?_; (with_reducible refine (machine_within.calls (rd l0_2 x8_1) 1 100 true _ A7.out).mono ?_); rintro e w' ⟨rfl, ⟨nd, rfl⟩⟩; refine ⟨_, rfl, ?_⟩))
       go_roundg k1
       case measure => have := HK1.out; omega
       case rel => exact ⟨(wrap64 (x8_1 + 1)), (by first | rfl | (simp; done) | (simp [*]; done)), H', ⟨by have := HK1.out; omega⟩, ⟨by (with_reducible repeat (first | refine blk_drewN ?_ _ | refine blk_drew ?_ | refine blk_alloc ?_ _)); exact BK104.out⟩, ⟨by repeat (first | (with_reducible first | exact HB.out | apply below_alloc | apply pw_below_drewN | apply below_drew1 | refine below_set ?_ GE104.out) | exact HB.out)⟩⟩
      ·replace c8 := Bool.eq_false_iff.mpr c8
       subst c8
       have H1 : (some false) = some r := by rw [if_neg (show ¬ (false = true) by decide)] at H; exact H
       clear H
       have H := H1
       clear H1
       obtain rfl := Option.some.inj H
       have p105 : 0 ≤ (x8_1 : Int) := of_decide_eq_true (by first | (with_reducible assumption) | assumption)
       have q105 : x8_1 < (l0_2.length : Int) := of_decide_eq_true (by first | (with_reducible assumption) | assumption)
       obtain ⟨ad105, e105, hx105_0⟩ := Kd.at_int HR0_2.out x8_1 p105 q105
       cases e105
       replace hx105_0 := (HB.out.cell (World.block_lt_of_cell? w _ hx105_0)).trans hx105_0
       replace p105 := eq_true p105
       replace q105 := eq_true q105
       go_wp2_with (first | ((with_reducible refine gate_callee (f := 33) rfl ?_); refine goesL_ (some 13) rfl rfl Tryd.func33 (by kernel_rfl) rfl #[.int .i64 (rd l0_2 x8_1), .int .i64 1, .int .i64 100] rfl (by (try simp only [List.map_toArray, List.map_cons, List.map_nil]); first | done | rfl | (simp only [List.length_drop, List.length_take]; rfl)) ?_; (with_reducible refine (machine_within.calls (rd l0_2 x8_1) 1 100 false _ A7.out).mono ?_); rintro e w' ⟨rfl, ⟨nd, rfl⟩⟩; refine ⟨_, rfl, ?_⟩))
       go_ret
       exact ⟨by first | rfl | (simp [errW_none, errW_some] <;> rfl) | (simp [*, errW_none, errW_some] <;> rfl), by repeat (first | (with_reducible first | exact HB.out | apply below_alloc | apply pw_below_drewN | apply below_drew1 | refine below_set ?_ GE104.out) | exact HB.out)⟩
     ·rw [if_neg c6] at H
      exact absurd H (by simp)
    ·rw [if_neg c5] at H
     exact absurd H (by simp)
   ·rw [if_neg c4] at H
    have c4b0 : decide (x8_1 < (l0_2.length : Int)) = false := decide_eq_false c4
    clear c4
    replace H := Option.bind_eq_some_iff.mp H
    obtain ⟨t107, A90, H⟩ := H
    replace H : (if t107 = true then ((machine_within.f a0_1 8 64).bind fun t108 => (if t108 = true then (some (decide ((l0_2.length : Int) ≤ 64))) else (some false))) else (some false)) = some r := H
    have A9 := Aside0.mk A90
    clear A90
    by_cases c10 : t107 = true
    ·subst c10
     have H1 : ((machine_within.f a0_1 8 64).bind fun t108 => (if t108 = true then (some (decide ((l0_2.length : Int) ≤ 64))) else (some false))) = some r := by rw [if_pos rfl] at H; exact H
     clear H
     have H := H1
     clear H1
     replace H := Option.bind_eq_some_iff.mp H
     obtain ⟨t108, A110, H⟩ := H
     replace H : (if t108 = true then (some (decide ((l0_2.length : Int) ≤ 64))) else (some false)) = some r := H
     have A11 := Aside0.mk A110
     clear A110
     by_cases c12 : t108 = true
     ·subst c12
      have H1 : (some (decide ((l0_2.length : Int) ≤ 64))) = some r := by rw [if_pos rfl] at H; exact H
      clear H
      have H := H1
      clear H1
      obtain rfl := Option.some.inj H
      obtain ⟨hcz13_0, hcz13_1, hcz13_2⟩ := cz3 BK104.out
      obtain ⟨hfz13_0, hfz13_1, hfz13_2⟩ := fz3 BK104.out
      go_wp2_with (first | ((with_reducible refine gate_callee (f := 33) rfl ?_); refine goesL_ (some 18) rfl rfl Tryd.func33 (by kernel_rfl) rfl #[.int .i64 a0_0, .int .i64 1, .int .i64 8] rfl (by (try simp only [List.map_toArray, List.map_cons, List.map_nil]); first | done | rfl | (simp only [List.length_drop, List.length_take]; rfl)) ?_; (with_reducible refine (machine_within.calls a0_0 1 8 true _ A9.out).mono ?_); rintro e w' ⟨rfl, ⟨nd, rfl⟩⟩; refine ⟨_, rfl, ?_⟩) | (go_at_call 33; (with_reducible refine (machine_within.calls a0_1 8 64 true _ A11.out).mono ?_); rintro e w' ⟨rfl, ⟨nd, rfl⟩⟩))
      go_ret
      exact ⟨by first | rfl | (simp [errW_none, errW_some] <;> rfl) | (simp [*, errW_none, errW_some] <;> rfl), by repeat (first | (with_reducible first | exact HB.out | apply below_alloc | apply pw_below_drewN | apply below_drew1 | refine below_set ?_ GE104.out) | exact HB.out)⟩
     ·replace c12 := Bool.eq_false_iff.mpr c12
      subst c12
      have H1 : (some false) = some r := by rw [if_neg (show ¬ (false = true) by decide)] at H; exact H
      clear H
      have H := H1
      clear H1
      obtain rfl := Option.some.inj H
      obtain ⟨hcz14_0, hcz14_1, hcz14_2⟩ := cz3 BK104.out
      obtain ⟨hfz14_0, hfz14_1, hfz14_2⟩ := fz3 BK104.out
      go_wp2_with (first | ((with_reducible refine gate_callee (f := 33) rfl ?_); refine goesL_ (some 18) rfl rfl Tryd.func33 (by kernel_rfl) rfl #[.int .i64 a0_0, .int .i64 1, .int .i64 8] rfl (by (try simp only [List.map_toArray, List.map_cons, List.map_nil]); first | done | rfl | (simp only [List.length_drop, List.length_take]; rfl)) ?_; (with_reducible refine (machine_within.calls a0_0 1 8 true _ A9.out).mono ?_); rintro e w' ⟨rfl, ⟨nd, rfl⟩⟩; refine ⟨_, rfl, ?_⟩) | (go_at_call 33; (with_reducible refine (machine_within.calls a0_1 8 64 false _ A11.out).mono ?_); rintro e w' ⟨rfl, ⟨nd, rfl⟩⟩))
      go_ret
      exact ⟨by first | rfl | (simp [errW_none, errW_some] <;> rfl) | (simp [*, errW_none, errW_some] <;> rfl), by repeat (first | (with_reducible first | exact HB.out | apply below_alloc | apply pw_below_drewN | apply below_drew1 | refine below_set ?_ GE104.out) | exact HB.out)⟩
    ·replace c10 := Bool.eq_false_iff.mpr c10
     subst c10
     have H1 : (some false) = some r := by rw [if_neg (show ¬ (false = true) by decide)] at H; exact H
     clear H
     have H := H1
     clear H1
     obtain rfl := Option.some.inj H
     obtain ⟨hcz15_0, hcz15_1, hcz15_2⟩ := cz3 BK104.out
     obtain ⟨hfz15_0, hfz15_1, hfz15_2⟩ := fz3 BK104.out
     go_wp2_with (first | ((with_reducible refine gate_callee (f := 33) rfl ?_); refine goesL_ (some 18) rfl rfl Tryd.func33 (by kernel_rfl) rfl #[.int .i64 a0_0, .int .i64 1, .int .i64 8] rfl (by (try simp only [List.map_toArray, List.map_cons, List.map_nil]); first | done | rfl | (simp only [List.length_drop, List.length_take]; rfl)) ?_; (with_reducible refine (machine_within.calls a0_0 1 8 false _ A9.out).mono ?_); rintro e w' ⟨rfl, ⟨nd, rfl⟩⟩; refine ⟨_, rfl, ?_⟩))
     go_ret
     exact ⟨by first | rfl | (simp [errW_none, errW_some] <;> rfl) | (simp [*, errW_none, errW_some] <;> rfl), by repeat (first | (with_reducible first | exact HB.out | apply below_alloc | apply pw_below_drewN | apply below_drew1 | refine below_set ?_ GE104.out) | exact HB.out)⟩
end Go.Proofs.YtjacphcbiaacnaaDoor.PDigraphTells
end

section
namespace Go.Proofs.YtjacphcbiaacnaaDoor.PDigraphTells
open Go.RowKit Go.Proofs.YtjacphcbiaacnaaDoorW.PrintWords Go.Proofs.YtjacphcbiaacnaaDoorW.PrintLast Go.Proofs.YtjacphcbiaacnaaDoorW.PrintMore
attribute [local go_sem] max2_int min2_int max_two min_two max_three min_three max_four min_four
set_option linter.unusedVariables false
set_option linter.unusedSimpArgs false
def slices_Index_int_int.l0 : Nat → List Int → Int → Int → Int → Option (Int)
 | 0, _, _, _, _ => none
 | k + 1, x0, x1, x7, x8 => if x8 < x7 then (if 0 ≤ x8 then (if x8 < (x0.length : Int) then (if x1 = (rd x0 x8) then (some x8) else (slices_Index_int_int.l0 k x0 x1 x7 (wrap64 (x8 + 1)))) else (none)) else (none)) else (some (-1))
def slices_Index_int_int.f (k : Nat) (l0 : List Int) (a1 : Int) : Option (Int) := slices_Index_int_int.l0 k l0 a1 (l0.length : Int) 0
set_option maxHeartbeats 8000000 in
set_option maxRecDepth 100000 in
theorem slices_Index_int_int.calls (k : Nat) (A0 : Option Addr) (c0 : Nat) (l0 : List Int) (a1 : Int) (r : Int) (w : World) (hr0 : Kd.C (Kd.int .i64) w A0 l0.length l0) (hc0 : l0.length ≤ c0) (h : slices_Index_int_int.f k l0 a1 = some r) :
  Calls Tryd.prog 35 #[.slice A0 l0.length c0, .int .i64 a1] w fun e w' => e = .returned (.int .i64 r) ∧ Drawn0 w w' := by
 have HR0 := Aside0.mk hr0
 have HC0 := Aside0.mk hc0
 clear hr0 hc0
 have H : (slices_Index_int_int.l0 k l0 a1 (l0.length : Int) 0) = some r := h
 clear h
 have H' := Aside0.mk H
 clear H
 go_enter Tryd.func35, Tryd.ntmps35
 go_wp2
 go_loopg [8] k (fun kq v8 w' => ∃ (x8_1 : Int), v8 = .int .i64 x8_1 ∧ Aside0 (slices_Index_int_int.l0 kq l0 a1 (l0.length : Int) x8_1 = some r) ∧ Aside0 (kq ≤ k) ∧ Drawn0 w w')
 case atStart => exact ⟨(0), (by first | rfl | (simp; done) | (simp [*]; done)), H', ⟨Nat.le_refl _⟩, by repeat (first | exact Drawn0.refl _ | apply Drawn0.step)⟩
 case round =>
  clear H'
  try clear p2
  obtain ⟨x8_1, rfl, HA, HK1, ⟨m1, rfl⟩⟩ := hrel
  cases gk with
  | zero => exact absurd HA.out (by simp [slices_Index_int_int.l0])
  | succ k1 =>
   have H := HA.out
   clear HA
   simp only [slices_Index_int_int.l0] at H
   by_cases c3 : x8_1 < (l0.length : Int)
   ·rw [if_pos c3] at H
    have c3b0 : decide (x8_1 < (l0.length : Int)) = true := decide_eq_true c3
    clear c3
    by_cases c4 : 0 ≤ x8_1
    ·rw [if_pos c4] at H
     have c4b0 : decide (0 ≤ x8_1) = true := decide_eq_true c4
     clear c4
     by_cases c5 : x8_1 < (l0.length : Int)
     ·rw [if_pos c5] at H
      have c5b0 : decide (x8_1 < (l0.length : Int)) = true := decide_eq_true c5
      clear c5
      by_cases c6 : a1 = (rd l0 x8_1)
      ·rw [if_pos c6] at H
       have c6b0 : (a1 == (rd l0 x8_1)) = true := beq_iff_eq.mpr c6
       have c6b1 : (a1 != (rd l0 x8_1)) = false := bne_eq_false_iff_eq.mpr c6
       clear c6
       obtain rfl := Option.some.inj H
       have p109 : 0 ≤ (x8_1 : Int) := of_decide_eq_true (by first | (with_reducible assumption) | assumption)
       have q109 : x8_1 < (l0.length : Int) := of_decide_eq_true (by first | (with_reducible assumption) | assumption)
       obtain ⟨ad109, e109, hx109_0⟩ := Kd.at_int HR0.out x8_1 p109 q109
       cases e109
       replace p109 := eq_true p109
       replace q109 := eq_true q109
       go_wp2
       go_ret
       exact ⟨by first | rfl | (simp; done) | (simp [*]; done), by repeat (first | exact Drawn0.refl _ | apply Drawn0.step)⟩
      ·rw [if_neg c6] at H
       have c6b0 : (a1 == (rd l0 x8_1)) = false := beq_eq_false_iff_ne.mpr c6
       have c6b1 : (a1 != (rd l0 x8_1)) = true := bne_iff_ne.mpr c6
       have H' := Aside0.mk H
       clear H
       have p109 : 0 ≤ (x8_1 : Int) := of_decide_eq_true (by first | (with_reducible assumption) | assumption)
       have q109 : x8_1 < (l0.length : Int) := of_decide_eq_true (by first | (with_reducible assumption) | assumption)
       obtain ⟨ad109, e109, hx109_0⟩ := Kd.at_int HR0.out x8_1 p109 q109
       cases e109
       replace p109 := eq_true p109
       replace q109 := eq_true q109
       go_wp2
       go_roundg k1
       case measure => have := HK1.out; omega
       case rel => exact ⟨(wrap64 (x8_1 + 1)), (by first | rfl | (simp; done) | (simp [*]; done)), H', ⟨by have := HK1.out; omega⟩, by repeat (first | exact Drawn0.refl _ | apply Drawn0.step)⟩
     ·rw [if_neg c5] at H
      exact absurd H (by simp)
    ·rw [if_neg c4] at H
     exact absurd H (by simp)
   ·rw [if_neg c3] at H
    have c3b0 : decide (x8_1 < (l0.length : Int)) = false := decide_eq_false c3
    clear c3
    obtain rfl := Option.some.inj H
    go_wp2
    go_ret
    exact ⟨by first | rfl | (simp; done) | (simp [*]; done), by repeat (first | exact Drawn0.refl _ | apply Drawn0.step)⟩
end Go.Proofs.YtjacphcbiaacnaaDoor.PDigraphTells
end

section
namespace Go.Proofs.YtjacphcbiaacnaaDoor.PDigraphTells
open Go.RowKit Go.Proofs.YtjacphcbiaacnaaDoorW.PrintWords Go.Proofs.YtjacphcbiaacnaaDoorW.PrintLast Go.Proofs.YtjacphcbiaacnaaDoorW.PrintMore
attribute [local go_sem] max2_int min2_int max_two min_two max_three min_three max_four min_four
set_option linter.unusedVariables false
set_option linter.unusedSimpArgs false
def slices_Contains_int_int.f (k : Nat) (l0 : List Int) (a1 : Int) : Option (Bool) := (slices_Index_int_int.f k l0 a1).bind fun t110 => (some (decide (t110 ≥ 0)))
set_option maxHeartbeats 8000000 in
set_option maxRecDepth 100000 in
theorem slices_Contains_int_int.calls (k : Nat) (A0 : Option Addr) (c0 : Nat) (l0 : List Int) (a1 : Int) (r : Bool) (w : World) (hr0 : Kd.C (Kd.int .i64) w A0 l0.length l0) (hc0 : l0.length ≤ c0) (h : slices_Contains_int_int.f k l0 a1 = some r) :
  Calls Tryd.prog 19 #[.slice A0 l0.length c0, .int .i64 a1] w fun e w' => e = .returned (.bool r) ∧ Drawn0 w w' := by
 have HR0 := Aside0.mk hr0
 have HC0 := Aside0.mk hc0
 clear hr0 hc0
 have H : ((slices_Index_int_int.f k l0 a1).bind fun t110 => (some (decide (t110 ≥ 0)))) = some r := h
 clear h
 replace H := Option.bind_eq_some_iff.mp H
 obtain ⟨t110, A30, H⟩ := H
 replace H : (some (decide (t110 ≥ 0))) = some r := H
 have A3 := Aside0.mk A30
 clear A30
 obtain rfl := Option.some.inj H
 go_enter Tryd.func19, Tryd.ntmps19
 go_wp2_with (first | ((with_reducible refine gate_callee (f := 35) rfl ?_); refine goesL_ (some 7) rfl rfl Tryd.func35 (by kernel_rfl) rfl #[.slice A0 l0.length c0, .int .i64 a1] rfl (by (try simp only [List.map_toArray, List.map_cons, List.map_nil]); first | done | rfl | (simp only [List.length_drop, List.length_take]; rfl)) ?_; (with_reducible refine (slices_Index_int_int.calls k _ _ l0 a1 t110 _ ?side1 ?side2 A3.out).mono ?_); (case side1 => repeat (first | exact HR0.out | (with_reducible refine Kd.C_alloc ?_ _) | (with_reducible refine Kd.C_drewN ?_ _) | (with_reducible refine Kd.C_drew ?_))); (case side2 => exact HC0.out); rintro e w' ⟨rfl, ⟨nd, rfl⟩⟩; refine ⟨_, rfl, ?_⟩))
 go_ret
 exact ⟨by first | rfl | (simp; done) | (simp [*]; done), by repeat (first | exact Drawn0.refl _ | apply Drawn0.step)⟩
end Go.Proofs.YtjacphcbiaacnaaDoor.PDigraphTells
end

section
namespace Go.Proofs.YtjacphcbiaacnaaDoor.PDigraphTells
open Go.RowKit Go.Proofs.YtjacphcbiaacnaaDoorW.PrintWords Go.Proofs.YtjacphcbiaacnaaDoorW.PrintLast Go.Proofs.YtjacphcbiaacnaaDoorW.PrintMore
attribute [local go_sem] max2_int min2_int max_two min_two max_three min_three max_four min_four
set_option linter.unusedVariables false
set_option linter.unusedSimpArgs false
def sched_uses.f (k : Nat) (a0_0 : Int) (a0_1 : Int) (a0_2 : Int) (l0_3 : List Int) (a0_4 : Int) (a0_5 : Int) (a0_6 : Int) (a0_7 : Bool) (a1_0 : Int) (a1_1 : Int) (a1_2 : Int) (l1_3 : List Int) (a1_4 : Int) (a1_5 : Int) (a1_6 : Int) (a1_7 : Bool) : Option (Bool) := if a1_2 ≥ 0 then ((slices_Contains_int_int.f k l0_3 a1_2).bind fun t113 => (some t113)) else (some false)
set_option maxHeartbeats 8000000 in
set_option maxRecDepth 100000 in
theorem sched_uses.calls (k : Nat) (a0_0 : Int) (a0_1 : Int) (a0_2 : Int) (A0_3 : Option Addr) (c0_3 : Nat) (l0_3 : List Int) (a0_4 : Int) (a0_5 : Int) (a0_6 : Int) (a0_7 : Bool) (a1_0 : Int) (a1_1 : Int) (a1_2 : Int) (A1_3 : Option Addr) (c1_3 : Nat) (l1_3 : List Int) (a1_4 : Int) (a1_5 : Int) (a1_6 : Int) (a1_7 : Bool) (r : Bool) (w : World) (hr0_3 : Kd.C (Kd.int .i64) w A0_3 l0_3.length l0_3) (hc0_3 : l0_3.length ≤ c0_3) (hr1_3 : Kd.C (Kd.int .i64) w A1_3 l1_3.length l1_3) (hc1_3 : l1_3.length ≤ c1_3) (h : sched_uses.f k a0_0 a0_1 a0_2 l0_3 a0_4 a0_5 a0_6 a0_7 a1_0 a1_1 a1_2 l1_3 a1_4 a1_5 a1_6 a1_7 = some r) :
  Calls Tryd.prog 45 #[.agg #[.int .i64 a0_0, .int .i64 a0_1, .int .i64 a0_2, .slice A0_3 l0_3.length c0_3, .int .i64 a0_4, .int .i64 a0_5, .int .i64 a0_6, .bool a0_7], .agg #[.int .i64 a1_0, .int .i64 a1_1, .int .i64 a1_2, .slice A1_3 l1_3.length c1_3, .int .i64 a1_4, .int .i64 a1_5, .int .i64 a1_6, .bool a1_7]] w fun e w' => e = .returned (.bool r) ∧ Below w.heap.size w w' := by
 have hu48 := Tryd.underlying48
 have HR0_3 := Aside0.mk hr0_3
 have HC0_3 := Aside0.mk hc0_3
 clear hr0_3 hc0_3
 have HR1_3 := Aside0.mk hr1_3
 have HC1_3 := Aside0.mk hc1_3
 clear hr1_3 hc1_3
 have HB := Aside0.mk (Below.refl w.heap.size w)
 have H : (if a1_2 ≥ 0 then ((slices_Contains_int_int.f k l0_3 a1_2).bind fun t113 => (some t113)) else (some false)) = some r := h
 clear h
 by_cases c3 : a1_2 ≥ 0
 ·rw [if_pos c3] at H
  have c3b0 : decide (0 ≤ a1_2) = true := decide_eq_true c3
  clear c3
  replace H := Option.bind_eq_some_iff.mp H
  obtain ⟨t113, A40, H⟩ := H
  replace H : (some t113) = some r := H
  have A4 := Aside0.mk A40
  clear A40
  obtain rfl := Option.some.inj H
  go_enter Tryd.func45, Tryd.ntmps45
  go_wp2_with (first | ((with_reducible refine gate_dst (N := 2) rfl ?_); refine box_event ?hg (N := 2) ?hd (cs := #[.int .i64 a0_0, .int .i64 a0_1, .int .i64 a0_2, .slice A0_3 l0_3.length c0_3, .int .i64 a0_4, .int .i64 a0_5, .int .i64 a0_6, .bool a0_7]) (t := 48) ?hr ?_; (case hd => rfl); (case hg => rfl); (case hr => first | (go_simp; done) | (go_simp; rfl)); intro gb111 hg w5 hbox hb; have n0_ := Aside0.mk (below_step (by repeat (first | (with_reducible first | exact HB.out | apply below_alloc | apply pw_below_drewN | apply below_drew1) | exact HB.out)) hb); have n1_ := Aside0.mk (hbox); have n2_ := Aside0.mk ((by rw [hg]; exact (below_size (by repeat (first | (with_reducible first | exact HB.out | apply below_alloc | apply pw_below_drewN | apply below_drew1) | exact HB.out))) : w.heap.size ≤ gb111)); have n3_ := Aside0.mk ((by rw [hg]; exact (below_size (by repeat (first | (with_reducible first | exact HB.out | apply below_alloc | apply pw_below_drewN | apply below_drew1) | exact HB.out))) : w.heap.size ≤ gb111)); clear HB; have HB := n0_; have BK111 := n1_; have GW111 := n2_; have GE111 := n3_; clear n0_ n1_ n2_ n3_; clear hb hbox hg) | ((with_reducible refine gate_dst (N := 3) rfl ?_); refine box_event ?hg (N := 3) ?hd (cs := #[.int .i64 a1_0, .int .i64 a1_1, .int .i64 a1_2, .slice A1_3 l1_3.length c1_3, .int .i64 a1_4, .int .i64 a1_5, .int .i64 a1_6, .bool a1_7]) (t := 48) ?hr ?_; (case hd => rfl); (case hg => rfl); (case hr => first | (go_simp; done) | (go_simp; rfl)); intro gb112 hg w6 hbox hb; have n0_ := Aside0.mk (blk_below (g := gb111) (by (with_reducible repeat (first | refine blk_drewN ?_ _ | refine blk_drew ?_ | refine blk_alloc ?_ _)); exact BK111.out) hb); have n1_ := Aside0.mk (below_step (by repeat (first | (with_reducible first | exact HB.out | apply below_alloc | apply pw_below_drewN | apply below_drew1 | refine below_set ?_ GE111.out) | exact HB.out)) hb); have n2_ := Aside0.mk (hbox); have n3_ := Aside0.mk ((by rw [hg]; exact (below_size (by repeat (first | (with_reducible first | exact HB.out | apply below_alloc | apply pw_below_drewN | apply below_drew1 | refine below_set ?_ GE111.out) | exact HB.out))) : w.heap.size ≤ gb112)); have n4_ := Aside0.mk ((by rw [hg]; exact (below_size (by repeat (first | (with_reducible first | exact HB.out | apply below_alloc | apply pw_below_drewN | apply below_drew1 | refine below_set ?_ GE111.out) | exact HB.out))) : w.heap.size ≤ gb112)); have n5_ := Aside0.mk ((by rw [hg]; exact Nat.ne_of_lt (blk_lt (g := gb111) (o := .cells #[.int .i64 a0_0, .int .i64 a0_1, .int .i64 a0_2, .slice A0_3 l0_3.length c0_3, .int .i64 a0_4, .int .i64 a0_5, .int .i64 a0_6, .bool a0_7] 48 (0, 0)) (by (with_reducible repeat (first | refine blk_drewN ?_ _ | refine blk_drew ?_ | refine blk_alloc ?_ _)); exact BK111.out)) : gb111 ≠ gb112)); have n6_ := Aside0.mk ((by rw [hg]; exact Nat.ne_of_gt (blk_lt (g := gb111) (o := .cells #[.int .i64 a0_0, .int .i64 a0_1, .int .i64 a0_2, .slice A0_3 l0_3.length c0_3, .int .i64 a0_4, .int .i64 a0_5, .int .i64 a0_6, .bool a0_7] 48 (0, 0)) (by (with_reducible repeat (first | refine blk_drewN ?_ _ | refine blk_drew ?_ | refine blk_alloc ?_ _)); exact BK111.out)) : gb112 ≠ gb111)); clear BK111; clear HB; have BK111 := n0_; have HB := n1_; have BK112 := n2_; have GW112 := n3_; have GE112 := n4_; have NB111_112 := n5_; have NB112_111 := n6_; clear n0_ n1_ n2_ n3_ n4_ n5_ n6_; clear hb hbox hg; have hnb7 := NB112_111.out; have hnc7 := NB111_112.out; obtain ⟨hcz8_0, hcz8_1, hcz8_2, hcz8_3, hcz8_4, hcz8_5, hcz8_6, hcz8_7⟩ := cz8 BK112.out; obtain ⟨hfz8_0, hfz8_1, hfz8_2, hfz8_3, hfz8_4, hfz8_5, hfz8_6, hfz8_7⟩ := fz8 BK112.out; obtain ⟨hcz9_0, hcz9_1, hcz9_2, hcz9_3, hcz9_4, hcz9_5, hcz9_6, hcz9_7⟩ := cz8 BK111.out; obtain ⟨hfz9_0, hfz9_1, hfz9_2, hfz9_3, hfz9_4, hfz9_5, hfz9_6, hfz9_7⟩ := fz8 BK111.out) | (go_at_call 19; (with_reducible refine (slices_Contains_int_int.calls k _ _ l0_3 a1_2 t113 _ ?side1 ?side2 A4.out).mono ?_); (case side1 => repeat (first | exact (Kd.C_below HR0_3.out HB.out) | (with_reducible refine Kd.C_alloc ?_ _) | (with_reducible refine Kd.C_drewN ?_ _) | (with_reducible refine Kd.C_drew ?_))); (case side2 => exact HC0_3.out); rintro e w' ⟨rfl, ⟨nd, rfl⟩⟩))
  go_ret
  exact ⟨by first | rfl | (simp [errW_none, errW_some] <;> rfl) | (simp [*, errW_none, errW_some] <;> rfl), by repeat (first | (with_reducible first | exact HB.out | apply below_alloc | apply pw_below_drewN | apply below_drew1 | refine below_set ?_ GE111.out | refine below_set ?_ GE112.out) | exact HB.out)⟩
 ·rw [if_neg c3] at H
  have c3b0 : decide (0 ≤ a1_2) = false := decide_eq_false c3
  clear c3
  obtain rfl := Option.some.inj H
  go_enter Tryd.func45, Tryd.ntmps45
  go_wp2_with (first | ((with_reducible refine gate_dst (N := 2) rfl ?_); refine box_event ?hg (N := 2) ?hd (cs := #[.int .i64 a0_0, .int .i64 a0_1, .int .i64 a0_2, .slice A0_3 l0_3.length c0_3, .int .i64 a0_4, .int .i64 a0_5, .int .i64 a0_6, .bool a0_7]) (t := 48) ?hr ?_; (case hd => rfl); (case hg => rfl); (case hr => first | (go_simp; done) | (go_simp; rfl)); intro gb111 hg w10 hbox hb; have n0_ := Aside0.mk (below_step (by repeat (first | (with_reducible first | exact HB.out | apply below_alloc | apply pw_below_drewN | apply below_drew1) | exact HB.out)) hb); have n1_ := Aside0.mk (hbox); have n2_ := Aside0.mk ((by rw [hg]; exact (below_size (by repeat (first | (with_reducible first | exact HB.out | apply below_alloc | apply pw_below_drewN | apply below_drew1) | exact HB.out))) : w.heap.size ≤ gb111)); have n3_ := Aside0.mk ((by rw [hg]; exact (below_size (by repeat (first | (with_reducible first | exact HB.out | apply below_alloc | apply pw_below_drewN | apply below_drew1) | exact HB.out))) : w.heap.size ≤ gb111)); clear HB; have HB := n0_; have BK111 := n1_; have GW111 := n2_; have GE111 := n3_; clear n0_ n1_ n2_ n3_; clear hb hbox hg) | ((with_reducible refine gate_dst (N := 3) rfl ?_); refine box_event ?hg (N := 3) ?hd (cs := #[.int .i64 a1_0, .int .i64 a1_1, .int .i64 a1_2, .slice A1_3 l1_3.length c1_3, .int .i64 a1_4, .int .i64 a1_5, .int .i64 a1_6, .bool a1_7]) (t := 48) ?hr ?_; (case hd => rfl); (case hg => rfl); (case hr => first | (go_simp; done) | (go_simp; rfl)); intro gb112 hg w11 hbox hb; have n0_ := Aside0.mk (blk_below (g := gb111) (by (with_reducible repeat (first | refine blk_drewN ?_ _ | refine blk_drew ?_ | refine blk_alloc ?_ _)); exact BK111.out) hb); have n1_ := Aside0.mk (below_step (by repeat (first | (with_reducible first | exact HB.out | apply below_alloc | apply pw_below_drewN | apply below_drew1 | refine below_set ?_ GE111.out) | exact HB.out)) hb); have n2_ := Aside0.mk (hbox); have n3_ := Aside0.mk ((by rw [hg]; exact (below_size (by repeat (first | (with_reducible first | exact HB.out | apply below_alloc | apply pw_below_drewN | apply below_drew1 | refine below_set ?_ GE111.out) | exact HB.out))) : w.heap.size ≤ gb112)); have n4_ := Aside0.mk ((by rw [hg]; exact (below_size (by repeat (first | (with_reducible first | exact HB.out | apply below_alloc | apply pw_below_drewN | apply below_drew1 | refine below_set ?_ GE111.out) | exact HB.out))) : w.heap.size ≤ gb112)); have n5_ := Aside0.mk ((by rw [hg]; exact Nat.ne_of_lt (blk_lt (g := gb111) (o := .cells #[.int .i64 a0_0, .int .i64 a0_1, .int .i64 a0_2, .slice A0_3 l0_3.length c0_3, .int .i64 a0_4, .int .i64 a0_5, .int .i64 a0_6, .bool a0_7] 48 (0, 0)) (by (with_reducible repeat (first | refine blk_drewN ?_ _ | refine blk_drew ?_ | refine blk_alloc ?_ _)); exact BK111.out)) : gb111 ≠ gb112)); have n6_ := Aside0.mk ((by rw [hg]; exact Nat.ne_of_gt (blk_lt (g := gb111) (o := .cells #[.int .i64 a0_0, .int .i64 a0_1, .int .i64 a0_2, .slice A0_3 l0_3.length c0_3, .int .i64 a0_4, .int .i64 a0_5, .int .i64 a0_6, .bool a0_7] 48 (0, 0)) (by (with_reducible repeat (first | refine blk_drewN ?_ _ | refine blk_drew ?_ | refine blk_alloc ?_ _)); exact BK111.out)) : gb112 ≠ gb111)); clear BK111; clear HB; have BK111 := n0_; have HB := n1_; have BK112 := n2_; have GW112 := n3_; have GE112 := n4_; have NB111_112 := n5_; have NB112_111 := n6_; clear n0_ n1_ n2_ n3_ n4_ n5_ n6_; clear hb hbox hg; have hnb12 := NB112_111.out; have hnc12 := NB111_112.out; obtain ⟨hcz13_0, hcz13_1, hcz13_2, hcz13_3, hcz13_4, hcz13_5, hcz13_6, hcz13_7⟩ := cz8 BK112.out; obtain ⟨hfz13_0, hfz13_1, hfz13_2, hfz13_3, hfz13_4, hfz13_5, hfz13_6, hfz13_7⟩ := fz8 BK112.out))
  go_ret
  exact ⟨by first | rfl | (simp [errW_none, errW_some] <;> rfl) | (simp [*, errW_none, errW_some] <;> rfl), by repeat (first | (with_reducible first | exact HB.out | apply below_alloc | apply pw_below_drewN | apply below_drew1 | refine below_set ?_ GE111.out | refine below_set ?_ GE112.out) | exact HB.out)⟩
end Go.Proofs.YtjacphcbiaacnaaDoor.PDigraphTells
end

section
namespace Go.Proofs.YtjacphcbiaacnaaDoor.PDigraphTells
open Go.RowKit Go.Proofs.YtjacphcbiaacnaaDoorW.PrintWords Go.Proofs.YtjacphcbiaacnaaDoorW.PrintLast Go.Proofs.YtjacphcbiaacnaaDoorW.PrintMore
attribute [local go_sem] max2_int min2_int max_two min_two max_three min_three max_four min_four
set_option linter.unusedVariables false
set_option linter.unusedSimpArgs false
def sched_isMemory.f (a0 : Int) : Option (Bool × Bool) := if a0 = 29 then (some (true, true)) else (if a0 = 30 then (some (true, (a0 == 30))) else (some ((a0 == 28), (a0 == 30))))
set_option maxHeartbeats 8000000 in
set_option maxRecDepth 100000 in
theorem sched_isMemory.calls (a0 : Int) (r1 : Bool) (r2 : Bool) (w : World) (h : sched_isMemory.f a0 = some (r1, r2)) :
  Calls Tryd.prog 46 #[.int .i64 a0] w fun e w' => e = .returned (.tuple #[.bool r1, .bool r2]) ∧ Drawn0 w w' := by
 have H : (if a0 = 29 then (some (true, true)) else (if a0 = 30 then (some (true, (a0 == 30))) else (some ((a0 == 28), (a0 == 30))))) = some (r1, r2) := h
 clear h
 by_cases c2 : a0 = 29
 ·rw [if_pos c2] at H
  have c2b0 : (a0 == 29) = true := beq_iff_eq.mpr c2
  have c2b1 : (a0 != 29) = false := bne_eq_false_iff_eq.mpr c2
  clear c2
  simp only [Option.some.injEq, Prod.mk.injEq] at H
  obtain ⟨rfl, rfl⟩ := H
  go_enter Tryd.func46, Tryd.ntmps46
  go_wp2
  go_ret2
  exact ⟨by first | rfl | (simp; done) | (simp [*]; done), by repeat (first | exact Drawn0.refl _ | apply Drawn0.step)⟩
 ·rw [if_neg c2] at H
  have c2b0 : (a0 == 29) = false := beq_eq_false_iff_ne.mpr c2
  have c2b1 : (a0 != 29) = true := bne_iff_ne.mpr c2
  by_cases c3 : a0 = 30
  ·rw [if_pos c3] at H
   have c3b0 : (a0 == 30) = true := beq_iff_eq.mpr c3
   have c3b1 : (a0 != 30) = false := bne_eq_false_iff_eq.mpr c3
   clear c3
   simp only [Option.some.injEq, Prod.mk.injEq] at H
   obtain ⟨rfl, rfl⟩ := H
   go_enter Tryd.func46, Tryd.ntmps46
   go_wp2
   go_ret2
   exact ⟨by first | rfl | (simp; done) | (simp [*]; done), by repeat (first | exact Drawn0.refl _ | apply Drawn0.step)⟩
  ·rw [if_neg c3] at H
   have c3b0 : (a0 == 30) = false := beq_eq_false_iff_ne.mpr c3
   have c3b1 : (a0 != 30) = true := bne_iff_ne.mpr c3
   simp only [Option.some.injEq, Prod.mk.injEq] at H
   obtain ⟨rfl, rfl⟩ := H
   go_enter Tryd.func46, Tryd.ntmps46
   go_wp2
   go_ret2
   exact ⟨by first | rfl | (simp; done) | (simp [*]; done), by repeat (first | exact Drawn0.refl _ | apply Drawn0.step)⟩
end Go.Proofs.YtjacphcbiaacnaaDoor.PDigraphTells
end

section
namespace Go.Proofs.YtjacphcbiaacnaaDoor.PDigraphTells
open Go.RowKit Go.Proofs.YtjacphcbiaacnaaDoorW.PrintWords Go.Proofs.YtjacphcbiaacnaaDoorW.PrintLast Go.Proofs.YtjacphcbiaacnaaDoorW.PrintMore
attribute [local go_sem] max2_int min2_int max_two min_two max_three min_three max_four min_four
set_option linter.unusedVariables false
set_option linter.unusedSimpArgs false
def sched_isMove.f (a0 : Int) : Option (Bool) := if a0 = 40 then (some true) else (some (a0 == 41))
set_option maxHeartbeats 8000000 in
set_option maxRecDepth 100000 in
theorem sched_isMove.calls (a0 : Int) (r : Bool) (w : World) (h : sched_isMove.f a0 = some r) :
  Calls Tryd.prog 47 #[.int .i64 a0] w fun e w' => e = .returned (.bool r) ∧ Drawn0 w w' := by
 have H : (if a0 = 40 then (some true) else (some (a0 == 41))) = some r := h
 clear h
 by_cases c2 : a0 = 40
 ·rw [if_pos c2] at H
  have c2b0 : (a0 == 40) = true := beq_iff_eq.mpr c2
  have c2b1 : (a0 != 40) = false := bne_eq_false_iff_eq.mpr c2
  clear c2
  obtain rfl := Option.some.inj H
  go_enter Tryd.func47, Tryd.ntmps47
  go_wp2
  go_ret
  exact ⟨by first | rfl | (simp; done) | (simp [*]; done), by repeat (first | exact Drawn0.refl _ | apply Drawn0.step)⟩
 ·rw [if_neg c2] at H
  have c2b0 : (a0 == 40) = false := beq_eq_false_iff_ne.mpr c2
  have c2b1 : (a0 != 40) = true := bne_iff_ne.mpr c2
  obtain rfl := Option.some.inj H
  go_enter Tryd.func47, Tryd.ntmps47
  go_wp2
  go_ret
  exact ⟨by first | rfl | (simp; done) | (simp [*]; done), by repeat (first | exact Drawn0.refl _ | apply Drawn0.step)⟩
end Go.Proofs.YtjacphcbiaacnaaDoor.PDigraphTells
end

section
namespace Go.Proofs.YtjacphcbiaacnaaDoor.PDigraphTells
open Go.RowKit Go.Proofs.YtjacphcbiaacnaaDoorW.PrintWords Go.Proofs.YtjacphcbiaacnaaDoorW.PrintLast Go.Proofs.YtjacphcbiaacnaaDoorW.PrintMore
attribute [local go_sem] max2_int min2_int max_two min_two max_three min_three max_four min_four
set_option linter.unusedVariables false
set_option linter.unusedSimpArgs false
def sched_isOrdered.f (a0 : Int) : Option (Bool) := if a0 = 14 then (some true) else (if a0 = 15 then (some true) else (if a0 = 26 then (some true) else (if a0 = 28 then (some true) else (if a0 = 29 then (some true) else (if a0 = 30 then (some true) else (if a0 = 31 then (some true) else (some false)))))))
set_option maxHeartbeats 8000000 in
set_option maxRecDepth 100000 in
theorem sched_isOrdered.calls (a0 : Int) (r : Bool) (w : World) (h : sched_isOrdered.f a0 = some r) :
  Calls Tryd.prog 48 #[.int .i64 a0] w fun e w' => e = .returned (.bool r) ∧ Drawn0 w w' := by
 have H : (if a0 = 14 then (some true) else (if a0 = 15 then (some true) else (if a0 = 26 then (some true) else (if a0 = 28 then (some true) else (if a0 = 29 then (some true) else (if a0 = 30 then (some true) else (if a0 = 31 then (some true) else (some false)))))))) = some r := h
 clear h
 by_cases c2 : a0 = 14
 ·rw [if_pos c2] at H
  have c2b0 : (a0 == 14) = true := beq_iff_eq.mpr c2
  have c2b1 : (a0 != 14) = false := bne_eq_false_iff_eq.mpr c2
  clear c2
  obtain rfl := Option.some.inj H
  go_enter Tryd.func48, Tryd.ntmps48
  go_wp2
  go_ret
  exact ⟨by first | rfl | (simp; done) | (simp [*]; done), by repeat (first | exact Drawn0.refl _ | apply Drawn0.step)⟩
 ·rw [if_neg c2] at H
  have c2b0 : (a0 == 14) = false := beq_eq_false_iff_ne.mpr c2
  have c2b1 : (a0 != 14) = true := bne_iff_ne.mpr c2
  by_cases c3 : a0 = 15
  ·rw [if_pos c3] at H
   have c3b0 : (a0 == 15) = true := beq_iff_eq.mpr c3
   have c3b1 : (a0 != 15) = false := bne_eq_false_iff_eq.mpr c3
   clear c3
   obtain rfl := Option.some.inj H
   go_enter Tryd.func48, Tryd.ntmps48
   go_wp2
   go_ret
   exact ⟨by first | rfl | (simp; done) | (simp [*]; done), by repeat (first | exact Drawn0.refl _ | apply Drawn0.step)⟩
  ·rw [if_neg c3] at H
   have c3b0 : (a0 == 15) = false := beq_eq_false_iff_ne.mpr c3
   have c3b1 : (a0 != 15) = true := bne_iff_ne.mpr c3
   by_cases c4 : a0 = 26
   ·rw [if_pos c4] at H
    have c4b0 : (a0 == 26) = true := beq_iff_eq.mpr c4
    have c4b1 : (a0 != 26) = false := bne_eq_false_iff_eq.mpr c4
    clear c4
    obtain rfl := Option.some.inj H
    go_enter Tryd.func48, Tryd.ntmps48
    go_wp2
    go_ret
    exact ⟨by first | rfl | (simp; done) | (simp [*]; done), by repeat (first | exact Drawn0.refl _ | apply Drawn0.step)⟩
   ·rw [if_neg c4] at H
    have c4b0 : (a0 == 26) = false := beq_eq_false_iff_ne.mpr c4
    have c4b1 : (a0 != 26) = true := bne_iff_ne.mpr c4
    by_cases c5 : a0 = 28
    ·rw [if_pos c5] at H
     have c5b0 : (a0 == 28) = true := beq_iff_eq.mpr c5
     have c5b1 : (a0 != 28) = false := bne_eq_false_iff_eq.mpr c5
     clear c5
     obtain rfl := Option.some.inj H
     go_enter Tryd.func48, Tryd.ntmps48
     go_wp2
     go_ret
     exact ⟨by first | rfl | (simp; done) | (simp [*]; done), by repeat (first | exact Drawn0.refl _ | apply Drawn0.step)⟩
    ·rw [if_neg c5] at H
     have c5b0 : (a0 == 28) = false := beq_eq_false_iff_ne.mpr c5
     have c5b1 : (a0 != 28) = true := bne_iff_ne.mpr c5
     by_cases c6 : a0 = 29
     ·rw [if_pos c6] at H
      have c6b0 : (a0 == 29) = true := beq_iff_eq.mpr c6
      have c6b1 : (a0 != 29) = false := bne_eq_false_iff_eq.mpr c6
      clear c6
      obtain rfl := Option.some.inj H
      go_enter Tryd.func48, Tryd.ntmps48
      go_wp2
      go_ret
      exact ⟨by first | rfl | (simp; done) | (simp [*]; done), by repeat (first | exact Drawn0.refl _ | apply Drawn0.step)⟩
     ·rw [if_neg c6] at H
      have c6b0 : (a0 == 29) = false := beq_eq_false_iff_ne.mpr c6
      have c6b1 : (a0 != 29) = true := bne_iff_ne.mpr c6
      by_cases c7 : a0 = 30
      ·rw [if_pos c7] at H
       have c7b0 : (a0 == 30) = true := beq_iff_eq.mpr c7
       have c7b1 : (a0 != 30) = false := bne_eq_false_iff_eq.mpr c7
       clear c7
       obtain rfl := Option.some.inj H
       go_enter Tryd.func48, Tryd.ntmps48
       go_wp2
       go_ret
       exact ⟨by first | rfl | (simp; done) | (simp [*]; done), by repeat (first | exact Drawn0.refl _ | apply Drawn0.step)⟩
      ·rw [if_neg c7] at H
       have c7b0 : (a0 == 30) = false := beq_eq_false_iff_ne.mpr c7
       have c7b1 : (a0 != 30) = true := bne_iff_ne.mpr c7
       by_cases c8 : a0 = 31
       ·rw [if_pos c8] at H
        have c8b0 : (a0 == 31) = true := beq_iff_eq.mpr c8
        have c8b1 : (a0 != 31) = false := bne_eq_false_iff_eq.mpr c8
        clear c8
        obtain rfl := Option.some.inj H
        go_enter Tryd.func48, Tryd.ntmps48
        go_wp2
        go_ret
        exact ⟨by first | rfl | (simp; done) | (simp [*]; done), by repeat (first | exact Drawn0.refl _ | apply Drawn0.step)⟩
       ·rw [if_neg c8] at H
        have c8b0 : (a0 == 31) = false := beq_eq_false_iff_ne.mpr c8
        have c8b1 : (a0 != 31) = true := bne_iff_ne.mpr c8
        obtain rfl := Option.some.inj H
        go_enter Tryd.func48, Tryd.ntmps48
        go_wp2
        go_ret
        exact ⟨by first | rfl | (simp; done) | (simp [*]; done), by repeat (first | exact Drawn0.refl _ | apply Drawn0.step)⟩
end Go.Proofs.YtjacphcbiaacnaaDoor.PDigraphTells
end

section
namespace Go.Proofs.YtjacphcbiaacnaaDoor.PDigraphTells
open Mem Go.RowKit Go.Proofs.YtjacphcbiaacnaaDoorW.PrintWords Go.Proofs.YtjacphcbiaacnaaDoorW.PrintLast Go.Proofs.YtjacphcbiaacnaaDoorW.PrintMore
attribute [local go_sem] max2_int min2_int max_two min_two max_three min_three max_four min_four
set_option linter.unusedVariables false
set_option linter.unusedSimpArgs false
mutual
def sched_depends.j0 : Nat → Bool → Int → Int → Int → List Int → Int → Int → Int → Bool → Int → Int → Int → List Int → Int → Int → Int → Bool → Option (Bool)
 | 0, _, _, _, _, _, _, _, _, _, _, _, _, _, _, _, _, _ => none
 | k + 1, x30, x115000, x115001, x115002, x115003, x115004, x115005, x115006, x115007, x116000, x116001, x116002, x116003, x116004, x116005, x116006, x116007 => if x30 = true then (some true) else ((sched_isMemory.f x115000).bind fun bt118 => ((sched_isMemory.f x116000).bind fun bt120 => (if bt118.1 = true then (if bt120.1 = true then (if bt118.2 = true then (sched_depends.j1 k true x115000 x115001 x115002 x115003 x115004 x115005 x115006 x115007 x116000 x116001 x116002 x116003 x116004 x116005 x116006 x116007) else (sched_depends.j1 k bt120.2 x115000 x115001 x115002 x115003 x115004 x115005 x115006 x115007 x116000 x116001 x116002 x116003 x116004 x116005 x116006 x116007)) else (sched_depends.j1 k false x115000 x115001 x115002 x115003 x115004 x115005 x115006 x115007 x116000 x116001 x116002 x116003 x116004 x116005 x116006 x116007)) else (sched_depends.j1 k false x115000 x115001 x115002 x115003 x115004 x115005 x115006 x115007 x116000 x116001 x116002 x116003 x116004 x116005 x116006 x116007))))
def sched_depends.j1 : Nat → Bool → Int → Int → Int → List Int → Int → Int → Int → Bool → Int → Int → Int → List Int → Int → Int → Int → Bool → Option (Bool)
 | 0, _, _, _, _, _, _, _, _, _, _, _, _, _, _, _, _, _ => none
 | k + 1, x43, x115000, x115001, x115002, x115003, x115004, x115005, x115006, x115007, x116000, x116001, x116002, x116003, x116004, x116005, x116006, x116007 => if x43 = true then (some true) else ((sched_isMove.f x115000).bind fun t122 => (if t122 = true then ((sched_isMove.f x116000).bind fun t123 => (if t123 = true then (if x115004 = x116004 then (if x115000 = 40 then (sched_depends.j2 k true x115000 x115001 x115002 x115003 x115004 x115005 x115006 x115007 x116000 x116001 x116002 x116003 x116004 x116005 x116006 x116007) else (sched_depends.j2 k (x116000 == 40) x115000 x115001 x115002 x115003 x115004 x115005 x115006 x115007 x116000 x116001 x116002 x116003 x116004 x116005 x116006 x116007)) else (sched_depends.j2 k false x115000 x115001 x115002 x115003 x115004 x115005 x115006 x115007 x116000 x116001 x116002 x116003 x116004 x116005 x116006 x116007)) else (sched_depends.j2 k false x115000 x115001 x115002 x115003 x115004 x115005 x115006 x115007 x116000 x116001 x116002 x116003 x116004 x116005 x116006 x116007))) else (sched_depends.j2 k false x115000 x115001 x115002 x115003 x115004 x115005 x115006 x115007 x116000 x116001 x116002 x116003 x116004 x116005 x116006 x116007)))
def sched_depends.j2 : Nat → Bool → Int → Int → Int → List Int → Int → Int → Int → Bool → Int → Int → Int → List Int → Int → Int → Int → Bool → Option (Bool)
 | 0, _, _, _, _, _, _, _, _, _, _, _, _, _, _, _, _, _ => none
 | k + 1, x54, x115000, x115001, x115002, x115003, x115004, x115005, x115006, x115007, x116000, x116001, x116002, x116003, x116004, x116005, x116006, x116007 => if x54 = true then (some true) else ((sched_isOrdered.f x115000).bind fun t124 => (if t124 = true then ((sched_isOrdered.f x116000).bind fun t125 => (some t125)) else (some false)))
end
def sched_depends.f (k : Nat) (a0_0 : Int) (a0_1 : Int) (a0_2 : Int) (l0_3 : List Int) (a0_4 : Int) (a0_5 : Int) (a0_6 : Int) (a0_7 : Bool) (a1_0 : Int) (a1_1 : Int) (a1_2 : Int) (l1_3 : List Int) (a1_4 : Int) (a1_5 : Int) (a1_6 : Int) (a1_7 : Bool) : Option (Bool) := (sched_uses.f k a0_0 a0_1 a0_2 l0_3 a0_4 a0_5 a0_6 a0_7 a1_0 a1_1 a1_2 l1_3 a1_4 a1_5 a1_6 a1_7).bind fun t116 => (if t116 = true then (sched_depends.j0 k true a0_0 a0_1 a0_2 l0_3 a0_4 a0_5 a0_6 a0_7 a1_0 a1_1 a1_2 l1_3 a1_4 a1_5 a1_6 a1_7) else (if a0_2 ≥ 0 then (if a0_2 = a1_2 then (sched_depends.j0 k true a0_0 a0_1 a0_2 l0_3 a0_4 a0_5 a0_6 a0_7 a1_0 a1_1 a1_2 l1_3 a1_4 a1_5 a1_6 a1_7) else ((slices_Contains_int_int.f k l1_3 a0_2).bind fun t117 => (sched_depends.j0 k t117 a0_0 a0_1 a0_2 l0_3 a0_4 a0_5 a0_6 a0_7 a1_0 a1_1 a1_2 l1_3 a1_4 a1_5 a1_6 a1_7))) else (sched_depends.j0 k false a0_0 a0_1 a0_2 l0_3 a0_4 a0_5 a0_6 a0_7 a1_0 a1_1 a1_2 l1_3 a1_4 a1_5 a1_6 a1_7)))
set_option maxHeartbeats 8000000 in
set_option maxRecDepth 100000 in
theorem sched_depends.calls (k : Nat) (a0_0 : Int) (a0_1 : Int) (a0_2 : Int) (A0_3 : Option Addr) (c0_3 : Nat) (l0_3 : List Int) (a0_4 : Int) (a0_5 : Int) (a0_6 : Int) (a0_7 : Bool) (a1_0 : Int) (a1_1 : Int) (a1_2 : Int) (A1_3 : Option Addr) (c1_3 : Nat) (l1_3 : List Int) (a1_4 : Int) (a1_5 : Int) (a1_6 : Int) (a1_7 : Bool) (r : Bool) (w : World) (hr0_3 : Kd.C (Kd.int .i64) w A0_3 l0_3.length l0_3) (hc0_3 : l0_3.length ≤ c0_3) (hr1_3 : Kd.C (Kd.int .i64) w A1_3 l1_3.length l1_3) (hc1_3 : l1_3.length ≤ c1_3) (h : sched_depends.f k a0_0 a0_1 a0_2 l0_3 a0_4 a0_5 a0_6 a0_7 a1_0 a1_1 a1_2 l1_3 a1_4 a1_5 a1_6 a1_7 = some r) :
  Calls Tryd.prog 34 #[.agg #[.int .i64 a0_0, .int .i64 a0_1, .int .i64 a0_2, .slice A0_3 l0_3.length c0_3, .int .i64 a0_4, .int .i64 a0_5, .int .i64 a0_6, .bool a0_7], .agg #[.int .i64 a1_0, .int .i64 a1_1, .int .i64 a1_2, .slice A1_3 l1_3.length c1_3, .int .i64 a1_4, .int .i64 a1_5, .int .i64 a1_6, .bool a1_7]] w fun e w' => e = .returned (.bool r) ∧ Below w.heap.size w w' := by
 have hX := Aside0.mk (And.intro hr0_3 (And.intro hc0_3 (And.intro hr1_3 hc1_3)))
 clear hr0_3 hc0_3 hr1_3 hc1_3
 obtain ⟨u, hu, h⟩ := Option.bind_eq_some_iff.1 h
 replace h := Aside0.mk h
 replace hu := Aside0.mk hu
 go_enter Tryd.func34, Tryd.ntmps34
 go_upto_region 1 with (fail)
 obtain ⟨w2, hw2⟩ : ∃ w2, (w.alloc (.cells #[.int .i64 a0_0, .int .i64 a0_1, .int .i64 a0_2, .slice A0_3 l0_3.length c0_3, .int .i64 a0_4, .int .i64 a0_5, .int .i64 a0_6, .bool a0_7] 48 (0, 0))).alloc (.cells #[.int .i64 a1_0, .int .i64 a1_1, .int .i64 a1_2, .slice A1_3 l1_3.length c1_3, .int .i64 a1_4, .int .i64 a1_5, .int .i64 a1_6, .bool a1_7] 48 (0, 0)) = w2 := ⟨_, rfl⟩
 obtain ⟨b0, hb0⟩ : ∃ b0, w.heap.size = b0 := ⟨_, rfl⟩
 obtain ⟨B2, h7, h8⟩ := blk2 hw2 hb0
 rw [hw2, hb0]
 clear hw2 hb0
 have hB2 := Aside0.mk B2
 have hC0 : ∀ W1 : World, Below w2.heap.size w2 W1 → W1.cell? ⟨b0, 0, none⟩ = some (.int .i64 a0_0) ∧ W1.cell? ⟨b0, 1, none⟩ = some (.int .i64 a0_1) ∧ W1.cell? ⟨b0, 2, none⟩ = some (.int .i64 a0_2) ∧ W1.cell? ⟨b0, 3, none⟩ = some (.slice A0_3 l0_3.length c0_3) ∧ W1.cell? ⟨b0, 4, none⟩ = some (.int .i64 a0_4) ∧ W1.cell? ⟨b0, 5, none⟩ = some (.int .i64 a0_5) ∧ W1.cell? ⟨b0, 6, none⟩ = some (.int .i64 a0_6) ∧ W1.cell? ⟨b0, 7, none⟩ = some (.bool a0_7) ∧ W1.cell? ⟨b0 + 1, 0, none⟩ = some (.int .i64 a1_0) ∧ W1.cell? ⟨b0 + 1, 1, none⟩ = some (.int .i64 a1_1) ∧ W1.cell? ⟨b0 + 1, 2, none⟩ = some (.int .i64 a1_2) ∧ W1.cell? ⟨b0 + 1, 3, none⟩ = some (.slice A1_3 l1_3.length c1_3) ∧ W1.cell? ⟨b0 + 1, 4, none⟩ = some (.int .i64 a1_4) ∧ W1.cell? ⟨b0 + 1, 5, none⟩ = some (.int .i64 a1_5) ∧ W1.cell? ⟨b0 + 1, 6, none⟩ = some (.int .i64 a1_6) ∧ W1.cell? ⟨b0 + 1, 7, none⟩ = some (.bool a1_7) := fun W1 e1 => by
  have z1 := (e1.block _ (blk_lt' h7)).trans h7
  have z2 := (e1.block _ (blk_lt' h8)).trans h8
  exact ⟨cell_at z1 rfl, cell_at z1 rfl, cell_at z1 rfl, cell_at z1 rfl, cell_at z1 rfl, cell_at z1 rfl, cell_at z1 rfl, cell_at z1 rfl, cell_at z2 rfl, cell_at z2 rfl, cell_at z2 rfl, cell_at z2 rfl, cell_at z2 rfl, cell_at z2 rfl, cell_at z2 rfl, cell_at z2 rfl⟩
 have hCl := Aside0.mk hC0
 replace hX := Aside0.mk (And.intro (Kd.C_below hX.out.1 B2) (And.intro hX.out.2.1 (And.intro (Kd.C_below hX.out.2.2.1 B2) hX.out.2.2.2)))
 have hBz := Aside0.mk (Below.refl w2.heap.size w2)
 obtain ⟨k0, k1, k2, k3, k4, k5, k6, k7, l0, l1, l2, l3, l4, l5, l6, l7⟩ := hCl.out w2 hBz.out
 clear B2 h7 h8 hC0
 go_cut [30] (fun v wc => ∃ c : Bool, v = .bool c ∧ Aside0 (sched_depends.j0 k c a0_0 a0_1 a0_2 l0_3 a0_4 a0_5 a0_6 a0_7 a1_0 a1_1 a1_2 l1_3 a1_4 a1_5 a1_6 a1_7 = some r) ∧ Aside0 (Below w2.heap.size w2 wc))
 case first =>
  go_wp2_with fail
  refine (sched_uses.calls k a0_0 a0_1 a0_2 A0_3 c0_3 l0_3 a0_4 a0_5 a0_6 a0_7 a1_0 a1_1 a1_2 A1_3 c1_3 l1_3 a1_4 a1_5 a1_6 a1_7 u w2 (Kd.C_below hX.out.1 hBz.out) hX.out.2.1 (Kd.C_below hX.out.2.2.1 hBz.out) hX.out.2.2.2 hu.out).mono ?_
  rintro e w3 ⟨rfl, Bx⟩
  have B3 : Aside0 (Below w2.heap.size w2 w3) := ⟨bl2 hBz.out Bx⟩
  clear Bx k0 k1 k2 k3 k4 k5 k6 k7 l0 l1 l2 l3 l4 l5 l6 l7
  obtain ⟨k0, k1, k2, k3, k4, k5, k6, k7, l0, l1, l2, l3, l4, l5, l6, l7⟩ := hCl.out _ B3.out
  clear hu
  cases u with
  | true =>
   replace h : sched_depends.j0 k true a0_0 a0_1 a0_2 l0_3 a0_4 a0_5 a0_6 a0_7 a1_0 a1_1 a1_2 l1_3 a1_4 a1_5 a1_6 a1_7 = some r := by have := h.out; simpa using this
   clear k0 k1 k2 k3 k4 k5 k6 k7 l0 l1 l2 l3 l4 l5 l6 l7
   go_wp2
   go_meet
   exact ⟨true, rfl, ⟨h⟩, B3⟩
  | false =>
   replace h := h.out
   rw [if_neg (by simp)] at h
   by_cases q1 : a0_2 ≥ 0
   ·rw [if_pos q1] at h
    have q1b : decide (0 ≤ a0_2) = true := decide_eq_true q1
    by_cases q2 : a0_2 = a1_2
    ·rw [if_pos q2] at h
     subst q2
     replace h := Aside0.mk h
     clear q1
     go_wp2
     go_meet
     exact ⟨true, rfl, h, B3⟩
    ·rw [if_neg q2] at h
     have q2b : (a0_2 == a1_2) = false := beq_eq_false_iff_ne.2 q2
     obtain ⟨v, hv, h⟩ := Option.bind_eq_some_iff.1 h
     replace h := Aside0.mk h
     replace hv := Aside0.mk hv
     clear q1 q2
     go_wp2_with fail
     refine (slices_Contains_int_int.calls k A1_3 c1_3 l1_3 a0_2 v w3 (Kd.C_below hX.out.2.2.1 B3.out) hX.out.2.2.2 hv.out).mono ?_
     rintro e w4 ⟨rfl, hd⟩
     obtain ⟨nd, rfl⟩ := hd
     have Bx : Below w3.heap.size w3 (w3.drewN nd) := pw_below_drewN (Below.refl _ _) _
     have B4 : Aside0 (Below w2.heap.size w2 (w3.drewN nd)) := ⟨bl2 B3.out Bx⟩
     clear Bx k0 k1 k2 k3 k4 k5 k6 k7 l0 l1 l2 l3 l4 l5 l6 l7
     obtain ⟨k0, k1, k2, k3, k4, k5, k6, k7, l0, l1, l2, l3, l4, l5, l6, l7⟩ := hCl.out _ B4.out
     clear k0 k1 k2 k3 k4 k5 k6 k7 l0 l1 l2 l3 l4 l5 l6 l7 q1b q2b
     go_wp2
     go_meet
     exact ⟨v, rfl, ⟨h.out⟩, B4⟩
   ·rw [if_neg q1] at h
    have q1b : decide (0 ≤ a0_2) = false := decide_eq_false q1
    replace h := Aside0.mk h
    clear q1
    go_wp2
    go_meet
    exact ⟨false, rfl, h, B3⟩
 case rest =>
  obtain ⟨c, rfl, h, Bc⟩ := hcut
  clear k0 k1 k2 k3 k4 k5 k6 k7 l0 l1 l2 l3 l4 l5 l6 l7
  obtain ⟨k0, k1, k2, k3, k4, k5, k6, k7, l0, l1, l2, l3, l4, l5, l6, l7⟩ := hCl.out _ Bc.out
  obtain ⟨k, rfl⟩ : ∃ q, k = q + 1 := by
   cases k with
   | zero => exact absurd h.out (by simp [sched_depends.j0])
   | succ k => exact ⟨k, rfl⟩
  have H := h.out
  clear h
  rw [sched_depends.j0] at H
  cases c with
  | true =>
   rw [if_pos rfl] at H
   have H9 : true = r := Option.some.inj H
   subst H9
   clear H k0 k1 k2 k3 k4 k5 k6 k7 l0 l1 l2 l3 l4 l5 l6 l7
   go_wp2
   go_ret
   exact ⟨rfl, hB2.out.trans (Bc.out.mono hB2.out.size)⟩
  | false =>
   rw [if_neg (by simp)] at H
   obtain ⟨⟨m1, m2⟩, hu, H1⟩ := Option.bind_eq_some_iff.1 H
   clear H
   obtain ⟨⟨n1, n2⟩, hv, H⟩ := Option.bind_eq_some_iff.1 H1
   clear H1
   replace H := Aside0.mk H
   replace hu := Aside0.mk hu
   replace hv := Aside0.mk hv
   go_wp2_with fail
   refine (sched_isMemory.calls a0_0 m1 m2 wc hu.out).mono ?_
   rintro e w9 ⟨rfl, hd⟩
   obtain ⟨nd, rfl⟩ := hd
   have Bx : Below wc.heap.size wc (wc.drewN nd) := pw_below_drewN (Below.refl _ _) _
   generalize wc.drewN nd = w5 at Bx ⊢
   have B5 := Aside0.mk (bl2 Bc.out Bx)
   clear Bx k0 k1 k2 k3 k4 k5 k6 k7 l0 l1 l2 l3 l4 l5 l6 l7
   obtain ⟨k0, k1, k2, k3, k4, k5, k6, k7, l0, l1, l2, l3, l4, l5, l6, l7⟩ := hCl.out _ B5.out
   go_wp2_with fail
   refine (sched_isMemory.calls a1_0 n1 n2 w5 hv.out).mono ?_
   rintro e w9 ⟨rfl, hd⟩
   obtain ⟨nd, rfl⟩ := hd
   have Bx : Below w5.heap.size w5 (w5.drewN nd) := pw_below_drewN (Below.refl _ _) _
   generalize w5.drewN nd = w6 at Bx ⊢
   have B6 := Aside0.mk (bl2 B5.out Bx)
   clear Bx k0 k1 k2 k3 k4 k5 k6 k7 l0 l1 l2 l3 l4 l5 l6 l7
   obtain ⟨k0, k1, k2, k3, k4, k5, k6, k7, l0, l1, l2, l3, l4, l5, l6, l7⟩ := hCl.out _ B6.out
   clear hu hv
   replace H := H.out
   go_upto_region 5 with (fail)
   go_cut [43] (fun v wc => ∃ c : Bool, v = .bool c ∧ Aside0 (sched_depends.j1 k c a0_0 a0_1 a0_2 l0_3 a0_4 a0_5 a0_6 a0_7 a1_0 a1_1 a1_2 l1_3 a1_4 a1_5 a1_6 a1_7 = some r) ∧ Aside0 (Below w2.heap.size w2 wc))
   case first =>
    cases m1 with
    | false =>
     rw [if_neg (by simp)] at H
     replace H := Aside0.mk H
     go_wp2
     go_meet
     exact ⟨false, rfl, H, B6⟩
    | true =>
     rw [if_pos rfl] at H
     cases n1 with
     | false =>
      rw [if_neg (by simp)] at H
      replace H := Aside0.mk H
      go_wp2
      go_meet
      exact ⟨false, rfl, H, B6⟩
     | true =>
      rw [if_pos rfl] at H
      cases m2 with
      | false =>
       rw [if_neg (by simp)] at H
       replace H := Aside0.mk H
       go_wp2
       go_meet
       exact ⟨n2, rfl, H, B6⟩
      | true =>
       rw [if_pos rfl] at H
       replace H := Aside0.mk H
       go_wp2
       go_meet
       exact ⟨true, rfl, H, B6⟩
   case rest =>
    clear H
    obtain ⟨c, rfl, h, Bd⟩ := hcut
    clear k0 k1 k2 k3 k4 k5 k6 k7 l0 l1 l2 l3 l4 l5 l6 l7
    obtain ⟨k0, k1, k2, k3, k4, k5, k6, k7, l0, l1, l2, l3, l4, l5, l6, l7⟩ := hCl.out _ Bd.out
    obtain ⟨k, rfl⟩ : ∃ q, k = q + 1 := by
     cases k with
     | zero => exact absurd h.out (by simp [sched_depends.j1])
     | succ k => exact ⟨k, rfl⟩
    have H := h.out
    clear h
    rw [sched_depends.j1] at H
    cases c with
    | true =>
     rw [if_pos rfl] at H
     have H9 : true = r := Option.some.inj H
     subst H9
     clear H k0 k1 k2 k3 k4 k5 k6 k7 l0 l1 l2 l3 l4 l5 l6 l7
     go_wp2
     go_ret
     exact ⟨rfl, hB2.out.trans (Bd.out.mono hB2.out.size)⟩
    | false =>
     rw [if_neg (by simp)] at H
     go_upto_region 7 with (fail)
     go_cut [54] (fun v wc => ∃ c : Bool, v = .bool c ∧ Aside0 (sched_depends.j2 k c a0_0 a0_1 a0_2 l0_3 a0_4 a0_5 a0_6 a0_7 a1_0 a1_1 a1_2 l1_3 a1_4 a1_5 a1_6 a1_7 = some r) ∧ Aside0 (Below w2.heap.size w2 wc))
     case first =>
      obtain ⟨u, hu, H⟩ := Option.bind_eq_some_iff.1 H
      replace H := Aside0.mk H
      replace hu := Aside0.mk hu
      go_wp2_with fail
      refine (sched_isMove.calls a0_0 u wc hu.out).mono ?_
      rintro e w9 ⟨rfl, hd⟩
      obtain ⟨nd, rfl⟩ := hd
      have Bx : Below wc.heap.size wc (wc.drewN nd) := pw_below_drewN (Below.refl _ _) _
      generalize wc.drewN nd = w5 at Bx ⊢
      have B5 := Aside0.mk (bl2 Bd.out Bx)
      clear Bx k0 k1 k2 k3 k4 k5 k6 k7 l0 l1 l2 l3 l4 l5 l6 l7
      obtain ⟨k0, k1, k2, k3, k4, k5, k6, k7, l0, l1, l2, l3, l4, l5, l6, l7⟩ := hCl.out _ B5.out
      clear hu
      replace H := H.out
      cases u with
      | false =>
       rw [if_neg (by simp)] at H
       replace H := Aside0.mk H
       clear k0 k1 k2 k3 k4 k5 k6 k7 l0 l1 l2 l3 l4 l5 l6 l7
       go_wp2
       go_meet
       exact ⟨false, rfl, H, B5⟩
      | true =>
       rw [if_pos rfl] at H
       obtain ⟨v, hv, H⟩ := Option.bind_eq_some_iff.1 H
       replace H := Aside0.mk H
       replace hv := Aside0.mk hv
       go_wp2_with fail
       refine (sched_isMove.calls a1_0 v w5 hv.out).mono ?_
       rintro e w9 ⟨rfl, hd⟩
       obtain ⟨nd, rfl⟩ := hd
       have Bx : Below w5.heap.size w5 (w5.drewN nd) := pw_below_drewN (Below.refl _ _) _
       generalize w5.drewN nd = w6 at Bx ⊢
       have B6 := Aside0.mk (bl2 B5.out Bx)
       clear Bx k0 k1 k2 k3 k4 k5 k6 k7 l0 l1 l2 l3 l4 l5 l6 l7
       obtain ⟨k0, k1, k2, k3, k4, k5, k6, k7, l0, l1, l2, l3, l4, l5, l6, l7⟩ := hCl.out _ B6.out
       clear hv
       replace H := H.out
       cases v with
       | false =>
        rw [if_neg (by simp)] at H
        replace H := Aside0.mk H
        clear k0 k1 k2 k3 k4 k5 k6 k7 l0 l1 l2 l3 l4 l5 l6 l7
        go_wp2
        go_meet
        exact ⟨false, rfl, H, B6⟩
       | true =>
        rw [if_pos rfl] at H
        by_cases q0 : a0_4 = a1_4
        ·rw [if_pos q0] at H
         have q0b : (a0_4 == a1_4) = true := beq_iff_eq.2 q0
         by_cases q1 : a0_0 = 40
         ·rw [if_pos q1] at H
          have q1b : (a0_0 == 40) = true := beq_iff_eq.2 q1
          clear q0 q1
          replace H := Aside0.mk H
          go_wp2
          go_meet
          exact ⟨true, rfl, H, B6⟩
         ·rw [if_neg q1] at H
          have q1b : (a0_0 == 40) = false := beq_eq_false_iff_ne.2 q1
          by_cases q2 : a1_0 = 40
          ·have q2b : (a1_0 == 40) = true := beq_iff_eq.2 q2
           rw [q2b] at H
           clear q0 q1 q2
           replace H := Aside0.mk H
           go_wp2
           go_meet
           exact ⟨true, rfl, H, B6⟩
          ·have q2b : (a1_0 == 40) = false := beq_eq_false_iff_ne.2 q2
           rw [q2b] at H
           clear q0 q1 q2
           replace H := Aside0.mk H
           go_wp2
           go_meet
           exact ⟨false, rfl, H, B6⟩
        ·rw [if_neg q0] at H
         have q0b : (a0_4 == a1_4) = false := beq_eq_false_iff_ne.2 q0
         clear q0
         replace H := Aside0.mk H
         go_wp2
         go_meet
         exact ⟨false, rfl, H, B6⟩
     case rest =>
      clear H
      obtain ⟨c, rfl, h, Be⟩ := hcut
      clear k0 k1 k2 k3 k4 k5 k6 k7 l0 l1 l2 l3 l4 l5 l6 l7
      obtain ⟨k0, k1, k2, k3, k4, k5, k6, k7, l0, l1, l2, l3, l4, l5, l6, l7⟩ := hCl.out _ Be.out
      obtain ⟨k, rfl⟩ : ∃ q, k = q + 1 := by
       cases k with
       | zero => exact absurd h.out (by simp [sched_depends.j2])
       | succ k => exact ⟨k, rfl⟩
      have H := h.out
      clear h
      rw [sched_depends.j2] at H
      cases c with
      | true =>
       rw [if_pos rfl] at H
       have H9 : true = r := Option.some.inj H
       subst H9
       clear H k0 k1 k2 k3 k4 k5 k6 k7 l0 l1 l2 l3 l4 l5 l6 l7
       go_wp2
       go_ret
       exact ⟨rfl, hB2.out.trans (Be.out.mono hB2.out.size)⟩
      | false =>
       rw [if_neg (by simp)] at H
       obtain ⟨u, hu, H⟩ := Option.bind_eq_some_iff.1 H
       replace H := Aside0.mk H
       replace hu := Aside0.mk hu
       go_wp2_with fail
       refine (sched_isOrdered.calls a0_0 u wc hu.out).mono ?_
       rintro e w9 ⟨rfl, hd⟩
       obtain ⟨nd, rfl⟩ := hd
       have Bx : Below wc.heap.size wc (wc.drewN nd) := pw_below_drewN (Below.refl _ _) _
       generalize wc.drewN nd = w5 at Bx ⊢
       have B5 := Aside0.mk (bl2 Be.out Bx)
       clear Bx k0 k1 k2 k3 k4 k5 k6 k7 l0 l1 l2 l3 l4 l5 l6 l7
       obtain ⟨k0, k1, k2, k3, k4, k5, k6, k7, l0, l1, l2, l3, l4, l5, l6, l7⟩ := hCl.out _ B5.out
       clear hu
       replace H := H.out
       cases u with
       | false =>
        rw [if_neg (by simp)] at H
        have H9 : false = r := Option.some.inj H
        subst H9
        clear H k0 k1 k2 k3 k4 k5 k6 k7 l0 l1 l2 l3 l4 l5 l6 l7
        go_wp2
        go_ret
        exact ⟨rfl, hB2.out.trans (B5.out.mono hB2.out.size)⟩
       | true =>
        rw [if_pos rfl] at H
        obtain ⟨v, hv, H⟩ := Option.bind_eq_some_iff.1 H
        replace H := Aside0.mk H
        replace hv := Aside0.mk hv
        go_wp2_with fail
        refine (sched_isOrdered.calls a1_0 v w5 hv.out).mono ?_
        rintro e w9 ⟨rfl, hd⟩
        obtain ⟨nd, rfl⟩ := hd
        have Bx : Below w5.heap.size w5 (w5.drewN nd) := pw_below_drewN (Below.refl _ _) _
        generalize w5.drewN nd = w6 at Bx ⊢
        have B6 := Aside0.mk (bl2 B5.out Bx)
        clear Bx k0 k1 k2 k3 k4 k5 k6 k7 l0 l1 l2 l3 l4 l5 l6 l7
        obtain ⟨k0, k1, k2, k3, k4, k5, k6, k7, l0, l1, l2, l3, l4, l5, l6, l7⟩ := hCl.out _ B6.out
        clear hv
        replace H := H.out
        have H9 : v = r := Option.some.inj H
        subst H9
        clear H k0 k1 k2 k3 k4 k5 k6 k7 l0 l1 l2 l3 l4 l5 l6 l7
        go_wp2
        go_ret
        exact ⟨rfl, hB2.out.trans (B6.out.mono hB2.out.size)⟩
end Go.Proofs.YtjacphcbiaacnaaDoor.PDigraphTells
end

