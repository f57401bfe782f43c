/- BitsetOps: the walk. -/
import Derived.Test.YtibjpamnkhnagaaDoorSetP
set_option linter.unusedVariables false
set_option linter.unusedSimpArgs false
namespace Go.Proofs.YtibjpamnkhnagaaDoor
open Go.RowKit Go.Proofs.YtibjpamnkhnagaaDoorW.PrintWords Mem Bit

theorem isNone_ne {s t : Option Addr} {o : Option (List Bool)} (h1 : s.isSome = o.isSome) (h2 : t.isSome = o.isSome) : (s.isNone == t.isNone) = true := by
  cases s <;> cases t <;> cases o <;> simp_all

set_option maxRecDepth 100000 in
theorem ops_early (n : Int) (A : Option Addr) (c la : Nat) (w : World) (hD : DB w) (he : 2000 < n ∨ (100 : Int) < la) :
    Calls Tryd.prog 4 #[.int .i64 n, .slice A la c] w fun e w' => e = .returned (.bool true) ∧ Below w.heap.size w w' := by
  have hD' := Aside0.mk hD
  clear hD
  by_cases h1 : 2000 < n
  · clear he
    go_enter Tryd.func4, Tryd.ntmps4
    go_wp2_with (first
      | (go_at_call 15; refine (new_st n w).mono ?_; rintro e w1 ⟨s, rfl, P1, K1, i1⟩; have H1 := Aside0.mk (And.intro K1 i1); clear P1 K1 i1)
      | (go_at_call 16; refine (rnew_any n w1).mono ?_; rintro e w2 ⟨t, rfl, P2, K2, i2⟩; have hne := isNone_ne H1.out.2 i2; have hB := H1.out.1.none_below.trans (K2.none_below.mono H1.out.1.none_below.size); have H2 := Aside0.mk hB; clear P2 K2 i2 hB)
      | (go_at_call 7; refine (awake_any _ (hD'.out.below H2.out)).mono ?_; rintro e w3 ⟨rfl, B3⟩; have H3 := Aside0.mk (H2.out.trans (B3.mono H2.out.size)); clear B3))
    go_ret
    exact ⟨rfl, H3.out⟩
  · have g1 : n ≤ 2000 := by omega
    have h2 : (100 : Int) < la := by omega
    clear he
    go_enter Tryd.func4, Tryd.ntmps4
    go_wp2_with (first
      | (go_at_call 15; refine (new_st n w).mono ?_; rintro e w1 ⟨s, rfl, P1, K1, i1⟩; have H1 := Aside0.mk (And.intro K1 i1); clear P1 K1 i1)
      | (go_at_call 16; refine (rnew_any n w1).mono ?_; rintro e w2 ⟨t, rfl, P2, K2, i2⟩; have hne := isNone_ne H1.out.2 i2; have hB := H1.out.1.none_below.trans (K2.none_below.mono H1.out.1.none_below.size); have H2 := Aside0.mk hB; clear P2 K2 i2 hB)
      | (go_at_call 7; refine (awake_any _ (hD'.out.below H2.out)).mono ?_; rintro e w3 ⟨rfl, B3⟩; have H3 := Aside0.mk (H2.out.trans (B3.mono H2.out.size)); clear B3))
    go_ret
    exact ⟨rfl, H3.out⟩

set_option maxRecDepth 100000 in
set_option maxHeartbeats 4000000 in
theorem ops_main (n : Int) (A : Option Addr) (c : Nat) (l : List S38) (w : World) (hn : n ≤ 2000) (hl : l.length ≤ 100) (hC : Kd.C k38 w A l.length l)
    (hD : DB w) :
    Calls Tryd.prog 4 #[.int .i64 n, .slice A l.length c] w fun e w' => e = .returned (.bool true) ∧ Below w.heap.size w w' := by
  have hC' := Aside0.mk hC
  have hD' := Aside0.mk hD
  clear hC hD
  have g1 : decide ((2000 : Int) < n) = false := by simp; omega
  have g2 : decide ((100 : Int) < (l.length : Int)) = false := by simp; omega
  go_enter Tryd.func4, Tryd.ntmps4
  go_wp2_with fail
  refine (new_st n w).mono ?_
  rintro e w1 ⟨s0, rfl, P1, K1, i1⟩
  have H1 := Aside0.mk (And.intro P1 (And.intro K1 i1))
  clear P1 K1 i1
  go_wp2_with fail
  refine (rnew_any n w1).mono ?_
  rintro e w2 ⟨t0, rfl, P2, K2, i2⟩
  have hne := isNone_ne H1.out.2.2 i2
  have hI : Iv w w2 s0 t0 := Iv.start H1.out.1 H1.out.2.1 P2 K2
  have H2 := Aside0.mk hI
  clear P2 K2 i2 hI H1
  go_wp2_with fail
  go_loopw [5, 6, 32] (fun s t v wr => ∃ (k : Nat) (sa ta : Option Addr), k ≤ l.length ∧ v = .int .i64 k ∧ s = .pointer sa ∧ t = .pointer ta ∧ Aside0 (Iv w wr sa ta)) (fun _ _ v wr => l.length - (intOf v).toNat)
  case atStart => exact ⟨0, s0, t0, Nat.zero_le _, rfl, rfl, rfl, H2⟩
  case round =>
    obtain ⟨k, s, t, hk, rfl, rfl, rfl, hI⟩ := hrel
    clear H2 hne
    by_cases hlt : k < l.length
    · obtain ⟨ad, A2, c2, hA, q0, q1, q2, q3, hl2, hC2⟩ := at_T38 hC'.out k (by omega) (by omega)
      obtain ⟨x, hx⟩ : ∃ x, x = rd_T38 l k := ⟨_, rfl⟩
      rw [← hx] at q0 q1 q2 q3 hl2 hC2
      clear hx
      obtain ⟨f0, f1, f2, es⟩ := x
      subst hA
      have hbel := hI.out.below
      have p0 : wr.cell? (ad.add (k * 4)) = some (.int .i64 f0) := (hbel.cell (World.block_lt_of_cell? w _ q0)).trans (by simpa using q0)
      have p1 : wr.cell? ⟨(ad.add (k * 4)).block, (ad.add (k * 4)).off + 1, none⟩ = some (.int .i64 f1) := (hbel.cell (World.block_lt_of_cell? w _ q1)).trans (by simpa using q1)
      have p2 : wr.cell? ⟨(ad.add (k * 4)).block, (ad.add (k * 4)).off + 2, none⟩ = some (.int .i64 f2) := (hbel.cell (World.block_lt_of_cell? w _ q2)).trans (by simpa using q2)
      have p3 : wr.cell? ⟨(ad.add (k * 4)).block, (ad.add (k * 4)).off + 3, none⟩ = some (.slice A2 es.length c2) := (hbel.cell (World.block_lt_of_cell? w _ q3)).trans (by simpa using q3)
      have hC3 := Aside0.mk (Kd.C_below hC2 hbel)
      have hk1 : (k : Int) < l.length := by omega
      clear q0 q1 q2 q3 hC2 hbel
      by_cases ge : (100 : Int) < es.length ∨ 3000 < f2
      · have hM : Aside0 (∀ W', Below wr.heap.size wr W' → Iv w W' s t) := ⟨fun W' h => hI.out.step h⟩
        by_cases ge1 : (100 : Int) < es.length
        · clear ge
          go_wp2_with fail
          go_roundw
          case rel => exact ⟨k + 1, s, t, by omega, by go_num, rfl, rfl, ⟨hM.out _ (below_alloc (Below.refl _ _) _)⟩⟩
          case measure => simp [intOf]; omega
        · have g3 : decide ((100 : Int) < (es.length : Int)) = false := by simp at ge1 ⊢; omega
          have g4 : 3000 < f2 := by omega
          clear ge ge1
          go_wp2_with fail
          go_roundw
          case rel => exact ⟨k + 1, s, t, by omega, by go_num, rfl, rfl, ⟨hM.out _ (below_alloc (Below.refl _ _) _)⟩⟩
          case measure => simp [intOf]; omega
      · have g3 : decide ((100 : Int) < (es.length : Int)) = false := by simp at ge ⊢; omega
        have g4 : decide ((3000 : Int) < f2) = false := by simp at ge ⊢; omega
        have hes := Aside0.mk (show es.length ≤ 100 by omega)
        clear ge
        have hl2' := Aside0.mk hl2
        clear hl2
        go_wp2_with fail
        obtain ⟨X, hX⟩ : ∃ X : Array Value, X = #[.int .i64 f0, .int .i64 f1, .int .i64 f2, .slice A2 es.length c2] := ⟨_, rfl⟩
        have hD0 : (wr.alloc (.cells #[.int .i64 f0, .int .i64 f1, .int .i64 f2, .slice A2 es.length c2] 38)).heap[wr.heap.size]? = some (.cells #[.int .i64 f0, .int .i64 f1, .int .i64 f2, .slice A2 es.length c2] 38 (0, 0)) := heap_alloc_new wr _
        have hS1 : (wr.alloc (.cells #[.int .i64 f0, .int .i64 f1, .int .i64 f2, .slice A2 es.length c2] 38)).cell? ⟨wr.heap.size, 2, none⟩ = some (.int .i64 f2) ∧ (wr.alloc (.cells #[.int .i64 f0, .int .i64 f1, .int .i64 f2, .slice A2 es.length c2] 38)).cell? ⟨wr.heap.size, 3, none⟩ = some (.slice A2 es.length c2) := ⟨cell_at hD0 rfl, cell_at hD0 rfl⟩
        go_region_held3 (fun w' => w'.cell? ⟨wr.heap.size, 2, none⟩ = some (.int .i64 f2) ∧ w'.cell? ⟨wr.heap.size, 3, none⟩ = some (.slice A2 es.length c2)) (first | assumption | go_keep) (first
          | ((go_at_call 8; refine (of_any f2 A2 c2 es _ (Kd.C_drewN (Kd.C_alloc hC3.out _) 1) (by have := hes.out; omega)).mono ?_)
             rintro e wa ⟨a, rfl, Pa, Ka⟩
             have qa : wa.cell? ⟨wr.heap.size, 2, none⟩ = some (.int .i64 f2) ∧ wa.cell? ⟨wr.heap.size, 3, none⟩ = some (.slice A2 es.length c2) := ⟨cell_at (Ka.blk hD0 (fun h => h)) rfl, cell_at (Ka.blk hD0 (fun h => h)) rfl⟩)
          | ((go_at_call 17; refine (rof_any f2 A2 c2 es wa (Kd.C_below (Kd.C_drewN (Kd.C_alloc hC3.out _) 1) Ka.none_below) (by have := hes.out; omega)).mono ?_)
             rintro e wb ⟨b, rfl, Pb, Kb⟩
             have qb : wb.cell? ⟨wr.heap.size, 2, none⟩ = some (.int .i64 f2) ∧ wb.cell? ⟨wr.heap.size, 3, none⟩ = some (.slice A2 es.length c2) := ⟨cell_at (Kb.blk (Ka.blk hD0 (fun h => h)) (fun h => h)) rfl, cell_at (Kb.blk (Ka.blk hD0 (fun h => h)) (fun h => h)) rfl⟩))
        obtain ⟨o, R0⟩ := Iv.made hI.out hD'.out Pa (((Kp.refl _ _).drewN 1).then_ Ka (fun _ h => h.elim)) Pb Kb
        have R := Aside0.mk R0
        have k0 : wb.cell? ⟨wr.heap.size, 0, none⟩ = some (.int .i64 f0) := R0.cell _ 38 rfl 0 _ rfl
        have qb1 : wb.cell? ⟨wr.heap.size, 1, none⟩ = some (.int .i64 f1) := R0.cell _ 38 rfl 1 _ rfl
        clear Pa Ka Pb Kb qa qb R0 hS1 hD0 hX X hI p0 p1 p2 p3
        obtain ⟨o2, ho2⟩ : ∃ o2, ofO f2 es = o2 := ⟨_, rfl⟩
        rw [ho2] at R
        clear ho2
        by_cases e0 : f0 = 0
        · subst e0
          go_wp2_with fail
          go_region_held3 (fun w' => w'.cell? ⟨wr.heap.size, 1, none⟩ = some (.int .i64 f1)) (first | assumption | go_keep) (first
            | ((go_at_call 12; refine ((R.out.drewN 1).onS (P := fun e => e = .returned (.bool (addB o f1))) (o' := setO o f1 true) (by rw [lenO_set]; exact R.out.ls) (fun S A h1 h2 h3 => add_any s S o f1 _ h1)).mono ?_)
               rintro e wc ⟨rfl, Rc⟩
               have qc : wc.cell? ⟨wr.heap.size, 1, none⟩ = some (.int .i64 f1) := Rc.cell _ 38 rfl 1 _ rfl)
            | ((go_at_call 18; refine (Rc.onT (P := fun e => e = .returned (.bool (addB o f1))) (o' := setO o f1 true) (by rw [lenO_set]; exact R.out.ls) (fun S A h1 h2 h3 => radd_any t S o f1 _ h1)).mono ?_)
               rintro e wd ⟨rfl, Rd_⟩
               have qd : wd.cell? ⟨wr.heap.size, 1, none⟩ = some (.int .i64 f1) := Rd_.cell _ 38 rfl 1 _ rfl))
          clear R
          have R := Aside0.mk Rd_
          clear Rc Rd_ qc qd
          go_wp2_with fail
          refine R.out.same1.mono ?_
          rintro e wt0 ⟨rfl, Hx⟩
          clear R
          have R := Aside0.mk Hx
          clear Hx
          go_wp2_with fail
          refine R.out.same2.mono ?_
          rintro e wt1 ⟨rfl, Hx⟩
          clear R
          have R := Aside0.mk Hx
          clear Hx
          go_wp2_with fail
          refine R.out.eq_sa.mono ?_
          rintro e wt2 ⟨rfl, Hx⟩
          clear R
          have R := Aside0.mk Hx
          clear Hx
          go_wp2_with fail
          refine R.out.eq_tb.mono ?_
          rintro e wt3 ⟨rfl, Hx⟩
          clear R
          have R := Aside0.mk Hx
          clear Hx
          go_wp2_with fail
          refine R.out.eq_as.mono ?_
          rintro e wt4 ⟨rfl, Hx⟩
          clear R
          have R := Aside0.mk Hx
          clear Hx
          go_wp2_with fail
          refine R.out.eq_bt.mono ?_
          rintro e wt5 ⟨rfl, Hx⟩
          clear R
          have R := Aside0.mk Hx
          clear Hx
          go_wp2_with fail
          go_roundw
          case rel => exact ⟨k + 1, s, t, by omega, by go_num, rfl, rfl, ⟨R.out.end_⟩⟩
          case measure => simp [intOf]; omega
        · have e0' : (f0 == 0) = false := by simpa using e0
          clear e0
          by_cases e1 : f0 = 1
          · subst e1
            clear e0'
            go_wp2_with fail
            go_region_held3 (fun w' => w'.cell? ⟨wr.heap.size, 1, none⟩ = some (.int .i64 f1)) (first | assumption | go_keep) (first
              | ((go_at_call 13; refine ((R.out.drewN 1).onS (P := fun e => e = .returned (.bool (hasO o f1))) (o' := setO o f1 false) (by rw [lenO_set]; exact R.out.ls) (fun S A h1 h2 h3 => remove_any s S o f1 _ h1)).mono ?_)
                 rintro e wc ⟨rfl, Rc⟩
                 have qc : wc.cell? ⟨wr.heap.size, 1, none⟩ = some (.int .i64 f1) := Rc.cell _ 38 rfl 1 _ rfl)
              | ((go_at_call 19; refine (Rc.onT (P := fun e => e = .returned (.bool (hasO o f1))) (o' := setO o f1 false) (by rw [lenO_set]; exact R.out.ls) (fun S A h1 h2 h3 => rremove_any t S o f1 _ h1)).mono ?_)
                 rintro e wd ⟨rfl, Rd_⟩
                 have qd : wd.cell? ⟨wr.heap.size, 1, none⟩ = some (.int .i64 f1) := Rd_.cell _ 38 rfl 1 _ rfl))
            clear R
            have R := Aside0.mk Rd_
            clear Rc Rd_ qc qd
            go_wp2_with fail
            refine R.out.same1.mono ?_
            rintro e wt0 ⟨rfl, Hx⟩
            clear R
            have R := Aside0.mk Hx
            clear Hx
            go_wp2_with fail
            refine R.out.same2.mono ?_
            rintro e wt1 ⟨rfl, Hx⟩
            clear R
            have R := Aside0.mk Hx
            clear Hx
            go_wp2_with fail
            refine R.out.eq_sa.mono ?_
            rintro e wt2 ⟨rfl, Hx⟩
            clear R
            have R := Aside0.mk Hx
            clear Hx
            go_wp2_with fail
            refine R.out.eq_tb.mono ?_
            rintro e wt3 ⟨rfl, Hx⟩
            clear R
            have R := Aside0.mk Hx
            clear Hx
            go_wp2_with fail
            refine R.out.eq_as.mono ?_
            rintro e wt4 ⟨rfl, Hx⟩
            clear R
            have R := Aside0.mk Hx
            clear Hx
            go_wp2_with fail
            refine R.out.eq_bt.mono ?_
            rintro e wt5 ⟨rfl, Hx⟩
            clear R
            have R := Aside0.mk Hx
            clear Hx
            go_wp2_with fail
            go_roundw
            case rel => exact ⟨k + 1, s, t, by omega, by go_num, rfl, rfl, ⟨R.out.end_⟩⟩
            case measure => simp [intOf]; omega
          · have e1' : (f0 == 1) = false := by simpa using e1
            clear e1
            by_cases e2 : f0 = 2
            · subst e2
              clear e0' e1'
              go_wp2_with fail
              go_region_held3 (fun w' => w'.cell? ⟨wr.heap.size, 1, none⟩ = some (.int .i64 f1)) (first | assumption | go_keep) (first
                | ((go_at_call 11; refine ((R.out.drewN 1).hasS f1).mono ?_)
                   rintro e wc ⟨rfl, Rc⟩
                   have qc : wc.cell? ⟨wr.heap.size, 1, none⟩ = some (.int .i64 f1) := Rc.cell _ 38 rfl 1 _ rfl)
                | ((go_at_call 20; refine (Rc.hasT f1).mono ?_)
                   rintro e wd ⟨rfl, Rd_⟩
                   have qd : wd.cell? ⟨wr.heap.size, 1, none⟩ = some (.int .i64 f1) := Rd_.cell _ 38 rfl 1 _ rfl))
              clear R
              have R := Aside0.mk Rd_
              clear Rc Rd_ qc qd
              go_wp2_with fail
              refine R.out.same1.mono ?_
              rintro e wt0 ⟨rfl, Hx⟩
              clear R
              have R := Aside0.mk Hx
              clear Hx
              go_wp2_with fail
              refine R.out.same2.mono ?_
              rintro e wt1 ⟨rfl, Hx⟩
              clear R
              have R := Aside0.mk Hx
              clear Hx
              go_wp2_with fail
              refine R.out.eq_sa.mono ?_
              rintro e wt2 ⟨rfl, Hx⟩
              clear R
              have R := Aside0.mk Hx
              clear Hx
              go_wp2_with fail
              refine R.out.eq_tb.mono ?_
              rintro e wt3 ⟨rfl, Hx⟩
              clear R
              have R := Aside0.mk Hx
              clear Hx
              go_wp2_with fail
              refine R.out.eq_as.mono ?_
              rintro e wt4 ⟨rfl, Hx⟩
              clear R
              have R := Aside0.mk Hx
              clear Hx
              go_wp2_with fail
              refine R.out.eq_bt.mono ?_
              rintro e wt5 ⟨rfl, Hx⟩
              clear R
              have R := Aside0.mk Hx
              clear Hx
              go_wp2_with fail
              go_roundw
              case rel => exact ⟨k + 1, s, t, by omega, by go_num, rfl, rfl, ⟨R.out.end_⟩⟩
              case measure => simp [intOf]; omega
            · have e2' : (f0 == 2) = false := by simpa using e2
              clear e2
              by_cases e3 : f0 = 3
              · subst e3
                clear e0' e1' e2'
                go_wp2_with fail
                refine (R.out.onS (P := fun e => e = .returned (.bool (opC .or o o2))) (o' := opO .or o o2) (by rw [lenO_op]; exact R.out.ls) (fun S A h1 h2 h3 => Union_any s a S A o o2 _ h1 h2 (.inl h3))).mono ?_
                rintro e wc ⟨rfl, Hx⟩
                clear R
                have R := Aside0.mk Hx
                clear Hx
                go_wp2_with fail
                refine (R.out.onT (P := fun e => e = .returned (.bool (opC .or o o2))) (o' := opO .or o o2) (by rw [lenO_op]; exact R.out.lt) (fun S A h1 h2 h3 => rUnion_any t b S A o o2 _ h1 h2 (.inl h3))).mono ?_
                rintro e wd ⟨rfl, Hx⟩
                clear R
                have R := Aside0.mk Hx
                clear Hx
                go_wp2_with fail
                refine R.out.same1.mono ?_
                rintro e wt0 ⟨rfl, Hx⟩
                clear R
                have R := Aside0.mk Hx
                clear Hx
                go_wp2_with fail
                refine R.out.same2.mono ?_
                rintro e wt1 ⟨rfl, Hx⟩
                clear R
                have R := Aside0.mk Hx
                clear Hx
                go_wp2_with fail
                refine R.out.eq_sa.mono ?_
                rintro e wt2 ⟨rfl, Hx⟩
                clear R
                have R := Aside0.mk Hx
                clear Hx
                go_wp2_with fail
                refine R.out.eq_tb.mono ?_
                rintro e wt3 ⟨rfl, Hx⟩
                clear R
                have R := Aside0.mk Hx
                clear Hx
                go_wp2_with fail
                refine R.out.eq_as.mono ?_
                rintro e wt4 ⟨rfl, Hx⟩
                clear R
                have R := Aside0.mk Hx
                clear Hx
                go_wp2_with fail
                refine R.out.eq_bt.mono ?_
                rintro e wt5 ⟨rfl, Hx⟩
                clear R
                have R := Aside0.mk Hx
                clear Hx
                go_wp2_with fail
                go_roundw
                case rel => exact ⟨k + 1, s, t, by omega, by go_num, rfl, rfl, ⟨R.out.end_⟩⟩
                case measure => simp [intOf]; omega
              · have e3' : (f0 == 3) = false := by simpa using e3
                clear e3
                by_cases e4 : f0 = 4
                · subst e4
                  clear e0' e1' e2' e3'
                  go_wp2_with fail
                  refine (R.out.onS (P := fun e => e = .returned (.bool (opC .andNot o o2))) (o' := opO .andNot o o2) (by rw [lenO_op]; exact R.out.ls) (fun S A h1 h2 h3 => Subtract_any s a S A o o2 _ h1 h2 (.inl h3))).mono ?_
                  rintro e wc ⟨rfl, Hx⟩
                  clear R
                  have R := Aside0.mk Hx
                  clear Hx
                  go_wp2_with fail
                  refine (R.out.onT (P := fun e => e = .returned (.bool (opC .andNot o o2))) (o' := opO .andNot o o2) (by rw [lenO_op]; exact R.out.lt) (fun S A h1 h2 h3 => rSubtract_any t b S A o o2 _ h1 h2 (.inl h3))).mono ?_
                  rintro e wd ⟨rfl, Hx⟩
                  clear R
                  have R := Aside0.mk Hx
                  clear Hx
                  go_wp2_with fail
                  refine R.out.same1.mono ?_
                  rintro e wt0 ⟨rfl, Hx⟩
                  clear R
                  have R := Aside0.mk Hx
                  clear Hx
                  go_wp2_with fail
                  refine R.out.same2.mono ?_
                  rintro e wt1 ⟨rfl, Hx⟩
                  clear R
                  have R := Aside0.mk Hx
                  clear Hx
                  go_wp2_with fail
                  refine R.out.eq_sa.mono ?_
                  rintro e wt2 ⟨rfl, Hx⟩
                  clear R
                  have R := Aside0.mk Hx
                  clear Hx
                  go_wp2_with fail
                  refine R.out.eq_tb.mono ?_
                  rintro e wt3 ⟨rfl, Hx⟩
                  clear R
                  have R := Aside0.mk Hx
                  clear Hx
                  go_wp2_with fail
                  refine R.out.eq_as.mono ?_
                  rintro e wt4 ⟨rfl, Hx⟩
                  clear R
                  have R := Aside0.mk Hx
                  clear Hx
                  go_wp2_with fail
                  refine R.out.eq_bt.mono ?_
                  rintro e wt5 ⟨rfl, Hx⟩
                  clear R
                  have R := Aside0.mk Hx
                  clear Hx
                  go_wp2_with fail
                  go_roundw
                  case rel => exact ⟨k + 1, s, t, by omega, by go_num, rfl, rfl, ⟨R.out.end_⟩⟩
                  case measure => simp [intOf]; omega
                · have e4' : (f0 == 4) = false := by simpa using e4
                  clear e4
                  by_cases e5 : f0 = 5
                  · subst e5
                    clear e0' e1' e2' e3' e4'
                    go_wp2_with fail
                    refine (R.out.onS (P := fun e => e = .returned (.bool (opC .and o o2))) (o' := opO .and o o2) (by rw [lenO_op]; exact R.out.ls) (fun S A h1 h2 h3 => Intersect_any s a S A o o2 _ h1 h2 (.inl h3))).mono ?_
                    rintro e wc ⟨rfl, Hx⟩
                    clear R
                    have R := Aside0.mk Hx
                    clear Hx
                    go_wp2_with fail
                    refine (R.out.onT (P := fun e => e = .returned (.bool (opC .and o o2))) (o' := opO .and o o2) (by rw [lenO_op]; exact R.out.lt) (fun S A h1 h2 h3 => rIntersect_any t b S A o o2 _ h1 h2 (.inl h3))).mono ?_
                    rintro e wd ⟨rfl, Hx⟩
                    clear R
                    have R := Aside0.mk Hx
                    clear Hx
                    go_wp2_with fail
                    refine R.out.same1.mono ?_
                    rintro e wt0 ⟨rfl, Hx⟩
                    clear R
                    have R := Aside0.mk Hx
                    clear Hx
                    go_wp2_with fail
                    refine R.out.same2.mono ?_
                    rintro e wt1 ⟨rfl, Hx⟩
                    clear R
                    have R := Aside0.mk Hx
                    clear Hx
                    go_wp2_with fail
                    refine R.out.eq_sa.mono ?_
                    rintro e wt2 ⟨rfl, Hx⟩
                    clear R
                    have R := Aside0.mk Hx
                    clear Hx
                    go_wp2_with fail
                    refine R.out.eq_tb.mono ?_
                    rintro e wt3 ⟨rfl, Hx⟩
                    clear R
                    have R := Aside0.mk Hx
                    clear Hx
                    go_wp2_with fail
                    refine R.out.eq_as.mono ?_
                    rintro e wt4 ⟨rfl, Hx⟩
                    clear R
                    have R := Aside0.mk Hx
                    clear Hx
                    go_wp2_with fail
                    refine R.out.eq_bt.mono ?_
                    rintro e wt5 ⟨rfl, Hx⟩
                    clear R
                    have R := Aside0.mk Hx
                    clear Hx
                    go_wp2_with fail
                    go_roundw
                    case rel => exact ⟨k + 1, s, t, by omega, by go_num, rfl, rfl, ⟨R.out.end_⟩⟩
                    case measure => simp [intOf]; omega
                  · have e5' : (f0 == 5) = false := by simpa using e5
                    clear e5
                    by_cases e6 : f0 = 6
                    · subst e6
                      clear e0' e1' e2' e3' e4' e5'
                      go_wp2_with fail
                      refine (R.out.onS (P := fun e => e = .returned (.bool (opC .or o o))) (o' := opO .or o o) (by rw [lenO_op]; exact R.out.ls) (fun S A h1 h2 h3 => Union_any s s S S o o _ h1 h1 (.inr ⟨rfl, rfl⟩))).mono ?_
                      rintro e wc ⟨rfl, Hx⟩
                      clear R
                      have R := Aside0.mk Hx
                      clear Hx
                      go_wp2_with fail
                      refine (R.out.onT (P := fun e => e = .returned (.bool (opC .or o o))) (o' := opO .or o o) (by rw [lenO_op]; exact R.out.lt) (fun S A h1 h2 h3 => rUnion_any t t S S o o _ h1 h1 (.inr ⟨rfl, rfl⟩))).mono ?_
                      rintro e wd ⟨rfl, Hx⟩
                      clear R
                      have R := Aside0.mk Hx
                      clear Hx
                      go_wp2_with fail
                      refine R.out.same1.mono ?_
                      rintro e wt0 ⟨rfl, Hx⟩
                      clear R
                      have R := Aside0.mk Hx
                      clear Hx
                      go_wp2_with fail
                      refine R.out.same2.mono ?_
                      rintro e wt1 ⟨rfl, Hx⟩
                      clear R
                      have R := Aside0.mk Hx
                      clear Hx
                      go_wp2_with fail
                      refine R.out.eq_sa.mono ?_
                      rintro e wt2 ⟨rfl, Hx⟩
                      clear R
                      have R := Aside0.mk Hx
                      clear Hx
                      go_wp2_with fail
                      refine R.out.eq_tb.mono ?_
                      rintro e wt3 ⟨rfl, Hx⟩
                      clear R
                      have R := Aside0.mk Hx
                      clear Hx
                      go_wp2_with fail
                      refine R.out.eq_as.mono ?_
                      rintro e wt4 ⟨rfl, Hx⟩
                      clear R
                      have R := Aside0.mk Hx
                      clear Hx
                      go_wp2_with fail
                      refine R.out.eq_bt.mono ?_
                      rintro e wt5 ⟨rfl, Hx⟩
                      clear R
                      have R := Aside0.mk Hx
                      clear Hx
                      go_wp2_with fail
                      go_roundw
                      case rel => exact ⟨k + 1, s, t, by omega, by go_num, rfl, rfl, ⟨R.out.end_⟩⟩
                      case measure => simp [intOf]; omega
                    · have e6' : (f0 == 6) = false := by simpa using e6
                      clear e6
                      by_cases e7 : f0 = 7
                      · subst e7
                        clear e0' e1' e2' e3' e4' e5' e6'
                        go_wp2_with fail
                        refine (R.out.onS (P := fun e => e = .returned (.bool (opC .andNot o o))) (o' := opO .andNot o o) (by rw [lenO_op]; exact R.out.ls) (fun S A h1 h2 h3 => Subtract_any s s S S o o _ h1 h1 (.inr ⟨rfl, rfl⟩))).mono ?_
                        rintro e wc ⟨rfl, Hx⟩
                        clear R
                        have R := Aside0.mk Hx
                        clear Hx
                        go_wp2_with fail
                        refine (R.out.onT (P := fun e => e = .returned (.bool (opC .andNot o o))) (o' := opO .andNot o o) (by rw [lenO_op]; exact R.out.lt) (fun S A h1 h2 h3 => rSubtract_any t t S S o o _ h1 h1 (.inr ⟨rfl, rfl⟩))).mono ?_
                        rintro e wd ⟨rfl, Hx⟩
                        clear R
                        have R := Aside0.mk Hx
                        clear Hx
                        go_wp2_with fail
                        refine R.out.same1.mono ?_
                        rintro e wt0 ⟨rfl, Hx⟩
                        clear R
                        have R := Aside0.mk Hx
                        clear Hx
                        go_wp2_with fail
                        refine R.out.same2.mono ?_
                        rintro e wt1 ⟨rfl, Hx⟩
                        clear R
                        have R := Aside0.mk Hx
                        clear Hx
                        go_wp2_with fail
                        refine R.out.eq_sa.mono ?_
                        rintro e wt2 ⟨rfl, Hx⟩
                        clear R
                        have R := Aside0.mk Hx
                        clear Hx
                        go_wp2_with fail
                        refine R.out.eq_tb.mono ?_
                        rintro e wt3 ⟨rfl, Hx⟩
                        clear R
                        have R := Aside0.mk Hx
                        clear Hx
                        go_wp2_with fail
                        refine R.out.eq_as.mono ?_
                        rintro e wt4 ⟨rfl, Hx⟩
                        clear R
                        have R := Aside0.mk Hx
                        clear Hx
                        go_wp2_with fail
                        refine R.out.eq_bt.mono ?_
                        rintro e wt5 ⟨rfl, Hx⟩
                        clear R
                        have R := Aside0.mk Hx
                        clear Hx
                        go_wp2_with fail
                        go_roundw
                        case rel => exact ⟨k + 1, s, t, by omega, by go_num, rfl, rfl, ⟨R.out.end_⟩⟩
                        case measure => simp [intOf]; omega
                      · have e7' : (f0 == 7) = false := by simpa using e7
                        clear e7
                        by_cases e8 : f0 = 8
                        · subst e8
                          clear e0' e1' e2' e3' e4' e5' e6' e7'
                          go_wp2_with fail
                          refine (R.out.onS (P := fun e => e = .returned (.bool (opC .and o o))) (o' := opO .and o o) (by rw [lenO_op]; exact R.out.ls) (fun S A h1 h2 h3 => Intersect_any s s S S o o _ h1 h1 (.inr ⟨rfl, rfl⟩))).mono ?_
                          rintro e wc ⟨rfl, Hx⟩
                          clear R
                          have R := Aside0.mk Hx
                          clear Hx
                          go_wp2_with fail
                          refine (R.out.onT (P := fun e => e = .returned (.bool (opC .and o o))) (o' := opO .and o o) (by rw [lenO_op]; exact R.out.lt) (fun S A h1 h2 h3 => rIntersect_any t t S S o o _ h1 h1 (.inr ⟨rfl, rfl⟩))).mono ?_
                          rintro e wd ⟨rfl, Hx⟩
                          clear R
                          have R := Aside0.mk Hx
                          clear Hx
                          go_wp2_with fail
                          refine R.out.same1.mono ?_
                          rintro e wt0 ⟨rfl, Hx⟩
                          clear R
                          have R := Aside0.mk Hx
                          clear Hx
                          go_wp2_with fail
                          refine R.out.same2.mono ?_
                          rintro e wt1 ⟨rfl, Hx⟩
                          clear R
                          have R := Aside0.mk Hx
                          clear Hx
                          go_wp2_with fail
                          refine R.out.eq_sa.mono ?_
                          rintro e wt2 ⟨rfl, Hx⟩
                          clear R
                          have R := Aside0.mk Hx
                          clear Hx
                          go_wp2_with fail
                          refine R.out.eq_tb.mono ?_
                          rintro e wt3 ⟨rfl, Hx⟩
                          clear R
                          have R := Aside0.mk Hx
                          clear Hx
                          go_wp2_with fail
                          refine R.out.eq_as.mono ?_
                          rintro e wt4 ⟨rfl, Hx⟩
                          clear R
                          have R := Aside0.mk Hx
                          clear Hx
                          go_wp2_with fail
                          refine R.out.eq_bt.mono ?_
                          rintro e wt5 ⟨rfl, Hx⟩
                          clear R
                          have R := Aside0.mk Hx
                          clear Hx
                          go_wp2_with fail
                          go_roundw
                          case rel => exact ⟨k + 1, s, t, by omega, by go_num, rfl, rfl, ⟨R.out.end_⟩⟩
                          case measure => simp [intOf]; omega
                        · have e8' : (f0 == 8) = false := by simpa using e8
                          clear e8
                          by_cases e9 : f0 = 9
                          · subst e9
                            clear e0' e1' e2' e3' e4' e5' e6' e7' e8'
                            go_wp2_with fail
                            refine R.out.cloneS.mono ?_
                            rintro e wc ⟨s', rfl, Hx⟩
                            clear R
                            have R := Aside0.mk Hx
                            clear Hx
                            go_wp2_with fail
                            refine R.out.cloneT.mono ?_
                            rintro e wd ⟨t', rfl, Hx⟩
                            clear R
                            have R := Aside0.mk Hx
                            clear Hx
                            go_wp2_with fail
                            refine R.out.same1.mono ?_
                            rintro e wt0 ⟨rfl, Hx⟩
                            clear R
                            have R := Aside0.mk Hx
                            clear Hx
                            go_wp2_with fail
                            refine R.out.same2.mono ?_
                            rintro e wt1 ⟨rfl, Hx⟩
                            clear R
                            have R := Aside0.mk Hx
                            clear Hx
                            go_wp2_with fail
                            refine R.out.eq_sa.mono ?_
                            rintro e wt2 ⟨rfl, Hx⟩
                            clear R
                            have R := Aside0.mk Hx
                            clear Hx
                            go_wp2_with fail
                            refine R.out.eq_tb.mono ?_
                            rintro e wt3 ⟨rfl, Hx⟩
                            clear R
                            have R := Aside0.mk Hx
                            clear Hx
                            go_wp2_with fail
                            refine R.out.eq_as.mono ?_
                            rintro e wt4 ⟨rfl, Hx⟩
                            clear R
                            have R := Aside0.mk Hx
                            clear Hx
                            go_wp2_with fail
                            refine R.out.eq_bt.mono ?_
                            rintro e wt5 ⟨rfl, Hx⟩
                            clear R
                            have R := Aside0.mk Hx
                            clear Hx
                            go_wp2_with fail
                            go_roundw
                            case rel => exact ⟨k + 1, s', t', by omega, by go_num, rfl, rfl, ⟨R.out.end_⟩⟩
                            case measure => simp [intOf]; omega
                          · have e9' : (f0 == 9) = false := by simpa using e9
                            clear e9
                            go_wp2_with fail
                            refine R.out.same1.mono ?_
                            rintro e wt0 ⟨rfl, Hx⟩
                            clear R
                            have R := Aside0.mk Hx
                            clear Hx
                            go_wp2_with fail
                            refine R.out.same2.mono ?_
                            rintro e wt1 ⟨rfl, Hx⟩
                            clear R
                            have R := Aside0.mk Hx
                            clear Hx
                            go_wp2_with fail
                            refine R.out.eq_sa.mono ?_
                            rintro e wt2 ⟨rfl, Hx⟩
                            clear R
                            have R := Aside0.mk Hx
                            clear Hx
                            go_wp2_with fail
                            refine R.out.eq_tb.mono ?_
                            rintro e wt3 ⟨rfl, Hx⟩
                            clear R
                            have R := Aside0.mk Hx
                            clear Hx
                            go_wp2_with fail
                            refine R.out.eq_as.mono ?_
                            rintro e wt4 ⟨rfl, Hx⟩
                            clear R
                            have R := Aside0.mk Hx
                            clear Hx
                            go_wp2_with fail
                            refine R.out.eq_bt.mono ?_
                            rintro e wt5 ⟨rfl, Hx⟩
                            clear R
                            have R := Aside0.mk Hx
                            clear Hx
                            go_wp2_with fail
                            go_roundw
                            case rel => exact ⟨k + 1, s, t, by omega, by go_num, rfl, rfl, ⟨R.out.end_⟩⟩
                            case measure => simp [intOf]; omega
    · have hB9 := Aside0.mk hI.out.below
      clear hI
      go_wp2_with (go_at_call 7; refine (awake_any _ (hD'.out.below hB9.out)).mono ?_; rintro e w9 ⟨rfl, B9⟩)
      go_ret
      exact ⟨rfl, hB9.out.trans (B9.mono hB9.out.size)⟩

theorem ops_walk (n : Int) (A : Option Addr) (c : Nat) (l : List S38) (w : World) (wl : (Lit.int .i64 n).wf = true) (hc : l.length ≤ c) (hC : Kd.C k38 w A l.length l)
    (hg : l.length * 48 ≤ 140737488351232 ∧ ∀ x ∈ l, True ∧ True ∧ True ∧ x.f3.length * 8 ≤ 140737488351232) (hD : DB w) :
    Calls Tryd.prog 4 #[.int .i64 n, .slice A l.length c] w fun e w' => e = .returned (.bool true) ∧ Below w.heap.size w w' := by
  by_cases he : 2000 < n ∨ (100 : Int) < l.length
  · exact ops_early n A c l.length w hD he
  · exact ops_main n A c l w (by omega) (by omega) hC hD
end Go.Proofs.YtibjpamnkhnagaaDoor
