/- BitsetAlgebra: the walk. -/
import Derived.Test.YtibjpamnkhnagaaDoorSetM
set_option linter.unusedVariables false
set_option linter.unusedSimpArgs false
namespace Go.Proofs.YtibjpamnkhnagaaDoor
open Go.RowKit Go.Proofs.YtibjpamnkhnagaaDoorW.PrintWords Mem Bit

set_option maxRecDepth 100000 in
theorem alg_early (n : Int) (A : Option Addr) (la ca : Nat) (B : Option Addr) (lb cb : Nat) (w : World) (hD : DB w) (he : n < 0 ∨ 2000 < n ∨ (200 : Int) < la ∨ (200 : Int) < lb) :
    Calls Tryd.prog 5 #[.int .i64 n, .slice A la ca, .slice B lb cb] w fun e w' => e = .returned (.bool true) ∧ Below w.heap.size w w' := by
  have hD' := Aside0.mk hD
  clear hD
  by_cases h1 : n < 0
  · clear he
    go_enter Tryd.func5, Tryd.ntmps5
    go_wp2_with (go_at_call 7; refine (awake_any _ hD'.out).mono ?_; rintro e w1 ⟨rfl, hb1⟩)
    go_ret
    exact ⟨rfl, hb1⟩
  · have g1 : 0 ≤ n := by omega
    by_cases h2 : 2000 < n
    · clear he
      go_enter Tryd.func5, Tryd.ntmps5
      go_wp2_with (go_at_call 7; refine (awake_any _ hD'.out).mono ?_; rintro e w1 ⟨rfl, hb1⟩)
      go_ret
      exact ⟨rfl, hb1⟩
    · have g2 : n ≤ 2000 := by omega
      by_cases h3 : (200 : Int) < la
      · clear he
        go_enter Tryd.func5, Tryd.ntmps5
        go_wp2_with (go_at_call 7; refine (awake_any _ hD'.out).mono ?_; rintro e w1 ⟨rfl, hb1⟩)
        go_ret
        exact ⟨rfl, hb1⟩
      · have g3 : (la : Int) ≤ 200 := by omega
        have h4 : (200 : Int) < lb := by omega
        clear he
        go_enter Tryd.func5, Tryd.ntmps5
        go_wp2_with (go_at_call 7; refine (awake_any _ hD'.out).mono ?_; rintro e w1 ⟨rfl, hb1⟩)
        go_ret
        exact ⟨rfl, hb1⟩

set_option maxRecDepth 100000 in
set_option maxHeartbeats 4000000 in
theorem alg_main (n : Nat) (A : Option Addr) (ca : Nat) (xa : List Int) (B : Option Addr) (cb : Nat) (xb : List Int) (w : World) (hD : DB w) (hn : n ≤ 2000) (ha : xa.length ≤ 200) (hb : xb.length ≤ 200)
    (hCa : Kd.C (Kd.int .i64) w A xa.length xa) (hCb : Kd.C (Kd.int .i64) w B xb.length xb) :
    Calls Tryd.prog 5 #[.int .i64 n, .slice A xa.length ca, .slice B xb.length cb] w fun e w' => e = .returned (.bool true) ∧ Below w.heap.size w w' := by
  obtain ⟨S, hS⟩ : ∃ S, S = setL n xa := ⟨_, rfl⟩
  obtain ⟨O, hO⟩ : ∃ O, O = setL n xb := ⟨_, rfl⟩
  have hSl : S.length = n := by rw [hS]; exact setL_length _ _
  have hOl : O.length = n := by rw [hO]; exact setL_length _ _
  have hSO : S.length = O.length := by omega
  have hz := cnt_zip S O hSO
  have hap := zip_apart S O hSO
  have hl1 := zipB_length .or S O hSO
  have hl2 := zipB_length .andNot S O hSO
  have hl3 := zipB_length .and S O hSO
  have hcs := cnt_le S
  have hco := cnt_le O
  obtain ⟨cs, ecs⟩ : ∃ c, cnt S = c := ⟨_, rfl⟩
  obtain ⟨co, eco⟩ : ∃ c, cnt O = c := ⟨_, rfl⟩
  obtain ⟨cu, ecu⟩ : ∃ c, cnt (zipB .or S O) = c := ⟨_, rfl⟩
  obtain ⟨cm, ecm⟩ : ∃ c, cnt (zipB .andNot S O) = c := ⟨_, rfl⟩
  obtain ⟨cb2, ecb⟩ : ∃ c, cnt (zipB .and S O) = c := ⟨_, rfl⟩
  rw [ecs, eco, ecu, ecm, ecb] at hz
  rw [ecs] at hcs
  rw [eco] at hco
  have hz1 := hz.1
  have hz2 := hz.2
  have t1 : ((cu : Int) != (cs : Int) + (co : Int) - (cb2 : Int)) = false := by rw [bne_eq_false_iff_eq]; omega
  have t2 : ((cm : Int) + (cb2 : Int) != (cs : Int)) = false := by rw [bne_eq_false_iff_eq]; omega
  have k1 : (cs : Int) ≤ 2000 := by omega
  have k2 : (co : Int) ≤ 2000 := by omega
  have k3 : (cb2 : Int) ≤ 2000 := by omega
  have k4 : (cm : Int) ≤ 2000 := by omega
  have k5 : (cu : Int) ≤ 4000 := by omega
  have hag : decide (zipB .and (zipB .andNot S O) (zipB .and S O) ≠ zipB .andNot S O) = decide ((0 : Int) < (cm : Int)) := by
    rw [hap.1, ← hl2, cnt_pos_iff, ecm]
    rw [Bool.eq_iff_iff]
    simp
  have hX := Aside0.mk (And.intro hCa (And.intro hCb (And.intro hSO (And.intro hap (And.intro hl1 (And.intro hl2 (And.intro hl3 (And.intro hD (And.intro hS (And.intro hO hag))))))))))
  have hE := Aside0.mk (And.intro ecs (And.intro eco (And.intro ecu (And.intro ecm (And.intro ecb (And.intro hSl hOl))))))
  have hni : (n : Int) ≤ 2000 := by omega
  have hal : (xa.length : Int) ≤ 200 := by omega
  have d1 : decide ((n : Int) < 0) = false := by simp
  have d2 : decide ((2000 : Int) < (n : Int)) = false := by simp; omega
  have d3 : decide ((200 : Int) < (xa.length : Int)) = false := by simp; omega
  have d4 : decide ((200 : Int) < (xb.length : Int)) = false := by simp; omega
  have hbl : (xb.length : Int) ≤ 200 := by omega
  clear hCa hCb hSO hap hl1 hl2 hl3 hD hS hO hag ecs eco ecu ecm ecb hSl hOl hz hz1 hz2
  go_enter Tryd.func5, Tryd.ntmps5
  go_wp2_with fail
  refine (awake_any w hX.out.2.2.2.2.2.2.2.1).mono ?_
  rintro e w1 ⟨rfl, B1⟩
  have H1 := Aside0.mk (And.intro B1 (Ss.start B1 hX.out.2.2.2.2.2.2.2.1))
  clear B1
  go_wp2_with fail
  refine (H1.out.2.of_ n A ca xa (Kd.C_below hX.out.1 H1.out.1) (by omega) (by omega)).mono ?_
  rintro e w2 ⟨p0, a0, b0, rfl, H, Bx⟩
  have H2 := Aside0.mk (And.intro H (H1.out.1.trans (Bx.mono H1.out.1.size)))
  clear H H1 Bx
  go_wp2_with fail
  refine (H2.out.1.of_ n B cb xb (Kd.C_below hX.out.2.1 H2.out.2) (by omega) (by omega)).mono ?_
  rintro e w3 ⟨p1, a1, b1, rfl, H, _⟩
  rw [← hX.out.2.2.2.2.2.2.2.2.1, ← hX.out.2.2.2.2.2.2.2.2.2.1] at H
  have H3 := Aside0.mk H
  clear H H2
  go_wp2_with fail
  refine (H3.out.clone 0 rfl).mono ?_
  rintro e w4 ⟨p2, a2, b2, rfl, H, _⟩
  have H4 := Aside0.mk H
  clear H H3
  go_wp2_with fail
  refine (H4.out.clone 0 rfl).mono ?_
  rintro e w5 ⟨p3, a3, b3, rfl, H, _⟩
  have H5 := Aside0.mk H
  clear H H4
  go_wp2_with fail
  refine (H5.out.clone 0 rfl).mono ?_
  rintro e w6 ⟨p4, a4, b4, rfl, H, _⟩
  have H6 := Aside0.mk H
  clear H H5
  go_wp2_with fail
  refine (H6.out.union 2 1 rfl rfl (by decide) hX.out.2.2.1).mono ?_
  rintro e w7 ⟨rfl, H⟩
  have H7 := Aside0.mk H
  clear H H6
  go_wp2_with fail
  refine (H7.out.subtract 3 1 rfl rfl (by decide) hX.out.2.2.1).mono ?_
  rintro e w8 ⟨rfl, H⟩
  have H8 := Aside0.mk H
  clear H H7
  go_wp2_with fail
  refine (H8.out.intersect 4 1 rfl rfl (by decide) hX.out.2.2.1).mono ?_
  rintro e w9 ⟨rfl, H⟩
  have H9 : Aside0 (Ss w w9 [⟨a0, b0, p0, S⟩, ⟨a1, b1, p1, O⟩, ⟨a2, b2, p2, zipB .or S O⟩, ⟨a3, b3, p3, zipB .andNot S O⟩, ⟨a4, b4, p4, zipB .and S O⟩]) := ⟨H⟩
  clear H H8
  go_wp2_with fail
  refine (H9.out.count 2 rfl cu hE.out.2.2.1).mono ?_
  rintro e w10 ⟨rfl, H⟩
  have H10 := Aside0.mk H
  clear H H9
  go_wp2_with fail
  refine (H10.out.count 0 rfl cs hE.out.1).mono ?_
  rintro e w11 ⟨rfl, H⟩
  have H11 := Aside0.mk H
  clear H H10
  go_wp2_with fail
  refine (H11.out.count 1 rfl co hE.out.2.1).mono ?_
  rintro e w12 ⟨rfl, H⟩
  have H12 := Aside0.mk H
  clear H H11
  go_wp2_with fail
  refine (H12.out.count 4 rfl cb2 hE.out.2.2.2.2.1).mono ?_
  rintro e w13 ⟨rfl, H⟩
  have H13 := Aside0.mk H
  clear H H12
  go_wp2_with fail
  refine (H13.out.count 3 rfl cm hE.out.2.2.2.1).mono ?_
  rintro e w14 ⟨rfl, H⟩
  have H14 := Aside0.mk H
  clear H H13
  go_wp2_with fail
  refine (H14.out.count 4 rfl cb2 hE.out.2.2.2.2.1).mono ?_
  rintro e w15 ⟨rfl, H⟩
  have H15 := Aside0.mk H
  clear H H14
  go_wp2_with fail
  refine (H15.out.count 0 rfl cs hE.out.1).mono ?_
  rintro e w16 ⟨rfl, H⟩
  have H16 := Aside0.mk H
  clear H H15
  go_wp2_with fail
  go_loop [12] (fun i => ∃ k : Nat, k ≤ n ∧ i = .int .i64 k) (fun i => n - (intOf i).toNat)
  case atStart => exact ⟨0, Nat.zero_le _, rfl⟩
  case round =>
    obtain ⟨k, hk, rfl⟩ := hrel
    by_cases hlt : k < n
    · have hSl := hE.out.2.2.2.2.2.1
      have hOl := hE.out.2.2.2.2.2.2
      have f1 : k < S.length := by omega
      have f2 : k < O.length := by omega
      have f3 : k < (zipB .or S O).length := by rw [hX.out.2.2.2.2.1]; exact f1
      have f4 : k < (zipB .andNot S O).length := by rw [hX.out.2.2.2.2.2.1]; exact f1
      have f5 : k < (zipB .and S O).length := by rw [hX.out.2.2.2.2.2.2.1]; exact f1
      have g3 := zipB_getD .or S O hX.out.2.2.1 k
      have g4 := zipB_getD .andNot S O hX.out.2.2.1 k
      have g5 := zipB_getD .and S O hX.out.2.2.1 k
      have hF := Aside0.mk (And.intro f1 (And.intro f2 (And.intro f3 (And.intro f4 f5))))
      clear f1 f2 f3 f4 f5 hSl hOl
      have hki : (k : Int) ≤ 2000 := by omega
      obtain ⟨sb, es⟩ : ∃ b, S.getD k false = b := ⟨_, rfl⟩
      obtain ⟨ob, eo⟩ : ∃ b, O.getD k false = b := ⟨_, rfl⟩
      rw [es, eo] at g3 g4 g5
      have c0 : Calls Tryd.prog 11 #[.pointer (some ⟨p0, 0, none⟩), .int .i64 k] w16 fun e w' => e = .returned (.bool sb) ∧ w16 = w' := H16.out.has 0 rfl k hF.out.1 _ es
      have c1 : Calls Tryd.prog 11 #[.pointer (some ⟨p1, 0, none⟩), .int .i64 k] w16 fun e w' => e = .returned (.bool ob) ∧ w16 = w' := H16.out.has 1 rfl k hF.out.2.1 _ eo
      have c2 : Calls Tryd.prog 11 #[.pointer (some ⟨p2, 0, none⟩), .int .i64 k] w16 fun e w' => e = .returned (.bool (sb || ob)) ∧ w16 = w' := H16.out.has 2 rfl k hF.out.2.2.1 _ g3
      have c3 : Calls Tryd.prog 11 #[.pointer (some ⟨p3, 0, none⟩), .int .i64 k] w16 fun e w' => e = .returned (.bool (sb && !ob)) ∧ w16 = w' := H16.out.has 3 rfl k hF.out.2.2.2.1 _ g4
      have c4 : Calls Tryd.prog 11 #[.pointer (some ⟨p4, 0, none⟩), .int .i64 k] w16 fun e w' => e = .returned (.bool (sb && ob)) ∧ w16 = w' := H16.out.has 4 rfl k hF.out.2.2.2.2 _ g5
      clear es eo g3 g4 g5
      cases sb <;> cases ob
      all_goals
        simp only [Bool.or_false, Bool.or_true, Bool.and_false, Bool.and_true, Bool.not_true, Bool.not_false] at c2 c3 c4
        have hc0 := Aside0.mk c0; have hc1 := Aside0.mk c1; have hc2 := Aside0.mk c2; have hc3 := Aside0.mk c3; have hc4 := Aside0.mk c4
        clear c0 c1 c2 c3 c4
        go_wp2_with (go_at_call 11; (first
          | with_reducible refine hc2.out.mono ?_
          | with_reducible refine hc0.out.mono ?_
          | with_reducible refine hc1.out.mono ?_
          | with_reducible refine hc3.out.mono ?_
          | with_reducible refine hc4.out.mono ?_); rintro e w' ⟨rfl, rfl⟩)
        go_round
        case rel => exact ⟨k + 1, by omega, by go_num⟩
        case measure => simp [intOf]; omega
    · obtain rfl : k = n := by omega
      clear hlt
      go_wp2_with fail
      refine (H16.out.clone 3 rfl).mono ?_
      rintro e w17 ⟨p5, a5, b5, rfl, H, _⟩
      have H17 : Aside0 (Ss w w17 [⟨a0, b0, p0, S⟩, ⟨a1, b1, p1, O⟩, ⟨a2, b2, p2, zipB .or S O⟩, ⟨a3, b3, p3, zipB .andNot S O⟩, ⟨a4, b4, p4, zipB .and S O⟩, ⟨a5, b5, p5, zipB .andNot S O⟩]) := ⟨H⟩
      clear H H16
      go_wp2_with fail
      refine (H17.out.intersect 5 4 rfl rfl (by decide) (by rw [hX.out.2.2.2.2.2.1, hX.out.2.2.2.2.2.2.1])).mono ?_
      rw [hX.out.2.2.2.2.2.2.2.2.2.2, hX.out.2.2.2.1.1]
      rintro e w18 ⟨rfl, H⟩
      have H18 : Aside0 (Ss w w18 [⟨a0, b0, p0, S⟩, ⟨a1, b1, p1, O⟩, ⟨a2, b2, p2, zipB .or S O⟩, ⟨a3, b3, p3, zipB .andNot S O⟩, ⟨a4, b4, p4, zipB .and S O⟩, ⟨a5, b5, p5, List.replicate S.length false⟩]) := ⟨H⟩
      clear H H17
      go_wp2_with fail
      refine (H18.out.count 3 rfl cm hE.out.2.2.2.1).mono ?_
      rintro e w19 ⟨rfl, H⟩
      have H19 := Aside0.mk H
      clear H H18
      go_wp2_with fail
      refine (H19.out.union 3 4 rfl rfl (by decide) (by rw [hX.out.2.2.2.2.2.1, hX.out.2.2.2.2.2.2.1])).mono ?_
      rw [hX.out.2.2.2.1.2]
      rintro e w20 ⟨rfl, H⟩
      have H20 : Aside0 (Ss w w20 [⟨a0, b0, p0, S⟩, ⟨a1, b1, p1, O⟩, ⟨a2, b2, p2, zipB .or S O⟩, ⟨a3, b3, p3, S⟩, ⟨a4, b4, p4, zipB .and S O⟩, ⟨a5, b5, p5, List.replicate S.length false⟩]) := ⟨H⟩
      clear H H19
      go_wp2_with fail
      refine (H20.out.count 5 rfl 0 (cnt_zero _)).mono ?_
      rintro e w21 ⟨rfl, H⟩
      have H21 := Aside0.mk H
      clear H H20
      go_wp2_with fail
      refine (H21.out.equal 3 0 rfl rfl true (by simp)).mono ?_
      rintro e w22 ⟨rfl, H⟩
      have H22 := Aside0.mk H.below
      clear H H21
      go_wp2
      go_ret
      exact ⟨rfl, H22.out⟩

theorem alg_walk (n : Int) (A : Option Addr) (ca : Nat) (xa : List Int) (B : Option Addr) (cb : Nat) (xb : List Int) (w : World) (wn : (Lit.int .i64 n).wf = true) (ha : xa.length ≤ ca) (hCa : Kd.C (Kd.int .i64) w A xa.length xa) (ga : xa.length * 8 ≤ 140737488351232 ∧ ∀ x ∈ xa, (Lit.int .i64 x).wf = true)
    (hb : xb.length ≤ cb) (hCb : Kd.C (Kd.int .i64) w B xb.length xb) (gb : xb.length * 8 ≤ 140737488351232 ∧ ∀ x ∈ xb, (Lit.int .i64 x).wf = true) (hD : DB w) :
    Calls Tryd.prog 5 #[.int .i64 n, .slice A xa.length ca, .slice B xb.length cb] w fun e w' => e = .returned (.bool true) ∧ Below w.heap.size w w' := by
  by_cases he : n < 0 ∨ 2000 < n ∨ (200 : Int) < xa.length ∨ (200 : Int) < xb.length
  · exact alg_early n A _ ca B _ cb w hD he
  · obtain ⟨m, rfl⟩ := Int.eq_ofNat_of_zero_le (show 0 ≤ n by omega)
    exact alg_main m A ca xa B cb xb w hD (by omega) (by omega) (by omega) hCa hCb
end Go.Proofs.YtibjpamnkhnagaaDoor
