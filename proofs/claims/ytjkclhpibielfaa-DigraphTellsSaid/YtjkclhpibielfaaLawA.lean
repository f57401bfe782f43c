/- DigraphTells: the law's walk. -/
import Derived.Test.YtjkclhpibielfaaLawP
import Derived.Test.YtjkclhpibielfaaFrK
set_option linter.unusedVariables false
set_option linter.unusedSimpArgs false
namespace Go.Proofs.Ytjkclhpibielfaa
open Go.RowKit Go.Proofs.YtjkclhpibielfaaW.PrintWords Go.Proofs.Ytjkclhpibielfaa.PDigraphTells Mem

set_option maxRecDepth 100000 in
set_option maxHeartbeats 4000000 in
theorem tells_walk (cs : Array Value) (G : List (List Int)) (a b : Int) (w : World) (hK : kGr.K w G cs.toList) (hg : big G) (ha : (Lit.int .i64 a).wf = true) (hb : (Lit.int .i64 b).wf = true) :
    Calls Try.prog 3 #[.agg cs, .int .i64 a, .int .i64 b] w fun e w' => e = .returned (.bool true) ∧ Below w.heap.size w w' := by
  obtain ⟨A, c, rfl, hc, hC⟩ := graph_arg hK
  obtain ⟨r, hr⟩ : ∃ r, chk G = r := ⟨_, rfl⟩
  obtain ⟨sm, hsm⟩ : ∃ sm, smallB G = sm := ⟨_, rfl⟩
  have hX := Aside0.mk (And.intro hc (And.intro hg.short (And.intro hg.edges (And.intro hr hsm))))
  have hfl := field_succs
  have H0 := Aside0.mk (Gw.start (c := c) hC)
  clear hK hg ha hb hC hc hr hsm
  go_enter Try.func3, Try.ntmps3
  go_wp2_with fail
  obtain ⟨gb, hgb⟩ : ∃ gb, gb = w.heap.size := ⟨_, rfl⟩
  obtain ⟨w1, hw1⟩ : ∃ w1, w1 = w.alloc (.cells #[.slice A G.length c] 24 (0, 0)) := ⟨_, rfl⟩
  rw [← hgb, ← hw1] at H0
  rw [show Value.pointer (some (⟨w.heap.size, 0, none⟩ : Addr)) = Value.pointer (some ⟨gb, 0, none⟩) by rw [hgb], ← hw1]
  clear hgb hw1
  have c0 := H0.out.cell
  go_region_held3 (fun w' => w'.cell? ⟨gb, 0, none⟩ = some (.slice A G.length c)) (first | assumption | go_keep) (first
    | ((go_at_call 7; refine (check_any A c G _ (H0.out.drewN 1).C hX.out.1 hX.out.2.1 r hX.out.2.2.2.1).mono ?_)
       rintro e w2 ⟨rfl, B2⟩
       have H2 := Aside0.mk ((H0.out.drewN 1).step B2)
       have c2 := H2.out.cell)
    | ((go_at_call 8; refine (rcheck_any A c G w2 H2.out.C hX.out.1 hX.out.2.1 r hX.out.2.2.2.1).mono ?_)
       rintro e w3 ⟨rfl, B3⟩
       have H3 := Aside0.mk (H2.out.step B3)
       have c3 := H3.out.cell))
  clear c2 H2 c0 H0 B2 B3
  go_wp2_with fail
  refine (small_any A c G _ H3.out.C hX.out.1 hX.out.2.1 hX.out.2.2.1 sm hX.out.2.2.2.2).mono ?_
  rintro e w4 ⟨rfl, B4⟩
  have H4 := Aside0.mk (H3.out.step B4)
  clear c3 B4 H3
  have c0 := H4.out.cell
  cases sm
  · go_wp2_with fail
    refine (awake_any _).mono ?_
    rintro e w5 ⟨rfl, B5⟩
    have H5 := Aside0.mk (H4.out.step B5)
    clear c0 B5 H4
    go_wp2
    go_ret
    exact ⟨rfl, H5.out.b⟩
  have hE := Aside0.mk (small_le hX.out.2.2.2.2)
  obtain ⟨pr, hpr⟩ : ∃ pr, Aside0 (pr = (post G a).reverse) := ⟨_, ⟨rfl⟩⟩
  go_wp2_with fail
  go_region_held3 (fun w' => w'.cell? ⟨gb, 0, none⟩ = some (.slice A G.length c)) (first | assumption | go_keep) (first
    | ((go_at_call 12; refine (preds_any A c G _ (by first | exact H4.out.C | exact (H4.out.drewN _).C) hX.out.1 hX.out.2.1).mono ?_)
       rintro e a5 ⟨v, rfl, Rx, Bx⟩
       obtain ⟨A5, c5, ev, hx, Cx⟩ := Kd.R_reads Rx
       subst ev
       have Bx : Below w4.heap.size w4 a5 := by first | exact Bx | exact (pw_below_drewN (Below.refl _ w4) _).trans Bx
       have P5 := Aside0.mk (And.intro (H4.out.step Bx) (And.intro hx Cx))
       have q5 := P5.out.1.cell
       clear Bx hx Cx)
    | ((go_at_call 13; with_reducible refine (rpreds_any A c G _ (by first | exact P5.out.1.C | exact (P5.out.1.drewN _).C) hX.out.1 hX.out.2.1 (by have := hE.out.2; omega)).mono ?_)
       rintro e b5 ⟨B5, e5, rfl, hx, Cx, Bx⟩
       have Bx : Below a5.heap.size a5 b5 := by first | exact Bx | exact (pw_below_drewN (Below.refl _ a5) _).trans Bx
       have Q5 := Aside0.mk (And.intro (P5.out.1.step Bx) (And.intro P5.out.2.1 (And.intro (Kd.C_below P5.out.2.2 Bx) (And.intro hx Cx))))
       have r5 := Q5.out.1.cell
       clear Bx hx Cx)
    | ((go_at_call 11; with_reducible refine (sameLists_any A5 c5 (predL G) B5 e5 _ (by first | exact Q5.out.2.2.1 | exact Kd.C_drewN Q5.out.2.2.1 _) Q5.out.2.1 (by first | exact Q5.out.2.2.2.2 | exact Kd.C_drewN Q5.out.2.2.2.2 _) Q5.out.2.2.2.1 (short_pred hE.out)).mono ?_)
       rintro e d5 ⟨rfl, Bx⟩
       have Bx : Below b5.heap.size b5 d5 := by first | exact Bx | exact (pw_below_drewN (Below.refl _ b5) _).trans Bx
       have H5 := Aside0.mk (Q5.out.1.step Bx)
       have s5 := H5.out.cell
       clear Bx)
    | ((go_at_call 14; refine (rev_any A c G _ (by first | exact H5.out.C | exact (H5.out.drewN _).C) hX.out.1 hX.out.2.1 (fun _ => by have := hE.out.2; omega)).mono ?_)
       rintro e a6 ⟨A6, c6, rfl, hx, Cx, Bx⟩
       have Bx : Below d5.heap.size d5 a6 := by first | exact Bx | exact (pw_below_drewN (Below.refl _ d5) _).trans Bx
       have P6 := Aside0.mk (And.intro (H5.out.step Bx) (And.intro hx Cx))
       have q6 := P6.out.1.cell
       clear Bx hx Cx)
    | ((go_at_call 15; with_reducible refine (rrev_any A c G _ (by first | exact P6.out.1.C | exact (P6.out.1.drewN _).C) hX.out.1 hX.out.2.1 (fun _ => by have := hE.out.2; omega)).mono ?_)
       rintro e b6 ⟨v, rfl, Rx, Bx⟩
       obtain ⟨B6, e6, ev, hx, Cx⟩ := Kd.R_reads Rx
       subst ev
       have Bx : Below a6.heap.size a6 b6 := by first | exact Bx | exact (pw_below_drewN (Below.refl _ a6) _).trans Bx
       have Q6 := Aside0.mk (And.intro (P6.out.1.step Bx) (And.intro P6.out.2.1 (And.intro (Kd.C_below P6.out.2.2 Bx) (And.intro hx Cx))))
       have r6 := Q6.out.1.cell
       clear Bx hx Cx)
    | ((go_at_call 11; with_reducible refine (sameLists_any A6 c6 (revL G) B6 e6 _ (by first | exact Q6.out.2.2.1 | exact Kd.C_drewN Q6.out.2.2.1 _) Q6.out.2.1 (by first | exact Q6.out.2.2.2.2 | exact Kd.C_drewN Q6.out.2.2.2.2 _) Q6.out.2.2.2.1 (short_rev hE.out)).mono ?_)
       rintro e d6 ⟨rfl, Bx⟩
       have Bx : Below b6.heap.size b6 d6 := by first | exact Bx | exact (pw_below_drewN (Below.refl _ b6) _).trans Bx
       have H6 := Aside0.mk (Q6.out.1.step Bx)
       have s6 := H6.out.cell
       clear Bx)
    | ((go_at_call 17; refine (reach_any A c G a _ (by first | exact H6.out.C | exact (H6.out.drewN _).C) hX.out.1 hX.out.2.1).mono ?_)
       rintro e a7 ⟨v, rfl, Rx, Bx⟩
       obtain ⟨A7, c7, ev, hx, Cx⟩ := Kd.R_reads Rx
       subst ev
       have Bx : Below d6.heap.size d6 a7 := by first | exact Bx | exact (pw_below_drewN (Below.refl _ d6) _).trans Bx
       have P7 := Aside0.mk (And.intro (H6.out.step Bx) (And.intro hx Cx))
       have q7 := P7.out.1.cell
       clear Bx hx Cx)
    | ((go_at_call 18; with_reducible refine (rreach_any A c G a _ (by first | exact P7.out.1.C | exact (P7.out.1.drewN _).C) hX.out.1 hX.out.2.1).mono ?_)
       rintro e b7 ⟨B7, e7, rfl, hx, Cx, Bx⟩
       have Bx : Below a7.heap.size a7 b7 := by first | exact Bx | exact (pw_below_drewN (Below.refl _ a7) _).trans Bx
       have Q7 := Aside0.mk (And.intro (P7.out.1.step Bx) (And.intro P7.out.2.1 (And.intro (Kd.C_below P7.out.2.2 Bx) (And.intro hx Cx))))
       have r7 := Q7.out.1.cell
       clear Bx hx Cx)
    | ((go_at_call 16; with_reducible refine (sameB_any A7 c7 (reachL G a) B7 e7 _ (by first | exact Q7.out.2.2.1 | exact Kd.C_drewN Q7.out.2.2.1 _) Q7.out.2.1 (by first | exact Q7.out.2.2.2.2 | exact Kd.C_drewN Q7.out.2.2.2.2 _) Q7.out.2.2.2.1 (by have := reach_len (G := G) (a := a); have := hE.out.1; omega)).mono ?_)
       rintro e d7 ⟨rfl, Bx⟩
       have Bx : Below b7.heap.size b7 d7 := by first | exact Bx | exact (pw_below_drewN (Below.refl _ b7) _).trans Bx
       have H7 := Aside0.mk (Q7.out.1.step Bx)
       have s7 := H7.out.cell
       clear Bx)
    | ((go_at_call 20; refine (post_any A c G a _ (by first | exact H7.out.C | exact (H7.out.drewN _).C) hX.out.1 hX.out.2.1).mono ?_)
       rintro e a8 ⟨v, rfl, Rx, Bx⟩
       obtain ⟨A8, c8, ev, hx, Cx⟩ := Kd.R_reads Rx
       subst ev
       have Bx : Below d7.heap.size d7 a8 := by first | exact Bx | exact (pw_below_drewN (Below.refl _ d7) _).trans Bx
       have P8 := Aside0.mk (And.intro (H7.out.step Bx) (And.intro hx Cx))
       have q8 := P8.out.1.cell
       clear Bx hx Cx)
    | ((go_at_call 21; with_reducible refine (rpostR_any A c G a _ (by first | exact P8.out.1.C | exact (P8.out.1.drewN _).C) hX.out.1 hX.out.2.1).mono ?_)
       rintro e b8 ⟨B8, e8, rfl, hx, Cx, Bx⟩
       have Bx : Below a8.heap.size a8 b8 := by first | exact Bx | exact (pw_below_drewN (Below.refl _ a8) _).trans Bx
       have Q8 := Aside0.mk (And.intro (P8.out.1.step Bx) (And.intro P8.out.2.1 (And.intro (Kd.C_below P8.out.2.2 Bx) (And.intro hx Cx))))
       have r8 := Q8.out.1.cell
       clear Bx hx Cx)
    | ((go_at_call 19; with_reducible refine (same_any A8 c8 (post G a) B8 e8 (post G a) _ (by first | exact Q8.out.2.2.1 | exact Kd.C_drewN Q8.out.2.2.1 _) Q8.out.2.1 (by first | exact Q8.out.2.2.2.2 | exact Kd.C_drewN Q8.out.2.2.2.2 _) Q8.out.2.2.2.1 (by have := post_len G a; have := hE.out.1; omega) true (decide_eq_true rfl)).mono ?_)
       rintro e d8 ⟨rfl, Bx⟩
       have Bx : Below b8.heap.size b8 d8 := by first | exact Bx | exact (pw_below_drewN (Below.refl _ b8) _).trans Bx
       have H8 := Aside0.mk (Q8.out.1.step Bx)
       have s8 := H8.out.cell
       clear Bx)
    | ((go_at_call 22; refine (rpost_any A c G a _ (by first | exact H8.out.C | exact (H8.out.drewN _).C) hX.out.1 hX.out.2.1 (by have := hE.out.1; omega)).mono ?_)
       rintro e a9 ⟨v, rfl, Rx, Bx⟩
       rw [← hpr.out] at Rx
       obtain ⟨A9, c9, ev, hx, Cx⟩ := Kd.R_reads Rx
       subst ev
       have Bx : Below d8.heap.size d8 a9 := by first | exact Bx | exact (pw_below_drewN (Below.refl _ d8) _).trans Bx
       have P9 := Aside0.mk (And.intro (H8.out.step Bx) (And.intro hx Cx))
       have q9 := P9.out.1.cell
       clear Bx hx Cx)
    | ((go_at_call 23; with_reducible refine (rrpostR_any A c G a _ (by first | exact P9.out.1.C | exact (P9.out.1.drewN _).C) hX.out.1 hX.out.2.1 (by have := hE.out.1; omega)).mono ?_)
       rintro e b9 ⟨B9, e9, ev, hx, Cx, Bx⟩
       rw [← hpr.out] at ev hx Cx
       subst ev
       have Bx : Below a9.heap.size a9 b9 := by first | exact Bx | exact (pw_below_drewN (Below.refl _ a9) _).trans Bx
       have Q9 := Aside0.mk (And.intro (P9.out.1.step Bx) (And.intro P9.out.2.1 (And.intro (Kd.C_below P9.out.2.2 Bx) (And.intro hx Cx))))
       have r9 := Q9.out.1.cell
       clear Bx hx Cx)
    | ((go_at_call 19; with_reducible refine (same_any A9 c9 pr B9 e9 pr _ (by first | exact Q9.out.2.2.1 | exact Kd.C_drewN Q9.out.2.2.1 _) Q9.out.2.1 (by first | exact Q9.out.2.2.2.2 | exact Kd.C_drewN Q9.out.2.2.2.2 _) Q9.out.2.2.2.1 (by have := post_len G a; have := hE.out.1; rw [hpr.out, List.length_reverse]; omega) true (decide_eq_true rfl)).mono ?_)
       rintro e d9 ⟨rfl, Bx⟩
       have Bx : Below b9.heap.size b9 d9 := by first | exact Bx | exact (pw_below_drewN (Below.refl _ b9) _).trans Bx
       have H9 := Aside0.mk (Q9.out.1.step Bx)
       have s9 := H9.out.cell
       clear Bx)
    | ((go_at_call 24; refine (short_any A c G a b _ (by first | exact H9.out.C | exact (H9.out.drewN _).C) hX.out.1 hX.out.2.1).mono ?_)
       rintro e a10 ⟨A10, c10, p, rfl, hx, hp, Cx, Bx⟩
       have Bx : Below d9.heap.size d9 a10 := by first | exact Bx | exact (pw_below_drewN (Below.refl _ d9) _).trans Bx
       have P10 := Aside0.mk (And.intro (H9.out.step Bx) (And.intro hx Cx))
       have q10 := P10.out.1.cell
       clear Bx hx Cx)
    | ((go_at_call 25; with_reducible refine (rshort_any A c G a b _ (by first | exact P10.out.1.C | exact (P10.out.1.drewN _).C) hX.out.1 hX.out.2.1 p hp).mono ?_)
       rintro e b10 ⟨B10, e10, rfl, hx, Cx, Bx⟩
       have Bx : Below a10.heap.size a10 b10 := by first | exact Bx | exact (pw_below_drewN (Below.refl _ a10) _).trans Bx
       have Q10 := Aside0.mk (And.intro (P10.out.1.step Bx) (And.intro P10.out.2.1 (And.intro (Kd.C_below P10.out.2.2 Bx) (And.intro hx Cx))))
       have r10 := Q10.out.1.cell
       clear Bx hx Cx)
    | ((go_at_call 19; with_reducible refine (same_any A10 c10 p B10 e10 p _ (by first | exact Q10.out.2.2.1 | exact Kd.C_drewN Q10.out.2.2.1 _) Q10.out.2.1 (by first | exact Q10.out.2.2.2.2 | exact Kd.C_drewN Q10.out.2.2.2.2 _) Q10.out.2.2.2.1 (by have := spath_len hp; omega) true (decide_eq_true rfl)).mono ?_)
       rintro e d10 ⟨rfl, Bx⟩
       have Bx : Below b10.heap.size b10 d10 := by first | exact Bx | exact (pw_below_drewN (Below.refl _ b10) _).trans Bx
       have H10 := Aside0.mk (Q10.out.1.step Bx)
       have s10 := H10.out.cell
       clear Bx)
    | ((go_at_call 10; with_reducible refine (awake_any _).mono ?_)
       rintro e w9 ⟨rfl, Bx⟩
       have Bx : Below d10.heap.size d10 w9 := by first | exact Bx | exact (pw_below_drewN (Below.refl _ d10) _).trans Bx
       have H11 := Aside0.mk (H10.out.step Bx)
       have s11 := H11.out.cell
       clear Bx))
  clear s5 s6 s7 s8 s9 s10 q5 q6 q7 q8 q9 q10 r5 r6 r7 r8 r9 r10
  go_wp2
  go_ret
  exact ⟨rfl, H11.out.b⟩
end Go.Proofs.Ytjkclhpibielfaa
