import Derived.Test.YtbphjbfnnhfhlaaMPos12
section
/- The walk of domtree.Build. -/
set_option linter.unusedVariables false
set_option linter.unusedSimpArgs false
set_option linter.unusedSectionVars false
namespace Go.Proofs.Ytbphjbfnnhfhlaa
open Go.RowKit Go.Proofs.YtbphjbfnnhfhlaaW.PrintWords Go.Proofs.Ytbphjbfnnhfhlaa.PDigraphTells Mem

/-- The solver in memory: ranks RL, parents TL. -/
structure Bw (w wP wi : World) (p gr gt lr lt lp n cp cr ct : Nat) (Ap : Option Addr) (PL : List (List Int)) (RL TL : List Int) : Prop where
  b : Below w.heap.size w wi
  hs : wi.heap[p]? = some (.cells #[.slice Ap n cp, .slice (some ⟨gr, 0, none⟩) n cr, .slice (some ⟨gt, 0, none⟩) n ct] 49 (0, 0))
  P : Kd.C kG wP Ap n PL
  bP : Below wP.heap.size wP wi
  R : Kd.R (Kd.int .i64) 3 wi 0 (fun k => lr ≤ k ∧ k < lt) (.slice (some ⟨gr, 0, none⟩) n cr) RL
  T : Kd.R (Kd.int .i64) 3 wi 0 (fun k => lt ≤ k ∧ k < lp) (.slice (some ⟨gt, 0, none⟩) n ct) TL
  o1 : w.heap.size ≤ wP.heap.size
  o2 : wP.heap.size ≤ lr
  o3 : lr ≤ lt
  o4 : lp ≤ p
  rl : RL.length = n
  tl : TL.length = n
section
variable {w wP wi wj : World} {p gr gt lr lt lp n cp cr ct : Nat} {Ap : Option Addr} {PL : List (List Int)} {RL TL : List Int} (h : Bw w wP wi p gr gt lr lt lp n cp cr ct Ap PL RL TL)
include h
theorem Bw.step (hb : Below wi.heap.size wi wj) : Bw w wP wj p gr gt lr lt lp n cp cr ct Ap PL RL TL :=
  ⟨h.b.trans (hb.mono h.b.size), (hb.block p (blk_lt' h.hs)).trans h.hs, h.P, h.bP.trans (hb.mono h.bP.size), Kd.R_step h.R (fun k _ hlt => hb.block k hlt), Kd.R_step h.T (fun k _ hlt => hb.block k hlt), h.o1, h.o2, h.o3, h.o4, h.rl, h.tl⟩
theorem Bw.putT (x v : Int) : Bw w wP (wi.setCell ⟨gt, x.toNat, none⟩ (.int .i64 v)) p gr gt lr lt lp n cp cr ct Ap PL RL (TL.set x.toNat v) := by
  have hg := h.T.1 gt rfl
  have hr := h.R.1 gr rfl
  have h1 := h.o1; have h2 := h.o2; have h3 := h.o3; have h4 := h.o4
  have hk : Kp (fun k => k = gt) wi (wi.setCell ⟨gt, x.toNat, none⟩ (.int .i64 v)) := (Kp.refl (fun k => k = gt) wi).setCell (p := ⟨gt, x.toNat, none⟩) (.inl rfl) _
  refine ⟨h.b.trans (hk.belowB (fun k hk => by subst hk; omega) h.b.size), hk.blk h.hs (by omega), h.P, h.bP.trans (hk.belowB (fun k hk => by subst hk; omega) h.bP.size), Kd.R_step h.R (fun k hk2 hlt => hk.block hlt (by omega)), (Kd.R_putg h.T x v).1, h.o1, h.o2, h.o3, h.o4, h.rl, by rw [List.length_set]; exact h.tl⟩
theorem Bw.putR (x v : Int) : Bw w wP (wi.setCell ⟨gr, x.toNat, none⟩ (.int .i64 v)) p gr gt lr lt lp n cp cr ct Ap PL (RL.set x.toNat v) TL := by
  have hg := h.T.1 gt rfl
  have hr := h.R.1 gr rfl
  have h1 := h.o1; have h2 := h.o2; have h3 := h.o3; have h4 := h.o4
  have hk : Kp (fun k => k = gr) wi (wi.setCell ⟨gr, x.toNat, none⟩ (.int .i64 v)) := (Kp.refl (fun k => k = gr) wi).setCell (p := ⟨gr, x.toNat, none⟩) (.inl rfl) _
  refine ⟨h.b.trans (hk.belowB (fun k hk => by subst hk; omega) h.b.size), hk.blk h.hs (by omega), h.P, h.bP.trans (hk.belowB (fun k hk => by subst hk; omega) h.bP.size), (Kd.R_putg h.R x v).1, Kd.R_step h.T (fun k hk2 hlt => hk.block hlt (by omega)), h.o1, h.o2, h.o3, h.o4, by rw [List.length_set]; exact h.rl, h.tl⟩
theorem Bw.sr : Sr wi p gr gt n cr ct RL TL :=
  ⟨cell_at h.hs rfl, cell_at h.hs rfl, fun x a b => (Kd.R_celln 0 h.R x a b).1, fun x a b => (Kd.R_celln 0 h.T x a b).1, h.rl, h.tl⟩
theorem Bw.c0 : wi.cell? ⟨p, 0, none⟩ = some (.slice Ap n cp) := cell_at h.hs rfl
theorem Bw.C : Kd.C kG wi Ap n PL := Kd.C_below h.P h.bP
theorem Bw.fr (x : Int) (a : 0 ≤ x) (b : x < n) : wi.frozen? ⟨gr, x.toNat, none⟩ = false := (Kd.R_celln 0 h.R x a b).2
theorem Bw.ft (x : Int) (a : 0 ≤ x) (b : x < n) : wi.frozen? ⟨gt, x.toNat, none⟩ = false := (Kd.R_celln 0 h.T x a b).2
end

set_option maxRecDepth 100000 in
set_option maxHeartbeats 2000000 in
theorem build_no (A : Option Addr) (c : Nat) (G : List (List Int)) (e : Int) (w : World) (hC : Kd.C kG w A G.length G) (hc : G.length ≤ c) (hs : short G) (hl : G.length ≤ 70) (h : ¬ (chk G = 0 ∧ isNode G e)) :
    Calls Try.prog 12 #[.agg #[.slice A G.length c], .int .i64 e] w fun e' w' => e' = .returned (.slice none 0 0) ∧ Below w.heap.size w w' := by
  have hX := Aside0.mk (And.intro hC (And.intro hc (And.intro hs (And.intro hl h))))
  have H0 := Aside0.mk (Gw.start (c := c) hC)
  clear hC hc hs hl h
  go_enter Try.func12, Try.ntmps12
  go_wp2_with fail
  obtain ⟨gb, hgb⟩ : ∃ gb, gb = w.heap.size := ⟨_, rfl⟩
  obtain ⟨w1, hw1⟩ : ∃ w1, w1 = w.alloc (.cells #[.slice A G.length c] 24 (0, 0)) := ⟨_, rfl⟩
  rw [← hgb, ← hw1] at H0
  rw [show Value.pointer (some (⟨w.heap.size, 0, none⟩ : Addr)) = Value.pointer (some ⟨gb, 0, none⟩) by rw [hgb], ← hw1]
  clear hgb hw1
  refine (rpost_any A c G e _ H0.out.C hX.out.2.1 hX.out.2.2.1 (by have := hX.out.2.2.2.1; omega)).mono ?_
  rintro e' w2 ⟨v, rfl, Rx, B2⟩
  have hp : post G e = [] := by unfold post; rw [if_neg hX.out.2.2.2.2]
  rw [hp] at Rx
  obtain ⟨A5, c5, ev, hx, Cx⟩ := Kd.R_reads Rx
  subst ev
  have H2 := Aside0.mk (H0.out.step B2)
  clear B2 H0 Rx hx Cx hp
  go_wp2
  go_ret
  exact ⟨rfl, H2.out.b⟩

set_option maxRecDepth 100000 in
set_option maxHeartbeats 4000000 in
theorem build_yes (A : Option Addr) (c : Nat) (G : List (List Int)) (e : Int) (w : World) (hC : Kd.C kG w A G.length G) (hc : G.length ≤ c) (hs : short G) (hl : G.length ≤ 70) (h : chk G = 0 ∧ isNode G e) :
    Calls Try.prog 12 #[.agg #[.slice A G.length c], .int .i64 e] w fun e' w' => ∃ v l, e' = .returned v ∧ Kd.R (Kd.int .i64) 3 w' 0 (fun k => w.heap.size ≤ k) v l ∧ Idm G e l ∧ Below w.heap.size w w' := by
  obtain ⟨L, hL⟩ : ∃ L, Aside0 (L = (post G e).reverse) := ⟨_, ⟨rfl⟩⟩
  obtain ⟨PL, hPL⟩ : ∃ PL, Aside0 (PL = predL G) := ⟨_, ⟨rfl⟩⟩
  have hX := Aside0.mk (And.intro hc (And.intro hs (And.intro hl h)))
  have hLl : Aside0 (L.length ≤ G.length ∧ 0 < L.length) := ⟨by rw [hL.out, List.length_reverse]; exact post_len G e, by obtain ⟨t, ht⟩ := rpo_head h; rw [hL.out, ht]; simp⟩
  have H0 := Aside0.mk (Gw.start (c := c) hC)
  clear hC hc hs hl h
  go_enter Try.func12, Try.ntmps12
  go_wp2_with fail
  obtain ⟨gb, hgb⟩ : ∃ gb, gb = w.heap.size := ⟨_, rfl⟩
  obtain ⟨w1, hw1⟩ : ∃ w1, w1 = w.alloc (.cells #[.slice A G.length c] 24 (0, 0)) := ⟨_, rfl⟩
  rw [← hgb, ← hw1] at H0
  rw [show Value.pointer (some (⟨w.heap.size, 0, none⟩ : Addr)) = Value.pointer (some ⟨gb, 0, none⟩) by rw [hgb], ← hw1]
  clear hgb hw1
  refine (rpost_any A c G e _ H0.out.C hX.out.1 hX.out.2.1 (by have := hX.out.2.2.1; omega)).mono ?_
  rintro e' w2 ⟨v, rfl, Rx, B2⟩
  rw [← hL.out] at Rx
  obtain ⟨A5, c5, ev, hx, Cx⟩ := Kd.R_reads Rx
  subst ev
  have H2 := Aside0.mk (And.intro (H0.out.step B2) (And.intro hx Cx))
  clear B2 H0 Rx hx Cx
  have hLne : ((L.length : Int) == 0) = false := by have := hLl.out.2; exact beq_eq_false_iff_ne.2 (by omega)
  have hLne2 : (L.length == 0) = false := by have := hLl.out.2; exact beq_eq_false_iff_ne.2 (by omega)
  have c0 := H2.out.1.cell
  go_wp2_with fail
  clear hLne hLne2
  refine (preds_any A c G _ H2.out.1.C hX.out.1 hX.out.2.1).mono ?_
  rintro e' w3 ⟨v, rfl, Rx, B3⟩
  have hPLl : PL.length = G.length := by rw [hPL.out]; exact pred_len hX.out.2.2.2.1
  rw [← hPL.out] at Rx
  obtain ⟨Ap, cp, ev, hx, Cx⟩ := Kd.R_reads Rx
  rw [hPLl] at ev Cx
  subst ev
  have H3 := Aside0.mk (And.intro (H2.out.1.step B3) (And.intro (Kd.C_below H2.out.2.2 B3) Cx))
  have hPLl := Aside0.mk hPLl
  clear B3 Rx hx Cx c0
  go_wp2_with fail
  refine (fill_any G.length (-1) _ (by have := hX.out.2.2.1; omega)).mono ?_
  rintro e' w4 ⟨v, rfl, RR, B4⟩
  obtain ⟨gr, cr, ev, _⟩ := Kd.R_form RR (by rw [List.length_replicate]; have h9 := hX.out.2.2.2.2; unfold isNode at h9; omega)
  rw [List.length_replicate] at ev
  subst ev
  have R4 := Aside0.mk (And.intro RR B4)
  clear RR B4
  go_wp2_with fail
  refine (fill_any G.length (-1) _ (by have := hX.out.2.2.1; omega)).mono ?_
  rintro e' w5 ⟨v, rfl, RR, B5⟩
  obtain ⟨gt, ct, ev, _⟩ := Kd.R_form RR (by rw [List.length_replicate]; have h9 := hX.out.2.2.2.2; unfold isNode at h9; omega)
  rw [List.length_replicate] at ev
  subst ev
  have R5 := Aside0.mk (And.intro RR B5)
  clear RR B5
  go_wp2_with fail
  obtain ⟨p, hp⟩ : ∃ p, p = w5.heap.size := ⟨_, rfl⟩
  obtain ⟨w6, hw6⟩ : ∃ w6, w6 = w5.alloc (.cells #[.slice Ap G.length cp, .slice (some ⟨gr, 0, none⟩) G.length cr, .slice (some ⟨gt, 0, none⟩) G.length ct] 49 (0, 0)) := ⟨_, rfl⟩
  rw [show Value.pointer (some (⟨w5.heap.size, 0, none⟩ : Addr)) = Value.pointer (some ⟨p, 0, none⟩) by rw [hp], ← hw6]
  have hI0 : Aside0 (Bw w w3 w6 p gr gt w3.heap.size w4.heap.size w5.heap.size G.length cp cr ct Ap PL (posL G (L.take 0)) (List.replicate G.length (-1)) ∧ Kd.C (Kd.int .i64) w3 A5 L.length L) := ⟨by
    have b34 := R4.out.2
    have b45 := R5.out.2
    have b56 : Below w5.heap.size w5 w6 := by rw [hw6]; exact below_alloc (Below.refl _ _) _
    have s1 := H3.out.1.b.size
    have s2 := b34.size
    have s3 := b45.size
    refine ⟨H3.out.1.b.trans (((b34.trans (b45.mono b34.size)).trans (b56.mono (by omega))).mono s1), by rw [hw6, hp]; exact heap_alloc_new w5 _, H3.out.2.2, (b34.trans (b45.mono b34.size)).trans (b56.mono (by omega)), ?_, ?_, s1, Nat.le_refl _, s2, by omega, posL_len _ _, List.length_replicate⟩
    · rw [show L.take 0 = [] from rfl, posL_nil]
      have hR := Kd.R_mono (Kd.R_bound R4.out.1) (ok' := fun k => w3.heap.size ≤ k ∧ k < w4.heap.size) (fun k hk => ⟨hk.1, hk.2.2.1⟩)
      exact Kd.R_step (Kd.R_step hR (fun k hk hlt => b45.block k hlt)) (fun k hk hlt => b56.block k hlt)
    · have hR := Kd.R_mono (Kd.R_bound R5.out.1) (ok' := fun k => w4.heap.size ≤ k ∧ k < w5.heap.size) (fun k hk => ⟨hk.1, hk.2.2.1⟩)
      exact Kd.R_step hR (fun k hk hlt => b56.block k hlt), H3.out.2.1⟩
  have hc5 := Aside0.mk H2.out.2.1
  clear hp hw6 H3 R4 R5 H2
  obtain ⟨lr, hlr⟩ : ∃ lr, lr = w3.heap.size := ⟨_, rfl⟩
  obtain ⟨lt, hlt⟩ : ∃ lt, lt = w4.heap.size := ⟨_, rfl⟩
  obtain ⟨lp, hlp⟩ : ∃ lp, lp = w5.heap.size := ⟨_, rfl⟩
  rw [← hlr, ← hlt, ← hlp] at hI0
  clear hlr hlt hlp
  have hLn : Aside0 (L.Nodup ∧ ∀ x ∈ L, isNode G x) := ⟨by rw [hL.out, List.nodup_iff_count]; intro x; rw [List.count_reverse]; exact List.nodup_iff_count.1 (post_nd hX.out.2.2.2) x, fun x hx => reach_node hX.out.2.2.2 ((rpo_mem hX.out.2.2.2 x).1 (by rw [← hL.out]; exact hx))⟩
  go_loopg [33] L.length (fun q v wi => ∃ i : Nat, i + q = L.length ∧ v = .int .i64 (i : Int) ∧ Aside0 (Bw w w3 wi p gr gt lr lt lp G.length cp cr ct Ap PL (posL G (L.take i)) (List.replicate G.length (-1)) ∧ Kd.C (Kd.int .i64) w3 A5 L.length L))
  case atStart => exact ⟨0, by omega, rfl, hI0⟩
  case round =>
    obtain ⟨i, hi, rfl, hJ⟩ := hrel
    clear hI0
    by_cases hlt : i < L.length
    · have hlti : (i : Int) < L.length := by omega
      obtain ⟨gk1, rfl⟩ : ∃ q, gk = q + 1 := ⟨gk - 1, by omega⟩
      have hi1 : i + 1 + gk1 = L.length := by omega
      have hgk1 : gk1 < gk1 + 1 := by omega
      obtain ⟨ad, eA, x0⟩ := Kd.at_int (Kd.C_below hJ.out.2 hJ.out.1.bP) (i : Int) (by omega) hlti
      rw [rd_get L i hlt, Int.toNat_natCast] at x0
      subst eA
      obtain ⟨k1, k2⟩ := hLn.out.2 L[i] (List.getElem_mem hlt)
      have hset := posL_set G (hLn.out.2 L[i] (List.getElem_mem hlt)) (posL_last G hLn.out.1 i hlt)
      rw [List.length_take, Nat.min_eq_left (Nat.le_of_lt hlt), ← List.take_succ_eq_append_getElem hlt] at hset
      obtain ⟨k, hk⟩ : ∃ k, k = L[i] := ⟨_, rfl⟩
      rw [← hk] at x0 k1 k2 hset
      have s1 := hJ.out.1.sr.c1
      have s2 := hJ.out.1.sr.r k k1 k2
      have s3 := hJ.out.1.fr k k1 k2
      have hput := hJ.out.1.putR k (i : Int)
      rw [hset] at hput
      have hI := Aside0.mk (And.intro hput hJ.out.2)
      have hl60 : L.length ≤ 70 := by have := hLl.out.1; have := hX.out.2.2.1; omega
      clear hput hset hJ hk
      go_wp2
      go_roundg gk1
      case rel => exact ⟨i + 1, hi1, by go_num, hI⟩
      case measure => exact hgk1
    · have hI1 : Aside0 (Bw w w3 wr p gr gt lr lt lp G.length cp cr ct Ap PL (posL G L) (List.replicate G.length (-1)) ∧ Kd.C (Kd.int .i64) w3 A5 L.length L) := ⟨by have := hJ.out; rw [List.take_of_length_le (by omega)] at this; exact this⟩
      clear hJ
      have he1 : 0 ≤ e := by have h9 := hX.out.2.2.2.2; unfold isNode at h9; omega
      have he2 : e < (G.length : Int) := by have h9 := hX.out.2.2.2.2; unfold isNode at h9; omega
      have s1 := hI1.out.1.sr.c2
      have s2 := hI1.out.1.sr.t e he1 he2
      have s3 := hI1.out.1.ft e he1 he2
      have hput := hI1.out.1.putT e e
      have hI2 := Aside0.mk (And.intro hput hI1.out.2)
      clear hput hI1
      go_wp2_with fail
      obtain ⟨w7, hw7⟩ : ∃ w7, w7 = wr.setCell ⟨gt, e.toNat, none⟩ (.int .i64 e) := ⟨_, rfl⟩
      rw [← hw7] at hI2 ⊢
      clear hw7 s1 s2 s3 hlt hi
      have hst : Aside0 (Hd G e L ((List.replicate G.length (-1)).set e.toNat e) true (G.length * G.length + 1)) := ⟨hd_start hX.out.2.2.2 hL.out⟩
      go_loopg [10] (G.length * G.length + 1) (fun q vc wi => ∃ (ch : Bool) (TL : List Int), vc = .bool ch ∧ Aside0 (Bw w w3 wi p gr gt lr lt lp G.length cp cr ct Ap PL (posL G L) TL ∧ Hd G e L TL ch q))
      case atStart => exact ⟨true, _, rfl, hI2.out.1, hst.out⟩
      case round =>
        obtain ⟨ch, TL, rfl, hJ⟩ := hrel
        clear hst
        cases ch
        · have hN := Aside0.mk (hd_idm hX.out.2.2.2 hL.out hJ.out.2)
          have s1 := hJ.out.1.sr.c2
          have hR := Aside0.mk (And.intro (Kd.R_mono hJ.out.1.T (ok' := fun k => w.heap.size ≤ k) (fun k hk => by have h1 := hJ.out.1.o1; have h2 := hJ.out.1.o2; have h3 := hJ.out.1.o3; omega)) hJ.out.1.b)
          clear hJ hI2
          go_wp2
          go_ret
          exact ⟨_, TL, rfl, hR.out.1, hN.out, hR.out.2⟩
        · obtain ⟨gk1, rfl⟩ : ∃ q, gk = q + 1 := ⟨gk - 1, by have := (hJ.out.2.go rfl).2; omega⟩
          have hgk1 : gk1 < gk1 + 1 := by omega
          obtain ⟨s, hps⟩ := pass_start hX.out.2.2.2 hL.out hJ.out.2
          have hI3 : Aside0 (Bw w w3 wr p gr gt lr lt lp G.length cp cr ct Ap PL (posL G L) TL ∧ Ps G e L s TL 1 false gk1) := ⟨hJ.out.1, hps⟩
          obtain ⟨X, hX1, hX2⟩ := row_from1 (A := A5) (l := L) (c := c5) hLl.out.2 hc5.out
          have hdl : (L.drop 1).length = L.length - 1 := by rw [List.length_drop]
          have hCd := Aside0.mk (hX2 w3 hI2.out.2)
          rw [hdl] at hCd
          clear hX2 hdl hJ
          go_wp2_with fail
          clear hX1
          go_loopg [10, 57] (L.length - 1) (fun q vc v wi => ∃ (j : Nat) (ch : Bool) (TL : List Int), j + q = L.length - 1 ∧ v = .int .i64 (j : Int) ∧ vc = .bool ch ∧ Aside0 (Bw w w3 wi p gr gt lr lt lp G.length cp cr ct Ap PL (posL G L) TL ∧ Ps G e L s TL ((j : Int) + 1) ch gk1))
          case atStart => exact ⟨0, false, TL, by omega, rfl, rfl, by simpa using hI3⟩
          case round =>
            obtain ⟨j, ch, TL2, hj, rfl, rfl, hJ⟩ := hrel
            clear hI3
            by_cases hltj : j < L.length - 1
            · have hltji : (j : Int) < ((L.length - 1 : Nat) : Int) := by omega
              obtain ⟨gk3, rfl⟩ : ∃ q, gk = q + 1 := ⟨gk - 1, by omega⟩
              have hj1 : j + 1 + gk3 = L.length - 1 := by omega
              have hgk3 : gk3 < gk3 + 1 := by omega
              have hl60 : L.length ≤ 70 := by have := hLl.out.1; have := hX.out.2.2.1; omega
              obtain ⟨ad, eA, x0⟩ := Kd.at_int (Kd.C_below hCd.out hJ.out.1.bP) (j : Int) (by omega) hltji
              rw [rd_get (L.drop 1) j (by rw [List.length_drop]; exact hltj), Int.toNat_natCast, List.getElem_drop] at x0
              subst eA
              obtain ⟨k1, k2⟩ := hLn.out.2 L[1 + j] (List.getElem_mem (by omega))
              have hpos := pos_at hLn.out.1 (1 + j) (by omega)
              obtain ⟨k, hk⟩ : ∃ k, k = L[1 + j] := ⟨_, rfl⟩
              rw [← hk] at x0 k1 k2 hpos
              have hpos : Aside0 (pos L k = (j : Int) + 1) := ⟨by rw [hpos]; omega⟩
              have hbest := best_any (hJ.out.2.wf hX.out.2.2.2 hL.out rfl) k k1 k2 p gr gt cr ct cp Ap PL wr hJ.out.1.sr hJ.out.1.C hJ.out.1.c0 (fun q hq => by
                rw [hPL.out] at hq
                have e1 : rd_L1 (predL G) k = pvU G G.length k := pred_adj hX.out.2.2.2.1 ⟨k1, k2⟩
                rw [e1] at hq
                exact ((mem_pvU G k q).1 hq).1) (by
                rw [hPL.out]
                have e1 : rd_L1 (predL G) k = pvU G G.length k := pred_adj hX.out.2.2.2.1 ⟨k1, k2⟩
                rw [e1]
                have := pvU_len G G.length k
                have := hX.out.2.2.1
                omega)
              have hbest := Aside0.mk hbest
              clear hk
              go_wp2_with fail
              refine hbest.out.mono ?_
              rintro e' w9 ⟨d, rfl, hb, hD⟩
              have hnca := bst_nca hX.out.2.2.2 hL.out hJ.out.2 hpos.out (by omega) (by rw [← hPL.out]; exact hb)
              have hM := Aside0.mk (And.intro (hJ.out.1.step hD.below) (And.intro hJ.out.2 hnca.1))
              have s1 := hM.out.1.sr.c2
              have s2 := hM.out.1.sr.t k k1 k2
              rw [distOf_rd TL2 k k1 (by rw [hM.out.2.1.len]; exact k2)] at s2
              have s3 := hM.out.1.ft k k1 k2
              clear hbest hb hD hnca hJ x0
              by_cases hdk : d = distOf TL2 k
              · have hI : Aside0 (Bw w w3 w9 p gr gt lr lt lp G.length cp cr ct Ap PL (posL G L) TL2 ∧ Ps G e L s TL2 (((j + 1 : Nat) : Int) + 1) ch gk1) := ⟨hM.out.1, by have := pass_same hX.out.2.2.2 hL.out hM.out.2.1 hpos.out (by omega) hM.out.2.2 hdk; rw [show (((j + 1 : Nat) : Int) + 1) = (j : Int) + 1 + 1 by omega]; exact this⟩
                rw [← hdk] at s2
                have e1 : (d != d) = false := by simp
                clear hM hdk
                go_wp2_with fail
                go_roundg gk3
                case rel => exact ⟨j + 1, ch, TL2, hj1, by go_num, rfl, hI⟩
                case measure => exact hgk3
              · have hput := hM.out.1.putT k d
                have hI : Aside0 (Bw w w3 (w9.setCell ⟨gt, k.toNat, none⟩ (.int .i64 d)) p gr gt lr lt lp G.length cp cr ct Ap PL (posL G L) (TL2.set k.toNat d) ∧ Ps G e L s (TL2.set k.toNat d) (((j + 1 : Nat) : Int) + 1) true gk1) := ⟨hput, by have := pass_new hX.out.2.2.2 hL.out hM.out.2.1 hpos.out (by omega) hM.out.2.2 hdk; rw [show (((j + 1 : Nat) : Int) + 1) = (j : Int) + 1 + 1 by omega]; exact this⟩
                obtain ⟨tk, htk⟩ : ∃ tk, distOf TL2 k = tk := ⟨_, rfl⟩
                rw [htk] at s2 hdk
                have e1 : (d != tk) = true := by simpa using hdk
                clear hM hdk htk hput
                go_wp2_with fail
                go_roundg gk3
                case rel => exact ⟨j + 1, true, TL2.set k.toNat d, hj1, by go_num, rfl, hI⟩
                case measure => exact hgk3
            · have hI : Aside0 (Bw w w3 wr p gr gt lr lt lp G.length cp cr ct Ap PL (posL G L) TL2 ∧ Hd G e L TL2 ch gk1) := ⟨hJ.out.1, by
                have h9 := hJ.out.2
                rw [show (j : Int) + 1 = (L.length : Int) by have := hLl.out.2; omega] at h9
                exact pass_end hX.out.2.2.2 hL.out h9⟩
              clear hJ
              go_wp2_with fail
              go_roundg gk1
              case rel => exact ⟨ch, TL2, rfl, hI⟩
              case measure => exact hgk1
/-- What Build answers. -/
def Bld (G : List (List Int)) (e : Int) (l : List Int) : Prop := ((chk G = 0 ∧ isNode G e) ∧ Idm G e l) ∨ (¬ (chk G = 0 ∧ isNode G e) ∧ l = [])
theorem Bld.uniq {G : List (List Int)} {e : Int} {l m : List Int} (hl : Bld G e l) (hm : Bld G e m) : l = m := by
  rcases hl with ⟨h1, h2⟩ | ⟨h1, h2⟩ <;> rcases hm with ⟨h3, h4⟩ | ⟨h3, h4⟩
  · exact idm_uniq h1 h2 h4
  · exact absurd h1 h3
  · exact absurd h3 h1
  · rw [h2, h4]
theorem build_any (A : Option Addr) (c : Nat) (G : List (List Int)) (e : Int) (w : World) (hC : Kd.C kG w A G.length G) (hc : G.length ≤ c) (hs : short G) (hl : G.length ≤ 70) :
    Calls Try.prog 12 #[.agg #[.slice A G.length c], .int .i64 e] w fun e' w' => ∃ v l, e' = .returned v ∧ Kd.R (Kd.int .i64) 3 w' 0 (fun k => w.heap.size ≤ k) v l ∧ Bld G e l ∧ Below w.heap.size w w' := by
  by_cases h : chk G = 0 ∧ isNode G e
  · refine (build_yes A c G e w hC hc hs hl h).mono ?_
    rintro e' w' ⟨v, l, h1, h2, h3, h4⟩
    exact ⟨v, l, h1, h2, .inl ⟨h, h3⟩, h4⟩
  · refine (build_no A c G e w hC hc hs hl h).mono ?_
    rintro e' w' ⟨rfl, h1⟩
    exact ⟨_, [], rfl, Kd.R_nil _ _ _ _ _, .inr ⟨h, rfl⟩, h1⟩
end Go.Proofs.Ytbphjbfnnhfhlaa
end

section
/- PostDominators. -/
set_option linter.unusedVariables false
set_option linter.unusedSimpArgs false
set_option linter.unusedSectionVars false
namespace Go.Proofs.Ytbphjbfnnhfhlaa
open Go.RowKit Go.Proofs.YtbphjbfnnhfhlaaW.PrintWords Go.Proofs.Ytbphjbfnnhfhlaa.PDigraphTells Mem

theorem own_emptyK {α : Type} (d : Kd α) (W : World) (e : Nat) (ok : Nat → Prop) (h : ok W.heap.size) : d.R e (W.alloc (.cells #[] e)) 0 ok (.slice (some ⟨W.heap.size, 0, none⟩) 0 0) [] := by
  refine ⟨fun k hk => ?_, [], World.ownsRow_made W #[] 0 (Nat.zero_le _) (Nat.zero_le _) (by simp), Reps.none _ _⟩
  have : W.heap.size = k := by simpa [Value.ownBlock] using hk
  exact this ▸ h
/-- The nodes without a successor, of the first i. -/
def sinkU (G : List (List Int)) (i : Nat) : List Int := ((List.range i).filter fun (j : Nat) => decide ((rd_L1 G (j : Int)).length = 0)).map fun (j : Nat) => (j : Int)
def postG (G : List (List Int)) : List (List Int) := predL G ++ [sinkU G G.length]
theorem sinkU_succ (G : List (List Int)) (i : Nat) : sinkU G (i + 1) = sinkU G i ++ if (rd_L1 G (i : Int)).length = 0 then [(i : Int)] else [] := by
  unfold sinkU
  rw [List.range_succ, List.filter_append, List.map_append]
  by_cases h : (rd_L1 G (i : Int)).length = 0
  · rw [if_pos h, List.filter_cons, if_pos (by simpa using h)]; rfl
  · rw [if_neg h, List.filter_cons, if_neg (by simpa using h)]; rfl
theorem sinkU_len (G : List (List Int)) (i : Nat) : (sinkU G i).length ≤ i := by
  unfold sinkU
  rw [List.length_map]
  have := List.length_filter_le (fun (j : Nat) => decide ((rd_L1 G (j : Int)).length = 0)) (List.range i)
  rwa [List.length_range] at this
theorem postG_len {G : List (List Int)} (h : chk G = 0) : (postG G).length = G.length + 1 := by unfold postG; rw [List.length_append, pred_len h]; rfl
theorem postG_short {G : List (List Int)} (h : chk G = 0) (hl : G.length ≤ 69) : short (postG G) := by
  refine ⟨by rw [postG_len h]; omega, fun l hl2 => ?_⟩
  unfold postG at hl2
  rcases List.mem_append.1 hl2 with h1 | h1
  · unfold predL at h1
    rw [if_pos h] at h1
    obtain ⟨b, _, rfl⟩ := List.mem_map.1 h1
    have := pvU_len G G.length b
    omega
  · rw [List.mem_singleton.1 h1]
    have := sinkU_len G G.length
    omega

theorem row_at {w : World} {A : Option Addr} {n : Nat} {G : List (List Int)} (hC : Kd.C kG w A n G) (i : Nat) (hi : i < n) : ∃ ad Ar cr, A = some ad ∧ w.cell? (ad.add i) = some (.slice Ar (rd_L1 G (i : Int)).length cr) := by
  obtain ⟨ad, c, e, _, hK, hcc⟩ := Kd.C_get hC [] (i : Int) (by omega) (by omega)
  obtain ⟨Ar, cr, rfl, _, _⟩ := hK
  have h0 := hcc 0 _ rfl
  rw [show kG.sz = 1 from rfl, Nat.mul_one, Nat.add_zero, Int.toNat_natCast] at h0
  exact ⟨ad, Ar, cr, e, h0⟩
/-- What stays while the row of sinks is written. -/
structure XS (w W0 : World) (gb gq go n : Nat) (A : Option Addr) (c CC : Nat) (P : List (List Int)) (cs : Array Value) : Prop where
  N : ∃ news : List (List Value), news.length = n ∧ (Kd.raw 1).R 28 W0 0 (fun _ => True) (.slice (some ⟨go, 0, none⟩) (n + 1) CC) (news ++ [[.slice none 0 0]]) ∧ ∀ (j : Nat) (x : List Int) (c : List Value), P[j]? = some x → news[j]? = some c → Kd.FK kG W0 (fun k => k ≠ go) x c
  g : W0.heap[gb]? = some (.cells #[.slice A n c] 24 (0, 0))
  q : W0.heap[gq]? = some (.cells #[.slice (some ⟨go, 0, none⟩) (n + 1) CC] 24 (0, 0))
  o : W0.heap[go]? = some (.cells cs 28 (0, 0))
  cn : cs[n]? = some (.slice none 0 0)
  wo : w.heap.size ≤ go
  ob : go ≠ gb
  oq : go ≠ gq
  b : Below w.heap.size w W0
  pl : P.length = n
/-- What holds while it is written. -/
structure XO (w W0 wi : World) (go n : Nat) (cs : Array Value) (AS : Option Addr) (cS : Nat) (S : List Int) : Prop where
  o : wi.heap[go]? = some (.cells (cs.setIfInBounds n (.slice AS S.length cS)) 28 (0, 0))
  kp : Kp (fun k => k = go) W0 wi
  R : Kd.R (Kd.int .i64) 3 wi 0 (fun k => W0.heap.size ≤ k) (.slice AS S.length cS) S
section
variable {w W0 wi wj wa : World} {gb gq go n c CC cS : Nat} {A AS : Option Addr} {P : List (List Int)} {cs : Array Value} {S : List Int}
theorem XO.start (hs : XS w W0 gb gq go n A c CC P cs) : XO w W0 W0 go n cs none 0 [] := by
  refine ⟨?_, Kp.refl _ _, Kd.R_nil _ _ _ _ _⟩
  rw [hs.o]
  congr 2
  apply Array.ext_getElem?
  intro j
  rw [Array.getElem?_setIfInBounds]
  split
  · next h => subst h; split
              · exact hs.cn
              · next h2 => exact absurd (Array.getElem?_eq_some_iff.1 hs.cn).1 h2
  · rfl
theorem XO.step (hs : XS w W0 gb gq go n A c CC P cs) (h : XO w W0 wi go n cs AS cS S) (hb : Below wi.heap.size wi wj) : XO w W0 wj go n cs AS cS S :=
  ⟨(hb.block go (blk_lt' h.o)).trans h.o, h.kp.then_ (Kp.of_below hb (fun _ => False)) (fun _ h => h.elim), Kd.R_step h.R (fun k _ hk => hb.block k hk)⟩
theorem XO.gc (hs : XS w W0 gb gq go n A c CC P cs) (h : XO w W0 wi go n cs AS cS S) : wi.cell? ⟨gb, 0, none⟩ = some (.slice A n c) := cell_at ((h.kp.blk hs.g (fun e => hs.ob e.symm))) rfl
theorem XO.qc (hs : XS w W0 gb gq go n A c CC P cs) (h : XO w W0 wi go n cs AS cS S) : wi.cell? ⟨gq, 0, none⟩ = some (.slice (some ⟨go, 0, none⟩) (n + 1) CC) := cell_at ((h.kp.blk hs.q (fun e => hs.oq e.symm))) rfl
theorem XO.oc (hs : XS w W0 gb gq go n A c CC P cs) (h : XO w W0 wi go n cs AS cS S) : wi.cell? ⟨go, n, none⟩ = some (.slice AS S.length cS) ∧ wi.frozen? ⟨go, n, none⟩ = false := by
  refine ⟨cell_at h.o ?_, free_at h.o n⟩
  rw [Array.getElem?_setIfInBounds, if_pos rfl, if_pos (Array.getElem?_eq_some_iff.1 hs.cn).1]
theorem XO.below (hs : XS w W0 gb gq go n A c CC P cs) (h : XO w W0 wi go n cs AS cS S) : Below w.heap.size w wi := hs.b.trans (h.kp.belowB (fun k hk => by rw [hk]; exact hs.wo) hs.b.size)
theorem XO.put (hs : XS w W0 gb gq go n A c CC P cs) (h : XO w W0 wi go n cs AS cS S) {A1 : Option Addr} {c1 : Nat} {S1 : List Int} (hg : wi.grownBy wa (Value.slice AS S.length cS).ownBlock) (hR : Kd.R (Kd.int .i64) 3 wa 0 (fun k => W0.heap.size ≤ k) (.slice A1 S1.length c1) S1) : XO w W0 (wa.setCell ⟨go, n, none⟩ (.slice A1 S1.length c1)) go n cs A1 c1 S1 := by
  have hgo := blk_lt' hs.o
  have hka : Kp (fun k => k = go) W0 wa := h.kp.grown hg (fun k hk => .inr (h.R.1 k hk))
  have hoa : wa.heap[go]? = wi.heap[go]? := hg.block go (blk_lt' h.o) (fun e => by have := h.R.1 go e.symm; omega)
  refine ⟨?_, hka.setCell (p := ⟨go, n, none⟩) (.inl rfl) _, Kd.R_far (p := ⟨go, n, none⟩) hR (fun k hk => by show k ≠ go; omega) _⟩
  rw [set_at (hoa.trans h.o), Array.setIfInBounds_setIfInBounds]
theorem XO.far (hs : XS w W0 gb gq go n A c CC P cs) (h : XO w W0 wi go n cs AS cS S) (hg : wi.grownBy wa (Value.slice AS S.length cS).ownBlock) : wa.cell? ⟨go, n, none⟩ = some (.slice AS S.length cS) ∧ wa.frozen? ⟨go, n, none⟩ = false ∧ wa.cell? ⟨gq, 0, none⟩ = some (.slice (some ⟨go, 0, none⟩) (n + 1) CC) := by
  have hgq := blk_lt' hs.q
  have hqi := h.kp.blk hs.q (fun e => hs.oq e.symm)
  have hqa : wa.heap[gq]? = wi.heap[gq]? := hg.block gq (blk_lt' hqi) (fun e => by have := h.R.1 gq e.symm; omega)
  have hgo := blk_lt' hs.o
  have hoa : wa.heap[go]? = wi.heap[go]? := hg.block go (blk_lt' h.o) (fun e => by have := h.R.1 go e.symm; omega)
  refine ⟨cell_at (hoa.trans h.o) ?_, free_at (hoa.trans h.o) n, cell_at (hqa.trans hqi) rfl⟩
  rw [Array.getElem?_setIfInBounds, if_pos rfl, if_pos (Array.getElem?_eq_some_iff.1 hs.cn).1]
theorem XO.C (hs : XS w W0 gb gq go n A c CC P cs) (h : XO w W0 wi go n cs AS cS S) (hn : n < 1000) : Kd.C kG wi (some ⟨go, 0, none⟩) (n + 1) (P ++ [S]) := by
  refine ⟨by rw [List.length_append, hs.pl]; rfl, by omega, fun _ => ⟨_, rfl, fun j p hj => ?_⟩⟩
  have hjl : j < n + 1 := by have := (List.getElem?_eq_some_iff.1 hj).1; rw [List.length_append, hs.pl] at this; exact this
  rw [show kG.sz = 1 from rfl, Nat.mul_one]
  by_cases hjn : j < n
  · obtain ⟨news, hnl, hNR, hNF⟩ := hs.N
    obtain ⟨c', hcl, hM, hcc, _⟩ := Kd.R_elem hNR [] (j : Int) (by omega) (by omega)
    rw [Int.toNat_natCast] at hM hcc
    have hjP : j < P.length := by rw [hs.pl]; exact hjn
    have hjN : j < news.length := by rw [hnl]; exact hjn
    rw [List.getElem?_append_left hjP] at hj
    have e1 : news[j]? = some c' := by
      have h1 := hM.1
      rw [List.getD_eq_getElem?_getD, List.getElem?_append_left hjN, List.getElem?_eq_getElem hjN] at h1
      rw [List.getElem?_eq_getElem hjN]
      exact congrArg some h1.symm
    refine ⟨c', hcl, Kd.FK_now (Kd.FK_step (hNF j p c' hj e1) (fun k hk hlt => h.kp.block hlt (fun e => hk e))), fun i u hu => ?_⟩
    have hi : i = 0 := by have := (List.getElem?_eq_some_iff.1 hu).1; rw [hcl] at this; have : i < 1 := this; omega
    subst hi
    have h1 := hcc 0 u hu
    rw [show (Kd.raw 1).sz = 1 from rfl, Nat.mul_one, Nat.add_zero] at h1
    rw [add0, Nat.add_zero]
    have h2 : cs[j]? = some u := by simpa [World.cell?, hs.o] using h1
    refine cell_at h.o ?_
    rw [Array.getElem?_setIfInBounds, if_neg (by omega)]
    exact h2
  · have hjn : j = n := by omega
    subst hjn
    rw [List.getElem?_append_right (by rw [hs.pl]; exact Nat.le_refl _), hs.pl, Nat.sub_self] at hj
    have hp : S = p := by simpa using hj
    subst hp
    refine ⟨[.slice AS S.length cS], rfl, ⟨AS, cS, rfl, (Kd.R_reads' h.R).2⟩, fun i u hu => ?_⟩
    have hi : i = 0 := by have := (List.getElem?_eq_some_iff.1 hu).1; simpa using this
    subst hi
    have hu' : Value.slice AS S.length cS = u := by simpa using hu
    subst hu'
    rw [add0, Nat.add_zero]
    exact (h.oc hs).1
end
theorem xs_start {w w3 w4 w5 : World} {gb go c CC : Nat} {A : Option Addr} {G P : List (List Int)} {news : List (List Value)} {v4 : Value} {o : Obj} {okp : Nat → Prop} (hH : Gw w w3 gb A c G) (hPl : P.length = G.length) (hnl : news.length = G.length)
    (hnf : ∀ (j : Nat) (x : List Int) (c : List Value), P[j]? = some x → news[j]? = some c → Kd.FK kG w3 okp x c)
    (hg4 : (w3.alloc o).grownBy w4 (Value.slice (some ⟨w3.heap.size, 0, none⟩) 0 0).ownBlock) (hat4 : v4.ownBlock = (Value.slice (some ⟨w3.heap.size, 0, none⟩) 0 0).ownBlock ∨ ∃ b, v4.ownBlock = some b ∧ (w3.alloc o).heap.size ≤ b)
    (hN5 : (Kd.raw 1).R 28 w5 0 (fun _ => True) (.slice (some ⟨go, 0, none⟩) (G.length + 1) CC) (news ++ [[.slice none 0 0]])) (hg5 : w4.grownBy w5 v4.ownBlock) (hat5 : (Value.slice (some ⟨go, 0, none⟩) (G.length + 1) CC).ownBlock = v4.ownBlock ∨ ∃ b, (Value.slice (some ⟨go, 0, none⟩) (G.length + 1) CC).ownBlock = some b ∧ w4.heap.size ≤ b) :
    ∃ cs, XS w (w5.alloc (.cells #[.slice (some ⟨go, 0, none⟩) (G.length + 1) CC] 24 (0, 0))) gb w5.heap.size go G.length A c CC P cs := by
  have hsz : (w3.alloc o).heap.size = w3.heap.size + 1 := Array.size_push o
  have hv4 : ∀ k, v4.ownBlock = some k → w3.heap.size ≤ k := by
    intro k hk
    rcases hat4 with h | ⟨b, h1, h2⟩
    · rw [h] at hk
      have : w3.heap.size = k := by simpa [Value.ownBlock] using hk
      omega
    · rw [h1] at hk; injection hk with hk; omega
  have hk4 : Kp (fun _ => False) w3 w4 := ((Kp.refl _ w3).alloc o).grown hg4 (fun k hk => .inr (Nat.le_of_eq (by simpa [Value.ownBlock] using hk)))
  have hk5 : Kp (fun _ => False) w3 w5 := hk4.grown hg5 (fun k hk => .inr (hv4 k hk))
  have hgo : w3.heap.size ≤ go := by
    rcases hat5 with h | ⟨b, h1, h2⟩
    · exact hv4 go (by rw [← h]; simp [Value.ownBlock])
    · have : go = b := by simpa [Value.ownBlock] using h1
      have := hk4.size
      omega
  obtain ⟨g', cap', ev, _, hglt, cs, hcs⟩ := Kd.R_form hN5 (by simp)
  injection ev with e1 e2 e3
  injection e1 with e1
  injection e1 with e1
  subst e1
  have b5 : Below w5.heap.size w5 (w5.alloc (.cells #[.slice (some ⟨go, 0, none⟩) (G.length + 1) CC] 24 (0, 0))) := below_alloc (Below.refl _ _) _
  have hgb := blk_lt' hH.g
  have bb : Below w3.heap.size w3 w5 := hk5.none_below
  have hcn : cs[G.length]? = some (.slice none 0 0) := by
    obtain ⟨c', hcl, hM, hcc, _⟩ := Kd.R_elem hN5 [] (G.length : Int) (by omega) (by omega)
    rw [Int.toNat_natCast] at hM hcc
    have h1 := hM.1
    rw [List.getD_eq_getElem?_getD, List.getElem?_append_right (by rw [hnl]; exact Nat.le_refl _), hnl, Nat.sub_self] at h1
    have h2 : c' = [.slice none 0 0] := h1
    subst h2
    have h3 := hcc 0 _ rfl
    rw [show (Kd.raw 1).sz = 1 from rfl, Nat.mul_one, Nat.add_zero] at h3
    simpa [World.cell?, hcs] using h3
  refine ⟨cs, ⟨⟨news, hnl, Kd.R_step hN5 (fun k _ hk => b5.block k hk), fun j x c' hx hc => Kd.FK_mono (Kd.FK_step (Kd.FK_bound (hnf j x c' hx hc)) (fun k hk hlt => (b5.block k (by have := bb.size; omega)).trans (bb.block k hlt))) (fun k hk => by have := hk.2; omega)⟩, ?_, ?_, ?_, hcn, by have := hH.b.size; omega, by omega, by omega, ?_, hPl⟩⟩
  · exact (b5.block gb (by have := bb.size; omega)).trans ((bb.block gb hgb).trans hH.g)
  · exact heap_alloc_new w5 _
  · exact (b5.block go hglt).trans hcs
  · exact hH.b.trans ((bb.trans (b5.mono bb.size)).mono hH.b.size)

/-- What PostDominators answers. -/
def XQ (G : List (List Int)) (w : World) (e : Ending) (w' : World) : Prop := ∃ v l, e = .returned v ∧ Kd.R (Kd.int .i64) 3 w' 0 (fun k => w.heap.size ≤ k) v l ∧ ((chk G = 0 ∧ Bld (postG G) (G.length : Int) l) ∨ (chk G ≠ 0 ∧ l = [])) ∧ Below w.heap.size w w'

set_option maxRecDepth 100000 in
set_option maxHeartbeats 2000000 in
theorem postdom_no (A : Option Addr) (c : Nat) (G : List (List Int)) (w : World) (hC : Kd.C kG w A G.length G) (hc : G.length ≤ c) (hs : short G) (h : ¬ chk G = 0) :
    Calls Try.prog 14 #[.agg #[.slice A G.length c]] w (XQ G w) := by
  have hX := Aside0.mk (And.intro hC (And.intro hc (And.intro hs h)))
  have H0 := Aside0.mk (Gw.start (c := c) hC)
  clear hC hc hs h
  go_enter Try.func14, Try.ntmps14
  have c0 := H0.out.cell
  go_wp2_with fail
  obtain ⟨gb, hgb⟩ : ∃ gb, gb = w.heap.size := ⟨_, rfl⟩
  obtain ⟨w1, hw1⟩ : ∃ w1, w1 = w.alloc (.cells #[.slice A G.length c] 24 (0, 0)) := ⟨_, rfl⟩
  rw [← hgb, ← hw1] at H0
  rw [show Value.pointer (some (⟨w.heap.size, 0, none⟩ : Addr)) = Value.pointer (some ⟨gb, 0, none⟩) by rw [hgb], ← hw1]
  clear hgb hw1 c0
  refine (preds_any A c G _ H0.out.C hX.out.2.1 hX.out.2.2.1).mono ?_
  rintro e' w2 ⟨v, rfl, Rx, B2⟩
  have H2 := Aside0.mk (H0.out.step B2)
  have c0 := H2.out.cell
  clear B2 H0 Rx
  go_wp2_with fail
  clear c0
  obtain ⟨r, hr⟩ : ∃ r, chk G = r := ⟨_, rfl⟩
  have hr0 : (r != 0) = true := by have := hX.out.2.2.2; rw [hr] at this; simpa using this
  refine (check_any A c G _ H2.out.C hX.out.2.1 hX.out.2.2.1 r hr).mono ?_
  rintro e' w3 ⟨rfl, B3⟩
  have hF : Aside0 (XQ G w (.returned (.slice none 0 0)) w3) := ⟨_, [], rfl, Kd.R_nil _ _ _ _ _, .inr ⟨hX.out.2.2.2, rfl⟩, (H2.out.step B3).b⟩
  clear B3 H2
  go_wp2
  go_ret
  exact hF.out

set_option maxRecDepth 100000 in
set_option maxHeartbeats 4000000 in
theorem postdom_yes (A : Option Addr) (c : Nat) (G : List (List Int)) (w : World) (hC : Kd.C kG w A G.length G) (hc : G.length ≤ c) (hs : short G) (hl : G.length ≤ 69) (h : chk G = 0) :
    Calls Try.prog 14 #[.agg #[.slice A G.length c]] w (XQ G w) := by
  obtain ⟨P, hP⟩ : ∃ P, Aside0 (P = predL G) := ⟨_, ⟨rfl⟩⟩
  have hPl : Aside0 (P.length = G.length) := ⟨by rw [hP.out]; exact pred_len h⟩
  have hX := Aside0.mk (And.intro hc (And.intro hs (And.intro hl h)))
  have H0 := Aside0.mk (Gw.start (c := c) hC)
  have hC := Aside0.mk hC
  clear hc hs h hl
  go_enter Try.func14, Try.ntmps14
  have c0 := H0.out.cell
  go_wp2_with fail
  obtain ⟨gb, hgb⟩ : ∃ gb, Aside0 (gb = w.heap.size) := ⟨_, ⟨rfl⟩⟩
  obtain ⟨w1, hw1⟩ : ∃ w1, w1 = w.alloc (.cells #[.slice A G.length c] 24 (0, 0)) := ⟨_, rfl⟩
  rw [← hgb.out, ← hw1] at H0
  rw [show Value.pointer (some (⟨w.heap.size, 0, none⟩ : Addr)) = Value.pointer (some ⟨gb, 0, none⟩) by rw [hgb.out], ← hw1]
  have hw1s : Aside0 (gb < w1.heap.size) := ⟨by have := blk_lt' H0.out.g; exact this⟩
  clear hw1 c0
  refine (preds_any A c G _ H0.out.C hX.out.1 hX.out.2.1).mono ?_
  rintro e' w2 ⟨v, rfl, Rx, B2⟩
  rw [← hP.out] at Rx
  obtain ⟨Ap, cp, ev, hx, Cx⟩ := Kd.R_reads Rx
  rw [hPl.out] at ev
  subst ev
  have H2 := Aside0.mk (And.intro (H0.out.step B2) (And.intro (Kd.N_F (Kd.R_N Rx)) (Nat.lt_of_lt_of_le hw1s.out B2.size)))
  have c0 := H2.out.1.cell
  clear B2 H0 Rx hx Cx hw1s
  go_wp2_with fail
  clear c0
  refine (check_any A c G _ H2.out.1.C hX.out.1 hX.out.2.1 0 hX.out.2.2.2).mono ?_
  rintro e' w3 ⟨rfl, B3⟩
  have H3 := Aside0.mk (And.intro (H2.out.1.step B3) (And.intro (Kd.F_bound (Kd.F_below H2.out.2.1 B3)) (Nat.lt_of_lt_of_le H2.out.2.2 B3.size)))
  clear B3 H2
  have hne : ((G.length : Int) == 65536) = false := by have := hX.out.2.2.1; exact beq_eq_false_iff_ne.2 (by omega)
  have hl69 : G.length ≤ 69 := hX.out.2.2.1
  have c0 := H3.out.1.cell
  obtain ⟨news, hnl, hnr, hnf⟩ := Kd.reads_raw (Kd.F_rows H3.out.2.1) (fun y c hk => ⟨kG.K_len (Kd.FK_now hk), kG.K_one (Kd.FK_now hk)⟩)
  rw [hPl.out] at hnl
  have hNW := Aside0.mk (And.intro hnl (And.intro hnr hnf))
  clear hnl hnr hnf
  go_wp2_with (first
    | (at_builtin; go_loud (refine Kd.R_append_rows (Kd.raw 1) (w0 := w3.alloc (.cells #[] 28)) 0 (by rfl) (.tmp 20) (.tmp 21) 22 28 (.slice none 0 0) 24 (by rfl) Try.underlying22 info28 rfl (by decide) (by decide) (.slice (some ⟨w3.heap.size, 0, none⟩) 0 0) [] news Ap G.length cp (fun _ => True) (fun _ => False) (by rfl) (by rfl) (own_emptyK (Kd.raw 1) w3 28 _ trivial) (ReadsRow.imp_ hNW.out.2.1 (below_alloc (Below.refl _ _) _) (fun _ _ h => h)) (fun _ _ hk => hk) (fun _ hk => hk.elim) (fun _ _ => trivial) (Below.refl _ _) (Nat.zero_le _) (by simp; omega) ?_; intro v4 w4 hN4 hB4 hg4 hat4; rw [List.nil_append] at hN4))
    | (at_builtin; go_loud (refine Kd.R_append (Kd.raw 1) (w0 := w4) 0 (by rfl) (.tmp 22) (.tmp 23) 22 28 (.slice none 0 0) 24 (by rfl) Try.underlying22 info28 rfl (by decide) (by decide) v4 news [.slice none 0 0] [.slice none 0 0] (fun _ => True) (fun _ => False) (by rfl) (by rfl) ⟨rfl, rfl, by simp [Value.oneCell']⟩ (fun _ hk => hk.elim) (fun _ _ => trivial) hN4 (Below.refl _ _) (Nat.zero_le _) (by rw [hNW.out.1]; omega) ?_; intro v5 w5 hN5 hB5 hg5 hat5; obtain ⟨go, CC, ev, _⟩ := Kd.R_form hN5 (by simp); rw [List.length_append, hNW.out.1, List.length_singleton] at ev; subst ev; obtain ⟨cs, hXS⟩ := xs_start H3.out.1 hPl.out hNW.out.1 hNW.out.2.2 hg4 hat4 hN5 hg5 hat5; have hXS := Aside0.mk hXS; have hI0 := Aside0.mk (XO.start hXS.out); have c1 := hI0.out.gc hXS.out; clear hN4 hB4 hg4 hat4 hN5 hB5 hg5 hat5 c0)))
  clear hne
  obtain ⟨gq, hgq⟩ : ∃ gq, gq = w5.heap.size := ⟨_, rfl⟩
  obtain ⟨W0, hW0⟩ : ∃ W0, W0 = w5.alloc (.cells #[.slice (some ⟨go, 0, none⟩) (G.length + 1) CC] 24 (0, 0)) := ⟨_, rfl⟩
  rw [← hgq, ← hW0] at hXS
  rw [← hW0] at hI0 c1
  have c2 : Aside0 (W0.heap.size = W0.heap.size) := ⟨rfl⟩
  rw [show w5.alloc (.cells #[.slice (some ⟨go, 0, none⟩) (G.length + 1) CC] 24 (0, 0)) = W0 from hW0.symm, show w5.heap.size = gq from hgq.symm]
  clear hW0 hgq H3 c2 c1
  have hI1 : Aside0 (XO w W0 W0 go G.length cs none 0 (sinkU G 0)) := hI0
  clear hI0
  go_loopg [29] G.length (fun q v wi => ∃ (i : Nat) (AS : Option Addr) (cS : Nat), i + q = G.length ∧ v = .int .i64 (i : Int) ∧ Aside0 (XO w W0 wi go G.length cs AS cS (sinkU G i)))
  case atStart => exact ⟨0, none, 0, by omega, rfl, hI1⟩
  case round =>
    obtain ⟨i, AS, cS, hi, rfl, hJ⟩ := hrel
    clear hI1
    by_cases hlt : i < G.length
    · have hlti : (i : Int) < G.length := by omega
      obtain ⟨gk1, rfl⟩ : ∃ q, gk = q + 1 := ⟨gk - 1, by omega⟩
      have hi1 : i + 1 + gk1 = G.length := by omega
      have hgk1 : gk1 < gk1 + 1 := by omega
      obtain ⟨ad, Ar, cr, eA, x0⟩ := row_at (Kd.C_below hC.out (hJ.out.below hXS.out)) i hlt
      subst eA
      have hsu := sinkU_succ G i
      by_cases hz : (rd_L1 G (i : Int)).length = 0
      · rw [if_pos hz] at hsu
        rw [hz] at x0
        have c1 := hJ.out.qc hXS.out
        obtain ⟨c2, c3⟩ := hJ.out.oc hXS.out
        have hsl := sinkU_len G i
        obtain ⟨S, hS⟩ : ∃ S, sinkU G i = S := ⟨_, rfl⟩
        rw [hS] at hJ hsu c2 hsl
        have hsu := Aside0.mk hsu
        clear hz hS
        have hJd := hJ.out.step hXS.out (below_drew (Below.refl wr.heap.size wr))
        have hQ := Aside0.mk (And.intro hJ.out.R (And.intro hJ.out.kp.size hJd))
        have hJa := hJ.out.step hXS.out (below_alloc (Below.refl wr.heap.size wr) (.cells #[.int .i64 (i : Int)] 3 (0, 0)))
        have c4 := hJa.qc hXS.out
        have c5 := (hJa.oc hXS.out).1
        clear hJd hJ hJa
        have hidx : (G.length : Int) < (G.length : Int) + 1 := by omega
        go_wp2_with fail
        go_region_law (first
          | ((rw [show (wr.alloc (.cells #[.int .i64 (i : Int)] 3)).drew = wr.drew.alloc (.cells #[.int .i64 (i : Int)] 3) from rfl]; refine Kd.R_append_step (Kd.int .i64) (w0 := wr) 0 (by rfl) (.tmp 44) (.tmp 46) 28 3 (.int .i64 0) 8 (by rfl) Try.underlying28 info3 rfl (by decide) (by decide) (.slice AS S.length cS) S (i : Int) [.int .i64 (i : Int)] (fun k => W0.heap.size ≤ k) (fun _ => False) (by rfl) (by rfl) (by rfl) ?_ ?_ ?_ ?_ (Nat.zero_le _) ?_ ?_)
             · intro k hk; exact hk.elim
             · intro k hk; exact Nat.le_trans hQ.out.2.1 hk
             · exact Kd.R_drewN hQ.out.1 _
             · exact ((Kp.refl (fun _ => False) wr).drewN _).belowB (fun _ h => h.elim) (Nat.zero_le _)
             · omega
             intro v1 wa hRA hBA hgA hatA
             obtain ⟨A1, c1, ev, _, _⟩ := Kd.R_reads hRA
             rw [List.length_append, List.length_singleton] at ev
             subst ev
             obtain ⟨z1, z2, z3⟩ := hQ.out.2.2.far hXS.out hgA
             have hRA1 := Aside0.mk hRA
             clear hRA hBA))
        all_goals
          go_wp2
          have hI := hQ.out.2.2.put hXS.out hgA (A1 := A1) (c1 := c1) (S1 := S ++ [(i : Int)]) (by rw [List.length_append, List.length_singleton]; exact hRA1.out)
          rw [← hsu.out] at hI
          have hI := Aside0.mk hI
          rw [show S.length + 1 = (sinkU G (i + 1)).length by rw [hsu.out, List.length_append]; rfl]
          clear hRA1 hgA hatA z1 z2 z3 c2 c3 c4 c5 hidx hQ
          go_roundg gk1
          case rel => exact ⟨i + 1, A1, _, hi1, by go_num, hI⟩
          case measure => exact hgk1
      · rw [if_neg hz, List.append_nil] at hsu
        obtain ⟨z, hzz⟩ : ∃ z, (rd_L1 G (i : Int)).length = z := ⟨_, rfl⟩
        rw [hzz] at x0 hz
        have e1 : ((z : Int) == 0) = false := beq_eq_false_iff_ne.2 (by omega)
        have hI : Aside0 (XO w W0 wr go G.length cs AS cS (sinkU G (i + 1))) := ⟨by rw [hsu]; exact hJ.out⟩
        clear hJ hsu hz hzz
        go_wp2_with fail
        go_roundg gk1
        case rel => exact ⟨i + 1, AS, cS, hi1, by go_num, hI⟩
        case measure => exact hgk1
    · have hie : i = G.length := by omega
      subst hie
      have c1 := hJ.out.qc hXS.out
      have hb := build_any (some ⟨go, 0, none⟩) CC (postG G) (G.length : Int) wr (by rw [postG_len hX.out.2.2.2]; have h9 := hJ.out.C hXS.out (by omega); rw [hP.out] at h9; exact h9) (by rw [postG_len hX.out.2.2.2]; obtain ⟨_, _, hNR, _⟩ := hXS.out.N; exact (Kd.R_reads' hNR).2.1) (postG_short hX.out.2.2.2 hX.out.2.2.1) (by rw [postG_len hX.out.2.2.2]; omega)
      rw [postG_len hX.out.2.2.2] at hb
      have hb := Aside0.mk hb
      have hbl := Aside0.mk (hJ.out.below hXS.out)
      clear hJ
      go_wp2_with fail
      refine hb.out.mono ?_
      rintro e' w9 ⟨v, l, rfl, hR, hB, hb9⟩
      have hF : Aside0 (XQ G w (.returned v) w9) := ⟨v, l, rfl, Kd.R_mono hR (fun k hk => Nat.le_trans hbl.out.size hk), .inl ⟨hX.out.2.2.2, hB⟩, hbl.out.trans (hb9.mono hbl.out.size)⟩
      clear hR hB hb9 hb
      go_wp2
      go_ret
      exact hF.out
theorem postdom_any (A : Option Addr) (c : Nat) (G : List (List Int)) (w : World) (hC : Kd.C kG w A G.length G) (hc : G.length ≤ c) (hs : short G) (hl : G.length ≤ 69) :
    Calls Try.prog 14 #[.agg #[.slice A G.length c]] w (XQ G w) := by
  by_cases h : chk G = 0
  · exact postdom_yes A c G w hC hc hs hl h
  · exact postdom_no A c G w hC hc hs h
end Go.Proofs.Ytbphjbfnnhfhlaa
end

section
/- What works answers: the document's fixed results, plain facts and literals. -/
set_option linter.unusedVariables false
set_option linter.unusedSimpArgs false
set_option linter.unusedSectionVars false
namespace Go.Proofs.Ytbphjbfnnhfhlaa
open Go.RowKit Go.Proofs.YtbphjbfnnhfhlaaW.PrintWords Go.Proofs.Ytbphjbfnnhfhlaa.PDigraphTells Mem

theorem eqi_loop (l m : List Int) (h : l.length = m.length) (hn : l.length ≤ 140737488355328) : ∀ (d i k : Nat), i + d = l.length → d < k → slices_Equal_int_int.l0 k l m (l.length : Int) (i : Int) = some (decide (l.drop i = m.drop i)) := by
  intro d
  induction d with
  | zero =>
    intro i k hi hk
    obtain ⟨k, rfl⟩ : ∃ m, k = m + 1 := ⟨k - 1, by omega⟩
    simp only [slices_Equal_int_int.l0]
    rw [if_neg (by omega), List.drop_of_length_le (by omega), List.drop_of_length_le (by omega)]
    simp
  | succ d ih =>
    intro i k hi hk
    obtain ⟨k, rfl⟩ : ∃ m, k = m + 1 := ⟨k - 1, by omega⟩
    have hlt : i < l.length := by omega
    have hlt2 : i < m.length := by omega
    have hr : rd l (i : Int) = l[i] := by simp [rd, hlt]
    have hr2 : rd m (i : Int) = m[i] := by simp [rd, hlt2]
    simp only [slices_Equal_int_int.l0]
    rw [if_pos (by omega), if_pos (by omega), if_pos (by omega), if_pos (by omega), hr, hr2, List.drop_eq_getElem_cons hlt, List.drop_eq_getElem_cons hlt2]
    by_cases e : l[i] = m[i]
    · rw [if_pos e]
      have e1 : wrap64 ((i : Int) + 1) = ((i + 1 : Nat) : Int) := by unfold wrap64; omega
      rw [e1, ih (i + 1) k (by omega) (by omega)]
      simp only [List.cons.injEq, e, true_and]
    · rw [if_neg e, decide_eq_false (fun h => e (List.cons.inj h).1)]
theorem eqi_f (l m : List Int) (hn : l.length ≤ 140737488355328) : slices_Equal_int_int.f (l.length + 1) l m = some (decide (l = m)) := by
  unfold slices_Equal_int_int.f
  by_cases h : (l.length : Int) = (m.length : Int)
  · rw [if_pos h, show (0 : Int) = ((0 : Nat) : Int) from rfl, eqi_loop l m (by omega) hn l.length 0 _ (by omega) (by omega)]
    simp
  · rw [if_neg h, decide_eq_false (fun e => h (by rw [e]))]
theorem eqi_any (c0 c1 : Nat) (A0 A1 : Option Addr) (l m : List Int) (w : World) (h0 : Kd.C (Kd.int .i64) w A0 l.length l) (h1 : Kd.C (Kd.int .i64) w A1 m.length m) (g0 : l.length ≤ c0) (g1 : m.length ≤ c1) (hl : l.length ≤ 1000000) (b : Bool) (hb : decide (l = m) = b) :
    Calls Try.prog 11 #[.slice A0 l.length c0, .slice A1 m.length c1] w fun e w' => e = .returned (.bool b) ∧ Below w.heap.size w w' := by
  subst hb
  refine (slices_Equal_int_int.calls (l.length + 1) A0 c0 l A1 c1 m _ w h0 g0 h1 g1 (eqi_f l m (by omega))).mono ?_
  rintro e w' ⟨rfl, hd⟩
  obtain ⟨n, rfl⟩ := hd.out
  exact ⟨rfl, pw_below_drewN (Below.refl _ _) _⟩
theorem lit_rows (w : World) (cs : Array Value) (e : Nat) (xs : List (List Int)) (g : Nat) (hg : w.heap.size = g) (hm : xs.length ≤ 1000) (h : ∀ (j : Nat) (x : List Int), xs[j]? = some x → ∃ A c, cs[j]? = some (.slice A x.length c) ∧ x.length ≤ c ∧ Kd.C (Kd.int .i64) w A x.length x) : Kd.C kG (w.alloc (.cells cs e (0, 0))) (some ⟨g, 0, none⟩) xs.length xs := by
  subst hg
  refine ⟨rfl, by omega, fun _ => ⟨_, rfl, fun j p hj => ?_⟩⟩
  obtain ⟨A, c, h1, h2, h3⟩ := h j p hj
  refine ⟨[.slice A p.length c], rfl, ⟨A, c, rfl, h2, Kd.C_alloc h3 _⟩, fun i u hu => ?_⟩
  rcases i with _ | i
  · simp at hu
    subst hu
    rw [show kG.sz = 1 from rfl, Nat.mul_one, Nat.add_zero, show (⟨w.heap.size, 0, none⟩ : Addr).add j = ⟨w.heap.size, j, none⟩ from by rcases j with _ | j <;> simp [Addr.add]]
    exact Mem.cell_at (heap_alloc_new w _) h1
  · simp at hu
def G1 : List (List Int) := [[1, 2], [3], [3], [1]]
def G2 : List (List Int) := [[1], [2], []]
theorem g1_ok : chk G1 = 0 ∧ isNode G1 0 := by decide
theorem g2_ok : chk G2 = 0 := by decide
theorem g2_post : postG G2 = [[], [0], [1], [2]] := by decide +kernel
theorem g2p_ok : chk (postG G2) = 0 ∧ isNode (postG G2) 3 := by rw [g2_post]; decide
theorem ra_self {ad : Int → List Int} {e x : Int} : ¬ RA ad e e x := by
  intro h
  induction h with
  | base h => exact h rfl
  | step _ _ _ ih => exact ih
theorem idm1 : Idm G1 0 [0, 0, 0, 0] := by
  have r0 : Grf.Reach (adj G1) 0 0 := .refl _
  refine ⟨rfl, fun x hx hr => ?_, rfl, fun x hx hne => ?_⟩
  · exfalso
    obtain ⟨a, b⟩ := hx
    have b' : x < 4 := b
    have r1 : Grf.Reach (adj G1) 0 1 := r0.tail (by decide)
    have r2 : Grf.Reach (adj G1) 0 2 := r0.tail (by decide)
    have r3 : Grf.Reach (adj G1) 0 3 := r1.tail (by decide)
    have : x = 0 ∨ x = 1 ∨ x = 2 ∨ x = 3 := by omega
    rcases this with rfl | rfl | rfl | rfl
    · exact hr r0
    · exact hr r1
    · exact hr r2
    · exact hr r3
  · have hn := reach_node g1_ok hx
    obtain ⟨a, b⟩ := hn
    have b' : x < 4 := b
    have hc : x = 1 ∨ x = 2 ∨ x = 3 := by omega
    have e0 : rd [0, 0, 0, 0] x = 0 := by rcases hc with rfl | rfl | rfl <;> rfl
    rw [e0]
    refine ⟨⟨hx, ra_self⟩, Ne.symm hne, fun v hv hvx => ⟨r0, fun h9 => ?_⟩⟩
    have h0 := h9.ne
    apply hv.2
    rcases hc with rfl | rfl | rfl
    · exact .step h9 (by decide) (Ne.symm hvx)
    · exact .step h9 (by decide) (Ne.symm hvx)
    · by_cases e1 : v = 1
      · exact .step (.step h9 (x := 2) (by decide) (by omega)) (by decide) (Ne.symm hvx)
      · exact .step (.step h9 (x := 1) (by decide) (Ne.symm e1)) (by decide) (Ne.symm hvx)
theorem idm2 : Idm (postG G2) 3 [1, 2, 3, 3] := by
  have hk := g2p_ok
  rw [g2_post] at hk ⊢
  have r3 : Grf.Reach (adj [[], [0], [1], [2]]) 3 3 := .refl _
  have r2 : Grf.Reach (adj [[], [0], [1], [2]]) 3 2 := r3.tail (by decide)
  have r1 : Grf.Reach (adj [[], [0], [1], [2]]) 3 1 := r2.tail (by decide)
  have r0 : Grf.Reach (adj [[], [0], [1], [2]]) 3 0 := r1.tail (by decide)
  have a2 : ∀ y, RA (adj [[], [0], [1], [2]]) 3 2 y → y = 3 := by
    intro y h
    induction h with
    | base => rfl
    | step _ h1 h2 ih => subst ih; exact absurd (List.mem_singleton.1 h1) h2
  have a1 : ∀ y, RA (adj [[], [0], [1], [2]]) 3 1 y → y = 3 ∨ y = 2 := by
    intro y h
    induction h with
    | base => exact .inl rfl
    | step _ h1 h2 ih =>
      rcases ih with rfl | rfl
      · exact .inr (List.mem_singleton.1 h1)
      · exact absurd (List.mem_singleton.1 h1) h2
  have d33 : ∀ x, Grf.Reach (adj [[], [0], [1], [2]]) 3 x → domG [[], [0], [1], [2]] 3 3 x := fun x hx => ⟨hx, ra_self⟩
  refine ⟨rfl, fun x hx hr => ?_, rfl, fun x hx hne => ?_⟩
  · exfalso
    obtain ⟨a, b⟩ := hx
    have b' : x < 4 := b
    have : x = 0 ∨ x = 1 ∨ x = 2 ∨ x = 3 := by omega
    rcases this with rfl | rfl | rfl | rfl
    · exact hr r0
    · exact hr r1
    · exact hr r2
    · exact hr r3
  · have hn := reach_node hk hx
    obtain ⟨a, b⟩ := hn
    have b' : x < 4 := b
    have hc : x = 0 ∨ x = 1 ∨ x = 2 := by omega
    have k2 : ∀ v, v ≠ 3 → v ≠ 2 → RA (adj [[], [0], [1], [2]]) 3 v 2 := fun v h1 h2 => .step (.base (Ne.symm h1)) (by decide) (Ne.symm h2)
    have k1 : ∀ v, v ≠ 3 → v ≠ 2 → v ≠ 1 → RA (adj [[], [0], [1], [2]]) 3 v 1 := fun v h1 h2 h3 => .step (k2 v h1 h2) (by decide) (Ne.symm h3)
    have k0 : ∀ v, v ≠ 3 → v ≠ 2 → v ≠ 1 → v ≠ 0 → RA (adj [[], [0], [1], [2]]) 3 v 0 := fun v h1 h2 h3 h4 => .step (k1 v h1 h2 h3) (by decide) (Ne.symm h4)
    rcases hc with rfl | rfl | rfl
    · rw [show rd [1, 2, 3, 3] 0 = 1 from rfl]
      refine ⟨⟨r0, fun h => by have := a1 _ h; omega⟩, by decide, fun v hv hvx => ?_⟩
      by_cases e3 : v = 3
      · rw [e3]; exact d33 _ r1
      · by_cases e2 : v = 2
        · rw [e2]; exact ⟨r1, fun h => by have := a2 _ h; omega⟩
        · by_cases e1 : v = 1
          · rw [e1]; exact ⟨r1, fun h => h.ne rfl⟩
          · exact absurd (k0 v e3 e2 e1 hvx) hv.2
    · rw [show rd [1, 2, 3, 3] 1 = 2 from rfl]
      refine ⟨⟨r1, fun h => by have := a2 _ h; omega⟩, by decide, fun v hv hvx => ?_⟩
      by_cases e3 : v = 3
      · rw [e3]; exact d33 _ r2
      · by_cases e2 : v = 2
        · rw [e2]; exact ⟨r2, fun h => h.ne rfl⟩
        · exact absurd (k1 v e3 e2 hvx) hv.2
    · rw [show rd [1, 2, 3, 3] 2 = 3 from rfl]
      refine ⟨d33 _ r2, by decide, fun v hv hvx => ?_⟩
      by_cases e3 : v = 3
      · rw [e3]; exact d33 _ r3
      · exact absurd (k2 v e3 hvx) hv.2
theorem bld1 {l : List Int} (h : Bld G1 0 l) : l = [0, 0, 0, 0] := h.uniq (.inl ⟨g1_ok, idm1⟩)
theorem bld2 {l : List Int} (h : Bld (postG G2) (G2.length : Int) l) : l = [1, 2, 3, 3] := Bld.uniq h (.inl ⟨g2p_ok, idm2⟩)
theorem tree1 : Tree [0, 0, 0, 0] := by
  have hc : ∀ x : Int, idx [0, 0, 0, 0] x → x = 0 ∨ x = 1 ∨ x = 2 ∨ x = 3 := by
    rintro x ⟨a, b⟩
    have b' : x < 4 := b
    omega
  refine ⟨fun x hx => ?_, fun x hx _ => ?_, by decide⟩
  · rcases hc x hx with rfl | rfl | rfl | rfl <;> exact ⟨by decide, by decide⟩
  · have u0 : Up [0, 0, 0, 0] 0 0 := .root (by decide) rfl
    rcases hc x hx with rfl | rfl | rfl | rfl
    · exact ⟨0, u0⟩
    · exact ⟨1, .step (by decide) (by decide) u0⟩
    · exact ⟨1, .step (by decide) (by decide) u0⟩
    · exact ⟨1, .step (by decide) (by decide) u0⟩
theorem int1 : InT [0, 0, 0, 0] 1 2 := ⟨tree1, by decide, by decide, by decide, by decide⟩
theorem low1 {r : Int} (h : Low [0, 0, 0, 0] 1 2 r) : r = 0 := by
  have key : ∀ x : Int, On [0, 0, 0, 0] r x → (x = 1 → r = 1 ∨ r = 0) ∧ (x = 2 → r = 2 ∨ r = 0) ∧ (x = 0 → r = 0) := by
    intro x h
    induction h with
    | refl => exact ⟨fun e => .inl e, fun e => .inl e, fun e => e⟩
    | @step y hi e u ih =>
      refine ⟨fun e1 => ?_, fun e1 => ?_, fun e1 => ?_⟩
      · subst e1; exact .inr (ih.2.2 rfl)
      · subst e1; exact .inr (ih.2.2 rfl)
      · subst e1; exact absurd rfl e
  have h1 := (key 1 h.1).1 rfl
  have h2 := (key 2 h.2.1).2.1 rfl
  omega
theorem pre1 : preL [0, 0, 0, 0] = [0, 1, 2, 3] := by decide +kernel
end Go.Proofs.Ytbphjbfnnhfhlaa
end

section
/- What works answers. -/
set_option linter.unusedVariables false
set_option linter.unusedSimpArgs false
set_option linter.unusedSectionVars false
namespace Go.Proofs.Ytbphjbfnnhfhlaa
open Go.RowKit Go.Proofs.YtbphjbfnnhfhlaaW.PrintWords Go.Proofs.Ytbphjbfnnhfhlaa.PDigraphTells Mem

/-- The first example's rows lie ready. -/
theorem lit_g1 (w : World) : Kd.C kG (((((w.alloc (.cells #[.int .i64 1, .int .i64 2] 3)).alloc (.cells #[.int .i64 3] 3)).alloc (.cells #[.int .i64 3] 3)).alloc (.cells #[.int .i64 1] 3)).alloc (.cells #[.slice (some ⟨w.heap.size, 0, none⟩) 2 2, .slice (some ⟨w.heap.size + 1, 0, none⟩) 1 1, .slice (some ⟨w.heap.size + 1 + 1, 0, none⟩) 1 1, .slice (some ⟨w.heap.size + 1 + 1 + 1, 0, none⟩) 1 1] 28)) (some ⟨w.heap.size + 1 + 1 + 1 + 1, 0, none⟩) 4 G1 := by
  refine lit_rows _ _ _ G1 _ (by simp) (by decide) fun j x hj => ?_
  rcases j with _ | _ | _ | _ | j
  · obtain rfl : [1, 2] = x := by simpa [G1] using hj
    exact ⟨_, _, rfl, Nat.le_refl _, Kd.C_alloc (Kd.C_alloc (Kd.C_alloc (lit_ints w _ 3 [1, 2] _ rfl rfl (by decide)) _) _) _⟩
  · obtain rfl : [3] = x := by simpa [G1] using hj
    exact ⟨_, _, rfl, Nat.le_refl _, Kd.C_alloc (Kd.C_alloc (lit_ints _ _ 3 [3] _ (by simp) rfl (by decide)) _) _⟩
  · obtain rfl : [3] = x := by simpa [G1] using hj
    exact ⟨_, _, rfl, Nat.le_refl _, Kd.C_alloc (lit_ints _ _ 3 [3] _ (by simp) rfl (by decide)) _⟩
  · obtain rfl : [1] = x := by simpa [G1] using hj
    exact ⟨_, _, rfl, Nat.le_refl _, lit_ints _ _ 3 [1] _ (by simp) rfl (by decide)⟩
  · simp [G1] at hj
theorem lit_g2 (w : World) : Kd.C kG (((w.alloc (.cells #[.int .i64 1] 3)).alloc (.cells #[.int .i64 2] 3)).alloc (.cells #[.slice (some ⟨w.heap.size, 0, none⟩) 1 1, .slice (some ⟨w.heap.size + 1, 0, none⟩) 1 1, .slice none 0 0] 28)) (some ⟨w.heap.size + 1 + 1, 0, none⟩) 3 G2 := by
  refine lit_rows _ _ _ G2 _ (by simp) (by decide) fun j x hj => ?_
  rcases j with _ | _ | _ | j
  · obtain rfl : [1] = x := by simpa [G2] using hj
    exact ⟨_, _, rfl, Nat.le_refl _, Kd.C_alloc (lit_ints w _ 3 [1] _ rfl rfl (by decide)) _⟩
  · obtain rfl : [2] = x := by simpa [G2] using hj
    exact ⟨_, _, rfl, Nat.le_refl _, lit_ints _ _ 3 [2] _ (by simp) rfl (by decide)⟩
  · obtain rfl : [] = x := by simpa [G2] using hj
    exact ⟨none, 0, rfl, Nat.le_refl _, Kd.C_nil _ _⟩
  · simp [G2] at hj

/-- slices.Equal against a row of four numbers written just now. -/
theorem eq_lit (A : Option Addr) (c : Nat) (x : List Int) (cs : Array Value) (w : World) (g : Nat) (hg : w.heap.size = g) (hA : Kd.C (Kd.int .i64) w A 4 x) (hc : 4 ≤ c) (hcs : cs.toList = x.map (Value.int .i64)) (hn : x.length = 4) :
    Calls Try.prog 11 #[.slice A 4 c, .slice (some ⟨g, 0, none⟩) 4 4] (w.alloc (.cells cs 3 (0, 0))) fun e w' => e = .returned (.bool true) ∧ Below w.heap.size w w' := by
  have h := eqi_any c 4 A (some ⟨g, 0, none⟩) x x (w.alloc (.cells cs 3 (0, 0))) (by rw [hn]; exact Kd.C_alloc hA _) (lit_ints w cs 3 x g hg hcs (by omega)) (by omega) (by omega) (by omega) true (by simp)
  rw [hn] at h
  refine h.mono ?_
  rintro e w' ⟨rfl, B⟩
  exact ⟨rfl, (below_alloc (Below.refl _ w) _).trans (B.mono (by simp))⟩

set_option maxRecDepth 100000 in
set_option maxHeartbeats 4000000 in
theorem works_any (w : World) : Calls Try.prog 10 #[] w fun e w' => e = .returned (.bool true) ∧ Below w.heap.size w w' := by
  go_enter Try.func10, Try.ntmps10
  go_wp2_with fail
  refine (build_any _ 4 G1 0 _ (lit_g1 w) (by decide) ⟨by decide, by decide⟩ (by decide)).mono ?_
  rintro e' w1 ⟨v, l, rfl, hR, hB, B1⟩
  obtain rfl := bld1 hB
  obtain ⟨A1, c1, ev, hc1, C1⟩ := Kd.R_reads hR
  subst ev
  have H1 := Aside0.mk (show Below w.heap.size w w1 ∧ 4 ≤ c1 ∧ Kd.C (Kd.int .i64) w1 A1 4 [0, 0, 0, 0] from ⟨(below_alloc (below_alloc (below_alloc (below_alloc (below_alloc (Below.refl _ w) _) _) _) _) _).trans (B1.mono (by simp; omega)), hc1, C1⟩)
  clear hR hB B1 hc1 C1
  go_wp2_with fail
  refine (postdom_any _ 3 G2 _ (lit_g2 w1) (by decide) ⟨by decide, by decide⟩ (by decide)).mono ?_
  rintro e' w2 ⟨v, l, rfl, hR, hB, B2⟩
  obtain rfl : l = [1, 2, 3, 3] := by
    rcases hB with ⟨_, hB⟩ | ⟨hn, _⟩
    · exact bld2 hB
    · exact absurd g2_ok hn
  obtain ⟨A2, c2, ev, hc2, C2⟩ := Kd.R_reads hR
  subst ev
  have b2 : Below w1.heap.size w1 w2 := (below_alloc (below_alloc (below_alloc (Below.refl _ w1) _) _) _).trans (B2.mono (by simp; omega))
  have H2 := Aside0.mk (show (Below w.heap.size w w2 ∧ 4 ≤ c1 ∧ Kd.C (Kd.int .i64) w2 A1 4 [0, 0, 0, 0]) ∧ 4 ≤ c2 ∧ Kd.C (Kd.int .i64) w2 A2 4 [1, 2, 3, 3] from ⟨⟨H1.out.1.trans (b2.mono H1.out.1.size), H1.out.2.1, Kd.C_below H1.out.2.2 b2⟩, hc2, C2⟩)
  clear hR hB B2 hc2 C2 b2 H1
  go_wp2_with fail
  refine (eq_lit A1 c1 [0, 0, 0, 0] _ w2 _ rfl H2.out.1.2.2 H2.out.1.2.1 rfl rfl).mono ?_
  rintro e' w3 ⟨rfl, B3⟩
  have H3 := Aside0.mk (show (Below w.heap.size w w3 ∧ 4 ≤ c1 ∧ Kd.C (Kd.int .i64) w3 A1 4 [0, 0, 0, 0]) ∧ 4 ≤ c2 ∧ Kd.C (Kd.int .i64) w3 A2 4 [1, 2, 3, 3] from ⟨⟨H2.out.1.1.trans (B3.mono H2.out.1.1.size), H2.out.1.2.1, Kd.C_below H2.out.1.2.2 B3⟩, H2.out.2.1, Kd.C_below H2.out.2.2 B3⟩)
  clear B3 H2
  go_wp2_with fail
  refine (common_dom_any A1 c1 [0, 0, 0, 0] 1 2 _ H3.out.1.2.2 H3.out.1.2.1 (by decide)).mono ?_
  rintro e' w4 ⟨r, rfl, hr, B4⟩
  obtain rfl : r = 0 := by
    rcases hr with ⟨_, h⟩ | ⟨h, _⟩
    · exact low1 h
    · exact absurd int1 h
  have H4 := Aside0.mk (show (Below w.heap.size w w4 ∧ 4 ≤ c1 ∧ Kd.C (Kd.int .i64) w4 A1 4 [0, 0, 0, 0]) ∧ 4 ≤ c2 ∧ Kd.C (Kd.int .i64) w4 A2 4 [1, 2, 3, 3] from ⟨⟨H3.out.1.1.trans (B4.mono H3.out.1.1.size), H3.out.1.2.1, Kd.C_below H3.out.1.2.2 B4⟩, H3.out.2.1, Kd.C_below H3.out.2.2 B4⟩)
  clear hr B4 H3
  go_wp2_with fail
  refine (preorder_any A1 c1 [0, 0, 0, 0] _ H4.out.1.2.2 H4.out.1.2.1 (by decide)).mono ?_
  rintro e' w5 ⟨v, o, rfl, hR, ho, B5⟩
  obtain rfl : o = [0, 1, 2, 3] := by
    rcases ho with ⟨_, h⟩ | ⟨h, _⟩
    · rw [h]; exact pre1
    · exact absurd tree1 h
  obtain ⟨A3, c3, ev, hc3, C3⟩ := Kd.R_reads hR
  subst ev
  have H5 := Aside0.mk (show (Below w.heap.size w w5 ∧ 4 ≤ c2 ∧ Kd.C (Kd.int .i64) w5 A2 4 [1, 2, 3, 3]) ∧ 4 ≤ c3 ∧ Kd.C (Kd.int .i64) w5 A3 4 [0, 1, 2, 3] from ⟨⟨H4.out.1.1.trans (B5.mono H4.out.1.1.size), H4.out.2.1, Kd.C_below H4.out.2.2 B5⟩, hc3, C3⟩)
  clear hR ho B5 H4 hc3 C3
  go_wp2_with fail
  refine (eq_lit A3 c3 [0, 1, 2, 3] _ w5 _ rfl H5.out.2.2 H5.out.2.1 rfl rfl).mono ?_
  rintro e' w6 ⟨rfl, B6⟩
  have H6 := Aside0.mk (show Below w.heap.size w w6 ∧ 4 ≤ c2 ∧ Kd.C (Kd.int .i64) w6 A2 4 [1, 2, 3, 3] from ⟨H5.out.1.1.trans (B6.mono H5.out.1.1.size), H5.out.1.2.1, Kd.C_below H5.out.1.2.2 B6⟩)
  clear B6 H5
  go_wp2_with fail
  refine (eq_lit A2 c2 [1, 2, 3, 3] _ w6 _ rfl H6.out.2.2 H6.out.2.1 rfl rfl).mono ?_
  rintro e' w7 ⟨rfl, B7⟩
  have H7 := Aside0.mk (H6.out.1.trans (B7.mono H6.out.1.size))
  clear B7 H6
  go_wp2
  go_ret
  exact ⟨rfl, H7.out⟩
end Go.Proofs.Ytbphjbfnnhfhlaa
end

section
/- large; what the laws' walks share. -/
set_option linter.unusedVariables false
set_option linter.unusedSimpArgs false
set_option linter.unusedSectionVars false
namespace Go.Proofs.Ytbphjbfnnhfhlaa
open Go.RowKit Go.Proofs.YtbphjbfnnhfhlaaW.PrintWords Go.Proofs.Ytbphjbfnnhfhlaa.PDigraphTells Mem

end Go.Proofs.Ytbphjbfnnhfhlaa
end

section
/- The list of immediate dominators is a dominator tree: On is dominance. -/
set_option linter.unusedVariables false
set_option linter.unusedSimpArgs false
set_option linter.unusedSectionVars false
namespace Go.Proofs.Ytbphjbfnnhfhlaa
open Go.RowKit Go.Proofs.YtbphjbfnnhfhlaaW.PrintWords Go.Proofs.Ytbphjbfnnhfhlaa.PDigraphTells Mem

theorem dom_anti {G : List (List Int)} {e u v : Int} (h1 : domG G e u v) (h2 : domG G e v u) : u = v := by
  by_cases h9 : u = v
  · exact h9
  · exfalso
    have key : ∀ y, Grf.Reach (adj G) e y → (RA (adj G) e v u ∨ RA (adj G) e u v) ∨ (RA (adj G) e u y ∧ RA (adj G) e v y) := by
      intro y hy
      induction hy with
      | refl =>
        by_cases e1 : e = u
        · subst e1; exact .inl (.inl (.base h9))
        · by_cases e2 : e = v
          · subst e2; exact .inl (.inr (.base e1))
          · exact .inr ⟨.base e1, .base e2⟩
      | @tail b y hb hy ih =>
        rcases ih with ih | ⟨ia, ib⟩
        · exact .inl ih
        · by_cases e1 : y = u
          · subst e1; exact .inl (.inl (.step ib hy h9))
          · by_cases e2 : y = v
            · subst e2; exact .inl (.inr (.step ia hy e1))
            · exact .inr ⟨.step ia hy e1, .step ib hy e2⟩
    rcases key v h1.1 with (h | h) | ⟨_, h⟩
    · exact h2.2 h
    · exact h1.2 h
    · exact h.ne rfl
theorem dom_trans {G : List (List Int)} {e d p x : Int} (h1 : domG G e d p) (h2 : domG G e p x) : domG G e d x := by
  refine ⟨h2.1, fun hr => ?_⟩
  have key : ∀ y, RA (adj G) e d y → RA (adj G) e p y ∨ RA (adj G) e d p := by
    intro y hy
    induction hy with
    | base h3 =>
      by_cases e1 : e = p
      · subst e1; exact .inr (.base h3)
      · exact .inl (.base e1)
    | @step b y hb hy hn ih =>
      rcases ih with ih | ih
      · by_cases e1 : y = p
        · subst e1; exact .inr (.step hb hy hn)
        · exact .inl (.step ih hy e1)
      · exact .inr ih
  rcases key x hr with h | h
  · exact h2.2 h
  · exact h1.2 h
theorem dom_reach {G : List (List Int)} {e p x : Int} (h : domG G e p x) : Grf.Reach (adj G) e p := by
  by_cases h9 : Grf.Reach (adj G) e p
  · exact h9
  · exfalso
    apply h.2
    have key : ∀ y, Grf.Reach (adj G) e y → RA (adj G) e p y := by
      intro y hy
      induction hy with
      | refl => exact .base (fun e1 => h9 (by rw [← e1]; exact .refl _))
      | @tail b y hb hy ih => exact .step ih hy (fun e1 => h9 (by rw [← e1]; exact hb.tail hy))
    exact key x h.1
theorem dom_self {G : List (List Int)} {e x : Int} (h : Grf.Reach (adj G) e x) : domG G e x x := ⟨h, fun h => h.ne rfl⟩
theorem dom_root {G : List (List Int)} {e d : Int} (h : domG G e d e) : d = e := by
  by_cases h1 : d = e
  · exact h1
  · exact absurd (.base (Ne.symm h1)) h.2
section
variable {G : List (List Int)} {e : Int} {l : List Int} (h : chk G = 0 ∧ isNode G e) (hI : Idm G e l)
include h hI
end
end Go.Proofs.Ytbphjbfnnhfhlaa
end

section
/- What 'reached' answers: the nodes that are reachable without one of them; and 'large' with the rows' bound. -/
set_option linter.unusedVariables false
set_option linter.unusedSimpArgs false
set_option linter.unusedSectionVars false
namespace Go.Proofs.Ytbphjbfnnhfhlaa
open Go.RowKit Go.Proofs.YtbphjbfnnhfhlaaW.PrintWords Go.Proofs.Ytbphjbfnnhfhlaa.PDigraphTells Mem

theorem large2_l0 (G : List (List Int)) (hl : G.length ≤ 60) : ∀ (d i k s : Nat), i + d = G.length → d < k → s ≤ 200 * i → ∃ b, burnishlaw08_large.l0 k (s : Int) G (G.length : Int) (i : Int) = some b ∧ (b = false → ∀ j : Nat, i ≤ j → j < G.length → (rd_L1 G (j : Int)).length ≤ 200) := by
  intro d
  induction d with
  | zero =>
    intro i k s hi hk hs
    obtain ⟨k, rfl⟩ : ∃ m, k = m + 1 := ⟨k - 1, by omega⟩
    simp only [burnishlaw08_large.l0]
    rw [if_neg (by omega)]
    exact ⟨_, rfl, fun _ j h1 h2 => by omega⟩
  | succ d ih =>
    intro i k s hi hk hs
    obtain ⟨k, rfl⟩ : ∃ m, k = m + 1 := ⟨k - 1, by omega⟩
    simp only [burnishlaw08_large.l0]
    rw [if_pos (by omega), if_pos (by omega), if_pos (by omega)]
    by_cases h : ((rd_L1 G (i : Int)).length : Int) > 200
    · rw [if_pos h]; exact ⟨_, rfl, fun h => by cases h⟩
    · rw [if_neg h]
      have e1 : wrap64 ((s : Int) + ((rd_L1 G (i : Int)).length : Int)) = ((s + (rd_L1 G (i : Int)).length : Nat) : Int) := by unfold wrap64; omega
      have e2 : wrap64 ((i : Int) + 1) = ((i + 1 : Nat) : Int) := by unfold wrap64; omega
      rw [e1, e2]
      obtain ⟨b, hb, hq⟩ := ih (i + 1) k (s + (rd_L1 G (i : Int)).length) (by omega) (by omega) (by omega)
      refine ⟨b, hb, fun h9 j h1 h2 => ?_⟩
      by_cases e : j = i
      · subst e; omega
      · exact hq h9 j (by omega) h2
theorem large2_any (A : Option Addr) (c : Nat) (G : List (List Int)) (w : World) (hC : Kd.C kG w A G.length G) (hc : G.length ≤ c) :
    Calls Try.prog 9 #[.agg #[.slice A G.length c]] w fun e w' => ∃ b, e = .returned (.bool b) ∧ (b = false → G.length ≤ 60 ∧ ∀ l ∈ G, l.length ≤ 200) ∧ Below w.heap.size w w' := by
  by_cases h : (G.length : Int) > 60
  · refine (burnishlaw08_large.calls 0 A c G true w hC hc (by unfold burnishlaw08_large.f; rw [if_pos h])).mono ?_
    rintro e w' ⟨rfl, hb⟩
    exact ⟨true, rfl, fun h => (by cases h), by first | exact hb | (obtain ⟨n, rfl⟩ := hb.out; exact pw_below_drewN (Below.refl _ _) _)⟩
  · obtain ⟨b, hb, hq⟩ := large2_l0 G (by omega) G.length 0 (G.length + 1) 0 (by omega) (by omega) (by omega)
    refine (burnishlaw08_large.calls (G.length + 1) A c G b w hC hc (by unfold burnishlaw08_large.f; rw [if_neg h]; exact hb)).mono ?_
    rintro e w' ⟨rfl, hb⟩
    refine ⟨b, rfl, fun h9 => ⟨by omega, fun l hl => ?_⟩, by first | exact hb | (obtain ⟨n, rfl⟩ := hb.out; exact pw_below_drewN (Below.refl _ _) _)⟩
    obtain ⟨j, hj, rfl⟩ := List.getElem_of_mem hl
    have := hq h9 j (by omega) hj
    rwa [rd1_get G j hj] at this

end Go.Proofs.Ytbphjbfnnhfhlaa
end

section
/- The reference's 'without' in plain lists: the nodes reachable on ways that do not meet a. -/
set_option linter.unusedVariables false
set_option linter.unusedSimpArgs false
set_option linter.unusedSectionVars false
namespace Go.Proofs.Ytbphjbfnnhfhlaa
open Go.RowKit Go.Proofs.YtbphjbfnnhfhlaaW.PrintWords Go.Proofs.Ytbphjbfnnhfhlaa.PDigraphTells Mem

/-- The search under way: the first k of the list are done, of the k-th the neighbours P are seen. -/
structure Wo (G : List (List Int)) (e a : Int) (seen : List Bool) (L : List Int) (k : Nat) (P : Int → Prop) : Prop where
  len : seen.length = G.length
  nd : L.Nodup
  node : ∀ x ∈ L, isNode G x
  met : ∀ x, isNode G x → (metOf seen x = true ↔ x ∈ L)
  ra : ∀ x ∈ L, RA (adj G) e a x
  ent : e ∈ L
  done : ∀ (i : Nat) (h : i < L.length), i < k → ∀ s ∈ adj G L[i], s ≠ a → s ∈ L
  cur : ∀ s, P s → s ≠ a → s ∈ L
/-- What it comes to. -/
def WoF (G : List (List Int)) (e a : Int) (r : List Bool) : Prop := r.length = G.length ∧ ∀ x, isNode G x → (metOf r x = true ↔ RA (adj G) e a x)
theorem Wo.le {G : List (List Int)} {e a : Int} {seen : List Bool} {L : List Int} {k : Nat} {P : Int → Prop} (h : Wo G e a seen L k P) : L.length ≤ G.length := by
  have := nodup_len L (nodes G) h.nd (fun v hv => (mem_nodes G v).2 (h.node v hv))
  rwa [nodes_len] at this
theorem Wo.fin {G : List (List Int)} {e a : Int} {seen : List Bool} {L : List Int} {k : Nat} {P : Int → Prop} (h : Wo G e a seen L k P) (hk : L.length ≤ k) : WoF G e a seen := by
  refine ⟨h.len, fun x hx => ?_⟩
  rw [h.met x hx]
  refine ⟨h.ra x, fun hr => ?_⟩
  clear hx
  induction hr with
  | base => exact h.ent
  | @step p y hp hy hn ih =>
    obtain ⟨i, hi, e1⟩ := List.getElem_of_mem ih
    exact h.done i hi (by omega) y (by rw [e1]; exact hy) hn
theorem Wo.skip {G : List (List Int)} {e a : Int} {seen : List Bool} {L : List Int} {k : Nat} {P : Int → Prop} (h : Wo G e a seen L k P) {s : Int} (hs : s = a ∨ s ∈ L) : Wo G e a seen L k (fun x => P x ∨ x = s) := by
  refine ⟨h.len, h.nd, h.node, h.met, h.ra, h.ent, h.done, fun x hx hn => ?_⟩
  rcases hx with hx | rfl
  · exact h.cur x hx hn
  · rcases hs with e1 | e1
    · exact absurd e1 hn
    · exact e1
theorem Wo.put {G : List (List Int)} {e a : Int} {seen : List Bool} {L : List Int} {k : Nat} {P : Int → Prop} (h : Wo G e a seen L k P) {x s : Int} (hx : x ∈ L) (hsx : s ∈ adj G x) (hsn : isNode G s) (hsa : s ≠ a) (hnew : s ∉ L) (hk : k < L.length) : Wo G e a (seen.set s.toNat true) (L ++ [s]) k (fun x => P x ∨ x = s) := by
  have hsn' := hsn
  unfold isNode at hsn'
  refine ⟨by rw [List.length_set]; exact h.len, ?_, fun y hy => ?_, fun y hy => ?_, fun y hy => ?_, List.mem_append_left _ h.ent, fun i hi hik t ht hta => ?_, fun y hy hn => ?_⟩
  · rw [List.nodup_append]
    exact ⟨h.nd, by simp, fun u hu v hv e1 => hnew (by rw [← List.mem_singleton.1 hv, ← e1]; exact hu)⟩
  · rcases List.mem_append.1 hy with h1 | h1
    · exact h.node y h1
    · rw [List.mem_singleton.1 h1]; exact hsn
  · rw [metOf_set seen s hsn'.1 (by rw [h.len]; exact hsn'.2), Grf.mark_iff, h.met y hy, List.mem_append, List.mem_singleton]
    exact Or.comm
  · rcases List.mem_append.1 hy with h1 | h1
    · exact h.ra y h1
    · rw [List.mem_singleton.1 h1]; exact .step (h.ra x hx) hsx hsa
  · rw [List.getElem_append_left (by omega)] at ht
    exact List.mem_append_left _ (h.done i (by omega) hik t ht hta)
  · rcases hy with hy | rfl
    · exact List.mem_append_left _ (h.cur y hy hn)
    · exact List.mem_append_right _ (List.mem_singleton.2 rfl)
section
variable {G : List (List Int)} {e a : Int} (hG : chk G = 0) (hl : G.length ≤ 100) (hr : ∀ l ∈ G, l.length ≤ 1000000)
include hG hl hr
theorem without_l1 {k : Nat} (hnext : ∀ seen L, Wo G e a seen L (k + 1) (fun _ => False) → ∃ r, Ev (fun q => burnishref08_without.l0 q a seen L ((k + 1 : Nat) : Int) G) r ∧ WoF G e a r) {row : List Int} {x : Int} (hrow : row = adj G x) (hxn : isNode G x) :
    ∀ (d j : Nat) (seen : List Bool) (L : List Int), j + d = row.length → L[k]? = some x → Wo G e a seen L k (fun s => s ∈ row.take j) →
      ∃ r, Ev (fun q => burnishref08_without.l1 q a seen L (k : Int) row (row.length : Int) (j : Int) G) r ∧ WoF G e a r := by
  have hxn' := hxn
  unfold isNode at hxn'
  have hrg : ∃ h : x.toNat < G.length, row = G[x.toNat] := by
    refine ⟨by omega, ?_⟩
    rw [hrow]
    unfold adj
    have e1 : x = (x.toNat : Int) := (Int.toNat_of_nonneg hxn'.1).symm
    conv => lhs; rw [e1]
    exact rd1_get G x.toNat (by omega)
  obtain ⟨hxl, hrg⟩ := hrg
  have hrl : row.length ≤ 1000000 := by rw [hrg]; exact hr _ (List.getElem_mem hxl)
  have hrn : ∀ s ∈ row, isNode G s := fun s hs => (chk_ok.1 hG).2 _ (List.getElem_mem hxl) s (by rw [← hrg]; exact hs)
  intro d
  induction d with
  | zero =>
    intro j seen L hj hk h
    have hkl := (List.getElem?_eq_some_iff.1 hk).1
    have hke := (List.getElem?_eq_some_iff.1 hk).2
    have hle := h.le
    rw [List.take_of_length_le (by omega)] at h
    obtain ⟨r, h1, h2⟩ := hnext seen L ⟨h.len, h.nd, h.node, h.met, h.ra, h.ent, fun i hi hik t ht hta => by
      by_cases e1 : i = k
      · subst e1
        rw [hke, ← hrow] at ht
        exact h.cur t ht hta
      · exact h.done i hi (by omega) t ht hta, fun s hs => hs.elim⟩
    refine ⟨r, Ev.suc (fun q => ?_) h1, h2⟩
    show burnishref08_without.l1 (q + 1) _ _ _ _ _ _ _ _ = _
    rw [burnishref08_without.l1, if_neg (by omega), w64 k (k + 1) (by omega) (by omega)]
  | succ d ih =>
    intro j seen L hj hk h
    have hlt : j < row.length := by omega
    have hle := h.le
    have hkl := (List.getElem?_eq_some_iff.1 hk).1
    have hke := (List.getElem?_eq_some_iff.1 hk).2
    have htk : row.take (j + 1) = row.take j ++ [row[j]] := List.take_succ_eq_append_getElem hlt
    have hsn := hrn row[j] (List.getElem_mem hlt)
    have hsn' := hsn
    unfold isNode at hsn'
    have hP : (fun s => s ∈ row.take (j + 1)) = fun s => (s ∈ row.take j) ∨ s = row[j] := by
      funext s
      rw [htk, List.mem_append, List.mem_singleton]
    have hmet := h.met row[j] hsn
    by_cases h1 : row[j] = a
    · obtain ⟨r, h2, h3⟩ := ih (j + 1) seen L (by omega) hk (by rw [hP]; exact h.skip (.inl h1))
      refine ⟨r, Ev.suc (fun q => ?_) h2, h3⟩
      show burnishref08_without.l1 (q + 1) _ _ _ _ _ _ _ _ = _
      rw [burnishref08_without.l1, if_pos (by omega), if_pos (by omega), if_pos (by omega), rd_get row j hlt, if_pos h1, w64 j (j + 1) (by omega) (by omega)]
    · by_cases h2 : row[j] ∈ L
      · obtain ⟨r, h3, h4⟩ := ih (j + 1) seen L (by omega) hk (by rw [hP]; exact h.skip (.inr h2))
        refine ⟨r, Ev.suc (fun q => ?_) h3, h4⟩
        show burnishref08_without.l1 (q + 1) _ _ _ _ _ _ _ _ = _
        rw [burnishref08_without.l1, if_pos (by omega), if_pos (by omega), if_pos (by omega), rd_get row j hlt, if_neg h1, if_pos hsn'.1, if_pos (by rw [h.len]; exact hsn'.2), metOf_rd _ _ hsn'.1, if_pos (hmet.2 h2), w64 j (j + 1) (by omega) (by omega)]
      · have hx : x ∈ L := by rw [← hke]; exact List.getElem_mem hkl
        obtain ⟨r, h3, h4⟩ := ih (j + 1) (seen.set row[j].toNat true) (L ++ [row[j]]) (by omega) (by rw [List.getElem?_append_left hkl]; exact hk) (by rw [hP]; exact h.put hx (by rw [← hrow]; exact List.getElem_mem hlt) hsn h1 h2 hkl)
        refine ⟨r, Ev.suc (fun q => ?_) h3, h4⟩
        show burnishref08_without.l1 (q + 1) _ _ _ _ _ _ _ _ = _
        rw [burnishref08_without.l1, if_pos (by omega), if_pos (by omega), if_pos (by omega), rd_get row j hlt, if_neg h1, if_pos hsn'.1, if_pos (by rw [h.len]; exact hsn'.2), metOf_rd _ _ hsn'.1, if_neg (fun h9 => h2 (hmet.1 h9)), if_pos (by omega), w64 j (j + 1) (by omega) (by omega)]
theorem without_l0 : ∀ (d k : Nat) (seen : List Bool) (L : List Int), k + d = G.length + 1 → Wo G e a seen L k (fun _ => False) → ∃ r, Ev (fun q => burnishref08_without.l0 q a seen L (k : Int) G) r ∧ WoF G e a r := by
  intro d
  induction d with
  | zero =>
    intro k seen L hk h
    have hle := h.le
    refine ⟨seen, Ev.suc (fun q => ?_) (Ev.ret _), h.fin (by omega)⟩
    show burnishref08_without.l0 (q + 1) _ _ _ _ _ = _
    rw [burnishref08_without.l0, if_neg (by omega)]
  | succ d ih =>
    intro k seen L hk h
    by_cases hlt : k < L.length
    · have hn := h.node L[k] (List.getElem_mem hlt)
      have hn' := hn
      unfold isNode at hn'
      obtain ⟨r, h1, h2⟩ := without_l1 hG hl hr (k := k) (e := e) (a := a) (fun seen L h9 => ih (k + 1) seen L (by omega) h9) (row := adj G L[k]) rfl hn (adj G L[k]).length 0 seen L (by omega) (List.getElem?_eq_getElem hlt) ⟨h.len, h.nd, h.node, h.met, h.ra, h.ent, h.done, fun s hs => by simp at hs⟩
      refine ⟨r, Ev.suc (fun q => ?_) h1, h2⟩
      show burnishref08_without.l0 (q + 1) _ _ _ _ _ = _
      rw [burnishref08_without.l0, if_pos (by omega), if_pos (by omega), rd_get L k hlt, if_pos hn'.1, if_pos hn'.2]
      rfl
    · refine ⟨seen, Ev.suc (fun q => ?_) (Ev.ret _), h.fin (by omega)⟩
      show burnishref08_without.l0 (q + 1) _ _ _ _ _ = _
      rw [burnishref08_without.l0, if_neg (by omega)]
theorem without_f (he : isNode G e) : ∃ r, Ev (fun q => burnishref08_without.f q G e a) r ∧ WoF G e a r := by
  unfold burnishref08_without.f
  have he' := he
  unfold isNode at he'
  by_cases h : e = a
  · refine ⟨List.replicate G.length false, Ev.of (fun q => by rw [if_pos (by omega), if_pos (by omega), Option.bind_some, if_pos h]; rfl) (Ev.ret _), List.length_replicate, fun x hx => ?_⟩
    rw [metOf_false, h]
    simp [ra_self]
  · obtain ⟨r, h1, h2⟩ := without_l0 hG hl hr (e := e) (a := a) (G.length + 1) 0 ((List.replicate G.length false).set e.toNat true) [e] (by omega) ⟨by simp, by simp, fun x hx => by rw [List.mem_singleton.1 hx]; exact he, fun x hx => by
      rw [metOf_set _ e he'.1 (by simp; exact he'.2), Grf.mark_iff, metOf_false, List.mem_singleton]
      simp, fun x hx => by rw [List.mem_singleton.1 hx]; exact .base h, by simp, fun i hi hik => by omega, fun s hs => hs.elim⟩
    refine ⟨r, Ev.of (fun q => ?_) h1, h2⟩
    rw [if_pos (by omega), if_pos (by omega), Option.bind_some, if_neg h, if_pos he'.1, if_pos (by simp; exact he'.2)]
    rfl
end
end Go.Proofs.Ytbphjbfnnhfhlaa
end

