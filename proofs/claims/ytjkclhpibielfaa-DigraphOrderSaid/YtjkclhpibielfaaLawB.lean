/- DigraphOrder: the law's walk. -/
import Derived.Test.YtjkclhpibielfaaLawP
import Derived.Test.YtjkclhpibielfaaOrdA
set_option linter.unusedVariables false
set_option linter.unusedSimpArgs false
namespace Go.Proofs.Ytjkclhpibielfaa
open Go.RowKit Go.Proofs.YtjkclhpibielfaaW.PrintWords Go.Proofs.Ytjkclhpibielfaa.PDigraphTells Mem

/-- The row of positions, made after w6. -/
structure AtW (G : List (List Int)) (w6 wi : World) (g cap : Nat) (o : List Int) : Prop where
  b : Below w6.heap.size w6 wi
  R : Kd.R (Kd.int .i64) 3 wi 0 (fun k => w6.heap.size ≤ k) (.slice (some ⟨g, 0, none⟩) G.length cap) o
  len : o.length = G.length
section
variable {G : List (List Int)} {w6 wi wj : World} {g cap : Nat} {o : List Int}
theorem AtW.step (h : AtW G w6 wi g cap o) (hb : Below wi.heap.size wi wj) : AtW G w6 wj g cap o := ⟨h.b.trans (hb.mono h.b.size), Kd.R_step h.R (fun k _ hlt => hb.block k hlt), h.len⟩
theorem AtW.put (h : AtW G w6 wi g cap o) (p v : Int) : AtW G w6 (wi.setCell ⟨g, p.toNat, none⟩ (.int .i64 v)) g cap (o.set p.toNat v) := by
  have hk : Kp (fun k => w6.heap.size ≤ k) wi (wi.setCell ⟨g, p.toNat, none⟩ (.int .i64 v)) := (Kp.refl _ wi).setCell (p := ⟨g, p.toNat, none⟩) (.inl (h.R.1 g rfl)) _
  exact ⟨h.b.trans (hk.belowB (fun k hk => hk) h.b.size), (Kd.R_putg h.R p v).1, by rw [List.length_set]; exact h.len⟩
theorem AtW.cell (h : AtW G w6 wi g cap o) (p : Int) (hp : isNode G p) : wi.cell? ⟨g, p.toNat, none⟩ = some (.int .i64 (rd o p)) ∧ wi.frozen? ⟨g, p.toNat, none⟩ = false := by
  have hp' := hp
  unfold isNode at hp'
  obtain ⟨h1, h2⟩ := Kd.R_celln 0 h.R p hp'.1 hp'.2
  exact ⟨h1, h2⟩
end

/-- The row while it is being filled with -1. -/
def fillL (n i : Nat) : List Int := List.replicate i (-1) ++ List.replicate (n - i) 0
theorem fillL_set (n i : Nat) (h : i < n) : (fillL n i).set ((i : Int)).toNat (-1) = fillL n (i + 1) := by
  unfold fillL
  rw [Int.toNat_natCast, List.set_append_right _ _ (by simp), List.length_replicate, Nat.sub_self, show n - i = (n - (i + 1)) + 1 by omega, List.replicate_succ, List.set_cons_zero, List.replicate_succ', List.append_assoc]
  rfl
theorem fillL_end (G : List (List Int)) : fillL G.length G.length = posL G [] := by unfold fillL; rw [posL_nil]; simp

theorem pairs_snoc (G : List (List Int)) (m j : Nat) (row : List Int) (h : j < row.length) (p : Int × Int → Bool) : (pairs G m ++ (row.take (j + 1)).map fun k => ((m : Int), k)).any p = ((pairs G m ++ (row.take j).map fun k => ((m : Int), k)).any p || p ((m : Int), row[j])) := by
  rw [List.take_succ_eq_append_getElem h, List.map_append, ← List.append_assoc, List.any_append]
  simp
theorem bck_snoc (G : List (List Int)) (f : Int → Int) (n : Nat) (h : n < G.length) : bckAll G f (n + 1) = (bckAll G f n || (pairs G G.length).any (pB f (n : Int))) := by
  unfold bckAll
  rw [List.take_succ_eq_append_getElem (by rw [nodes_len]; exact h), List.any_append]
  unfold nodes
  simp
/-- What the second loop meets. -/
theorem ord_step {G : List (List Int)} {a : Int} (h : chk G = 0 ∧ isNode G a) {L : List Int} (hL : L = (post G a).reverse) (i : Nat) (hi : i < L.length) :
    isNode G L[i] ∧ rd (posL G (L.take i)) L[i] = -1 ∧ metOf (reachL G a) L[i] = true ∧ (posL G (L.take i)).set (L[i]).toNat (i : Int) = posL G (L.take (i + 1)) := by
  have hm : L[i] ∈ (post G a).reverse := by rw [← hL]; exact List.getElem_mem hi
  have hr := (rpo_mem h _).1 hm
  have hn := reach_node h hr
  have hnd : L.Nodup := by rw [hL, List.nodup_iff_count]; intro x; rw [List.count_reverse]; exact List.nodup_iff_count.1 (post_nd h) x
  have hout := posL_last G hnd i hi
  refine ⟨hn, by rw [posL_get G _ _ hn, pos_out hout], (reachL_get h hn).2 hr, ?_⟩
  have := posL_set G hn hout
  rw [List.length_take, Nat.min_eq_left (Nat.le_of_lt hi)] at this
  rw [this, List.take_succ_eq_append_getElem hi]

set_option maxRecDepth 100000 in
set_option maxHeartbeats 4000000 in
theorem order_walk (cs : Array Value) (G : List (List Int)) (a : Int) (w : World) (hK : kGr.K w G cs.toList) (hg : big G) (ha : (Lit.int .i64 a).wf = true) :
    Calls Try.prog 4 #[.agg cs, .int .i64 a] w fun e w' => e = .returned (.bool true) ∧ Below w.heap.size w w' := by
  obtain ⟨A, c, rfl, hc, hC⟩ := graph_arg hK
  obtain ⟨r, hr⟩ : ∃ r, chk G = r := ⟨_, rfl⟩
  obtain ⟨sm, hsm⟩ : ∃ sm, smallB G = sm := ⟨_, rfl⟩
  have hX := Aside0.mk (And.intro hc (And.intro hg.short (And.intro hg.edges (And.intro hr hsm))))
  have hfl := field_succs
  have H0 := Aside0.mk (Gw.start (c := c) hC)
  clear hK hg ha hC hc hr hsm
  go_enter Try.func4, Try.ntmps4
  go_wp2_with fail
  obtain ⟨gb, hgb⟩ : ∃ gb, gb = w.heap.size := ⟨_, rfl⟩
  obtain ⟨w1, hw1⟩ : ∃ w1, w1 = w.alloc (.cells #[.slice A G.length c] 24 (0, 0)) := ⟨_, rfl⟩
  rw [← hgb, ← hw1] at H0
  rw [show Value.pointer (some (⟨w.heap.size, 0, none⟩ : Addr)) = Value.pointer (some ⟨gb, 0, none⟩) by rw [hgb], ← hw1]
  clear hgb hw1
  refine (awake_any _).mono ?_
  rintro e w2 ⟨rfl, B2⟩
  have H2 := Aside0.mk (H0.out.step B2)
  have c0 := H2.out.cell
  clear B2 H0
  go_wp2_with fail
  refine (small_any A c G _ H2.out.C hX.out.1 hX.out.2.1 hX.out.2.2.1 sm hX.out.2.2.2.2).mono ?_
  rintro e w3 ⟨rfl, B3⟩
  have H3 := Aside0.mk (H2.out.step B3)
  clear c0 B3 H2
  have c0 := H3.out.cell
  cases sm
  · go_wp2
    go_ret
    exact ⟨rfl, H3.out.b⟩
  have hE := Aside0.mk (small_le hX.out.2.2.2.2)
  go_wp2_with fail
  refine (check_any A c G _ H3.out.C hX.out.1 hX.out.2.1 r hX.out.2.2.2.1).mono ?_
  rintro e w4 ⟨rfl, B4⟩
  have H4 := Aside0.mk (H3.out.step B4)
  clear c0 B4 H3
  have c0 := H4.out.cell
  by_cases hr0 : r = 0
  rotate_left
  · have e1 : (r != 0) = true := by simp [hr0]
    have e2 : (r == 0) = false := by simp [hr0]
    clear hr0
    go_wp2
    go_ret
    exact ⟨rfl, H4.out.b⟩
  subst hr0
  by_cases ha0 : a < 0
  · go_wp2
    go_ret
    exact ⟨rfl, H4.out.b⟩
  have ha1 : 0 ≤ a := by omega
  by_cases ha2 : (G.length : Int) ≤ a
  · go_wp2
    go_ret
    exact ⟨rfl, H4.out.b⟩
  have ha3 : a < (G.length : Int) := by omega
  have hok := Aside0.mk (show chk G = 0 ∧ isNode G a from ⟨hX.out.2.2.2.1, ha1, ha3⟩)
  go_wp2_with fail
  obtain ⟨L, hL⟩ : ∃ L, Aside0 (L = (post G a).reverse) := ⟨_, ⟨rfl⟩⟩
  go_region_held3 (fun w' => w'.cell? ⟨gb, 0, none⟩ = some (.slice A G.length c)) (first | assumption | go_keep) (first
    | ((go_at_call 22; refine (rpost_any A c G a _ (by first | exact H4.out.C | exact (H4.out.drewN _).C) hX.out.1 hX.out.2.1 (by have := hE.out.1; omega)).mono ?_)
       rintro e w5 ⟨v, rfl, Rx, Bx⟩
       rw [← hL.out] at Rx
       obtain ⟨A5, c5, ev, hx, Cx⟩ := Kd.R_reads Rx
       subst ev
       have Bx : Below w4.heap.size w4 w5 := by first | exact Bx | exact (pw_below_drewN (Below.refl _ w4) _).trans Bx
       have H5 := Aside0.mk (And.intro (H4.out.step Bx) (And.intro hx Cx))
       have q5 := H5.out.1.cell
       clear Bx hx Cx Rx)
    | ((go_at_call 17; refine (reach_any A c G a _ (by first | exact H5.out.1.C | exact (H5.out.1.drewN _).C) hX.out.1 hX.out.2.1).mono ?_)
       rintro e w6 ⟨v, rfl, Rx, Bx⟩
       obtain ⟨A6, c6, ev, hx, Cx⟩ := Kd.R_reads Rx
       rw [reachL_len hok.out] at ev hx Cx
       subst ev
       have Bx : Below w5.heap.size w5 w6 := by first | exact Bx | exact (pw_below_drewN (Below.refl _ w5) _).trans Bx
       have H6 := Aside0.mk (And.intro (H5.out.1.step Bx) (And.intro (Kd.C_below H5.out.2.2 Bx) Cx))
       have q6 := H6.out.1.cell
       clear Bx hx Cx Rx))
  clear q5 H5 c0 H4
  have hGpos : 0 < G.length := by omega
  have hG60 : G.length ≤ 60 := hE.out.1
  go_wp2_with (at_make; refine Kd.R_make (Kd.int .i64) (w0 := w6) 0 3 (by rfl) (N := 59) (by rfl) 36 (.tmp 58) (.tmp 58) (by rfl) (G.length : Int) (by rfl) (by rfl) Try.underlying36 (.int .i64 0) 8 info3 rfl (by decide) (by decide) 0 (ok := fun k => w6.heap.size ≤ k) (okp := fun _ => False) rfl (fun _ h => h.elim) (Nat.le_refl _) (by omega) (by have := hE.out.1; omega) ((Kp.refl (fun _ => False) w6).belowB (fun _ h => h.elim) (Nat.zero_le _)) (Nat.zero_le _) ?_; intro v7 w7 hRA hBA hgA hatA; rw [Int.toNat_natCast] at hRA; have hb7 : Below w6.heap.size w6 w7 := ((Kp.refl (fun _ => False) w6).grown hgA (fun k hk => by cases hk)).none_below; obtain ⟨g, cap, ev, hxx⟩ := Kd.R_form hRA (by simpa using hGpos); rw [List.length_replicate] at ev; subst ev; have hI0 : Aside0 (AtW G w6 w7 g cap (fillL G.length 0)) := ⟨⟨hb7, hRA, by simp [fillL]⟩⟩; clear hRA hBA hgA hatA hb7 hxx)
  go_loopg [62] G.length (fun q v wi => ∃ i : Nat, i + q = G.length ∧ v = .int .i64 (i : Int) ∧ Aside0 (AtW G w6 wi g cap (fillL G.length i)))
  case atStart => exact ⟨0, by omega, rfl, hI0⟩
  case round =>
    obtain ⟨i, hi, rfl, hJ⟩ := hrel
    clear hI0
    by_cases hlt : i < G.length
    · have hlti : (i : Int) < G.length := by omega
      obtain ⟨gk1, rfl⟩ : ∃ q, gk = q + 1 := ⟨gk - 1, by omega⟩
      have hi1 : i + 1 + gk1 = G.length := by omega
      have hgk1 : gk1 < gk1 + 1 := by omega
      obtain ⟨s0, f0⟩ := hJ.out.cell (i : Int) ⟨by omega, hlti⟩
      have hput := hJ.out.put (i : Int) (-1)
      rw [fillL_set _ _ hlt] at hput
      rw [Int.toNat_natCast] at s0 f0 hput
      have hI := Aside0.mk hput
      clear hput hJ
      go_wp2
      go_roundg gk1
      case rel => exact ⟨i + 1, hi1, by go_num, hI⟩
      case measure => exact hgk1
    · have hie : i = G.length := by omega
      subst hie
      have hI1 := Aside0.mk (show AtW G w6 wr g cap (posL G (L.take 0)) by have := hJ.out; rw [fillL_end] at this; exact this)
      clear hJ hlt
      go_wp2_with fail
      go_loopg [71] L.length (fun q v wi => ∃ i : Nat, i + q = L.length ∧ v = .int .i64 (i : Int) ∧ Aside0 (AtW G w6 wi g cap (posL G (L.take i))))
      case atStart => exact ⟨0, by omega, rfl, hI1⟩
      case round =>
        obtain ⟨i, hi, rfl, hJ⟩ := hrel
        clear hI1
        by_cases hlt : i < L.length
        · have hlti : (i : Int) < L.length := by omega
          obtain ⟨gk1, rfl⟩ : ∃ q, gk = q + 1 := ⟨gk - 1, by omega⟩
          have hi1 : i + 1 + gk1 = L.length := by omega
          have hgk1 : gk1 < gk1 + 1 := by omega
          obtain ⟨t1, t2, t3, t4⟩ := ord_step hok.out hL.out i hlt
          obtain ⟨ld, eL, s0⟩ := Kd.at_int (Kd.C_below H6.out.2.1 hJ.out.b) (i : Int) (by omega) hlti
          rw [rd_get L i hlt, Int.toNat_natCast] at s0
          subst eL
          obtain ⟨n, hn⟩ : ∃ n, n = L[i] := ⟨_, rfl⟩
          rw [← hn] at s0 t1 t2 t3 t4
          obtain ⟨p0, f0⟩ := hJ.out.cell n t1
          rw [t2] at p0
          unfold isNode at t1
          have hn1 := t1.1
          have hn2 : n < (G.length : Int) := t1.2
          obtain ⟨rd0, eR, r0⟩ := Kd.at_bool (Kd.C_below H6.out.2.2 hJ.out.b) n hn1 hn2
          rw [metOf_rd _ _ hn1, t3] at r0
          subst eR
          have hput := hJ.out.put n (i : Int)
          rw [t4] at hput
          have hI := Aside0.mk hput
          have hL60 : L.length ≤ 60 := by have := post_len G a; rw [hL.out, List.length_reverse]; omega
          clear hput hJ t1 t2 t3 t4 hn
          go_wp2
          go_roundg gk1
          case rel => exact ⟨i + 1, hi1, by go_num, hI⟩
          case measure => exact hgk1
        · have hI2 := Aside0.mk (show AtW G w6 wr g cap (posL G L) by have := hJ.out; rw [List.take_of_length_le (by omega)] at this; exact this)
          clear hJ
          go_wp2_with fail
          obtain ⟨f, hf⟩ : ∃ f, f = pos L := ⟨_, rfl⟩
          have hI3 : Aside0 (AtW G w6 wr g cap (posL G L) ∧ (0 : Nat) ≤ 0) := ⟨hI2.out, Nat.le_refl _⟩
          have hf' := Aside0.mk hf
          clear hf
          go_loopg [105, 11] G.length (fun q v vb wi => ∃ n : Nat, n + q = G.length ∧ v = .int .i64 (n : Int) ∧ vb = .bool (bckAll G f n) ∧ Aside0 (AtW G w6 wi g cap (posL G L) ∧ (0 : Nat) ≤ 0))
          case atStart => exact ⟨0, by omega, rfl, by simp [bckAll], hI3⟩
          case round =>
            obtain ⟨n, hn, rfl, rfl, hJ⟩ := hrel
            clear hI3 hI2
            by_cases hltn : n < G.length
            · have hltni : (n : Int) < G.length := by omega
              obtain ⟨gk1, rfl⟩ : ∃ q, gk = q + 1 := ⟨gk - 1, by omega⟩
              have hn1 : n + 1 + gk1 = G.length := by omega
              have hgk1 : gk1 < gk1 + 1 := by omega
              have hnn : isNode G (n : Int) := ⟨by omega, hltni⟩
              obtain ⟨p0, f0⟩ := hJ.out.1.cell (n : Int) hnn
              obtain ⟨rd0, eR, r0⟩ := Kd.at_bool (Kd.C_below H6.out.2.2 hJ.out.1.b) (n : Int) (by omega) hltni
              rw [metOf_rd _ _ (by omega), rpo_met hok.out hnn, ← hL.out, ← hf'.out, Int.toNat_natCast] at r0
              rw [posL_get G L _ hnn, ← hf'.out, Int.toNat_natCast] at p0
              clear f0
              obtain ⟨fn, hfn⟩ : ∃ fn, Aside0 (f (n : Int) = fn) := ⟨_, ⟨rfl⟩⟩
              rw [hfn.out] at r0 p0
              subst eR
              have c7 : wr.cell? ⟨gb, 0, none⟩ = some (.slice A G.length c) := (H6.out.1.step hJ.out.1.b).cell
              have hN := Aside0.mk (show ∀ q, AtW G w6 (wr.drewN q) g cap (posL G L) from fun q => hJ.out.1.step (pw_below_drewN (Below.refl _ _) _))
              clear hJ
              go_wp2_with fail
              go_quiet (fail)
              go_wp2_with fail
              have hI4 : Aside0 (AtW G w6 (wr.drewN nq) g cap (posL G L) ∧ (0 : Nat) ≤ 0) := ⟨hN.out nq, Nat.le_refl _⟩
              clear hN r0 p0 c7
              go_loopg [11, 13, 124] G.length (fun q vb va v wi => ∃ m : Nat, m + q = G.length ∧ v = .int .i64 (m : Int) ∧ vb = .bool (bckAll G f n || (pairs G m).any (pB f (n : Int))) ∧ va = .bool (((n : Int) == a) || (pairs G m).any (pA f (n : Int))) ∧ Aside0 (AtW G w6 wi g cap (posL G L) ∧ (0 : Nat) ≤ 0))
              case atStart => exact ⟨0, by omega, rfl, by simp [pairs], by simp [pairs], hI4⟩
              case round =>
                obtain ⟨m, hm, rfl, rfl, rfl, hJ⟩ := hrel
                clear hI4
                by_cases hltm : m < G.length
                · have hltmi : (m : Int) < G.length := by omega
                  obtain ⟨gk2, rfl⟩ : ∃ q, gk = q + 1 := ⟨gk - 1, by omega⟩
                  have hm1 : m + 1 + gk2 = G.length := by omega
                  have hgk2 : gk2 < gk2 + 1 := by omega
                  have hmn : isNode G (m : Int) := ⟨by omega, hltmi⟩
                  obtain ⟨gd, Ar, cr, eG, r0, rl, rC⟩ := at_L1 (H6.out.1.step hJ.out.1.b).C (m : Int) (by omega) hltmi
                  rw [Int.toNat_natCast] at r0
                  subst eG
                  obtain ⟨row, hrow⟩ : ∃ row, rd_L1 G (m : Int) = row := ⟨_, rfl⟩
                  rw [hrow] at r0 rl rC
                  have hrg : G[m] = row := by rw [← hrow]; exact (rd1_get G m hltm).symm
                  have hrl : row.length ≤ 300 := by have := row_le_edges G row (by rw [← hrg]; exact List.getElem_mem hltm); have := hE.out.2; omega
                  have c7 : wr.cell? ⟨gb, 0, none⟩ = some (.slice (some gd) G.length c) := (H6.out.1.step hJ.out.1.b).cell
                  have hY := Aside0.mk hrg
                  have hI5 : Aside0 (AtW G w6 wr g cap (posL G L) ∧ Kd.C (Kd.int .i64) wr Ar row.length row) := ⟨hJ.out.1, rC⟩
                  clear hJ hrow hrg rC rl
                  go_wp2_with fail
                  clear r0 c7
                  go_loopg [11, 13, 131] row.length (fun q vb va v wi => ∃ j : Nat, j + q = row.length ∧ v = .int .i64 (j : Int) ∧ vb = .bool (bckAll G f n || (pairs G m ++ (row.take j).map fun k => ((m : Int), k)).any (pB f (n : Int))) ∧ va = .bool (((n : Int) == a) || (pairs G m ++ (row.take j).map fun k => ((m : Int), k)).any (pA f (n : Int))) ∧ Aside0 (AtW G w6 wi g cap (posL G L) ∧ Kd.C (Kd.int .i64) wi Ar row.length row))
                  case atStart => exact ⟨0, by omega, rfl, by simp, by simp, hI5⟩
                  case round =>
                    obtain ⟨j, hj, rfl, rfl, rfl, hJ⟩ := hrel
                    clear hI5
                    by_cases hltj : j < row.length
                    · have hltji : (j : Int) < row.length := by omega
                      obtain ⟨gk3, rfl⟩ : ∃ q, gk = q + 1 := ⟨gk - 1, by omega⟩
                      have hj1 : j + 1 + gk3 = row.length := by omega
                      have hgk3 : gk3 < gk3 + 1 := by omega
                      obtain ⟨ad, eA, s0⟩ := Kd.at_int hJ.out.2 (j : Int) (by omega) hltji
                      rw [rd_get row j hltj, Int.toNat_natCast] at s0
                      subst eA
                      obtain ⟨z0, zf⟩ := hJ.out.1.cell (m : Int) hmn
                      rw [posL_get G L _ hmn, ← hf'.out, Int.toNat_natCast] at z0
                      obtain ⟨y0, yf⟩ := hJ.out.1.cell (n : Int) hnn
                      rw [posL_get G L _ hnn, ← hf'.out, Int.toNat_natCast, hfn.out] at y0
                      obtain ⟨fm, hfm⟩ : ∃ fm, Aside0 (f (m : Int) = fm) := ⟨_, ⟨rfl⟩⟩
                      rw [hfm.out] at z0
                      have hsb := pairs_snoc G m j row hltj (pB f (n : Int))
                      have hsa := pairs_snoc G m j row hltj (pA f (n : Int))
                      obtain ⟨k, hk⟩ : ∃ k, k = row[j] := ⟨_, rfl⟩
                      rw [← hk] at s0 hsa hsb
                      obtain ⟨vA, hvA⟩ : ∃ v, (((n : Int) == a) || (pairs G m ++ (row.take j).map fun k => ((m : Int), k)).any (pA f (n : Int))) = v := ⟨_, rfl⟩
                      obtain ⟨vB, hvB⟩ : ∃ v, (bckAll G f n || (pairs G m ++ (row.take j).map fun k => ((m : Int), k)).any (pB f (n : Int))) = v := ⟨_, rfl⟩
                      have hA' := Aside0.mk (show (((n : Int) == a) || (pairs G m ++ (row.take (j + 1)).map fun k => ((m : Int), k)).any (pA f (n : Int))) = (vA || pA f (n : Int) ((m : Int), k)) by rw [hsa, ← Bool.or_assoc, hvA])
                      have hB' := Aside0.mk (show (bckAll G f n || (pairs G m ++ (row.take (j + 1)).map fun k => ((m : Int), k)).any (pB f (n : Int))) = (vB || pB f (n : Int) ((m : Int), k)) by rw [hsb, ← Bool.or_assoc, hvB])
                      rw [hvA, hvB]
                      have hN := Aside0.mk (show ∀ q, AtW G w6 (wr.drewN q) g cap (posL G L) ∧ Kd.C (Kd.int .i64) (wr.drewN q) (some ad) row.length row from fun q => ⟨hJ.out.1.step (pw_below_drewN (Below.refl _ _) _), Kd.C_drewN hJ.out.2 _⟩)
                      clear hvA hvB hsa hsb hk hJ zf yf
                      by_cases hkn : k = (n : Int)
                      · have e1 : (k == (n : Int)) = true := by simp [hkn]
                        by_cases h0 : fm < 0
                        · have hpa : pA f (n : Int) ((m : Int), k) = false := by simp [pA, hfm.out]; omega
                          have hpb : pB f (n : Int) ((m : Int), k) = false := by simp [pB, hfm.out]; omega
                          rw [hpa, Bool.or_false] at hA'
                          rw [hpb, Bool.or_false] at hB'
                          have e2 : decide (0 ≤ fm) = false := by simp; omega
                          have e3 : decide (fm ≥ 0) = false := e2
                          have e4 : ¬ 0 ≤ fm := by omega
                          clear hkn hpa hpb h0
                          cases vA <;> cases vB <;> (go_wp2_with fail; go_quiet (fail); go_wp2_with fail; go_quiet (fail); go_wp2_with fail; go_roundg gk3; (case rel => exact ⟨j + 1, hj1, by go_num, by rw [hB'.out], by rw [hA'.out], ⟨hN.out _⟩⟩); (case measure => exact hgk3))
                        · have e2 : decide (0 ≤ fm) = true := by simp; omega
                          have e3 : decide (fm ≥ 0) = true := e2
                          have e4 : 0 ≤ fm := by omega
                          by_cases hlt9 : fm < fn
                          · have hpa : pA f (n : Int) ((m : Int), k) = true := by simp [pA, hfm.out, hfn.out, hkn, e4, hlt9]
                            have hpb : pB f (n : Int) ((m : Int), k) = false := by simp [pB, hfm.out, hfn.out]; omega
                            rw [hpa, Bool.or_true] at hA'
                            rw [hpb, Bool.or_false] at hB'
                            have e5 : decide (fm < fn) = true := by simp [hlt9]
                            have e6 : decide (fn ≤ fm) = false := by simp; omega
                            have e7 : decide (fm ≥ fn) = false := e6
                            have e8 : ¬ fn ≤ fm := by omega
                            clear hkn hpa hpb h0
                            cases vA <;> cases vB <;> (go_wp2_with fail; go_quiet (fail); go_wp2_with fail; go_quiet (fail); go_wp2_with fail; go_roundg gk3; (case rel => exact ⟨j + 1, hj1, by go_num, by rw [hB'.out], by rw [hA'.out], ⟨hN.out _⟩⟩); (case measure => exact hgk3))
                          · have hpa : pA f (n : Int) ((m : Int), k) = false := by simp [pA, hfm.out, hfn.out]; omega
                            have hpb : pB f (n : Int) ((m : Int), k) = true := by simp [pB, hfm.out, hfn.out, hkn, e4]; omega
                            rw [hpa, Bool.or_false] at hA'
                            rw [hpb, Bool.or_true] at hB'
                            have e5 : decide (fm < fn) = false := by simp; omega
                            have e8 : fn ≤ fm := by omega
                            have e6 : decide (fn ≤ fm) = true := by simp [e8]
                            have e7 : decide (fm ≥ fn) = true := e6
                            clear hkn hpa hpb h0
                            cases vA <;> cases vB <;> (go_wp2_with fail; go_quiet (fail); go_wp2_with fail; go_quiet (fail); go_wp2_with fail; go_roundg gk3; (case rel => exact ⟨j + 1, hj1, by go_num, by rw [hB'.out], by rw [hA'.out], ⟨hN.out _⟩⟩); (case measure => exact hgk3))
                      · have e1 : (k == (n : Int)) = false := by simp [hkn]
                        have hpa : pA f (n : Int) ((m : Int), k) = false := by simp [pA, hkn]
                        have hpb : pB f (n : Int) ((m : Int), k) = false := by simp [pB, hkn]
                        rw [hpa, Bool.or_false] at hA'
                        rw [hpb, Bool.or_false] at hB'
                        clear hpa hpb z0 y0
                        cases vA <;> cases vB <;> (go_wp2_with fail; go_quiet (fail); go_wp2_with fail; go_quiet (fail); go_wp2_with fail; go_roundg gk3; (case rel => exact ⟨j + 1, hj1, by go_num, by rw [hB'.out], by rw [hA'.out], ⟨hN.out _⟩⟩); (case measure => exact hgk3))
                    · have eT : row.take j = row := List.take_of_length_le (by omega)
                      have eP : pairs G m ++ (row.take j).map (fun k => ((m : Int), k)) = pairs G (m + 1) := by rw [eT, pairs_succ G m hltm, hY.out]
                      rw [eP]
                      have hI6 : Aside0 (AtW G w6 wr g cap (posL G L) ∧ (0 : Nat) ≤ 0) := ⟨hJ.out.1, Nat.le_refl _⟩
                      clear hJ eT eP
                      go_wp2_with fail
                      go_roundg gk2
                      case rel => exact ⟨m + 1, hm1, by go_num, rfl, rfl, hI6⟩
                      case measure => exact hgk2
                · have hme : m = G.length := by omega
                  subst hme
                  have hN := Aside0.mk (show AtW G w6 wr g cap (posL G L) from hJ.out.1)
                  have r0 : ∃ rd1, rd1 = rd0 ∧ wr.cell? (rd1.add n) = some (Value.bool (decide (0 ≤ fn))) := by
                    obtain ⟨rd1, eR, r0⟩ := Kd.at_bool (Kd.C_below H6.out.2.2 hJ.out.1.b) (n : Int) (by omega) hltni
                    rw [metOf_rd _ _ (by omega), rpo_met hok.out hnn, ← hL.out, ← hf'.out, Int.toNat_natCast, hfn.out] at r0
                    injection eR with eR
                    exact ⟨rd1, eR.symm, r0⟩
                  obtain ⟨_, rfl, r0⟩ := r0
                  have hbs := bck_snoc G f n hltn
                  by_cases h0 : 0 ≤ fn
                  · have hre : Grf.Reach (adj G) a (n : Int) := by
                      rw [← hfn.out, hf'.out, pos_nonneg, hL.out] at h0
                      exact (rpo_mem hok.out _).1 h0
                    have haf : (((n : Int) == a) || (pairs G G.length).any (pA f (n : Int))) = true := by
                      rcases after_final hok.out hre with h9 | h9
                      · rw [h9]; simp
                      · rw [hf'.out, hL.out, h9, Bool.or_true]
                    rw [haf]
                    have e2 : decide (0 ≤ fn) = true := by simp [h0]
                    rw [e2] at r0
                    clear hre haf hJ
                    go_wp2_with fail
                    go_roundg gk1
                    case rel => exact ⟨n + 1, hn1, by go_num, by rw [hbs], ⟨⟨hN.out, Nat.le_refl _⟩⟩⟩
                    case measure => exact hgk1
                  · have e2 : decide (0 ≤ fn) = false := by simp; omega
                    rw [e2] at r0
                    clear hJ
                    go_wp2_with fail
                    go_roundg gk1
                    case rel => exact ⟨n + 1, hn1, by go_num, by rw [hbs], ⟨⟨hN.out, Nat.le_refl _⟩⟩⟩
                    case measure => exact hgk1
            · have hne : n = G.length := by omega
              subst hne
              have hI7 := Aside0.mk (show AtW G w6 wr g cap (posL G L) from hJ.out.1)
              have hbf : bckAll G f G.length = (pairs G G.length).any (pC G a) := by rw [hf'.out, hL.out]; exact back_final hok.out
              clear hJ
              go_wp2_with fail
              have hI8 : Aside0 (AtW G w6 wr g cap (posL G L) ∧ (0 : Nat) ≤ 0) := ⟨hI7.out, Nat.le_refl _⟩
              rw [hbf]
              obtain ⟨vF, hvF⟩ : ∃ v, Aside0 ((pairs G G.length).any (pC G a) = v) := ⟨_, ⟨rfl⟩⟩
              rw [hvF.out]
              go_loopg [18, 196] G.length (fun q vc v wi => ∃ n : Nat, n + q = G.length ∧ v = .int .i64 (n : Int) ∧ vc = .bool ((pairs G n).any (pC G a)) ∧ Aside0 (AtW G w6 wi g cap (posL G L) ∧ (0 : Nat) ≤ 0))
              case atStart => exact ⟨0, by omega, rfl, by simp [pairs], hI8⟩
              case round =>
                obtain ⟨n, hn, rfl, rfl, hJ⟩ := hrel
                clear hI8 hI7
                by_cases hltn : n < G.length
                · have hltni : (n : Int) < G.length := by omega
                  obtain ⟨gk1, rfl⟩ : ∃ q, gk = q + 1 := ⟨gk - 1, by omega⟩
                  have hn1 : n + 1 + gk1 = G.length := by omega
                  have hgk1 : gk1 < gk1 + 1 := by omega
                  have hnn : isNode G (n : Int) := ⟨by omega, hltni⟩
                  obtain ⟨gd, Ar, cr, eG, r0, rl, rC⟩ := at_L1 (H6.out.1.step hJ.out.1.b).C (n : Int) (by omega) hltni
                  rw [Int.toNat_natCast] at r0
                  subst eG
                  obtain ⟨row, hrow⟩ : ∃ row, rd_L1 G (n : Int) = row := ⟨_, rfl⟩
                  rw [hrow] at r0 rl rC
                  have hrg : G[n] = row := by rw [← hrow]; exact (rd1_get G n hltn).symm
                  have hrl : row.length ≤ 300 := by have := row_le_edges G row (by rw [← hrg]; exact List.getElem_mem hltn); have := hE.out.2; omega
                  have c7 : wr.cell? ⟨gb, 0, none⟩ = some (.slice (some gd) G.length c) := (H6.out.1.step hJ.out.1.b).cell
                  have hY := Aside0.mk hrg
                  have hI5 : Aside0 (AtW G w6 wr g cap (posL G L) ∧ Kd.C (Kd.int .i64) wr Ar row.length row) := ⟨hJ.out.1, rC⟩
                  clear hJ hrow hrg rC rl
                  go_wp2_with fail
                  clear r0 c7
                  go_loopg [18, 205] row.length (fun q vc v wi => ∃ j : Nat, j + q = row.length ∧ v = .int .i64 (j : Int) ∧ vc = .bool ((pairs G n ++ (row.take j).map fun k => ((n : Int), k)).any (pC G a)) ∧ Aside0 (AtW G w6 wi g cap (posL G L) ∧ Kd.C (Kd.int .i64) wi Ar row.length row))
                  case atStart => exact ⟨0, by omega, rfl, by simp, hI5⟩
                  case round =>
                    obtain ⟨j, hj, rfl, rfl, hJ⟩ := hrel
                    clear hI5
                    by_cases hltj : j < row.length
                    · have hltji : (j : Int) < row.length := by omega
                      obtain ⟨gk3, rfl⟩ : ∃ q, gk = q + 1 := ⟨gk - 1, by omega⟩
                      have hj1 : j + 1 + gk3 = row.length := by omega
                      have hgk3 : gk3 < gk3 + 1 := by omega
                      obtain ⟨ad, eA, s0⟩ := Kd.at_int hJ.out.2 (j : Int) (by omega) hltji
                      rw [rd_get row j hltj, Int.toNat_natCast] at s0
                      subst eA
                      obtain ⟨rd0, eR, r0⟩ := Kd.at_bool (Kd.C_below H6.out.2.2 hJ.out.1.b) (n : Int) (by omega) hltni
                      rw [metOf_rd _ _ (by omega), Int.toNat_natCast] at r0
                      subst eR
                      have hsa := pairs_snoc G n j row hltj (pC G a)
                      have hkn : isNode G row[j] := okG.row hok.out.1 (l := G[n]) (List.getElem_mem hltn) (by rw [hY.out]; exact List.getElem_mem hltj)
                      obtain ⟨k, hk⟩ : ∃ k, k = row[j] := ⟨_, rfl⟩
                      rw [← hk] at s0 hsa hkn
                      obtain ⟨vA, hvA⟩ : ∃ v, (pairs G n ++ (row.take j).map fun k => ((n : Int), k)).any (pC G a) = v := ⟨_, rfl⟩
                      have hA' := Aside0.mk (show (pairs G n ++ (row.take (j + 1)).map fun k => ((n : Int), k)).any (pC G a) = (vA || pC G a ((n : Int), k)) by rw [hsa, hvA])
                      rw [hvA]
                      have hN := Aside0.mk (And.intro hJ.out.1 (And.intro hJ.out.2 hkn))
                      have c7 : wr.cell? ⟨gb, 0, none⟩ = some (.slice (some gd) G.length c) := (H6.out.1.step hJ.out.1.b).cell
                      clear hvA hsa hk hJ hkn
                      obtain ⟨rb, hrb⟩ : ∃ v, metOf (reachL G a) (n : Int) = v := ⟨_, rfl⟩
                      rw [hrb] at r0
                      cases rb
                      · have hpa : pC G a ((n : Int), k) = false := by simp [pC, hrb]
                        rw [hpa, Bool.or_false] at hA'
                        clear hrb hpa
                        go_wp2_with fail
                        go_roundg gk3
                        case rel => exact ⟨j + 1, hj1, by go_num, by rw [hA'.out], ⟨hN.out.1, hN.out.2.1⟩⟩
                        case measure => exact hgk3
                      · have hrb' := Aside0.mk hrb
                        clear hrb
                        go_wp2_with fail
                        refine (reach_any (some gd) c G k _ (H6.out.1.step hN.out.1.b).C hX.out.1 hX.out.2.1).mono ?_
                        rintro e w9 ⟨v9, rfl, R9, B9⟩
                        obtain ⟨A9, c9, ev, hx9, C9⟩ := Kd.R_reads R9
                        rw [reachL_len ⟨hok.out.1, hN.out.2.2⟩] at ev hx9 C9
                        subst ev
                        obtain ⟨rm0, eM, m0⟩ := Kd.at_bool C9 (n : Int) (by omega) hltni
                        rw [metOf_rd _ _ (by omega), Int.toNat_natCast] at m0
                        subst eM
                        obtain ⟨rm, hrm⟩ : ∃ v, metOf (reachL G k) (n : Int) = v := ⟨_, rfl⟩
                        rw [hrm] at m0
                        have hpa : pC G a ((n : Int), k) = rm := by simp [pC, hrb'.out, hrm]
                        rw [hpa] at hA'
                        have hM := Aside0.mk (show AtW G w6 w9 g cap (posL G L) ∧ Kd.C (Kd.int .i64) w9 (some ad) row.length row from ⟨hN.out.1.step B9, Kd.C_below hN.out.2.1 B9⟩)
                        clear R9 hx9 C9 B9 hpa hrm hN s0 r0 c7 hrb'
                        cases vA <;> cases rm <;> (go_wp2_with fail; go_roundg gk3; (case rel => exact ⟨j + 1, hj1, by go_num, by rw [hA'.out]; rfl, hM⟩); (case measure => exact hgk3))
                    · have eT : row.take j = row := List.take_of_length_le (by omega)
                      have eP : pairs G n ++ (row.take j).map (fun k => ((n : Int), k)) = pairs G (n + 1) := by rw [eT, pairs_succ G n hltn, hY.out]
                      rw [eP]
                      have hI6 : Aside0 (AtW G w6 wr g cap (posL G L) ∧ (0 : Nat) ≤ 0) := ⟨hJ.out.1, Nat.le_refl _⟩
                      clear hJ eT eP
                      go_wp2_with fail
                      go_roundg gk1
                      case rel => exact ⟨n + 1, hn1, by go_num, rfl, hI6⟩
                      case measure => exact hgk1
                · have hne9 : n = G.length := by omega
                  subst hne9
                  rw [hvF.out]
                  obtain ⟨t9, ht9⟩ := rpo_head hok.out
                  rw [← hL.out] at ht9
                  have hLp : 0 < L.length := by rw [ht9]; simp
                  obtain ⟨l0, eL, s0⟩ := Kd.at_int (Kd.C_below H6.out.2.1 hJ.out.1.b) 0 (by omega) (by omega)
                  have e0 : rd L 0 = a := by rw [ht9]; rfl
                  rw [e0] at s0
                  replace s0 : wr.cell? l0 = some (.int .i64 a) := s0
                  subst eL
                  have hEnd := Aside0.mk ((H6.out.1.step hJ.out.1.b).b)
                  obtain ⟨m9, hm9⟩ : ∃ m9, L.length = m9 + 1 := ⟨L.length - 1, by omega⟩
                  have hLi : (0 : Int) < (L.length : Int) := by omega
                  clear hJ e0 ht9
                  go_wp2_with fail

                  go_ret
                  exact ⟨rfl, hEnd.out⟩
end Go.Proofs.Ytjkclhpibielfaa
