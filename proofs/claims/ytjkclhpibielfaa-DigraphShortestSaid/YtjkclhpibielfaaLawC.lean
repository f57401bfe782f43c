/- DigraphShortest: the law's walk. -/
import Derived.Test.YtjkclhpibielfaaLawP
import Derived.Test.YtjkclhpibielfaaShA
set_option linter.unusedVariables false
set_option linter.unusedSimpArgs false
namespace Go.Proofs.Ytjkclhpibielfaa
open Go.RowKit Go.Proofs.YtjkclhpibielfaaW.PrintWords Go.Proofs.Ytjkclhpibielfaa.PDigraphTells Mem

theorem zc1 {m lq i : Nat} (h : i + 1 ≤ lq + 1) : decide ((lq : Int) + 1 < (i : Int) + 1) = false ∧ decide ((lq : Int) < (i : Int)) = false ∧ decide (lq < i) = false ∧ decide (lq + 1 < i + 1) = false := ⟨decide_eq_false (by omega), decide_eq_false (by omega), decide_eq_false (by omega), decide_eq_false (by omega)⟩
theorem zc2 {lq i : Nat} (h : lq = i) : lq + 1 = i + 1 := by omega
theorem zc3 {n : Nat} (h : 1 < n) : (1 : Int) < (n : Int) := by omega
theorem zc4 {lq i : Nat} (h0 : lq ≠ 0) (h : lq = i) : (1 : Int) < (i : Int) + 1 := by omega
theorem zc5 {lq i : Nat} (h0 : lq ≠ 0) (h : lq = i) : (0 : Int) < (i : Int) := by omega
theorem zc6 {k p : Int} (h : k = p) : decide (k < p) = false := decide_eq_false (by omega)
theorem zc7 {k p : Int} (h : p ≤ k) : decide (k < p) = false := decide_eq_false (by omega)
theorem zc8 {lq i : Nat} (h : ¬ lq = i) : (((lq : Int) + 1) == ((i : Int) + 1)) = false ∧ ((lq : Int) == (i : Int)) = false ∧ (lq == i) = false ∧ (lq + 1 == i + 1) = false := ⟨beq_eq_false_iff_ne.2 (by omega), beq_eq_false_iff_ne.2 (by omega), beq_eq_false_iff_ne.2 h, beq_eq_false_iff_ne.2 (by omega)⟩
theorem zc9 {lq i : Nat} (h : lq = i) : (((lq : Int) + 1) == ((i : Int) + 1)) = true ∧ ((lq : Int) == (i : Int)) = true ∧ (lq == i) = true ∧ (lq + 1 == i + 1) = true := by subst h; simp
theorem zc10 {lq : Nat} (h : lq ≠ 0) (h7 : lq < 70000) : ((lq : Int) == 0) = false ∧ (lq == 0) = false ∧ wrap64 ((lq : Int) + 1) = (lq : Int) + 1 := ⟨beq_eq_false_iff_ne.2 (by omega), beq_eq_false_iff_ne.2 h, by unfold wrap64; omega⟩
theorem zc11 {p : List Int} {n : Nat} (h : p.length = n + 1) : 0 < p.length := by omega
theorem zc12 {q : List Int} {n : Nat} (h : q.length = n) (h0 : n ≠ 0) : 0 < q.length := by omega
theorem zc13 {p : List Int} {n c : Nat} (h : p.length = n + 1) (h0 : p.length ≤ c) : n ≤ c - 1 := by omega
theorem zc14 {n : Nat} (h : n < 70000) : n < 4611686018427387904 := by omega
/-- A row from its second element on. -/
theorem row_from1 {A : Option Addr} {c : Nat} {l : List Int} (hn : 1 ≤ l.length) (hc : l.length ≤ c) :
    ∃ X, (∀ W : World, (Instr.slice 36 (.slice A l.length c) (some (.int .i64 1)) none none).run Try.prog W = .ok (.slice X (l.length - 1) (c - 1)) W) ∧ ∀ W, Kd.C (Kd.int .i64) W A l.length l → Kd.C (Kd.int .i64) W X (l.drop 1).length (l.drop 1) := by
  obtain ⟨i0, hi, hz⟩ : ∃ i0, Try.prog.info? 3 = some i0 ∧ i0.size = 1 := ⟨_, rfl, by kernel_rfl⟩
  refine ⟨if c = 1 then A else A.map (·.add (1 * 1)), fun W => ?_, fun W h => Kd.C_drop h hn hc⟩
  have := cut_from 36 3 .i64 Try.underlying36 hi 1 hz A l.length c 1 (by omega) (by omega) W
  rw [this]
  rfl

set_option maxRecDepth 100000 in
set_option maxHeartbeats 4000000 in
theorem shortest_walk (cs : Array Value) (G : List (List Int)) (a b : Int) (w : World) (hK : kGr.K w G cs.toList) (hg : big G) (ha : (Lit.int .i64 a).wf = true) (hb : (Lit.int .i64 b).wf = true) :
    Calls Try.prog 5 #[.agg cs, .int .i64 a, .int .i64 b] w fun e w' => e = .returned (.bool true) ∧ Below w.heap.size w w' := by
  obtain ⟨A, c, rfl, hc, hC⟩ := graph_arg hK
  obtain ⟨r, hr⟩ : ∃ r, chk G = r := ⟨_, rfl⟩
  obtain ⟨sm, hsm⟩ : ∃ sm, smallB G = sm := ⟨_, rfl⟩
  have hX := Aside0.mk (And.intro hc (And.intro hg.short (And.intro hg.edges (And.intro hr hsm))))
  have hfl := field_succs
  have H0 := Aside0.mk (Gw.start (c := c) hC)
  clear hK hg ha hb hC hc hr hsm
  go_enter Try.func5, Try.ntmps5
  go_wp2_with fail
  obtain ⟨gb, hgb⟩ : ∃ gb, gb = w.heap.size := ⟨_, rfl⟩
  obtain ⟨w1, hw1⟩ : ∃ w1, w1 = w.alloc (.cells #[.slice A G.length c] 24 (0, 0)) := ⟨_, rfl⟩
  rw [← hgb, ← hw1] at H0
  rw [show Value.pointer (some (⟨w.heap.size, 0, none⟩ : Addr)) = Value.pointer (some ⟨gb, 0, none⟩) by rw [hgb], ← hw1]
  clear hgb hw1
  refine (awake_any _).mono ?_
  rintro e w2 ⟨rfl, B2⟩
  have H2 := Aside0.mk (H0.out.step B2)
  have c0 := H2.out.cell
  clear B2 H0
  go_wp2_with fail
  refine (small_any A c G _ H2.out.C hX.out.1 hX.out.2.1 hX.out.2.2.1 sm hX.out.2.2.2.2).mono ?_
  rintro e w3 ⟨rfl, B3⟩
  have H3 := Aside0.mk (H2.out.step B3)
  clear c0 B3 H2
  have c0 := H3.out.cell
  cases sm
  · go_wp2
    go_ret
    exact ⟨rfl, H3.out.b⟩
  have hE := Aside0.mk (small_le hX.out.2.2.2.2)
  go_wp2_with fail
  refine (check_any A c G _ H3.out.C hX.out.1 hX.out.2.1 r hX.out.2.2.2.1).mono ?_
  rintro e w4 ⟨rfl, B4⟩
  have H4 := Aside0.mk (H3.out.step B4)
  clear c0 B4 H3
  have c0 := H4.out.cell
  by_cases hr0 : r = 0
  rotate_left
  · have e1 : (r != 0) = true := by simp [hr0]
    have e2 : (r == 0) = false := by simp [hr0]
    clear hr0
    go_wp2
    go_ret
    exact ⟨rfl, H4.out.b⟩
  subst hr0
  by_cases ha0 : a < 0
  · go_wp2
    go_ret
    exact ⟨rfl, H4.out.b⟩
  have ha1 : 0 ≤ a := by omega
  by_cases ha2 : (G.length : Int) ≤ a
  · go_wp2
    go_ret
    exact ⟨rfl, H4.out.b⟩
  have ha3 : a < (G.length : Int) := by omega
  by_cases hb0 : b < 0
  · go_wp2
    go_ret
    exact ⟨rfl, H4.out.b⟩
  have hb1 : 0 ≤ b := by omega
  by_cases hb2 : (G.length : Int) ≤ b
  · go_wp2
    go_ret
    exact ⟨rfl, H4.out.b⟩
  have hb3 : b < (G.length : Int) := by omega
  have hok := Aside0.mk (show chk G = 0 ∧ isNode G a ∧ isNode G b from ⟨hX.out.2.2.2.1, ⟨ha1, ha3⟩, ⟨hb1, hb3⟩⟩)
  go_wp2_with fail
  go_region_held3 (fun w' => w'.cell? ⟨gb, 0, none⟩ = some (.slice A G.length c)) (first | assumption | go_keep) (first
    | ((go_at_call 24; refine (short_any A c G a b _ (by first | exact H4.out.C | exact (H4.out.drewN _).C) hX.out.1 hX.out.2.1).mono ?_)
       rintro e w5 ⟨A5, c5, p, rfl, hx, hsp, Cx, Bx⟩
       have Bx : Below w4.heap.size w4 w5 := by first | exact Bx | exact (pw_below_drewN (Below.refl _ w4) _).trans Bx
       have H5 := Aside0.mk (And.intro (H4.out.step Bx) (And.intro hx (And.intro hsp Cx)))
       have q5 := H5.out.1.cell
       clear Bx hx Cx hsp)
    | ((go_at_call 17; refine (reach_any A c G a _ (by first | exact H5.out.1.C | exact (H5.out.1.drewN _).C) hX.out.1 hX.out.2.1).mono ?_)
       rintro e w6 ⟨v, rfl, Rx, Bx⟩
       obtain ⟨A6, c6, ev, hx, Cx⟩ := Kd.R_reads Rx
       rw [reachL_len ⟨hok.out.1, hok.out.2.1⟩] at ev hx Cx
       subst ev
       have Bx : Below w5.heap.size w5 w6 := by first | exact Bx | exact (pw_below_drewN (Below.refl _ w5) _).trans Bx
       have H6 := Aside0.mk (And.intro (H5.out.1.step Bx) (And.intro H5.out.2.1 (And.intro H5.out.2.2.1 (And.intro (Kd.C_below H5.out.2.2.2 Bx) Cx))))
       have q6 := H6.out.1.cell
       clear Bx hx Cx Rx))
  clear q5 H5 c0 H4
  have hsp := H6.out.2.2.1
  have hG60 : G.length ≤ 60 := hE.out.1
  obtain ⟨l0, eL, s0⟩ := Kd.at_bool H6.out.2.2.2.2 b hb1 hb3
  rw [metOf_rd _ _ hb1, sp_reach hok.out hsp] at s0
  subst eL
  by_cases hp0 : p.length = 0
  · obtain rfl := List.eq_nil_of_length_eq_zero hp0
    rw [show decide (0 < ([] : List Int).length) = false from rfl] at s0
    clear hp0 hsp
    go_wp2
    go_ret
    exact ⟨rfl, H6.out.1.b⟩
  have hpos : 0 < p.length := by omega
  rw [decide_eq_true hpos] at s0
  obtain ⟨g0, g1, g2, g3, g4⟩ := sp_get hok.out hsp hpos
  have hpl := spath_len hsp
  obtain ⟨m, hm⟩ : ∃ m, p.length = m + 1 := ⟨p.length - 1, by omega⟩
  obtain ⟨ld, eA, t0⟩ := Kd.at_int H6.out.2.2.2.1 0 (by omega) (by omega)
  rw [g0] at t0
  replace t0 : w6.cell? ld = some (.int .i64 a) := t0
  obtain ⟨ld2, eA2, t1⟩ := Kd.at_int H6.out.2.2.2.1 (m : Int) (by omega) (by omega)
  rw [show rd p (m : Int) = b by rw [← g1, hm]; congr 1; omega, Int.toNat_natCast] at t1
  subst eA
  injection eA2 with eA2
  subst eA2
  have hS := Aside0.mk (And.intro hsp (And.intro hm (And.intro g0 (And.intro g2 (And.intro g3 g4)))))
  have hmi : (0 : Int) ≤ (m : Int) := by omega
  have hml : m < 70000 := by omega
  have hw1 : wrap64 (m : Int) = (m : Int) := by unfold wrap64; omega
  have e10 : (((m : Int) + 1) == 0) = false := beq_eq_false_iff_ne.2 (by omega)
  have e11 : decide (0 < (m : Int) + 1) = true := decide_eq_true (by omega)
  rw [hm]
  clear g0 g1 g3 g4 hsp hp0 hpos hm hpl
  by_cases hab : a = b
  · have hm0 : m = 0 := by have h1 := g2 hab; have h2 := hS.out.2.1; omega
    subst hab
    subst hm0
    clear g2 e10 e11 hw1 hml hmi
    have hI0 : Aside0 (Below w6.heap.size w6 w6) := ⟨Below.refl _ _⟩
    go_wp2_with fail
    go_loopg [9] 0 (fun q v wi => v = .int .i64 0 ∧ Aside0 (Below w6.heap.size w6 wi))
    case atStart => exact ⟨rfl, hI0⟩
    case round =>
      obtain ⟨rfl, hJ⟩ := hrel
      obtain ⟨gd, Ar, cr, eG, r0, rl, rC⟩ := at_L1 (H6.out.1.step hJ.out).C a ha1 ha3
      subst eG
      obtain ⟨row, hrow⟩ : ∃ row, rd_L1 G a = row := ⟨_, rfl⟩
      rw [hrow] at r0 rl rC
      have hrl : row.length ≤ 300 := by have := row_le_edges G row (by rw [← hrow]; exact adj_mem hok.out.2.1); have := hE.out.2; omega
      have hrn : Aside0 (∀ x ∈ row, isNode G x) := ⟨fun x hx => okG.adj hok.out.1 hok.out.2.1 (by unfold adj; rw [hrow]; exact hx)⟩
      have c7 : wr.cell? ⟨gb, 0, none⟩ = some (.slice (some gd) G.length c) := (H6.out.1.step hJ.out).cell
      have hI1 : Aside0 (Below w6.heap.size w6 wr ∧ Kd.C (Kd.int .i64) wr Ar row.length row) := ⟨hJ.out, rC⟩
      clear hI0 hJ rC hrow rl
      go_wp2_with fail
      clear r0 c7
      go_loopg [138] row.length (fun q v wi => ∃ j : Nat, j + q = row.length ∧ v = .int .i64 (j : Int) ∧ Aside0 (Below w6.heap.size w6 wi ∧ Kd.C (Kd.int .i64) wi Ar row.length row))
      case atStart => exact ⟨0, by omega, rfl, hI1⟩
      case round =>
        obtain ⟨j, hj, rfl, hJ⟩ := hrel
        clear hI1
        by_cases hltj : j < row.length
        · have hltji : (j : Int) < row.length := by omega
          obtain ⟨gk3, rfl⟩ : ∃ q, gk = q + 1 := ⟨gk - 1, by omega⟩
          have hj1 : j + 1 + gk3 = row.length := by omega
          have hgk3 : gk3 < gk3 + 1 := by omega
          obtain ⟨ad, eA, x0⟩ := Kd.at_int hJ.out.2 (j : Int) (by omega) hltji
          rw [rd_get row j hltj, Int.toNat_natCast] at x0
          subst eA
          obtain ⟨k, hk⟩ : ∃ k, k = row[j] := ⟨_, rfl⟩
          rw [← hk] at x0
          have c7 : wr.cell? ⟨gb, 0, none⟩ = some (.slice (some gd) G.length c) := (H6.out.1.step hJ.out.1).cell
          clear hk
          go_wp2_with fail
          refine (short_any (some gd) c G k a _ (H6.out.1.step hJ.out.1).C hX.out.1 hX.out.2.1).mono ?_
          rintro e w9 ⟨A9, c9, q9, rfl, hx9, hsp9, C9, B9⟩
          have hI : Aside0 (Below w6.heap.size w6 w9 ∧ Kd.C (Kd.int .i64) w9 (some ad) row.length row) := ⟨hJ.out.1.trans (B9.mono hJ.out.1.size), Kd.C_below hJ.out.2 B9⟩
          clear hJ hx9 hsp9 C9 B9 c7 x0
          go_wp2_with fail
          go_roundg gk3
          case rel => exact ⟨j + 1, hj1, by go_num, hI⟩
          case measure => exact hgk3
        · have hEnd := Aside0.mk (H6.out.1.step hJ.out.1).b
          clear hJ
          go_wp2
          go_ret
          exact ⟨rfl, hEnd.out⟩
  have e1 : (a == b) = false := by simp [hab]
  have hab' := Aside0.mk hab
  have hI0 : Aside0 (Below w6.heap.size w6 w6) := ⟨Below.refl _ _⟩
  clear hab g2
  go_wp2_with fail
  clear t0 t1 s0 e10 e11
  go_loopg [9] m (fun q v wi => ∃ i : Nat, i + q = m ∧ v = .int .i64 (i : Int) ∧ Aside0 (Below w6.heap.size w6 wi ∧ (0 : Nat) ≤ 0))
  case atStart => exact ⟨0, by omega, rfl, hI0.out, Nat.le_refl _⟩
  case round =>
    obtain ⟨i, hi, rfl, hJ⟩ := hrel
    clear hI0
    by_cases hlti0 : i < m
    · have hw2 : wrap64 ((i : Int) + 1) = (i : Int) + 1 := by unfold wrap64; omega
      have hlti : (i : Int) + 1 < (m : Int) + 1 := by omega
      obtain ⟨gk1, rfl⟩ : ∃ q, gk = q + 1 := ⟨gk - 1, by omega⟩
      have hi1 : i + 1 + gk1 = m := by omega
      have hgk1 : gk1 < gk1 + 1 := by omega
      have hpm := hS.out.2.1
      obtain ⟨ld2, eA2, t0⟩ := Kd.at_int (Kd.C_below H6.out.2.2.2.1 hJ.out.1) (i : Int) (by omega) (by omega)
      obtain ⟨ld3, eA3, t1⟩ := Kd.at_int (Kd.C_below H6.out.2.2.2.1 hJ.out.1) ((i + 1 : Nat) : Int) (by omega) (by omega)
      injection eA2 with eA2
      subst eA2
      injection eA3 with eA3
      subst eA3
      rw [Int.toNat_natCast] at t0 t1
      have hxn : isNode G (rd p (i : Int)) := hS.out.2.2.2.2.1 i (by omega)
      have hed := hS.out.2.2.2.2.2 i (by omega)
      rw [show (((i + 1 : Nat)) : Int) = (i : Int) + 1 by omega] at t1
      obtain ⟨x, hx⟩ : ∃ x, rd p (i : Int) = x := ⟨_, rfl⟩
      obtain ⟨y, hy⟩ : ∃ y, rd p ((i : Int) + 1) = y := ⟨_, rfl⟩
      rw [hx] at t0 hxn hed
      rw [hy] at t1 hed
      have hxn' := hxn
      unfold isNode at hxn'
      have hx1 := hxn'.1
      have hx2 : x < (G.length : Int) := hxn'.2
      obtain ⟨gd, Ar, cr, eG, r0, rl, rC⟩ := at_L1 (H6.out.1.step hJ.out.1).C x hx1 hx2
      subst eG
      obtain ⟨row, hrow⟩ : ∃ row, rd_L1 G x = row := ⟨_, rfl⟩
      rw [hrow] at r0 rl rC
      have hrl : row.length ≤ 300 := by have := row_le_edges G row (by rw [← hrow]; exact adj_mem hxn); have := hE.out.2; omega
      have hed' : Aside0 (y ∈ row) := ⟨by rw [← hrow]; exact hed⟩
      have c7 : wr.cell? ⟨gb, 0, none⟩ = some (.slice (some gd) G.length c) := (H6.out.1.step hJ.out.1).cell
      have hN := Aside0.mk (show ∀ q, Below w6.heap.size w6 (wr.drewN q) ∧ Kd.C (Kd.int .i64) (wr.drewN q) Ar row.length row ∧ (wr.drewN q).cell? (ld.add (i + 1)) = some (.int .i64 y) from fun q => ⟨hJ.out.1.trans ((pw_below_drewN (Below.refl wr.heap.size wr) q).mono hJ.out.1.size), Kd.C_drewN rC _, t1⟩)
      clear hpm hxn hxn' hed hrow hx hy hJ rC rl t1
      go_wp2_with fail
      go_quiet (fail)
      go_wp2_with fail
      have hI1 : Aside0 (Below w6.heap.size w6 (wr.drewN nq) ∧ Kd.C (Kd.int .i64) (wr.drewN nq) Ar row.length row ∧ (wr.drewN nq).cell? (ld.add (i + 1)) = some (.int .i64 y)) := ⟨hN.out nq⟩
      clear hN r0 c7 t0
      go_loopg [10, 115] row.length (fun q ve v wi => ∃ j : Nat, j + q = row.length ∧ v = .int .i64 (j : Int) ∧ ve = .bool ((row.take j).any (· == y)) ∧ Aside0 (Below w6.heap.size w6 wi ∧ Kd.C (Kd.int .i64) wi Ar row.length row ∧ wi.cell? (ld.add (i + 1)) = some (.int .i64 y)))
      case atStart => exact ⟨0, by omega, rfl, by simp, hI1⟩
      case round =>
        obtain ⟨j, hj, rfl, rfl, hJ⟩ := hrel
        clear hI1
        by_cases hltj : j < row.length
        · have hltji : (j : Int) < row.length := by omega
          obtain ⟨gk3, rfl⟩ : ∃ q, gk = q + 1 := ⟨gk - 1, by omega⟩
          have hj1 : j + 1 + gk3 = row.length := by omega
          have hgk3 : gk3 < gk3 + 1 := by omega
          obtain ⟨ad, eA, x0⟩ := Kd.at_int hJ.out.2.1 (j : Int) (by omega) hltji
          rw [rd_get row j hltj, Int.toNat_natCast] at x0
          subst eA
          have y0 : wr.cell? ⟨ld.block, ld.off + (i + 1), none⟩ = some (.int .i64 y) := by simpa [Addr.add] using hJ.out.2.2
          have hsn : (row.take (j + 1)).any (· == y) = ((row.take j).any (· == y) || (row[j] == y)) := by rw [List.take_succ_eq_append_getElem hltj, List.any_append]; simp
          obtain ⟨k, hk⟩ : ∃ k, k = row[j] := ⟨_, rfl⟩
          rw [← hk] at x0 hsn
          obtain ⟨vA, hvA⟩ : ∃ v, (row.take j).any (· == y) = v := ⟨_, rfl⟩
          rw [hvA] at hsn ⊢
          have hsn' := Aside0.mk hsn
          clear hsn hvA hk
          by_cases hky : k = y
          · have e2 : (k == y) = true := by simp [hky]
            clear hky
            cases vA <;> (go_wp2_with fail; go_roundg gk3; (case rel => exact ⟨j + 1, hj1, by go_num, by rw [hsn'.out, e2]; rfl, hJ⟩); (case measure => exact hgk3))
          · have e2 : (k == y) = false := by simp [hky]
            clear hky
            cases vA <;> (go_wp2_with fail; go_roundg gk3; (case rel => exact ⟨j + 1, hj1, by go_num, by rw [hsn'.out, e2]; rfl, hJ⟩); (case measure => exact hgk3))
        · have hany : (row.take j).any (· == y) = true := by
            rw [List.take_of_length_le (by omega), List.any_eq_true]
            exact ⟨y, hed'.out, by simp⟩
          rw [hany]
          have hI2 : Aside0 (Below w6.heap.size w6 wr ∧ (0 : Nat) ≤ 0) := ⟨hJ.out.1, Nat.le_refl _⟩
          clear hJ hany
          go_wp2_with fail
          go_roundg gk1
          case rel => exact ⟨i + 1, hi1, by go_num, hI2⟩
          case measure => exact hgk1
    · have him : i = m := by omega
      subst him
      have hw2 : wrap64 ((i : Int) + 1) = (i : Int) + 1 := by unfold wrap64; omega
      obtain ⟨gd, Ar, cr, eG, r0, rl, rC⟩ := at_L1 (H6.out.1.step hJ.out.1).C a ha1 ha3
      subst eG
      obtain ⟨row, hrow⟩ : ∃ row, rd_L1 G a = row := ⟨_, rfl⟩
      rw [hrow] at r0 rl rC
      have hrl : row.length ≤ 300 := by have := row_le_edges G row (by rw [← hrow]; exact adj_mem hok.out.2.1); have := hE.out.2; omega
      have hrn : Aside0 (adj G a = row) := ⟨by unfold adj; exact hrow⟩
      have c7 : wr.cell? ⟨gb, 0, none⟩ = some (.slice (some gd) G.length c) := (H6.out.1.step hJ.out.1).cell
      have hI1 : Aside0 (Below w6.heap.size w6 wr ∧ Kd.C (Kd.int .i64) wr Ar row.length row) := ⟨hJ.out.1, rC⟩
      clear hJ rC hrow rl
      go_wp2_with fail
      clear r0 c7
      go_loopg [138] row.length (fun q v wi => ∃ j : Nat, j + q = row.length ∧ v = .int .i64 (j : Int) ∧ Aside0 (Below w6.heap.size w6 wi ∧ Kd.C (Kd.int .i64) wi Ar row.length row))
      case atStart => exact ⟨0, by omega, rfl, hI1⟩
      case round =>
        obtain ⟨j, hj, rfl, hJ⟩ := hrel
        clear hI1
        by_cases hltj : j < row.length
        · have hltji : (j : Int) < row.length := by omega
          obtain ⟨gk3, rfl⟩ : ∃ q, gk = q + 1 := ⟨gk - 1, by omega⟩
          have hj1 : j + 1 + gk3 = row.length := by omega
          have hgk3 : gk3 < gk3 + 1 := by omega
          obtain ⟨ad, eA, x0⟩ := Kd.at_int hJ.out.2 (j : Int) (by omega) hltji
          rw [rd_get row j hltj, Int.toNat_natCast] at x0
          subst eA
          obtain ⟨k, hk⟩ : ∃ k, k = row[j] := ⟨_, rfl⟩
          have hkm : Aside0 (k ∈ adj G a) := ⟨by rw [hrn.out, hk]; exact List.getElem_mem hltj⟩
          rw [← hk] at x0
          have c7 : wr.cell? ⟨gb, 0, none⟩ = some (.slice (some gd) G.length c) := (H6.out.1.step hJ.out.1).cell
          clear hk
          go_wp2_with fail
          refine (short_any (some gd) c G k b _ (H6.out.1.step hJ.out.1).C hX.out.1 hX.out.2.1).mono ?_
          rintro e w9 ⟨A9, c9, q9, rfl, hx9, hsp9, C9, B9⟩
          have hI : Aside0 (Below w6.heap.size w6 w9 ∧ Kd.C (Kd.int .i64) w9 (some ad) row.length row) := ⟨hJ.out.1.trans (B9.mono hJ.out.1.size), Kd.C_below hJ.out.2 B9⟩
          have hq7 := spath_len hsp9
          obtain ⟨lq, hlq⟩ : ∃ lq, q9.length = lq := ⟨_, rfl⟩
          have hZ := Aside0.mk (And.intro hsp9 (And.intro hlq (And.intro hx9 C9)))
          rw [hlq] at hq7 ⊢
          clear hJ hx9 hsp9 C9 B9 c7 x0 hlq
          by_cases hlq : lq = 0
          · subst hlq
            go_wp2_with fail
            go_roundg gk3
            case rel => exact ⟨j + 1, hj1, by go_num, hI⟩
            case measure => exact hgk3
          · obtain ⟨e2, e2b, hw3⟩ := zc10 hlq hq7
            have hbest := sp_best hok.out hS.out.1 (zc11 hS.out.2.1) hkm.out hab'.out hZ.out.1 (zc12 hZ.out.2.1 hlq)
            rw [hS.out.2.1, hZ.out.2.1] at hbest
            obtain ⟨e3a, e3b, e3c, e3d⟩ := zc1 (m := 0) hbest.1
            clear hw1 hw2 hw3
            have hpl1 : 1 < p.length := by have h9 := hbest.2.1; rw [hS.out.2.1]; exact h9
            by_cases heq : lq = i
            · obtain ⟨e4a, e4b, e4c, e4d⟩ := zc9 heq
              have hb3 := hbest.2.2 (zc2 heq)
              obtain ⟨ld4, eA4, t2⟩ := Kd.at_int (Kd.C_below H6.out.2.2.2.1 hI.out.1) 1 (by decide) (zc3 hpl1)
              injection eA4 with eA4
              subst eA4
              have t2 : w9.cell? ⟨ld.block, ld.off + 1, none⟩ = some (.int .i64 (rd p 1)) := by simpa [Addr.add] using t2
              obtain ⟨p1, hp1⟩ : ∃ p1, rd p 1 = p1 := ⟨_, rfl⟩
              rw [hp1] at t2 hb3
              obtain ⟨X, hX1, hX2⟩ := row_from1 (A := some ld) (l := p) (c := c5) (Nat.le_of_lt hpl1) H6.out.2.1
              have hXC := Aside0.mk (hX2 w9 (Kd.C_below H6.out.2.2.2.1 hI.out.1))
              have h5 := Aside0.mk H6.out.2.1
              have hqp := Aside0.mk hb3.2
              have hle := hb3.1
              have hpos1 : (1 : Int) < (i : Int) + 1 := zc4 hlq heq
              have hpos2 : (0 : Int) < (i : Int) := zc5 hlq heq
              rw [hS.out.2.1, show i + 1 - 1 = i from rfl] at hX1
              clear hbest hb3 hp1 hX2 hpl1
              by_cases hkp : k = p1
              · have e5 : (k == p1) = true := by simp [hkp]
                have e6 : decide (k < p1) = false := zc6 hkp
                have hq9 := hqp.out hkp
                have hdl : (p.drop 1).length = i := by rw [List.length_drop, hS.out.2.1]; rfl
                have hsame := same_any A9 c9 q9 X (c5 - 1) (p.drop 1) w9 hZ.out.2.2.2 hZ.out.2.2.1 hXC.out (by rw [hdl]; exact zc13 hS.out.2.1 h5.out) (by rw [hZ.out.2.1]; exact zc14 hq7) true (decide_eq_true hq9)
                rw [hZ.out.2.1, hdl] at hsame
                have hsame := Aside0.mk hsame
                clear hkp hle heq hlq hq9 hdl
                go_wp2_with fail
                refine hsame.out.mono ?_
                rintro e w10 ⟨rfl, B10⟩
                have hI9 : Aside0 (Below w6.heap.size w6 w10 ∧ Kd.C (Kd.int .i64) w10 (some ad) row.length row) := ⟨hI.out.1.trans (B10.mono hI.out.1.size), Kd.C_below hI.out.2 B10⟩
                clear B10 hsame t2 hX1
                go_wp2_with fail
                go_roundg gk3
                case rel => exact ⟨j + 1, hj1, by go_num, hI9⟩
                case measure => exact hgk3
              · have e5 : (k == p1) = false := by simp [hkp]
                have e6 : decide (k < p1) = false := zc7 hle
                clear hkp hle heq hX1 hlq
                go_wp2_with fail
                go_roundg gk3
                case rel => exact ⟨j + 1, hj1, by go_num, hI⟩
                case measure => exact hgk3
            · obtain ⟨e4a, e4b, e4c, e4d⟩ := zc8 heq
              clear hbest heq hpl1 hlq
              go_wp2_with fail
              go_roundg gk3
              case rel => exact ⟨j + 1, hj1, by go_num, hI⟩
              case measure => exact hgk3
        · have hEnd := Aside0.mk (H6.out.1.step hJ.out.1).b
          clear hJ
          go_wp2
          go_ret
          exact ⟨rfl, hEnd.out⟩
end Go.Proofs.Ytjkclhpibielfaa
