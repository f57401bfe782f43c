/- DigraphReverse: the law's walk. -/
import Derived.Test.YtjkclhpibielfaaLawP
import Derived.Test.YtjkclhpibielfaaRvA
set_option linter.unusedVariables false
set_option linter.unusedSimpArgs false
namespace Go.Proofs.Ytjkclhpibielfaa
open Go.RowKit Go.Proofs.YtjkclhpibielfaaW.PrintWords Go.Proofs.Ytjkclhpibielfaa.PDigraphTells Mem

/-- A graph of the walk's own, boxed at gb. -/
structure Gx (wi : World) (gb : Nat) (A : Option Addr) (n c : Nat) (G : List (List Int)) : Prop where
  C : Kd.C kG wi A n G
  g : wi.heap[gb]? = some (.cells #[.slice A n c] 24 (0, 0))
theorem Gx.step {wi wj : World} {gb : Nat} {A : Option Addr} {n c : Nat} {G : List (List Int)} (h : Gx wi gb A n c G) (hb : Below wi.heap.size wi wj) : Gx wj gb A n c G :=
  ⟨Kd.C_below h.C hb, (hb.block gb (blk_lt' h.g)).trans h.g⟩
theorem Gx.cell {wi : World} {gb : Nat} {A : Option Addr} {n c : Nat} {G : List (List Int)} (h : Gx wi gb A n c G) : wi.cell? ⟨gb, 0, none⟩ = some (.slice A n c) := cell_at h.g rfl
/-- The three graphs of the walk. -/
structure Rw (w wi : World) (gb hb kb : Nat) (A Ah Ak : Option Addr) (n c ch ck : Nat) (G H K : List (List Int)) : Prop where
  b : Below w.heap.size w wi
  G : Gx wi gb A n c G
  H : Gx wi hb Ah n ch H
  K : Gx wi kb Ak n ck K
theorem Rw.step {w wi wj : World} {gb hb kb : Nat} {A Ah Ak : Option Addr} {n c ch ck : Nat} {G H K : List (List Int)} (h : Rw w wi gb hb kb A Ah Ak n c ch ck G H K) (hB : Below wi.heap.size wi wj) : Rw w wj gb hb kb A Ah Ak n c ch ck G H K :=
  ⟨h.b.trans (hB.mono h.b.size), h.G.step hB, h.H.step hB, h.K.step hB⟩
theorem times_take (l : List Int) (x : Int) (j : Nat) (h : j < l.length) : times (l.take (j + 1)) x = times (l.take j) x + if l[j] = x then 1 else 0 := by
  unfold times
  rw [List.take_succ_eq_append_getElem h, List.filter_append, List.length_append]
  by_cases e : l[j] = x <;> simp [e]
theorem reach_anyH (A : Option Addr) (c : Nat) (G : List (List Int)) (n : Nat) (hn : G.length = n) (a : Int) (w : World) (hC : Kd.C kG w A n G) (hc : n ≤ c) (hs : short G) :
    Calls Try.prog 17 #[.agg #[.slice A n c], .int .i64 a] w fun e w' => ∃ vo, e = .returned vo ∧ Kd.R Kd.bool 4 w' 0 (fun k => w.heap.size ≤ k) vo (reachL G a) ∧ Below w.heap.size w w' := by
  subst hn
  exact reach_any A c G a w hC hc hs
theorem rv_met {G H : List (List Int)} (hH : H = revL G) {a b : Int} (h : chk G = 0) (ha : isNode G a) (hb : isNode G b) : metOf (reachL H b) a = metOf (reachL G a) b := by
  subst hH
  rw [Bool.eq_iff_iff, reachL_get ⟨rev_ok h, (rev_node h).2 hb⟩ ((rev_node h).2 ha), reachL_get ⟨h, ha⟩ hb]
  exact (rev_reach h ha hb).symm
theorem zd1 {j : Nat} (h : j < 70000) : IntKind.i64.wrap ((j : Int) + 1 - 1) = (j : Int) ∧ IntKind.i64.wrap (j : Int) = (j : Int) ∧ (0 : Int) < (j : Int) + 1 := by
  refine ⟨?_, ?_, by omega⟩
  · rw [show (j : Int) + 1 - 1 = (j : Int) by omega]; exact IntWalk.i64_in _ (by omega)
  · exact IntWalk.i64_in _ (by omega)
theorem zd2 {x y : Int} (h : y ≤ x) : decide (x < y) = false := decide_eq_false (by omega)
theorem zd3 {x y : Int} (h : y < x) : decide (x ≤ y) = false := decide_eq_false (by omega)
theorem zd4 {n : Nat} (h : n ≠ 0) : (0 : Int) < (n : Int) := by omega

set_option maxRecDepth 100000 in
set_option maxHeartbeats 4000000 in
theorem reverse_walk (cs : Array Value) (G : List (List Int)) (a b : Int) (w : World) (hK : kGr.K w G cs.toList) (hg : big G) (ha : (Lit.int .i64 a).wf = true) (hb : (Lit.int .i64 b).wf = true) :
    Calls Try.prog 6 #[.agg cs, .int .i64 a, .int .i64 b] w fun e w' => e = .returned (.bool true) ∧ Below w.heap.size w w' := by
  obtain ⟨A, c, rfl, hc, hC⟩ := graph_arg hK
  obtain ⟨r, hr⟩ : ∃ r, chk G = r := ⟨_, rfl⟩
  obtain ⟨sm, hsm⟩ : ∃ sm, smallB G = sm := ⟨_, rfl⟩
  have hX := Aside0.mk (And.intro hc (And.intro hg.short (And.intro hg.edges (And.intro hr hsm))))
  have hfl := field_succs
  have H0 := Aside0.mk (Gw.start (c := c) hC)
  clear hK hg ha hb hC hc hr hsm
  go_enter Try.func6, Try.ntmps6
  go_wp2_with fail
  obtain ⟨gb, hgb⟩ : ∃ gb, gb = w.heap.size := ⟨_, rfl⟩
  obtain ⟨w1, hw1⟩ : ∃ w1, w1 = w.alloc (.cells #[.slice A G.length c] 24 (0, 0)) := ⟨_, rfl⟩
  rw [← hgb, ← hw1] at H0
  rw [show Value.pointer (some (⟨w.heap.size, 0, none⟩ : Addr)) = Value.pointer (some ⟨gb, 0, none⟩) by rw [hgb], ← hw1]
  clear hgb hw1
  refine (awake_any _).mono ?_
  rintro e w2 ⟨rfl, B2⟩
  have H2 := Aside0.mk (H0.out.step B2)
  have c0 := H2.out.cell
  clear B2 H0
  go_wp2_with fail
  refine (small_any A c G _ H2.out.C hX.out.1 hX.out.2.1 hX.out.2.2.1 sm hX.out.2.2.2.2).mono ?_
  rintro e w3 ⟨rfl, B3⟩
  have H3 := Aside0.mk (H2.out.step B3)
  clear c0 B3 H2
  have c0 := H3.out.cell
  cases sm
  · go_wp2
    go_ret
    exact ⟨rfl, H3.out.b⟩
  have hE := Aside0.mk (small_le hX.out.2.2.2.2)
  go_wp2_with fail
  refine (check_any A c G _ H3.out.C hX.out.1 hX.out.2.1 r hX.out.2.2.2.1).mono ?_
  rintro e w4 ⟨rfl, B4⟩
  have H4 := Aside0.mk (H3.out.step B4)
  clear c0 B4 H3
  have c0 := H4.out.cell
  by_cases hr0 : r = 0
  rotate_left
  · have e1 : (r != 0) = true := by simp [hr0]
    have e2 : (r == 0) = false := by simp [hr0]
    clear hr0
    go_wp2
    go_ret
    exact ⟨rfl, H4.out.b⟩
  subst hr0
  by_cases ha0 : a < 0
  · go_wp2
    go_ret
    exact ⟨rfl, H4.out.b⟩
  have ha1 : 0 ≤ a := by omega
  by_cases ha2 : (G.length : Int) ≤ a
  · go_wp2
    go_ret
    exact ⟨rfl, H4.out.b⟩
  have ha3 : a < (G.length : Int) := by omega
  by_cases hb0 : b < 0
  · go_wp2
    go_ret
    exact ⟨rfl, H4.out.b⟩
  have hb1 : 0 ≤ b := by omega
  by_cases hb2 : (G.length : Int) ≤ b
  · go_wp2
    go_ret
    exact ⟨rfl, H4.out.b⟩
  have hb3 : b < (G.length : Int) := by omega
  have hok := Aside0.mk (show chk G = 0 ∧ isNode G a ∧ isNode G b from ⟨hX.out.2.2.2.1, ⟨ha1, ha3⟩, ⟨hb1, hb3⟩⟩)
  obtain ⟨H, hHe⟩ : ∃ H, Aside0 (H = revL G) := ⟨_, ⟨rfl⟩⟩
  obtain ⟨K, hKe⟩ : ∃ K, Aside0 (K = revL H) := ⟨_, ⟨rfl⟩⟩
  have hHl := Aside0.mk (show H.length = G.length ∧ K.length = G.length by
    have h1 : H.length = G.length := by rw [hHe.out]; exact rev_len hok.out.1
    refine ⟨h1, ?_⟩
    rw [hKe.out, rev_len (by rw [hHe.out]; exact rev_ok hok.out.1), h1])
  go_wp2_with fail
  refine (rev_any A c G _ H4.out.C hX.out.1 hX.out.2.1 (fun _ => by have := hE.out.2; omega)).mono ?_
  rintro e w5 ⟨Ah, ch, rfl, hch, hCh, B5⟩
  rw [← hHe.out] at hch hCh ⊢
  rw [hHl.out.1] at hch hCh ⊢
  have H5 := Aside0.mk (And.intro (H4.out.step B5) (And.intro hch hCh))
  clear B5 hch hCh H4 c0
  go_wp2_with fail
  have hsH : Aside0 (short H ∧ edges H < 17592186044416) := ⟨by rw [hHe.out]; exact ⟨short_rev hE.out, by have := rev_edges hE.out; omega⟩⟩
  obtain ⟨bh, hbh⟩ : ∃ bh, bh = w5.heap.size := ⟨_, rfl⟩
  obtain ⟨w6, hw6⟩ : ∃ w6, w6 = w5.alloc (.cells #[.slice Ah G.length ch] 24 (0, 0)) := ⟨_, rfl⟩
  rw [show Value.pointer (some (⟨w5.heap.size, 0, none⟩ : Addr)) = Value.pointer (some ⟨bh, 0, none⟩) by rw [hbh], ← hw6]
  have H6 : Aside0 (Gw w w6 gb A c G ∧ G.length ≤ ch ∧ Gx w6 bh Ah G.length ch H) := ⟨by rw [hw6]; exact H5.out.1.step (below_alloc (Below.refl _ _) _), H5.out.2.1, by rw [hw6, hbh]; exact ⟨Kd.C_alloc H5.out.2.2 _, heap_alloc_new w5 _⟩⟩
  clear hbh hw6 H5
  have hR := rev_any Ah ch H w6 (by rw [hHl.out.1]; exact H6.out.2.2.C) (by rw [hHl.out.1]; exact H6.out.2.1) hsH.out.1 (fun _ => hsH.out.2)
  rw [← hKe.out, hHl.out.1, hHl.out.2] at hR
  refine hR.mono ?_
  clear hR
  rintro e w7 ⟨Ak, ck, rfl, hck, hCk, B7⟩
  have H7 : Aside0 (Gw w w7 gb A c G ∧ G.length ≤ ch ∧ Gx w7 bh Ah G.length ch H ∧ G.length ≤ ck ∧ Kd.C kG w7 Ak G.length K) := ⟨H6.out.1.step B7, H6.out.2.1, H6.out.2.2.step B7, hck, hCk⟩
  clear B7 hck hCk H6
  go_upto_region 7 with (fail)
  obtain ⟨bk, hbk⟩ : ∃ bk, bk = w7.heap.size := ⟨_, rfl⟩
  obtain ⟨w8, hw8⟩ : ∃ w8, w8 = w7.alloc (.cells #[.slice Ak G.length ck] 24 (0, 0)) := ⟨_, rfl⟩
  rw [show Value.pointer (some (⟨w7.heap.size, 0, none⟩ : Addr)) = Value.pointer (some ⟨bk, 0, none⟩) by rw [hbk], ← hw8]
  have H8 : Aside0 (Rw w w8 gb bh bk A Ah Ak G.length c ch ck G H K) := ⟨by
    have hB : Below w7.heap.size w7 w8 := by rw [hw8]; exact below_alloc (Below.refl _ _) _
    have h1 := H7.out.1.step hB
    exact ⟨h1.b, ⟨h1.C, h1.g⟩, H7.out.2.2.1.step hB, by rw [hw8, hbk]; exact ⟨Kd.C_alloc H7.out.2.2.2.2 _, heap_alloc_new w7 _⟩⟩⟩
  have hcc := Aside0.mk (And.intro H7.out.2.1 H7.out.2.2.2.1)
  clear hbk hw8 H7
  obtain ⟨gd, Ar, cr, eG, r0, rl, rC⟩ := at_L1 H8.out.G.C a ha1 ha3
  subst eG
  obtain ⟨row, hrow⟩ : ∃ row, rd_L1 G a = row := ⟨_, rfl⟩
  rw [hrow] at r0 rl rC
  have hrl : row.length ≤ 300 := by have := row_le_edges G row (by rw [← hrow]; exact adj_mem hok.out.2.1); have := hE.out.2; omega
  have hrow : Aside0 (adj G a = row) := ⟨hrow⟩
  have c1 := H8.out.G.cell
  have c2 := H8.out.H.cell
  have c3 := H8.out.K.cell
  have hI0 : Aside0 (Rw w w8 gb bh bk (some gd) Ah Ak G.length c ch ck G H K ∧ Kd.C (Kd.int .i64) w8 Ar row.length row) := ⟨H8.out, rC⟩
  clear rC H8 rl
  go_wp2_with fail
  clear r0 c1 c2 c3
  go_loopg [9, 81] row.length (fun q vt v wi => ∃ j t : Nat, j + q = row.length ∧ v = .int .i64 (j : Int) ∧ vt = .int .i64 (t : Int) ∧ t ≤ j ∧ Aside0 (t = times (row.take j) b ∧ Rw w wi gb bh bk (some gd) Ah Ak G.length c ch ck G H K ∧ Kd.C (Kd.int .i64) wi Ar row.length row))
  case atStart => exact ⟨0, 0, by omega, rfl, rfl, Nat.le_refl _, rfl, hI0.out⟩
  case round =>
    obtain ⟨j, t, hj, rfl, rfl, htj, hJ⟩ := hrel
    clear hI0
    by_cases hltj : j < row.length
    · have hltji : (j : Int) < row.length := by omega
      obtain ⟨gk3, rfl⟩ : ∃ q, gk = q + 1 := ⟨gk - 1, by omega⟩
      have hj1 : j + 1 + gk3 = row.length := by omega
      have hgk3 : gk3 < gk3 + 1 := by omega
      obtain ⟨ad, eA, x0⟩ := Kd.at_int hJ.out.2.2 (j : Int) (by omega) hltji
      rw [rd_get row j hltj, Int.toNat_natCast] at x0
      subst eA
      have hsn := times_take row b j hltj
      obtain ⟨k, hk⟩ : ∃ k, k = row[j] := ⟨_, rfl⟩
      rw [← hk] at x0 hsn
      have ht1 : t + 1 ≤ j + 1 := by omega
      have ht0 : t ≤ j + 1 := by omega
      have hsn := Aside0.mk hsn
      clear hk
      by_cases hky : k = b
      · have e2 : (k == b) = true := by simp [hky]
        have hI := Aside0.mk (show t + 1 = times (row.take (j + 1)) b ∧ _ from ⟨by rw [hsn.out, if_pos hky, hJ.out.1], hJ.out.2⟩)
        clear hky hJ hsn
        go_wp2_with fail
        go_roundg gk3
        case rel => exact ⟨j + 1, t + 1, hj1, by go_num, by go_num, ht1, hI⟩
        case measure => exact hgk3
      · have e2 : (k == b) = false := by simp [hky]
        have hI := Aside0.mk (show t = times (row.take (j + 1)) b ∧ _ from ⟨by rw [hsn.out, if_neg hky, hJ.out.1]; rfl, hJ.out.2⟩)
        clear hky hJ hsn
        go_wp2_with fail
        go_roundg gk3
        case rel => exact ⟨j + 1, t, hj1, by go_num, rfl, ht0, hI⟩
        case measure => exact hgk3
    · have hH9 := Aside0.mk (show t = times (adj G a) b ∧ Rw w wr gb bh bk (some gd) Ah Ak G.length c ch ck G H K from ⟨by rw [hrow.out, hJ.out.1, List.take_of_length_le (by omega)], hJ.out.2.1⟩)
      have ht3 : t ≤ 300 := by omega
      clear hJ hj htj hrow hrl
      obtain ⟨gd2, Br, er, eG, r0, rl, rC⟩ := at_L1 hH9.out.2.H.C b hb1 hb3
      subst eG
      obtain ⟨rob, hrob⟩ : ∃ row, rd_L1 H b = row := ⟨_, rfl⟩
      rw [hrob] at r0 rl rC
      have hrl : rob.length ≤ 300 := by have := rev_row_le (G := G) (l := rob) (by rw [← hHe.out, ← hrob]; exact adj_mem (by unfold isNode; rw [hHl.out.1]; exact ⟨hb1, hb3⟩)); have := hE.out.2; omega
      have hrob : Aside0 (adj H b = rob) := ⟨hrob⟩
      have c2 := hH9.out.2.H.cell
      have hI0 : Aside0 (Rw w wr gb bh bk (some gd) (some gd2) Ak G.length c ch ck G H K ∧ Kd.C (Kd.int .i64) wr Br rob.length rob) := ⟨hH9.out.2, rC⟩
      have ht := Aside0.mk hH9.out.1
      clear rC hH9 rl
      go_wp2_with fail
      clear r0 c2 hltj
      obtain ⟨w9, hw9⟩ : ∃ w9, w9 = wr := ⟨_, rfl⟩
      rw [← hw9] at hI0 ⊢
      clear hw9
      go_loopg [10, 97] rob.length (fun q vt v wi => ∃ j t : Nat, j + q = rob.length ∧ v = .int .i64 (j : Int) ∧ vt = .int .i64 (t : Int) ∧ t ≤ j ∧ Aside0 (t = times (rob.take j) a ∧ Rw w wi gb bh bk (some gd) (some gd2) Ak G.length c ch ck G H K ∧ Kd.C (Kd.int .i64) wi Br rob.length rob))
      case atStart => exact ⟨0, 0, by omega, rfl, rfl, Nat.le_refl _, rfl, hI0.out⟩
      case round =>
        obtain ⟨j, t2, hj, rfl, rfl, htj, hJ⟩ := hrel
        clear hI0
        by_cases hltj : j < rob.length
        · have hltji : (j : Int) < rob.length := by omega
          obtain ⟨gk3, rfl⟩ : ∃ q, gk = q + 1 := ⟨gk - 1, by omega⟩
          have hj1 : j + 1 + gk3 = rob.length := by omega
          have hgk3 : gk3 < gk3 + 1 := by omega
          obtain ⟨ad, eA, x0⟩ := Kd.at_int hJ.out.2.2 (j : Int) (by omega) hltji
          rw [rd_get rob j hltj, Int.toNat_natCast] at x0
          subst eA
          have hsn := times_take rob a j hltj
          obtain ⟨k, hk⟩ : ∃ k, k = rob[j] := ⟨_, rfl⟩
          rw [← hk] at x0 hsn
          have ht1 : t2 + 1 ≤ j + 1 := by omega
          have ht0 : t2 ≤ j + 1 := by omega
          have hsn := Aside0.mk hsn
          clear hk
          by_cases hky : k = a
          · have e2 : (k == a) = true := by simp [hky]
            have hI := Aside0.mk (show t2 + 1 = times (rob.take (j + 1)) a ∧ _ from ⟨by rw [hsn.out, if_pos hky, hJ.out.1], hJ.out.2⟩)
            clear hky hJ hsn
            go_wp2_with fail
            go_roundg gk3
            case rel => exact ⟨j + 1, t2 + 1, hj1, by go_num, by go_num, ht1, hI⟩
            case measure => exact hgk3
          · have e2 : (k == a) = false := by simp [hky]
            have hI := Aside0.mk (show t2 = times (rob.take (j + 1)) a ∧ _ from ⟨by rw [hsn.out, if_neg hky, hJ.out.1]; rfl, hJ.out.2⟩)
            clear hky hJ hsn
            go_wp2_with fail
            go_roundg gk3
            case rel => exact ⟨j + 1, t2, hj1, by go_num, rfl, ht0, hI⟩
            case measure => exact hgk3
        · have H9 := Aside0.mk hJ.out.2.1
          have htt : t2 = t := by
            rw [ht.out, ← rev_times hok.out.1 hok.out.2.1 hok.out.2.2, ← hHe.out, hrob.out, hJ.out.1, List.take_of_length_le (by omega)]
          subst htt
          clear hJ hj htj hrl 
          have d1 := And.intro H9.out.G.cell H9.out.H.cell
          have hHn := Aside0.mk (show chk H = 0 ∧ isNode H b from ⟨by rw [hHe.out]; exact rev_ok hok.out.1, by unfold isNode; rw [hHl.out.1]; exact ⟨hb1, hb3⟩⟩)
          obtain ⟨w10, hw10⟩ : ∃ w10, w10 = wr := ⟨_, rfl⟩
          rw [← hw10] at H9 d1 ⊢
          clear hw10
          go_upto_region 22 with (fail)
          clear hltj
          have hRG := Aside0.mk (fun (W : World) (h : Kd.C kG W (some gd) G.length G) => reach_any (some gd) c G a W h hX.out.1 hX.out.2.1)
          have hRH := Aside0.mk (fun (W : World) (h : Kd.C kG W (some gd2) G.length H) => reach_anyH (some gd2) ch H G.length hHl.out.1 b W h hcc.out.1 hsH.out.1)
          go_region_held3 (fun w' => w'.cell? ⟨gb, 0, none⟩ = some (.slice (some gd) G.length c) ∧ w'.cell? ⟨bh, 0, none⟩ = some (.slice (some gd2) G.length ch)) (first | assumption | go_keep) (first
            | ((go_at_call 17; with_reducible refine (hRG.out _ ?_).mono ?_)
               · first | exact H9.out.G.C | exact (Kd.C_drewN H9.out.G.C _)
               rintro e w11 ⟨v, rfl, Rx, Bx⟩
               obtain ⟨A6, c6, ev, hx, Cx⟩ := Kd.R_reads Rx
               rw [reachL_len ⟨hok.out.1, hok.out.2.1⟩] at ev hx Cx
               subst ev
               have Bx : Below w10.heap.size w10 w11 := by first | exact Bx | exact (pw_below_drewN (Below.refl _ w10) _).trans Bx
               have H11 := Aside0.mk (And.intro (H9.out.step Bx) Cx)
               have f1 := And.intro H11.out.1.G.cell H11.out.1.H.cell
               clear Bx hx Cx Rx)
            | ((go_at_call 17; with_reducible refine (hRH.out _ ?_).mono ?_)
               · first | exact H11.out.1.H.C | exact (Kd.C_drewN H11.out.1.H.C _)
               rintro e w12 ⟨v, rfl, Rx, Bx⟩
               obtain ⟨A7, c7, ev, hx, Cx⟩ := Kd.R_reads Rx
               rw [reachL_len hHn.out, hHl.out.1] at ev hx Cx
               subst ev
               have Bx : Below w11.heap.size w11 w12 := by first | exact Bx | exact (pw_below_drewN (Below.refl _ w11) _).trans Bx
               have H12 := Aside0.mk (And.intro (H11.out.1.step Bx) (And.intro (Kd.C_below H11.out.2 Bx) Cx))
               have f3 := And.intro H12.out.1.G.cell H12.out.1.H.cell
               clear Bx hx Cx Rx))
          clear d1 f1 H11 H9 hRG hRH
          obtain ⟨lx, eX, x0⟩ := Kd.at_bool H12.out.2.1 b hb1 hb3
          rw [metOf_rd _ _ hb1] at x0
          subst eX
          obtain ⟨ly, eY, y0⟩ := Kd.at_bool H12.out.2.2 a ha1 ha3
          rw [metOf_rd _ _ ha1, rv_met hHe.out hok.out.1 hok.out.2.1 hok.out.2.2] at y0
          subst eY
          obtain ⟨bv, hbv⟩ : ∃ bv, metOf (reachL G a) b = bv := ⟨_, rfl⟩
          rw [hbv] at x0 y0
          have f4 := f3.1
          have hN := Aside0.mk (show ∀ q, Rw w (w12.drewN q) gb bh bk (some gd) (some gd2) Ak G.length c ch ck G H K from fun q => H12.out.1.step (pw_below_drewN (Below.refl _ _) q))
          clear f3 hbv H12
          go_wp2_with fail
          go_quiet (fail)
          obtain ⟨w13, hw13⟩ : ∃ w13, w13 = w12.drewN nq := ⟨_, rfl⟩
          have H13 := Aside0.mk (hN.out nq)
          rw [← hw13] at H13 ⊢
          clear hw13 hN x0 y0 f4
          obtain ⟨gd3, Kr, kr, eK, k0, kl, kC⟩ := at_L1 H13.out.K.C a ha1 ha3
          subst eK
          obtain ⟨rok, hrok⟩ : ∃ row, rd_L1 K a = row := ⟨_, rfl⟩
          rw [hrok] at k0 kl kC
          have hrok : Aside0 (adj K a = rok) := ⟨hrok⟩
          have hKK := Aside0.mk (show K = revL (revL G) by rw [hKe.out, hHe.out])
          have c3 := H13.out.K.cell
          have hrl : rok.length ≤ 300 := by
            have h1 := rev2_len hok.out.1 hok.out.2.1
            rw [← hKK.out, hrok.out] at h1
            have := row_le_edges G _ (adj_mem hok.out.2.1); have := hE.out.2; omega
          have hI0 : Aside0 (Rw w w13 gb bh bk (some gd) (some gd2) (some gd3) G.length c ch ck G H K ∧ Kd.C (Kd.int .i64) w13 Kr rok.length rok) := ⟨H13.out, kC⟩
          clear kC kl H13
          go_wp2_with fail
          clear k0 c3
          go_loopg [150] rok.length (fun q v wi => ∃ j : Nat, j + q = rok.length ∧ v = .int .i64 (j : Int) ∧ Aside0 (Rw w wi gb bh bk (some gd) (some gd2) (some gd3) G.length c ch ck G H K ∧ Kd.C (Kd.int .i64) wi Kr rok.length rok))
          case atStart => exact ⟨0, by omega, rfl, hI0⟩
          case round =>
            obtain ⟨j, hj, rfl, hJ⟩ := hrel
            clear hI0
            by_cases hltj : j < rok.length
            · have hltji : (j : Int) < rok.length := by omega
              obtain ⟨gk3, rfl⟩ : ∃ q, gk = q + 1 := ⟨gk - 1, by omega⟩
              have hj1 : j + 1 + gk3 = rok.length := by omega
              have hgk3 : gk3 < gk3 + 1 := by omega
              have hN := Aside0.mk (show ∀ q, Rw w (wr.drewN q) gb bh bk (some gd) (some gd2) (some gd3) G.length c ch ck G H K ∧ Kd.C (Kd.int .i64) (wr.drewN q) Kr rok.length rok from fun q => ⟨hJ.out.1.step (pw_below_drewN (Below.refl _ _) q), Kd.C_drewN hJ.out.2 _⟩)
              by_cases hj0 : j = 0
              · subst hj0
                clear hJ
                go_wp2_with fail
                go_quiet (fail)
                have hI := Aside0.mk (hN.out nq)
                clear hN
                go_wp2_with fail
                go_roundg gk3
                case rel => exact ⟨0 + 1, hj1, by go_num, hI⟩
                case measure => exact hgk3
              · obtain ⟨j', rfl⟩ : ∃ j', j = j' + 1 := ⟨j - 1, by omega⟩
                obtain ⟨ad, eA, x1⟩ := Kd.at_int hJ.out.2 ((j' + 1 : Nat) : Int) (by omega) hltji
                subst eA
                obtain ⟨ad2, eA2, x0⟩ := Kd.at_int hJ.out.2 (j' : Int) (by omega) (by omega)
                injection eA2 with eA2
                subst eA2
                have hs := rev2_sorted hok.out.1 hok.out.2.1 j' (by rw [← hKK.out, hrok.out]; exact hltj)
                rw [← hKK.out, hrok.out] at hs
                obtain ⟨u1, hu1⟩ : ∃ u1, rd rok ((j' + 1 : Nat) : Int) = u1 := ⟨_, rfl⟩
                obtain ⟨u0, hu0⟩ : ∃ u0, rd rok (j' : Int) = u0 := ⟨_, rfl⟩
                rw [hu1] at x1 hs
                rw [hu0] at x0 hs
                rw [Int.toNat_natCast] at x0 x1
                have x1 : wr.cell? ⟨ad.block, ad.off + (j' + 1), none⟩ = some (.int .i64 u1) := by simpa [Addr.add] using x1
                have e1 := zd2 hs
                obtain ⟨z1, z2, z3⟩ := zd1 (j := j') (by omega)
                clear hs hu1 hu0 hJ
                go_wp2_with fail
                go_quiet (fail)
                have hI := Aside0.mk (hN.out nq)
                clear hN z1 z2 x0 x1
                go_wp2_with fail
                go_roundg gk3
                case rel => exact ⟨j' + 1 + 1, hj1, by go_num, hI⟩
                case measure => exact hgk3
            · have H14 := Aside0.mk hJ.out.1
              clear hJ hj
              have f4 := H14.out.G.cell
              go_wp2_with fail
              refine (preds_any (some gd) c G _ H14.out.G.C hX.out.1 hX.out.2.1).mono ?_
              rintro e w15 ⟨v, rfl, Rx, Bx⟩
              obtain ⟨Ap, cp, ev, hx, Cx⟩ := Kd.R_reads Rx
              rw [pred_len hok.out.1] at ev hx Cx
              subst ev
              have H15 := Aside0.mk (H14.out.step Bx)
              clear H14 f4 Rx Bx hltj
              have f4 := H15.out.G.cell
              obtain ⟨gd4, Ar5, cr5, eG5, r0, rl5, rC5⟩ := at_L1 H15.out.G.C a ha1 ha3
              injection eG5 with eG5
              subst eG5
              rw [show (rd_L1 G a).length = rok.length by have h1 := rev2_len hok.out.1 hok.out.2.1; rw [← hKK.out, hrok.out] at h1; exact h1.symm] at r0
              clear rl5 rC5
              obtain ⟨gp, Pr, pr, eP, p0, pl, pC⟩ := at_L1 Cx b hb1 hb3
              subst eP
              obtain ⟨rop, hrop⟩ : ∃ row, rd_L1 (predL G) b = row := ⟨_, rfl⟩
              rw [hrop] at p0 pl pC
              have hrop : Aside0 (adj (predL G) b = rop) := ⟨hrop⟩
              have hpl : rop.length ≤ 60 := by
                have h1 := pred_adj hok.out.1 hok.out.2.2
                rw [hrop.out] at h1
                rw [h1]
                have := pvU_len G G.length b
                have := hE.out.1
                omega
              have hI0 : Aside0 (Rw w w15 gb bh bk (some gd) (some gd2) (some gd3) G.length c ch ck G H K ∧ w15.cell? (gp.add b.toNat) = some (.slice Pr rop.length pr) ∧ Kd.C (Kd.int .i64) w15 Pr rop.length rop) := ⟨H15.out, p0, pC⟩
              clear hx Cx pC pl
              go_wp2_with fail
              clear r0 f4 H15 p0
              go_loopg [19, 192] rop.length (fun q ve v wi => ∃ j : Nat, j + q = rop.length ∧ v = .int .i64 (j : Int) ∧ ve = .bool ((rop.take j).any (· == a)) ∧ Aside0 (Rw w wi gb bh bk (some gd) (some gd2) (some gd3) G.length c ch ck G H K ∧ wi.cell? (gp.add b.toNat) = some (.slice Pr rop.length pr) ∧ Kd.C (Kd.int .i64) wi Pr rop.length rop))
              case atStart => exact ⟨0, by omega, rfl, rfl, hI0⟩
              case round =>
                obtain ⟨j, hj, rfl, rfl, hJ⟩ := hrel
                clear hI0
                by_cases hltj : j < rop.length
                · have hltji : (j : Int) < rop.length := by omega
                  obtain ⟨gk3, rfl⟩ : ∃ q, gk = q + 1 := ⟨gk - 1, by omega⟩
                  have hj1 : j + 1 + gk3 = rop.length := by omega
                  have hgk3 : gk3 < gk3 + 1 := by omega
                  have hsn : (rop.take (j + 1)).any (· == a) = ((rop.take j).any (· == a) || (rop[j] == a)) := by rw [List.take_succ_eq_append_getElem hltj, List.any_append]; simp
                  obtain ⟨ad, eA, x1⟩ := Kd.at_int hJ.out.2.2 (j : Int) (by omega) hltji
                  subst eA
                  have hrd := rd_get rop j hltj
                  obtain ⟨k, hk⟩ : ∃ k, k = rop[j] := ⟨_, rfl⟩
                  rw [← hk] at hsn hrd
                  rw [hrd, Int.toNat_natCast] at x1
                  clear hk
                  have p0 := hJ.out.2.1
                  obtain ⟨vA, hvA⟩ : ∃ v, (rop.take j).any (· == a) = v := ⟨_, rfl⟩
                  rw [hvA] at hsn ⊢
                  have hsn := Aside0.mk hsn
                  clear hvA
                  by_cases hj0 : j = 0
                  · subst hj0
                    have x1 : wr.cell? ad = some (.int .i64 k) := by simpa [Addr.add] using x1
                    clear hrd
                    by_cases hka : k = a
                    · have e2 : (k == a) = true := by simp [hka]
                      clear hka
                      cases vA <;> (go_wp2_with fail; go_roundg gk3; (case rel => exact ⟨0 + 1, hj1, by go_num, by rw [hsn.out, e2]; rfl, hJ⟩); (case measure => exact hgk3))
                    · have e2 : (k == a) = false := by simp [hka]
                      clear hka
                      cases vA <;> (go_wp2_with fail; go_roundg gk3; (case rel => exact ⟨0 + 1, hj1, by go_num, by rw [hsn.out, e2]; rfl, hJ⟩); (case measure => exact hgk3))
                  · obtain ⟨j', rfl⟩ : ∃ j', j = j' + 1 := ⟨j - 1, by omega⟩
                    obtain ⟨ad2, eA2, x0⟩ := Kd.at_int hJ.out.2.2 (j' : Int) (by omega) (by omega)
                    injection eA2 with eA2
                    subst eA2
                    have hs := pred_up hok.out.1 hok.out.2.2 j' (by rw [hrop.out]; exact hltj)
                    rw [hrop.out, hrd] at hs
                    obtain ⟨u0, hu0⟩ : ∃ u0, rd rop (j' : Int) = u0 := ⟨_, rfl⟩
                    rw [hu0] at x0 hs
                    rw [Int.toNat_natCast] at x0
                    have x1 : wr.cell? ⟨ad.block, ad.off + (j' + 1), none⟩ = some (.int .i64 k) := by simpa [Addr.add] using x1
                    have e1 := zd3 hs
                    clear hs hu0 hrd hj0
                    by_cases hka : k = a
                    · have e2 : (k == a) = true := by simp [hka]
                      clear hka
                      cases vA <;> (go_wp2_with fail; go_roundg gk3; (case rel => exact ⟨j' + 1 + 1, hj1, by go_num, by rw [hsn.out, e2]; rfl, hJ⟩); (case measure => exact hgk3))
                    · have e2 : (k == a) = false := by simp [hka]
                      clear hka
                      cases vA <;> (go_wp2_with fail; go_roundg gk3; (case rel => exact ⟨j' + 1 + 1, hj1, by go_num, by rw [hsn.out, e2]; rfl, hJ⟩); (case measure => exact hgk3))
                · have hany : (rop.take j).any (· == a) = decide (0 < t2) := by
                    rw [List.take_of_length_le (by omega), ← hrop.out, pred_any hok.out.1 hok.out.2.1 hok.out.2.2, ht.out]
                  have hEnd := Aside0.mk hJ.out.1.b
                  clear hJ hj
                  rw [hany]
                  clear hany
                  by_cases ht0 : t2 = 0
                  · subst ht0
                    rw [show decide (0 < 0) = false from rfl]
                    go_wp2
                    go_ret
                    exact ⟨rfl, hEnd.out⟩
                  · have z9 := zd4 ht0
                    have z10 : decide (0 < t2) = true := decide_eq_true (Nat.pos_of_ne_zero ht0)
                    have z11 := Nat.pos_of_ne_zero ht0
                    rw [z10]
                    clear ht0
                    go_wp2
                    go_ret
                    exact ⟨rfl, hEnd.out⟩
end Go.Proofs.Ytjkclhpibielfaa
