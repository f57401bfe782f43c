/- The reference's Reverse and Preds. -/
import Derived.Test.YtjkclhpibielfaaFrH
import Derived.Test.YtjkclhpibielfaaQDigR
set_option linter.unusedVariables false
set_option linter.unusedSimpArgs false
namespace Go.Proofs.Ytjkclhpibielfaa
open Go.RowKit Go.Proofs.YtjkclhpibielfaaW.PrintWords Go.Proofs.Ytjkclhpibielfaa.PDigraphTells Mem

theorem rrev_l : ∀ k, (∀ a b c d, burnishref06_Reverse.l0 k a b c d = digraph_Reverse.l0 k a b c d) ∧ (∀ a b c d e f g h, burnishref06_Reverse.l1 k a b c d e f g h = digraph_Reverse.l1 k a b c d e f g h)
  | 0 => ⟨fun _ _ _ _ => by simp only [burnishref06_Reverse.l0, digraph_Reverse.l0], fun _ _ _ _ _ _ _ _ => by simp only [burnishref06_Reverse.l1, digraph_Reverse.l1]⟩
  | k + 1 => ⟨fun _ _ _ _ => by simp only [burnishref06_Reverse.l0, digraph_Reverse.l0, (rrev_l k).2], fun _ _ _ _ _ _ _ _ => by simp only [burnishref06_Reverse.l1, digraph_Reverse.l1, (rrev_l k).1, (rrev_l k).2]⟩
theorem rrev_f (G : List (List Int)) (hs : short G) (hE : chk G = 0 → edges G < 17592186044416) : Ev (fun k => burnishref06_Reverse.f k G) (revL G) := by
  unfold burnishref06_Reverse.f
  refine Ev.bind (rchk_f G hs) ?_
  by_cases h : chk G = 0
  · have hl := okG.len h
    refine Ev.of (fun k => ?_) (rev_l0 h hs (hE h) G.length 0 _ (by omega) (RV.start G))
    rw [if_pos h, if_pos (by omega), if_pos (by omega), Int.toNat_natCast, (rrev_l k).1]
    rfl
  · unfold revL
    rw [if_neg h]
    exact Ev.of (fun k => by rw [if_neg h]) (Ev.ret _)

/-! ### Preds. -/
theorem rrev_any (A : Option Addr) (c : Nat) (G : List (List Int)) (w : World) (hC : Kd.C kG w A G.length G) (hc : G.length ≤ c) (hs : short G) (hE : chk G = 0 → edges G < 17592186044416) :
    Calls Try.prog 15 #[.agg #[.slice A G.length c]] w fun e w' => ∃ v, e = .returned (.agg #[v]) ∧ Kd.R kG 36 w' 0 (fun k => w.heap.size ≤ k) v (revL G) ∧ Below w.heap.size w w' := by
  obtain ⟨k, hk⟩ := (rrev_f G hs hE).get
  refine (burnishref06_Reverse.calls k A c G _ w hC hc hk).mono ?_
  rintro e w' ⟨v, rfl, hS, hb⟩
  exact ⟨v, rfl, Kd.R_lower (Kd.S_R (Kd.S_mono (Kd.S_bound hS) (fun k hk => hk.2.1))) (Nat.zero_le _), hb⟩
/-- The rows of the reference's Preds ahead of row b. -/
def mixL (G : List (List Int)) (b : Nat) : List (List Int) := ((nodes G).map (pvU G G.length)).take b ++ ((nodes G).map (rvU G G.length)).drop b
theorem mixL_len (G : List (List Int)) (b : Nat) (h : b ≤ G.length) : (mixL G b).length = G.length := by
  unfold mixL
  rw [List.length_append, List.length_take, List.length_drop, List.length_map, List.length_map, nodes_len]; omega
theorem mixL_get (G : List (List Int)) (b : Nat) (h : b < G.length) : (mixL G b).getD b [] = rvU G G.length (b : Int) := by
  unfold mixL
  have h1 : (((nodes G).map (pvU G G.length)).take b).length = b := by rw [List.length_take, List.length_map, nodes_len]; omega
  rw [List.getD_eq_getElem?_getD, List.getElem?_append_right (by omega), h1, Nat.sub_self, List.getElem?_drop, Nat.add_zero, List.getElem?_map]
  unfold nodes
  simp [h]
theorem mixL_set (G : List (List Int)) (b : Nat) (h : b < G.length) : (mixL G b).set b (pvU G G.length (b : Int)) = mixL G (b + 1) := by
  unfold mixL
  have h1 : (((nodes G).map (pvU G G.length)).take b).length = b := by rw [List.length_take, List.length_map, nodes_len]; omega
  have h2 : b < ((nodes G).map (rvU G G.length)).length := by rw [List.length_map, nodes_len]; exact h
  have h3 : b < ((nodes G).map (pvU G G.length)).length := by rw [List.length_map, nodes_len]; exact h
  have h4 : ((nodes G).map (pvU G G.length))[b] = pvU G G.length (b : Int) := by rw [List.getElem_map]; unfold nodes; rw [List.getElem_map, List.getElem_range]
  rw [List.set_append_right _ _ (by omega), h1, Nat.sub_self, List.drop_eq_getElem_cons h2, List.set_cons_zero, List.take_succ_eq_append_getElem h3, h4, List.append_assoc]
  rfl
theorem mixL_zero (G : List (List Int)) (h : chk G = 0) : mixL G 0 = revL G := by unfold mixL revL; rw [if_pos h]; simp
theorem mixL_end (G : List (List Int)) (h : chk G = 0) : mixL G G.length = predL G := by
  unfold mixL predL
  rw [if_pos h, List.take_of_length_le (by rw [List.length_map, nodes_len]; exact Nat.le_refl _), List.drop_eq_nil_of_le (by rw [List.length_map, nodes_len]; exact Nat.le_refl _), List.append_nil]

set_option maxRecDepth 100000 in
set_option maxHeartbeats 2000000 in
theorem rpreds_main (A : Option Addr) (c : Nat) (G : List (List Int)) (w : World) (hC : Kd.C kG w A G.length G) (hc : G.length ≤ c) (hs : short G) (hG : chk G = 0) (hE : edges G < 1000000) :
    Calls Try.prog 13 #[.agg #[.slice A G.length c]] w fun e w' => ∃ v, e = .returned v ∧ Kd.R kG 36 w' 0 (fun k => w.heap.size ≤ k) v (predL G) ∧ Below w.heap.size w w' := by
  have hl := okG.len hG
  have hfl := field_succs
  have hX := Aside0.mk (And.intro hC (And.intro hc (And.intro hs (And.intro hG hE))))
  clear hC hc hs hG hE
  go_enter Try.func13, Try.ntmps13
  go_wp2_with fail
  refine (rcheck_any A c G _ (Kd.C_alloc hX.out.1 _) hX.out.2.1 hX.out.2.2.1 0 hX.out.2.2.2.1).mono ?_
  rintro e w1 ⟨rfl, B1⟩
  obtain ⟨gb, hgb⟩ : ∃ gb, gb = w.heap.size := ⟨_, rfl⟩
  have hbb : Below w.heap.size w w1 := (below_alloc (Below.refl _ w) _).trans (B1.mono (by simp))
  have hg1 : w1.heap[gb]? = some (.cells #[.slice A G.length c] 24 (0, 0)) := by
    rw [hgb]
    refine (B1.block _ (by simp)).trans ?_
    exact heap_alloc_new w _
  have c0 : w1.cell? ⟨gb, 0, none⟩ = some (.slice A G.length c) := cell_at hg1 rfl
  have H1 := Aside0.mk hbb
  rw [show Value.pointer (some (⟨w.heap.size, 0, none⟩ : Addr)) = Value.pointer (some ⟨gb, 0, none⟩) by rw [hgb]]
  clear B1 hbb hg1 hgb
  go_wp2_with fail
  refine (rrev_any A c G _ (Kd.C_below hX.out.1 H1.out) hX.out.2.1 hX.out.2.2.1 (fun _ => by have := hX.out.2.2.2.2; omega)).mono ?_
  rintro e w2 ⟨v2, rfl, R2, B2⟩
  rw [← mixL_zero G hX.out.2.2.2.1] at R2
  obtain ⟨Ao, co, ev, hz1⟩ := Kd.R_reads R2
  clear hz1
  rw [mixL_len G 0 (Nat.zero_le _)] at ev
  subst ev
  have hb2 := H1.out.trans (B2.mono H1.out.size)
  have hI0 : Aside0 (Kd.R kG 36 w2 0 (fun k => w.heap.size ≤ k) (.slice Ao G.length co) (mixL G 0) ∧ Below w.heap.size w w2) := ⟨Kd.R_mono R2 (fun k hk => Nat.le_trans H1.out.size hk), hb2⟩
  clear R2 B2 hb2 c0
  go_wp2_with fail
  go_loopg [17] G.length (fun q v wi => ∃ b : Nat, b + q = G.length ∧ v = .int .i64 (b : Int) ∧ Aside0 (Kd.R kG 36 wi 0 (fun k => w.heap.size ≤ k) (.slice Ao G.length co) (mixL G b) ∧ Below w.heap.size w wi))
  case atStart => exact ⟨0, by omega, rfl, hI0⟩
  case round =>
    obtain ⟨b, hb, rfl, hJ⟩ := hrel
    clear hI0
    by_cases hlt : b < G.length
    · have hlti : (b : Int) < G.length := by omega
      obtain ⟨gk1, rfl⟩ : ∃ q, gk = q + 1 := ⟨gk - 1, by omega⟩
      have hb1 : b + 1 + gk1 = G.length := by omega
      have hgk1 : gk1 < gk1 + 1 := by omega
      obtain ⟨g, cap, ev, hz1⟩ := Kd.R_form hJ.out.1 (by rw [mixL_len G b (by omega)]; omega)
      clear hz1
      injection ev with ev1 ev2 ev3
      subst ev1
      clear ev2 ev3
      obtain ⟨cs, hcl, ⟨v, hcv, hM⟩, hcell, hfree⟩ := Kd.R_elem hJ.out.1 ([] : List Int) (b : Int) (by omega) hlti
      subst hcv
      have h0 := hcell 0 v rfl
      have f0 := hfree 0
      rw [Int.toNat_natCast, mixL_get G b hlt] at hM
      rw [Int.toNat_natCast, show kG.sz = 1 from rfl, Nat.mul_one, Nat.add_zero] at h0 f0
      obtain ⟨row, hrow⟩ : ∃ row, rvU G G.length (b : Int) = row := ⟨_, rfl⟩
      rw [hrow] at hM
      obtain ⟨Ar, cr, ev, hrl, rC⟩ := Kd.R_reads hM
      subst ev
      have honce := once_rvU G (b : Int) G.length (Nat.le_refl _)
      rw [hrow] at honce
      have hrw : row.length ≤ 1000000 := by
        have h1 := edges_take G G.length (Nat.le_refl _) (b : Int)
        rw [List.take_length, hrow] at h1
        have := hX.out.2.2.2.2
        omega
      have hY := Aside0.mk (And.intro hJ.out.1 (And.intro hJ.out.2 (And.intro rC hrl)))
      have hI1 : Aside0 (Kd.R (Kd.int .i64) 3 wr 0 (fun k => wr.heap.size ≤ k) (.slice none ([] : List Int).length 0) [] ∧ once [] (row.drop 0) = pvU G G.length (b : Int) ∧ Below wr.heap.size wr wr ∧ ([] : List Int).length ≤ 0) := ⟨Kd.R_nil _ _ _ _ _, by rw [List.drop_zero]; exact honce, Below.refl _ _, by simp⟩
      clear hM hcell hfree hcl honce hrow hJ rC hrl
      go_wp2_with fail
      obtain ⟨W0, hW0⟩ : ∃ W0, W0 = wr := ⟨_, rfl⟩
      rw [← hW0] at hY hI1 h0 f0 ⊢
      clear hW0
      go_loopg [6, 24] row.length (fun q v6 v24 wi => ∃ (j : Nat) (acc : List Int) (Aa : Option Addr) (ca : Nat), j + q = row.length ∧ v6 = .slice Aa acc.length ca ∧ v24 = .int .i64 (j : Int) ∧ Aside0 (Kd.R (Kd.int .i64) 3 wi 0 (fun k => W0.heap.size ≤ k) (.slice Aa acc.length ca) acc ∧ once acc (row.drop j) = pvU G G.length (b : Int) ∧ Below W0.heap.size W0 wi ∧ acc.length ≤ j))
      case atStart => exact ⟨0, [], none, 0, by omega, rfl, rfl, hI1⟩
      case round =>
        obtain ⟨j, acc, Aa, ca, hj, rfl, rfl, hJ⟩ := hrel
        clear hI1
        by_cases hlt2 : j < row.length
        · have hlti2 : (j : Int) < row.length := by omega
          obtain ⟨gk2, rfl⟩ : ∃ q, gk = q + 1 := ⟨gk - 1, by omega⟩
          have hj1 : j + 1 + gk2 = row.length := by omega
          have hgk2 : gk2 < gk2 + 1 := by omega
          have hal : acc.length ≤ 1000000 := by have := hJ.out.2.2.2; omega
          have hbd : (acc.length + 1) * 8 ≤ 140737488355328 := by omega
          obtain ⟨ra, eR, s0⟩ := Kd.at_int (Kd.C_below hY.out.2.2.1 hJ.out.2.2.1) (j : Int) (by omega) hlti2
          rw [rd_get row j hlt2, Int.toNat_natCast] at s0
          subst eR
          have hre := hJ.out.2.1
          rw [List.drop_eq_getElem_cons hlt2, once] at hre
          obtain ⟨x, hx⟩ : ∃ x, x = row[j] := ⟨_, rfl⟩
          rw [← hx] at s0 hre
          clear hx
          have hlen9 : (acc ++ [x]).length ≤ j + 1 := by rw [List.length_append, List.length_singleton]; have := hJ.out.2.2.2; omega
          by_cases ha0 : acc.length = 0
          · rw [if_pos (.inl ha0)] at hre
            have hacc : acc = [] := List.eq_nil_of_length_eq_zero ha0
            subst hacc
            have hZ := Aside0.mk (And.intro hJ.out.1 (And.intro hre (And.intro hJ.out.2.2.1 hlen9)))
            clear hre hJ ha0 hlen9
            go_wp2_with (at_builtin; refine Kd.R_append (Kd.int .i64) (w0 := wr) 0 (by rfl) (.tmp 41) (.tmp 43) 36 3 (.int .i64 0) 8 (by rfl) Try.underlying36 info3 rfl (by decide) (by decide) (.slice Aa ([] : List Int).length ca) [] x [.int .i64 x] (fun k => W0.heap.size ≤ k) (fun _ => False) (by rfl) (by rfl) rfl (fun _ h => h.elim) (fun k hk => Nat.le_trans hZ.out.2.2.1.size hk) hZ.out.1 ((Kp.refl (fun _ => False) wr).belowB (fun _ h => h.elim) (Nat.zero_le _)) (Nat.zero_le _) hbd ?_; intro v1 wa hRA hBA hgA hatA; obtain ⟨A3, c3, hv, _, _⟩ := Kd.R_reads hRA; subst hv; have hKA : Kp (fun k => W0.heap.size ≤ k) wr wa := (Kp.refl _ wr).grown hgA (fun k hk => .inl (hZ.out.1.1 k hk)); have hW := Aside0.mk (And.intro hRA (hZ.out.2.2.1.trans (hKA.belowB (fun k hk => hk) hZ.out.2.2.1.size))); clear hRA hBA hgA hatA hKA)
            have hI2 : Aside0 (Kd.R (Kd.int .i64) 3 wa 0 (fun k => W0.heap.size ≤ k) (.slice A3 (([] : List Int) ++ [x]).length c3) (([] : List Int) ++ [x]) ∧ once (([] : List Int) ++ [x]) (row.drop (j + 1)) = pvU G G.length (b : Int) ∧ Below W0.heap.size W0 wa ∧ (([] : List Int) ++ [x]).length ≤ j + 1) := ⟨hW.out.1, hZ.out.2.1, hW.out.2, hZ.out.2.2.2⟩
            clear hZ hW
            go_roundg gk2
            case rel => exact ⟨j + 1, ([] : List Int) ++ [x], A3, c3, hj1, by simp, by go_num, hI2⟩
            case measure => exact hgk2
          · obtain ⟨m, hm⟩ : ∃ m, acc.length = m + 1 := ⟨acc.length - 1, by omega⟩
            obtain ⟨A9, c9, e9, _, C9⟩ := Kd.R_reads hJ.out.1
            injection e9 with e91 e92 e93
            subst e91
            subst e93
            clear e92
            obtain ⟨aa, eA, l0⟩ := Kd.at_int C9 (m : Int) (by omega) (by omega)
            subst eA
            have hml : m < acc.length := by omega
            rw [rd_get acc m hml, Int.toNat_natCast] at l0
            have hlast : acc.getD (acc.length - 1) 0 = acc[m] := by rw [hm, Nat.add_sub_cancel]; simp [hml]
            rw [hlast] at hre
            obtain ⟨la, hla⟩ : ∃ la, acc[m] = la := ⟨_, rfl⟩
            rw [hla] at l0 hre
            have hlj : acc.length ≤ j + 1 := by have := hJ.out.2.2.2; omega
            by_cases hne : la = x
            · rw [if_neg (fun h9 => h9.elim ha0 (fun h8 => h8 hne))] at hre
              have hI2 : Aside0 (Kd.R (Kd.int .i64) 3 wr 0 (fun k => W0.heap.size ≤ k) (.slice (some aa) acc.length ca) acc ∧ once acc (row.drop (j + 1)) = pvU G G.length (b : Int) ∧ Below W0.heap.size W0 wr ∧ acc.length ≤ j + 1) := ⟨hJ.out.1, hre, hJ.out.2.2.1, hlj⟩
              have e1 : (la != x) = false := by simp [hne]
              have e2 : (la == x) = true := by simp [hne]
              have hm' := Aside0.mk hm
              rw [hm]
              have hw1 : wrap64 (m : Int) = (m : Int) := by unfold wrap64; omega
              clear hre hJ C9 hla hlast ha0 hne hlen9 hm hml hal hlj
              go_wp2
              rw [← hm'.out]
              go_roundg gk2
              case rel => exact ⟨j + 1, acc, some aa, ca, hj1, rfl, by go_num, hI2⟩
              case measure => exact hgk2
            · rw [if_pos (.inr hne)] at hre
              have hZ := Aside0.mk (And.intro (show Kd.R (Kd.int .i64) 3 wr 0 (fun k => W0.heap.size ≤ k) (.slice (some aa) (m + 1) ca) acc by rw [← hm]; exact hJ.out.1) (And.intro hre (And.intro hJ.out.2.2.1 hlen9)))
              have e1 : (la != x) = true := by simp [hne]
              have e2 : (la == x) = false := by simp [hne]
              rw [hm]
              have hw1 : wrap64 (m : Int) = (m : Int) := by unfold wrap64; omega
              clear hre hJ C9 hla hlast ha0 hne hlen9 hm hml
              go_wp2_with (at_builtin; refine Kd.R_append (Kd.int .i64) (w0 := wr) 0 (by rfl) (.tmp 41) (.tmp 43) 36 3 (.int .i64 0) 8 (by rfl) Try.underlying36 info3 rfl (by decide) (by decide) (.slice (some aa) (m + 1) ca) acc x [.int .i64 x] (fun k => W0.heap.size ≤ k) (fun _ => False) (by rfl) (by rfl) rfl (fun _ h => h.elim) (fun k hk => Nat.le_trans hZ.out.2.2.1.size hk) hZ.out.1 ((Kp.refl (fun _ => False) wr).belowB (fun _ h => h.elim) (Nat.zero_le _)) (Nat.zero_le _) hbd ?_; intro v1 wa hRA hBA hgA hatA; obtain ⟨A3, c3, hv, _, _⟩ := Kd.R_reads hRA; subst hv; have hKA : Kp (fun k => W0.heap.size ≤ k) wr wa := (Kp.refl _ wr).grown hgA (fun k hk => .inl (hZ.out.1.1 k hk)); have hW := Aside0.mk (And.intro hRA (hZ.out.2.2.1.trans (hKA.belowB (fun k hk => hk) hZ.out.2.2.1.size))); clear hRA hBA hgA hatA hKA)
              have hI2 : Aside0 (Kd.R (Kd.int .i64) 3 wa 0 (fun k => W0.heap.size ≤ k) (.slice A3 (acc ++ [x]).length c3) (acc ++ [x]) ∧ once (acc ++ [x]) (row.drop (j + 1)) = pvU G G.length (b : Int) ∧ Below W0.heap.size W0 wa ∧ (acc ++ [x]).length ≤ j + 1) := ⟨hW.out.1, hZ.out.2.1, hW.out.2, hZ.out.2.2.2⟩
              clear hZ hW
              go_roundg gk2
              case rel => exact ⟨j + 1, acc ++ [x], A3, c3, hj1, by simp, by go_num, hI2⟩
              case measure => exact hgk2
        · have hre := hJ.out.2.1
          rw [List.drop_eq_nil_of_le (by omega), once] at hre
          subst hre
          have hRow : Kd.R kG 36 wr 0 (fun k => w.heap.size ≤ k) (.slice (some ⟨g, 0, none⟩) G.length co) (mixL G b) := Kd.R_mono (Kd.R_step (Kd.R_bound hY.out.1) (fun k hk _ => hJ.out.2.2.1.block k hk.2.2.1)) (fun k hk => hk.1)
          have hgl : g < W0.heap.size := World.block_lt_of_cell? W0 _ h0
          have hwW : w.heap.size ≤ W0.heap.size := hY.out.2.1.size
          have h9 : wr.cell? ⟨g, b, none⟩ = some (.slice Ar row.length cr) := (hJ.out.2.2.1.cell hgl).trans h0
          have h8 : wr.frozen? ⟨g, b, none⟩ = false := by rw [World.frozen?_of_block (w := W0) (w' := wr) (a := ⟨g, b, none⟩) (hJ.out.2.2.1.block g hgl)]; exact f0
          have hst := Kd.R_seg hRow (b : Int) (by omega) hlti (c := [.slice Ar row.length cr]) (seg := [.slice Aa (pvU G G.length (b : Int)).length ca]) (j := 0) (x' := pvU G G.length (b : Int)) (okp := fun k => W0.heap.size ≤ k) rfl (fun j u hj => by
            rw [Int.toNat_natCast, show kG.sz = 1 from rfl, Nat.mul_one]
            rcases j with _ | j
            · simp at hj; rw [← hj]; exact h9
            · simp at hj) (by show 0 + 1 ≤ 1; omega) ⟨_, rfl, hJ.out.1⟩ (fun k hk => ⟨by omega, by omega⟩)
          rw [Int.toNat_natCast, show kG.sz = 1 from rfl, Nat.mul_one, Nat.add_zero, mixL_set G b hlt] at hst
          have hbw : Below w.heap.size w wr := hY.out.2.1.trans (hJ.out.2.2.1.mono hwW)
          have hkw : Kp (fun k => w.heap.size ≤ k) wr (wr.setCell ⟨g, b, none⟩ (.slice Aa (pvU G G.length (b : Int)).length ca)) := (Kp.refl (fun k => w.heap.size ≤ k) wr).setCell (p := ⟨g, b, none⟩) (.inl (hRow.1 g rfl)) _
          have hI2 : Aside0 (Kd.R kG 36 (wr.setCell ⟨g, b, none⟩ (.slice Aa (pvU G G.length (b : Int)).length ca)) 0 (fun k => w.heap.size ≤ k) (.slice (some ⟨g, 0, none⟩) G.length co) (mixL G (b + 1)) ∧ Below w.heap.size w (wr.setCell ⟨g, b, none⟩ (.slice Aa (pvU G G.length (b : Int)).length ca))) := ⟨hst.1, hbw.trans (hkw.belowB (fun k hk => hk) hbw.size)⟩
          clear hst hRow hbw hkw hJ hgl hwW
          go_wp2_with fail
          --!STOP
          go_roundg gk1
          case rel => exact ⟨b + 1, hb1, by go_num, hI2⟩
          case measure => exact hgk1
    · have hbe : b = G.length := by omega
      subst hbe
      have hE := Aside0.mk (And.intro hJ.out.1 hJ.out.2)
      rw [mixL_end G hX.out.2.2.2.1] at hE
      clear hJ
      go_wp2
      go_ret
      exact ⟨_, rfl, hE.out.1, hE.out.2⟩
theorem rpreds_any (A : Option Addr) (c : Nat) (G : List (List Int)) (w : World) (hC : Kd.C kG w A G.length G) (hc : G.length ≤ c) (hs : short G) (hE : edges G < 1000000) :
    Calls Try.prog 13 #[.agg #[.slice A G.length c]] w fun e w' => ∃ A' c', e = .returned (.slice A' (predL G).length c') ∧ (predL G).length ≤ c' ∧ Kd.C kG w' A' (predL G).length (predL G) ∧ Below w.heap.size w w' := by
  by_cases h : chk G = 0
  · refine (rpreds_main A c G w hC hc hs h hE).mono ?_
    rintro e w' ⟨v, rfl, hR, hb⟩
    obtain ⟨A', c', rfl, h1, h2⟩ := Kd.R_reads hR
    exact ⟨A', c', rfl, h1, h2, hb⟩
  · have hp : predL G = [] := by unfold predL; rw [if_neg h]
    have hX := Aside0.mk (And.intro hC (And.intro hc (And.intro hs hp)))
    obtain ⟨r, hr⟩ : ∃ r, chk G = r := ⟨_, rfl⟩
    rw [hr] at h
    have hr' := Aside0.mk hr
    have e1 : (r != 0) = true := by simp [h]
    have e2 : (r == 0) = false := by simp [h]
    clear hC hc hs hE hp hr
    rw [hX.out.2.2.2]
    go_enter Try.func13, Try.ntmps13
    go_wp2_with fail
    refine (rcheck_any A c G _ (Kd.C_alloc hX.out.1 _) hX.out.2.1 hX.out.2.2.1 r hr'.out).mono ?_
    rintro e w1 ⟨rfl, B1⟩
    have hbb := Aside0.mk ((below_alloc (Below.refl _ w) _).trans (B1.mono (by simp)) : Below w.heap.size w w1)
    clear B1
    go_wp2
    go_ret
    obtain ⟨A1, c1, e9, h1, hC1⟩ := Kd.R_reads (Kd.R_nil kG 36 w1 0 (fun _ => True))
    injection e9 with e9 e10 e11
    subst e9
    exact ⟨none, 0, rfl, Nat.le_refl _, hC1, hbb.out⟩
end Go.Proofs.Ytjkclhpibielfaa
