import Derived.Test.YtmlikgmcekofbaaMCom12
section
/- The reference's Components. -/
set_option linter.unusedVariables false
set_option linter.unusedSimpArgs false
set_option linter.unusedSectionVars false
namespace Go.Proofs.Ytmlikgmcekofbaa
open Go.RowKit Go.Proofs.YtmlikgmcekofbaaW.PrintWords Go.Proofs.Ytmlikgmcekofbaa.PDigraphTells Mem

theorem paths_any (A : Option Addr) (c : Nat) (G : List (List Int)) (w : World) (hC : Kd.C kG w A G.length G) (hc : G.length ≤ c) (hn : G.length ≤ 65536) (hs : short G) :
    Calls Try.prog 21 #[.agg #[.slice A G.length c]] w fun e w' => ∃ A2 c2 W, e = .returned (.slice A2 W.length c2) ∧ Kd.C (Kd.slice 4 Kd.bool) w' A2 W.length W ∧ W.length ≤ c2 ∧ PM G W ∧ Below w.heap.size w w' := by
  obtain ⟨r, h1, h2⟩ := paths_f hn hs
  obtain ⟨k, hk⟩ := h1.get
  refine (burnishref07_Paths.calls k A c G r w hC hc hk).mono fun e w' h => ?_
  obtain ⟨v, rfl, hR, hB⟩ := h
  obtain ⟨A2, c2, rfl, hl, hC2⟩ := Kd.S_reads hR
  exact ⟨A2, c2, r, rfl, hC2, hl, h2, hB⟩
theorem component_any {G : List (List Int)} {W : List (List Bool)} (A : Option Addr) (c : Nat) (w : World) (hC : Kd.C (Kd.slice 4 Kd.bool) w A W.length W) (hc : W.length ≤ c) (hn : G.length ≤ 65536) (hW : PM G W) (i : Nat) (hi : i < G.length) :
    Calls Try.prog 22 #[.slice A G.length c, .int .i64 (i : Int)] w fun e w' => ∃ A2 c2, e = .returned (.slice A2 (compL W G.length i).length c2) ∧ Kd.R (Kd.int .i64) 3 w' 0 (fun k => w.heap.size ≤ k) (.slice A2 (compL W G.length i).length c2) (compL W G.length i) ∧ Below w.heap.size w w' := by
  obtain ⟨k, hk⟩ := (comp_f hn hW.sq hi).get
  have h9 := burnishref07_component.calls k A c W (i : Int) _ w hC hc hk
  rw [hW.sq.len] at h9
  refine h9.mono fun e w' h => ?_
  obtain ⟨v, rfl, hR, hB⟩ := h
  obtain ⟨A2, c2, rfl, hl, hC2⟩ := Kd.R_reads hR
  exact ⟨A2, c2, rfl, Kd.R_mono (Kd.R_lower (Kd.R_bound hR) (Nat.zero_le _)) (fun k hk => hk.2.1), hB⟩
theorem ready_any {G : List (List Int)} {W : List (List Bool)} (A : Option Addr) (c : Nat) (A1 : Option Addr) (c1 : Nat) (part : List Int) (A2 : Option Addr) (c2 : Nat) (dn : List Bool) (w : World) (hC : Kd.C (Kd.slice 4 Kd.bool) w A W.length W) (hc : W.length ≤ c) (h1 : Kd.C (Kd.int .i64) w A1 part.length part) (hc1 : part.length ≤ c1) (h2 : Kd.C Kd.bool w A2 G.length dn) (hc2 : G.length ≤ c2)
    (hn : G.length ≤ 65536) (hW : PM G W) (hp : ∀ x ∈ part, 0 ≤ x ∧ x < G.length) (hpl : part.length ≤ G.length) (hd : dn.length = G.length) :
    Calls Try.prog 23 #[.slice A G.length c, .slice A1 part.length c1, .slice A2 G.length c2] w fun e w' => ∃ r, e = .returned (.bool r) ∧ GoodR W G.length part dn r ∧ Below w.heap.size w w' := by
  obtain ⟨r, g1, g2⟩ := ready_f hn hW.sq hp hpl hd
  obtain ⟨k, hk⟩ := g1.get
  have h9 := burnishref07_ready.calls k A c W A1 c1 part A2 c2 dn r w hC hc h1 hc1 (by rw [hd]; exact h2) (by rw [hd]; exact hc2) hk
  rw [hW.sq.len, hd] at h9
  exact h9.mono fun e w' h => ⟨r, h.1, g2, h.2⟩
/-- The world of Components: which nodes are done lies at bd, the list is of blocks made since. -/
structure RS (w2 wi : World) (bd : Nat) (Ao : Option Addr) (co : Nat) (L : List (List Int)) (dn : List Bool) : Prop where
  b : Below w2.heap.size w2 wi
  d : wi.heap[bd]? = some (.cells (aB dn) 4 (0, 0))
  n : Kd.N kG 29 wi 0 (fun k => w2.heap.size + 1 ≤ k) (.slice Ao L.length co) L
  lo : w2.heap.size = bd
  nil : L.length = 0 → Ao = none ∧ co = 0
section
variable {w2 wi wj : World} {bd : Nat} {Ao : Option Addr} {co : Nat} {L : List (List Int)} {dn : List Bool}
theorem RS.step (h : RS w2 wi bd Ao co L dn) (hb : Below wi.heap.size wi wj) : RS w2 wj bd Ao co L dn :=
  ⟨h.b.trans (hb.mono h.b.size), (hb.block _ (blk_lt' h.d)).trans h.d, Kd.N_below h.n hb, h.lo, h.nil⟩
theorem RS.put (h : RS w2 wi bd Ao co L dn) (j : Nat) (b : Bool) : RS w2 (wi.setCell ⟨bd, j, none⟩ (.bool b)) bd Ao co L (dn.set j b) := by
  have hk := (Kp.refl (fun k => k = bd) wi).setCell (p := ⟨bd, j, none⟩) (.inl rfl) (.bool b)
  exact ⟨h.b.trans (hk.belowB (fun k hk => by have := h.lo; omega) h.b.size), by rw [set_at h.d, aB_set], Kd.N_far h.n (p := ⟨bd, j, none⟩) (fun k hk => by have := h.lo; show k ≠ bd; omega) _, h.lo, h.nil⟩
end
/-- What it hands back. -/
def RCM (G : List (List Int)) (w : World) (e : Ending) (w' : World) : Prop := ∃ A c L, e = .returned (.slice A L.length c) ∧ Kd.N kG 29 w' 0 (fun k => w.heap.size ≤ k) (.slice A L.length c) L ∧ L.length ≤ c ∧ IsC (cleanG G) L ∧ Below w.heap.size w w'
set_option maxRecDepth 100000 in
set_option maxHeartbeats 8000000 in
theorem rcomps_any (A : Option Addr) (c : Nat) (G : List (List Int)) (w : World) (hC : Kd.C kG w A G.length G) (hc : G.length ≤ c) (hG : Sm G) :
    Calls Try.prog 10 #[.agg #[.slice A G.length c]] w (RCM G w) := by
  have hX := Aside0.mk (And.intro hc hG)
  have hfl := field_succs
  have H0 := Aside0.mk (Gw.start (c := c) hC)
  have hn6 := hG.n
  have hng : ¬ (G.length : Int) > 65536 := by omega
  have hm := fun w => make_runB G.length (by omega) w
  clear hG hC hc
  have c0 := H0.out.cell
  go_enter Try.func10, Try.ntmps10
  go_wp2_with fail
  obtain ⟨gb, hgb⟩ : ∃ gb, gb = w.heap.size := ⟨_, rfl⟩
  obtain ⟨w1, hw1⟩ : ∃ w1, w1 = w.alloc (.cells #[.slice A G.length c] 24 (0, 0)) := ⟨_, rfl⟩
  rw [← hgb, ← hw1] at H0
  rw [show Value.pointer (some (⟨w.heap.size, 0, none⟩ : Addr)) = Value.pointer (some ⟨gb, 0, none⟩) by rw [hgb], ← hw1]
  clear hgb hw1 c0
  refine (paths_any A c G _ H0.out.C hX.out.1 hX.out.2.n hX.out.2.s).mono ?_
  rintro e' w2 ⟨AW, cW, W, rfl, hCW, hcW, hPM, B2⟩
  have hB2 : Aside0 (Below w.heap.size w w2) := ⟨H0.out.b.trans (B2.mono H0.out.b.size)⟩
  have hWn : W.length = G.length := hPM.sq.len
  have hW := Aside0.mk (And.intro hCW (And.intro hcW hPM))
  clear hCW hcW hPM B2 H0
  obtain ⟨bd, hbd⟩ : ∃ bd, w2.heap.size = bd := ⟨_, rfl⟩
  have hI0 : Aside0 (RS w2 (w2.alloc (.cells (aB (List.replicate G.length false)) 4)) bd none 0 [] (List.replicate G.length false) ∧ DL G.length [] (List.replicate G.length false)) := by
    refine ⟨⟨below_alloc (Below.refl _ w2) _, by rw [← hbd]; exact heap_alloc_new w2 _, Kd.N_nil _ _ _ _ _, hbd, fun _ => ⟨rfl, rfl⟩⟩, by simp, fun k hk => by simp [hk]⟩
  go_wp2_with fail
  obtain ⟨w3, hw3⟩ : ∃ w3, w2.alloc (.cells (aB (List.replicate G.length false)) 4) = w3 := ⟨_, rfl⟩
  rw [hw3] at hI0 ⊢
  clear hw3 hm hng hbd
  go_loopg [5, 6] G.length (fun z v5 v6 wi => ∃ (L : List (List Int)) (Ao : Option Addr) (co : Nat) (dn : List Bool), L.flatten.length + z = G.length ∧ v5 = .slice Ao L.length co ∧ v6 = .int .i64 ((L.flatten.length : Nat) : Int) ∧ Aside0 (RS w2 wi bd Ao co L dn ∧ DL G.length L.flatten dn ∧ RL (cleanG G) L))
  case atStart => exact ⟨[], none, 0, _, by simp, rfl, rfl, ⟨hI0.out.1, hI0.out.2, RL.nil _⟩⟩
  case round =>
    clear hI0
    obtain ⟨L, Ao, co, dn, hls, rfl, rfl, hJ⟩ := hrel
    obtain ⟨go, rfl⟩ : ∃ go, go = gk := ⟨_, rfl⟩
    obtain ⟨ls, hls0⟩ : ∃ ls, L.flatten.length = ls := ⟨_, rfl⟩
    rw [hls0] at hls ⊢
    have hls' := Aside0.mk hls0
    have hLl : L.length ≤ ls := by rw [← hls0]; exact hJ.out.2.2.len_le
    clear hls0
    by_cases hlt : ls < G.length
    · have hlti : (ls : Int) < (G.length : Int) := by omega
      have hz9 := Aside0.mk hls
      have hD := Aside0.mk hJ.out.2
      have hJ0 : Aside0 (RS w2 wr bd Ao co L dn) := ⟨hJ.out.1⟩
      have hlt' : ls < G.length := hlt
      clear hJ hls hlt
      obtain ⟨w4, rfl⟩ : ∃ w4 : World, w4 = wr := ⟨_, rfl⟩
      go_wp2_with fail
      clear hlti
      go_loopg [5, 6, 7] G.length (fun z v5 v6 v7 wi => ∃ i : Nat, i + z = G.length ∧ v5 = .slice Ao L.length co ∧ v6 = .int .i64 (ls : Int) ∧ v7 = .int .i64 (i : Int) ∧ Aside0 (RS w2 wi bd Ao co L dn) ∧ Aside0 (∀ y : Nat, y < i → (y : Int) ∉ L.flatten → ¬ Rdy (cleanG G) L.flatten (y : Int)))
      case atStart => exact ⟨0, by omega, rfl, rfl, rfl, hJ0, ⟨fun y hy => absurd hy (Nat.not_lt_zero _)⟩⟩
      case round =>
        clear hJ0
        obtain ⟨i, hi, rfl, rfl, rfl, hJ, hNo⟩ := hrel
        by_cases hit : i < G.length
        · have hiti : (i : Int) < (G.length : Int) := by omega
          obtain ⟨gk1, rfl⟩ : ∃ z, gk = z + 1 := ⟨gk - 1, by omega⟩
          have hw2 : wrap64 ((i : Int) + 1) = ((i + 1 : Nat) : Int) := by unfold wrap64; omega
          have hb9 := Aside0.mk (And.intro (show i + 1 + gk1 = G.length by omega) (And.intro (show gk1 < gk1 + 1 by omega) hit))
          have hdl := hD.out.1.len
          have y0 := cell_at (j := ((i : Int)).toNat) hJ.out.d (aB_at (Int.natCast_nonneg i) (by rw [hdl]; exact hiti))
          rw [Int.toNat_natCast] at y0
          obtain ⟨db, hdb⟩ : ∃ db, rdOf false dn (i : Int) = db := ⟨_, rfl⟩
          rw [hdb] at y0
          have hat := hD.out.1.at_ i hit
          rw [show dn.getD i false = db from hdb] at hat
          have hat' := Aside0.mk hat
          clear hat hdb hi hit hdl
          cases db
          rotate_left
          · have hE : Aside0 (∀ y : Nat, y < i + 1 → (y : Int) ∉ L.flatten → ¬ Rdy (cleanG G) L.flatten (y : Int)) := ⟨fun y hy hn => by
              by_cases e : y = i
              · subst e; exact absurd (hat'.out.1 rfl) hn
              · exact hNo.out y (by omega) hn⟩
            clear hNo hat'
            go_wp2_with fail
            go_roundg gk1
            case rel => exact ⟨i + 1, hb9.out.1, rfl, rfl, by go_num, hJ, hE⟩
            case measure => exact hb9.out.2.1
          · go_wp2_with fail
            refine (component_any AW cW wr (Kd.C_below hW.out.1 hJ.out.b) hW.out.2.1 hX.out.2.n hW.out.2.2 i hb9.out.2.2).mono ?_
            rintro e' w5 ⟨A5, c5, rfl, hR5, B5⟩
            have hJ5 := Aside0.mk (hJ.out.step B5)
            obtain ⟨B4, hB4⟩ : ∃ B4, wr.heap.size = B4 := ⟨_, rfl⟩
            rw [hB4] at hR5
            have hOw : Aside0 (bd < B4 ∧ w2.heap.size = bd ∧ ∀ k, (Value.slice Ao L.length co).ownBlock = some k → bd + 1 ≤ k ∧ k < B4) := ⟨by rw [← hB4]; exact blk_lt' hJ.out.d, hJ.out.lo, fun k hk => ⟨by have := hJ.out.n.1 k hk; have := hJ.out.lo; omega, by rw [← hB4]; exact Kd.N_lt hJ.out.n k hk⟩⟩
            have hPa := comp_part hW.out.2.2 hb9.out.2.2
            have hpl := comp_len W G.length i
            obtain ⟨part, hpart⟩ : ∃ part, compL W G.length i = part := ⟨_, rfl⟩
            rw [hpart] at hR5 hPa hpl ⊢
            have hpr : ∀ x ∈ part, 0 ≤ x ∧ x < G.length := fun x hx => by
              have := ((hPa.mem x).1 hx).1
              unfold isNode at this
              rw [cleanG_len] at this
              exact this
            have hP5 := Aside0.mk (And.intro hR5 (And.intro hPa (And.intro hpl (And.intro hpr hpart))))
            clear hR5 B5 hPa hpart hpr hJ y0 hB4
            go_wp2_with fail
            refine (ready_any AW cW A5 c5 part _ _ dn w5 (Kd.C_below hW.out.1 hJ5.out.b) hW.out.2.1 (Kd.R_reads' hP5.out.1).2.2 (Kd.R_reads' hP5.out.1).2.1 (readsB_raw hJ5.out.d hD.out.1.len (by omega)) (Nat.le_refl _) hX.out.2.n hW.out.2.2 hP5.out.2.2.2.1 hpl hD.out.1.len).mono ?_
            rintro e' w6 ⟨r, rfl, hGd, B6⟩
            rw [← hP5.out.2.2.2.2] at hGd
            have hrd := good_rdy hX.out.2.n hW.out.2.2 hb9.out.2.2 hD.out.1 hGd
            have hJ6 := Aside0.mk (hJ5.out.step B6)
            have hP6 := Aside0.mk (Kd.R_below hP5.out.1 B6)
            have hrd' := Aside0.mk hrd
            clear hGd hrd B6 hJ5
            cases r
            · have hE : Aside0 (∀ y : Nat, y < i + 1 → (y : Int) ∉ L.flatten → ¬ Rdy (cleanG G) L.flatten (y : Int)) := ⟨fun y hy hn hR => by
                by_cases e : y = i
                · subst e; exact absurd (hrd'.out.2 hR) (by simp)
                · exact hNo.out y (by omega) hn hR⟩
              clear hNo hat' hrd' hP6 hP5 hOw
              go_wp2_with fail
              go_roundg gk1
              case rel => exact ⟨i + 1, hb9.out.1, rfl, rfl, by go_num, hJ6, hE⟩
              case measure => exact hb9.out.2.1
            · have hNx : Aside0 (Nxt (cleanG G) L.flatten part) := by
                refine ⟨(i : Int), isNode_clean.2 ⟨Int.natCast_nonneg _, hiti⟩, fun h => ?_, hrd'.out.1 rfl, fun y hy hlt hn hR => ?_, hP5.out.2.1⟩
                · have := hat'.out.2 h; cases this
                · have hy0 := hy.1
                  have ey : y = ((y.toNat : Nat) : Int) := (Int.toNat_of_nonneg hy0).symm
                  rw [ey] at hn hR
                  exact hNo.out y.toNat (by omega) hn hR
              clear hNo hrd'
              have hM0 : Aside0 (RS w2 w6 bd Ao co L dn ∧ DL G.length (L.flatten ++ part.take 0) dn ∧ Kd.R (Kd.int .i64) 3 w6 0 (fun k => B4 ≤ k) (.slice A5 part.length c5) part) := ⟨hJ6.out, by simpa using hD.out.1, hP6.out⟩
              clear hJ6 hP6
              go_wp2_with fail
              go_loopg [44] part.length (fun z v44 wi => ∃ (j : Nat) (dn' : List Bool), j + z = part.length ∧ v44 = .int .i64 (j : Int) ∧ Aside0 (RS w2 wi bd Ao co L dn' ∧ DL G.length (L.flatten ++ part.take j) dn' ∧ Kd.R (Kd.int .i64) 3 wi 0 (fun k => B4 ≤ k) (.slice A5 part.length c5) part))
              case atStart => exact ⟨0, dn, by omega, rfl, hM0⟩
              case round =>
                clear hM0
                obtain ⟨j, dn', hj, rfl, hM⟩ := hrel
                by_cases hjt : j < part.length
                · have hjti : (j : Int) < (part.length : Int) := by omega
                  obtain ⟨gj1, rfl⟩ : ∃ z, gk = z + 1 := ⟨gk - 1, by omega⟩
                  have hw3 : wrap64 ((j : Int) + 1) = ((j + 1 : Nat) : Int) := by unfold wrap64; omega
                  obtain ⟨pd, eB, b0⟩ := Kd.at_int (Kd.R_reads' hM.out.2.2).2.2 (j : Int) (Int.natCast_nonneg _) hjti
                  subst eB
                  rw [rd_get part j hjt, Int.toNat_natCast] at b0
                  obtain ⟨hp0, hp1⟩ := hP5.out.2.2.2.1 part[j] (List.getElem_mem hjt)
                  have hput := hM.out.2.1.put hjt hp0 hp1
                  obtain ⟨x, hx⟩ : ∃ x, part[j] = x := ⟨_, rfl⟩
                  rw [hx] at b0 hp0 hp1 hput
                  have y0 := cell_at (j := x.toNat) hM.out.1.d (aB_at hp0 (by rw [hM.out.2.1.len]; exact hp1))
                  have y1 := free_at hM.out.1.d x.toNat
                  have hE : Aside0 (RS w2 (wr.setCell ⟨bd, x.toNat, none⟩ (.bool true)) bd Ao co L (dn'.set x.toNat true) ∧ DL G.length (L.flatten ++ part.take (j + 1)) (dn'.set x.toNat true) ∧ Kd.R (Kd.int .i64) 3 (wr.setCell ⟨bd, x.toNat, none⟩ (.bool true)) 0 (fun k => B4 ≤ k) (.slice (some pd) part.length c5) part) :=
                    ⟨hM.out.1.put _ _, hput, Kd.R_far hM.out.2.2 (p := ⟨bd, x.toNat, none⟩) (fun k hk => by have := hOw.out.1; show k ≠ bd; omega) _⟩
                  have hk9 := Aside0.mk (And.intro (show j + 1 + gj1 = part.length by omega) (show gj1 < gj1 + 1 by omega))
                  clear hput hM hx hj hjt
                  go_wp2_with fail
                  go_roundg gj1
                  case rel => exact ⟨j + 1, _, hk9.out.1, by go_num, hE⟩
                  case measure => exact hk9.out.2
                · have hni : ¬ (j : Int) < (part.length : Int) := by omega
                  have hjr : j = part.length := by omega
                  have hDf : (L ++ [part]).flatten = L.flatten ++ part := by simp
                  have hRn := hD.out.2.snoc hNx.out
                  have hle := hRn.le
                  rw [hDf, List.length_append, hls'.out, cleanG_len] at hle
                  have hw5 : wrap64 ((ls : Int) + (part.length : Int)) = ((ls + part.length : Nat) : Int) := by unfold wrap64; omega
                  have hpos : 0 < part.length := hRn.ne part (by simp)
                  have hN9 := Aside0.mk (show RL (cleanG G) (L ++ [part]) ∧ (L ++ [part]).flatten.length + (G.length - (ls + part.length)) = G.length ∧ (L ++ [part]).flatten.length = ls + part.length ∧ (G.length - (ls + part.length)) < go ∧ DL G.length (L ++ [part]).flatten dn' from ⟨hRn, by rw [hDf, List.length_append, hls'.out]; omega, by rw [hDf, List.length_append, hls'.out], by have := hz9.out; omega, by rw [hDf]; have := hM.out.2.1; rwa [hjr, List.take_length] at this⟩)
                  clear hjr hj hjt hDf hRn hle hpos
                  have hLl9 : L.length ≤ 65536 := by have := hz9.out; omega
                  go_wp2_with (at_builtin; refine Kd.N_append kG (w0 := wr) 0 (by rfl) (.tmp 52) (.tmp 54) 22 29 (.slice none 0 0) 24 (by rfl) Try.underlying22 info29 rfl (by decide) (by decide) (.slice Ao L.length co) L part [.slice A5 part.length c5] (fun k => w2.heap.size + 1 ≤ k) (fun k => B4 ≤ k) (by rfl) (by rfl) (Kd.FK_of_M (Kd.M_row hM.out.2.2)) (fun k hk => ⟨by have := hOw.out.1; have := hOw.out.2.1; omega, fun e => by have := (hOw.out.2.2 k e.symm).2; omega⟩) (fun k hk => by have h9 := blk_lt' hM.out.1.d; have := hM.out.1.lo; omega) hM.out.1.n ((Kp.refl (fun _ => False) wr).belowB (fun _ h => h.elim) (Nat.zero_le _)) (Nat.zero_le _) (by omega) ?_; intro v1 wa hRA hBA hgA hatA; obtain ⟨A7, c7, ev⟩ := Kd.N_slice hRA; subst ev; have hkp : Kp (fun k => w2.heap.size + 1 ≤ k) wr wa := ((Kp.refl (fun k => w2.heap.size + 1 ≤ k) wr).grown hgA (fun k hk => .inl (by have := (hOw.out.2.2 k hk).1; have := hOw.out.2.1; omega))); have hE : Aside0 (RS w2 wa bd A7 c7 (L ++ [part]) dn') := ⟨hM.out.1.b.trans (hkp.belowB (fun k hk => by omega) hM.out.1.b.size), hkp.blk hM.out.1.d (by have := hOw.out.2.1; omega), hRA, hM.out.1.lo, fun h => by simp at h⟩; clear hRA hBA hgA hatA hkp hM)
                  go_roundg (G.length - (ls + part.length))
                  case rel => exact ⟨L ++ [part], A7, c7, dn', hN9.out.2.1, by simp, by rw [hN9.out.2.2.1]; go_num, ⟨hE.out, hN9.out.2.2.2.2, hN9.out.1⟩⟩
                  case measure => exact hN9.out.2.2.2.1
        · exfalso
          have hin : i = G.length := by omega
          obtain ⟨x, x1, x2⟩ := hD.out.2.more (by rw [hls'.out, cleanG_len]; exact hlt')
          obtain ⟨y, y1, y2, y3⟩ := ex_ready (clean_ok hX.out.2.n) _ x rfl x1 x2
          have hy0 := y1.1
          have hy1 := y1.2
          rw [cleanG_len] at hy1
          have ey : y = ((y.toNat : Nat) : Int) := (Int.toNat_of_nonneg hy0).symm
          rw [ey] at y2 y3
          exact hNo.out y.toNat (by omega) y2 y3
    · have hlG : L.flatten.length = G.length := by rw [hls'.out]; omega
      have hni : ¬ (ls : Int) < (G.length : Int) := by omega
      have hF : RCM G w (.returned (.slice Ao L.length co)) wr := by
        obtain ⟨_, hle, hC⟩ := Kd.N_reads' hJ.out.1.n
        exact ⟨Ao, co, L, rfl, Kd.N_mono hJ.out.1.n (fun k hk => by have := hB2.out.size; omega), hle, hJ.out.2.2.isC (by rw [hlG, cleanG_len]), hB2.out.trans (hJ.out.1.b.mono hB2.out.size)⟩
      have hF' := Aside0.mk hF
      clear hF hJ hX hlG hlt hls hB2 hW
      go_wp2
      go_ret
      exact hF'.out
end Go.Proofs.Ytmlikgmcekofbaa
end

section
/- The reference's Index. -/
set_option linter.unusedVariables false
set_option linter.unusedSimpArgs false
set_option linter.unusedSectionVars false
namespace Go.Proofs.Ytmlikgmcekofbaa
open Go.RowKit Go.Proofs.YtmlikgmcekofbaaW.PrintWords Go.Proofs.Ytmlikgmcekofbaa.PDigraphTells Mem

theorem fk_atN {W : World} {ok : Nat → Prop} {A : Option Addr} {n c : Nat} {cs : List (List Int)} (h : Kd.N kG 29 W 0 ok (.slice A n c) cs) (i : Int) (h0 : 0 ≤ i) (h1 : i < n) :
    ∃ ad A0 c0, A = some ad ∧ W.cell? (ad.add i.toNat) = some (.slice A0 (rd_L1 cs i).length c0) ∧ Kd.FK kG W ok (rd_L1 cs i) [.slice A0 (rd_L1 cs i).length c0] := by
  obtain ⟨ad, cl, e, hl, hK, hc⟩ := (Kd.F_rows (Kd.N_F h)).get_ ([] : List Int) i h0 h1
  have hc : ∀ j u, cl[j]? = some u → W.cell? (ad.add (i.toNat * 1 + j)) = some u := hc
  obtain ⟨A0, c0, hcl, l0, g0⟩ := Kd.FK_now hK
  subst hcl
  exact ⟨ad, A0, c0, e, by have hq := hc 0 _ rfl; rwa [Nat.mul_one, Nat.add_zero] at hq, hK⟩
theorem fk_C {W : World} {ok : Nat → Prop} {A : Option Addr} {n c : Nat} {row : List Int} (h : Kd.FK kG W ok row [.slice A n c]) : Kd.C (Kd.int .i64) W A row.length row := by
  obtain ⟨A0, c0, hcl, l0, g0⟩ := Kd.FK_now h
  injection hcl with hcl _
  injection hcl with e1 e2 e3
  subst e1
  exact g0
set_option maxRecDepth 100000 in
set_option maxHeartbeats 8000000 in
theorem rindex_any (A : Option Addr) (c : Nat) (G : List (List Int)) (w : World) (hC : Kd.C kG w A G.length G) (hc : G.length ≤ c) (hG : Sm G) :
    Calls Try.prog 13 #[.agg #[.slice A G.length c]] w (IDX G w) := by
  have hX := Aside0.mk (And.intro hc hG)
  have hfl := field_succs
  have H0 := Aside0.mk (Gw.start (c := c) hC)
  have hn6 := hG.n
  have hng : ¬ (G.length : Int) > 65536 := by omega
  have hm := fun w => make_runI G.length (by omega) w
  clear hG hC hc
  have c0 := H0.out.cell
  go_enter Try.func13, Try.ntmps13
  go_upto_region 3 with fail
  obtain ⟨gb, hgb⟩ : ∃ gb, gb = w.heap.size := ⟨_, rfl⟩
  obtain ⟨w1, hw1⟩ : ∃ w1, w1 = w.alloc (.cells #[.slice A G.length c] 24 (0, 0)) := ⟨_, rfl⟩
  rw [← hgb, ← hw1] at H0
  rw [← hw1] at c0
  rw [← hgb] at c0
  rw [show Value.pointer (some (⟨w.heap.size, 0, none⟩ : Addr)) = Value.pointer (some ⟨gb, 0, none⟩) by rw [hgb], ← hw1]
  clear hgb hw1
  go_upto_region 4 with fail
  obtain ⟨bo, hbo⟩ : ∃ bo, w1.heap.size = bo := ⟨_, rfl⟩
  obtain ⟨w2, hw2⟩ : ∃ w2, w1.alloc (.cells (aI (List.replicate G.length 0)) 3) = w2 := ⟨_, rfl⟩
  have z2 : w2.heap[bo]? = some (.cells (aI (List.replicate G.length 0)) 3 (0, 0)) := by rw [← hw2, ← hbo]; exact heap_alloc_new w1 _
  have b2 : Below w1.heap.size w1 w2 := by rw [← hw2]; exact below_alloc (Below.refl _ w1) _
  rw [hbo, hw2]
  have H2 := Aside0.mk (And.intro (H0.out.step b2) z2)
  have hwb : w.heap.size ≤ bo := by rw [← hbo]; exact H0.out.b.size
  clear hw2 hbo z2 b2 c0 H0 hm
  have c0 := H2.out.1.cell
  go_wp2_with fail
  refine (rcomps_any A c G _ H2.out.1.C hX.out.1 hX.out.2).mono ?_
  rintro e w3 ⟨A3, c3, L, rfl, hN, _, hIs, B3⟩
  have hRL : RL (cleanG G) L := ⟨hIs.st⟩
  have hLn : L.length ≤ G.length := by
    have h1 := hRL.len_le
    have h2 := hRL.le
    rw [cleanG_len] at h2
    omega
  have hLm : L.length ≤ 65536 := by omega
  have hI0 : Aside0 (w3.heap[bo]? = some (.cells (aI (List.replicate G.length 0)) 3 (0, 0)) ∧ Kp (fun k => k = bo) w3 w3 ∧ IX L G.length 0 (fun k _ => (k : Int)) 0 0 (List.replicate G.length 0)) :=
    ⟨(B3.block _ (blk_lt' H2.out.2)).trans H2.out.2, Kp.refl _ _, IX.start _ _ _ _ _⟩
  have hK := Aside0.mk (And.intro hN (And.intro hIs (And.intro (H2.out.1.step B3).b (And.intro hLn (show w.heap.size ≤ bo ∧ bo < w2.heap.size from ⟨hwb, blk_lt' H2.out.2⟩)))))
  clear hN hIs B3 hRL hLn H2 c0 hwb
  go_wp2_with fail
  go_loopg [19] L.length (fun z v wi => ∃ (i : Nat) (l : List Int), i + z = L.length ∧ v = .int .i64 (i : Int) ∧ Aside0 (wi.heap[bo]? = some (.cells (aI l) 3 (0, 0)) ∧ Kp (fun k => k = bo) w3 wi ∧ IX L G.length 0 (fun k _ => (k : Int)) i 0 l))
  case atStart => exact ⟨0, _, by omega, rfl, hI0⟩
  case round =>
    clear hI0
    obtain ⟨i, l, hi, rfl, hJ⟩ := hrel
    by_cases hlt : i < L.length
    · have hlti : (i : Int) < (L.length : Int) := by omega
      obtain ⟨gk1, rfl⟩ : ∃ z, gk = z + 1 := ⟨gk - 1, by omega⟩
      have hw2 : wrap64 ((i : Int) + 1) = ((i + 1 : Nat) : Int) := by unfold wrap64; omega
      have hb9 := Aside0.mk (And.intro (show i + 1 + gk1 = L.length by omega) (And.intro (show gk1 < gk1 + 1 by omega) hw2))
      have hNr := Kd.N_step hK.out.1 (w1 := wr) (fun k hk hlt => hJ.out.2.1.block hlt (by have := hK.out.2.2.2.2.2; omega))
      obtain ⟨ad2, A6, c6, eA, r0, hFK⟩ := fk_atN hNr (i : Int) (Int.natCast_nonneg _) hlti
      subst eA
      rw [rd1_get L i hlt, Int.toNat_natCast] at r0
      rw [rd1_get L i hlt] at hFK
      have hrn := hK.out.2.1.row_len hlt
      rw [cleanG_len] at hrn
      obtain ⟨row, hrow⟩ : ∃ row, L[i] = row := ⟨_, rfl⟩
      rw [hrow] at r0 hFK hrn
      have hrow' : Aside0 (∃ h : i < L.length, L[i] = row) := ⟨hlt, hrow⟩
      have hrn2 : row.length ≤ 65536 := by omega
      have hJ0 : Aside0 (wr.heap[bo]? = some (.cells (aI l) 3 (0, 0)) ∧ Kp (fun k => k = bo) w3 wr ∧ IX L G.length 0 (fun k _ => (k : Int)) i 0 l ∧ Kd.FK kG wr (fun k => w2.heap.size ≤ k) row [.slice A6 row.length c6]) := ⟨hJ.out.1, hJ.out.2.1, hJ.out.2.2, hFK⟩
      clear hrow hJ hw2 hi hlt hNr hFK hrn
      obtain ⟨w4, rfl⟩ : ∃ w4 : World, w4 = wr := ⟨_, rfl⟩
      go_wp2_with fail
      clear r0
      go_loopg [26] row.length (fun z v wi => ∃ (j : Nat) (l : List Int), j + z = row.length ∧ v = .int .i64 (j : Int) ∧ Aside0 (wi.heap[bo]? = some (.cells (aI l) 3 (0, 0)) ∧ Kp (fun k => k = bo) w3 wi ∧ IX L G.length 0 (fun k _ => (k : Int)) i j l ∧ Kd.FK kG wi (fun k => w2.heap.size ≤ k) row [.slice A6 row.length c6]))
      case atStart => exact ⟨0, _, by omega, rfl, hJ0⟩
      case round =>
        clear hJ0
        obtain ⟨j, l2, hj, rfl, hK2⟩ := hrel
        by_cases hjt : j < row.length
        · have hjti : (j : Int) < (row.length : Int) := by omega
          obtain ⟨gj1, rfl⟩ : ∃ z, gk = z + 1 := ⟨gk - 1, by omega⟩
          have hw2 : wrap64 ((j : Int) + 1) = ((j + 1 : Nat) : Int) := by unfold wrap64; omega
          obtain ⟨bd, eB, b0⟩ := Kd.at_int (fk_C hK2.out.2.2.2) (j : Int) (Int.natCast_nonneg _) hjti
          subst eB
          rw [rd_get row j hjt, Int.toNat_natCast] at b0
          obtain ⟨x, hx⟩ : ∃ x, row[j] = x := ⟨_, rfl⟩
          rw [hx] at b0
          obtain ⟨hil, hrow⟩ := hrow'.out
          have hxn : isNode (cleanG G) x := hK.out.2.1.node hil (by rw [hrow, ← hx]; exact List.getElem_mem hjt)
          have hx0 := hxn.1
          have hx1 := hxn.2
          rw [cleanG_len] at hx1
          have hll := hK2.out.2.2.1.len
          have y0 := cell_at (j := x.toNat) hK2.out.1 (aI_at hx0 (by rw [hll]; exact hx1))
          have y1 := free_at hK2.out.1 x.toNat
          have hput : IX L G.length 0 (fun k _ => (k : Int)) i (j + 1) (l2.set x.toNat (i : Int)) := by
            subst hrow
            have h9 := hK2.out.2.2.1
            rw [← cleanG_len G] at h9 ⊢
            have := IX.put hK.out.2.1 h9 hil hjt
            rw [hx] at this
            exact this
          have hkp := hK2.out.2.1.setCell (p := ⟨bo, x.toNat, none⟩) (.inl rfl) (.int .i64 (i : Int))
          have hE : Aside0 ((wr.setCell ⟨bo, x.toNat, none⟩ (.int .i64 (i : Int))).heap[bo]? = some (.cells (aI (l2.set x.toNat (i : Int))) 3 (0, 0)) ∧ Kp (fun k => k = bo) w3 (wr.setCell ⟨bo, x.toNat, none⟩ (.int .i64 (i : Int))) ∧ IX L G.length 0 (fun k _ => (k : Int)) i (j + 1) (l2.set x.toNat (i : Int)) ∧ Kd.FK kG (wr.setCell ⟨bo, x.toNat, none⟩ (.int .i64 (i : Int))) (fun k => w2.heap.size ≤ k) row [.slice (some bd) row.length c6]) :=
            ⟨by rw [set_at hK2.out.1, aI_set], hkp, hput, Kd.FK_step hK2.out.2.2.2 (fun k hk _ => Below.heap_setCell wr ⟨bo, x.toNat, none⟩ _ k (by have := hK.out.2.2.2.2.2; show k ≠ bo; omega))⟩
          have hk9 := Aside0.mk (And.intro (show j + 1 + gj1 = row.length by omega) (show gj1 < gj1 + 1 by omega))
          clear hkp hxn hll hput hK2 hil hrow hx hj hjt
          go_wp2_with fail
          go_roundg gj1
          case rel => exact ⟨j + 1, _, hk9.out.1, by go_num, hE⟩
          case measure => exact hk9.out.2
        · have hjr : j = row.length := by omega
          have hni : ¬ (j : Int) < (row.length : Int) := by omega
          have hE : Aside0 (wr.heap[bo]? = some (.cells (aI l2) 3 (0, 0)) ∧ Kp (fun k => k = bo) w3 wr ∧ IX L G.length 0 (fun k _ => (k : Int)) (i + 1) 0 l2) := by
            obtain ⟨hil, hrow⟩ := hrow'.out
            exact ⟨hK2.out.1, hK2.out.2.1, hK2.out.2.2.1.row hil (by rw [hrow]; omega)⟩
          have hm9 := hb9.out.2.1
          have hw2 := hb9.out.2.2
          clear hK2 hj hjt hjr
          go_wp2_with fail
          go_roundg gk1
          case rel => exact ⟨i + 1, l2, hb9.out.1, by go_num, hE⟩
          case measure => exact hm9
    · have hin : i = L.length := by omega
      have hni : ¬ (i : Int) < (L.length : Int) := by omega
      have hF : IDX G w (.returned (.slice (some ⟨bo, 0, none⟩) G.length G.length)) wr := by
        have hI := hJ.out.2.2
        rw [hin] at hI
        refine ⟨_, _, L, l, by rw [hI.len], ?_, by rw [hI.len]; exact Nat.le_refl _, hK.out.2.1, hI, hK.out.2.2.2.1, hK.out.2.2.1.trans (hJ.out.2.1.belowB (fun k hk => by have := hK.out.2.2.2.2.1; omega) hK.out.2.2.1.size)⟩
        rw [hI.len]
        exact reads_raw hJ.out.1 hI.len (by omega)
      have hF' := Aside0.mk hF
      clear hF hJ hK hX hlt hi hin
      go_wp2
      go_ret
      exact hF'.out
end Go.Proofs.Ytmlikgmcekofbaa
end

section
/- SccComponents: the law's walk. -/
set_option linter.unusedVariables false
set_option linter.unusedSimpArgs false
set_option linter.unusedSectionVars false
namespace Go.Proofs.Ytmlikgmcekofbaa
open Go.RowKit Go.Proofs.YtmlikgmcekofbaaW.PrintWords Go.Proofs.Ytmlikgmcekofbaa.PDigraphTells Mem

/-- The law's world once the two lists are made. -/
structure MW (w wi : World) (gb : Nat) (A : Option Addr) (c : Nat) (G : List (List Int)) (A2 A3 : Option Addr) (L : List (List Int)) : Prop where
  g : Gw w wi gb A c G
  p : Kd.C kG wi A2 L.length L
  q : Kd.C kG wi A3 L.length L
theorem MW.step {w wi wj : World} {gb : Nat} {A : Option Addr} {c : Nat} {G : List (List Int)} {A2 A3 : Option Addr} {L : List (List Int)} (h : MW w wi gb A c G A2 A3 L) (hb : Below wi.heap.size wi wj) : MW w wj gb A c G A2 A3 L :=
  ⟨h.g.step hb, Kd.C_below h.p hb, Kd.C_below h.q hb⟩
set_option maxRecDepth 100000 in
set_option maxHeartbeats 8000000 in
theorem comps_walk (cs : Array Value) (G : List (List Int)) (w : World) (hK : kGr.K w G cs.toList) (hg : big G) :
    Calls Try.prog 3 #[.agg cs] w fun e w' => e = .returned (.bool true) ∧ Below w.heap.size w w' := by
  obtain ⟨A, c, rfl, hc, hC⟩ := graph_arg hK
  have hX := Aside0.mk (And.intro hc hg.short)
  have hfl := field_succs
  have H0 := Aside0.mk (Gw.start (c := c) hC)
  clear hK hg hC hc
  have c0 := H0.out.cell
  go_enter Try.func3, Try.ntmps3
  go_wp2_with fail
  obtain ⟨gb, hgb⟩ : ∃ gb, gb = w.heap.size := ⟨_, rfl⟩
  obtain ⟨w1, hw1⟩ : ∃ w1, w1 = w.alloc (.cells #[.slice A G.length c] 24 (0, 0)) := ⟨_, rfl⟩
  rw [← hgb, ← hw1] at H0
  rw [show Value.pointer (some (⟨w.heap.size, 0, none⟩ : Addr)) = Value.pointer (some ⟨gb, 0, none⟩) by rw [hgb], ← hw1]
  clear hgb hw1 c0
  refine (large_any A c G _ H0.out.C hX.out.1 hX.out.2).mono ?_
  rintro e' w2 ⟨bo, rfl, hbo, B2⟩
  have H2 := Aside0.mk (H0.out.step B2)
  have c0 := H2.out.cell
  clear B2 H0
  cases bo
  rotate_left
  · clear hbo
    go_wp2_with fail
    refine (awake_any _).mono ?_
    rintro e' w9 ⟨rfl, B9⟩
    have hF := Aside0.mk (H2.out.step B9).b
    clear B9 H2 c0
    go_wp2
    go_ret
    exact ⟨rfl, hF.out⟩
  have hSml := hbo rfl
  have hSm : Aside0 (Sm G) := ⟨hSml.sm hX.out.2⟩
  have hn50 := hSml.1
  clear hbo hSml
  go_upto_region 3 with fail
  refine Held.begin_ (S := fun W1 => W1.cell? ⟨gb, 0, none⟩ = some (.slice A G.length c)) 4 (by kernel_rfl) (by kernel_rfl) ?_ (fun hHeld => ?_)
  · exact c0
  simp only [List.length_cons, List.length_nil, Nat.reduceAdd, List.replicate, Array.replicate]
  clear c0
  refine Held.take_ (v := ?vv268000) 0 rfl rfl (by kernel_rfl) (by kernel_rfl) (fun _ _ _ h => h) (by assumption) (Or.inl ⟨by rfl, ?hy268000⟩) ?_
  case hy268000 => intro w hSw; (try dsimp only at hSw); (go_simp <;> with_reducible rfl)
  try simp only [Act.put, List.setIfInBounds_toArray, List.set_cons_zero, List.set_cons_succ]
  refine Held.take_ (v := ?vv268002) 2 rfl rfl (by kernel_rfl) (by kernel_rfl) (fun _ _ _ h => h) (by assumption) (Or.inl ⟨by rfl, ?hy268002⟩) ?_
  case hy268002 => intro w hSw; (try dsimp only at hSw); (go_simp <;> with_reducible rfl)
  try simp only [Act.put, List.setIfInBounds_toArray, List.set_cons_zero, List.set_cons_succ]
  refine Held.step_ 1 rfl rfl (by kernel_rfl) (fun K hK => ?_)
  go_simp
  go_at_call 9
  refine (comps_any A c G _ (H2.out.drew).C hX.out.1 hSm.out).mono ?_
  rintro e' w3 ⟨A2, c2, La, rfl, hLL, hI, hLn, Bx⟩
  have E3 := Aside0.mk (And.intro (H2.out.drew.step Bx) (And.intro hLL.C (And.intro hI hLn)))
  have f3 := E3.out.1.cell
  clear Bx hLL hI hLn H2
  go_wp2_with fail
  refine hK.out _ _ f3 (fun hHeld2 => ?_)
  clear hK K
  try simp only [Act.put, List.setIfInBounds_toArray, List.set_cons_zero, List.set_cons_succ]
  refine Held.step_ 3 rfl rfl (by kernel_rfl) (fun K hK => ?_)
  go_simp
  go_at_call 10
  refine (rcomps_any A c G _ E3.out.1.C hX.out.1 hSm.out).mono ?_
  rintro e' w4 ⟨A3, c3, L, rfl, hN, _, hI, Bx⟩
  obtain rfl := hI.uniq E3.out.2.2.1
  have E4 := Aside0.mk (And.intro (MW.mk (E3.out.1.step Bx) (Kd.C_below E3.out.2.1 Bx) (Kd.N_reads' hN).2.2) (And.intro hI E3.out.2.2.2))
  have f4 := E4.out.1.g.cell
  clear Bx hN hI E3
  go_wp2_with fail
  refine hK.out _ _ f4 (fun hHeld3 => ?_)
  clear hK K
  try simp only [Act.put, List.setIfInBounds_toArray, List.set_cons_zero, List.set_cons_succ]
  refine Held.rest_ (by kernel_rfl) ?_
  simp only [List.drop_succ_cons, List.drop_zero]
  clear hHeld hHeld2 hHeld3 f3
  have hLl : L.length ≤ 50 := Nat.le_trans E4.out.2.2 hn50
  have hnn : ((L.length : Int) != (L.length : Int)) = false := by simp
  have hM0 : Aside0 (MW w w4 gb A c G A2 A3 L) := ⟨E4.out.1⟩
  have hI := Aside0.mk E4.out.2.1
  clear E4 f4
  go_wp2_with fail
  clear hnn
  go_loopg [20] L.length (fun z v20 wi => ∃ i : Nat, i + z = L.length ∧ v20 = .int .i64 (i : Int) ∧ Aside0 (MW w wi gb A c G A2 A3 L))
  case atStart => exact ⟨0, by omega, rfl, hM0⟩
  case round =>
    clear hM0
    obtain ⟨i, hi, rfl, hM⟩ := hrel
    by_cases hlt : i < L.length
    · have hlti : (i : Int) < (L.length : Int) := by omega
      obtain ⟨gk1, rfl⟩ : ∃ z, gk = z + 1 := ⟨gk - 1, by omega⟩
      have hw2 : wrap64 ((i : Int) + 1) = ((i + 1 : Nat) : Int) := by unfold wrap64; omega
      have hb9 := Aside0.mk (And.intro (show i + 1 + gk1 = L.length by omega) (show gk1 < gk1 + 1 by omega))
      obtain ⟨ad, A6, c6, eA, r0, rl, rC⟩ := at_L1 hM.out.p (i : Int) (Int.natCast_nonneg _) hlti
      subst eA
      obtain ⟨ad2, A7, c7, eA, s0, sl, sC⟩ := at_L1 hM.out.q (i : Int) (Int.natCast_nonneg _) hlti
      subst eA
      have hrn := hI.out.row_len hlt
      rw [cleanG_len] at hrn
      rw [rd1_get L i hlt, Int.toNat_natCast] at r0 s0
      rw [rd1_get L i hlt] at rl rC sl sC
      obtain ⟨row, hrow⟩ : ∃ row, L[i] = row := ⟨_, rfl⟩
      rw [hrow] at r0 rl rC s0 sl sC hrn
      have hR := Aside0.mk (And.intro rC (And.intro rl (And.intro sC (And.intro sl (show row.length < 1000000000 by omega)))))
      clear rl rC sl sC hrow hrn hi hlt
      go_wp2_with fail
      refine Held.begin_ (S := fun W1 => W1.cell? (ad.add i) = some (.slice A6 row.length c6) ∧ W1.cell? (ad2.add i) = some (.slice A7 row.length c7)) 9 (by kernel_rfl) (by kernel_rfl) ?_ (fun hHeld => ?_)
      · exact ⟨r0, s0⟩
      simp only [List.length_cons, List.length_nil, Nat.reduceAdd, List.replicate, Array.replicate]
      refine Held.take_ (v := ?vv587200) 0 rfl rfl (by kernel_rfl) (by kernel_rfl) (fun _ _ _ h => h) (by assumption) (Or.inl ⟨by rfl, ?hy587200⟩) ?_
      case hy587200 => intro w hSw; (try dsimp only at hSw); (go_simp <;> with_reducible rfl)
      try simp only [Act.put, List.setIfInBounds_toArray, List.set_cons_zero, List.set_cons_succ]
      refine Held.take_ (v := ?vv587201) 1 rfl rfl (by kernel_rfl) (by kernel_rfl) (fun _ _ _ h => h) (by assumption) (Or.inl ⟨by rfl, ?hy587201⟩) ?_
      case hy587201 => intro w hSw; (try dsimp only at hSw); (go_simp <;> with_reducible rfl)
      try simp only [Act.put, List.setIfInBounds_toArray, List.set_cons_zero, List.set_cons_succ]
      refine Held.take_ (v := ?vv587202) 2 rfl rfl (by kernel_rfl) (by kernel_rfl) (fun _ _ _ h => h) (by assumption) (Or.inl ⟨by rfl, ?hy587202⟩) ?_
      case hy587202 => intro w hSw; (try dsimp only at hSw); (go_simp <;> with_reducible rfl)
      try simp only [Act.put, List.setIfInBounds_toArray, List.set_cons_zero, List.set_cons_succ]
      refine Held.take_ (v := ?vv587203) 3 rfl rfl (by kernel_rfl) (by kernel_rfl) (fun _ _ _ h => h) (by assumption) (Or.inl ⟨by rfl, ?hy587203⟩) ?_
      case hy587203 => intro w hSw; (try dsimp only at hSw); (go_simp <;> with_reducible rfl)
      try simp only [Act.put, List.setIfInBounds_toArray, List.set_cons_zero, List.set_cons_succ]
      refine Held.take_ (v := ?vv587204) 4 rfl rfl (by kernel_rfl) (by kernel_rfl) (fun _ _ _ h => h) (by assumption) (Or.inl ⟨by rfl, ?hy587204⟩) ?_
      case hy587204 => intro w hSw; (try dsimp only at hSw); (go_simp <;> with_reducible rfl)
      try simp only [Act.put, List.setIfInBounds_toArray, List.set_cons_zero, List.set_cons_succ]
      refine Held.take_ (v := ?vv587205) 5 rfl rfl (by kernel_rfl) (by kernel_rfl) (fun _ _ _ h => h) (by assumption) (Or.inl ⟨by rfl, ?hy587205⟩) ?_
      case hy587205 => intro w hSw; (try dsimp only at hSw); (go_simp <;> with_reducible rfl)
      try simp only [Act.put, List.setIfInBounds_toArray, List.set_cons_zero, List.set_cons_succ]
      refine Held.take_ (v := ?vv587206) 6 rfl rfl (by kernel_rfl) (by kernel_rfl) (fun _ _ _ h => h) (by assumption) (Or.inl ⟨by rfl, ?hy587206⟩) ?_
      case hy587206 => intro w hSw; (try dsimp only at hSw); (go_simp <;> with_reducible rfl)
      try simp only [Act.put, List.setIfInBounds_toArray, List.set_cons_zero, List.set_cons_succ]
      refine Held.take_ (v := ?vv587207) 7 rfl rfl (by kernel_rfl) (by kernel_rfl) (fun _ _ _ h => h) (by assumption) (Or.inl ⟨by rfl, ?hy587207⟩) ?_
      case hy587207 => intro w hSw; (try dsimp only at hSw); (go_simp <;> with_reducible rfl)
      try simp only [Act.put, List.setIfInBounds_toArray, List.set_cons_zero, List.set_cons_succ]
      refine Held.step_ 8 rfl rfl (by kernel_rfl) (fun K hK => ?_)
      go_simp
      go_at_call 11
      refine (equal_any A6 c6 row A7 c7 row _ (Kd.C_below hR.out.1 (below_drew (Below.refl _ _))) hR.out.2.1 (Kd.C_below hR.out.2.2.1 (below_drew (Below.refl _ _))) hR.out.2.2.2.1 hR.out.2.2.2.2).mono ?_
      rintro e' w6 ⟨rfl, nn, rfl⟩
      rw [decide_eq_true (rfl : row = row)]
      have t0 : (wr.drew.drewN nn).cell? (ad.add i) = some (.slice A6 row.length c6) := r0
      have t1 : (wr.drew.drewN nn).cell? (ad2.add i) = some (.slice A7 row.length c7) := s0
      have hM2 : Aside0 (∀ q, MW w (wr.drewN q) gb A c G (some ad) (some ad2) L) := ⟨fun q => hM.out.step (pw_below_drewN (Below.refl _ _) _)⟩
      clear hM hR r0 s0
      go_wp2_with fail
      refine hK.out _ _ ⟨t0, t1⟩ (fun hHeld2 => ?_)
      clear hK K
      try simp only [Act.put, List.setIfInBounds_toArray, List.set_cons_zero, List.set_cons_succ]
      refine Held.rest_ (by kernel_rfl) ?_
      simp only [List.drop_succ_cons, List.drop_zero]
      clear hHeld hHeld2 t0 t1
      go_wp2_with fail
      go_roundg gk1
      case rel => exact ⟨i + 1, hb9.out.1, by go_num, ⟨hM2.out _⟩⟩
      case measure => exact hb9.out.2
    · have hni : ¬ (i : Int) < (L.length : Int) := by omega
      have hG0 := Aside0.mk hM.out.g
      have c0 := hG0.out.cell
      clear hM hi hlt
      go_wp2_with fail
      refine Held.begin_ (S := fun W1 => W1.cell? ⟨gb, 0, none⟩ = some (.slice A G.length c)) 8 (by kernel_rfl) (by kernel_rfl) ?_ (fun hHeld => ?_)
      · exact c0
      simp only [List.length_cons, List.length_nil, Nat.reduceAdd, List.replicate, Array.replicate]
      clear c0
      refine Held.step_ 0 rfl rfl (by kernel_rfl) (fun K hK => ?_)
      go_simp
      go_at_call 8
      refine (awake_any _).mono ?_
      rintro e' wa ⟨rfl, Bx⟩
      have E3 := Aside0.mk (hG0.out.drew.step Bx)
      have f3 := E3.out.cell
      clear Bx hG0
      go_wp2_with fail
      refine hK.out _ _ f3 (fun hHeld2 => ?_)
      clear hK K
      try simp only [Act.put, List.setIfInBounds_toArray, List.set_cons_zero, List.set_cons_succ]
      refine Held.take_ (v := ?vv805601) 1 rfl rfl (by kernel_rfl) (by kernel_rfl) (fun _ _ _ h => h) (by assumption) (Or.inl ⟨by rfl, ?hy805601⟩) ?_
      case hy805601 => intro w hSw; (try dsimp only at hSw); (go_simp <;> with_reducible rfl)
      try simp only [Act.put, List.setIfInBounds_toArray, List.set_cons_zero, List.set_cons_succ]
      refine Held.take_ (v := ?vv805602) 2 rfl rfl (by kernel_rfl) (by kernel_rfl) (fun _ _ _ h => h) (by assumption) (Or.inl ⟨by rfl, ?hy805602⟩) ?_
      case hy805602 => intro w hSw; (try dsimp only at hSw); (go_simp <;> with_reducible rfl)
      try simp only [Act.put, List.setIfInBounds_toArray, List.set_cons_zero, List.set_cons_succ]
      refine Held.take_ (v := ?vv805604) 4 rfl rfl (by kernel_rfl) (by kernel_rfl) (fun _ _ _ h => h) (by assumption) (Or.inl ⟨by rfl, ?hy805604⟩) ?_
      case hy805604 => intro w hSw; (try dsimp only at hSw); (go_simp <;> with_reducible rfl)
      try simp only [Act.put, List.setIfInBounds_toArray, List.set_cons_zero, List.set_cons_succ]
      refine Held.step_ 3 rfl rfl (by kernel_rfl) (fun K hK => ?_)
      go_simp
      go_at_call 12
      refine (index_any A c G _ E3.out.C hX.out.1 hSm.out).mono ?_
      rintro e' wb ⟨A4, c4, Lb, ix, rfl, hoC, hoc, hIb, hIO, _, Bx⟩
      have E4 := Aside0.mk (And.intro (E3.out.step Bx) (And.intro hoC (And.intro hoc (And.intro hIb hIO))))
      have f4 := E4.out.1.cell
      clear Bx hoC hoc hIb hIO E3
      go_wp2_with fail
      refine hK.out _ _ f4 (fun hHeld3 => ?_)
      clear hK K
      try simp only [Act.put, List.setIfInBounds_toArray, List.set_cons_zero, List.set_cons_succ]
      refine Held.step_ 5 rfl rfl (by kernel_rfl) (fun K hK => ?_)
      go_simp
      go_at_call 13
      refine (rindex_any A c G _ E4.out.1.C hX.out.1 hSm.out).mono ?_
      rintro e' wc ⟨A5, c5, Lc, l5, rfl, hlC, hlc, hIc, hIO, _, Bx⟩
      have heq : l5 = ix := by
        obtain rfl := hIc.uniq E4.out.2.2.2.1
        have h1 := hIO
        have h2 := E4.out.2.2.2.2
        rw [← cleanG_len G] at h1 h2
        exact IX.uniq hIc h1 h2
      subst heq
      have E5 := Aside0.mk (And.intro (E4.out.1.step Bx) (And.intro (Kd.C_below E4.out.2.1 Bx) (And.intro E4.out.2.2.1 (And.intro hlC (And.intro hlc (show l5.length < 1000000000 by have := hIO.len; have := hSm.out.n; omega))))))
      have f5 := E5.out.1.cell
      clear Bx hlC hlc hIO hIc E4
      go_wp2_with fail
      refine hK.out _ _ f5 (fun hHeld4 => ?_)
      clear hK K
      try simp only [Act.put, List.setIfInBounds_toArray, List.set_cons_zero, List.set_cons_succ]
      refine Held.step_ 6 rfl rfl (by kernel_rfl) (fun K hK => ?_)
      go_simp
      go_at_call 11
      refine (equal_any A4 c4 l5 A5 c5 l5 _ E5.out.2.1 E5.out.2.2.1 E5.out.2.2.2.1 E5.out.2.2.2.2.1 E5.out.2.2.2.2.2).mono ?_
      rintro e' w6 ⟨rfl, nn, rfl⟩
      rw [decide_eq_true (rfl : l5 = l5)]
      have f6 : (wc.drewN nn).cell? ⟨gb, 0, none⟩ = some (.slice A G.length c) := f5
      have hF : Aside0 (Below w.heap.size w (wc.drewN nn)) := ⟨pw_below_drewN E5.out.1.b _⟩
      clear E5
      go_wp2_with fail
      refine hK.out _ _ f6 (fun hHeld5 => ?_)
      clear hK K
      try simp only [Act.put, List.setIfInBounds_toArray, List.set_cons_zero, List.set_cons_succ]
      refine Held.take_ (v := ?vv1035907) 7 rfl rfl (by kernel_rfl) (by kernel_rfl) (fun _ _ _ h => h) (by assumption) (Or.inl ⟨by rfl, ?hy1035907⟩) ?_
      case hy1035907 => intro w hSw; (try dsimp only at hSw); (go_simp <;> with_reducible rfl)
      try simp only [Act.put, List.setIfInBounds_toArray, List.set_cons_zero, List.set_cons_succ]
      refine Held.rest_ (by kernel_rfl) ?_
      simp only [List.drop_succ_cons, List.drop_zero]
      clear hHeld hHeld2 hHeld3 hHeld4 hHeld5 f3 f4 f5 f6
      go_wp2
      go_ret
      exact ⟨rfl, hF.out⟩
end Go.Proofs.Ytmlikgmcekofbaa
end

