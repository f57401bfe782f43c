import Derived.Laws.Cover3
import Derived.Test.YtmlikgmcekofbaaMCom10
section
/- scc: sequence. -/
set_option linter.unusedVariables false
set_option linter.unusedSimpArgs false
set_option linter.unusedSectionVars false
namespace Go.Proofs.Ytmlikgmcekofbaa
open Go.RowKit Go.Proofs.YtmlikgmcekofbaaW.PrintWords Go.Proofs.Ytmlikgmcekofbaa.PDigraphTells Mem

/-- What sequence hands back. -/
def SEQ (G : List (List Int)) (of : List Int) (m : Nat) (w : World) (e : Ending) (w' : World) : Prop := ∃ v out E, e = .returned v ∧ Kd.R (Kd.int .i64) 3 w' 0 (fun k => w.heap.size ≤ k) v out ∧ EG G of E ∧ Sq E m out ∧ Below w.heap.size w w'
set_option maxRecDepth 100000 in
set_option maxHeartbeats 8000000 in
theorem sequence_any (A : Option Addr) (c : Nat) (G : List (List Int)) (Ac : Option Addr) (cc : Nat) (cs : List (List Int)) (Ao : Option Addr) (co : Nat) (of : List Int) (w : World) (hC : Kd.C kG w A G.length G) (hs : short G) (hG : okG G)
    (hO : Kd.C (Kd.int .i64) w Ao of.length of) (hI : CI G cs of) (hed : edges G ≤ 1000000) :
    Calls Try.prog 20 #[.agg #[.slice A G.length c], .slice Ac cs.length cc, .slice Ao of.length co] w (SEQ G of cs.length w) := by
  have hle := okG.len hG
  have hml := hI.len
  have hol := hI.ol
  obtain ⟨m, hm⟩ : ∃ m, cs.length = m := ⟨_, rfl⟩
  obtain ⟨n, hn⟩ : ∃ n, G.length = n := ⟨_, rfl⟩
  have hr9 : ∀ x, isNode G x → 0 ≤ rd of x ∧ rd of x < (m : Int) := fun x hx => by have := hI.rng x hx; rw [hm] at this; exact this
  have hX := Aside0.mk (And.intro hC (And.intro hs (And.intro hG (And.intro hO (And.intro hI (And.intro hed (And.intro hm (And.intro hn hr9))))))))
  obtain ⟨w1, hw1⟩ : ∃ w1, w1 = w.alloc (.cells #[.slice A n c] 24) := ⟨_, rfl⟩
  have c0 : w1.cell? ⟨w.heap.size, 0, none⟩ = some (.slice A n c) := by rw [hw1]; exact cell_at (heap_alloc_new w _) rfl
  have B1 : Below w.heap.size w w1 := by rw [hw1]; exact below_alloc (Below.refl _ w) _
  have hg1 : w.heap.size < w1.heap.size := by rw [hw1]; simp
  rw [hm] at hml
  rw [hn] at hml hol hle
  rw [hm, hol, hn]
  have hmI := fun w => make_runI m (by omega) w
  obtain ⟨w2, hw2⟩ : ∃ w2, w2 = w1.alloc (.cells (aI (List.replicate m 0)) 3) := ⟨_, rfl⟩
  have hb2 : w2.heap[w1.heap.size]? = some (.cells (aI (List.replicate m 0)) 3 (0, 0)) := by rw [hw2]; exact heap_alloc_new w1 _
  have B2 : Below w1.heap.size w1 w2 := by rw [hw2]; exact below_alloc (Below.refl _ w1) _
  have hS2 : w2.heap.size = w1.heap.size + 1 := by rw [hw2]; simp
  have hY := Aside0.mk (And.intro B1 (And.intro B2 (And.intro hb2 (And.intro hg1 (And.intro hS2 hmI)))))
  have hle' := Aside0.mk (And.intro hle (And.intro hml hol))
  clear hC hs hG hO hI hed hm hn hr9 B1 B2 hb2 hg1 hS2 hmI hle hml hol
  go_enter Try.func20, Try.ntmps20
  go_upto_region 1 with (fail)
  rw [← hw1]
  clear hw1
  have hmI := hY.out.2.2.2.2.2
  go_upto_region 2 with (fail)
  rw [← hw2]
  clear hw2 hmI
  have hm70 : m ≤ 70000 := by have := hle'.out; omega
  go_wp2_with (at_make; refine Kd.S_make kG (w0 := w2) 0 29 (by rfl) (N := 27) (by rfl) 22 (.tmp 26) (.tmp 26) (by rfl) (m : Int) (by rfl) (by rfl) Try.underlying22 (.slice none 0 0) 24 info29 rfl (by decide) (by decide) [] (ok := fun k => w2.heap.size ≤ k) (okp := fun _ => False) ⟨_, rfl, Kd.R_nil _ _ _ _ _⟩ (fun _ h => h.elim) (Nat.le_refl _) (by omega) (by omega) ((Kp.refl (fun _ => False) w2).belowB (fun _ h => h.elim) (Nat.zero_le _)) (Nat.zero_le _) ?_; intro v7 w7 hRA hBA hgA hatA; rw [Int.toNat_natCast] at hRA; have hb7 : Below w2.heap.size w2 w7 := ((Kp.refl (fun _ => False) w2).grown hgA (fun k hk => by cases hk)).none_below; obtain ⟨B, cb, ev, hx, Cx⟩ := Kd.S_reads hRA; rw [List.length_replicate] at ev; subst ev; clear hx Cx; have c1 : w7.cell? ⟨w.heap.size, 0, none⟩ = some (.slice A n c) := (cell_at2 ((hY.out.2.1.trans (hb7.mono hY.out.2.1.size)).block _ hY.out.2.2.2.1)).trans c0; have hI0 := Aside0.mk (And.intro hRA hb7); clear hRA hBA hgA hatA hb7 c0)
  obtain ⟨bw, hbw⟩ : ∃ bw, w1.heap.size = bw := ⟨_, rfl⟩
  have hbw' := Aside0.mk hbw
  have hI1 : Aside0 (w7.heap[bw]? = some (.cells (aI (List.replicate m 0)) 3 (0, 0)) ∧ Kd.S kG 29 w7 0 (fun k => bw + 1 ≤ k) (.slice B m cb) (List.replicate m []) ∧ Below bw w1 w7 ∧ bw + 1 ≤ w7.heap.size ∧ WI m [] (List.replicate m 0) (List.replicate m []) ∧ EP G of [] 0 0) := by
    have hs2 := hY.out.2.2.2.2.1
    rw [← hbw]
    exact ⟨(hI0.out.2.block _ (by omega)).trans hY.out.2.2.1, Kd.S_mono hI0.out.1 (fun k hk => by omega), hY.out.2.1.trans (hI0.out.2.mono (by omega)), by have := hI0.out.2.size; omega, WI.start m, EP.start G of⟩
  rw [hbw]
  clear hI0 hbw
  obtain ⟨w3, rfl⟩ : ∃ w3 : World, w3 = w7 := ⟨_, rfl⟩
  go_wp2_with fail
  clear c1
  go_loopg [31] n (fun z v wi => ∃ (i : Nat) (E : EL) (wt : List Int) (into : List (List Int)), i + z = n ∧ v = .int .i64 (i : Int) ∧ Aside0 (wi.heap[bw]? = some (.cells (aI wt) 3 (0, 0)) ∧ Kd.S kG 29 wi 0 (fun k => bw + 1 ≤ k) (.slice B m cb) into ∧ Below bw w1 wi ∧ bw + 1 ≤ wi.heap.size ∧ WI m E wt into ∧ EP G of E i 0))
  case atStart => exact ⟨0, [], _, _, by omega, rfl, hI1⟩
  case round =>
    obtain ⟨i, E, wt, into, hi, rfl, hJ⟩ := hrel
    clear hI1
    by_cases hlt : i < n
    · have hlti : (i : Int) < (n : Int) := by omega
      obtain ⟨gk1, rfl⟩ : ∃ z, gk = z + 1 := ⟨gk - 1, by omega⟩
      have hin : isNode G (i : Int) := ⟨by omega, by rw [hX.out.2.2.2.2.2.2.2.1]; omega⟩
      have hw1 : wrap64 ((i : Int) + 1) = ((i + 1 : Nat) : Int) := by have := hle'.out.1; unfold wrap64; omega
      have hb9 := Aside0.mk (And.intro (show i + 1 + gk1 = n by omega) (And.intro (show gk1 < gk1 + 1 by omega) (And.intro hin hw1)))
      obtain ⟨row, hrow⟩ : ∃ row, rd_L1 G (i : Int) = row := ⟨_, rfl⟩
      have hrl : row.length < 4611686018427387904 := by rw [← hrow]; exact hX.out.2.1.2 _ (adj_mem hin)
      have hBw : Below w.heap.size w wr := hY.out.1.trans (hJ.out.2.2.1.mono (by have := hY.out.2.2.2.1; have := hbw'.out; omega))
      obtain ⟨ad, A1, c1, eA, r0, rl, rC⟩ := at_L1 hX.out.1 (i : Int) (by omega) (by rw [hX.out.2.2.2.2.2.2.2.1]; exact hlti)
      rw [hrow] at r0 rl rC
      rw [Int.toNat_natCast] at r0
      replace r0 := (Below.cell hBw (World.block_lt_of_cell? _ _ r0)).trans r0
      subst eA
      have hR := Aside0.mk (And.intro rC (And.intro rl hrow))
      have hK0 : Aside0 (wr.heap[bw]? = some (.cells (aI wt) 3 (0, 0)) ∧ Kd.S kG 29 wr 0 (fun k => bw + 1 ≤ k) (.slice B m cb) into ∧ Below bw w1 wr ∧ bw + 1 ≤ wr.heap.size ∧ WI m E wt into ∧ EP G of E i 0) := hJ
      obtain ⟨w4, rfl⟩ : ∃ w4 : World, w4 = wr := ⟨_, rfl⟩
      clear rC rl hrow hin hw1 hi hlt hJ hBw
      go_wp2_with fail
      clear r0
      go_loopg [38] row.length (fun z v wi => ∃ (j : Nat) (E : EL) (wt : List Int) (into : List (List Int)), j + z = row.length ∧ v = .int .i64 (j : Int) ∧ Aside0 (wi.heap[bw]? = some (.cells (aI wt) 3 (0, 0)) ∧ Kd.S kG 29 wi 0 (fun k => bw + 1 ≤ k) (.slice B m cb) into ∧ Below bw w1 wi ∧ bw + 1 ≤ wi.heap.size ∧ WI m E wt into ∧ EP G of E i j))
      case atStart => exact ⟨0, E, wt, into, by omega, rfl, hK0⟩
      case round =>
        obtain ⟨j, E2, wt2, into2, hj, rfl, hK⟩ := hrel
        clear hK0
        by_cases hjt : j < row.length
        · have hjti : (j : Int) < (row.length : Int) := by omega
          obtain ⟨gj1, rfl⟩ : ∃ z, gk = z + 1 := ⟨gk - 1, by omega⟩
          have hw2 : wrap64 ((j : Int) + 1) = ((j + 1 : Nat) : Int) := w64 j row.length hjt hrl
          have hBw : Below w.heap.size w wr := hY.out.1.trans (hK.out.2.2.1.mono (by have := hY.out.2.2.2.1; have := hbw'.out; omega))
          obtain ⟨bd, eB, b0⟩ := Kd.at_int (Kd.C_below hR.out.1 hBw) (j : Int) (by omega) hjti
          rw [rd_get row j hjt, Int.toNat_natCast] at b0
          subst eB
          obtain ⟨s, hs⟩ : ∃ s, row[j] = s := ⟨_, rfl⟩
          rw [hs] at b0
          have had : j < (adj G (i : Int)).length := by unfold adj; rw [hR.out.2.2]; exact hjt
          have hse : (adj G (i : Int))[j] = s := by unfold adj; simp only [hR.out.2.2]; exact hs
          have hsn : isNode G s := okG.adj hX.out.2.2.1 hb9.out.2.2.1 (hse ▸ List.getElem_mem had)
          have hs' : Aside0 (∃ had : j < (adj G (i : Int)).length, (adj G (i : Int))[j] = s ∧ isNode G s) := ⟨had, hse, hsn⟩
          have hs1 := hsn.1
          have hs2 : s < (n : Int) := by have := hsn.2; rw [hX.out.2.2.2.2.2.2.2.1] at this; exact this
          have hofl : of.length = n := hle'.out.2.2
          have hOw := Kd.C_below hX.out.2.2.2.1 hBw
          obtain ⟨od, eO, p0⟩ := Kd.at_int hOw (i : Int) (by omega) (by rw [hofl]; exact hlti)
          subst eO
          obtain ⟨od2, eO, p1⟩ := Kd.at_int hOw s hs1 (by rw [hofl]; exact hs2)
          injection eO with eO
          subst eO
          rw [Int.toNat_natCast] at p0
          obtain ⟨ca, hca⟩ : ∃ ca, rd of (i : Int) = ca := ⟨_, rfl⟩
          obtain ⟨cb', hcb'⟩ : ∃ cb', rd of s = cb' := ⟨_, rfl⟩
          have hra := hX.out.2.2.2.2.2.2.2.2 (i : Int) hb9.out.2.2.1
          have hrb := hX.out.2.2.2.2.2.2.2.2 s hsn
          rw [hca] at p0 hra
          rw [hcb'] at p1 hrb
          obtain ⟨a0, a1⟩ := hra
          obtain ⟨d0, d1⟩ := hrb
          have hk9 := Aside0.mk (And.intro (show j + 1 + gj1 = row.length by omega) (And.intro (show gj1 < gj1 + 1 by omega) (And.intro hca (And.intro hcb' (And.intro hw2 hjt)))))
          have hB' := Aside0.mk hBw
          clear hs hse hsn had hOw hofl hBw hw2 hj hjt hca hcb'
          by_cases hab : ca = cb'
          · have e1 : (ca != cb') = false := by simp [hab]
            have hE : Aside0 (wr.heap[bw]? = some (.cells (aI wt2) 3 (0, 0)) ∧ Kd.S kG 29 wr 0 (fun k => bw + 1 ≤ k) (.slice B m cb) into2 ∧ Below bw w1 wr ∧ bw + 1 ≤ wr.heap.size ∧ WI m E2 wt2 into2 ∧ EP G of E2 i (j + 1)) := by
              obtain ⟨had, hse, hsn⟩ := hs'.out
              exact ⟨hK.out.1, hK.out.2.1, hK.out.2.2.1, hK.out.2.2.2.1, hK.out.2.2.2.2.1, hK.out.2.2.2.2.2.skip had hse (by rw [hk9.out.2.2.1, hk9.out.2.2.2.1, hab])⟩
            have hb2 := hk9.out.2.1
            have hw2 := hk9.out.2.2.2.2.1
            clear hK hab
            go_wp2_with fail
            go_quiet (fail)
            have hE2 : Aside0 ((wr.drewN nq).heap[bw]? = some (.cells (aI wt2) 3 (0, 0)) ∧ Kd.S kG 29 (wr.drewN nq) 0 (fun k => bw + 1 ≤ k) (.slice B m cb) into2 ∧ Below bw w1 (wr.drewN nq) ∧ bw + 1 ≤ (wr.drewN nq).heap.size ∧ WI m E2 wt2 into2 ∧ EP G of E2 i (j + 1)) := ⟨hE.out.1, Kd.S_step hE.out.2.1 (fun _ _ _ => rfl), below_drewN hE.out.2.2.1 nq, hE.out.2.2.2⟩
            clear hE p0 p1 b0
            go_wp2_with fail
            go_roundg gj1
            case rel => exact ⟨j + 1, E2, wt2, into2, hk9.out.1, by go_num, hE2⟩
            case measure => exact hb2
          · have e1 : (ca != cb') = true := by simp [hab]
            have hab' := Aside0.mk hab
            clear hab
            have hws := hK.out.2.2.2.2.1.w_le a0 a1
            have hwl := hK.out.2.2.2.2.1.wl
            have hEl : E2.length ≤ 1000000 := by
              have h1 := hK.out.2.2.2.2.2.len
              have h2 := edges_tk G i (by have := hb9.out.2.2.1.2; omega)
              obtain ⟨had, hse, hsn⟩ := hs'.out
              have h3 := hX.out.2.2.2.2.2.1
              omega
            have y0 := cell_at (j := ca.toNat) hK.out.1 (aI_at a0 (by rw [hwl]; exact a1))
            have y1 := free_at hK.out.1 ca.toNat
            obtain ⟨wv, hwv⟩ : ∃ wv, rd wt2 ca = wv := ⟨_, rfl⟩
            rw [hwv] at y0 hws
            have hw3 : wrap64 (wv + 1) = wv + 1 := by unfold wrap64; omega
            go_wp2_with fail
            go_quiet (fail)
            obtain ⟨V0, hV0⟩ : ∃ V, wr.drewN nq = V := ⟨_, rfl⟩
            have q0 : V0.cell? (od.add i) = some (.int .i64 ca) := by rw [← hV0]; exact p0
            have q1 : V0.cell? (od.add s.toNat) = some (.int .i64 cb') := by rw [← hV0]; exact p1
            have x0 : V0.cell? ⟨bw, ca.toNat, none⟩ = some (.int .i64 wv) := by rw [← hV0]; exact y0
            have x1 : V0.frozen? ⟨bw, ca.toNat, none⟩ = false := by rw [← hV0]; exact y1
            have hlo0 : Below V0.heap.size wr V0 ∧ wr.heap.size = V0.heap.size := by rw [← hV0]; exact ⟨below_drewN (Below.refl _ wr) nq, rfl⟩
            have hV1 : Aside0 (Below bw w1 (V0.setCell ⟨bw, ca.toNat, none⟩ (.int .i64 (wv + 1))) ∧ (V0.setCell ⟨bw, ca.toNat, none⟩ (.int .i64 (wv + 1))).heap[bw]? = some (.cells (aI (wt2.set ca.toNat (wv + 1))) 3 (0, 0)) ∧ Kd.S kG 29 (V0.setCell ⟨bw, ca.toNat, none⟩ (.int .i64 (wv + 1))) 0 (fun k => bw + 1 ≤ k) (.slice B m cb) into2 ∧ bw + 1 ≤ (V0.setCell ⟨bw, ca.toNat, none⟩ (.int .i64 (wv + 1))).heap.size) := by
              have h1 : Below bw w1 V0 := by rw [← hV0]; exact below_drewN hK.out.2.2.1 nq
              have h2 : V0.heap[bw]? = some (.cells (aI wt2) 3 (0, 0)) := by rw [← hV0]; exact hK.out.1
              have h3 : Kd.S kG 29 V0 0 (fun k => bw + 1 ≤ k) (.slice B m cb) into2 := by rw [← hV0]; exact Kd.S_step hK.out.2.1 (fun _ _ _ => rfl)
              have h4 : bw + 1 ≤ V0.heap.size := by rw [← hV0]; exact hK.out.2.2.2.1
              refine ⟨h1.trans (((Kp.refl (fun k => k = bw) V0).setCell (p := ⟨bw, ca.toNat, none⟩) (.inl rfl) _).belowB (fun k hk => Nat.le_of_eq hk.symm) (by omega)), by rw [set_at h2, aI_set], Kd.S_step h3 (fun k hk _ => set_other _ (by omega)), by simpa [World.setCell] using h4⟩
            rw [hV0]
            clear hV0 p0 p1 y0 y1 hlo0 b0
            go_upto_region 11 with fail
            obtain ⟨V, hV⟩ : ∃ V, V0.setCell ⟨bw, ca.toNat, none⟩ (.int .i64 (wv + 1)) = V := ⟨_, rfl⟩
            rw [hV] at hV1 ⊢
            clear hV q0 q1 x0 x1
            have hBV : Below w.heap.size w V := hY.out.1.trans (hV1.out.1.mono (by have := hY.out.2.2.2.1; have := hbw'.out; omega))
            have hofl : of.length = n := hle'.out.2.2
            have hOw := Kd.C_below hX.out.2.2.2.1 hBV
            obtain ⟨od3, eO, q0⟩ := Kd.at_int hOw (i : Int) (by omega) (by rw [hofl]; exact hlti)
            injection eO with eO
            subst eO
            obtain ⟨od3, eO, q1⟩ := Kd.at_int hOw s hs1 (by rw [hofl]; exact hs2)
            injection eO with eO
            subst eO
            rw [Int.toNat_natCast, hk9.out.2.2.1] at q0
            rw [hk9.out.2.2.2.1] at q1
            obtain ⟨g, gcap, ev, _⟩ := Kd.S_form hV1.out.2.2.1 (by rw [hK.out.2.2.2.2.1.il]; omega)
            injection ev with ev1 ev2 ev3
            subst ev1
            clear ev2 ev3
            obtain ⟨A0, c0, oki, k1, k2, k3, k4, k5⟩ := kid_open (W := V.drew) (Kd.S_step hV1.out.2.2.1 (fun _ _ _ => rfl)) cb' d0 d1
            replace k1 : V.cell? ⟨g, cb'.toNat, none⟩ = some (.slice A0 (rd_L1 into2 cb').length c0) := k1
            replace k2 : V.frozen? ⟨g, cb'.toNat, none⟩ = false := k2
            obtain ⟨rw9, hrow9⟩ : ∃ rw9, rd_L1 into2 cb' = rw9 := ⟨_, rfl⟩
            have hrl9 : rw9.length ≤ 1000000 := by
              have := hK.out.2.2.2.2.1.i_le d0 d1
              rw [hrow9] at this; omega
            rw [hrow9] at k1 k3 k5
            have hal : ∀ a v, V.cell? a = some v → (V.alloc (.cells #[.int .i64 ca] 3)).cell? a = some v := fun a v h => (Below.cell (below_alloc (Below.refl _ V) _) (World.block_lt_of_cell? _ _ h)).trans h
            have q0a := hal _ _ q0
            have q1a := hal _ _ q1
            have k1a := hal _ _ k1
            have hgl := (Kd.S_R hV1.out.2.2.1).1 g rfl
            have hQ := Aside0.mk (And.intro k3 (And.intro k4 (And.intro k5 (And.intro hV1.out (And.intro hgl (And.intro hrow9 (And.intro (And.intro (World.block_lt_of_cell? _ _ q0) (World.block_lt_of_cell? _ _ q1)) hBV)))))))
            clear k3 k4 k5 hV1 hgl hrow9 hal hOw hofl hBV
            refine Held.begin_ (S := fun w' => w'.cell? (od.add i) = some (.int .i64 ca) ∧ w'.cell? (od.add s.toNat) = some (.int .i64 cb') ∧ w'.cell? ⟨g, cb'.toNat, none⟩ = some (.slice A0 rw9.length c0)) 19 (by kernel_rfl) (by kernel_rfl) ?_ (fun hHeld => ?_)
            · exact ⟨q0, q1, k1⟩
            simp only [List.length_cons, List.length_nil, Nat.reduceAdd, List.replicate, Array.replicate]
            refine Held.take_ (v := ?vv1599000) 0 rfl rfl (by kernel_rfl) (by kernel_rfl) (fun _ _ _ h => h) (by assumption) (Or.inl ⟨by rfl, ?hy1599000⟩) ?_
            case hy1599000 => intro w hSw; (try dsimp only at hSw); (go_simp <;> with_reducible rfl)
            try simp only [Act.put, List.setIfInBounds_toArray, List.set_cons_zero, List.set_cons_succ]
            refine Held.take_ (v := ?vv1599001) 1 rfl rfl (by kernel_rfl) (by kernel_rfl) (fun _ _ _ h => h) (by assumption) (Or.inl ⟨by rfl, ?hy1599001⟩) ?_
            case hy1599001 => intro w hSw; (try dsimp only at hSw); (go_simp <;> with_reducible rfl)
            try simp only [Act.put, List.setIfInBounds_toArray, List.set_cons_zero, List.set_cons_succ]
            refine Held.take_ (v := ?vv1599002) 2 rfl rfl (by kernel_rfl) (by kernel_rfl) (fun _ _ _ h => h) (by assumption) (Or.inl ⟨by rfl, ?hy1599002⟩) ?_
            case hy1599002 => intro w hSw; (try dsimp only at hSw); (go_simp <;> with_reducible rfl)
            try simp only [Act.put, List.setIfInBounds_toArray, List.set_cons_zero, List.set_cons_succ]
            refine Held.take_ (v := ?vv1599003) 3 rfl rfl (by kernel_rfl) (by kernel_rfl) (fun _ _ _ h => h) (by assumption) (Or.inl ⟨by rfl, ?hy1599003⟩) ?_
            case hy1599003 => intro w hSw; (try dsimp only at hSw); (go_simp <;> with_reducible rfl)
            try simp only [Act.put, List.setIfInBounds_toArray, List.set_cons_zero, List.set_cons_succ]
            refine Held.take_ (v := ?vv1599004) 4 rfl rfl (by kernel_rfl) (by kernel_rfl) (fun _ _ _ h => h) (by assumption) (Or.inl ⟨by rfl, ?hy1599004⟩) ?_
            case hy1599004 => intro w hSw; (try dsimp only at hSw); (go_simp <;> with_reducible rfl)
            try simp only [Act.put, List.setIfInBounds_toArray, List.set_cons_zero, List.set_cons_succ]
            refine Held.take_ (v := ?vv1599005) 5 rfl rfl (by kernel_rfl) (by kernel_rfl) (fun _ _ _ h => h) (by assumption) (Or.inl ⟨by rfl, ?hy1599005⟩) ?_
            case hy1599005 => intro w hSw; (try dsimp only at hSw); (go_simp <;> with_reducible rfl)
            try simp only [Act.put, List.setIfInBounds_toArray, List.set_cons_zero, List.set_cons_succ]
            refine Held.take_ (v := ?vv1599006) 6 rfl rfl (by kernel_rfl) (by kernel_rfl) (fun _ _ _ h => h) (by assumption) (Or.inl ⟨by rfl, ?hy1599006⟩) ?_
            case hy1599006 => intro w hSw; (try dsimp only at hSw); (go_simp <;> with_reducible rfl)
            try simp only [Act.put, List.setIfInBounds_toArray, List.set_cons_zero, List.set_cons_succ]
            refine Held.take_ (v := ?vv1599007) 7 rfl rfl (by kernel_rfl) (by kernel_rfl) (fun _ _ _ h => h) (by assumption) (Or.inl ⟨by rfl, ?hy1599007⟩) ?_
            case hy1599007 => intro w hSw; (try dsimp only at hSw); (go_simp <;> with_reducible rfl)
            try simp only [Act.put, List.setIfInBounds_toArray, List.set_cons_zero, List.set_cons_succ]
            refine Held.take_ (v := ?vv1599008) 8 rfl rfl (by kernel_rfl) (by kernel_rfl) (fun _ _ _ h => h) (by assumption) (Or.inl ⟨by rfl, ?hy1599008⟩) ?_
            case hy1599008 => intro w hSw; (try dsimp only at hSw); (go_simp <;> with_reducible rfl)
            try simp only [Act.put, List.setIfInBounds_toArray, List.set_cons_zero, List.set_cons_succ]
            refine Held.take_ (v := ?vv1599009) 9 rfl rfl (by kernel_rfl) (by kernel_rfl) (fun _ _ _ h => h) (by assumption) (Or.inl ⟨by rfl, ?hy1599009⟩) ?_
            case hy1599009 => intro w hSw; (try dsimp only at hSw); (go_simp <;> with_reducible rfl)
            try simp only [Act.put, List.setIfInBounds_toArray, List.set_cons_zero, List.set_cons_succ]
            refine Held.take_ (v := ?vv1599010) 10 rfl rfl (by kernel_rfl) (by kernel_rfl) (fun _ _ _ h => h) (by assumption) (Or.inl ⟨by rfl, ?hy1599010⟩) ?_
            case hy1599010 => intro w hSw; (try dsimp only at hSw); (go_simp <;> with_reducible rfl)
            try simp only [Act.put, List.setIfInBounds_toArray, List.set_cons_zero, List.set_cons_succ]
            refine Held.take_ (v := ?vv1599011) 11 rfl rfl (by kernel_rfl) (by kernel_rfl) (fun _ _ _ h => h) (by assumption) (Or.inl ⟨by rfl, ?hy1599011⟩) ?_
            case hy1599011 => intro w hSw; (try dsimp only at hSw); (go_simp <;> with_reducible rfl)
            try simp only [Act.put, List.setIfInBounds_toArray, List.set_cons_zero, List.set_cons_succ]
            refine Held.take_ (v := ?vv1599012) 12 rfl rfl (by kernel_rfl) (by kernel_rfl) (fun _ _ _ h => h) (by assumption) (Or.inl ⟨by rfl, ?hy1599012⟩) ?_
            case hy1599012 => intro w hSw; (try dsimp only at hSw); (go_simp <;> with_reducible rfl)
            try simp only [Act.put, List.setIfInBounds_toArray, List.set_cons_zero, List.set_cons_succ]
            refine Held.take_ (v := ?vv1599013) 13 rfl rfl (by kernel_rfl) (by kernel_rfl) (fun _ _ _ h => h) (by assumption) (Or.inl ⟨by rfl, ?hy1599013⟩) ?_
            case hy1599013 => intro w hSw; (try dsimp only at hSw); (go_simp <;> with_reducible rfl)
            try simp only [Act.put, List.setIfInBounds_toArray, List.set_cons_zero, List.set_cons_succ]
            refine Held.take_ (v := ?vv1599014) 14 rfl rfl (by kernel_rfl) (by kernel_rfl) (fun _ _ _ h => h) (by assumption) (Or.inl ⟨by rfl, ?hy1599014⟩) ?_
            case hy1599014 => intro w hSw; (try dsimp only at hSw); (go_simp <;> with_reducible rfl)
            try simp only [Act.put, List.setIfInBounds_toArray, List.set_cons_zero, List.set_cons_succ]
            refine Held.take_ (v := ?vv1599015) 15 rfl rfl (by kernel_rfl) (by kernel_rfl) (fun _ _ _ h => h) (by assumption) (Or.inl ⟨by rfl, ?hy1599015⟩) ?_
            case hy1599015 => intro w hSw; (try dsimp only at hSw); (go_simp <;> with_reducible rfl)
            try simp only [Act.put, List.setIfInBounds_toArray, List.set_cons_zero, List.set_cons_succ]
            refine Held.step_ 16 rfl rfl (by kernel_rfl) (fun K hK => ?_)
            go_simp
            refine hK.out _ _ ⟨q0a, q1a, k1a⟩ (fun hHeld2 => ?_)
            clear hK K
            try simp only [Act.put, List.setIfInBounds_toArray, List.set_cons_zero, List.set_cons_succ]
            refine Held.step_ 17 rfl rfl (by kernel_rfl) (fun K hK => ?_)
            rw [show (V.alloc (.cells #[.int .i64 ca] 3)).drew = V.drew.alloc (.cells #[.int .i64 ca] 3) from rfl]
            refine Kd.R_append_step (Kd.int .i64) (w0 := V) 0 (by rfl) (.tmp 71) (.tmp 76) 29 3 (.int .i64 0) 8 (by rfl) Try.underlying29 info3 rfl (by decide) (by decide) (.slice A0 rw9.length c0) rw9 ca [.int .i64 ca] (fun k => oki k ∨ bw + 1 ≤ k ∧ V.heap.size ≤ k) (fun _ => False) (by rfl) (by rfl) (by rfl) ?_ ?_ ?_ ?_ (Nat.zero_le _) ?_ ?_
            · intro k hk; exact hk.elim
            · intro k hk; exact .inr ⟨Nat.le_trans hQ.out.2.2.2.1.2.2.2 hk, hk⟩
            · exact Kd.R_mono hQ.out.1 (fun k hk => .inl hk)
            · exact ((Kp.refl (fun _ => False) V).drewN 1).belowB (fun _ h => h.elim) (Nat.zero_le _)
            · omega
            intro v1 wa hRA hBA hgA hatA
            obtain ⟨A2, c2, ev, _, _⟩ := Kd.R_reads hRA
            rw [List.length_append, List.length_singleton] at ev
            subst ev
            obtain ⟨x1, x2, x3⟩ := hQ.out.2.2.1 wa _ _ hgA hRA
            have hkp : Kp (fun k => bw + 1 ≤ k) V wa := ((Kp.refl (fun k => bw + 1 ≤ k) V).drewN 1).grown hgA (fun k hk => .inl (hQ.out.2.1 k (hQ.out.1.1 k hk)).1)
            have hBa : Below w.heap.size w wa := hQ.out.2.2.2.2.2.2.2.trans (hkp.belowB (fun k hk => by have := hY.out.2.2.2.1; have := hbw'.out; omega) hQ.out.2.2.2.2.2.2.2.size)
            obtain ⟨od4, eO, x4⟩ := Kd.at_int (Kd.C_below hX.out.2.2.2.1 hBa) (i : Int) (by omega) (by rw [hle'.out.2.2]; exact hlti)
            injection eO with eO
            subst eO
            obtain ⟨od4, eO, x5⟩ := Kd.at_int (Kd.C_below hX.out.2.2.2.1 hBa) s hs1 (by rw [hle'.out.2.2]; exact hs2)
            injection eO with eO
            subst eO
            rw [Int.toNat_natCast, hk9.out.2.2.1] at x4
            rw [hk9.out.2.2.2.1] at x5
            have hA3 := Aside0.mk (And.intro x3 hkp)
            clear hRA hBA hgA hatA x3 hkp hBa
            refine hK.out _ _ ⟨x4, x5, x1⟩ (fun hHeld3 => ?_)
            clear hK K
            try simp only [Act.put, List.setIfInBounds_toArray, List.set_cons_zero, List.set_cons_succ]
            refine Held.take_ (v := ?vv1852118) 18 rfl rfl (by kernel_rfl) (by kernel_rfl) (fun _ _ _ h => h) (by assumption) (Or.inl ⟨by rfl, ?hy1852118⟩) ?_
            case hy1852118 => intro w hSw; (try dsimp only at hSw); (go_simp <;> with_reducible rfl)
            try simp only [Act.put, List.setIfInBounds_toArray, List.set_cons_zero, List.set_cons_succ]
            refine Held.rest_ (by kernel_rfl) ?_
            simp only [List.drop_succ_cons, List.drop_zero]
            clear hHeld hHeld2 hHeld3
            have hgo : Aside0 ((wa.setCell ⟨g, cb'.toNat, none⟩ (.slice A2 (rw9.length + 1) c2)).heap[bw]? = some (.cells (aI (wt2.set ca.toNat (wv + 1))) 3 (0, 0)) ∧ Kd.S kG 29 (wa.setCell ⟨g, cb'.toNat, none⟩ (.slice A2 (rw9.length + 1) c2)) 0 (fun k => bw + 1 ≤ k) (.slice (some ⟨g, 0, none⟩) m cb) (into2.set cb'.toNat (rw9 ++ [ca])) ∧ Below bw w1 (wa.setCell ⟨g, cb'.toNat, none⟩ (.slice A2 (rw9.length + 1) c2)) ∧ bw + 1 ≤ (wa.setCell ⟨g, cb'.toNat, none⟩ (.slice A2 (rw9.length + 1) c2)).heap.size ∧ WI m (E2 ++ [(ca, cb')]) (wt2.set ca.toNat (wv + 1)) (into2.set cb'.toNat (rw9 ++ [ca])) ∧ EP G of (E2 ++ [(ca, cb')]) i (j + 1)) := by
              have hV := hQ.out.2.2.2.1
              have hg := hQ.out.2.2.2.2.1
              have hkp2 := hA3.out.2.setCell (p := ⟨g, cb'.toNat, none⟩) (.inl hg) (.slice A2 (rw9.length + 1) c2)
              refine ⟨hkp2.blk hV.2.1 (by omega), hA3.out.1, hV.1.trans (hkp2.belowB (fun k hk => by omega) (by have := hV.2.2.2; omega)), Nat.le_trans hV.2.2.2 hkp2.size, ?_, ?_⟩
              · have h9 := hK.out.2.2.2.2.1.add (a := ca) (b := cb') ⟨a0, a1⟩ ⟨d0, d1⟩
                rw [hwv, hQ.out.2.2.2.2.2.1] at h9
                exact h9
              · obtain ⟨had, hse, hsn⟩ := hs'.out
                have h9 := hK.out.2.2.2.2.2.add hb9.out.2.2.1 had hse (by rw [hk9.out.2.2.1, hk9.out.2.2.2.1]; exact hab'.out)
                rw [hk9.out.2.2.1, hk9.out.2.2.2.1] at h9
                exact h9
            have hb2 := hk9.out.2.1
            have hw2 := hk9.out.2.2.2.2.1
            clear hA3 hQ hK x4 x5 k1 k2 k1a q0 q1 q0a q1a hwv
            go_wp2_with fail
            clear x1 x2
            go_roundg gj1
            case rel => exact ⟨j + 1, E2 ++ [(ca, cb')], _, _, hk9.out.1, by go_num, hgo⟩
            case measure => exact hb2
        · have hjr : j = row.length := by omega
          have hjni : ¬ (j : Int) < (row.length : Int) := by omega
          have hE : Aside0 (wr.heap[bw]? = some (.cells (aI wt2) 3 (0, 0)) ∧ Kd.S kG 29 wr 0 (fun k => bw + 1 ≤ k) (.slice B m cb) into2 ∧ Below bw w1 wr ∧ bw + 1 ≤ wr.heap.size ∧ WI m E2 wt2 into2 ∧ EP G of E2 (i + 1) 0) := by
            have hadl : (adj G (i : Int)).length = row.length := by unfold adj; rw [hR.out.2.2]
            exact ⟨hK.out.1, hK.out.2.1, hK.out.2.2.1, hK.out.2.2.2.1, hK.out.2.2.2.2.1, hK.out.2.2.2.2.2.row (by have := hb9.out.2.2.1.2; omega) (by omega) (by omega)⟩
          have hb2 := hb9.out.2.1
          have hw2 := hb9.out.2.2.2
          clear hK hjr hj
          go_wp2_with fail
          go_roundg gk1
          case rel => exact ⟨i + 1, E2, wt2, into2, hb9.out.1, by go_num, hE⟩
          case measure => exact hb2
    · have hin : i = n := by omega
      have hni : ¬ (i : Int) < (n : Int) := by omega
      have hEG := (show EP G of E G.length 0 by rw [hX.out.2.2.2.2.2.2.2.1, ← hin]; exact hJ.out.2.2.2.2.2).done
      have hX2 := Aside0.mk (And.intro hJ.out.1 (And.intro hJ.out.2.1 (And.intro hJ.out.2.2.1 (And.intro hJ.out.2.2.2.1 (And.intro hJ.out.2.2.2.2.1 hEG)))))
      clear hJ hin hi hlt hEG
      obtain ⟨X, rfl⟩ : ∃ X : World, X = wr := ⟨_, rfl⟩
      have hI2 : Aside0 (Kd.R (Kd.int .i64) 3 X 0 (fun k => X.heap.size ≤ k) (.slice none 0 0) [] ∧ Below X.heap.size X X ∧ ([] : List Int).Pairwise (· < ·) ∧ ∀ c : Int, c ∈ ([] : List Int) ↔ (0 ≤ c ∧ c < (0 : Nat)) ∧ rd wt c = 0) :=
        ⟨Kd.R_nil _ _ _ _ _, Below.refl _ _, List.Pairwise.nil, fun c => ⟨fun h => (by cases h), fun h => by omega⟩⟩
      go_wp2_with fail
      go_loopg [13, 83] m (fun z v13 v83 wi => ∃ (j : Nat) (q : List Int) (Aq : Option Addr) (cq : Nat), j + z = m ∧ v13 = .slice Aq q.length cq ∧ v83 = .int .i64 (j : Int) ∧ Aside0 (Kd.R (Kd.int .i64) 3 wi 0 (fun k => X.heap.size ≤ k) (.slice Aq q.length cq) q ∧ Below X.heap.size X wi ∧ q.Pairwise (· < ·) ∧ ∀ c : Int, c ∈ q ↔ (0 ≤ c ∧ c < j) ∧ rd wt c = 0))
      case atStart => exact ⟨0, [], none, 0, by omega, rfl, rfl, hI2⟩
      case round =>
        obtain ⟨j, q, Aq, cq, hj, rfl, rfl, hJ⟩ := hrel
        clear hI2
        by_cases hjt : j < m
        · have hjti : (j : Int) < (m : Int) := by omega
          obtain ⟨gj1, rfl⟩ : ∃ z, gk = z + 1 := ⟨gk - 1, by omega⟩
          have hw2 : wrap64 ((j : Int) + 1) = ((j + 1 : Nat) : Int) := by unfold wrap64; omega
          have hk9 := Aside0.mk (And.intro (show j + 1 + gj1 = m by omega) (show gj1 < gj1 + 1 by omega))
          have hwl := hX2.out.2.2.2.2.1.wl
          have y0 := cell_at (j := j) (v := .int .i64 (rd wt (j : Int))) ((hJ.out.2.1.block bw (by have := hX2.out.2.2.2.1; omega)).trans hX2.out.1) (by have := aI_at (l := wt) (x := (j : Int)) (by omega) (by rw [hwl]; exact hjti); rwa [Int.toNat_natCast] at this)
          obtain ⟨wv, hwv⟩ : ∃ wv, rd wt (j : Int) = wv := ⟨_, rfl⟩
          rw [hwv] at y0
          have hql : q.length ≤ j := by
            refine sorted_len hJ.out.2.2.1 (fun z hz => ?_)
            have := (hJ.out.2.2.2 z).1 hz
            omega
          clear hj hjt hwl
          by_cases h0 : wv = 0
          · have d2 : (wv == 0) = true := by simp [h0]
            have hmq : m ≤ 1000000 := by omega
            have hl9 : q.length ≤ 1000000 := by omega
            have e9 : (q ++ [(j : Int)]).length = q.length + 1 := by simp
            have hgo : (q ++ [(j : Int)]).Pairwise (· < ·) ∧ ∀ c : Int, c ∈ q ++ [(j : Int)] ↔ (0 ≤ c ∧ c < ((j + 1 : Nat) : Int)) ∧ rd wt c = 0 := by
              refine ⟨pair_snoc hJ.out.2.2.1 (fun z hz => ((hJ.out.2.2.2 z).1 hz).1.2), fun c => ?_⟩
              rw [List.mem_append, hJ.out.2.2.2 c]
              constructor
              · rintro (h | h)
                · exact ⟨by omega, h.2⟩
                · simp at h; subst h; exact ⟨by omega, by rw [hwv, h0]⟩
              · rintro ⟨h1, h2⟩
                by_cases e : c = (j : Int)
                · exact .inr (by simp [e])
                · exact .inl ⟨by omega, h2⟩
            have hgo' := Aside0.mk hgo
            clear hgo h0 hwv hql hmq
            go_wp2_with (at_builtin; refine Kd.R_append (Kd.int .i64) (w0 := wr) 0 (by rfl) (.tmp 90) (.tmp 92) 29 3 (.int .i64 0) 8 (by rfl) Try.underlying29 info3 rfl (by decide) (by decide) (.slice Aq q.length cq) q (j : Int) [.int .i64 (j : Int)] (fun k => X.heap.size ≤ k) (fun _ => False) (by rfl) (by rfl) rfl (fun _ h => h.elim) (fun k hk => Nat.le_trans hJ.out.2.1.size hk) hJ.out.1 ((Kp.refl (fun _ => False) wr).belowB (fun _ h => h.elim) (Nat.zero_le _)) (Nat.zero_le _) (by omega) ?_; intro v1 wa hRA hBA hgA hatA; obtain ⟨A2, c2, ev, _, _⟩ := Kd.R_reads hRA; rw [e9] at ev; subst ev; have hE : Aside0 (Kd.R (Kd.int .i64) 3 wa 0 (fun k => X.heap.size ≤ k) (.slice A2 (q ++ [(j : Int)]).length c2) (q ++ [(j : Int)]) ∧ Below X.heap.size X wa ∧ (q ++ [(j : Int)]).Pairwise (· < ·) ∧ ∀ c : Int, c ∈ q ++ [(j : Int)] ↔ (0 ≤ c ∧ c < ((j + 1 : Nat) : Int)) ∧ rd wt c = 0) := ⟨by rw [e9]; exact hRA, hJ.out.2.1.trans (((Kp.refl (fun k => X.heap.size ≤ k) wr).grown hgA (fun k hk => .inl (hJ.out.1.1 k hk))).belowB (fun k hk => hk) hJ.out.2.1.size), hgo'.out⟩; have e9' := Aside0.mk e9; clear hRA hBA hgA hatA hJ hgo' e9)
            go_roundg gj1
            case rel => exact ⟨j + 1, q ++ [(j : Int)], A2, c2, hk9.out.1, by rw [e9'.out], by go_num, hE⟩
            case measure => exact hk9.out.2
          · have d2 : (wv == 0) = false := by simp [h0]
            have hE : Aside0 (Kd.R (Kd.int .i64) 3 wr 0 (fun k => X.heap.size ≤ k) (.slice Aq q.length cq) q ∧ Below X.heap.size X wr ∧ q.Pairwise (· < ·) ∧ ∀ c : Int, c ∈ q ↔ (0 ≤ c ∧ c < ((j + 1 : Nat) : Int)) ∧ rd wt c = 0) := by
              refine ⟨hJ.out.1, hJ.out.2.1, hJ.out.2.2.1, fun c => ?_⟩
              rw [hJ.out.2.2.2 c]
              constructor
              · rintro ⟨h1, h2⟩; exact ⟨by omega, h2⟩
              · rintro ⟨h1, h2⟩
                by_cases e : c = (j : Int)
                · rw [e, hwv] at h2; exact absurd h2 h0
                · exact ⟨by omega, h2⟩
            clear hJ h0 hwv hql
            go_wp2_with fail
            go_roundg gj1
            case rel => exact ⟨j + 1, q, Aq, cq, hk9.out.1, rfl, by go_num, hE⟩
            case measure => exact hk9.out.2
        · have hjm : j = m := by omega
          have hni : ¬ (j : Int) < (m : Int) := by omega
          have hK0 : KI E m wt q [] := KI.start hX2.out.2.2.2.2.1 hJ.out.2.2.1 (fun c => by rw [hJ.out.2.2.2 c, hjm])
          have hQ0 : QO X wr bw wt q [] (.slice Aq q.length cq) (.slice none 0 0) := by
            refine ⟨⟨fun k => X.heap.size ≤ k ∧ k < wr.heap.size, fun _ => False, fun k hk => ⟨hk.1, hk.2, fun h => h⟩, fun k hk => hk.elim, (QS.of_R hJ.out.1).mono (fun k hk hlt => ⟨hk, hlt⟩), Kd.R_nil _ _ _ _ _⟩, (hJ.out.2.1.block bw (by have := hX2.out.2.2.2.1; omega)).trans hX2.out.1, by have := hX2.out.2.2.2.1; omega, Kp.of_below hJ.out.2.1 _⟩
          have hI3 : Aside0 (QO X wr bw wt q [] (.slice Aq q.length cq) (.slice none 0 0) ∧ KI E m wt q []) := ⟨hQ0, hK0⟩
          have hE0 := Aside0.mk (show ∀ p ∈ E, (0 ≤ p.1 ∧ p.1 < (m : Int)) ∧ p.1 ≠ p.2 from fun p hp => by have := hX.out.2.2.2.2.1.at_ hX.out.2.2.1 hX2.out.2.2.2.2.2.1 hp; rw [hX.out.2.2.2.2.2.2.1] at this; exact ⟨this.1, this.2.2⟩)
          clear hJ hK0 hQ0 hjm hj hjt
          obtain ⟨w5, rfl⟩ : ∃ w5 : World, w5 = wr := ⟨_, rfl⟩
          go_wp2_with fail
          go_loopg [13, 14] m (fun z v13 v14 wi => ∃ (wt q out : List Int) (Aq : Option Addr) (cq : Nat) (Au : Option Addr) (cu : Nat), m ≤ out.length + z ∧ v13 = .slice Aq q.length cq ∧ v14 = .slice Au out.length cu ∧ Aside0 (QO X wi bw wt q out (.slice Aq q.length cq) (.slice Au out.length cu) ∧ KI E m wt q out))
          case atStart => exact ⟨wt, q, [], Aq, cq, none, 0, by simp, rfl, rfl, hI3⟩
          case round =>
            obtain ⟨wt2, q2, out, Aq2, cq2, Au, cu, hz, rfl, rfl, hJ⟩ := hrel
            clear hI3
            cases q2 with
            | nil =>
              have hF : SEQ G of m w (.returned (.slice Au out.length cu)) wr := by
                obtain ⟨P, O, h1, h2, h3, h4⟩ := hJ.out.1.ex
                have hBX : Below w.heap.size w X := hY.out.1.trans (hX2.out.2.2.1.mono (by have := hY.out.2.2.2.1; have := hbw'.out; omega))
                obtain ⟨ρ, hρ⟩ := hX.out.2.2.2.2.1.rank hX.out.2.2.1 hX2.out.2.2.2.2.2.1
                rw [hX.out.2.2.2.2.2.2.1] at hρ
                refine ⟨_, out, E, rfl, Kd.R_mono h4 (fun k hk => Nat.le_trans hBX.size (h2 k hk).1), hX2.out.2.2.2.2.2.1, hJ.out.2.fin ρ hρ, hBX.trans (hJ.out.1.kp.belowB (fun k hk => ?_) hBX.size)⟩
                have := hY.out.2.2.2.1; have := hbw'.out; have := hBX.size
                omega
              have hF' := Aside0.mk hF
              clear hF hJ hX hX2 hY hE0
              go_wp2
              go_ret
              exact hF'.out
            | cons x q2 =>
              obtain ⟨P, O, h1, h2, h3, h4⟩ := hJ.out.1.ex
              obtain ⟨g, off, cap, ev, hcap, t0⟩ := h3.head
              injection ev with e1 e2 e3
              subst e1
              subst e3
              clear e2 h1 h2 h3 h4
              obtain ⟨hx1, hx2, hx3⟩ := hJ.out.2.cin
              have hlen := hJ.out.2.len
              have hol1 : out.length + 1 ≤ m := by
                have h9 : (out ++ [x]).Nodup := by
                  rw [List.nodup_append]
                  exact ⟨hJ.out.2.nd, by simp, fun a ha b hb => by simp at hb; rw [hb]; exact fun e => hx2 (e ▸ ha)⟩
                have := Grf.Tj.nodup_len (out ++ [x]) ((List.range m).map fun (i : Nat) => (i : Int)) h9 (fun y hy => by
                  have hy2 : 0 ≤ y ∧ y < m := by
                    rcases List.mem_append.1 hy with hy | hy
                    · exact (hJ.out.2.o y hy).1
                    · simp at hy; rw [hy]; exact hx1
                  exact List.mem_map.2 ⟨y.toNat, List.mem_range.2 (by omega), by omega⟩)
                simpa using this
              obtain ⟨gj1, rfl⟩ : ∃ z, gk = z + 1 := ⟨gk - 1, by omega⟩
              have hb9 := Aside0.mk (And.intro (show m ≤ out.length + 1 + gj1 by omega) (And.intro (show gj1 < gj1 + 1 by omega) (And.intro hx1 (And.intro hx2 hol1))))
              obtain ⟨L, hL⟩ : ∃ L, q2.length = L := ⟨_, rfl⟩
              have hJ1 := hJ.out.1
              have hK1 := hJ.out.2
              rw [List.length_cons, hL] at hJ1 ⊢
              rw [hL] at hcap
              have hL9 := Aside0.mk (And.intro hL (And.intro hJ1 hK1))
              have hL6 : L ≤ 1000000 := by have := hlen.2; rw [List.length_cons, hL] at this; omega
              have hou : out.length ≤ 1000000 := by omega
              clear hJ hz hL hJ1 hK1 hx1 hx2 hx3 hlen hol1
              go_upto_region 24 with fail
              obtain ⟨A', hA'⟩ : ∃ A' : Option Addr, (if cq2 = 1 then some ⟨g, off, none⟩ else some ⟨g, off + 1, none⟩ : Option Addr) = A' := ⟨_, rfl⟩
              rw [hA']
              have hpop : QO X wr bw wt2 q2 out (.slice A' L (cq2 - 1)) (.slice Au out.length cu) := by
                have h9 := hL9.out.2.1
                rw [← hL9.out.1] at h9 ⊢
                exact h9.pop (fun h => by rw [← hA', if_neg (by omega)])
              obtain ⟨P, O, hP1, hP2, hP3, hP4⟩ := hpop.ex
              have hH := Aside0.mk (And.intro hpop (And.intro hP4 hL9.out.2.2))
              have e9 : (out ++ [x]).length = out.length + 1 := by simp
              have hx0 := hb9.out.2.2.1.1
              have hx1 := hb9.out.2.2.1.2
              obtain ⟨gB, capB, evB, _⟩ := Kd.S_form hX2.out.2.1 (by rw [hX2.out.2.2.2.2.1.il]; omega)
              injection evB with ev1 ev2 ev3
              subst ev1
              clear ev2 ev3
              obtain ⟨adB, AB, cB, eB, r0X, rlX, rCX⟩ := at_L1 (Kd.S_reads' hX2.out.2.1).2.2 x hx0 (by rw [hX2.out.2.2.2.2.1.il]; exact hx1)
              injection eB with eB
              subst eB
              rw [add0] at r0X
              have hgB : bw + 1 ≤ gB := (Kd.S_R hX2.out.2.1).1 gB rfl
              have hgX : gB < X.heap.size := World.block_lt_of_cell? _ _ r0X
              obtain ⟨Lr, hLr⟩ : ∃ Lr, rd_L1 into x = Lr := ⟨_, rfl⟩
              rw [hLr] at r0X rlX rCX
              have hTr := Aside0.mk (fun (W : World) (hk : Kp (fun k => k = bw ∨ X.heap.size ≤ k) X W) => (show W.cell? ⟨gB, x.toNat, none⟩ = some (.slice AB Lr.length cB) from (cell_at2 (hk.block hgX (by omega))).trans r0X))
              clear hA' hpop hP1 hP2 hP3 hP4 hL9 t0 r0X rCX
              go_wp2_with (at_builtin; refine Kd.R_append (Kd.int .i64) (w0 := wr) 0 (by rfl) (.tmp 103) (.tmp 105) 29 3 (.int .i64 0) 8 (by rfl) Try.underlying29 info3 rfl (by decide) (by decide) (.slice Au out.length cu) out x [.int .i64 x] (fun k => O k ∨ wr.heap.size ≤ k) (fun _ => False) (by rfl) (by rfl) rfl (fun _ h => h.elim) (fun k hk => .inr hk) (Kd.R_mono hH.out.2.1 (fun k hk => .inl hk)) ((Kp.refl (fun _ => False) wr).belowB (fun _ h => h.elim) (Nat.zero_le _)) (Nat.zero_le _) (by omega) ?_; intro v1 wa hRA hBA hgA hatA; obtain ⟨A2, c2, ev, _, _⟩ := Kd.R_reads hRA; rw [e9] at ev; subst ev; have hQ2 := hH.out.1.app hRA hgA hatA; have r0 := hTr.out wa hQ2.kp; have hN := Aside0.mk (And.intro hQ2 hH.out.2.2); clear hRA hBA hgA hatA hH hQ2)
              clear r0
              have hLE : Lr = (E.filter (fun p => decide (p.2 = x))).map (·.1) := by rw [← hLr]; exact hX2.out.2.2.2.2.1.i x hx0 hx1
              have hLl : Lr.length ≤ 1000000 := by
                have h1 := hX2.out.2.2.2.2.1.i_le hx0 hx1
                have h2 := hX2.out.2.2.2.2.2.2
                have h3 := hX.out.2.2.2.2.2.1
                rw [hLr] at h1; omega
              have hK0 := hN.out.2.begin
              rw [← hLE] at hK0
              have hI5 : Aside0 (QO X wa bw wt2 q2 (out ++ [x]) (.slice A' q2.length (cq2 - 1)) (.slice A2 (out.length + 1) c2) ∧ KJ E m out x Lr 0 wt2 q2) := by
                refine ⟨?_, hK0⟩
                have h9 := hN.out.1
                have hL8 : q2.length = L := by
                  obtain ⟨_, _, _, _, h3, _⟩ := h9.ex
                  obtain ⟨_, _, e, _⟩ := h3
                  injection e with _ e _
                  exact e.symm
                rw [hL8]; exact h9
              have hL8 : L = q2.length := by
                obtain ⟨_, _, _, _, h3, _⟩ := hN.out.1.ex
                obtain ⟨_, _, e, _⟩ := h3
                injection e with _ e _
              have hM := Aside0.mk (And.intro hLE (And.intro hN.out.2 hLr))
              rw [hL8]
              clear hN hLE hK0 hLr e9 hL8 hL6 rlX hgX hgB
              obtain ⟨w6, rfl⟩ : ∃ w6 : World, w6 = wa := ⟨_, rfl⟩
              go_loopg [13, 112] Lr.length (fun z v13 v112 wi => ∃ (t : Nat) (wt' q' : List Int) (Aq' : Option Addr) (cq' : Nat), t + z = Lr.length ∧ v13 = .slice Aq' q'.length cq' ∧ v112 = .int .i64 (t : Int) ∧ Aside0 (QO X wi bw wt' q' (out ++ [x]) (.slice Aq' q'.length cq') (.slice A2 (out.length + 1) c2) ∧ KJ E m out x Lr t wt' q'))
              case atStart => exact ⟨0, wt2, q2, A', cq2 - 1, by omega, rfl, rfl, hI5⟩
              case round =>
                obtain ⟨t, wt3, q3, Aq3, cq3, ht, rfl, rfl, hJ⟩ := hrel
                clear hI5
                by_cases htl : t < Lr.length
                · have htli : (t : Int) < (Lr.length : Int) := by omega
                  obtain ⟨gt1, rfl⟩ : ∃ z, gk = z + 1 := ⟨gk - 1, by omega⟩
                  have hw2 : wrap64 ((t : Int) + 1) = ((t + 1 : Nat) : Int) := by unfold wrap64; omega
                  have hk9 := Aside0.mk (And.intro (show t + 1 + gt1 = Lr.length by omega) (And.intro (show gt1 < gt1 + 1 by omega) htl))
                  have hkpw : Kp (fun k => k = bw ∨ X.heap.size ≤ k) X wr := hJ.out.1.kp
                  have hS3 : Kd.S kG 29 wr 0 (fun k => bw + 1 ≤ k) (.slice (some ⟨gB, 0, none⟩) m cb) into := Kd.S_step hX2.out.2.1 (fun k hk hlt => hkpw.block hlt (by omega))
                  obtain ⟨ad3, AB3, cB3, eB3, r03, rl3, rC3⟩ := at_L1 (Kd.S_reads' hS3).2.2 x hx0 (by rw [hX2.out.2.2.2.2.1.il]; exact hx1)
                  injection eB3 with eB3
                  subst eB3
                  rw [add0, hM.out.2.2, hTr.out wr hkpw] at r03
                  injection r03 with r03
                  injection r03 with r1 r2 r3
                  subst r1
                  rw [hM.out.2.2] at rC3
                  obtain ⟨bd, eB, b0⟩ := Kd.at_int rC3 (t : Int) (Int.natCast_nonneg _) htli
                  subst eB
                  rw [rd_get Lr t htl, Int.toNat_natCast] at b0
                  have hh := hJ.out.2.head hM.out.1 hE0.out hb9.out.2.2.2.1 (fun d hd => (hM.out.2.1.o d hd).2) htl
                  obtain ⟨a, ha⟩ : ∃ a, Lr[t] = a := ⟨_, rfl⟩
                  have hstep := hJ.out.2.step htl hh
                  rw [ha] at b0 hh hstep
                  obtain ⟨⟨a0, a1⟩, ha2, ha3, ha4, ha5⟩ := hh
                  have hElen := hX2.out.2.2.2.2.2.2
                  have hEd := hX.out.2.2.2.2.2.1
                  have hwl := hJ.out.2.wl
                  have y0 := cell_at (j := a.toNat) hJ.out.1.w (aI_at a0 (by rw [hwl]; exact a1))
                  have y1 := free_at hJ.out.1.w a.toNat
                  obtain ⟨wv, hwv⟩ : ∃ wv, rd wt3 a = wv := ⟨_, rfl⟩
                  rw [hwv] at y0 ha3 ha4 hstep
                  have hw3 : wrap64 (wv - 1) = wv - 1 := by unfold wrap64; omega
                  have hQw := hJ.out.1.setw a.toNat (wv - 1)
                  have y2 := cell_at (j := a.toNat) hQw.w (v := .int .i64 (wv - 1)) (by
                    have h1 := aI_at (l := wt3.set a.toNat (wv - 1)) (x := a) a0 (by rw [List.length_set, hwl]; exact a1)
                    rw [h1, rdi_set a0 (by rw [hwl]; exact a1) a0, if_pos rfl])
                  have hql := hJ.out.2.len
                  have hsr := hJ.out.2.srt
                  obtain ⟨wu, hwu⟩ : ∃ wu, wv - 1 = wu := ⟨_, rfl⟩
                  have hG9 := Aside0.mk (And.intro hstep (And.intro hQw (And.intro ha5 (And.intro hsr (show q3.length ≤ 1000000 by omega)))))
                  rw [hwu] at hG9 y2
                  have hw5 : IntKind.i64.wrap (wv - 1) = wu := (IntKind.wrap_i64 _).trans (by unfold wrap64 at hw3; omega)
                  have hw6 : wrap64 (wv - 1) = wu := hw3.trans hwu
                  clear hw3
                  have hwu' := Aside0.mk hwu
                  have hk8 := Aside0.mk (And.intro hw2 hwv)
                  have ha8 : Aside0 (∃ h : t < Lr.length, Lr[t] = a) := ⟨htl, ha⟩
                  clear hou hcap hm70 hLl hS3 rl3 rC3 r2 r3 hstep hQw ha2 ha3 ha4 ha5 hElen hEd hwl hql hsr hJ hkpw hwv ha ht htl hwu
                  by_cases h0 : wu = 0
                  · have d2 : (wu == 0) = true := by simp [h0]
                    have h0' := Aside0.mk h0
                    clear h0
                    go_upto_region 30 with fail
                    obtain ⟨V, hV⟩ : ∃ V, wr.setCell ⟨bw, a.toNat, none⟩ (.int .i64 wu) = V := ⟨_, rfl⟩
                    rw [hV] at hG9 ⊢
                    clear hV b0 y0 y1 y2 d2
                    obtain ⟨P, O, hp1, hp2, hp3, hp4⟩ := hG9.out.2.1.ex
                    have hP := Aside0.mk (And.intro hp1 (And.intro hp2 (And.intro hp3 hp4)))
                    clear hp1 hp2 hp3 hp4
                    go_wp2_with fail
                    refine (search_any hP.out.2.2.1 hG9.out.2.2.2.1 a hG9.out.2.2.1 hG9.out.2.2.2.2).mono ?_
                    rintro e' w8 ⟨rfl, nn, rfl⟩
                    have hpos : q3.countP (· < a) ≤ q3.length := List.countP_le_length
                    obtain ⟨ps, hps⟩ : ∃ ps, q3.countP (· < a) = ps := ⟨_, rfl⟩
                    rw [hps] at hpos ⊢
                    have hps' := Aside0.mk (And.intro hps hpos)
                    clear hps hpos
                    have hvs : (V.drewN nn).heap.size = V.heap.size := rfl
                    go_wp2_with fail
                    refine (insert_any (w := (V.drewN nn).alloc (.cells #[.int .i64 a] 3)) (hP.out.2.2.1.step (fun k hk hlt => (below_alloc (below_drewN (Below.refl _ V) nn) (.cells #[.int .i64 a] 3)).block k hlt)) ps hps'.out.2 a V.heap.size (heap_alloc_new (V.drewN nn) _) (fun h => by have := (hP.out.1 _ h).2.1; omega) hG9.out.2.2.2.2).mono ?_
                    rintro e' w9 ⟨v9, rfl, hq9, hk10⟩
                    have hkpV : Kp P V w9 := ((Kp.of_below (below_alloc (below_drewN (Below.refl _ V) nn) (.cells #[.int .i64 a] 3)) P)).then_ hk10 (fun k hk => .inl hk)
                    have hqV : QS w9 (fun k => P k ∨ V.heap.size ≤ k) v9 (insq q3 ps a) := hq9.mono (fun k hk _ => hk.elim .inl (fun h => .inr (by simp only [World.size_alloc] at h; rw [hvs] at h; omega)))
                    have hQ9 := hG9.out.2.1.ins hP.out.1 hP.out.2.1 hP.out.2.2.2 hqV hkpV
                    obtain ⟨A9, c9, ev9, _⟩ := hqV
                    subst ev9
                    have hgo : Aside0 (QO X w9 bw (wt3.set a.toNat wu) (insq q3 ps a) (out ++ [x]) (.slice A9 (insq q3 ps a).length c9) (.slice A2 (out.length + 1) c2) ∧ KJ E m out x Lr (t + 1) (wt3.set a.toNat wu) (insq q3 ps a)) := by
                      have h9 := hG9.out.1
                      rw [if_pos h0'.out, hps'.out.1] at h9
                      exact ⟨hQ9, h9⟩
                    have hw2 := hk8.out.1
                    have hm9 := hk9.out.2.1
                    clear hq9 hk10 hkpV hQ9 hG9 hP hvs
                    go_wp2_with fail
                    go_roundg gt1
                    case rel => exact ⟨t + 1, wt3.set a.toNat wu, insq q3 ps a, A9, c9, hk9.out.1, rfl, by go_num, hgo⟩
                    case measure => exact hm9
                  · have d2 : (wu == 0) = false := by simp [h0]
                    have h0' := Aside0.mk h0
                    clear h0
                    have hgo : Aside0 (QO X (wr.setCell ⟨bw, a.toNat, none⟩ (.int .i64 wu)) bw (wt3.set a.toNat wu) q3 (out ++ [x]) (.slice Aq3 q3.length cq3) (.slice A2 (out.length + 1) c2) ∧ KJ E m out x Lr (t + 1) (wt3.set a.toNat wu) q3) := by
                      have h9 := hG9.out.1
                      rw [if_neg h0'.out] at h9
                      exact ⟨hG9.out.2.1, h9⟩
                    have hm9 := hk9.out.2.1
                    have hw2 := hk8.out.1
                    clear hG9
                    go_wp2_with fail
                    go_roundg gt1
                    case rel => exact ⟨t + 1, wt3.set a.toNat wu, q3, Aq3, cq3, hk9.out.1, rfl, by go_num, hgo⟩
                    case measure => exact hm9
                · have htL : t = Lr.length := by omega
                  have htn : ¬ (t : Int) < (Lr.length : Int) := by omega
                  have hE : Aside0 (QO X wr bw wt3 q3 (out ++ [x]) (.slice Aq3 q3.length cq3) (.slice A2 (out ++ [x]).length c2) ∧ KI E m wt3 q3 (out ++ [x])) := by
                    have h9 := hJ.out.2
                    rw [htL] at h9
                    exact ⟨by rw [List.length_append]; exact hJ.out.1, h9.done hM.out.2.1 hM.out.1⟩
                  have hol : m ≤ (out ++ [x]).length + gj1 := by rw [List.length_append]; exact hb9.out.1
                  have hm9 := hb9.out.2.1
                  have hl9 := Aside0.mk (show out.length + 1 = (out ++ [x]).length by simp)
                  clear hJ ht htl htL
                  go_wp2_with fail
                  go_roundg gj1
                  case rel => exact ⟨wt3, q3, out ++ [x], Aq3, cq3, A2, c2, hol, rfl, by rw [← hl9.out], hE⟩
                  case measure => exact hm9
end Go.Proofs.Ytmlikgmcekofbaa
end

section
/- scc: clean, in plain lists. -/
set_option linter.unusedVariables false
set_option linter.unusedSimpArgs false
set_option linter.unusedSectionVars false
namespace Go.Proofs.Ytmlikgmcekofbaa
open Go.RowKit Go.Proofs.YtmlikgmcekofbaaW.PrintWords Go.Proofs.Ytmlikgmcekofbaa.PDigraphTells

/-- The row's nodes. -/
def keepN (G : List (List Int)) (l : List Int) : List Int := l.filter fun s => decide (isNode G s)
/-- The graph without edges to numbers that are not nodes. -/
def cleanG (G : List (List Int)) : List (List Int) := G.map (keepN G)
theorem keep_len (G : List (List Int)) (l : List Int) : (keepN G l).length ≤ l.length := List.length_filter_le _ _
theorem cleanG_len (G : List (List Int)) : (cleanG G).length = G.length := by simp [cleanG]
theorem isNode_clean {G : List (List Int)} {x : Int} : isNode (cleanG G) x ↔ isNode G x := by unfold isNode; rw [cleanG_len]
theorem clean_short {G : List (List Int)} (hs : short G) : short (cleanG G) := by
  refine ⟨by rw [cleanG_len]; exact hs.1, fun l hl => ?_⟩
  obtain ⟨l0, h0, rfl⟩ := List.mem_map.1 hl
  have := keep_len G l0
  have := hs.2 l0 h0
  omega
theorem clean_ok {G : List (List Int)} (hl : G.length ≤ 65536) : okG (cleanG G) := by
  refine chk_ok.2 ⟨by rw [cleanG_len]; exact hl, fun l h s hs => ?_⟩
  obtain ⟨l0, h0, rfl⟩ := List.mem_map.1 h
  exact isNode_clean.2 (of_decide_eq_true (List.mem_filter.1 hs).2)
theorem clean_adj {G : List (List Int)} {x : Int} (hx : isNode G x) : adj (cleanG G) x = keepN G (adj G x) := by
  have h0 := hx.1
  have h1 : x.toNat < G.length := by have := hx.2; omega
  have e : x = ((x.toNat : Nat) : Int) := (Int.toNat_of_nonneg h0).symm
  rw [e, adj_nat _ _ (by rw [cleanG_len]; exact h1), adj_nat _ _ h1]
  simp [cleanG]
theorem mem_clean {G : List (List Int)} {x y : Int} (hx : isNode G x) : y ∈ adj (cleanG G) x ↔ y ∈ adj G x ∧ isNode G y := by
  rw [clean_adj hx]
  unfold keepN
  rw [List.mem_filter]
  simp
theorem edges_clean (G : List (List Int)) : edges (cleanG G) ≤ edges G := by
  unfold edges cleanG
  have key : ∀ L : List (List Int), ((L.map (keepN G)).map List.length).sum ≤ (L.map List.length).sum := fun L => by
    induction L with
    | nil => simp
    | cons l L ih => have := keep_len G l; simp only [List.map_cons, List.sum_cons]; omega
  exact key G
/-- The table while row i is read up to j. -/
structure CV (G : List (List Int)) (o : List (List Int)) (i j : Nat) : Prop where
  len : o.length = G.length
  at_ : ∀ k (h : k < o.length), o[k] = if k < i then keepN G (G.getD k []) else if k = i then keepN G ((G.getD k []).take j) else []
theorem CV.start (G : List (List Int)) : CV G (List.replicate G.length []) 0 0 := by
  refine ⟨by simp, fun k h => ?_⟩
  simp [keepN]
section
variable {G o : List (List Int)} {i j : Nat}
theorem keep_snoc (G : List (List Int)) {l : List Int} (hj : j < l.length) : keepN G (l.take (j + 1)) = keepN G (l.take j) ++ if isNode G l[j] then [l[j]] else [] := by
  unfold keepN
  rw [List.take_succ_eq_append_getElem hj, List.filter_append]
  congr 1
  by_cases h : isNode G l[j] <;> simp [h]
theorem CV.skip (h : CV G o i j) (hi : i < G.length) (hj : j < G[i].length) (hn : ¬ isNode G G[i][j]) : CV G o i (j + 1) := by
  refine ⟨h.len, fun k hk => ?_⟩
  rw [h.at_ k hk]
  by_cases e : k = i
  · subst e
    have eg : G.getD k [] = G[k] := by simp [hi]
    rw [eg, keep_snoc G hj, if_neg hn, List.append_nil]
  · simp [e]
theorem CV.add (h : CV G o i j) (hi : i < G.length) (hj : j < G[i].length) (hn : isNode G G[i][j]) : CV G (o.set i (rd_L1 o (i : Int) ++ [G[i][j]])) i (j + 1) := by
  refine ⟨by rw [List.length_set]; exact h.len, fun k hk => ?_⟩
  rw [List.length_set] at hk
  have hio : i < o.length := by rw [h.len]; exact hi
  rw [List.getElem_set]
  by_cases e : i = k
  · subst e
    have eg : G.getD i [] = G[i] := by simp [hi]
    rw [if_pos rfl, rd1_get o i hio, h.at_ i hio, eg, keep_snoc G hj, if_pos hn]
    simp
  · rw [if_neg e, h.at_ k hk]
    simp [show ¬ k = i from fun e' => e e'.symm]
theorem CV.row (h : CV G o i j) (hi : i < G.length) (hj : j = G[i].length) : CV G o (i + 1) 0 := by
  refine ⟨h.len, fun k hk => ?_⟩
  rw [h.at_ k hk]
  have eg : G.getD i [] = G[i] := by simp [hi]
  by_cases e : k = i
  · subst e
    rw [if_neg (by omega), if_pos rfl, if_pos (by omega), hj, eg, List.take_length]
  · by_cases e2 : k < i
    · rw [if_pos e2, if_pos (by omega)]
    · rw [if_neg e2, if_neg e, if_neg (by omega)]
      split
      · simp [keepN]
      · rfl
theorem CV.done (h : CV G o G.length 0) : o = cleanG G := by
  refine List.ext_getElem (by rw [h.len, cleanG_len]) (fun k h1 h2 => ?_)
  have hk : k < G.length := by rw [← h.len]; exact h1
  rw [h.at_ k h1, if_pos hk]
  simp [cleanG, hk]
theorem CV.small (h : CV G o i j) (hi : i < G.length) (hs : short G) : (rd_L1 o (i : Int)).length ≤ G[i].length := by
  have hio : i < o.length := by rw [h.len]; exact hi
  have eg : G.getD i [] = G[i] := by simp [hi]
  rw [rd1_get o i hio, h.at_ i hio, if_neg (by omega), if_pos rfl, eg]
  have := keep_len G (G[i].take j)
  rw [List.length_take] at this
  omega
end
theorem cl_l1 {G : List (List Int)} (hs : short G) (hE : ∀ l ∈ G, l.length < 17592186044416) (i : Nat) (hi : i < G.length) (r : List (List Int) × Bool)
    (hK : ∀ o, CV G o (i + 1) 0 → Ev (fun k => scc_clean.l0 k G (G.length : Int) ((i + 1 : Nat) : Int) G o) r) :
    ∀ (e j : Nat) (o : List (List Int)), j + e = G[i].length → CV G o i j → Ev (fun k => scc_clean.l1 k (i : Int) G (G.length : Int) (i : Int) G[i] (G[i].length : Int) (j : Int) G o) r := by
  have hr := hs.2 _ (List.getElem_mem hi)
  have hr2 := hE _ (List.getElem_mem hi)
  intro e
  induction e with
  | zero =>
    intro j o hj h
    obtain rfl : j = G[i].length := by omega
    refine Ev.suc (fun k => ?_) (hK o (h.row hi rfl))
    simp only [scc_clean.l1]
    rw [if_neg (by omega), w64 i G.length hi hs.1]
  | succ e ih =>
    intro j o hj h
    have hlt : j < G[i].length := by omega
    by_cases hn : isNode G G[i][j]
    · have hsm := h.small hi hs
      have hl := h.len
      refine Ev.suc (fun k => ?_) (ih (j + 1) _ (by omega) (h.add hi hlt hn))
      simp only [scc_clean.l1]
      unfold isNode at hn
      rw [if_pos (by omega), if_pos (by omega), if_pos (by omega), rd_get _ j hlt, if_pos hn.1, if_pos hn.2, if_pos (by omega), if_pos (by rw [hl]; omega), if_pos (by omega), w64 j _ hlt hr, Int.toNat_natCast]
    · refine Ev.suc (fun k => ?_) (ih (j + 1) o (by omega) (h.skip hi hlt hn))
      simp only [scc_clean.l1]
      unfold isNode at hn
      rw [if_pos (by omega), if_pos (by omega), if_pos (by omega), rd_get _ j hlt, w64 j _ hlt hr]
      by_cases h0 : G[i][j] ≥ 0
      · rw [if_pos h0, if_neg (fun h1 => hn ⟨h0, h1⟩)]
      · rw [if_neg h0]
theorem cl_l0 {G : List (List Int)} (hs : short G) (hE : ∀ l ∈ G, l.length < 17592186044416) (hl : G.length ≤ 65536) : ∀ (e i : Nat) (o : List (List Int)), i + e = G.length → CV G o i 0 → Ev (fun k => scc_clean.l0 k G (G.length : Int) (i : Int) G o) (cleanG G, true) := by
  intro e
  induction e with
  | zero =>
    intro i o hi h
    obtain rfl : i = G.length := by omega
    have ho := h.done
    subst ho
    refine Ev.suc (h := fun k => (digraph_Check.f k (cleanG G)).bind fun t112 => some (cleanG G, (t112 == 0))) (fun k => ?_) ?_
    · simp only [scc_clean.l0]
      rw [if_neg (by omega)]
    · refine Ev.bind (chk_f (cleanG G) (clean_short hs)) ?_
      have hc : chk (cleanG G) = 0 := clean_ok hl
      rw [hc]
      exact Ev.ret _
  | succ e ih =>
    intro i o hi h
    have hlt : i < G.length := by omega
    refine Ev.suc (fun k => ?_) (cl_l1 hs hE i hlt (cleanG G, true) (fun o' h' => ih (i + 1) o' (by omega) h') G[i].length 0 o (by omega) h)
    simp only [scc_clean.l0]
    rw [if_pos (by omega), if_pos (by omega), if_pos (by omega), rd1_get G i hlt]
    rfl
theorem clean_f (G : List (List Int)) (hs : short G) (hE : ∀ l ∈ G, l.length < 17592186044416) (hl : G.length ≤ 65536) : Ev (fun k => scc_clean.f k G) (cleanG G, true) := by
  unfold scc_clean.f
  refine Ev.of (fun k => ?_) (cl_l0 hs hE hl G.length 0 _ (by omega) (CV.start G))
  rw [if_pos (by omega), if_pos (by omega), Int.toNat_natCast]
  rfl
theorem clean_any (A : Option Addr) (c : Nat) (G : List (List Int)) (w : World) (hC : Kd.C (Kd.slice 3 (Kd.int .i64)) w A G.length G) (hc : G.length ≤ c) (hs : short G) (hE : ∀ l ∈ G, l.length < 17592186044416) (hl : G.length ≤ 65536) :
    Calls Try.prog 18 #[.agg #[.slice A G.length c]] w fun e w' => ∃ v0_ : Value, e = .returned (.tuple #[.agg #[v0_], .bool true]) ∧ Kd.S (Kd.slice 3 (Kd.int .i64)) 29 w' w.heap.size (fun _ => True) v0_ (cleanG G) ∧ Below w.heap.size w w' := by
  obtain ⟨k, hk⟩ := (clean_f G hs hE hl).get
  exact scc_clean.calls k A c G _ _ w hC hc hk
end Go.Proofs.Ytmlikgmcekofbaa
end

section
/- scc: Components. -/
set_option linter.unusedVariables false
set_option linter.unusedSimpArgs false
set_option linter.unusedSectionVars false
namespace Go.Proofs.Ytmlikgmcekofbaa
open Go.RowKit Go.Proofs.YtmlikgmcekofbaaW.PrintWords Go.Proofs.Ytmlikgmcekofbaa.PDigraphTells Mem

/-- A graph of which this chapter speaks. -/
structure Sm (G : List (List Int)) : Prop where
  n : G.length ≤ 65536
  s : short G
  e : edges G ≤ 1000000
theorem Sm.row {G : List (List Int)} (h : Sm G) : ∀ l ∈ G, l.length < 17592186044416 := fun l hl => by
  have h1 : l.length ≤ edges G := row_le_edges G l hl
  have := h.e
  omega
/-- A list of lists in memory, in new blocks. -/
structure LL (w w' : World) (A : Option Addr) (c : Nat) (L : List (List Int)) : Prop where
  C : Kd.C kG w' A L.length L
  le : L.length ≤ c
  nil : L.length = 0 → A = none ∧ c = 0
  pos : 0 < L.length → ∃ a, A = some a
/-- What Components hands back. -/
def CMS (G : List (List Int)) (w : World) (e : Ending) (w' : World) : Prop := ∃ A c L, e = .returned (.slice A L.length c) ∧ LL w w' A c L ∧ IsC (cleanG G) L ∧ L.length ≤ G.length ∧ Below w.heap.size w w'
theorem Sq.nodup {E : EL} {m : Nat} {out : List Int} (h : Sq E m out) : out.Nodup := by
  unfold List.Nodup
  rw [List.pairwise_iff_getElem]
  intro i j hi hj hij e
  exact (h.st j hj).2.1 (by
    rw [← e]
    exact List.mem_take_iff_getElem.2 ⟨i, by omega, rfl⟩)
theorem fk_at {W : World} {ok : Nat → Prop} {A : Option Addr} {n c : Nat} {cs : List (List Int)} (h : Kd.S kG 29 W 0 ok (.slice A n c) cs) (i : Int) (h0 : 0 ≤ i) (h1 : i < n) :
    ∃ ad A0 c0, A = some ad ∧ W.cell? (ad.add i.toNat) = some (.slice A0 (rd_L1 cs i).length c0) ∧ Kd.FK kG W ok (rd_L1 cs i) [.slice A0 (rd_L1 cs i).length c0] := by
  have hn := (Kd.S_reads' h).1
  obtain ⟨ad, cl, e, hl, hK, hc⟩ := (Kd.F_rows (Kd.N_F (Kd.R_N (Kd.S_R h)))).get_ ([] : List Int) i h0 h1
  have hc : ∀ j u, cl[j]? = some u → W.cell? (ad.add (i.toNat * 1 + j)) = some u := hc
  obtain ⟨A0, c0, hcl, l0, g0⟩ := Kd.FK_now hK
  subst hcl
  exact ⟨ad, A0, c0, e, by have hq := hc 0 _ rfl; rwa [Nat.mul_one, Nat.add_zero] at hq, hK⟩
set_option maxRecDepth 100000 in
set_option maxHeartbeats 8000000 in
theorem comps_any (A : Option Addr) (c : Nat) (G : List (List Int)) (w : World) (hC : Kd.C kG w A G.length G) (hc : G.length ≤ c) (hG : Sm G) :
    Calls Try.prog 9 #[.agg #[.slice A G.length c]] w (CMS G w) := by
  have hX := Aside0.mk (And.intro hC (And.intro hc hG))
  clear hC hc hG
  go_enter Try.func9, Try.ntmps9
  go_wp2_with fail
  refine (clean_any A c G _ (Kd.C_alloc hX.out.1 _) hX.out.2.1 hX.out.2.2.s hX.out.2.2.row hX.out.2.2.n).mono ?_
  rintro e w2 ⟨v2, rfl, S2, B2⟩
  have B2' : Below w.heap.size w w2 := (below_alloc (Below.refl _ w) _).trans (B2.mono (by simp))
  obtain ⟨H, hH⟩ : ∃ H, cleanG G = H := ⟨_, rfl⟩
  rw [hH] at S2
  obtain ⟨A2, c2, ev, hc2, hC2⟩ := Kd.S_reads S2
  subst ev
  have hHo : okG H := by rw [← hH]; exact clean_ok hX.out.2.2.n
  have hHs : short H := by rw [← hH]; exact clean_short hX.out.2.2.s
  have hHe : edges H ≤ 1000000 := by rw [← hH]; exact Nat.le_trans (edges_clean G) hX.out.2.2.e
  have hHl : H.length = G.length := by rw [← hH]; exact cleanG_len G
  have h2 := Aside0.mk (And.intro hC2 (And.intro hc2 (And.intro hHo (And.intro hHs (And.intro hHe (And.intro hHl (And.intro hH B2')))))))
  clear S2 B2 B2' hC2 hc2 hHo hHs hHe hHl hH
  go_wp2_with fail
  have B3 : Below w2.heap.size w2 (w2.alloc (.cells #[.slice A2 H.length c2] 24)) := below_alloc (Below.refl _ w2) _
  have z3 : (w2.alloc (.cells #[.slice A2 H.length c2] 24)).heap[w2.heap.size]? = some (.cells #[.slice A2 H.length c2] 24 (0, 0)) := heap_alloc_new w2 _
  obtain ⟨w3, hw3⟩ : ∃ w3, w2.alloc (.cells #[.slice A2 H.length c2] 24) = w3 := ⟨_, rfl⟩
  rw [hw3] at B3 z3 ⊢
  clear hw3
  refine (components_any A2 c2 H w3 (Kd.C_below h2.out.1 B3) h2.out.2.1 h2.out.2.2.2.1 h2.out.2.2.1).mono ?_
  rintro e w4 ⟨v4, v5, cs, of, rfl, S4, R4, hI, B4⟩
  have c0 : w4.cell? ⟨w2.heap.size, 0, none⟩ = some (.slice A2 H.length c2) := cell_at ((B4.block _ (blk_lt' z3)).trans z3) rfl
  obtain ⟨A4, c4, ev, _⟩ := Kd.S_reads S4
  subst ev
  obtain ⟨A5, c5, ev, hc5, hC5⟩ := Kd.R_reads R4
  subst ev
  have h4 := Aside0.mk (And.intro S4 (And.intro hC5 (And.intro hI (And.intro B4 B3))))
  clear S4 R4 hI B4 B3 z3 hc5 hC5
  go_wp2_with fail
  have hC4 : Kd.C kG w4 A2 H.length H := Kd.C_below (Kd.C_below h2.out.1 h4.out.2.2.2.2) h4.out.2.2.2.1
  refine (sequence_any A2 c2 H A4 c4 cs A5 c5 of w4 hC4 h2.out.2.2.2.1 h2.out.2.2.1 h4.out.2.1 h4.out.2.2.1 h2.out.2.2.2.2.1).mono ?_
  rintro e w5 ⟨v6, out, E, rfl, R6, hEG, hSq, B5⟩
  obtain ⟨A6, c6, ev, hc6, hC6⟩ := Kd.R_reads R6
  subst ev
  have hoc : out.length ≤ cs.length := by
    have hnd : out.Nodup := hSq.nodup
    have := Grf.Tj.nodup_len out ((List.range cs.length).map fun (i : Nat) => (i : Int)) hnd (fun y hy => by
      have := hSq.rng y hy
      exact List.mem_map.2 ⟨y.toNat, List.mem_range.2 (by omega), by omega⟩)
    simpa using this
  have hcl := h4.out.2.2.1.len
  have hIs := h4.out.2.2.1.isC h2.out.2.2.1 hEG hSq
  have S5 := Kd.S_mono (Kd.S_bound (Kd.S_step h4.out.1 (fun k _ hlt => B5.block k hlt))) (ok' := fun k => w3.heap.size ≤ k ∧ k < w5.heap.size) (fun k hk => ⟨hk.1, hk.2.2.1⟩)
  have hB5 : Below w.heap.size w w5 := by
    have b0 := h2.out.2.2.2.2.2.2.2
    have b1 := b0.trans (h4.out.2.2.2.2.mono b0.size)
    have b2 := b1.trans (h4.out.2.2.2.1.mono b1.size)
    exact b2.trans (B5.mono b2.size)
  have hw3s : w.heap.size ≤ w3.heap.size := Nat.le_trans h2.out.2.2.2.2.2.2.2.size h4.out.2.2.2.2.size
  have h5 := Aside0.mk (And.intro S5 (And.intro hC6 (And.intro hIs (And.intro hSq.rng (And.intro hB5 (And.intro hw3s (show out.length ≤ G.length by have := h2.out.2.2.2.2.2.1; omega)))))))
  have hol6 : out.length ≤ 70000 := by have := hX.out.2.2.n; have := h2.out.2.2.2.2.2.1; omega
  have hI0 : Aside0 (Kd.N kG 29 w5 0 (fun k => w.heap.size ≤ k) (.slice none 0 0) ((out.take 0).map (rd_L1 cs)) ∧ Below w5.heap.size w5 w5 ∧ (∀ k, (Value.slice none 0 0).ownBlock = some k → w5.heap.size ≤ k) ∧ (0 = 0 → (none : Option Addr) = none ∧ 0 = 0)) := ⟨Kd.N_nil _ _ _ _ _, Below.refl _ _, fun k hk => by simp [Value.ownBlock] at hk, fun _ => ⟨rfl, rfl⟩⟩
  clear S5 hC6 hIs hSq hEG B5 R6 hc6 hoc hcl hB5 hw3s hC4 c0 h4
  go_wp2_with fail
  go_loopg [7, 27] out.length (fun z v7 v27 wi => ∃ (t : Nat) (Ao : Option Addr) (co : Nat), t + z = out.length ∧ v7 = .slice Ao t co ∧ v27 = .int .i64 (t : Int) ∧ Aside0 (Kd.N kG 29 wi 0 (fun k => w.heap.size ≤ k) (.slice Ao t co) ((out.take t).map (rd_L1 cs)) ∧ Below w5.heap.size w5 wi ∧ (∀ k, (Value.slice Ao t co).ownBlock = some k → w5.heap.size ≤ k) ∧ (t = 0 → Ao = none ∧ co = 0)))
  case atStart => exact ⟨0, none, 0, by omega, rfl, rfl, ⟨hI0.out.1, hI0.out.2.1, hI0.out.2.2.1, fun _ => ⟨rfl, rfl⟩⟩⟩
  case round =>
    obtain ⟨t, Ao, co, ht, rfl, rfl, hJ⟩ := hrel
    clear hI0
    by_cases hlt : t < out.length
    · have hlti : (t : Int) < (out.length : Int) := by omega
      obtain ⟨gk1, rfl⟩ : ∃ z, gk = z + 1 := ⟨gk - 1, by omega⟩
      have hw2 : wrap64 ((t : Int) + 1) = ((t + 1 : Nat) : Int) := by unfold wrap64; omega
      have hb9 := Aside0.mk (And.intro (show t + 1 + gk1 = out.length by omega) (show gk1 < gk1 + 1 by omega))
      obtain ⟨bd, eB, b0⟩ := Kd.at_int (Kd.C_below h5.out.2.1 hJ.out.2.1) (t : Int) (Int.natCast_nonneg _) hlti
      subst eB
      rw [rd_get out t hlt, Int.toNat_natCast] at b0
      obtain ⟨x, hx⟩ : ∃ x, out[t] = x := ⟨_, rfl⟩
      have hxr := h5.out.2.2.2.1 x (by rw [← hx]; exact List.getElem_mem hlt)
      rw [hx] at b0
      obtain ⟨hx0, hx1⟩ := hxr
      have Sr := Kd.S_step h5.out.1 (w1 := wr) (fun k hk hlt => hJ.out.2.1.block k hlt)
      obtain ⟨ad4, A0, c0, eA, r0, hFK⟩ := fk_at Sr x hx0 hx1
      subst eA
      obtain ⟨row, hrow⟩ : ∃ row, rd_L1 cs x = row := ⟨_, rfl⟩
      rw [hrow] at r0 hFK
      have htk : (out.take (t + 1)).map (rd_L1 cs) = (out.take t).map (rd_L1 cs) ++ [row] := by
        rw [List.take_succ_eq_append_getElem hlt, List.map_append, hx, ← hrow]; rfl
      have hln : ((out.take t).map (rd_L1 cs)).length = t := by rw [List.length_map, List.length_take]; omega
      have hQ := Aside0.mk (And.intro hJ.out.1 (And.intro hFK (And.intro htk (And.intro hln (And.intro hJ.out.2.1 hJ.out.2.2.1)))))
      clear hFK htk hln hJ Sr hx hrow ht hlt
      go_wp2_with (at_builtin; refine Kd.N_append kG (w0 := wr) 0 (by rfl) (.tmp 31) (.tmp 36) 22 29 (.slice none 0 0) 24 (by rfl) Try.underlying22 info29 rfl (by decide) (by decide) (.slice Ao t co) ((out.take t).map (rd_L1 cs)) row [.slice A0 row.length c0] (fun k => w.heap.size ≤ k) (fun k => w3.heap.size ≤ k ∧ k < w5.heap.size) (by rfl) (by rfl) hQ.out.2.1 (fun k hk => ⟨Nat.le_trans h5.out.2.2.2.2.2.1 hk.1, fun e => by have := hQ.out.2.2.2.2.2 k e.symm; omega⟩) (fun k hk => Nat.le_trans (Nat.le_trans h5.out.2.2.2.2.1.size hQ.out.2.2.2.2.1.size) hk) hQ.out.1 ((Kp.refl (fun _ => False) wr).belowB (fun _ h => h.elim) (Nat.zero_le _)) (Nat.zero_le _) (by rw [hQ.out.2.2.2.1]; omega) ?_; intro v1 wa hRA hBA hgA hatA; rw [← hQ.out.2.2.1] at hRA; obtain ⟨A7, c7, ev⟩ := Kd.N_slice hRA; rw [List.length_map, List.length_take, Nat.min_eq_left (by have := hb9.out.1; omega)] at ev; subst ev; have hown : ∀ k, (Value.slice A7 (t + 1) c7).ownBlock = some k → w5.heap.size ≤ k := (fun k hk => hatA.elim (fun e => hQ.out.2.2.2.2.2 k (e ▸ hk)) (fun ⟨b, e, hge⟩ => by (rw [e] at hk; injection hk with hk; have := hQ.out.2.2.2.2.1.size; omega))); have hE : Aside0 (Kd.N kG 29 wa 0 (fun k => w.heap.size ≤ k) (.slice A7 (t + 1) c7) ((out.take (t + 1)).map (rd_L1 cs)) ∧ Below w5.heap.size w5 wa ∧ (∀ k, (Value.slice A7 (t + 1) c7).ownBlock = some k → w5.heap.size ≤ k) ∧ (t + 1 = 0 → A7 = none ∧ c7 = 0)) := ⟨hRA, hQ.out.2.2.2.2.1.trans (((Kp.refl (fun k => w5.heap.size ≤ k) wr).grown hgA (fun k hk => .inl (hQ.out.2.2.2.2.2 k hk))).belowB (fun k hk => hk) hQ.out.2.2.2.2.1.size), hown, fun h => absurd h (Nat.succ_ne_zero t)⟩; clear hRA hBA hgA hatA hQ hown)
      go_roundg gk1
      case rel => exact ⟨t + 1, A7, c7, hb9.out.1, rfl, by go_num, hE⟩
      case measure => exact hb9.out.2
    · have hto : t = out.length := by omega
      have hni : ¬ (t : Int) < (out.length : Int) := by omega
      have hF : CMS G w (.returned (.slice Ao t co)) wr := by
        have hl : (out.map (rd_L1 cs)).length = out.length := List.length_map _
        have hN := hJ.out.1
        rw [hto, List.take_length] at hN
        obtain ⟨_, hle, hC⟩ := Kd.N_reads' hN
        rw [hto]
        refine ⟨Ao, co, out.map (rd_L1 cs), by rw [hl], ⟨hC, by rw [hl]; exact hle, fun h => hJ.out.2.2.2 (by rw [hl] at h; omega), fun h => ?_⟩, ?_, by rw [hl]; exact h5.out.2.2.2.2.2.2, h5.out.2.2.2.2.1.trans (hJ.out.2.1.mono h5.out.2.2.2.2.1.size)⟩
        · obtain ⟨g, cap, e, _⟩ := Kd.N_form hN h
          injection e with e _ _
          exact ⟨_, e⟩
        · rw [h2.out.2.2.2.2.2.2.1]; exact h5.out.2.2.1
      have hF' := Aside0.mk hF
      clear hF hJ hX h2 h5 ht hto hlt
      go_wp2
      go_ret
      exact hF'.out
end Go.Proofs.Ytmlikgmcekofbaa
end

section
/- scc: Index. -/
set_option linter.unusedVariables false
set_option linter.unusedSimpArgs false
set_option linter.unusedSectionVars false
namespace Go.Proofs.Ytmlikgmcekofbaa
open Go.RowKit Go.Proofs.YtmlikgmcekofbaaW.PrintWords Go.Proofs.Ytmlikgmcekofbaa.PDigraphTells Mem

theorem IsC.node {G : List (List Int)} {L : List (List Int)} (h : IsC G L) {k : Nat} (hk : k < L.length) {z : Int} (hz : z ∈ L[k]) : isNode G z := by
  obtain ⟨x, _, _, _, _, hp⟩ := h.st k hk
  exact ((hp.mem z).1 hz).1
theorem IsC.disj {G : List (List Int)} {L : List (List Int)} (h : IsC G L) {j k : Nat} (hj : j < k) (hk : k < L.length) {z : Int} (hz : z ∈ L[k]) (hz2 : z ∈ L[j]'(by omega)) : False := by
  obtain ⟨x, x1, x2, _, _, hp⟩ := h.st k hk
  obtain ⟨y, _, _, _, _, hq⟩ := h.st j (by omega)
  have e1 := ((hp.mem z).1 hz).2
  have e2 := ((hq.mem z).1 hz2).2
  have hx : x ∈ L[j]'(by omega) := (hq.mem x).2 ⟨x1, e2.1.trans e1.2, e1.1.trans e2.2⟩
  exact x2 (List.mem_flatten.2 ⟨L[j]'(by omega), List.mem_take_iff_getElem.2 ⟨j, by omega, rfl⟩, hx⟩)
theorem IsC.inj {G : List (List Int)} {L : List (List Int)} (h : IsC G L) {j k : Nat} (hj : j < L.length) (hk : k < L.length) {z : Int} (hz : z ∈ L[k]) (hz2 : z ∈ L[j]) : j = k := by
  rcases Nat.lt_trichotomy j k with h1 | h1 | h1
  · exact (h.disj h1 hk hz hz2).elim
  · exact h1
  · exact (h.disj h1 hj hz2 hz).elim
theorem IsC.row_len {G : List (List Int)} {L : List (List Int)} (h : IsC G L) {k : Nat} (hk : k < L.length) : L[k].length ≤ G.length := by
  obtain ⟨x, _, _, _, _, hp⟩ := h.st k hk
  exact sorted_len hp.srt (fun z hz => ((hp.mem z).1 hz).1)
/-- A row whose entry at each element of part k is f k. -/
structure IX {α : Type} (L : List (List Int)) (n : Nat) (d : α) (f : Nat → Int → α) (i j : Nat) (l : List α) : Prop where
  len : l.length = n
  at_ : ∀ k (hk : k < L.length), ∀ z ∈ L[k], (k < i ∨ k = i ∧ z ∈ L[k].take j) → l.getD z.toNat d = f k z
section
variable {α : Type} {G : List (List Int)} {L : List (List Int)} {d : α} {f : Nat → Int → α} {i j : Nat} {l : List α}
theorem IX.start (L : List (List Int)) (n : Nat) (d : α) (f : Nat → Int → α) (a : α) : IX L n d f 0 0 (List.replicate n a) :=
  ⟨by simp, fun k hk z hz h => by rcases h with h | h <;> simp at h⟩
theorem IX.put (hI : IsC G L) (h : IX L G.length d f i j l) (hi : i < L.length) (hj : j < L[i].length) : IX L G.length d f i (j + 1) (l.set (L[i][j]).toNat (f i L[i][j])) := by
  have hn := hI.node hi (List.getElem_mem hj)
  have h0 := hn.1
  have h1 := hn.2
  refine ⟨by rw [List.length_set]; exact h.len, fun k hk z hz hc => ?_⟩
  have hzn := hI.node hk hz
  by_cases e : z = L[i][j]
  · have hki : k = i := (hI.inj hi hk hz (by rw [e]; exact List.getElem_mem hj)).symm
    subst hki
    rw [e]
    have : (L[k][j]).toNat < l.length := by rw [h.len]; omega
    simp [this]
  · have hne : (L[i][j]).toNat ≠ z.toNat := by have := hzn.1; omega
    rw [List.getD_eq_getElem?_getD, List.getElem?_set_ne hne, ← List.getD_eq_getElem?_getD]
    refine h.at_ k hk z hz ?_
    rcases hc with hc | ⟨hc, hm⟩
    · exact .inl hc
    · subst hc
      rw [List.take_succ_eq_append_getElem hj] at hm
      rcases List.mem_append.1 hm with hm | hm
      · exact .inr ⟨rfl, hm⟩
      · exact absurd (by simpa using hm) e
theorem IX.row (h : IX L G.length d f i j l) (hi : i < L.length) (hj : L[i].length ≤ j) : IX L G.length d f (i + 1) 0 l := by
  refine ⟨h.len, fun k hk z hz hc => h.at_ k hk z hz ?_⟩
  rcases hc with hc | ⟨_, hc⟩
  · by_cases e : k = i
    · subst e; exact .inr ⟨rfl, by rw [List.take_of_length_le hj]; exact hz⟩
    · exact .inl (by omega)
  · simp at hc
theorem IX.uniq (hI : IsC G L) {l m : List α} (h : IX L G.length d f L.length 0 l) (k : IX L G.length d f L.length 0 m) : l = m := by
  refine List.ext_getElem (by rw [h.len, k.len]) (fun x h1 h2 => ?_)
  have hx : isNode G (x : Int) := ⟨by omega, by have := h.len; omega⟩
  obtain ⟨part, hp, hz⟩ := List.mem_flatten.1 (hI.all _ hx)
  obtain ⟨p, hpl, rfl⟩ := List.getElem_of_mem hp
  have e1 := h.at_ p hpl _ hz (.inl hpl)
  have e2 := k.at_ p hpl _ hz (.inl hpl)
  rw [Int.toNat_natCast] at e1 e2
  have e3 : l.getD x d = l[x] := by simp [h1]
  have e4 : m.getD x d = m[x] := by simp [h2]
  rw [← e3, ← e4, e1, e2]
end
theorem eql_nil (a : Option Addr) (l c : Nat) (w : World) : (binOp .eql 22 (.slice a l c) (.slice none 0 0)).run Try.prog w = .ok (.bool a.isNone) w := by
  have h := run_equal_slice_nil (P := Try.prog) w 22 29 a l c Try.underlying22
  simp [binOp, Sem.run_bind, h, Result.andThen_ok]
/-- What Index hands back. -/
def IDX (G : List (List Int)) (w : World) (e : Ending) (w' : World) : Prop := ∃ A c L l, e = .returned (.slice A l.length c) ∧ Kd.C (Kd.int .i64) w' A l.length l ∧ l.length ≤ c ∧ IsC (cleanG G) L ∧ IX L G.length 0 (fun k _ => (k : Int)) L.length 0 l ∧ L.length ≤ G.length ∧ Below w.heap.size w w'
theorem IsC.none_ {G : List (List Int)} (h : IsC G []) : G.length = 0 := by
  by_cases h0 : G.length = 0
  · exact h0
  · have := h.all 0 ⟨by omega, by omega⟩
    simp at this
theorem reads_raw {w : World} {b n : Nat} {l : List Int} (h : w.heap[b]? = some (.cells (aI l) 3 (0, 0))) (hn : l.length = n) (hm : n ≤ 1000000) : Kd.C (Kd.int .i64) w (some ⟨b, 0, none⟩) n l := by
  have := (Kd.R_reads' (own_raw (ok := fun _ => True) h hn hm trivial)).2.2
  rw [hn] at this
  exact this
set_option maxRecDepth 100000 in
set_option maxHeartbeats 8000000 in
theorem index_any (A : Option Addr) (c : Nat) (G : List (List Int)) (w : World) (hC : Kd.C kG w A G.length G) (hc : G.length ≤ c) (hG : Sm G) :
    Calls Try.prog 12 #[.agg #[.slice A G.length c]] w (IDX G w) := by
  have hX := Aside0.mk (And.intro hC (And.intro hc hG))
  have B0 : Below w.heap.size w (w.alloc (.cells #[.slice A G.length c] 24)) := below_alloc (Below.refl _ w) _
  have z0 : (w.alloc (.cells #[.slice A G.length c] 24)).heap[w.heap.size]? = some (.cells #[.slice A G.length c] 24 (0, 0)) := heap_alloc_new w _
  have hm := fun w => make_runI G.length (by have := hG.n; omega) w
  have hnn := hG.n
  have hX0 := Aside0.mk (And.intro B0 (And.intro z0 hm))
  clear hC hc hG B0 z0 hm
  go_enter Try.func12, Try.ntmps12
  go_wp2_with fail
  refine (comps_any A c G _ (Kd.C_below hX.out.1 hX0.out.1) hX.out.2.1 hX.out.2.2).mono ?_
  rintro e w2 ⟨A2, c2, L, rfl, hLL, hIs, hLn, B2⟩
  have c0 : w2.cell? ⟨w.heap.size, 0, none⟩ = some (.slice A G.length c) := cell_at ((B2.block _ (blk_lt' hX0.out.2.1)).trans hX0.out.2.1) rfl
  have hB2 := hX0.out.1.trans (B2.mono hX0.out.1.size)
  by_cases hL0 : L.length = 0
  · obtain ⟨rfl, rfl⟩ := hLL.nil hL0
    obtain rfl : L = [] := List.length_eq_zero_iff.1 hL0
    have hG0 := hIs.none_
    rw [cleanG_len] at hG0
    have hF : IDX G w (.returned (.slice none 0 0)) w2 := ⟨none, 0, [], [], rfl, (Kd.R_reads' (Kd.R_nil (Kd.int .i64) 3 w2 0 (fun _ => True))).2.2, Nat.le_refl _, hIs, ⟨by simp [hG0], fun k hk => by simp at hk⟩, by simp, hB2⟩
    have hF' := Aside0.mk hF
    have hq := fun w => eql_nil none 0 0 w
    simp only [Option.isNone_none] at hq
    clear hF hLL hIs hX hX0 hB2 c0
    go_wp2
    go_ret
    exact hF'.out
  · obtain ⟨ad, rfl⟩ := hLL.pos (by omega)
    have hmm := hX0.out.2.2
    have hK := Aside0.mk (And.intro hLL.C (And.intro hIs (And.intro hB2 hLn)))
    have hLm : L.length ≤ 65536 := by omega
    obtain ⟨bo, hbo⟩ : ∃ bo, w2.heap.size = bo := ⟨_, rfl⟩
    have hI0 : Aside0 ((w2.alloc (.cells (aI (List.replicate G.length 0)) 3)).heap[bo]? = some (.cells (aI (List.replicate G.length 0)) 3 (0, 0)) ∧ Below bo w2 (w2.alloc (.cells (aI (List.replicate G.length 0)) 3)) ∧ IX L G.length 0 (fun k _ => (k : Int)) 0 0 (List.replicate G.length 0)) := by
      rw [← hbo]
      exact ⟨heap_alloc_new w2 _, below_alloc (Below.refl _ w2) _, IX.start _ _ _ _ _⟩
    have hbo' := Aside0.mk hbo
    have hq := fun w => eql_nil (some ad) L.length c2 w
    simp only [Option.isNone_some] at hq
    clear hLL hIs hB2 hX0 hLn hL0 hbo
    go_wp2_with fail
    rw [hbo'.out]
    clear hmm hq c0
    obtain ⟨w3, hw3⟩ : ∃ w3, w2.alloc (.cells (aI (List.replicate G.length 0)) 3) = w3 := ⟨_, rfl⟩
    rw [hw3] at hI0 ⊢
    clear hw3
    go_loopg [19] L.length (fun z v wi => ∃ (i : Nat) (l : List Int), i + z = L.length ∧ v = .int .i64 (i : Int) ∧ Aside0 (wi.heap[bo]? = some (.cells (aI l) 3 (0, 0)) ∧ Below bo w2 wi ∧ IX L G.length 0 (fun k _ => (k : Int)) i 0 l))
    case atStart => exact ⟨0, _, by omega, rfl, hI0⟩
    case round =>
      obtain ⟨i, l, hi, rfl, hJ⟩ := hrel
      clear hI0
      by_cases hlt : i < L.length
      · have hlti : (i : Int) < (L.length : Int) := by omega
        obtain ⟨gk1, rfl⟩ : ∃ z, gk = z + 1 := ⟨gk - 1, by omega⟩
        have hw2 : wrap64 ((i : Int) + 1) = ((i + 1 : Nat) : Int) := by unfold wrap64; omega
        have hb9 := Aside0.mk (And.intro (show i + 1 + gk1 = L.length by omega) (And.intro (show gk1 < gk1 + 1 by omega) hw2))
        obtain ⟨ad2, A3, c3, eA, r0, rl, rC⟩ := at_L1 hK.out.1 (i : Int) (Int.natCast_nonneg _) hlti
        injection eA with eA
        subst eA
        rw [rd1_get L i hlt, Int.toNat_natCast] at r0
        rw [rd1_get L i hlt] at rl rC
        have hbl : Below w2.heap.size w2 wr := by have h9 := hJ.out.2.1; rw [← hbo'.out] at h9; exact h9
        replace r0 := (Below.cell hbl (World.block_lt_of_cell? _ _ r0)).trans r0
        have hrn := hK.out.2.1.row_len hlt
        rw [cleanG_len] at hrn
        obtain ⟨row, hrow⟩ : ∃ row, L[i] = row := ⟨_, rfl⟩
        rw [hrow] at r0 rl rC hrn
        have hrow' : Aside0 (∃ h : i < L.length, L[i] = row) := ⟨hlt, hrow⟩
        have hR := Aside0.mk rC
        have hrn2 : row.length ≤ 65536 := by omega
        have hJ0 : Aside0 (wr.heap[bo]? = some (.cells (aI l) 3 (0, 0)) ∧ Below bo w2 wr ∧ IX L G.length 0 (fun k _ => (k : Int)) i 0 l) := hJ
        clear rl rC hrow hJ hw2 hi hbl hlt
        obtain ⟨w4, rfl⟩ : ∃ w4 : World, w4 = wr := ⟨_, rfl⟩
        go_wp2_with fail
        clear r0
        go_loopg [26] row.length (fun z v wi => ∃ (j : Nat) (l : List Int), j + z = row.length ∧ v = .int .i64 (j : Int) ∧ Aside0 (wi.heap[bo]? = some (.cells (aI l) 3 (0, 0)) ∧ Below bo w2 wi ∧ IX L G.length 0 (fun k _ => (k : Int)) i j l))
        case atStart => exact ⟨0, _, by omega, rfl, hJ0⟩
        case round =>
          obtain ⟨j, l2, hj, rfl, hK2⟩ := hrel
          clear hJ0
          by_cases hjt : j < row.length
          · have hjti : (j : Int) < (row.length : Int) := by omega
            obtain ⟨gj1, rfl⟩ : ∃ z, gk = z + 1 := ⟨gk - 1, by omega⟩
            have hw2 : wrap64 ((j : Int) + 1) = ((j + 1 : Nat) : Int) := by unfold wrap64; omega
            have hbl : Below w2.heap.size w2 wr := by have h9 := hK2.out.2.1; rw [← hbo'.out] at h9; exact h9
            obtain ⟨bd, eB, b0⟩ := Kd.at_int (Kd.C_below hR.out hbl) (j : Int) (Int.natCast_nonneg _) hjti
            subst eB
            rw [rd_get row j hjt, Int.toNat_natCast] at b0
            obtain ⟨x, hx⟩ : ∃ x, row[j] = x := ⟨_, rfl⟩
            rw [hx] at b0
            obtain ⟨hil, hrow⟩ := hrow'.out
            have hxn : isNode (cleanG G) x := hK.out.2.1.node hil (by rw [hrow, ← hx]; exact List.getElem_mem hjt)
            have hx0 := hxn.1
            have hx1 := hxn.2
            rw [cleanG_len] at hx1
            have hll := hK2.out.2.2.len
            have y0 := cell_at (j := x.toNat) hK2.out.1 (aI_at hx0 (by rw [hll]; exact hx1))
            have y1 := free_at hK2.out.1 x.toNat
            have hput : IX L G.length 0 (fun k _ => (k : Int)) i (j + 1) (l2.set x.toNat (i : Int)) := by
              subst hrow
              have h9 := hK2.out.2.2
              rw [← cleanG_len G] at h9 ⊢
              have := IX.put hK.out.2.1 h9 hil hjt
              rw [hx] at this
              exact this
            have hE : Aside0 ((wr.setCell ⟨bo, x.toNat, none⟩ (.int .i64 (i : Int))).heap[bo]? = some (.cells (aI (l2.set x.toNat (i : Int))) 3 (0, 0)) ∧ Below bo w2 (wr.setCell ⟨bo, x.toNat, none⟩ (.int .i64 (i : Int))) ∧ IX L G.length 0 (fun k _ => (k : Int)) i (j + 1) (l2.set x.toNat (i : Int))) :=
              ⟨by rw [set_at hK2.out.1, aI_set], hK2.out.2.1.trans (((Kp.refl (fun k => k = bo) wr).setCell (p := ⟨bo, x.toNat, none⟩) (.inl rfl) _).belowB (fun k hk => Nat.le_of_eq hk.symm) (Nat.le_of_lt (blk_lt' hK2.out.1))), hput⟩
            have hk9 := Aside0.mk (And.intro (show j + 1 + gj1 = row.length by omega) (show gj1 < gj1 + 1 by omega))
            clear hbl hxn hll hput hK2 hil hrow hx hj hjt
            go_wp2_with fail
            go_roundg gj1
            case rel => exact ⟨j + 1, _, hk9.out.1, by go_num, hE⟩
            case measure => exact hk9.out.2
          · have hjr : j = row.length := by omega
            have hni : ¬ (j : Int) < (row.length : Int) := by omega
            have hE : Aside0 (wr.heap[bo]? = some (.cells (aI l2) 3 (0, 0)) ∧ Below bo w2 wr ∧ IX L G.length 0 (fun k _ => (k : Int)) (i + 1) 0 l2) := by
              obtain ⟨hil, hrow⟩ := hrow'.out
              exact ⟨hK2.out.1, hK2.out.2.1, hK2.out.2.2.row hil (by rw [hrow]; omega)⟩
            have hm9 := hb9.out.2.1
            have hw2 := hb9.out.2.2
            clear hK2 hj hjt hjr
            go_wp2_with fail
            go_roundg gk1
            case rel => exact ⟨i + 1, l2, hb9.out.1, by go_num, hE⟩
            case measure => exact hm9
      · have hin : i = L.length := by omega
        have hni : ¬ (i : Int) < (L.length : Int) := by omega
        have hF : IDX G w (.returned (.slice (some ⟨bo, 0, none⟩) G.length G.length)) wr := by
          have hI := hJ.out.2.2
          rw [hin] at hI
          have hbs := hK.out.2.2.1.size
          rw [hbo'.out] at hbs
          refine ⟨_, _, L, l, by rw [hI.len], ?_, by rw [hI.len]; exact Nat.le_refl _, hK.out.2.1, hI, hK.out.2.2.2, hK.out.2.2.1.trans (hJ.out.2.1.mono hbs)⟩
          rw [hI.len]
          exact reads_raw hJ.out.1 hI.len (by omega)
        have hF' := Aside0.mk hF
        clear hF hJ hK hX hlt hi hin
        go_wp2
        go_ret
        exact hF'.out
end Go.Proofs.Ytmlikgmcekofbaa
end

section
/- The library's functions that chapter 7 calls, and large. -/
set_option linter.unusedVariables false
set_option linter.unusedSimpArgs false
set_option linter.unusedSectionVars false
namespace Go.Proofs.Ytmlikgmcekofbaa
open Go.RowKit Go.Proofs.YtmlikgmcekofbaaW.PrintWords Go.Proofs.Ytmlikgmcekofbaa.PDigraphTells

theorem Ev.now {α : Type} {g : Nat → Option α} {r : α} (h : ∀ k, g (k + 1) = some r) : Ev g r := Ev.suc (h := fun _ => some r) h (Ev.ret r)
theorem index_l0 (l : List Int) (x : Int) (hl : l.length < 1000000000) : ∀ (d i : Nat), i + d = l.length → ∃ r, Ev (fun q => slices_Index_int_int.l0 q l x (l.length : Int) (i : Int)) r ∧ (0 ≤ r ↔ x ∈ l.drop i) := by
  intro d
  induction d with
  | zero =>
    intro i hi
    refine ⟨-1, Ev.now fun q => ?_, ?_⟩
    · rw [slices_Index_int_int.l0, if_neg (by omega)]
    · rw [List.drop_of_length_le (by omega)]; simp
  | succ d ih =>
    intro i hi
    have hlt : i < l.length := by omega
    rw [List.drop_eq_getElem_cons hlt]
    by_cases e : x = l[i]
    · refine ⟨(i : Int), Ev.now fun q => ?_, ?_⟩
      · rw [slices_Index_int_int.l0, if_pos (by omega), if_pos (by omega), if_pos (by omega), rd_get l i hlt, if_pos e]
      · exact ⟨fun _ => by rw [e]; exact List.mem_cons_self, fun _ => by omega⟩
    · obtain ⟨r, h1, h2⟩ := ih (i + 1) (by omega)
      refine ⟨r, Ev.suc (fun q => ?_) h1, ?_⟩
      · show slices_Index_int_int.l0 (q + 1) _ _ _ _ = _
        rw [slices_Index_int_int.l0, if_pos (by omega), if_pos (by omega), if_pos (by omega), rd_get l i hlt, if_neg e, w64 i l.length hlt (by omega)]
      · rw [h2, List.mem_cons]; simp [e]
theorem contains_f (l : List Int) (x : Int) (hl : l.length < 1000000000) : Ev (fun q => slices_Contains_int_int.f q l x) (decide (x ∈ l)) := by
  obtain ⟨r, h1, h2⟩ := index_l0 l x hl l.length 0 (Nat.zero_add _)
  rw [List.drop_zero] at h2
  have h3 : Ev (fun q => (slices_Index_int_int.f q l x).bind fun t110 => (some (decide (t110 ≥ 0)))) (decide (r ≥ 0)) := Ev.bind (G := fun _ t110 => some (decide (t110 ≥ 0))) h1 (Ev.ret _)
  rw [show decide (x ∈ l) = decide (r ≥ 0) from decide_eq_decide.2 h2.symm]
  exact h3
theorem rdB_get' (l : List Bool) (i : Nat) (h : i < l.length) : rdOf false l (i : Int) = l[i] := by simp [rdOf, h]
theorem eqI_l0 (l m : List Int) (h : l.length = m.length) (hl : l.length < 1000000000) : ∀ (d i : Nat), i + d = l.length → Ev (fun q => slices_Equal_int_int.l0 q l m (l.length : Int) (i : Int)) (decide (l.drop i = m.drop i)) := by
  intro d
  induction d with
  | zero =>
    intro i hi
    rw [List.drop_of_length_le (by omega), List.drop_of_length_le (by omega)]
    refine Ev.now fun q => ?_
    rw [slices_Equal_int_int.l0, if_neg (by omega)]; simp
  | succ d ih =>
    intro i hi
    have h1 : i < l.length := by omega
    have h2 : i < m.length := by omega
    rw [List.drop_eq_getElem_cons h1, List.drop_eq_getElem_cons h2]
    by_cases e : l[i] = m[i]
    · rw [show decide (l[i] :: l.drop (i + 1) = m[i] :: m.drop (i + 1)) = decide (l.drop (i + 1) = m.drop (i + 1)) from decide_eq_decide.2 ⟨fun hh => (List.cons.inj hh).2, fun hh => by rw [e, hh]⟩]
      refine Ev.suc (fun q => ?_) (ih (i + 1) (by omega))
      show slices_Equal_int_int.l0 (q + 1) _ _ _ _ = _
      rw [slices_Equal_int_int.l0, if_pos (by omega), if_pos (by omega), if_pos (by omega), if_pos (by omega), rd_get l i h1, rd_get m i h2, if_pos e, w64 i l.length h1 (by omega)]
    · refine Ev.now fun q => ?_
      rw [slices_Equal_int_int.l0, if_pos (by omega), if_pos (by omega), if_pos (by omega), if_pos (by omega), rd_get l i h1, rd_get m i h2, if_neg e, decide_eq_false (fun hh => e (List.cons.inj hh).1)]
theorem eqI_f (l m : List Int) (hl : l.length < 1000000000) : Ev (fun q => slices_Equal_int_int.f q l m) (decide (l = m)) := by
  unfold slices_Equal_int_int.f
  by_cases h : l.length = m.length
  · refine Ev.of (fun q => by rw [if_pos (by omega)]; rfl) (eqI_l0 l m h hl l.length 0 (Nat.zero_add _))
  · have : decide (l = m) = false := decide_eq_false (fun e => h (by rw [e]))
    rw [this]
    exact Ev.of (fun q => by rw [if_neg (by omega)]) (Ev.ret false)
theorem eqB_l0 (l m : List Bool) (h : l.length = m.length) (hl : l.length < 1000000000) : ∀ (d i : Nat), i + d = l.length → Ev (fun q => slices_Equal_bool_bool.l0 q l m (l.length : Int) (i : Int)) (decide (l.drop i = m.drop i)) := by
  intro d
  induction d with
  | zero =>
    intro i hi
    rw [List.drop_of_length_le (by omega), List.drop_of_length_le (by omega)]
    refine Ev.now fun q => ?_
    rw [slices_Equal_bool_bool.l0, if_neg (by omega)]; simp
  | succ d ih =>
    intro i hi
    have h1 : i < l.length := by omega
    have h2 : i < m.length := by omega
    rw [List.drop_eq_getElem_cons h1, List.drop_eq_getElem_cons h2]
    by_cases e : l[i] = m[i]
    · rw [show decide (l[i] :: l.drop (i + 1) = m[i] :: m.drop (i + 1)) = decide (l.drop (i + 1) = m.drop (i + 1)) from decide_eq_decide.2 ⟨fun hh => (List.cons.inj hh).2, fun hh => by rw [e, hh]⟩]
      refine Ev.suc (fun q => ?_) (ih (i + 1) (by omega))
      show slices_Equal_bool_bool.l0 (q + 1) _ _ _ _ = _
      rw [slices_Equal_bool_bool.l0, if_pos (by omega), if_pos (by omega), if_pos (by omega), if_pos (by omega), rdB_get' l i h1, rdB_get' m i h2, if_neg (by simp [e]), w64 i l.length h1 (by omega)]
    · refine Ev.now fun q => ?_
      rw [slices_Equal_bool_bool.l0, if_pos (by omega), if_pos (by omega), if_pos (by omega), if_pos (by omega), rdB_get' l i h1, rdB_get' m i h2, if_pos (by simp [e]), decide_eq_false (fun hh => e (List.cons.inj hh).1)]
theorem eqB_f (l m : List Bool) (hl : l.length < 1000000000) : Ev (fun q => slices_Equal_bool_bool.f q l m) (decide (l = m)) := by
  unfold slices_Equal_bool_bool.f
  by_cases h : l.length = m.length
  · refine Ev.of (fun q => by rw [if_pos (by omega)]; rfl) (eqB_l0 l m h hl l.length 0 (Nat.zero_add _))
  · have : decide (l = m) = false := decide_eq_false (fun e => h (by rw [e]))
    rw [this]
    exact Ev.of (fun q => by rw [if_neg (by omega)]) (Ev.ret false)
/-- What a graph is that large lets in. -/
def Sml (G : List (List Int)) : Prop := G.length ≤ 50 ∧ edges G ≤ 1000
theorem lg_l0 (G : List (List Int)) (hs : short G) : ∀ (d i : Nat) (x : Int), i + d = G.length → (G.length ≤ 50 → x = (edges (G.take i) : Nat) ∧ edges (G.take i) ≤ 200 * i) →
    ∃ b, Ev (fun q => burnishlaw07_large.l0 q x G (G.length : Int) (i : Int) G) b ∧ (b = false → Sml G) := by
  intro d
  induction d with
  | zero =>
    intro i x hi ha
    have e : G.take i = G := by rw [List.take_of_length_le (by omega)]
    rw [e] at ha
    by_cases h5 : (G.length : Int) > 50
    · refine ⟨true, Ev.now fun q => ?_, fun h => (by cases h)⟩
      rw [burnishlaw07_large.l0, if_neg (by omega), if_pos h5]
    · refine ⟨decide (x > 1000), Ev.now fun q => ?_, fun h => ?_⟩
      · rw [burnishlaw07_large.l0, if_neg (by omega), if_neg h5]
      · have := of_decide_eq_false h
        have := (ha (by omega)).1
        exact ⟨by omega, by omega⟩
  | succ d ih =>
    intro i x hi ha
    have hlt : i < G.length := by omega
    by_cases h2 : G[i].length > 200
    · refine ⟨true, Ev.now fun q => ?_, fun h => (by cases h)⟩
      rw [burnishlaw07_large.l0, if_pos (by omega), if_pos (by omega), if_pos (by omega), rd1_get G i hlt, if_pos (by omega)]
    · obtain ⟨b, h1, h3⟩ := ih (i + 1) (wrap64 (x + (G[i].length : Int))) (by omega) (fun h5 => by
        have h6 := ha h5
        have h7 : edges (G.take (i + 1)) = edges (G.take i) + G[i].length := by
          unfold edges
          rw [List.take_succ_eq_append_getElem hlt, List.map_append, List.sum_append]; simp
        rw [h7]
        unfold wrap64
        omega)
      refine ⟨b, Ev.suc (fun q => ?_) h1, h3⟩
      show burnishlaw07_large.l0 (q + 1) _ _ _ _ _ = _
      rw [burnishlaw07_large.l0, if_pos (by omega), if_pos (by omega), if_pos (by omega), rd1_get G i hlt, if_neg (by omega), w64 i G.length hlt hs.1]
theorem large_any (A : Option Addr) (c : Nat) (G : List (List Int)) (w : World) (hC : Kd.C (Kd.slice 3 (Kd.int .i64)) w A G.length G) (hc : G.length ≤ c) (hs : short G) :
    Calls Try.prog 7 #[.agg #[.slice A G.length c]] w fun e w' => ∃ b, e = .returned (.bool b) ∧ (b = false → Sml G) ∧ Below w.heap.size w w' := by
  obtain ⟨b, h1, h2⟩ := lg_l0 G hs G.length 0 0 (Nat.zero_add _) (fun _ => by simp [edges])
  obtain ⟨k, hk⟩ := h1.get
  exact (burnishlaw07_large.calls k A c G b w hC hc hk).mono fun e w' h => ⟨b, h.1, h2, h.2⟩
theorem contains_any (A : Option Addr) (c : Nat) (l : List Int) (x : Int) (w : World) (hC : Kd.C (Kd.int .i64) w A l.length l) (hc : l.length ≤ c) (hl : l.length < 1000000000) :
    Calls Try.prog 24 #[.slice A l.length c, .int .i64 x] w fun e w' => e = .returned (.bool (decide (x ∈ l))) ∧ ∃ q, w' = w.drewN q := by
  obtain ⟨k, hk⟩ := (contains_f l x hl).get
  exact (slices_Contains_int_int.calls k A c l x _ w hC hc hk).mono fun e w' h => ⟨h.1, h.2.out⟩
theorem equal_any (A : Option Addr) (c : Nat) (l : List Int) (B : Option Addr) (c2 : Nat) (m : List Int) (w : World) (hC : Kd.C (Kd.int .i64) w A l.length l) (hc : l.length ≤ c) (hD : Kd.C (Kd.int .i64) w B m.length m) (hd : m.length ≤ c2) (hl : l.length < 1000000000) :
    Calls Try.prog 11 #[.slice A l.length c, .slice B m.length c2] w fun e w' => e = .returned (.bool (decide (l = m))) ∧ ∃ q, w' = w.drewN q := by
  obtain ⟨k, hk⟩ := (eqI_f l m hl).get
  exact (slices_Equal_int_int.calls k A c l B c2 m _ w hC hc hD hd hk).mono fun e w' h => ⟨h.1, h.2.out⟩
theorem equalB_any (A : Option Addr) (c : Nat) (l : List Bool) (B : Option Addr) (c2 : Nat) (m : List Bool) (w : World) (hC : Kd.C Kd.bool w A l.length l) (hc : l.length ≤ c) (hD : Kd.C Kd.bool w B m.length m) (hd : m.length ≤ c2) (hl : l.length < 1000000000) :
    Calls Try.prog 14 #[.slice A l.length c, .slice B m.length c2] w fun e w' => e = .returned (.bool (decide (l = m))) ∧ ∃ q, w' = w.drewN q := by
  obtain ⟨k, hk⟩ := (eqB_f l m hl).get
  exact (slices_Equal_bool_bool.calls k A c l B c2 m _ w hC hc hD hd hk).mono fun e w' h => ⟨h.1, h.2.out⟩
end Go.Proofs.Ytmlikgmcekofbaa
end

