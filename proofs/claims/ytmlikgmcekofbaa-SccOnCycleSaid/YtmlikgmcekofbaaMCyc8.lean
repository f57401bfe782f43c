import Derived.Test.YtmlikgmcekofbaaMCyc7
section
/- scc: visit. -/
set_option linter.unusedVariables false
set_option linter.unusedSimpArgs false
set_option linter.unusedSectionVars false
namespace Go.Proofs.Ytmlikgmcekofbaa
open Go.RowKit Go.Proofs.YtmlikgmcekofbaaW.PrintWords Go.Proofs.Ytmlikgmcekofbaa.PDigraphTells Mem

theorem ty_ne {w : World} {a b t t' : Nat} {x y : Array Value} (h : w.heap[a]? = some (.cells x t (0, 0))) (k : w.heap[b]? = some (.cells y t' (0, 0))) (hne : t ≠ t') : a ≠ b := fun e => by
  subst e; rw [h] at k; injection k with k; injection k with _ k; exact hne k
/-- The search in memory: the finder, the captured pointer to it at fb, the calls xs (the last is the top) in v. -/
structure VI (G : List (List Int)) (A : Option Addr) (c : Nat) (w wr : World) (p b1 b2 b3 b4 fb : Nat) (vs : Value) (d : FD) (v : Value) (xs : List (Int × Nat)) : Prop where
  fs : FS G A c w wr p b1 b2 b3 b4 vs d
  fbc : wr.heap[fb]? = some (.cells #[.pointer (some ⟨p, 0, none⟩)] 48 (0, 0))
  fbn : w.heap.size ≤ fb
  row : Kd.R kF 58 wr 0 (fun k => v.ownBlock = some k) v xs
  rown : ∀ k, v.ownBlock = some k → w.heap.size ≤ k
section
variable {G : List (List Int)} {A : Option Addr} {c : Nat} {w wr W : World} {p b1 b2 b3 b4 fb : Nat} {vs vs' v : Value} {d d' : FD} {xs : List (Int × Nat)}
theorem FS.apartT (h : FS G A c w wr p b1 b2 b3 b4 vs d) {k t : Nat} {cs : Array Value} (hk : wr.heap[k]? = some (.cells cs t (0, 0))) (h3 : t ≠ 3) (h4 : t ≠ 4) (h5 : t ≠ 50) : ¬ FT p b1 b2 b3 b4 vs k ∧ k ≠ p ∧ k ≠ b1 ∧ k ≠ b2 ∧ k ≠ b3 ∧ k ≠ b4 ∧ vs.ownBlock ≠ some k := by
  have n0 := ty_ne hk h.cell h5
  have n1 := ty_ne hk h.h1 h3
  have n2 := ty_ne hk h.h2 h3
  have n3 := ty_ne hk h.h3 h4
  have n4 := ty_ne hk h.h4 h3
  have n5 : vs.ownBlock ≠ some k := fun e => by
    obtain ⟨cells, hc⟩ := own_typed h.st.1 k e
    exact ty_ne hk hc h3 rfl
  refine ⟨fun hf => ?_, n0, n1, n2, n3, n4, n5⟩
  rcases hf with e | e | e | e | e | e
  · exact n0 e
  · exact n1 e
  · exact n2 e
  · exact n3 e
  · exact n4 e
  · exact n5 e
theorem VI.rowT (h : VI G A c w wr p b1 b2 b3 b4 fb vs d v xs) (k : Nat) (hk : v.ownBlock = some k) : ¬ FT p b1 b2 b3 b4 vs k ∧ k ≠ p ∧ k ≠ b1 ∧ k ≠ b2 ∧ k ≠ b3 ∧ k ≠ b4 ∧ k ≠ fb := by
  obtain ⟨cells, hc⟩ := Kd.R_typed h.row k hk
  obtain ⟨n0, n1, n2, n3, n4, n5, _⟩ := h.fs.apartT hc (by decide) (by decide) (by decide)
  exact ⟨n0, n1, n2, n3, n4, n5, ty_ne hc h.fbc (by decide)⟩
/-- The finder's methods leave the calls alone. -/
theorem VI.fin (h : VI G A c w wr p b1 b2 b3 b4 fb vs d v xs) (hF : FS G A c w W p b1 b2 b3 b4 vs' d') (hk : Kp (FT p b1 b2 b3 b4 vs) wr W) : VI G A c w W p b1 b2 b3 b4 fb vs' d' v xs :=
  ⟨hF, hk.blk h.fbc (h.fs.apartT h.fbc (by decide) (by decide) (by decide)).1, h.fbn, Kd.R_step h.row (fun k hk1 hlt => hk.block hlt (h.rowT k hk1).1), h.rown⟩
theorem VI.step (h : VI G A c w wr p b1 b2 b3 b4 fb vs d v xs) (hb : Below wr.heap.size wr W) : VI G A c w W p b1 b2 b3 b4 fb vs d v xs := h.fin (h.fs.step hb) (Kp.of_below hb _)
theorem VI.form (h : VI G A c w wr p b1 b2 b3 b4 fb vs d v xs) (hp : 0 < xs.length) : ∃ g cc, v = .slice (some ⟨g, 0, none⟩) xs.length cc ∧ xs.length ≤ cc := by
  obtain ⟨g, cc, e, _⟩ := Kd.R_form h.row hp
  obtain ⟨A1, c1, e1, hle, _⟩ := Kd.R_reads h.row
  rw [e] at e1
  injection e1 with _ _ e2
  exact ⟨g, cc, e, by omega⟩
theorem VI.top {ys : List (Int × Nat)} {x : Int × Nat} {g cc L : Nat} (h : VI G A c w wr p b1 b2 b3 b4 fb vs d (.slice (some ⟨g, 0, none⟩) (L + 1) cc) (ys ++ [x])) (hL : ys.length = L) :
    wr.cell? ⟨g, L * 2, none⟩ = some (.int .i64 x.1) ∧ wr.cell? ⟨g, L * 2 + 1, none⟩ = some (.int .i64 (x.2 : Int)) ∧ wr.frozen? ⟨g, L * 2, none⟩ = false ∧ wr.frozen? ⟨g, L * 2 + 1, none⟩ = false := by
  subst hL
  have h1 := R_atF h.row ys.length (by simp)
  rw [getLast_app] at h1
  exact h1
theorem VI.next {ys : List (Int × Nat)} {n : Int} {i : Nat} {g cc L : Nat} (h : VI G A c w wr p b1 b2 b3 b4 fb vs d (.slice (some ⟨g, 0, none⟩) (L + 1) cc) (ys ++ [(n, i)])) (hL : ys.length = L) (t : Nat) :
    VI G A c w (wr.setCell ⟨g, L * 2 + 1, none⟩ (.int .i64 (t : Int))) p b1 b2 b3 b4 fb vs d (.slice (some ⟨g, 0, none⟩) (L + 1) cc) (ys ++ [(n, t)]) := by
  subst hL
  obtain ⟨h1, h2⟩ := R_nextF h.row ys.length (by simp) t
  rw [getLast_app, set_last] at h1
  obtain ⟨n0, n1, n2, n3, n4, n5, n6⟩ := h.rowT g rfl
  have hg := h.rown g rfl
  refine ⟨h.fs.apart h2 (fun k hk => ?_) (fun k hk e => ?_), h2.blk h.fbc (fun e => ?_), h.fbn, h1, h.rown⟩
  · simp only [Value.ownBlock, Option.some.injEq] at hk; subst hk; exact ⟨hg, n1, n2, n3, n4, n5⟩
  · simp only [Value.ownBlock, Option.some.injEq] at e; subst e; exact n0 (.inr (.inr (.inr (.inr (.inr hk)))))
  · simp only [Value.ownBlock, Option.some.injEq] at e; exact n6 e
theorem VI.push {x : Int × Nat} {v1 : Value} {ok : Nat → Prop} (h : VI G A c w wr p b1 b2 b3 b4 fb vs d v xs) (hR : Kd.R kF 58 W 0 ok v1 (xs ++ [x])) (hg : wr.grownBy W v.ownBlock) (hat : v1.ownBlock = v.ownBlock ∨ ∃ b, v1.ownBlock = some b ∧ wr.heap.size ≤ b) : VI G A c w W p b1 b2 b3 b4 fb vs d v1 (xs ++ [x]) := by
  have hk : Kp (fun k => v.ownBlock = some k) wr W := (Kp.refl _ wr).grown hg (fun k hk => .inl hk)
  refine ⟨h.fs.apart hk (fun k hk => ?_) (fun k hk e => (h.rowT k e).1 (.inr (.inr (.inr (.inr (.inr hk)))))), hk.blk h.fbc (fun e => (h.rowT fb e).2.2.2.2.2.2 rfl), h.fbn, ?_, fun k hk => ?_⟩
  · obtain ⟨n0, n1, n2, n3, n4, n5, n6⟩ := h.rowT k hk
    exact ⟨h.rown k hk, n1, n2, n3, n4, n5⟩
  · obtain ⟨h1, h2⟩ := hR
    exact ⟨fun k hk => hk, h2.imp_ (fun _ _ hp => by obtain rfl := kF_open (kF.K_of_M hp); exact kF_mkM _ _ _ _)⟩
  · rcases hat with e | ⟨b, e, hge⟩
    · exact h.rown k (e ▸ hk)
    · rw [e] at hk; injection hk with hk; have := h.fs.below.size; omega
theorem VI.pop {ys : List (Int × Nat)} {x : Int × Nat} {g cc L : Nat} (h : VI G A c w wr p b1 b2 b3 b4 fb vs d (.slice (some ⟨g, 0, none⟩) (L + 1) cc) (ys ++ [x])) (hL : ys.length = L) : VI G A c w wr p b1 b2 b3 b4 fb vs d (.slice (some ⟨g, 0, none⟩) L cc) ys := by
  subst hL
  have h2 := Kd.R_take (m := ys.length) h.row (by simp)
  rw [take_last] at h2
  exact ⟨h.fs, h.fbc, h.fbn, h2, h.rown⟩
theorem TI.cnt0 {G : List (List Int)} {d : FD} {C : List (Int × Nat)} {ct nx : Nat} (h : TI G d C ct nx) : (0 ≤ d.nxt ∧ d.nxt ≤ G.length) ∧ (0 ≤ d.cnt ∧ d.cnt ≤ G.length) ∧ d.stk.length ≤ G.length := by
  obtain ⟨h1, h2, h3⟩ := h.le
  rw [h.hn, h.hc]; omega
set_option maxRecDepth 100000 in
set_option maxHeartbeats 4000000 in
theorem visit_any {ct nx : Nat} (hC : Kd.C kG w A G.length G) (hs : short G) (hG : okG G) (h : FS G A c w wr p b1 b2 b3 b4 vs d) (hT : TI G d [] ct nx) (r : Int) (hr : isNode G r) (h0 : rd d.ord r = 0) :
    Calls Try.prog 27 #[.pointer (some ⟨p, 0, none⟩), .int .i64 r] wr fun e w' => e = .returned (.tuple #[]) ∧ ∃ vs' d' ct' nx', FS G A c w w' p b1 b2 b3 b4 vs' d' ∧ TI G d' [] ct' nx' ∧ visd d' r = true ∧ ∀ x, visd d x = true → visd d' x = true := by
  obtain ⟨q, hq⟩ : ∃ q, wr.heap.size = q := ⟨_, rfl⟩
  have hle := okG.len hG
  have hbx : (wr.alloc (.cells #[.pointer (some ⟨p, 0, none⟩)] 48)).cell? ⟨wr.heap.size, 0, none⟩ = some (.pointer (some ⟨p, 0, none⟩)) := cell_at (heap_alloc_new wr _) rfl
  rw [hq] at hbx
  have hX := Aside0.mk (And.intro hC (And.intro hs (And.intro hG (And.intro h (And.intro hT (And.intro hr h0))))))
  clear hC hs hG h hT hr h0
  go_enter Try.func27, Try.ntmps27
  go_wp2_with fail
  go_step3
  go_wp2_with fail
  obtain ⟨hb1, hb2, hb3⟩ := hX.out.2.2.2.2.1.cnt0
  refine (enter_any (hX.out.2.2.2.1.step (below_alloc (Below.refl _ wr) (.cells #[.pointer (some ⟨p, 0, none⟩)] 48))) r hX.out.2.2.2.2.2.1.1 hX.out.2.2.2.2.2.1.2 (by omega) (by omega)).mono ?_
  rintro e w2 ⟨rfl, vs2, hF2, hK2⟩
  obtain ⟨hT2, hc2, hv2, hv3⟩ := hX.out.2.2.2.2.1.begin hX.out.2.2.2.2.2.1 hX.out.2.2.2.2.2.2
  have hgn : (wr.alloc (.cells #[.pointer (some ⟨p, 0, none⟩)] 48)).heap[q]? = some (.cells #[.pointer (some ⟨p, 0, none⟩)] 48 (0, 0)) := by rw [← hq]; exact heap_alloc_new wr _
  have hqg : w.heap.size ≤ q := by rw [← hq]; exact hX.out.2.2.2.1.below.size
  have hfb : w2.heap[q]? = some (.cells #[.pointer (some ⟨p, 0, none⟩)] 48 (0, 0)) := hK2.blk hgn ((hX.out.2.2.2.1.step (below_alloc (Below.refl _ wr) (.cells #[.pointer (some ⟨p, 0, none⟩)] 48))).apartT hgn (by decide) (by decide) (by decide)).1
  have hI0 : Aside0 (VI G A c w (w2.alloc (.cells #[.int .i64 r, .int .i64 0] 58)) p b1 b2 b3 b4 q vs2 (d.ent r) (.slice (some ⟨w2.heap.size, 0, none⟩) 1 1) [(r, 0)] ∧ TI G (d.ent r) [(r, 0)] ct (nx + 1) ∧ visd (d.ent r) r = true ∧ ∀ x, visd d x = true → visd (d.ent r) x = true) := by
    refine ⟨⟨hF2.step (below_alloc (Below.refl _ w2) _), ?_, hqg, ?_, fun k hk => ?_⟩, hT2, hv3, hv2⟩
    · rw [Below.heap_alloc _ _ _ (blk_lt' hfb)]; exact hfb
    · have h1 := own_oneF w2 (r, 0)
      exact Kd.R_mono h1 (fun k hk => by rw [hk]; rfl)
    · simp only [Value.ownBlock, Option.some.injEq] at hk; subst hk; exact hF2.below.size
  obtain ⟨w9, rfl⟩ : ∃ w9 : World, w9 = wr := ⟨_, rfl⟩
  have hgS := hX.out.2.1
  clear hF2 hK2 hT2 hc2 hv2 hv3 hgn hqg hfb hbx hb1 hb2 hb3 hq
  go_wp2_with fail
  go_step3
  go_wp2
  go_loopg [5] (2 * Grf.cnt (nodes G) (visd (d.ent r)) + 1) (fun n v5 wi => ∃ (S : List (Int × Nat)) (vs' : Value) (d' : FD) (As : Option Addr) (cs nx' ct' : Nat), v5 = .slice As S.length cs ∧ 2 * Grf.cnt (nodes G) (visd d') + S.length ≤ n ∧ Aside0 (VI G A c w wi p b1 b2 b3 b4 q vs' d' (.slice As S.length cs) S.reverse ∧ TI G d' S ct' nx' ∧ visd d' r = true ∧ ∀ x, visd d x = true → visd d' x = true))
  case atStart => exact ⟨[(r, 0)], vs2, d.ent r, some ⟨w2.heap.size, 0, none⟩, 1, nx + 1, ct, rfl, by simp, hI0⟩
  case round =>
    obtain ⟨S, vs3, d3, As, cs, nx3, ct3, rfl, hM, hJ⟩ := hrel
    clear hI0
    cases S with
    | nil =>
      have hF : ∃ vs' d' ct' nx', FS G A c w wr p b1 b2 b3 b4 vs' d' ∧ TI G d' [] ct' nx' ∧ visd d' r = true ∧ ∀ x, visd d x = true → visd d' x = true := ⟨vs3, d3, ct3, nx3, hJ.out.1.fs, hJ.out.2⟩
      have hF' := Aside0.mk hF
      clear hF hJ hX hM hgS
      go_wp2
      simp only [Exit.noGoto]
      go_end0
      exact ⟨rfl, hF'.out⟩
    | cons top S' =>
      obtain ⟨n, i0⟩ := top
      obtain ⟨g, cc, ev, hcc⟩ := hJ.out.1.form (by simp)
      rw [List.length_reverse] at ev hcc
      injection ev with ev1 ev2 ev3
      subst ev1
      subst ev3
      obtain ⟨ys, hys⟩ : ∃ ys, S'.reverse = ys := ⟨_, rfl⟩
      have hSr : ((n, i0) :: S').reverse = ys ++ [(n, i0)] := by rw [List.reverse_cons, hys]
      have hSl : ((n, i0) :: S').length = S'.length + 1 := rfl
      have hyl : ys.length = S'.length := by rw [← hys, List.length_reverse]
      obtain ⟨L, hL⟩ : ∃ L, S'.length = L := ⟨_, rfl⟩
      have hJ1 := hJ.out.1
      rw [hSr, hSl, hL] at hJ1
      rw [hSl, hL] at hcc hM
      rw [hL] at hyl
      obtain ⟨m, rfl⟩ : ∃ m, gk = m + 1 := ⟨gk - 1, by omega⟩
      have hnn : isNode G n := hJ.out.2.1.callN List.mem_cons_self
      have hLb : L + 1 ≤ 1000000 := by
        have h1 := Grf.Tj.calls_len hJ.out.2.1.inv
        have h2 := hJ.out.2.1.cnt0.2.2
        rw [hSl, hL, List.length_reverse] at h1
        omega
      have hn2a := hnn.1
      have hn2b := hnn.2
      obtain ⟨row, hrow⟩ : ∃ row, rd_L1 G n = row := ⟨_, rfl⟩
      have hrl : row.length < 4611686018427387904 := by rw [← hrow]; exact hgS.2 _ (adj_mem hnn)
      have hI1 : Aside0 (VI G A c w wr p b1 b2 b3 b4 q vs3 d3 (.slice (some ⟨g, 0, none⟩) (L + 1) cs) (ys ++ [(n, i0)]) ∧ TI G d3 ((n, i0) :: S') ct3 nx3 ∧ visd d3 = visd d3) := ⟨hJ1, hJ.out.2.1, rfl⟩
      have hY := Aside0.mk (And.intro hys (And.intro hyl (And.intro hL (And.intro hrow (And.intro hnn (And.intro hJ.out.2.2 hM))))))
      have hw1 : wrap64 (L : Int) = (L : Int) := by unfold wrap64; omega
      rw [hSl, hL]
      clear hys hyl hL hJ hJ1 hSr hSl hrow hnn hM hgS
      go_wp2_with fail
      go_loopg [5] row.length (fun z v5 wi => ∃ (i : Nat) (vs4 : Value) (d4 : FD), v5 = .slice (some ⟨g, 0, none⟩) (L + 1) cs ∧ row.length ≤ i + z ∧ Aside0 (VI G A c w wi p b1 b2 b3 b4 q vs4 d4 (.slice (some ⟨g, 0, none⟩) (L + 1) cs) (ys ++ [(n, i)]) ∧ TI G d4 ((n, i) :: S') ct3 nx3 ∧ visd d4 = visd d3))
      case atStart => exact ⟨i0, vs3, d3, rfl, by omega, ⟨hI1.out.1, hI1.out.2.1, rfl⟩⟩
      case round =>
        obtain ⟨i, vs4, d4, rfl, hi, hJ⟩ := hrel
        clear hI1
        obtain ⟨t0, t1, t2, t3⟩ := hJ.out.1.top hY.out.2.1
        obtain ⟨ad, A1, c1, eA, r0, rl, rC⟩ := at_L1 (Kd.C_below hX.out.1 hJ.out.1.fs.below) n hn2a hn2b
        rw [hY.out.2.2.2.1] at r0 rl rC
        subst eA
        have cq := cell_at (j := 0) hJ.out.1.fbc rfl
        have cp := cell_at (j := 0) hJ.out.1.fs.cell rfl
        have hR := Aside0.mk (And.intro rC rl)
        clear rC rl
        by_cases hlt : i < row.length
        · have hlti : (i : Int) < row.length := by omega
          obtain ⟨gk1, rfl⟩ : ∃ z, gk = z + 1 := ⟨gk - 1, by omega⟩
          have hi2 : row.length ≤ i + 1 + gk1 := by omega
          have hm2 : gk1 < gk1 + 1 := by omega
          have hm3 : m < m + 1 := by omega
          obtain ⟨bd, eB, b0⟩ := Kd.at_int hR.out.1 (i : Int) (by omega) hlti
          rw [rd_get row i hlt, Int.toNat_natCast] at b0
          subst eB
          obtain ⟨s, hs⟩ : ∃ s, row[i] = s := ⟨_, rfl⟩
          have hsn0 : gk1 < gk1 + 1 ∧ row.length ≤ i + 1 + gk1 := ⟨hm2, hi2⟩
          rw [hs] at b0
          have had : i < (adj G n).length := by unfold adj; rw [hY.out.2.2.2.1]; exact hlt
          have hse : (adj G n)[i] = s := by unfold adj; simp only [hY.out.2.2.2.1]; exact hs
          have hsn : isNode G s := okG.adj hX.out.2.2.1 hY.out.2.2.2.2.1 (hse ▸ List.getElem_mem had)
          have hs' : Aside0 (∃ had : i < (adj G n).length, (adj G n)[i] = s ∧ isNode G s) := ⟨had, hse, hsn⟩
          have hs1 := hsn.1
          have hs2 := hsn.2
          clear hs hse hsn had
          have hw2 : wrap64 ((i : Int) + 1) = ((i + 1 : Nat) : Int) := w64 i row.length hlt hrl
          go_wp2_with fail
          go_quiet (fail)
          obtain ⟨z1, hz1⟩ : ∃ z1, z1 = nq := ⟨_, rfl⟩
          rw [← hz1]
          clear hz1
          go_wp2_with fail
          go_quiet (fail)
          obtain ⟨V, hV⟩ : ∃ V, (wr.drewN z1).drewN nq = V := ⟨_, rfl⟩
          have hJV : VI G (some ad) c w V p b1 b2 b3 b4 q vs4 d4 (.slice (some ⟨g, 0, none⟩) (L + 1) cs) (ys ++ [(n, i)]) := by
            rw [← hV]; exact hJ.out.1.step (below_drewN (below_drewN (Below.refl _ wr) _) _)
          have hT4 := hJ.out.2.1
          have hV4 := hJ.out.2.2
          have hN := hJV.next hY.out.2.1 (i + 1)
          rw [show ((i + 1 : Nat) : Int) = (i : Int) + 1 by omega] at hN
          rw [hV]
          clear t0 t1 t2 t3 r0 cq cp b0 hV hJ hlti
          obtain ⟨t0, t1, t2, t3⟩ := hJV.top hY.out.2.1
          have e0 := cell_at (j := 0) hN.fbc rfl
          obtain ⟨k0, k1, k2, k3, k4, k5, k6, k7⟩ := hN.fs.cs
          obtain ⟨o1, g1⟩ := hN.fs.o1 hs1 hs2
          obtain ⟨o3, g3⟩ := hN.fs.o3 hs1 hs2
          obtain ⟨o, ho⟩ : ∃ o, rd d4.ord s = o := ⟨_, rfl⟩
          rw [ho] at o1
          clear k0 k2 k4 k5 k6 k7 g1 g3 hJV
          have hZ := Aside0.mk (And.intro hN (And.intro hT4 (And.intro hV4 ho)))
          clear hN hT4 hV4 ho
          by_cases h0 : o = 0
          · have d2 : (o == 0) = true := by simp [h0]
            have h0' := Aside0.mk (And.intro h0 (And.intro hLb (And.intro hm3 hsn0)))
            clear h0 hi hi2 hm2 hrl hlt hn2a hn2b hcc hw1 k3 o3 hLb hm3 hsn0 t0 t2
            go_wp2_with fail
            obtain ⟨hb1, hb2, hb3⟩ := hZ.out.2.1.cnt0
            have hle := okG.len hX.out.2.2.1
            refine (enter_any hZ.out.1.fs s hs1 hs2 (by omega) (by omega)).mono ?_
            rintro e w3 ⟨rfl, vs5, hF3, hK3⟩
            have hE := hZ.out.1.fin hF3 hK3
            obtain ⟨had, hse, hsn⟩ := hs'.out
            obtain ⟨hT5, hc5, hv5, hv6⟩ := hZ.out.2.1.new hX.out.2.2.1 had hse (by rw [hZ.out.2.2.2]; exact h0'.out.1)
            have hP := Aside0.mk (And.intro hE (And.intro hT5 (And.intro hc5 hv5)))
            clear hF3 hK3 hE hT5 hc5 hv5 hv6 hsn k1 o1 d2 e0 t1 t3 hb1 hb2 hb3 hle
            have e9 : (ys ++ [(n, i + 1)] ++ [(s, 0)]).length = L + 2 := by simp [hY.out.2.1]
            have e8 : (ys ++ [(n, i + 1)]).length = L + 1 := by simp [hY.out.2.1]
            have e9' := Aside0.mk (And.intro e9 e8)
            clear e9 e8
            go_wp2_with (at_builtin; refine Kd.R_append kF (w0 := w3) 0 (by rfl) (.tmp 71) (.tmp 75) 60 58 (.agg #[.int .i64 0, .int .i64 0]) 16 (by rfl) Try.underlying60 infoF rfl (by decide) (by decide) (.slice (some ⟨g, 0, none⟩) (L + 1) cs) (ys ++ [(n, i + 1)]) (s, 0) [.int .i64 s, .int .i64 0] (fun k => (Value.slice (some ⟨g, 0, none⟩) (L + 1) cs).ownBlock = some k ∨ w3.heap.size ≤ k) (fun _ => False) (by rfl) (by rfl) (kF_mkM _ _ _ (s, 0)) (fun _ h => h.elim) (fun k hk => .inr hk) (Kd.R_mono hP.out.1.row (fun k hk => .inl hk)) ((Kp.refl (fun _ => False) w3).belowB (fun _ h => h.elim) (Nat.zero_le _)) (Nat.zero_le _) (by rw [e9'.out.2]; have := h0'.out.2.1; omega) ?_; intro v1 wa hRA hBA hgA hatA; have hE9 := hP.out.1.push hRA hgA hatA; obtain ⟨A4, c4, hv, _, _⟩ := Kd.R_reads hRA; rw [e9'.out.1] at hv; subst hv; have hE9' := Aside0.mk hE9; clear hRA hBA hgA hatA hE9)
            have hfin : 2 * Grf.cnt (nodes G) (visd (d4.ent s)) + ((s, 0) :: (n, i + 1) :: S').length ≤ m ∧ Aside0 (VI G (some ad) c w wa p b1 b2 b3 b4 q vs5 (d4.ent s) (.slice A4 ((s, 0) :: (n, i + 1) :: S').length c4) ((s, 0) :: (n, i + 1) :: S').reverse ∧ TI G (d4.ent s) ((s, 0) :: (n, i + 1) :: S') ct3 (nx3 + 1) ∧ visd (d4.ent s) r = true ∧ ∀ x, visd d x = true → visd (d4.ent s) x = true) := by
              have hl : ((s, 0) :: (n, i + 1) :: S').length = L + 2 := by simp [hY.out.2.2.1]
              have hv4 := hZ.out.2.2.1
              have hM := hY.out.2.2.2.2.2.2
              have hc := hP.out.2.2.1
              rw [hv4] at hc
              refine ⟨by omega, ?_, hP.out.2.1, hP.out.2.2.2 r (by rw [hv4]; exact hY.out.2.2.2.2.2.1.1), fun x hx => hP.out.2.2.2 x (by rw [hv4]; exact hY.out.2.2.2.2.2.1.2 x hx)⟩
              rw [hl, List.reverse_cons, List.reverse_cons, hY.out.1]
              exact hE9'.out
            have hm3 := h0'.out.2.2.1
            have hS9 : L + 2 = ((s, 0) :: (n, i + 1) :: S').length := by simp [hY.out.2.2.1]
            have hS9' := Aside0.mk hS9
            clear hE9' hP hS9
            go_roundg m
            case rel => exact ⟨(s, 0) :: (n, i + 1) :: S', vs5, d4.ent s, A4, c4, nx3 + 1, ct3, by rw [hS9'.out], hfin.1, hfin.2⟩
            case measure => exact hm3
          · have d2 : (o == 0) = false := by simp [h0]
            obtain ⟨t5, t6, _, _⟩ := hZ.out.1.top hY.out.2.1
            obtain ⟨bb, hbb⟩ : ∃ b, rdOf false d4.on s = b := ⟨_, rfl⟩
            rw [hbb] at o3
            have h0' := Aside0.mk (And.intro h0 (And.intro hbb hsn0))
            clear h0 hbb hi hi2 hm2 hm3 hrl hlt hn2a hn2b hcc hw1 hLb hsn0 t0 t2
            obtain ⟨had, hse, hsn⟩ := hs'.out
            cases bb with
            | false =>
              have hT5 := hZ.out.2.1.old hX.out.2.2.1 had hse (by rw [hZ.out.2.2.2]; exact h0'.out.1) h0'.out.2.1
              have hE9 : Aside0 (VI G (some ad) c w (V.setCell ⟨g, L * 2 + 1, none⟩ (.int .i64 ((i : Int) + 1))) p b1 b2 b3 b4 q vs4 d4 (.slice (some ⟨g, 0, none⟩) (L + 1) cs) (ys ++ [(n, i + 1)]) ∧ TI G d4 ((n, i + 1) :: S') ct3 nx3 ∧ visd d4 = visd d3) := ⟨hZ.out.1, hT5, hZ.out.2.2.1⟩
              clear hZ hT5 hsn had hse t5 t6
              go_wp2_with fail
              go_roundg gk1
              case rel => exact ⟨i + 1, vs4, d4, rfl, h0'.out.2.2.2, hE9⟩
              case measure => exact h0'.out.2.2.1
            | true =>
              have hT5 := hZ.out.2.1.lower hX.out.2.2.1 had hse h0'.out.2.1
              have hT5' := Aside0.mk hT5
              clear hT5 hsn had hse t6
              go_wp2_with fail
              refine still_tail 12 (by kernel_rfl) (by kernel_rfl) ?_
              simp only [List.take_succ_cons, List.take_zero, List.drop_succ_cons, List.drop_zero]
              repeat still_step
              refine wpStill_nil ?_
              go_wp2_with fail
              have hn := hY.out.2.2.2.2.1
              have hD9 := hZ.out.1.step (below_drew1 (Below.refl _ _))
              refine (lower_any hD9.fs q hD9.fbc n hn.1 hn.2 o).mono ?_
              rintro e w3 ⟨rfl, hF3, hK3⟩
              have hE := hD9.fin hF3 (hK3.mono (fun k hk => .inr (.inr (.inl hk))))
              have hE9 : Aside0 (VI G (some ad) c w w3 p b1 b2 b3 b4 q vs4 (d4.lo n o) (.slice (some ⟨g, 0, none⟩) (L + 1) cs) (ys ++ [(n, i + 1)]) ∧ TI G (d4.lo n o) ((n, i + 1) :: S') ct3 nx3 ∧ visd (d4.lo n o) = visd d3) := ⟨hE, by rw [← hZ.out.2.2.2]; exact hT5'.out, hZ.out.2.2.1⟩
              clear hF3 hK3 hE hT5' hZ hD9 t5 t3 t1 e0 k1 k3 o1 o3 d2
              go_wp2_with fail
              go_roundg gk1
              case rel => exact ⟨i + 1, vs4, d4.lo n o, rfl, h0'.out.2.2.2, hE9⟩
              case measure => exact h0'.out.2.2.1
        · have hlti : ¬ (i : Int) < row.length := by omega
          have hadl : (adj G n).length ≤ i := by unfold adj; rw [hY.out.2.2.2.1]; omega
          have hB9 := Aside0.mk (And.intro hadl (And.intro hLb (And.intro (show m < m + 1 by omega) hcc)))
          clear hadl hi hcc hrl hLb
          go_wp2_with fail
          go_quiet (fail)
          obtain ⟨V, hV⟩ : ∃ V, wr.drewN nq = V := ⟨_, rfl⟩
          have hJV : VI G (some ad) c w V p b1 b2 b3 b4 q vs4 d4 (.slice (some ⟨g, 0, none⟩) (L + 1) cs) (ys ++ [(n, i)]) := by
            rw [← hV]; exact hJ.out.1.step (below_drewN (Below.refl _ wr) _)
          have hT4 := hJ.out.2.1
          have hV4 := hJ.out.2.2
          rw [hV]
          clear t0 t1 t2 t3 r0 cq cp hV hJ hlti hlt
          obtain ⟨t0, t1, t2, t3⟩ := hJV.top hY.out.2.1
          have e0 := cell_at (j := 0) hJV.fbc rfl
          have hZ := Aside0.mk (And.intro hJV (And.intro hT4 hV4))
          clear hJV hT4 hV4 t1 t2 t3 hn2a hn2b
          go_wp2_with fail
          obtain ⟨hb1, hb2, hb3⟩ := hZ.out.2.1.cnt0
          have hle := okG.len hX.out.2.2.1
          obtain ⟨Lk, U, eU, hU⟩ := hZ.out.2.1.split
          obtain ⟨d5, hd5⟩ : ∃ d5, d5 = if rd d4.low n = rd d4.ord n then { d4.off Lk (n :: U).reverse with cnt := d4.cnt + 1 } else d4 := ⟨_, rfl⟩
          refine (leave_any hZ.out.1.fs n hY.out.2.2.2.2.1 Lk U eU hU (by omega) (by omega) d5 hd5).mono ?_
          rintro e' w3 ⟨rfl, vs5, hF3, hK3⟩
          have hE := (hZ.out.1.fin hF3 hK3).pop hY.out.2.1
          obtain ⟨ct5, hT5, hv5⟩ := hZ.out.2.1.leave hB9.out.1 eU d5 hd5
          have hQ := Aside0.mk (And.intro hE (And.intro hT5 (hv5.trans hZ.out.2.2)))
          have hm3 := hB9.out.2.2.1
          have hMm : 2 * Grf.cnt (nodes G) (visd (d5.par n S')) + S'.length ≤ m := by
            have hM := hY.out.2.2.2.2.2.2
            have hL := hY.out.2.2.1
            rw [hQ.out.2.2]; omega
          have hvis : visd (d5.par n S') r = true ∧ ∀ x, visd d x = true → visd (d5.par n S') x = true := by
            rw [hQ.out.2.2]; exact hY.out.2.2.2.2.2.1
          have hMm' := Aside0.mk (And.intro hMm (And.intro hvis hB9.out.2))
          clear hF3 hK3 hE hT5 hv5 hd5 eU hU t0 e0 hb1 hb2 hb3 hle hZ hMm hvis hB9 hm3
          rcases S' with _ | ⟨⟨u, j⟩, S2⟩
          · obtain rfl : L = 0 := hY.out.2.2.1.symm
            obtain rfl : ys = [] := hY.out.1.symm
            have hE9 : Aside0 (VI G (some ad) c w w3 p b1 b2 b3 b4 q vs5 d5 (.slice (some ⟨g, 0, none⟩) ([] : List (Int × Nat)).length cs) ([] : List (Int × Nat)).reverse ∧ TI G d5 [] ct5 nx3 ∧ visd d5 r = true ∧ ∀ x, visd d x = true → visd d5 x = true) := ⟨hQ.out.1, hQ.out.2.1, hMm'.out.2.1⟩
            have hm3 := hMm'.out.2.2.2.1
            clear hQ
            go_wp2_with fail
            go_roundg m
            case rel => exact ⟨[], vs5, d5, some ⟨g, 0, none⟩, cs, nx3, ct5, rfl, hMm'.out.1, hE9⟩
            case measure => exact hm3
          · obtain ⟨L2, hL2⟩ : ∃ L2, S2.length = L2 := ⟨_, rfl⟩
            have hLL : L = L2 + 1 := by have := hY.out.2.2.1; simp at this; omega
            have hys2 : ys = S2.reverse ++ [(u, j)] := by rw [← hY.out.1, List.reverse_cons]
            have hyl2 : S2.reverse.length = L2 := by rw [List.length_reverse, hL2]
            have hQ1 := hQ.out.1
            rw [hys2, hLL] at hQ1
            obtain ⟨t0, t1, t2, t3⟩ := hQ1.top hyl2
            have e0 := cell_at (j := 0) hQ1.fbc rfl
            obtain ⟨k0, k1, k2, k3, k4, k5, k6, k7⟩ := hQ1.fs.cs
            obtain ⟨hn1, hn2⟩ := hY.out.2.2.2.2.1
            obtain ⟨o2, g2⟩ := hQ1.fs.o2 hn1 hn2
            have hun : isNode G u := hQ.out.2.1.callN (c := (u, j)) List.mem_cons_self
            have hw2 : IntKind.i64.wrap ((L : Int) - 1) = (L2 : Int) := (IntKind.wrap_i64 _).trans (by have := hMm'.out.2.2.1; omega)
            have hc1 := hMm'.out.2.2.2.2
            have hc2 : (L : Int) ≤ (cs : Int) := by omega
            have hc3 : L ≤ cs := by omega
            clear hc1
            have hp9 : (0 : Int) < (L : Int) := by omega
            have hp8 : 0 < L := by omega
            have hp7 : (L2 : Int) < (L : Int) := by omega
            have hp6 : L2 < L := by omega
            have hLL' := Aside0.mk hLL
            clear hLL
            have hZ := Aside0.mk (And.intro hQ1 (And.intro hun (And.intro hys2 (And.intro hyl2 hL2))))
            clear hQ1 hun hys2 hyl2 k0 k1 k3 k4 k5 k6 k7 g2 t1 t2 t3 hL2
            go_wp2_with fail
            refine still_tail 15 (by kernel_rfl) (by kernel_rfl) ?_
            simp only [List.take_succ_cons, List.take_zero, List.drop_succ_cons, List.drop_zero]
            repeat still_step
            refine wpStill_nil ?_
            go_wp2_with fail
            have hD9 := hZ.out.1.step (below_drew1 (Below.refl _ _))
            refine (lower_any hD9.fs q hD9.fbc u hZ.out.2.1.1 hZ.out.2.1.2 (rd d5.low n)).mono ?_
            rintro e w4 ⟨rfl, hF4, hK4⟩
            have hE := hD9.fin hF4 (hK4.mono (fun k hk => .inr (.inr (.inl hk))))
            have hE9 : Aside0 (VI G (some ad) c w w4 p b1 b2 b3 b4 q vs5 (d5.par n ((u, j) :: S2)) (.slice (some ⟨g, 0, none⟩) ((u, j) :: S2).length cs) ((u, j) :: S2).reverse ∧ TI G (d5.par n ((u, j) :: S2)) ((u, j) :: S2) ct5 nx3 ∧ visd (d5.par n ((u, j) :: S2)) r = true ∧ ∀ x, visd d x = true → visd (d5.par n ((u, j) :: S2)) x = true) := by
              refine ⟨?_, hQ.out.2.1, hMm'.out.2.1⟩
              rw [List.reverse_cons, List.length_cons, hZ.out.2.2.2.2]
              exact hE
            have hm3 := hMm'.out.2.2.2.1
            have hl9 : L2 + 1 = ((u, j) :: S2).length := by rw [List.length_cons, hZ.out.2.2.2.2]
            have hl9' := Aside0.mk hl9
            clear hl9 hE hF4 hK4 hZ hD9 hQ t0 e0 k2 o2 hn1 hn2
            go_wp2_with fail
            go_roundg m
            case rel => exact ⟨(u, j) :: S2, vs5, d5.par n ((u, j) :: S2), some ⟨g, 0, none⟩, cs, nx3, ct5, by rw [← hl9'.out, hLL'.out], hMm'.out.1, hE9⟩
            case measure => exact hm3
end
end Go.Proofs.Ytmlikgmcekofbaa
end

section
/- The components numbered by their least node, in plain lists. -/
set_option linter.unusedVariables false
set_option linter.unusedSimpArgs false
set_option linter.unusedSectionVars false
namespace Go.Proofs.Ytmlikgmcekofbaa
open Go.RowKit Go.Proofs.YtmlikgmcekofbaaW.PrintWords Go.Proofs.Ytmlikgmcekofbaa.PDigraphTells Mem

theorem rdi_set {l : List Int} {s x : Int} (h0 : 0 ≤ s) (h : s < l.length) (hx : 0 ≤ x) (v : Int) : rd (l.set s.toNat v) x = if x = s then v else rd l x := by
  unfold rd
  by_cases e : x = s
  · subst e
    have h1 : x.toNat < l.length := by omega
    simp [h1]
  · rw [if_neg e]
    have h1 : s.toNat ≠ x.toNat := by omega
    simp [List.getD_eq_getElem?_getD, List.getElem?_set_ne h1]
theorem rd1_at (o : List (List Int)) (x : Int) : rd_L1 o x = o.getD x.toNat [] := rfl
theorem rdl_set {o : List (List Int)} {s x : Int} (h0 : 0 ≤ s) (h : s < o.length) (hx : 0 ≤ x) (v : List Int) : rd_L1 (o.set s.toNat v) x = if x = s then v else rd_L1 o x := by
  rw [rd1_at, rd1_at]
  by_cases e : x = s
  · subst e
    have h1 : x.toNat < o.length := by omega
    simp [h1]
  · rw [if_neg e]
    have h1 : s.toNat ≠ x.toNat := by omega
    simp [List.getD_eq_getElem?_getD, List.getElem?_set_ne h1]
theorem rdl_app {o : List (List Int)} {x : Int} (hx : 0 ≤ x) (v : List Int) : rd_L1 (o ++ [v]) x = if x = o.length then v else rd_L1 o x := by
  rw [rd1_at, rd1_at]
  by_cases e : x = o.length
  · subst e; simp
  · rw [if_neg e]
    by_cases h : x < o.length
    · have h1 : x.toNat < o.length := by omega
      simp [List.getD_eq_getElem?_getD, List.getElem?_append_left h1]
    · have h1 : ¬ x.toNat < (o ++ [v]).length := by simp; omega
      have h2 : ¬ x.toNat < o.length := by omega
      simp only [List.getD_eq_getElem?_getD, List.getElem?_eq_none (Nat.le_of_not_lt h1), List.getElem?_eq_none (Nat.le_of_not_lt h2)]
theorem rdi_rep {n : Nat} {x : Int} (hx : 0 ≤ x) (h : x < n) (v : Int) : rd (List.replicate n v) x = v := by
  unfold rd
  have h1 : x.toNat < n := by omega
  simp [h1]

structure NI (n : Nat) (comp : List Int) (cnt : Nat) (i : Nat) (num of : List Int) (out : List (List Int)) : Prop where
  nl : num.length = cnt
  ol : of.length = n
  a : ∀ j : Int, 0 ≤ j → j < i → rd num (rd comp j) = rd of j ∧ 0 ≤ rd of j ∧ rd of j < out.length
  b : ∀ j j' : Int, 0 ≤ j → j < i → 0 ≤ j' → j' < i → rd of j = rd of j' → rd comp j = rd comp j'
  c : ∀ k : Int, 0 ≤ k → k < cnt → (rd num k < 0 ∧ ∀ j : Int, 0 ≤ j → j < i → rd comp j ≠ k) ∨ (0 ≤ rd num k ∧ rd num k < out.length ∧ ∃ j : Int, 0 ≤ j ∧ j < i ∧ rd comp j = k ∧ rd of j = rd num k)
  mem : ∀ k : Int, 0 ≤ k → k < out.length → ∀ z, z ∈ rd_L1 out k ↔ 0 ≤ z ∧ z < i ∧ rd of z = k
  srt : ∀ k : Int, 0 ≤ k → k < out.length → (rd_L1 out k).Pairwise (· < ·) ∧ rd_L1 out k ≠ []
  ord : ∀ k k' : Int, 0 ≤ k → k < k' → k' < out.length → ∃ z ∈ rd_L1 out k, ∀ z' ∈ rd_L1 out k', z < z'
  ol2 : out.length ≤ i
section
variable {n : Nat} {comp : List Int} {cnt i : Nat} {num of : List Int} {out : List (List Int)}
theorem NI.start (n : Nat) (comp : List Int) (cnt : Nat) : NI n comp cnt 0 (List.replicate cnt (-1)) (List.replicate n 0) [] := by
  refine ⟨by simp, by simp, fun j h0 h1 => by omega, fun j j' h0 h1 => by omega, fun k h0 h1 => .inl ⟨by rw [rdi_rep h0 h1]; omega, fun j h2 h3 => by omega⟩, fun k h0 h1 => by simp at h1; omega, fun k h0 h1 => by simp at h1; omega, fun k k' h0 h1 h2 => by simp at h2; omega, by simp⟩
theorem pair_snoc {l : List Int} {x : Int} (h : l.Pairwise (· < ·)) (hx : ∀ z ∈ l, z < x) : (l ++ [x]).Pairwise (· < ·) := by
  rw [List.pairwise_append]
  exact ⟨h, List.pairwise_singleton _ _, fun a ha b hb => by simp at hb; rw [hb]; exact hx a ha⟩
theorem NI.old (h : NI n comp cnt i num of out) (hi : i < n) (hc : ∀ j : Int, 0 ≤ j → j < n → 0 ≤ rd comp j ∧ rd comp j < cnt) {k : Int} (hk : rd num (rd comp (i : Int)) = k) (h0 : 0 ≤ k) :
    k < out.length ∧ NI n comp cnt (i + 1) num (of.set i k) (out.set k.toNat (rd_L1 out k ++ [(i : Int)])) := by
  have hci := hc i (by omega) (by omega)
  rcases h.c (rd comp (i : Int)) hci.1 hci.2 with ⟨h1, _⟩ | ⟨h1, h2, j0, j1, j2, j3, j4⟩
  · omega
  rw [hk] at h2 j4
  refine ⟨h2, ?_⟩
  have eI : ((i : Int)).toNat = i := Int.toNat_natCast i
  have hof : ∀ x : Int, 0 ≤ x → rd (of.set i k) x = if x = (i : Int) then k else rd of x := fun x hx => by
    have := rdi_set (l := of) (s := (i : Int)) (by omega) (by rw [h.ol]; omega) hx k
    rwa [eI] at this
  have hout : ∀ x : Int, 0 ≤ x → rd_L1 (out.set k.toNat (rd_L1 out k ++ [(i : Int)])) x = if x = k then rd_L1 out k ++ [(i : Int)] else rd_L1 out x := fun x hx => rdl_set h0 h2 hx _
  have hol : (out.set k.toNat (rd_L1 out k ++ [(i : Int)])).length = out.length := List.length_set
  have hlt : ∀ x : Int, 0 ≤ x → x < out.length → ∀ z ∈ rd_L1 out x, z < (i : Int) := fun x hx hx2 z hz => ((h.mem x hx hx2 z).1 hz).2.1
  refine ⟨h.nl, by rw [List.length_set]; exact h.ol, fun j g0 g1 => ?_, fun j j' g0 g1 g2 g3 e => ?_, fun c g0 g1 => ?_, fun x g0 g1 z => ?_, fun x g0 g1 => ?_, fun x x' g0 g1 g2 => ?_, by rw [hol]; have := h.ol2; omega⟩
  · rw [hof j g0, hol]
    by_cases e : j = (i : Int)
    · rw [if_pos e, e, hk]; exact ⟨rfl, h0, h2⟩
    · rw [if_neg e]; exact h.a j g0 (by omega)
  · rw [hof j g0, hof j' g2] at e
    by_cases e1 : j = (i : Int) <;> by_cases e2 : j' = (i : Int)
    · rw [e1, e2]
    · rw [if_pos e1, if_neg e2] at e
      rw [e1, ← j3]
      exact h.b j0 j' j1 j2 g2 (by omega) (by rw [j4, e])
    · rw [if_neg e1, if_pos e2] at e
      rw [e2, ← j3]
      exact h.b j j0 g0 (by omega) j1 j2 (by rw [j4, e])
    · rw [if_neg e1, if_neg e2] at e
      exact h.b j j' g0 (by omega) g2 (by omega) e
  · rcases h.c c g0 g1 with ⟨q1, q2⟩ | ⟨q1, q2, q3, q4, q5, q6, q7⟩
    · refine .inl ⟨q1, fun j r0 r1 => ?_⟩
      by_cases e : j = (i : Int)
      · rw [e]; intro e3; rw [e3] at hk; omega
      · exact q2 j r0 (by omega)
    · rw [hol]
      exact .inr ⟨q1, q2, q3, q4, by omega, q6, by rw [hof q3 q4, if_neg (by omega)]; exact q7⟩
  · rw [hol] at g1
    rw [hout x g0]
    by_cases hzz : z = (i : Int)
    · rw [hzz, hof _ (by omega), if_pos rfl]
      by_cases e : x = k
      · rw [if_pos e, e]; simp; omega
      · rw [if_neg e, h.mem x g0 g1]
        constructor
        · intro hh; omega
        · intro hh; omega
    · have h9 : z ∈ (if x = k then rd_L1 out k ++ [(i : Int)] else rd_L1 out x) ↔ z ∈ rd_L1 out x := by
        by_cases e : x = k
        · rw [if_pos e, e]; simp [hzz]
        · rw [if_neg e]
      rw [h9, h.mem x g0 g1]
      constructor
      · rintro ⟨r1, r2, r3⟩; exact ⟨r1, by omega, by rw [hof z r1, if_neg hzz]; exact r3⟩
      · rintro ⟨r1, r2, r3⟩; rw [hof z r1, if_neg hzz] at r3; exact ⟨r1, by omega, r3⟩
  · rw [hol] at g1
    rw [hout x g0]
    by_cases e : x = k
    · rw [if_pos e]
      exact ⟨pair_snoc (h.srt k h0 h2).1 (hlt k h0 h2), by simp⟩
    · rw [if_neg e]; exact h.srt x g0 g1
  · rw [hol] at g2
    obtain ⟨z, hz, hzz⟩ := h.ord x x' g0 g1 g2
    have hzi := hlt x g0 (by omega) z hz
    refine ⟨z, ?_, fun z' hz' => ?_⟩
    · rw [hout x g0]
      by_cases e : x = k
      · rw [if_pos e, ← e]; simp [hz]
      · rw [if_neg e]; exact hz
    · rw [hout x' (by omega)] at hz'
      by_cases e : x' = k
      · rw [if_pos e, ← e] at hz'
        rcases List.mem_append.1 hz' with h3 | h3
        · exact hzz z' h3
        · simp at h3; rw [h3]; exact hzi
      · rw [if_neg e] at hz'; exact hzz z' hz'
theorem NI.new (h : NI n comp cnt i num of out) (hi : i < n) (hc : ∀ j : Int, 0 ≤ j → j < n → 0 ≤ rd comp j ∧ rd comp j < cnt) (hk : rd num (rd comp (i : Int)) < 0) :
    NI n comp cnt (i + 1) (num.set (rd comp (i : Int)).toNat (out.length : Int)) (of.set i (out.length : Int)) (out ++ [[(i : Int)]]) := by
  have hci := hc i (by omega) (by omega)
  obtain ⟨c0, hc0⟩ : ∃ c0, rd comp (i : Int) = c0 := ⟨_, rfl⟩
  rw [hc0] at hk hci ⊢
  have hno : ∀ j : Int, 0 ≤ j → j < i → rd comp j ≠ c0 := by
    rcases h.c c0 hci.1 hci.2 with ⟨_, h2⟩ | ⟨h1, _⟩
    · exact h2
    · omega
  have eI : ((i : Int)).toNat = i := Int.toNat_natCast i
  have hof : ∀ x : Int, 0 ≤ x → rd (of.set i (out.length : Int)) x = if x = (i : Int) then (out.length : Int) else rd of x := fun x hx => by
    have := rdi_set (l := of) (s := (i : Int)) (by omega) (by rw [h.ol]; omega) hx (out.length : Int)
    rwa [eI] at this
  have hnum : ∀ x : Int, 0 ≤ x → rd (num.set c0.toNat (out.length : Int)) x = if x = c0 then (out.length : Int) else rd num x := fun x hx => rdi_set hci.1 (by rw [h.nl]; exact hci.2) hx _
  have hout : ∀ x : Int, 0 ≤ x → rd_L1 (out ++ [[(i : Int)]]) x = if x = out.length then [(i : Int)] else rd_L1 out x := fun x hx => rdl_app hx _
  have hol : (out ++ [[(i : Int)]]).length = out.length + 1 := by simp
  refine ⟨by rw [List.length_set]; exact h.nl, by rw [List.length_set]; exact h.ol, fun j g0 g1 => ?_, fun j j' g0 g1 g2 g3 e => ?_, fun c g0 g1 => ?_, fun x g0 g1 z => ?_, fun x g0 g1 => ?_, fun x x' g0 g1 g2 => ?_, by rw [hol]; have := h.ol2; omega⟩
  · have hcj := hc j g0 (by omega)
    rw [hof j g0, hnum _ hcj.1, hol]
    by_cases e : j = (i : Int)
    · rw [if_pos e, e, hc0, if_pos rfl]; exact ⟨rfl, by omega, by omega⟩
    · rw [if_neg e, if_neg (hno j g0 (by omega))]
      obtain ⟨q1, q2, q3⟩ := h.a j g0 (by omega)
      exact ⟨q1, q2, by omega⟩
  · rw [hof j g0, hof j' g2] at e
    by_cases e1 : j = (i : Int) <;> by_cases e2 : j' = (i : Int)
    · rw [e1, e2]
    · rw [if_pos e1, if_neg e2] at e
      have := (h.a j' g2 (by omega)).2.2; omega
    · rw [if_neg e1, if_pos e2] at e
      have := (h.a j g0 (by omega)).2.2; omega
    · rw [if_neg e1, if_neg e2] at e
      exact h.b j j' g0 (by omega) g2 (by omega) e
  · rw [hnum c g0, hol]
    by_cases e : c = c0
    · rw [if_pos e]
      exact .inr ⟨by omega, by omega, (i : Int), by omega, by omega, by rw [hc0, e], by rw [hof _ (by omega), if_pos rfl]⟩
    · rw [if_neg e]
      rcases h.c c g0 g1 with ⟨q1, q2⟩ | ⟨q1, q2, q3, q4, q5, q6, q7⟩
      · refine .inl ⟨q1, fun j r0 r1 => ?_⟩
        by_cases e2 : j = (i : Int)
        · rw [e2, hc0]; exact fun e3 => e e3.symm
        · exact q2 j r0 (by omega)
      · exact .inr ⟨q1, by omega, q3, q4, by omega, q6, by rw [hof q3 q4, if_neg (by omega)]; exact q7⟩
  · rw [hol] at g1
    rw [hout x g0]
    by_cases e : x = out.length
    · rw [if_pos e]
      constructor
      · intro hz; simp at hz; rw [hz, hof _ (by omega), if_pos rfl]; omega
      · rintro ⟨r1, r2, r3⟩
        rw [hof z r1] at r3
        by_cases e2 : z = (i : Int)
        · simp [e2]
        · rw [if_neg e2] at r3
          have := (h.a z r1 (by omega)).2.2; omega
    · rw [if_neg e, h.mem x g0 (by omega)]
      constructor
      · rintro ⟨r1, r2, r3⟩; exact ⟨r1, by omega, by rw [hof z r1, if_neg (by omega)]; exact r3⟩
      · rintro ⟨r1, r2, r3⟩
        rw [hof z r1] at r3
        by_cases e2 : z = (i : Int)
        · rw [if_pos e2] at r3; omega
        · rw [if_neg e2] at r3; exact ⟨r1, by omega, r3⟩
  · rw [hol] at g1
    rw [hout x g0]
    by_cases e : x = out.length
    · rw [if_pos e]; exact ⟨List.pairwise_singleton _ _, by simp⟩
    · rw [if_neg e]; exact h.srt x g0 (by omega)
  · rw [hol] at g2
    rw [hout x g0, hout x' (by omega), if_neg (by omega)]
    by_cases e : x' = out.length
    · rw [if_pos e]
      obtain ⟨z, hz⟩ := List.exists_mem_of_ne_nil _ (h.srt x g0 (by omega)).2
      have := ((h.mem x g0 (by omega) z).1 hz).2.1
      exact ⟨z, hz, fun z' hz' => by simp at hz'; omega⟩
    · rw [if_neg e]; exact h.ord x x' g0 g1 (by omega)
end

/-- The components of a graph, by their least node, and each node's. -/
structure CI (G : List (List Int)) (cs : List (List Int)) (of : List Int) : Prop where
  ol : of.length = G.length
  rng : ∀ x, isNode G x → 0 ≤ rd of x ∧ rd of x < cs.length
  mem : ∀ k : Int, 0 ≤ k → k < cs.length → ∀ z, z ∈ rd_L1 cs k ↔ isNode G z ∧ rd of z = k
  srt : ∀ k : Int, 0 ≤ k → k < cs.length → (rd_L1 cs k).Pairwise (· < ·) ∧ rd_L1 cs k ≠ []
  ord : ∀ k k' : Int, 0 ≤ k → k < k' → k' < cs.length → ∃ z ∈ rd_L1 cs k, ∀ z' ∈ rd_L1 cs k', z < z'
  eqv : ∀ x y, isNode G x → isNode G y → (rd of x = rd of y ↔ Grf.Reach (adj G) x y ∧ Grf.Reach (adj G) y x)
  len : cs.length ≤ G.length
theorem NI.done {G : List (List Int)} {comp : List Int} {cnt : Nat} {num of : List Int} {out : List (List Int)} (h : NI G.length comp cnt G.length num of out) (he : ∀ x y, isNode G x → isNode G y → (rd comp x = rd comp y ↔ Grf.Reach (adj G) x y ∧ Grf.Reach (adj G) y x)) : CI G out of :=
  ⟨h.ol, fun x hx => (h.a x hx.1 hx.2).2, fun k h0 h1 z => by rw [h.mem k h0 h1 z]; exact ⟨fun hh => ⟨⟨hh.1, hh.2.1⟩, hh.2.2⟩, fun hh => ⟨hh.1.1, hh.1.2, hh.2⟩⟩, h.srt, h.ord,
    fun x y hx hy => by
      rw [← he x y hx hy]
      exact ⟨fun e => h.b x y hx.1 hx.2 hy.1 hy.2 e, fun e => by rw [← (h.a x hx.1 hx.2).1, ← (h.a y hy.1 hy.2).1, e]⟩, h.ol2⟩
end Go.Proofs.Ytmlikgmcekofbaa
end

section
/- A sorted queue: slices.BinarySearch and slices.Insert on it. -/
set_option linter.unusedVariables false
set_option linter.unusedSimpArgs false
set_option linter.unusedSectionVars false
namespace Go.Proofs.Ytmlikgmcekofbaa
open Go.RowKit Go.Proofs.YtmlikgmcekofbaaW.PrintWords Go.Proofs.Ytmlikgmcekofbaa.PDigraphTells Mem

/-- v is a queue that holds q, in a block that satisfies ok. -/
def QS (w : World) (ok : Nat → Prop) (v : Value) (q : List Int) : Prop :=
  ∃ A cap, v = .slice A q.length cap ∧ q.length ≤ cap ∧ cap ≤ maxLen ∧ (0 < cap → ∃ g off cur, A = some ⟨g, off, none⟩ ∧ ok g ∧ w.heap[g]? = some (.cells cur 3 (0, 0)) ∧ cur.size = off + cap ∧ ∀ j (h : j < q.length), cur[off + j]? = some (.int .i64 q[j]))
section
variable {w W : World} {ok ok' : Nat → Prop} {v : Value} {q : List Int}
theorem QS.step (h : QS w ok v q) (hm : ∀ k, ok k → k < w.heap.size → W.heap[k]? = w.heap[k]?) : QS W ok v q := by
  obtain ⟨A, cap, rfl, h1, h2, h⟩ := h
  refine ⟨A, cap, rfl, h1, h2, fun hp => ?_⟩
  obtain ⟨g, off, cur, hA, hg, hh, r⟩ := h hp
  exact ⟨g, off, cur, hA, hg, (hm g hg (blk_lt' hh)).trans hh, r⟩
theorem QS.mono (h : QS w ok v q) (hm : ∀ k, ok k → k < w.heap.size → ok' k) : QS w ok' v q := by
  obtain ⟨A, cap, rfl, h1, h2, h⟩ := h
  refine ⟨A, cap, rfl, h1, h2, fun hp => ?_⟩
  obtain ⟨g, off, cur, hA, hg, hh, r⟩ := h hp
  exact ⟨g, off, cur, hA, hm g hg (blk_lt' hh), hh, r⟩
theorem QS.of_R (h : Kd.R (Kd.int .i64) 3 w 0 ok v q) : QS w ok v q := by
  obtain ⟨hl, ho⟩ := Kd.own_of_R h
  rcases ho with ⟨rfl, hq⟩ | ⟨g, cap, cur, rfl, hg, hh, hnc, hcm, hcs, ht⟩
  · have h0 : q.length = 0 := by omega
    refine ⟨none, 0, by rw [h0], by omega, by unfold maxLen; omega, fun hp => by omega⟩
  · refine ⟨some ⟨g, 0, none⟩, cap, rfl, hnc, hcm, fun hp => ⟨g, 0, cur, rfl, h.1 g rfl, hh, by simpa using hcs, fun j hj => ?_⟩⟩
    rw [Nat.mul_one] at ht
    have h2 : (cur.toList.take q.length)[j]? = some (.int .i64 q[j]) := by
      rw [ht]; simp [encs, hj]
    rw [List.getElem?_take, if_pos hj] at h2
    simpa using h2
theorem QS.head {x : Int} (h : QS w ok v (x :: q)) : ∃ g off cap, v = .slice (some ⟨g, off, none⟩) (q.length + 1) cap ∧ q.length + 1 ≤ cap ∧ w.cell? ⟨g, off, none⟩ = some (.int .i64 x) := by
  obtain ⟨A, cap, rfl, h1, h2, h⟩ := h
  simp only [List.length_cons] at h1
  obtain ⟨g, off, cur, rfl, hg, hh, hcs, ht⟩ := h (by omega)
  refine ⟨g, off, cap, rfl, h1, cell_at hh ?_⟩
  have := ht 0 (by simp)
  simpa using this
theorem QS.tail {x : Int} {g off cap : Nat} (h : QS w ok (.slice (some ⟨g, off, none⟩) (q.length + 1) cap) (x :: q)) (A : Option Addr) (hA : 0 < cap - 1 → A = some ⟨g, off + 1, none⟩) : QS w ok (.slice A q.length (cap - 1)) q := by
  obtain ⟨A1, cap1, e, h1, h2, h⟩ := h
  injection e with e1 e2 e3
  subst e1
  subst e3
  simp only [List.length_cons] at h1
  refine ⟨A, cap - 1, rfl, by omega, by omega, fun hp => ?_⟩
  obtain ⟨g1, off1, cur, e, hg, hh, hcs, ht⟩ := h (by omega)
  injection e with e
  injection e with e4 e5
  subst e4
  subst e5
  refine ⟨g, off + 1, cur, hA hp, hg, hh, by omega, fun j hj => ?_⟩
  have := ht (j + 1) (by simpa using hj)
  rw [show off + 1 + j = off + (j + 1) by omega, this]
  rfl
theorem blk_setCells {t : Nat} : ∀ (vs : List Value) (g o : Nat) (w : World) (cur : Array Value), w.heap[g]? = some (.cells cur t (0, 0)) → o + vs.length ≤ cur.size →
    ∃ cur', (w.setCells g o vs).heap[g]? = some (.cells cur' t (0, 0)) ∧ cur'.size = cur.size ∧ (∀ k, k < o ∨ o + vs.length ≤ k → cur'[k]? = cur[k]?) ∧ ∀ j, j < vs.length → cur'[o + j]? = vs[j]?
  | [], g, o, w, cur, h, _ => ⟨cur, h, rfl, fun _ _ => rfl, fun j hj => by simp at hj⟩
  | v :: vs, g, o, w, cur, h, hl => by
    simp only [List.length_cons] at hl
    have h1 := set_at (j := o) h v
    obtain ⟨cur', a1, a2, a3, a4⟩ := blk_setCells vs g (o + 1) (w.setCell ⟨g, o, none⟩ v) (cur.setIfInBounds o v) h1 (by simp; omega)
    refine ⟨cur', a1, by simpa using a2, fun k hk => ?_, fun j hj => ?_⟩
    · rw [a3 k (by simp only [List.length_cons] at hk; omega)]
      have : o ≠ k := by simp only [List.length_cons] at hk; omega
      simp [Array.getElem?_setIfInBounds, this]
    · cases j with
      | zero =>
        rw [Nat.add_zero, a3 o (by omega)]
        have : o < cur.size := by omega
        simp [Array.getElem?_setIfInBounds, this]
      | succ j =>
        rw [show o + (j + 1) = o + 1 + j by omega, a4 j (by simpa using hj)]
        rfl
theorem kp_setCells {S : Nat → Prop} (g : Nat) (hg : S g) : ∀ (vs : List Value) (o : Nat) (w W : World), Kp S w W → Kp S w (W.setCells g o vs)
  | [], _, _, _, h => h
  | v :: vs, o, w, W, h => kp_setCells g hg vs (o + 1) w _ (h.setCell (p := ⟨g, o, none⟩) (.inl hg) v)
/-- The queue with a in place i. -/
def insq (q : List Int) (i : Nat) (a : Int) : List Int := q.take i ++ a :: q.drop i
theorem insq_len {i : Nat} (h : i ≤ q.length) (a : Int) : (insq q i a).length = q.length + 1 := by unfold insq; simp; omega
theorem insq_get {i : Nat} (h : i ≤ q.length) (a : Int) (j : Nat) (hj : j < q.length + 1) : (insq q i a)[j]? = if j < i then q[j]? else if j = i then some a else q[j - 1]? := by
  unfold insq
  by_cases h1 : j < i
  · rw [if_pos h1, List.getElem?_append_left (by simp; omega), List.getElem?_take, if_pos h1]
  · rw [if_neg h1, List.getElem?_append_right (by simp; omega)]
    have e : (q.take i).length = i := by simp; omega
    rw [e]
    by_cases h2 : j = i
    · rw [if_pos h2, h2]; simp
    · rw [if_neg h2]
      obtain ⟨m, hm⟩ : ∃ m, j - i = m + 1 := ⟨j - i - 1, by omega⟩
      rw [hm, List.getElem?_cons_succ, List.getElem?_drop]
      congr 1; omega
theorem QS.mk' {g off cap : Nat} {cur : Array Value} {q' : List Int} (hg : ok g) (hh : w.heap[g]? = some (.cells cur 3 (0, 0))) (hc : cur.size = off + cap) (hl : q'.length ≤ cap) (hm : cap ≤ maxLen) (h : ∀ j, j < q'.length → cur[off + j]? = (q'[j]?).map (Value.int .i64)) : QS w ok (.slice (some ⟨g, off, none⟩) q'.length cap) q' :=
  ⟨_, cap, rfl, hl, hm, fun _ => ⟨g, off, cur, rfl, hg, hh, hc, fun j hj => by rw [h j hj, List.getElem?_eq_getElem hj]; rfl⟩⟩
theorem insert_any (h : QS w ok v q) (i : Nat) (hi : i ≤ q.length) (a : Int) (vb : Nat) (hvb : w.heap[vb]? = some (.cells #[.int .i64 a] 3 (0, 0))) (hnv : ¬ ok vb) (hq : q.length ≤ 1000000) :
    Calls Try.prog 29 #[v, .int .i64 (i : Int), .slice (some ⟨vb, 0, none⟩) 1 1] w fun e w' => ∃ v', e = .returned v' ∧ QS w' (fun k => ok k ∨ w.heap.size ≤ k) v' (insq q i a) ∧ Kp ok w w' := by
  obtain ⟨A, cap, rfl, h1, h2, h⟩ := h
  have hil := insq_len hi a
  have hvs : ∀ j v, ([Value.int .i64 a] : List Value)[j]? = some v → w.cell? ⟨vb, 0 + j, none⟩ = some v := fun j v hj => by
    rcases j with _ | j
    · simp at hj; rw [← hj]; exact cell_at hvb rfl
    · simp at hj
  have h1v : ∀ v ∈ [Value.int .i64 a], v.oneCell' = true := fun v hv => by simp at hv; rw [hv]; rfl
  have h1c : ∀ v ∈ q.map (Value.int .i64), v.oneCell' = true := fun v hv => by
    obtain ⟨x, _, rfl⟩ := List.mem_map.1 hv; rfl
  have hcl : (q.map (Value.int .i64)).length = q.length := List.length_map _
  have hm63 : cap ≤ 9223372036854775807 := by unfold maxLen at h2; omega
  by_cases hroom : q.length + 1 ≤ cap
  · obtain ⟨g, off, cur, rfl, hg, hh, hcs, ht⟩ := h (by omega)
    have hvg : vb ≠ g := fun e => hnv (e ▸ hg)
    have hcel : ∀ j v, (q.map (Value.int .i64))[j]? = some v → w.cell? ⟨g, off + j, none⟩ = some v := fun j v hj => by
      obtain ⟨hj1, hj2⟩ := List.getElem?_eq_some_iff.1 hj
      have hjl : j < q.length := by simpa using hj1
      rw [← hj2]
      exact cell_at hh (by rw [ht j hjl]; simp)
    have hsp : ∀ j, j < q.length + 1 → (w.cell? ⟨g, off + j, none⟩).isSome = true := fun j hj => by
      have : off + j < cur.size := by omega
      rw [cell_at hh (Array.getElem?_eq_getElem this)]; rfl
    by_cases hie : i < q.length
    · refine (Any2.slices_Insert_int_shift lays21 g off q.length cap i vb 0 1 1 (q.map (Value.int .i64)) [.int .i64 a] w hie (by omega) hroom hm63 hvg hcl rfl hcel hsp (fun j hj => free_at hh _) hvs h1c h1v 3 3 1 cur.size (by simp [World.shape?, hvb]) (by simp [World.shape?, hh]) (by omega) (free_at hvb _) (free_at hvb _)).mono ?_
      rintro e w' ⟨rfl, rfl⟩
      have hdl : ((q.map (Value.int .i64)).drop i).length = q.length - i := by simp
      obtain ⟨cur1, b1, b2, b3, b4⟩ := blk_setCells ((q.map (Value.int .i64)).drop i) g (off + (i + 1)) w.drew cur hh (by rw [hdl]; omega)
      obtain ⟨cur2, c1, c2, c3, c4⟩ := blk_setCells [.int .i64 a] g (off + i) _ cur1 b1 (by simp; omega)
      refine ⟨_, rfl, ?_, kp_setCells g hg _ _ _ _ (kp_setCells g hg _ _ _ _ (Kp.refl _ w).drew)⟩
      rw [← hil]
      refine QS.mk' (.inl hg) c1 (by omega) (by omega) h2 (fun j hj => ?_)
      rw [hil] at hj
      rw [insq_get hi a j hj]
      by_cases g1 : j < i
      · rw [if_pos g1, c3 _ (by left; omega), b3 _ (by left; omega), ht j (by omega), List.getElem?_eq_getElem (by omega)]; rfl
      · rw [if_neg g1]
        by_cases g2 : j = i
        · rw [if_pos g2, g2]
          have := c4 0 (by simp)
          rw [Nat.add_zero] at this
          rw [this]; rfl
        · rw [if_neg g2, c3 _ (by right; simp; omega)]
          have := b4 (j - (i + 1)) (by rw [hdl]; omega)
          rw [show off + j = off + (i + 1) + (j - (i + 1)) by omega, this, List.getElem?_drop, show i + (j - (i + 1)) = j - 1 by omega, List.getElem?_map]
    · obtain rfl : i = q.length := by omega
      refine (Any2.slices_Insert_int_end_room lays21 g off q.length cap vb 0 1 1 [.int .i64 a] w (by omega) hroom hm63 rfl (fun j hj => by have := hsp (q.length + j) (by omega); rwa [← Nat.add_assoc] at this) (fun j hj => free_at hh _) hvs h1v).mono ?_
      rintro e w' ⟨rfl, rfl⟩
      obtain ⟨cur2, c1, c2, c3, c4⟩ := blk_setCells [.int .i64 a] g (off + q.length) w cur hh (by simp; omega)
      refine ⟨_, rfl, ?_, kp_setCells g hg _ _ _ _ (Kp.refl _ w)⟩
      rw [← hil]
      refine QS.mk' (.inl hg) c1 (by omega) (by omega) h2 (fun j hj => ?_)
      rw [hil] at hj
      rw [insq_get hi a j hj]
      by_cases g1 : j < q.length
      · rw [if_pos g1, c3 _ (by left; omega), ht j g1, List.getElem?_eq_getElem g1]; rfl
      · have g2 : j = q.length := by omega
        rw [if_neg g1, if_pos g2, g2]
        have := c4 0 (by simp)
        rw [Nat.add_zero] at this
        rw [this]; rfl
  · have hlc : cap = q.length := by omega
    subst hlc
    have hbig : (q.length + 1) * 8 ≤ 140737488355328 := by omega
    have hgc := grownCap_ge w (q.length + 1) q.length 3
    have hgm : grownCap w (q.length + 1) q.length 3 ≤ maxLen := grownCap_le_maxLen w (q.length + 1) q.length 3 (by unfold maxLen; omega)
    by_cases hie : i < q.length
    · obtain ⟨g, off, cur, rfl, hg, hh, hcs, ht⟩ := h (by omega)
      have hcel : ∀ j v, (q.map (Value.int .i64))[j]? = some v → w.cell? ⟨g, off + j, none⟩ = some v := fun j v hj => by
        obtain ⟨hj1, hj2⟩ := List.getElem?_eq_some_iff.1 hj
        have hjl : j < q.length := by simpa using hj1
        rw [← hj2]
        exact cell_at hh (by rw [ht j hjl]; simp)
      refine (Any2.slices_Insert_int_grow lays21 g off q.length q.length i vb 0 1 1 (q.map (Value.int .i64)) [.int .i64 a] w hie (by omega) (Nat.le_refl _) (by omega) hbig hcl rfl hcel hvs h1c h1v).mono ?_
      rintro e w' ⟨rfl, rfl⟩
      have hdl : ((q.map (Value.int .i64)).drop i).length = q.length - i := by simp
      obtain ⟨C, hC⟩ : ∃ C : Nat, grownCap w (q.length + 1) q.length 3 = C := ⟨_, rfl⟩
      rw [show (lays21_ren.t 3) = 3 from rfl, hC]
      rw [hC] at hgc hgm
      obtain ⟨cur0, hcur0⟩ : ∃ cur0, ((q.map (Value.int .i64)).take i).toArray ++ Builtin.zeroCells (Value.int .i64 0).cells (q.length + 1 - i) ++ Builtin.zeroCells (Value.int .i64 0).cells (C - (q.length + 1)) = cur0 := ⟨_, rfl⟩
      have hs0 : cur0.size = C := by
        rw [← hcur0]
        simp only [Array.size_append, List.size_toArray, size_zeroCells, List.length_take, List.length_map]
        simp [Value.cells]; omega
      have hz0 : ∀ j, j < i → cur0[j]? = (q[j]?).map (Value.int .i64) := fun j hj => by
        rw [← hcur0, Array.getElem?_append_left (by simp [size_zeroCells]; omega), Array.getElem?_append_left (by simp; omega)]
        simp [List.getElem?_take, hj]
      rw [hcur0]
      have hb0 := heap_alloc_new w (.cells cur0 3)
      obtain ⟨cur1, b1, b2, b3, b4⟩ := blk_setCells [.int .i64 a] w.heap.size i (w.alloc (.cells cur0 3)).drew cur0 hb0 (by simp; omega)
      obtain ⟨cur2, c1, c2, c3, c4⟩ := blk_setCells ((q.map (Value.int .i64)).drop i) w.heap.size (i + 1) (((w.alloc (.cells cur0 3)).drew.setCells w.heap.size i [.int .i64 a]).drew) cur1 b1 (by rw [hdl]; omega)
      have hkp : Kp (fun k => w.heap.size ≤ k) w (((w.alloc (.cells cur0 3)).drew.setCells w.heap.size i [.int .i64 a]).drew.setCells w.heap.size (i + 1) ((q.map (Value.int .i64)).drop i)) :=
        kp_setCells w.heap.size (Nat.le_refl _) _ _ _ _ (kp_setCells w.heap.size (Nat.le_refl _) _ _ _ _ ((Kp.refl _ w).alloc _).drew).drew
      refine ⟨_, rfl, ?_, Kp.of_below (hkp.below (fun k hk => hk)) ok⟩
      rw [← hil]
      refine QS.mk' (.inr (Nat.le_refl _)) c1 (by omega) (by omega) hgm (fun j hj => ?_)
      rw [hil] at hj
      rw [insq_get hi a j hj, Nat.zero_add]
      by_cases g1 : j < i
      · rw [if_pos g1, c3 _ (by left; omega), b3 _ (by left; omega), hz0 j g1]
      · rw [if_neg g1]
        by_cases g2 : j = i
        · rw [if_pos g2, g2, c3 _ (by left; omega)]
          have := b4 0 (by simp)
          rw [Nat.add_zero] at this
          rw [this]; rfl
        · rw [if_neg g2]
          have := c4 (j - (i + 1)) (by rw [hdl]; omega)
          rw [show i + 1 + (j - (i + 1)) = j by omega] at this
          rw [this, List.getElem?_drop, show i + (j - (i + 1)) = j - 1 by omega, List.getElem?_map]
    · obtain rfl : i = q.length := by omega
      have hcel : ∀ a, A = some a → ∀ j v, (q.map (Value.int .i64))[j]? = some v → w.cell? (a.add j) = some v := fun a ha j v hj => by
        obtain ⟨hj1, hj2⟩ := List.getElem?_eq_some_iff.1 hj
        have hjl : j < q.length := by simpa using hj1
        obtain ⟨g, off, cur, hA, hg, hh, hcs, ht⟩ := h (by omega)
        rw [ha] at hA
        injection hA with hA
        subst hA
        rw [← hj2, Addr.add_lit]
        exact cell_at hh (by rw [ht j hjl]; simp)
      have hnil : A = none → q.length = 0 := fun hA => by
        by_cases h0 : q.length = 0
        · exact h0
        · obtain ⟨g, off, cur, hA', _⟩ := h (by omega)
          rw [hA] at hA'; cases hA'
      refine (Any2.slices_Insert_int_end_grow lays21 A q.length q.length vb 0 1 1 (q.map (Value.int .i64)) [.int .i64 a] w (by omega) (Nat.le_refl _) (by omega) hbig hcl rfl hnil hcel hvs h1v).mono ?_
      rintro e w' ⟨rfl, rfl⟩
      obtain ⟨C, hC⟩ : ∃ C : Nat, grownCap w (q.length + 1) q.length 3 = C := ⟨_, rfl⟩
      rw [show (lays21_ren.t 3) = 3 from rfl, hC]
      rw [hC] at hgc hgm
      refine ⟨_, rfl, ?_, ((Kp.refl ok w).drew).alloc _⟩
      rw [← hil]
      refine QS.mk' (.inr (Nat.le_refl _)) (heap_alloc_new w.drew _) ?_ (by omega) hgm (fun j hj => ?_)
      · simp only [Array.size_append, List.size_toArray, size_zeroCells, List.length_append, List.length_map, List.length_singleton]
        simp [Value.cells]; omega
      · rw [hil] at hj
        rw [Nat.zero_add, Array.getElem?_append_left (by simp; omega)]
        have e : insq q q.length a = q ++ [a] := by unfold insq; simp
        rw [e]
        simp [List.getElem?_append]
        by_cases g1 : j < q.length
        · simp [g1]
        · have g2 : j = q.length := by omega
          simp [g2]
theorem search_any (h : QS w ok v q) (hs : q.Pairwise (· < ·)) (x : Int) (hx : x ∉ q) (hq : q.length ≤ 1000000) :
    Calls Try.prog 28 #[v, .int .i64 x] w fun e w' => e = .returned (.tuple #[.int .i64 (q.countP (· < x) : Nat), .bool false]) ∧ ∃ n, w' = w.drewN n := by
  obtain ⟨A, cap, rfl, h1, h2, h⟩ := h
  by_cases h0 : q.length = 0
  · have hq0 : q = [] := List.length_eq_zero_iff.1 h0
    subst hq0
    refine (Any.slices_BinarySearch_int_empty lays25 A cap x w).mono ?_
    rintro e w' ⟨rfl, rfl⟩
    exact ⟨rfl, 0, rfl⟩
  · obtain ⟨g, off, cur, rfl, hg, hh, hcs, ht⟩ := h (by omega)
    refine (Any.slices_BinarySearch_int lays25 g off q.length cap q x w (Nat.le_refl _) (by omega) (fun j hj => ?_) ?_).mono ?_
    · have := ht j hj
      rw [cell_at hh this]
      simp [hj]
    · rw [List.take_of_length_le (Nat.le_refl _)]
      exact hs.imp (fun {a b} hlt => by omega)
    · rintro e w' ⟨rfl, hn⟩
      rw [List.take_of_length_le (Nat.le_refl _)]
      have : q.contains x = false := by simpa using hx
      rw [this]
      exact ⟨rfl, hn⟩
end
end Go.Proofs.Ytmlikgmcekofbaa
end

section
/- The order in which the components are listed, in plain lists: Kahn's algorithm with a sorted list of the ready ones. -/
set_option linter.unusedVariables false
set_option linter.unusedSimpArgs false
set_option linter.unusedSectionVars false
namespace Go.Proofs.Ytmlikgmcekofbaa
open Go.RowKit Go.Proofs.YtmlikgmcekofbaaW.PrintWords Go.Proofs.Ytmlikgmcekofbaa.PDigraphTells Mem

abbrev EL := List (Int × Int)
/-- What the first loops have counted of the edges E. -/
structure WI (m : Nat) (E : EL) (wt : List Int) (into : List (List Int)) : Prop where
  wl : wt.length = m
  il : into.length = m
  w : ∀ c : Int, 0 ≤ c → c < m → rd wt c = (E.countP (fun p => decide (p.1 = c)) : Nat)
  i : ∀ c : Int, 0 ≤ c → c < m → rd_L1 into c = (E.filter (fun p => decide (p.2 = c))).map (·.1)
theorem WI.start (m : Nat) : WI m [] (List.replicate m 0) (List.replicate m []) := by
  refine ⟨by simp, by simp, fun c h0 h1 => by rw [rdi_rep h0 h1]; rfl, fun c h0 h1 => ?_⟩
  rw [rd1_at]
  have : c.toNat < m := by omega
  simp [this]
theorem WI.add {m : Nat} {E : EL} {wt : List Int} {into : List (List Int)} (h : WI m E wt into) {a b : Int} (ha : 0 ≤ a ∧ a < m) (hb : 0 ≤ b ∧ b < m) :
    WI m (E ++ [(a, b)]) (wt.set a.toNat (rd wt a + 1)) (into.set b.toNat (rd_L1 into b ++ [a])) := by
  refine ⟨by rw [List.length_set]; exact h.wl, by rw [List.length_set]; exact h.il, fun c h0 h1 => ?_, fun c h0 h1 => ?_⟩
  · rw [rdi_set ha.1 (by rw [h.wl]; exact ha.2) h0, List.countP_append]
    by_cases e : c = a
    · rw [if_pos e, h.w a ha.1 ha.2, e]; simp
    · rw [if_neg e, h.w c h0 h1]
      have : ¬ a = c := fun e' => e e'.symm
      simp [this]
  · rw [rdl_set hb.1 (by rw [h.il]; exact hb.2) h0, List.filter_append, List.map_append]
    by_cases e : c = b
    · rw [if_pos e, h.i b hb.1 hb.2, e]; simp
    · rw [if_neg e, h.i c h0 h1]
      have : ¬ b = c := fun e' => e e'.symm
      simp [this]
theorem WI.w_le {m : Nat} {E : EL} {wt : List Int} {into : List (List Int)} (h : WI m E wt into) {c : Int} (h0 : 0 ≤ c) (h1 : c < m) : 0 ≤ rd wt c ∧ rd wt c ≤ E.length := by
  rw [h.w c h0 h1]
  have := List.countP_le_length (p := fun p : Int × Int => decide (p.1 = c)) (l := E)
  omega
theorem WI.i_le {m : Nat} {E : EL} {wt : List Int} {into : List (List Int)} (h : WI m E wt into) {c : Int} (h0 : 0 ≤ c) (h1 : c < m) : (rd_L1 into c).length ≤ E.length := by
  rw [h.i c h0 h1, List.length_map]
  exact List.length_filter_le _ _

/-- c is the least one that may be listed behind D. -/
def Stp (E : EL) (m : Nat) (D : List Int) (c : Int) : Prop := (0 ≤ c ∧ c < m) ∧ c ∉ D ∧ (∀ p ∈ E, p.1 = c → p.2 ∈ D) ∧ ∀ c' : Int, 0 ≤ c' → c' < c → c' ∉ D → ∃ p ∈ E, p.1 = c' ∧ p.2 ∉ D
structure Sq (E : EL) (m : Nat) (out : List Int) : Prop where
  st : ∀ k (h : k < out.length), Stp E m (out.take k) out[k]
  all : ∀ c : Int, 0 ≤ c → c < m → c ∈ out
def cw (E : EL) (out : List Int) (c : Int) : Nat := E.countP (fun p => decide (p.1 = c ∧ p.2 ∉ out))
/-- Between two rounds. -/
structure KI (E : EL) (m : Nat) (wt q out : List Int) : Prop where
  wl : wt.length = m
  w : ∀ c : Int, 0 ≤ c → c < m → rd wt c = (cw E out c : Nat)
  srt : q.Pairwise (· < ·)
  mem : ∀ c, c ∈ q ↔ (0 ≤ c ∧ c < m) ∧ c ∉ out ∧ rd wt c = 0
  o : ∀ c ∈ out, (0 ≤ c ∧ c < m) ∧ cw E out c = 0
  nd : out.Nodup
  st : ∀ k (h : k < out.length), Stp E m (out.take k) out[k]
/-- In a round: c has been taken, t of its edges are done. -/
structure KJ (E : EL) (m : Nat) (out : List Int) (c : Int) (L : List Int) (t : Nat) (wt q : List Int) : Prop where
  wl : wt.length = m
  w : ∀ d : Int, 0 ≤ d → d < m → rd wt d = (cw E out d : Int) - ((L.take t).count d : Nat)
  srt : q.Pairwise (· < ·)
  mem : ∀ d, d ∈ q ↔ (0 ≤ d ∧ d < m) ∧ d ∉ out ++ [c] ∧ rd wt d = 0
section
variable {E : EL} {m : Nat} {wt q out : List Int} {c : Int}
theorem cw_zero {d : Int} : cw E out d = 0 ↔ ∀ p ∈ E, p.1 = d → p.2 ∈ out := by
  unfold cw
  rw [List.countP_eq_zero]
  constructor
  · intro h p hp e
    by_cases h2 : p.2 ∈ out
    · exact h2
    · exact absurd (decide_eq_true (p := p.1 = d ∧ p.2 ∉ out) ⟨e, h2⟩) (h p hp)
  · intro h p hp e
    have := of_decide_eq_true e
    exact this.2 (h p hp this.1)
theorem cw_split (hc : c ∉ out) (d : Int) : cw E out d = cw E (out ++ [c]) d + ((E.filter (fun p => decide (p.2 = c))).map (·.1)).count d := by
  unfold cw
  induction E with
  | nil => rfl
  | cons p E ih =>
    simp only [List.countP_cons, List.filter_cons]
    rw [ih]
    by_cases h1 : p.2 = c
    · have h2 : p.2 ∉ out := h1 ▸ hc
      by_cases h3 : p.1 = d
      · simp [h1, h2, h3, hc]; omega
      · simp [h1, h3]
    · by_cases h3 : p.1 = d
      · by_cases h2 : p.2 ∈ out <;> simp [h1, h2, h3] <;> omega
      · simp [h1, h3]
theorem KI.start {into : List (List Int)} (h : WI m E wt into) (hq : q.Pairwise (· < ·)) (hm : ∀ c, c ∈ q ↔ (0 ≤ c ∧ c < m) ∧ rd wt c = 0) : KI E m wt q [] :=
  ⟨h.wl, fun c h0 h1 => by rw [h.w c h0 h1]; unfold cw; congr 1; simp, hq, fun c => by rw [hm]; simp, fun c hc => by simp at hc, List.nodup_nil, fun k hk => by simp at hk⟩
theorem KI.begin (h : KI E m wt (c :: q) out) : KJ E m out c ((E.filter (fun p => decide (p.2 = c))).map (·.1)) 0 wt q := by
  obtain ⟨h1, h2⟩ := List.pairwise_cons.1 h.srt
  refine ⟨h.wl, fun d h0 h1 => by rw [h.w d h0 h1]; simp, h2, fun d => ?_⟩
  have hm := h.mem d
  rw [List.mem_cons] at hm
  constructor
  · intro hd
    obtain ⟨a, b, e⟩ := hm.1 (.inr hd)
    refine ⟨a, fun hh => ?_, e⟩
    rcases List.mem_append.1 hh with hh | hh
    · exact b hh
    · simp at hh; have := h1 d hd; omega
  · rintro ⟨a, b, e⟩
    rcases hm.2 ⟨a, fun hh => b (by simp [hh]), e⟩ with hh | hh
    · exact absurd (by simp [hh]) b
    · exact hh
theorem KI.cin (h : KI E m wt (c :: q) out) : (0 ≤ c ∧ c < m) ∧ c ∉ out ∧ rd wt c = 0 := (h.mem c).1 List.mem_cons_self
theorem take_count {L : List Int} {t : Nat} (ht : t < L.length) (d : Int) : (L.take (t + 1)).count d = (L.take t).count d + if L[t] = d then 1 else 0 := by
  rw [List.take_add_one, List.getElem?_eq_getElem ht, List.count_append]
  by_cases e : L[t] = d
  · simp [e]
  · simp [e]
theorem count_take_lt {L : List Int} {t : Nat} (ht : t < L.length) : (L.take t).count L[t] + 1 ≤ L.count L[t] := by
  have h1 : L.count L[t] = (L.take (t + 1)).count L[t] + (L.drop (t + 1)).count L[t] := by rw [← List.count_append, List.take_append_drop]
  rw [h1, take_count ht, if_pos rfl]; omega
theorem sort_take : ∀ (q : List Int) (a : Int), q.Pairwise (· < ·) → (∀ x ∈ q.take (q.countP (· < a)), x < a) ∧ (∀ x ∈ q.drop (q.countP (· < a)), a ≤ x)
  | [], a, _ => by simp
  | y :: q, a, h => by
    obtain ⟨h1, h2⟩ := List.pairwise_cons.1 h
    obtain ⟨i1, i2⟩ := sort_take q a h2
    by_cases hy : y < a
    · rw [List.countP_cons_of_pos (by simpa using hy), List.take_succ_cons, List.drop_succ_cons]
      refine ⟨fun x hx => ?_, i2⟩
      rcases List.mem_cons.1 hx with rfl | hx
      · exact hy
      · exact i1 x hx
    · have h0 : q.countP (· < a) = 0 := by
        rw [List.countP_eq_zero]
        intro x hx; have := h1 x hx; simp; omega
      rw [List.countP_cons_of_neg (by simpa using hy), h0]
      refine ⟨fun x hx => by simp at hx, fun x hx => ?_⟩
      rw [List.drop_zero] at hx
      rcases List.mem_cons.1 hx with rfl | hx
      · omega
      · have := h1 x hx; omega
theorem insq_srt {a : Int} (h : q.Pairwise (· < ·)) (ha : a ∉ q) : (insq q (q.countP (· < a)) a).Pairwise (· < ·) ∧ ∀ x, x ∈ insq q (q.countP (· < a)) a ↔ x = a ∨ x ∈ q := by
  obtain ⟨h1, h2⟩ := sort_take q a h
  obtain ⟨i, hi⟩ : ∃ i, q.countP (· < a) = i := ⟨_, rfl⟩
  rw [hi] at h1 h2 ⊢
  have hq : q.take i ++ q.drop i = q := List.take_append_drop i q
  have h' := h
  rw [← hq, List.pairwise_append] at h'
  obtain ⟨p1, p2, p3⟩ := h'
  unfold insq
  refine ⟨?_, fun x => ?_⟩
  · rw [List.pairwise_append]
    refine ⟨p1, List.pairwise_cons.2 ⟨fun x hx => ?_, p2⟩, fun x hx y hy => ?_⟩
    · have := h2 x hx
      have : x ≠ a := fun e => ha (e ▸ List.mem_of_mem_drop hx)
      omega
    · rcases List.mem_cons.1 hy with rfl | hy
      · exact h1 x hx
      · exact p3 x hx y hy
  · have : x ∈ q ↔ x ∈ q.take i ∨ x ∈ q.drop i := by rw [← List.mem_append, hq]
    rw [this, List.mem_append, List.mem_cons]
    constructor
    · rintro (h | h | h)
      · exact .inr (.inl h)
      · exact .inl h
      · exact .inr (.inr h)
    · rintro (h | h | h)
      · exact .inr (.inl h)
      · exact .inl h
      · exact .inr (.inr h)
/-- What holds of an edge's start in a round. -/
theorem KJ.head {L : List Int} {t : Nat} (h : KJ E m out c L t wt q) (hL : L = (E.filter (fun p => decide (p.2 = c))).map (·.1)) (hE : ∀ p ∈ E, (0 ≤ p.1 ∧ p.1 < m) ∧ p.1 ≠ p.2) (hc : c ∉ out) (ho : ∀ d ∈ out, cw E out d = 0) (ht : t < L.length) :
    (0 ≤ L[t] ∧ L[t] < m) ∧ L[t] ∉ out ++ [c] ∧ 1 ≤ rd wt L[t] ∧ rd wt L[t] ≤ E.length ∧ L[t] ∉ q := by
  have hm : L[t] ∈ (E.filter (fun p => decide (p.2 = c))).map (·.1) := by rw [← hL]; exact List.getElem_mem ht
  obtain ⟨p, hp, hp2⟩ := List.mem_map.1 hm
  obtain ⟨hp1, hp3⟩ := List.mem_filter.1 hp
  have hp3 := of_decide_eq_true hp3
  obtain ⟨hr, hne⟩ := hE p hp1
  rw [hp2] at hr hne
  have h1 : 1 ≤ rd wt L[t] := by
    rw [h.w _ hr.1 hr.2, cw_split hc L[t], ← hL]
    have := count_take_lt ht
    omega
  have h2 : rd wt L[t] ≤ E.length := by
    rw [h.w _ hr.1 hr.2]
    have := List.countP_le_length (p := fun p : Int × Int => decide (p.1 = L[t] ∧ p.2 ∉ out)) (l := E)
    unfold cw; omega
  refine ⟨hr, fun hh => ?_, h1, h2, fun hh => by have := ((h.mem _).1 hh).2.2; omega⟩
  rcases List.mem_append.1 hh with hh | hh
  · have := cw_zero.1 (ho _ hh) p hp1 hp2
    rw [hp3] at this; exact hc this
  · simp at hh; rw [hh, hp3] at hne; exact hne rfl
theorem KJ.step {L : List Int} {t : Nat} (h : KJ E m out c L t wt q) (ht : t < L.length) (hh : (0 ≤ L[t] ∧ L[t] < m) ∧ L[t] ∉ out ++ [c] ∧ 1 ≤ rd wt L[t] ∧ rd wt L[t] ≤ E.length ∧ L[t] ∉ q) :
    KJ E m out c L (t + 1) (wt.set (L[t]).toNat (rd wt L[t] - 1)) (if rd wt L[t] - 1 = 0 then insq q (q.countP (· < L[t])) L[t] else q) := by
  obtain ⟨hr, hn, h1, _, hq⟩ := hh
  have hs : ∀ d : Int, 0 ≤ d → rd (wt.set (L[t]).toNat (rd wt L[t] - 1)) d = if d = L[t] then rd wt L[t] - 1 else rd wt d := fun d hd => rdi_set hr.1 (by rw [h.wl]; exact hr.2) hd _
  refine ⟨by rw [List.length_set]; exact h.wl, fun d h0 hd => ?_, ?_, fun d => ?_⟩
  · rw [hs d h0, take_count ht]
    by_cases e : d = L[t]
    · rw [if_pos e, if_pos e.symm, h.w _ hr.1 hr.2, e]; omega
    · rw [if_neg e, if_neg (fun e' => e e'.symm), h.w d h0 hd]; simp
  · by_cases e0 : rd wt L[t] - 1 = 0
    · rw [if_pos e0]; exact (insq_srt h.srt hq).1
    · rw [if_neg e0]; exact h.srt
  · by_cases e0 : rd wt L[t] - 1 = 0
    · rw [if_pos e0, (insq_srt h.srt hq).2]
      by_cases e : d = L[t]
      · constructor
        · intro _; subst e; exact ⟨hr, hn, by rw [hs _ hr.1, if_pos rfl]; exact e0⟩
        · intro _; exact .inl e
      · constructor
        · rintro (h3 | h3)
          · exact absurd h3 e
          · obtain ⟨a, b, e3⟩ := (h.mem d).1 h3
            exact ⟨a, b, by rw [hs d a.1, if_neg e]; exact e3⟩
        · rintro ⟨a, b, e3⟩
          rw [hs d a.1, if_neg e] at e3
          exact .inr ((h.mem d).2 ⟨a, b, e3⟩)
    · rw [if_neg e0]
      by_cases e : d = L[t]
      · constructor
        · intro h3; exact absurd (e ▸ h3) hq
        · rintro ⟨a, b, e3⟩
          rw [hs d a.1, if_pos e] at e3; exact absurd e3 e0
      · rw [h.mem d]
        constructor
        · rintro ⟨a, b, e3⟩; exact ⟨a, b, by rw [hs d a.1, if_neg e]; exact e3⟩
        · rintro ⟨a, b, e3⟩; rw [hs d a.1, if_neg e] at e3; exact ⟨a, b, e3⟩
theorem KJ.done {q0 wt0 : List Int} {L : List Int} (h0 : KI E m wt0 (c :: q0) out) (hL : L = (E.filter (fun p => decide (p.2 = c))).map (·.1)) (h : KJ E m out c L L.length wt q) : KI E m wt q (out ++ [c]) := by
  obtain ⟨hc, hn, hz⟩ := h0.cin
  have hcz : cw E out c = 0 := by have := h0.w c hc.1 hc.2; omega
  refine ⟨h.wl, fun d g0 g1 => ?_, h.srt, h.mem, fun d hd => ?_, ?_, fun k hk => ?_⟩
  · rw [h.w d g0 g1, List.take_length, cw_split hn d, ← hL]; omega
  · rcases List.mem_append.1 hd with hd | hd
    · refine ⟨(h0.o d hd).1, ?_⟩
      have := (h0.o d hd).2
      have h9 := cw_split (E := E) hn d
      omega
    · simp at hd; subst hd
      have h9 := cw_split (E := E) hn d
      exact ⟨hc, by omega⟩
  · rw [List.nodup_append]
    exact ⟨h0.nd, by simp, fun a ha b hb => by simp at hb; rw [hb]; exact fun e => hn (e ▸ ha)⟩
  · rw [List.length_append, List.length_singleton] at hk
    by_cases hkl : k < out.length
    · rw [List.getElem_append_left hkl, List.take_append_of_le_length (by omega)]
      exact h0.st k hkl
    · have hke : k = out.length := by omega
      subst hke
      rw [List.take_append_of_le_length (Nat.le_refl _), List.take_length, List.getElem_append_right (Nat.le_refl _)]
      simp only [Nat.sub_self, List.getElem_singleton]
      refine ⟨hc, hn, cw_zero.1 hcz, fun c' g0 g1 g2 => ?_⟩
      by_cases hw : cw E out c' = 0
      · have h3 : c' ∈ c :: q0 := (h0.mem c').2 ⟨⟨g0, by omega⟩, g2, by rw [h0.w c' g0 (by omega), hw]; rfl⟩
        rcases List.mem_cons.1 h3 with h3 | h3
        · omega
        · have := (List.pairwise_cons.1 h0.srt).1 c' h3; omega
      · have h3 : ¬ ∀ p ∈ E, p.1 = c' → p.2 ∈ out := fun h4 => hw (cw_zero.2 h4)
        simp only [Classical.not_forall] at h3
        obtain ⟨p, hp, e, hno⟩ := h3
        exact ⟨p, hp, e, hno⟩
theorem KI.fin (h : KI E m wt [] out) (ρ : Int → Nat) (hE : ∀ p ∈ E, (0 ≤ p.2 ∧ p.2 < m) ∧ ρ p.2 < ρ p.1) : Sq E m out := by
  refine ⟨h.st, ?_⟩
  have key : ∀ (k : Nat) (c : Int), ρ c ≤ k → 0 ≤ c → c < m → c ∈ out := by
    intro k
    induction k with
    | zero =>
      intro c hk h0 h1
      by_cases hc : c ∈ out
      · exact hc
      · have h2 : rd wt c ≠ 0 := fun e => by have := (h.mem c).2 ⟨⟨h0, h1⟩, hc, e⟩; cases this
        rw [h.w c h0 h1] at h2
        have h3 : ¬ ∀ p ∈ E, p.1 = c → p.2 ∈ out := fun h4 => h2 (by rw [cw_zero.2 h4]; rfl)
        simp only [Classical.not_forall] at h3
        obtain ⟨p, hp, e, _⟩ := h3
        have := (hE p hp).2
        rw [e] at this; omega
    | succ k ih =>
      intro c hk h0 h1
      by_cases hc : c ∈ out
      · exact hc
      · have h2 : rd wt c ≠ 0 := fun e => by have := (h.mem c).2 ⟨⟨h0, h1⟩, hc, e⟩; cases this
        rw [h.w c h0 h1] at h2
        have h3 : ¬ ∀ p ∈ E, p.1 = c → p.2 ∈ out := fun h4 => h2 (by rw [cw_zero.2 h4]; rfl)
        simp only [Classical.not_forall] at h3
        obtain ⟨p, hp, e, hno⟩ := h3
        have h5 := hE p hp
        rw [e] at h5
        exact absurd (ih p.2 (by omega) h5.1.1 h5.1.2) hno
  exact fun c h0 h1 => key (ρ c) c (Nat.le_refl _) h0 h1
theorem KI.len (h : KI E m wt q out) : out.length ≤ m ∧ q.length ≤ m := by
  refine ⟨?_, ?_⟩
  · have := Grf.Tj.nodup_len out ((List.range m).map fun (i : Nat) => (i : Int)) h.nd (fun x hx => by
      obtain ⟨⟨h1, h2⟩, _⟩ := h.o x hx
      exact List.mem_map.2 ⟨x.toNat, List.mem_range.2 (by omega), by omega⟩)
    simpa using this
  · have h1 : q.Nodup := h.srt.imp (fun {a b} hlt e => by omega)
    have := Grf.Tj.nodup_len q ((List.range m).map fun (i : Nat) => (i : Int)) h1 (fun x hx => by
      obtain ⟨⟨h1, h2⟩, _⟩ := (h.mem x).1 hx
      exact List.mem_map.2 ⟨x.toNat, List.mem_range.2 (by omega), by omega⟩)
    simpa using this
theorem KJ.len {L : List Int} {t : Nat} (h : KJ E m out c L t wt q) : q.length ≤ m := by
  have h1 : q.Nodup := h.srt.imp (fun {a b} hlt e => by omega)
  have := Grf.Tj.nodup_len q ((List.range m).map fun (i : Nat) => (i : Int)) h1 (fun x hx => by
    obtain ⟨⟨h1, h2⟩, _⟩ := (h.mem x).1 hx
    exact List.mem_map.2 ⟨x.toNat, List.mem_range.2 (by omega), by omega⟩)
  simpa using this
end
end Go.Proofs.Ytmlikgmcekofbaa
end

section
/- What the list of components is: one list, whoever makes it; and that Kahn's order over the components gives it. -/
set_option linter.unusedVariables false
set_option linter.unusedSimpArgs false
set_option linter.unusedSectionVars false
namespace Go.Proofs.Ytmlikgmcekofbaa
open Go.RowKit Go.Proofs.YtmlikgmcekofbaaW.PrintWords Go.Proofs.Ytmlikgmcekofbaa.PDigraphTells Mem

abbrev Eqv (G : List (List Int)) (x y : Int) : Prop := Grf.Reach (adj G) x y ∧ Grf.Reach (adj G) y x
/-- All that x reaches lies in its own component or in D. -/
def Rdy (G : List (List Int)) (D : List Int) (x : Int) : Prop := ∀ y, Grf.Reach (adj G) x y → Grf.Reach (adj G) y x ∨ y ∈ D
structure PartOf (G : List (List Int)) (x : Int) (l : List Int) : Prop where
  srt : l.Pairwise (· < ·)
  mem : ∀ z, z ∈ l ↔ isNode G z ∧ Eqv G x z
/-- l is what is listed behind D. -/
def Nxt (G : List (List Int)) (D : List Int) (l : List Int) : Prop := ∃ x, isNode G x ∧ x ∉ D ∧ Rdy G D x ∧ (∀ y, isNode G y → y < x → y ∉ D → ¬ Rdy G D y) ∧ PartOf G x l
structure IsC (G : List (List Int)) (L : List (List Int)) : Prop where
  st : ∀ k (h : k < L.length), Nxt G (L.take k).flatten L[k]
  all : ∀ x, isNode G x → x ∈ L.flatten
theorem PartOf.uniq {G : List (List Int)} {x : Int} {l m : List Int} (h : PartOf G x l) (k : PartOf G x m) : l = m := by
  have key : ∀ (l m : List Int), l.Pairwise (· < ·) → m.Pairwise (· < ·) → (∀ z, z ∈ l ↔ z ∈ m) → l = m := by
    intro l
    induction l with
    | nil =>
      intro m _ _ hm
      cases m with
      | nil => rfl
      | cons b m => exact absurd ((hm b).2 List.mem_cons_self) (by simp)
    | cons a l ih =>
      intro m hl hm he
      obtain ⟨l1, l2⟩ := List.pairwise_cons.1 hl
      cases m with
      | nil => exact absurd ((he a).1 List.mem_cons_self) (by simp)
      | cons b m =>
        obtain ⟨m1, m2⟩ := List.pairwise_cons.1 hm
        have hab : a = b := by
          rcases List.mem_cons.1 ((he a).1 List.mem_cons_self) with e | e
          · exact e
          · rcases List.mem_cons.1 ((he b).2 List.mem_cons_self) with e2 | e2
            · exact e2.symm
            · have := m1 a e; have := l1 b e2; omega
        subst hab
        rw [ih m l2 m2 (fun z => ?_)]
        have hz := he z
        rw [List.mem_cons, List.mem_cons] at hz
        constructor
        · intro hh
          rcases hz.1 (.inr hh) with e | e
          · have := l1 z hh; omega
          · exact e
        · intro hh
          rcases hz.2 (.inr hh) with e | e
          · have := m1 z hh; omega
          · exact e
  exact key l m h.srt k.srt (fun z => by rw [h.mem, k.mem])
theorem Nxt.uniq {G : List (List Int)} {D l m : List Int} (h : Nxt G D l) (k : Nxt G D m) : l = m := by
  obtain ⟨x, x1, x2, x3, x4, x5⟩ := h
  obtain ⟨y, y1, y2, y3, y4, y5⟩ := k
  have hxy : x = y := by
    rcases Int.lt_trichotomy x y with h | h | h
    · exact absurd x3 (y4 x x1 h x2)
    · exact h
    · exact absurd y3 (x4 y y1 h y2)
  subst hxy
  exact x5.uniq y5
theorem IsC.take {G : List (List Int)} {L M : List (List Int)} (h : IsC G L) (k : IsC G M) : ∀ n, n ≤ L.length → n ≤ M.length → L.take n = M.take n
  | 0, _, _ => by simp
  | n + 1, h1, h2 => by
    have ih := IsC.take h k n (by omega) (by omega)
    have h3 := h.st n (by omega)
    have h4 := k.st n (by omega)
    rw [← ih] at h4
    have h5 := h3.uniq h4
    rw [List.take_add_one, List.take_add_one, ih, List.getElem?_eq_getElem (by omega), List.getElem?_eq_getElem (by omega), h5]
theorem IsC.le {G : List (List Int)} {L M : List (List Int)} (h : IsC G L) (k : IsC G M) : M.length ≤ L.length := by
  rcases Nat.lt_or_ge L.length M.length with hlt | hge
  · have ht := IsC.take h k L.length (Nat.le_refl _) (by omega)
    rw [List.take_length] at ht
    obtain ⟨x, x1, x2, _⟩ := k.st L.length hlt
    rw [← ht] at x2
    exact absurd (h.all x x1) x2
  · exact hge
theorem IsC.uniq {G : List (List Int)} {L M : List (List Int)} (h : IsC G L) (k : IsC G M) : L = M := by
  have e : L.length = M.length := Nat.le_antisymm (k.le h) (h.le k)
  have := IsC.take h k L.length (Nat.le_refl _) (by omega)
  rwa [List.take_length, e, List.take_length] at this

/-- The edges between components. -/
structure EG (G : List (List Int)) (of : List Int) (E : EL) : Prop where
  mem : ∀ p, p ∈ E ↔ ∃ a b, isNode G a ∧ b ∈ adj G a ∧ rd of a ≠ rd of b ∧ p = (rd of a, rd of b)
/-- How many nodes are reached. -/
noncomputable def rk (G : List (List Int)) (x : Int) : Nat := by
  classical
  exact ((nodes G).filter (fun y => decide (Grf.Reach (adj G) x y))).length
theorem rk_eqv {G : List (List Int)} {x y : Int} (h : Eqv G x y) : rk G x = rk G y := by
  classical
  unfold rk
  congr 1
  exact List.filter_congr (fun z _ => decide_eq_decide.2 ⟨fun hz => h.2.trans hz, fun hz => h.1.trans hz⟩)
theorem rk_lt {G : List (List Int)} {x y : Int} (hx : isNode G x) (h : Grf.Reach (adj G) x y) (hn : ¬ Grf.Reach (adj G) y x) : rk G y < rk G x := by
  classical
  unfold rk
  exact Grf.filter_lt _ _ (nodes G) (fun z _ hz => decide_eq_true (h.trans (of_decide_eq_true hz))) ⟨x, (mem_nodes G x).2 hx, decide_eq_false hn, decide_eq_true (.refl x)⟩
section
variable {G : List (List Int)} {cs : List (List Int)} {of out : List Int} {E : EL}
theorem CI.at_ (h : CI G cs of) (hG : okG G) {p : Int × Int} (hE : EG G of E) (hp : p ∈ E) : (0 ≤ p.1 ∧ p.1 < cs.length) ∧ (0 ≤ p.2 ∧ p.2 < cs.length) ∧ p.1 ≠ p.2 := by
  obtain ⟨a, b, ha, hb, hne, rfl⟩ := (hE.mem p).1 hp
  exact ⟨h.rng a ha, h.rng b (hG.adj ha hb), hne⟩
/-- A rank of the components that falls along the edges. -/
theorem CI.rank (h : CI G cs of) (hG : okG G) (hE : EG G of E) : ∃ ρ : Int → Nat, ∀ p ∈ E, (0 ≤ p.2 ∧ p.2 < cs.length) ∧ ρ p.2 < ρ p.1 := by
  classical
  have hex : ∀ k : Int, ∃ x : Int, (0 ≤ k ∧ k < cs.length) → x ∈ rd_L1 cs k := fun k => by
    by_cases hk : 0 ≤ k ∧ k < cs.length
    · obtain ⟨z, hz⟩ := List.exists_mem_of_ne_nil _ (h.srt k hk.1 hk.2).2
      exact ⟨z, fun _ => hz⟩
    · exact ⟨0, fun hh => absurd hh hk⟩
  obtain ⟨f, hf⟩ := Classical.axiomOfChoice hex
  refine ⟨fun k => rk G (f k), fun p hp => ?_⟩
  obtain ⟨h1, h2, hne⟩ := h.at_ hG hE hp
  obtain ⟨a, b, ha, hb, hne, rfl⟩ := (hE.mem p).1 hp
  refine ⟨h2, ?_⟩
  have hbn := hG.adj ha hb
  have m1 := (h.mem _ h1.1 h1.2 _).1 (hf _ h1)
  have m2 := (h.mem _ h2.1 h2.2 _).1 (hf _ h2)
  have e1 := (h.eqv _ a m1.1 ha).1 m1.2
  have e2 := (h.eqv _ b m2.1 hbn).1 m2.2
  show rk G (f (rd of b)) < rk G (f (rd of a))
  rw [rk_eqv e1, rk_eqv e2]
  refine rk_lt ha (.one hb) (fun hr => hne ?_)
  exact (h.eqv a b ha hbn).2 ⟨.one hb, hr⟩
theorem flat_mem (h : CI G cs of) {D : List Int} (hD : ∀ c ∈ D, 0 ≤ c ∧ c < cs.length) (z : Int) : z ∈ (D.map (rd_L1 cs)).flatten ↔ isNode G z ∧ rd of z ∈ D := by
  rw [List.mem_flatten]
  constructor
  · rintro ⟨l, hl, hz⟩
    obtain ⟨c, hc, rfl⟩ := List.mem_map.1 hl
    have h1 := hD c hc
    have := (h.mem c h1.1 h1.2 z).1 hz
    exact ⟨this.1, by rw [this.2]; exact hc⟩
  · rintro ⟨h1, h2⟩
    have h3 := hD _ h2
    exact ⟨_, List.mem_map.2 ⟨_, h2, rfl⟩, (h.mem _ h3.1 h3.2 z).2 ⟨h1, rfl⟩⟩
theorem Sq.rng (h : Sq E cs.length out) : ∀ c ∈ out, 0 ≤ c ∧ c < cs.length := fun c hc => by
  obtain ⟨k, hk, rfl⟩ := List.getElem_of_mem hc
  exact (h.st k hk).1
theorem Sq.closed (h : Sq E cs.length out) : ∀ k, k ≤ out.length → ∀ p ∈ E, p.1 ∈ out.take k → p.2 ∈ out.take k
  | 0, _, p, _, hp => by simp at hp
  | k + 1, hk, p, hpE, hp => by
    rw [List.take_add_one, List.getElem?_eq_getElem (by omega)] at hp ⊢
    rcases List.mem_append.1 hp with hp | hp
    · exact List.mem_append.2 (.inl (Sq.closed h k (by omega) p hpE hp))
    · have e : p.1 = out[k] := by simpa using hp
      exact List.mem_append.2 (.inl ((h.st k (by omega)).2.2.1 p hpE e))
/-- The components in Kahn's order are the list. -/
theorem CI.isC (h : CI G cs of) (hG : okG G) (hE : EG G of E) (hS : Sq E cs.length out) : IsC G (out.map (rd_L1 cs)) := by
  have hrng := hS.rng
  refine ⟨fun k hk => ?_, fun x hx => (flat_mem h hrng x).2 ⟨hx, hS.all _ (h.rng x hx).1 (h.rng x hx).2⟩⟩
  rw [List.length_map] at hk
  obtain ⟨hc, hcD, hed, hleast⟩ := hS.st k hk
  have hDr : ∀ c ∈ out.take k, 0 ≤ c ∧ c < cs.length := fun c hc => hrng c (List.mem_of_mem_take hc)
  have hfm := fun z => flat_mem h hDr z
  rw [List.getElem_map, ← List.map_take]
  obtain ⟨c, hce⟩ : ∃ c, out[k] = c := ⟨_, rfl⟩
  rw [hce] at hc hcD hed hleast ⊢
  obtain ⟨hsrt, hnn⟩ := h.srt c hc.1 hc.2
  obtain ⟨x, rest, hxr⟩ : ∃ x rest, rd_L1 cs c = x :: rest := by
    cases hl : rd_L1 cs c with
    | nil => exact absurd hl hnn
    | cons a l => exact ⟨a, l, rfl⟩
  have hxm := (h.mem c hc.1 hc.2 x).1 (by rw [hxr]; exact List.mem_cons_self)
  have hxl : ∀ z ∈ rd_L1 cs c, x ≤ z := fun z hz => by
    rw [hxr] at hz hsrt
    rcases List.mem_cons.1 hz with rfl | hz
    · exact Int.le_refl _
    · have := (List.pairwise_cons.1 hsrt).1 z hz; omega
  have hreach : ∀ y, Grf.Reach (adj G) x y → isNode G y ∧ (rd of y = c ∨ rd of y ∈ out.take k) := fun y hr => by
    induction hr with
    | refl => exact ⟨hxm.1, .inl hxm.2⟩
    | tail _ e ih =>
      obtain ⟨i1, i2⟩ := ih
      rename_i b b' _
      have hb' := hG.adj i1 e
      refine ⟨hb', ?_⟩
      by_cases hsame : rd of b = rd of b'
      · rw [← hsame]; exact i2
      · have hp : (rd of b, rd of b') ∈ E := (hE.mem _).2 ⟨b, b', i1, e, hsame, rfl⟩
        rcases i2 with i2 | i2
        · exact .inr (hed _ hp i2)
        · exact .inr (hS.closed k (by omega) _ hp i2)
  refine ⟨x, hxm.1, fun hx => hcD (by have := ((hfm x).1 hx).2; rwa [hxm.2] at this), fun y hr => ?_, fun y hy hlt hyD hrdy => ?_, ⟨h.srt c hc.1 hc.2 |>.1, fun z => ?_⟩⟩
  · obtain ⟨h1, h2⟩ := hreach y hr
    rcases h2 with h2 | h2
    · exact .inl ((h.eqv x y hxm.1 h1).1 (by rw [hxm.2, h2])).2
    · exact .inr ((hfm y).2 ⟨h1, h2⟩)
  · obtain ⟨c', hc'⟩ : ∃ c', rd of y = c' := ⟨_, rfl⟩
    have hcr := h.rng y hy
    rw [hc'] at hcr
    have hc'D : c' ∉ out.take k := fun hh => hyD ((hfm y).2 ⟨hy, by rw [hc']; exact hh⟩)
    have hyc' : y ∈ rd_L1 cs c' := (h.mem c' hcr.1 hcr.2 y).2 ⟨hy, hc'⟩
    have hne : c' ≠ c := fun e => by
      rw [e] at hyc'
      have := hxl y hyc'; omega
    have hlt' : c' < c := by
      rcases Int.lt_trichotomy c' c with h1 | h1 | h1
      · exact h1
      · exact absurd h1 hne
      · obtain ⟨z, hz, hzz⟩ := h.ord c c' hc.1 h1 hcr.2
        have := hxl z hz; have := hzz y hyc'; omega
    obtain ⟨p, hp, hp1, hp2⟩ := hleast c' hcr.1 hlt' hc'D
    obtain ⟨a, b, ha, hb, hab, rfl⟩ := (hE.mem p).1 hp
    simp only at hp1 hp2
    have hbn := hG.adj ha hb
    have hya := (h.eqv y a hy ha).1 (by rw [hc', hp1])
    have hyb : Grf.Reach (adj G) y b := hya.1.trans (.one hb)
    rcases hrdy b hyb with h1 | h1
    · have := (h.eqv y b hy hbn).2 ⟨hyb, h1⟩
      rw [hc', ← hp1] at this
      exact hab this
    · exact hp2 ((hfm b).1 h1).2
  · rw [h.mem c hc.1 hc.2 z]
    constructor
    · rintro ⟨h1, h2⟩; exact ⟨h1, (h.eqv x z hxm.1 h1).1 (by rw [hxm.2, h2])⟩
    · rintro ⟨h1, h2⟩; exact ⟨h1, by rw [← (h.eqv x z hxm.1 h1).2 h2, hxm.2]⟩
end
end Go.Proofs.Ytmlikgmcekofbaa
end

