/- digraph.Postorder, Reachable and ReversePostorder, for every graph. -/
import Derived.Test.YtjkclhpibielfaaFrB
set_option linter.unusedVariables false
set_option linter.unusedSimpArgs false
namespace Go.Proofs.Ytjkclhpibielfaa
open Go.RowKit Go.Proofs.YtjkclhpibielfaaW.PrintWords Go.Proofs.Ytjkclhpibielfaa.PDigraphTells Mem

theorem hasG_no {G : List (List Int)} {a : Int} (h : ¬ (chk G = 0 ∧ isNode G a)) : hasG G [a] = false := by
  cases e : hasG G [a] with
  | false => rfl
  | true =>
    have := (hasG_iff G [a]).1 e
    exact absurd ⟨this.2, this.1 a (by simp)⟩ h
set_option maxRecDepth 100000 in
theorem post_nil (A : Option Addr) (c : Nat) (G : List (List Int)) (a : Int) (w : World) (hC : Kd.C kG w A G.length G) (hc : G.length ≤ c) (hs : short G) (hok : ¬ (chk G = 0 ∧ isNode G a)) :
    Calls Try.prog 20 #[.agg #[.slice A G.length c], .int .i64 a] w fun e w' => e = .returned (.slice none 0 0) ∧ Below w.heap.size w w' := by
  have hX := Aside0.mk (And.intro hC (And.intro hc (And.intro hs (hasG_no hok))))
  clear hC hc hs hok
  go_enter Try.func20, Try.ntmps20
  go_wp2; go_step3
  go_wp2_with fail
  refine (has_any1 A c G (some ⟨w.heap.size + 1, 0, none⟩) 1 [a] _ (Kd.C_alloc (Kd.C_alloc hX.out.1 _) _) hX.out.2.1 ?_ (by simp) hX.out.2.2.1 (by simp) false hX.out.2.2.2).mono ?_
  · have := C_new (w.alloc (.cells #[.slice A G.length c] 24)) [a] (by simp) _ rfl
    simpa using this
  rintro e w1 ⟨rfl, B1⟩
  have hbb := Aside0.mk (((below_alloc (below_alloc (Below.refl _ w) _) _).trans (B1.mono (by simp; omega)) : Below w.heap.size w w1))
  clear B1
  go_wp2
  try rw [Exit.noGoto_ret]
  go_ret
  exact ⟨rfl, hbb.out⟩
theorem post_any (A : Option Addr) (c : Nat) (G : List (List Int)) (a : Int) (w : World) (hC : Kd.C kG w A G.length G) (hc : G.length ≤ c) (hs : short G) :
    Calls Try.prog 20 #[.agg #[.slice A G.length c], .int .i64 a] w fun e w' => ∃ vo, e = .returned vo ∧ Kd.R (Kd.int .i64) 3 w' 0 (fun k => w.heap.size ≤ k) vo (post G a) ∧ Below w.heap.size w w' := by
  by_cases hok : chk G = 0 ∧ isNode G a
  · exact post_main A c G a w hC hc hs hok
  · have hp : post G a = [] := by unfold post; rw [if_neg hok]
    rw [hp]
    exact (post_nil A c G a w hC hc hs hok).mono fun e w' h => ⟨_, h.1, Kd.R_nil _ _ _ _ _, h.2⟩
set_option maxRecDepth 100000 in
set_option maxHeartbeats 1000000 in
theorem rpost_any (A : Option Addr) (c : Nat) (G : List (List Int)) (a : Int) (w : World) (hC : Kd.C kG w A G.length G) (hc : G.length ≤ c) (hs : short G) (hl : G.length ≤ 65536) :
    Calls Try.prog 22 #[.agg #[.slice A G.length c], .int .i64 a] w fun e w' => ∃ vo, e = .returned vo ∧ Kd.R (Kd.int .i64) 3 w' 0 (fun k => w.heap.size ≤ k) vo (post G a).reverse ∧ Below w.heap.size w w' := by
  have hpl := post_len G a
  obtain ⟨k, hk⟩ := (srev_f (post G a) (by omega)).get
  obtain ⟨po, hpo⟩ : ∃ po, post G a = po := ⟨_, rfl⟩
  rw [hpo] at hk
  have hX := Aside0.mk (And.intro hC (And.intro hc (And.intro hs (And.intro hk hpo))))
  clear hC hc hs hk hpo hpl
  rw [hX.out.2.2.2.2]
  go_enter Try.func22, Try.ntmps22
  go_wp2_with fail
  refine (post_any A c G a _ (Kd.C_alloc hX.out.1 _) hX.out.2.1 hX.out.2.2.1).mono ?_
  rw [hX.out.2.2.2.2]
  rintro e w1 ⟨v1, rfl, R1, B1⟩
  have H1 := Aside0.mk (And.intro (Kd.R_mono R1 (fun k hk => by have : (w.alloc (.cells #[.slice A G.length c] 24)).heap.size = w.heap.size + 1 := by simp
                                                                rw [this] at hk; exact (by omega : w.heap.size ≤ k)) : Kd.R (Kd.int .i64) 3 w1 0 (fun k => w.heap.size ≤ k) v1 po) ((below_alloc (Below.refl _ w) _).trans (B1.mono (by simp)) : Below w.heap.size w w1))
  clear R1 B1
  go_wp2_with fail
  refine (slices_Reverse_int_int.calls k (fun k => w.heap.size ≤ k) v1 po po.reverse w w1 H1.out.2 (Kd.R_raise (d := Kd.int .i64) (b := 0) (b' := w.heap.size) (fun _ _ _ _ h => h) H1.out.1 (fun k hk => H1.out.1.1 k hk)) hX.out.2.2.2.1).mono ?_
  rintro e w2 ⟨rfl, R2, B2, _⟩
  have H2 := Aside0.mk (And.intro R2 B2)
  clear R2 B2
  go_wp2
  go_ret
  exact ⟨_, rfl, Kd.R_lower (Kd.R_mono H2.out.1 (fun k hk => hk.elim id (fun h => Nat.le_trans H1.out.2.size h))) (Nat.zero_le _), H2.out.2⟩

theorem post_found {G : List (List Int)} {a : Int} (h : chk G = 0 ∧ isNode G a) : ∃ met', Grf.Found (adj G) (nodes G) (Grf.Reach (adj G) a) [a] (fun _ => false) [] met' (post G a) (post G a) ∧ ∃ i, post G a = i ++ [a] := by
  obtain ⟨nw, hf, i, hi⟩ := Grf.visit_found (okG.cl h.1) G.length a (fun _ => false) [] (Grf.Reach (adj G) a) ((mem_nodes G a).2 h.2) rfl (by rw [cnt_all]; exact Nat.le_refl _) (fun _ h => h)
  have e2 : (Grf.visit (adj G) G.length a (fun _ => false) []).2 = post G a := by unfold post; rw [if_pos h]
  have he : post G a = nw := by rw [← e2, hf.eq]; rfl
  refine ⟨(Grf.visit (adj G) G.length a (fun _ => false) []).1, ?_, i, by rw [he, hi]⟩
  rw [e2, ← he] at hf
  exact hf
theorem post_mem {G : List (List Int)} {a : Int} (h : chk G = 0 ∧ isNode G a) (x : Int) : x ∈ post G a ↔ Grf.Reach (adj G) a x := by
  obtain ⟨met', hf, _⟩ := post_found h
  refine ⟨hf.reach x, fun hx => ?_⟩
  have hm := hx.closed (M := met') (hf.roots a (by simp)) (fun y hy z hz => by
    rcases (hf.met_ y).1 hy with h1 | h1
    · cases h1
    · exact hf.closed y h1 z hz)
  rcases (hf.met_ x).1 hm with h1 | h1
  · cases h1
  · exact h1
theorem post_nd {G : List (List Int)} {a : Int} (h : chk G = 0 ∧ isNode G a) : (post G a).Nodup := (post_found h).choose_spec.1.nd
theorem post_node {G : List (List Int)} {a : Int} (h : chk G = 0 ∧ isNode G a) : ∀ x ∈ post G a, isNode G x := fun x hx => (mem_nodes G x).1 ((post_found h).choose_spec.1.inV x hx)
theorem marks_reach {G : List (List Int)} {a : Int} (h : chk G = 0 ∧ isNode G a) {bs : List Bool} (hl : bs.length = G.length) (hm : ∀ x, metOf bs x = true ↔ x ∈ post G a) : bs = reachL G a := by
  refine reachL_eq h hl (fun x hx => (post_mem h x).1 ((hm x).1 hx)) ((hm a).2 ((post_mem h a).2 (.refl a))) (fun x hx y hy => (hm y).2 ((post_mem h y).2 (.tail ((post_mem h x).1 ((hm x).1 hx)) hy)))
set_option maxRecDepth 100000 in
set_option maxHeartbeats 1000000 in
theorem reach_main (A : Option Addr) (c : Nat) (G : List (List Int)) (a : Int) (w : World) (hC : Kd.C kG w A G.length G) (hc : G.length ≤ c) (hs : short G) (hok : chk G = 0 ∧ isNode G a) :
    Calls Try.prog 17 #[.agg #[.slice A G.length c], .int .i64 a] w fun e w' => ∃ vo, e = .returned vo ∧ Kd.R Kd.bool 4 w' 0 (fun k => w.heap.size ≤ k) vo (reachL G a) ∧ Below w.heap.size w w' := by
  have hhas : hasG G [a] = true := (hasG_iff G [a]).2 ⟨by simpa using hok.2, hok.1⟩
  have hX := Aside0.mk (And.intro hC (And.intro hc (And.intro hs (And.intro hok hhas))))
  have hl := okG.len hok.1
  clear hC hc hs hok hhas
  go_enter Try.func17, Try.ntmps17
  go_wp2_with fail
  refine (has_any1 A c G (some ⟨w.heap.size + 1, 0, none⟩) 1 [a] _ (Kd.C_alloc (Kd.C_alloc hX.out.1 _) _) hX.out.2.1 ?_ (by simp) hX.out.2.2.1 (by simp) true hX.out.2.2.2.2).mono ?_
  · have := C_new (w.alloc (.cells #[.slice A G.length c] 24)) [a] (by simp) _ rfl
    simpa using this
  rintro e w1 ⟨rfl, B1⟩
  obtain ⟨gb, hgb⟩ : ∃ gb, gb = w.heap.size := ⟨_, rfl⟩
  have hbb : Below w.heap.size w w1 := (below_alloc (below_alloc (Below.refl _ w) _) _).trans (B1.mono (by simp; omega))
  have hg1 : w1.heap[gb]? = some (.cells #[.slice A G.length c] 24 (0, 0)) := by
    rw [hgb]
    refine (B1.block _ (by simp; omega)).trans ?_
    rw [Below.heap_alloc _ _ _ (by simp)]
    exact heap_alloc_new w _
  have c0 : w1.cell? ⟨gb, 0, none⟩ = some (.slice A G.length c) := cell_at hg1 rfl
  have H1 := Aside0.mk (And.intro hbb (And.intro hg1 (show w.heap.size ≤ gb by omega)))
  rw [show Value.pointer (some (⟨w.heap.size, 0, none⟩ : Addr)) = Value.pointer (some ⟨gb, 0, none⟩) by rw [hgb]]
  clear B1 hbb hg1 hgb
  go_wp2_with (at_make; refine Kd.R_make Kd.bool (w0 := w1) 0 4 (by rfl) (N := 16) (by rfl) 33 (.tmp 15) (.tmp 15) (by rfl) (G.length : Int) (by rfl) (by rfl) Try.underlying33 (.bool false) 1 info4 rfl (by decide) (by decide) false (ok := fun k => w1.heap.size ≤ k) (okp := fun _ => False) rfl (fun _ h => h.elim) (Nat.le_refl _) (by omega) (by omega) ((Kp.refl (fun _ => False) w1).belowB (fun _ h => h.elim) (Nat.zero_le _)) (Nat.zero_le _) ?_; intro v2 w2 hRA hBA hgA hatA; rw [Int.toNat_natCast] at hRA; have hg2 : w2.heap[gb]? = some (.cells #[.slice A G.length c] 24 (0, 0)) := (hgA.block gb (blk_lt' H1.out.2.1) (by simp)).trans H1.out.2.1; have c2 : w2.cell? ⟨gb, 0, none⟩ = some (.slice A G.length c) := cell_at hg2 rfl; have hb2 : Below w1.heap.size w1 w2 := ((Kp.refl (fun _ => False) w1).grown hgA (fun k hk => by cases hk)).none_below; have H2 := Aside0.mk (And.intro hRA hb2); clear hRA hBA hgA hatA hg2 hb2)
  have hbw2 := H1.out.1.trans (H2.out.2.mono H1.out.1.size)
  refine (post_any A c G a _ (Kd.C_below hX.out.1 hbw2) hX.out.2.1 hX.out.2.2.1).mono ?_
  rintro e w3 ⟨v3, rfl, R3, B3⟩
  have hpl := post_len G a
  obtain ⟨po, hpo⟩ : ∃ po, post G a = po := ⟨_, rfl⟩
  rw [hpo] at R3 hpl
  obtain ⟨Ap, cp, rfl, hlep, Cp⟩ := Kd.R_reads R3
  have hR2 : Kd.R Kd.bool 4 w3 0 (fun k => w1.heap.size ≤ k ∧ k < w2.heap.size) v2 (List.replicate G.length false) := Kd.R_step (Kd.R_mono (Kd.R_bound H2.out.1) (fun k hk => ⟨hk.1, hk.2.2.1⟩)) (fun k hk hlt => B3.block k hk.2)
  have hGpos : 0 < G.length := by have := hX.out.2.2.2.1.2; unfold isNode at this; omega
  obtain ⟨g, cap, ev, hxx⟩ := Kd.R_form hR2 (by simpa using hGpos)
  clear hxx
  rw [List.length_replicate] at ev
  subst ev
  have H3 := Aside0.mk (And.intro R3 (And.intro hpo (And.intro Cp (And.intro (hbw2.trans (B3.mono hbw2.size)) (And.intro hbw2 (And.intro (H2.out.2.size) (H1.out.1.size)))))))
  have hI0 : Aside0 (∃ bs : List Bool, bs.length = G.length ∧ (∀ x, metOf bs x = true ↔ x ∈ po.take 0) ∧ Kd.R Kd.bool 4 w3 0 (fun k => w1.heap.size ≤ k ∧ k < w2.heap.size) (.slice (some ⟨g, 0, none⟩) G.length cap) bs ∧ Kp (fun k => w1.heap.size ≤ k ∧ k < w2.heap.size) w3 w3) := ⟨_, by simp, fun x => by rw [metOf_false]; simp, hR2, Kp.refl _ _⟩
  clear R3 Cp B3 hR2 hbw2 hlep
  go_wp2_with fail
  clear hGpos c0 c2
  go_loopg [21] po.length (fun q v wi => ∃ j : Nat, j + q = po.length ∧ v = .int .i64 (j : Int) ∧ Aside0 (∃ bs : List Bool, bs.length = G.length ∧ (∀ x, metOf bs x = true ↔ x ∈ po.take j) ∧ Kd.R Kd.bool 4 wi 0 (fun k => w1.heap.size ≤ k ∧ k < w2.heap.size) (.slice (some ⟨g, 0, none⟩) G.length cap) bs ∧ Kp (fun k => w1.heap.size ≤ k ∧ k < w2.heap.size) w3 wi))
  case atStart => exact ⟨0, by omega, rfl, hI0⟩
  case round =>
    obtain ⟨j, hj, rfl, hJ⟩ := hrel
    clear hI0
    by_cases hlt : j < po.length
    · have hlti : (j : Int) < po.length := by omega
      obtain ⟨gk1, rfl⟩ : ∃ q, gk = q + 1 := ⟨gk - 1, by omega⟩
      have hj1 : j + 1 + gk1 = po.length := by omega
      have hgk : gk1 < gk1 + 1 := by omega
      obtain ⟨bs, hbl, hbm, hR, hK⟩ := hJ.out
      obtain ⟨A9, c9, e9, _, C9⟩ := Kd.R_reads (Kd.R_step H3.out.1 (fun k hk hlt9 => hK.block hlt9 (fun h9 => by have := h9.2; omega)))
      injection e9 with e91 e92 e93
      subst e91
      subst e93
      clear e92
      obtain ⟨ad, eA, a0⟩ := Kd.at_int C9 (j : Int) (by omega) hlti
      rw [rd_get po j hlt, Int.toNat_natCast] at a0
      subst eA
      have hxn : isNode G po[j] := by have := post_node hX.out.2.2.2.1 po[j] (by rw [H3.out.2.1]; exact List.getElem_mem hlt); exact this
      obtain ⟨x, hx⟩ : ∃ x, x = po[j] := ⟨_, rfl⟩
      rw [← hx] at a0 hxn
      have hxn' := Aside0.mk hxn
      unfold isNode at hxn
      have hx1 := hxn.1
      have hx2 : x < (G.length : Int) := hxn.2
      obtain ⟨b0, f0⟩ := Kd.R_celln false hR x hx1 hx2
      have hput := Kd.R_putg hR x true
      have hset := metOf_set bs x hx1 (by rw [hbl]; exact hx2)
      have hI : Aside0 (∃ bs : List Bool, bs.length = G.length ∧ (∀ x, metOf bs x = true ↔ x ∈ po.take (j + 1)) ∧ Kd.R Kd.bool 4 (wr.setCell ⟨g, x.toNat, none⟩ (.bool true)) 0 (fun k => w1.heap.size ≤ k ∧ k < w2.heap.size) (.slice (some ⟨g, 0, none⟩) G.length cap) bs ∧ Kp (fun k => w1.heap.size ≤ k ∧ k < w2.heap.size) w3 (wr.setCell ⟨g, x.toNat, none⟩ (.bool true))) := by
        refine ⟨bs.set x.toNat true, by rw [List.length_set]; exact hbl, fun y => ?_, hput.1, hK.setCell (.inl (hR.1 g rfl)) _⟩
        rw [hset, Grf.mark_iff, hbm y, List.take_succ_eq_append_getElem hlt, List.mem_append, List.mem_singleton, ← hx]
        exact Or.comm
      clear hput hset hbm hR hK hx hJ C9 hbl
      go_wp2
      go_roundg gk1
      case rel => exact ⟨j + 1, hj1, by go_num, hI⟩
      case measure => exact hgk
    · obtain ⟨bs, hbl, hbm, hR, hK⟩ := hJ.out
      have he : bs = reachL G a := marks_reach hX.out.2.2.2.1 hbl (fun x => by rw [hbm x, List.take_of_length_le (by omega), H3.out.2.1])
      rw [he] at hR
      have hB := H3.out.2.2.2.1.trans (hK.belowB (fun k hk => Nat.le_trans H3.out.2.2.2.2.2.2 hk.1) H3.out.2.2.2.1.size)
      have hF := Aside0.mk (And.intro (Kd.R_mono hR (fun k hk => Nat.le_trans H3.out.2.2.2.2.2.2 hk.1)) hB)
      clear hR hK hB hbm hbl hJ he
      go_wp2
      go_ret
      exact ⟨_, rfl, hF.out.1, hF.out.2⟩
set_option maxRecDepth 100000 in
theorem reach_any (A : Option Addr) (c : Nat) (G : List (List Int)) (a : Int) (w : World) (hC : Kd.C kG w A G.length G) (hc : G.length ≤ c) (hs : short G) :
    Calls Try.prog 17 #[.agg #[.slice A G.length c], .int .i64 a] w fun e w' => ∃ vo, e = .returned vo ∧ Kd.R Kd.bool 4 w' 0 (fun k => w.heap.size ≤ k) vo (reachL G a) ∧ Below w.heap.size w w' := by
  by_cases hok : chk G = 0 ∧ isNode G a
  · exact reach_main A c G a w hC hc hs hok
  · rw [reachL_nil hok]
    have hX := Aside0.mk (And.intro hC (And.intro hc (And.intro hs (hasG_no hok))))
    clear hC hc hs hok
    go_enter Try.func17, Try.ntmps17
    go_wp2_with fail
    refine (has_any1 A c G (some ⟨w.heap.size + 1, 0, none⟩) 1 [a] _ (Kd.C_alloc (Kd.C_alloc hX.out.1 _) _) hX.out.2.1 ?_ (by simp) hX.out.2.2.1 (by simp) false hX.out.2.2.2).mono ?_
    · have := C_new (w.alloc (.cells #[.slice A G.length c] 24)) [a] (by simp) _ rfl
      simpa using this
    rintro e w1 ⟨rfl, B1⟩
    have hbb := Aside0.mk (((below_alloc (below_alloc (Below.refl _ w) _) _).trans (B1.mono (by simp; omega)) : Below w.heap.size w w1))
    clear B1
    go_wp2
    go_ret
    exact ⟨_, rfl, Kd.R_nil _ _ _ _ _, hbb.out⟩
end Go.Proofs.Ytjkclhpibielfaa
