import Derived.Deep.CutRange
import Derived.StillTail
import Derived.Deep.RegionHeld3
import Derived.Test.YtmlikgmcekofbaaMCom9
section
/- scc: components. -/
set_option linter.unusedVariables false
set_option linter.unusedSimpArgs false
set_option linter.unusedSectionVars false
namespace Go.Proofs.Ytmlikgmcekofbaa
open Go.RowKit Go.Proofs.YtmlikgmcekofbaaW.PrintWords Go.Proofs.Ytmlikgmcekofbaa.PDigraphTells Mem

theorem aI_zero (N : Nat) : aI (List.replicate N 0) = (List.replicate N (Value.int .i64 0)).toArray := by simp [aI]
theorem aB_zero (N : Nat) : aB (List.replicate N false) = (List.replicate N (Value.bool false)).toArray := by simp [aB]
theorem cells_false (N : Nat) : madeCells (Value.bool false).cells N = (List.replicate N (Value.bool false)).toArray := by
  unfold madeCells
  apply Array.ext
  · simp
  · intro i h1 h2
    simp [Value.cells, Nat.mod_one]
theorem info4' : ∃ i, Try.prog.info? 4 = some i ∧ i.zero = some (.bool false) ∧ i.size = 1 ∧ i.bytes = 1 := by
  obtain ⟨i, h1, h2⟩ := Option.map_eq_some_iff.1 info4
  simp only [Prod.mk.injEq] at h2
  exact ⟨i, h1, h2.1, h2.2.1, h2.2.2⟩
theorem make_runI (N : Nat) (hN : N ≤ 70000) (w : World) : (Instr.makeSlice 29 (.int .i64 (N : Int)) (.int .i64 (N : Int))).run Try.prog w = .ok (.slice (some ⟨w.heap.size, 0, none⟩) N N) (w.alloc (.cells (aI (List.replicate N 0)) 3)) := by
  rw [aI_zero]; exact make_run N hN w
theorem make_runB (N : Nat) (hN : N ≤ 70000) (w : World) : (Instr.makeSlice 32 (.int .i64 (N : Int)) (.int .i64 (N : Int))).run Try.prog w = .ok (.slice (some ⟨w.heap.size, 0, none⟩) N N) (w.alloc (.cells (aB (List.replicate N false)) 4)) := by
  obtain ⟨i, h1, h2, h3, h4⟩ := info4'
  have h := run_make (P := Try.prog) w 32 4 i (.bool false) Try.underlying32 h1 h2 .i64 .i64 (N : Int) (N : Int) (by omega) (by omega) (by rw [h4]; omega) (by omega)
  rw [Int.toNat_natCast, h3, Nat.mul_one, cells_false] at h
  rw [aB_zero]; exact h
theorem al5 (w : World) (x0 x1 x2 x3 x4 : Obj) : ∀ W, W = ((((w.alloc x0).alloc x1).alloc x2).alloc x3).alloc x4 →
    W.heap[w.heap.size]? = some x0 ∧ W.heap[w.heap.size + 1]? = some x1 ∧ W.heap[w.heap.size + 1 + 1]? = some x2 ∧ W.heap[w.heap.size + 1 + 1 + 1]? = some x3 ∧ W.heap[w.heap.size + 1 + 1 + 1 + 1]? = some x4 ∧ Below w.heap.size w W := by
  rintro W rfl
  have h0 := heap_alloc_new w x0
  have h1 := heap_alloc_new (w.alloc x0) x1
  have h2 := heap_alloc_new ((w.alloc x0).alloc x1) x2
  have h3 := heap_alloc_new (((w.alloc x0).alloc x1).alloc x2) x3
  have h4 := heap_alloc_new ((((w.alloc x0).alloc x1).alloc x2).alloc x3) x4
  simp only [World.size_alloc] at h1 h2 h3 h4
  refine ⟨?_, ?_, ?_, ?_, h4, below_alloc (below_alloc (below_alloc (below_alloc (below_alloc (Below.refl _ w) _) _) _) _) _⟩
  · rw [Below.heap_alloc _ _ _ (by simp only [World.size_alloc]; omega), Below.heap_alloc _ _ _ (by simp only [World.size_alloc]; omega), Below.heap_alloc _ _ _ (by simp only [World.size_alloc]; omega), Below.heap_alloc _ _ _ (by simp only [World.size_alloc]; omega)]; exact h0
  · rw [Below.heap_alloc _ _ _ (by simp only [World.size_alloc]; omega), Below.heap_alloc _ _ _ (by simp only [World.size_alloc]; omega), Below.heap_alloc _ _ _ (by simp only [World.size_alloc]; omega)]; exact h1
  · rw [Below.heap_alloc _ _ _ (by simp only [World.size_alloc]; omega), Below.heap_alloc _ _ _ (by simp only [World.size_alloc]; omega)]; exact h2
  · rw [Below.heap_alloc _ _ _ (by simp only [World.size_alloc]; omega)]; exact h3
/-- A row of rows, one of them taken out, written and put back. -/
theorem kid_open {W : World} {ok : Nat → Prop} {g n cap : Nat} {xs : List (List Int)} (hS : Kd.S kG 29 W 0 ok (.slice (some ⟨g, 0, none⟩) n cap) xs) (p : Int) (h0 : 0 ≤ p) (h1 : p < n) :
    ∃ A0 c0, ∃ oki : Nat → Prop, W.cell? ⟨g, p.toNat, none⟩ = some (.slice A0 (rd_L1 xs p).length c0) ∧ W.frozen? ⟨g, p.toNat, none⟩ = false ∧ Kd.R (Kd.int .i64) 3 W 0 oki (.slice A0 (rd_L1 xs p).length c0) (rd_L1 xs p) ∧ (∀ k, oki k → ok k ∧ k ≠ g) ∧
      ∀ w1 v1 ys, W.grownBy w1 (Value.slice A0 (rd_L1 xs p).length c0).ownBlock → Kd.R (Kd.int .i64) 3 w1 0 (fun k => oki k ∨ ok k ∧ W.heap.size ≤ k) v1 ys →
        w1.cell? ⟨g, p.toNat, none⟩ = some (.slice A0 (rd_L1 xs p).length c0) ∧ w1.frozen? ⟨g, p.toNat, none⟩ = false ∧ Kd.S kG 29 (w1.setCell ⟨g, p.toNat, none⟩ v1) 0 ok (.slice (some ⟨g, 0, none⟩) n cap) (xs.set p.toNat ys) := by
  obtain ⟨oki, ce, hcl, hM, hcc, hfr, hoki, hH⟩ := Kd.S_elem hS [] p h0 h1
  obtain ⟨ve, rfl, ge⟩ := hM
  have hv := hcc 0 _ rfl
  have hf := hfr 0
  rw [Nat.add_zero, show (Kd.slice 3 (Kd.int .i64)).sz = 1 from rfl, Nat.mul_one] at hv hf
  obtain ⟨A0, c0, ev, _, _⟩ := Kd.R_reads ge
  subst ev
  refine ⟨A0, c0, oki, hv, hf, ge, hoki, fun w1 v1 ys hg hR => ?_⟩
  have hH1 := Kd.H_grown (Kd.H_widen hH) hg (fun k e => .inl (ge.1 k e))
  obtain ⟨g1, g2⟩ := Kd.H_at hH1 h0 h1
  have g1 := g1 0 _ rfl
  have g2 := g2 0
  rw [Nat.add_zero, show (Kd.slice 3 (Kd.int .i64)).sz = 1 from rfl, Nat.mul_one] at g1 g2
  have hP := (Kd.S_seg0 hH1 h0 h1 (seg := [v1]) (j := 0) (show 0 + 1 ≤ 1 from Nat.le_refl _) (x' := ys) (Kd.M_row hR) (fun _ hk => hk)).1
  rw [Nat.add_zero, show (Kd.slice 3 (Kd.int .i64)).sz = 1 from rfl, Nat.mul_one] at hP
  exact ⟨g1, g2, hP⟩

/-- A row filled with -1 up to j. -/
def fillm (ct j : Nat) : List Int := List.replicate j (-1) ++ List.replicate (ct - j) 0
theorem fillm_len {ct j : Nat} (h : j ≤ ct) : (fillm ct j).length = ct := by unfold fillm; simp; omega
theorem fillm_set {ct j : Nat} (h : j < ct) : (fillm ct j).set j (-1) = fillm ct (j + 1) := by
  unfold fillm
  rw [List.set_append_right _ _ (by simp), List.length_replicate, Nat.sub_self, show ct - j = (ct - (j + 1)) + 1 by omega, List.replicate_succ, List.set_cons_zero, List.replicate_succ', List.append_assoc]
  rfl
theorem snoc_put (out : List (List Int)) (i : Int) : (out ++ [[]]).set ((out.length : Int)).toNat (rd_L1 (out ++ [[]]) (out.length : Int) ++ [i]) = out ++ [[i]] := by
  rw [rdl_app (by omega), if_pos rfl, Int.toNat_natCast, List.nil_append, List.set_append_right _ _ (Nat.le_refl _), Nat.sub_self, List.set_cons_zero]
theorem sorted_len {l : List Int} {n : Nat} (h : l.Pairwise (· < ·)) (hm : ∀ z ∈ l, 0 ≤ z ∧ z < n) : l.length ≤ n := by
  have h1 : l.Nodup := h.imp (fun {a b} hlt e => by omega)
  have := Grf.Tj.nodup_len l ((List.range n).map fun (i : Nat) => (i : Int)) h1 (fun x hx => by
    obtain ⟨h2, h3⟩ := hm x hx
    exact List.mem_map.2 ⟨x.toNat, List.mem_range.2 (by omega), by omega⟩)
  simpa using this
theorem NI.row_len {n : Nat} {comp : List Int} {cnt i : Nat} {num of : List Int} {out : List (List Int)} (h : NI n comp cnt i num of out) {k : Int} (h0 : 0 ≤ k) (h1 : k < out.length) : (rd_L1 out k).length ≤ i :=
  sorted_len (h.srt k h0 h1).1 (fun z hz => by have := (h.mem k h0 h1 z).1 hz; omega)
theorem cell_at2 {w W : World} {b j : Nat} (h : W.heap[b]? = w.heap[b]?) : W.cell? ⟨b, j, none⟩ = w.cell? ⟨b, j, none⟩ := by simp [World.cell?, h]
theorem own_raw {w : World} {b n : Nat} {l : List Int} {ok : Nat → Prop} (h : w.heap[b]? = some (.cells (aI l) 3 (0, 0))) (hn : l.length = n) (hm : n ≤ 1000000) (hok : ok b) : Kd.R (Kd.int .i64) 3 w 0 ok (.slice (some ⟨b, 0, none⟩) n n) l := by
  subst hn
  refine Kd.R_of_own (h1 := fun _ => rfl) ⟨by simp [encs], .inr ⟨b, l.length, aI l, rfl, Nat.zero_le _, h, Nat.le_refl _, by unfold maxLen; omega, by simp [aI], ?_⟩⟩ (fun k hk => by simp only [Value.ownBlock, Option.some.injEq] at hk; rw [← hk]; exact hok)
  simp only [aI, encs]
  exact List.take_of_length_le (by simp)
theorem visd_start (G : List (List Int)) : visd ⟨List.replicate G.length 0, List.replicate G.length 0, List.replicate G.length false, [], List.replicate G.length 0, 0, 0⟩ = fun _ => false := by
  funext x
  unfold visd tb
  by_cases h : 0 ≤ x
  · rw [if_pos h]
    simp only [List.getD_eq_getElem?_getD, List.getElem?_replicate]
    split <;> simp
  · rw [if_neg h]; simp
theorem TI.start (G : List (List Int)) : TI G ⟨List.replicate G.length 0, List.replicate G.length 0, List.replicate G.length false, [], List.replicate G.length 0, 0, 0⟩ [] 0 0 := by
  have h0 : tb (List.replicate G.length 0) = fun _ => 0 := by
    funext x
    unfold tb
    by_cases h : 0 ≤ x
    · rw [if_pos h]
      simp only [List.getD_eq_getElem?_getD, List.getElem?_replicate]
      split <;> simp
    · rw [if_neg h]
  refine ⟨?_, fun x hx => ?_, rfl, rfl, by simp, ?_, by simp⟩
  · show Grf.Tj.Inv _ _ (tb (List.replicate G.length 0)) (tb (List.replicate G.length 0)) [].reverse _ (tb (List.replicate G.length 0)) _ _
    rw [h0]
    exact Grf.Tj.Inv.start _ _ _ _
  · have h1 : x.toNat < G.length := by have := hx.1; have := hx.2; omega
    simp [rdOf, h1]
  · rw [visd_start, cnt_all]; simp
theorem TI.all {G : List (List Int)} {d : FD} {ct nx : Nat} (h : TI G d [] ct nx) (hv : ∀ x, isNode G x → visd d x = true) :
    (∀ j : Int, 0 ≤ j → j < G.length → 0 ≤ rd d.comp j ∧ rd d.comp j < ct) ∧ ∀ x y, isNode G x → isNode G y → (rd d.comp x = rd d.comp y ↔ Grf.Reach (adj G) x y ∧ Grf.Reach (adj G) y x) := by
  have he := h.inv.empty
  have hi := h.inv
  rw [he] at hi
  have hor : ∀ x, isNode G x → tb d.ord x ≠ 0 := fun x hx => by have := hv x hx; unfold visd at this; exact of_decide_eq_true this
  have hcm : ∀ x, isNode G x → tb d.comp x = rd d.comp x := fun x hx => tb_rd hx.1 (by rw [h.len.2.2.2]; exact hx.2)
  refine ⟨fun j h0 h1 => ?_, fun x y hx hy => ?_⟩
  · rw [← hcm j ⟨h0, h1⟩]; exact hi.cl j (hor j ⟨h0, h1⟩) (by simp)
  · rw [← hcm x hx, ← hcm y hy]; exact hi.cm x y (hor x hx) (by simp) (hor y hy) (by simp)
theorem fs_mk {G : List (List Int)} {A : Option Addr} {c : Nat} {w w1 W : World} {p b1 b2 b3 b4 : Nat} {I Z : Array Value} {x0 x1 x2 x3 x4 : Obj} (hB : Below w.heap.size w w1) (hI : aI (List.replicate G.length 0) = I) (hZ : aB (List.replicate G.length false) = Z)
    (hA : W.heap[w1.heap.size]? = some x0 ∧ W.heap[w1.heap.size + 1]? = some x1 ∧ W.heap[w1.heap.size + 1 + 1]? = some x2 ∧ W.heap[w1.heap.size + 1 + 1 + 1]? = some x3 ∧ W.heap[w1.heap.size + 1 + 1 + 1 + 1]? = some x4 ∧ Below w1.heap.size w1 W)
    (hp : W.heap[p]? = some (.cells #[.slice A G.length c, .slice (some ⟨b1, 0, none⟩) G.length G.length, .slice (some ⟨b2, 0, none⟩) G.length G.length, .slice (some ⟨b3, 0, none⟩) G.length G.length, .slice none 0 0, .slice (some ⟨b4, 0, none⟩) G.length G.length, .int .i64 0, .int .i64 0] 50 (0, 0)))
    (h1 : W.heap[b1]? = some (.cells I 3 (0, 0))) (h2 : W.heap[b2]? = some (.cells I 3 (0, 0))) (h3 : W.heap[b3]? = some (.cells Z 4 (0, 0))) (h4 : W.heap[b4]? = some (.cells I 3 (0, 0)))
    (hn : (p ≠ b1 ∧ p ≠ b2 ∧ p ≠ b3 ∧ p ≠ b4 ∧ b1 ≠ b2 ∧ b1 ≠ b3 ∧ b1 ≠ b4 ∧ b2 ≠ b3 ∧ b2 ≠ b4 ∧ b3 ≠ b4) ∧ w1.heap.size ≤ p ∧ w1.heap.size ≤ b1 ∧ w1.heap.size ≤ b2 ∧ w1.heap.size ≤ b3 ∧ w1.heap.size ≤ b4) :
    FS G A c w W.drew p b1 b2 b3 b4 (.slice none 0 0) ⟨List.replicate G.length 0, List.replicate G.length 0, List.replicate G.length false, [], List.replicate G.length 0, 0, 0⟩ := by
  subst hI
  subst hZ
  have hs := hB.size
  have h : FS G A c w W p b1 b2 b3 b4 (.slice none 0 0) ⟨List.replicate G.length 0, List.replicate G.length 0, List.replicate G.length false, [], List.replicate G.length 0, 0, 0⟩ :=
    ⟨hp, h1, h2, h3, h4, ⟨Kd.own_of_R (Kd.R_nil (Kd.int .i64) 3 W 0 (fun _ => True)), fun k hk => by simp [Value.ownBlock] at hk⟩, hn.1, by omega, hB.trans (hA.2.2.2.2.2.mono hs), by simp⟩
  exact h.step (below_drew1 (Below.refl _ _))
/-- What components hands back. -/
def CMP (G : List (List Int)) (w : World) (e : Ending) (w' : World) : Prop := ∃ v1 v2 cs of, e = .returned (.tuple #[v1, v2]) ∧ Kd.S kG 29 w' 0 (fun k => w.heap.size ≤ k) v1 cs ∧ Kd.R (Kd.int .i64) 3 w' 0 (fun k => w.heap.size ≤ k) v2 of ∧ CI G cs of ∧ Below w.heap.size w w'
set_option maxRecDepth 100000 in
set_option maxHeartbeats 8000000 in
theorem components_any (A : Option Addr) (c : Nat) (G : List (List Int)) (w : World) (hC : Kd.C kG w A G.length G) (hc : G.length ≤ c) (hs : short G) (hG : okG G) :
    Calls Try.prog 19 #[.agg #[.slice A G.length c]] w (CMP G w) := by
  have hle := okG.len hG
  have hX := Aside0.mk (And.intro hC (And.intro hc (And.intro hs hG)))
  obtain ⟨w1, hw1⟩ : ∃ w1, w1 = w.alloc (.cells #[.slice A G.length c] 24) := ⟨_, rfl⟩
  have c0 : w1.cell? ⟨w.heap.size, 0, none⟩ = some (.slice A G.length c) := by rw [hw1]; exact cell_at (heap_alloc_new w _) rfl
  have B1 : Aside0 (Below w.heap.size w w1) := ⟨by rw [hw1]; exact below_alloc (Below.refl _ w) _⟩
  have hmI := fun w => make_runI G.length (by omega) w
  have hmB := fun w => make_runB G.length (by omega) w
  have hle' := Aside0.mk hle
  clear hC hc hs hG hle
  go_enter Try.func19, Try.ntmps19
  go_upto_region 1 with (fail)
  rw [← hw1]
  clear hw1
  go_upto_region 2 with (fail)
  have hC2 := Aside0.mk (And.intro hmI hmB)
  have hc0 := Aside0.mk c0
  clear hmI hmB c0
  go_cut [5] from 16 to 26 (fun v5 wx => ∃ p b1 b2 b3 b4 : Nat, v5 = .pointer (some ⟨p, 0, none⟩) ∧ Aside0 (FS G A c w wx p b1 b2 b3 b4 (.slice none 0 0) ⟨List.replicate G.length 0, List.replicate G.length 0, List.replicate G.length false, [], List.replicate G.length 0, 0, 0⟩))
  case first =>
    have hmI := hC2.out.1
    have hmB := hC2.out.2
    have c0 := hc0.out
    obtain ⟨I, hI⟩ : ∃ I, aI (List.replicate G.length 0) = I := ⟨_, rfl⟩
    obtain ⟨Z, hZ⟩ : ∃ Z, aB (List.replicate G.length false) = Z := ⟨_, rfl⟩
    rw [hI] at hmI
    rw [hZ] at hmB
    have hIZ := Aside0.mk (And.intro hI hZ)
    clear hI hZ
    have ca : ∀ (W : World) (o : Obj), W.cell? ⟨w.heap.size, 0, none⟩ = some (.slice A G.length c) → (W.alloc o).cell? ⟨w.heap.size, 0, none⟩ = some (.slice A G.length c) := fun W o h => (Below.cell (below_alloc (Below.refl _ W) _) (World.block_lt_of_cell? _ _ h)).trans h
    have f0 : (w1.alloc (.cells Z 4)).cell? ⟨w.heap.size, 0, none⟩ = some (.slice A G.length c) := ca _ _ (hc0.out)
    have f1 : (w1.alloc (.cells I 3)).cell? ⟨w.heap.size, 0, none⟩ = some (.slice A G.length c) := ca _ _ (hc0.out)
    have f2 : ((w1.alloc (.cells Z 4)).alloc (.cells I 3)).cell? ⟨w.heap.size, 0, none⟩ = some (.slice A G.length c) := ca _ _ (f0)
    have f3 : ((w1.alloc (.cells I 3)).alloc (.cells Z 4)).cell? ⟨w.heap.size, 0, none⟩ = some (.slice A G.length c) := ca _ _ (f1)
    have f4 : ((w1.alloc (.cells I 3)).alloc (.cells I 3)).cell? ⟨w.heap.size, 0, none⟩ = some (.slice A G.length c) := ca _ _ (f1)
    have f5 : (((w1.alloc (.cells Z 4)).alloc (.cells I 3)).alloc (.cells I 3)).cell? ⟨w.heap.size, 0, none⟩ = some (.slice A G.length c) := ca _ _ (f2)
    have f6 : (((w1.alloc (.cells I 3)).alloc (.cells Z 4)).alloc (.cells I 3)).cell? ⟨w.heap.size, 0, none⟩ = some (.slice A G.length c) := ca _ _ (f3)
    have f7 : (((w1.alloc (.cells I 3)).alloc (.cells I 3)).alloc (.cells Z 4)).cell? ⟨w.heap.size, 0, none⟩ = some (.slice A G.length c) := ca _ _ (f4)
    have f8 : (((w1.alloc (.cells I 3)).alloc (.cells I 3)).alloc (.cells I 3)).cell? ⟨w.heap.size, 0, none⟩ = some (.slice A G.length c) := ca _ _ (f4)
    have f9 : ((((w1.alloc (.cells Z 4)).alloc (.cells I 3)).alloc (.cells I 3)).alloc (.cells I 3)).cell? ⟨w.heap.size, 0, none⟩ = some (.slice A G.length c) := ca _ _ (f5)
    have f10 : ((((w1.alloc (.cells I 3)).alloc (.cells Z 4)).alloc (.cells I 3)).alloc (.cells I 3)).cell? ⟨w.heap.size, 0, none⟩ = some (.slice A G.length c) := ca _ _ (f6)
    have f11 : ((((w1.alloc (.cells I 3)).alloc (.cells I 3)).alloc (.cells Z 4)).alloc (.cells I 3)).cell? ⟨w.heap.size, 0, none⟩ = some (.slice A G.length c) := ca _ _ (f7)
    have f12 : ((((w1.alloc (.cells I 3)).alloc (.cells I 3)).alloc (.cells I 3)).alloc (.cells Z 4)).cell? ⟨w.heap.size, 0, none⟩ = some (.slice A G.length c) := ca _ _ (f8)
    clear ca
    go_region
    all_goals
      go_wp2_with fail
      go_meet
      case rel =>
        exact ⟨_, _, _, _, _, rfl, ⟨fs_mk B1.out hIZ.out.1 hIZ.out.2 (al5 w1 _ _ _ _ _ _ rfl) (al5 w1 _ _ _ _ _ _ rfl).2.2.2.2.1 (by first | exact (al5 w1 _ _ _ _ _ _ rfl).1 | exact (al5 w1 _ _ _ _ _ _ rfl).2.1 | exact (al5 w1 _ _ _ _ _ _ rfl).2.2.1 | exact (al5 w1 _ _ _ _ _ _ rfl).2.2.2.1) (by first | exact (al5 w1 _ _ _ _ _ _ rfl).1 | exact (al5 w1 _ _ _ _ _ _ rfl).2.1 | exact (al5 w1 _ _ _ _ _ _ rfl).2.2.1 | exact (al5 w1 _ _ _ _ _ _ rfl).2.2.2.1) (by first | exact (al5 w1 _ _ _ _ _ _ rfl).1 | exact (al5 w1 _ _ _ _ _ _ rfl).2.1 | exact (al5 w1 _ _ _ _ _ _ rfl).2.2.1 | exact (al5 w1 _ _ _ _ _ _ rfl).2.2.2.1) (by first | exact (al5 w1 _ _ _ _ _ _ rfl).1 | exact (al5 w1 _ _ _ _ _ _ rfl).2.1 | exact (al5 w1 _ _ _ _ _ _ rfl).2.2.1 | exact (al5 w1 _ _ _ _ _ _ rfl).2.2.2.1) (by omega)⟩⟩
  case rest =>
    obtain ⟨p, b1, b2, b3, b4, rfl, hF⟩ := hcut
    have hI0 : Aside0 (FS G A c w wc p b1 b2 b3 b4 (.slice none 0 0) ⟨List.replicate G.length 0, List.replicate G.length 0, List.replicate G.length false, [], List.replicate G.length 0, 0, 0⟩ ∧ TI G ⟨List.replicate G.length 0, List.replicate G.length 0, List.replicate G.length false, [], List.replicate G.length 0, 0, 0⟩ [] 0 0) := ⟨hF.out, TI.start G⟩
    clear hF hc0
    obtain ⟨w2, rfl⟩ : ∃ w2 : World, w2 = w1 := ⟨_, rfl⟩
    obtain ⟨n, hn⟩ : ∃ n, G.length = n := ⟨_, rfl⟩
    have hn9 := Aside0.mk hn
    rw [hn]
    clear hn
    go_wp2_with fail
    go_loopg [28] n (fun q v wi => ∃ (i : Nat) (vs : Value) (d : FD) (ct nx : Nat), i + q = n ∧ v = .int .i64 (i : Int) ∧ Aside0 (FS G A c w wi p b1 b2 b3 b4 vs d ∧ TI G d [] ct nx ∧ ∀ x, isNode G x → x < i → visd d x = true))
    case atStart => exact ⟨0, .slice none 0 0, ⟨List.replicate G.length 0, List.replicate G.length 0, List.replicate G.length false, [], List.replicate G.length 0, 0, 0⟩, 0, 0, by omega, rfl, ⟨hI0.out.1, hI0.out.2, fun x hx h => by have := hx.1; omega⟩⟩
    case round =>
      obtain ⟨i, vs, d, ct, nx, hi, rfl, hJ⟩ := hrel
      clear hI0
      by_cases hlt : i < n
      · have hlti : (i : Int) < (n : Int) := by omega
        obtain ⟨gk1, rfl⟩ : ∃ q, gk = q + 1 := ⟨gk - 1, by omega⟩
        have hi1 : i + 1 + gk1 = n := by omega
        have hgk1 : gk1 < gk1 + 1 := by omega
        have hin : isNode G (i : Int) := ⟨by omega, by rw [hn9.out]; omega⟩
        have hw1 : wrap64 ((i : Int) + 1) = ((i + 1 : Nat) : Int) := by have := hle'.out; have := hn9.out; unfold wrap64; omega
        obtain ⟨k0, k1, k2, k3, k4, k5, k6, k7⟩ := hJ.out.1.cs
        obtain ⟨o1, g1⟩ := hJ.out.1.o1 hin.1 hin.2
        rw [Int.toNat_natCast] at o1
        rw [hn9.out] at k1
        obtain ⟨o, ho⟩ : ∃ o, rd d.ord (i : Int) = o := ⟨_, rfl⟩
        rw [ho] at o1
        have hb9 := Aside0.mk (And.intro hi1 (And.intro hgk1 (And.intro hin ho)))
        clear k0 k2 k3 k4 k5 k6 k7 g1 hi hi1 hgk1 hin ho
        by_cases h0 : o = 0
        · have d2 : (o == 0) = true := by simp [h0]
          have h0' := Aside0.mk h0
          clear h0
          go_wp2_with fail
          refine (visit_any hX.out.1 hX.out.2.2.1 hX.out.2.2.2 hJ.out.1 hJ.out.2.1 (i : Int) hb9.out.2.2.1 (by rw [hb9.out.2.2.2, h0'.out])).mono ?_
          rintro e w3 ⟨rfl, vs3, d3, ct3, nx3, hF3, hT3, hv3, hv4⟩
          have hE : Aside0 (FS G A c w w3 p b1 b2 b3 b4 vs3 d3 ∧ TI G d3 [] ct3 nx3 ∧ ∀ x, isNode G x → x < ((i + 1 : Nat) : Int) → visd d3 x = true) := ⟨hF3, hT3, fun x hx hlt => by
            by_cases e : x = (i : Int)
            · rw [e]; exact hv3
            · exact hv4 x (hJ.out.2.2 x hx (by omega))⟩
          clear hF3 hT3 hv3 hv4 hJ k1 o1
          go_wp2_with fail
          go_roundg gk1
          case rel => exact ⟨i + 1, vs3, d3, ct3, nx3, hb9.out.1, by go_num, hE⟩
          case measure => exact hb9.out.2.1
        · have d2 : (o == 0) = false := by simp [h0]
          have h0' := Aside0.mk h0
          clear h0
          have hE : Aside0 (FS G A c w wr p b1 b2 b3 b4 vs d ∧ TI G d [] ct nx ∧ ∀ x, isNode G x → x < ((i + 1 : Nat) : Int) → visd d x = true) := ⟨hJ.out.1, hJ.out.2.1, fun x hx hlt => by
            by_cases e : x = (i : Int)
            · rw [e]
              have := hJ.out.2.1.rdO hb9.out.2.2.1
              unfold visd
              rw [this, hb9.out.2.2.2]; exact decide_eq_true h0'.out
            · exact hJ.out.2.2 x hx (by omega)⟩
          clear hJ
          go_wp2_with fail
          go_roundg gk1
          case rel => exact ⟨i + 1, vs, d, ct, nx, hb9.out.1, by go_num, hE⟩
          case measure => exact hb9.out.2.1
      · have hall : ∀ x, isNode G x → visd d x = true := fun x hx => hJ.out.2.2 x hx (by have := hx.2; rw [hn9.out] at this; omega)
        obtain ⟨k0, k1, k2, k3, k4, k5, k6, k7⟩ := hJ.out.1.cs
        rw [hJ.out.2.1.hc] at k6
        have hctl : ct ≤ 70000 := by have := hJ.out.2.1.le.2.1; have := hle'.out; omega
        have hmc := fun w => make_runI ct hctl w
        have hmn : ∀ w : World, (Instr.makeSlice 29 (.int .i64 (n : Int)) (.int .i64 (n : Int))).run Try.prog w = .ok (.slice (some ⟨w.heap.size, 0, none⟩) n n) (w.alloc (.cells (aI (List.replicate n 0)) 3)) := fun w => by have := hC2.out.1 w; rw [hn9.out] at this; exact this
        have hni : ¬ (i : Int) < (n : Int) := by omega
        have hK := Aside0.mk (And.intro hJ.out.1 (And.intro hJ.out.2.1 hall))
        have hm' := Aside0.mk (And.intro hctl hmn)
        clear k0 k1 k2 k3 k4 k5 k7 hi hall hJ hlt hctl hmn
        obtain ⟨x9, hx9⟩ : ∃ x9, wr.alloc (.cells (aI (List.replicate ct 0)) 3) = x9 := ⟨_, rfl⟩
        go_wp2_with fail
        have hL0 : Aside0 (x9.heap[wr.heap.size]? = some (.cells (aI (fillm ct 0)) 3 (0, 0)) ∧ Below wr.heap.size wr x9) := by
          rw [← hx9]
          exact ⟨heap_alloc_new wr _, below_alloc (Below.refl _ wr) _⟩
        obtain ⟨bn, hbn⟩ : ∃ bn, wr.heap.size = bn := ⟨_, rfl⟩
        have hbn' := Aside0.mk hbn
        rw [hbn] at hL0 ⊢
        clear hbn hx9 k6 hmc hni
        obtain ⟨w4, rfl⟩ : ∃ w4 : World, w4 = wr := ⟨_, rfl⟩
        go_loopg [50] ct (fun q v wi => ∃ j : Nat, j + q = ct ∧ v = .int .i64 (j : Int) ∧ Aside0 (wi.heap[bn]? = some (.cells (aI (fillm ct j)) 3 (0, 0)) ∧ Below bn w4 wi))
        case atStart => exact ⟨0, by omega, rfl, hL0⟩
        case round =>
          obtain ⟨j, hj, rfl, hJ⟩ := hrel
          clear hL0
          by_cases hlt : j < ct
          · have hlti : (j : Int) < (ct : Int) := by omega
            obtain ⟨gk1, rfl⟩ : ∃ q, gk = q + 1 := ⟨gk - 1, by omega⟩
            have hb9 := Aside0.mk (And.intro (show j + 1 + gk1 = ct by omega) (show gk1 < gk1 + 1 by omega))
            have hw1 : wrap64 ((j : Int) + 1) = ((j + 1 : Nat) : Int) := by have := hm'.out.1; unfold wrap64; omega
            have y0 := cell_at (j := j) (v := .int .i64 (rd (fillm ct j) (j : Int))) hJ.out.1 (by have := aI_at (l := fillm ct j) (x := (j : Int)) (by omega) (by rw [fillm_len (by omega)]; omega); rwa [Int.toNat_natCast] at this)
            have y1 := free_at hJ.out.1 j
            have hE : Aside0 ((wr.setCell ⟨bn, j, none⟩ (.int .i64 (-1))).heap[bn]? = some (.cells (aI (fillm ct (j + 1))) 3 (0, 0)) ∧ Below bn w4 (wr.setCell ⟨bn, j, none⟩ (.int .i64 (-1)))) := by
              refine ⟨by rw [set_at hJ.out.1, aI_set, fillm_set hlt], ?_⟩
              have h1 := hJ.out.2
              exact h1.trans (((Kp.refl (fun k => k = bn) wr).setCell (p := ⟨bn, j, none⟩) (.inl rfl) _).belowB (fun k hk => Nat.le_of_eq hk.symm) (by have := h1.size; rw [hbn'.out] at this; exact this))
            clear hJ hj
            go_wp2_with fail
            go_roundg gk1
            case rel => exact ⟨j + 1, hb9.out.1, by go_num, hE⟩
            case measure => exact hb9.out.2
          · have hjc : j = ct := by omega
            have hni : ¬ (j : Int) < (ct : Int) := by omega
            have hmn := hm'.out.2
            have hnum : Aside0 (wr.heap[bn]? = some (.cells (aI (List.replicate ct (-1))) 3 (0, 0)) ∧ Below bn w4 wr) := by
              have := hJ.out
              rw [hjc] at this
              have e : fillm ct ct = List.replicate ct (-1) := by unfold fillm; simp
              rw [e] at this
              exact ⟨this⟩
            clear hJ hj hlt hjc
            obtain ⟨x8, hx8⟩ : ∃ x8, wr.alloc (.cells (aI (List.replicate n 0)) 3) = x8 := ⟨_, rfl⟩
            go_wp2_with fail
            obtain ⟨bo, hbo⟩ : ∃ bo, wr.heap.size = bo := ⟨_, rfl⟩
            have hL0 : Aside0 (Below bn w4 x8 ∧ x8.heap[bn]? = some (.cells (aI (List.replicate ct (-1))) 3 (0, 0)) ∧ x8.heap[bo]? = some (.cells (aI (List.replicate n 0)) 3 (0, 0)) ∧ x8.heap.size = bo + 1) := by
              rw [← hx8, ← hbo]
              refine ⟨hnum.out.2.trans ((below_alloc (Below.refl _ wr) _).mono (Nat.le_of_lt (blk_lt' hnum.out.1))), ?_, heap_alloc_new wr _, by simp⟩
              rw [Below.heap_alloc _ _ _ (blk_lt' hnum.out.1)]; exact hnum.out.1
            have hbb : Aside0 (bn < bo) := ⟨by rw [← hbo]; exact blk_lt' hnum.out.1⟩
            rw [hbo]
            clear hnum hbo hx8 hmn hni
            have hni := hK.out.2.1.all hK.out.2.2
            obtain ⟨hcr, heq⟩ := hni
            have hE0 := NI.start G.length d.comp ct
            rw [hn9.out] at hcr hE0
            have hCR := Aside0.mk (And.intro hcr heq)
            have hL1 : Aside0 (Below bn w4 x8 ∧ x8.heap[bn]? = some (.cells (aI (List.replicate ct (-1))) 3 (0, 0)) ∧ x8.heap[bo]? = some (.cells (aI (List.replicate n 0)) 3 (0, 0)) ∧ Kd.S kG 29 x8 0 (fun k => bo + 1 ≤ k) (.slice none 0 0) [] ∧ bo + 1 ≤ x8.heap.size ∧ NI n d.comp ct 0 (List.replicate ct (-1)) (List.replicate n 0) []) := ⟨hL0.out.1, hL0.out.2.1, hL0.out.2.2.1, Kd.S_nil _ _ _ _ _, Nat.le_of_eq hL0.out.2.2.2.symm, hE0⟩
            clear hL0 hcr heq hE0
            obtain ⟨w5, rfl⟩ : ∃ w5 : World, w5 = wr := ⟨_, rfl⟩
            go_loopg [9, 60] n (fun q v9 v60 wi => ∃ (i : Nat) (num of : List Int) (out : List (List Int)) (Ao : Option Addr) (co : Nat), i + q = n ∧ v60 = .int .i64 (i : Int) ∧ v9 = .slice Ao out.length co ∧ Aside0 (Below bn w4 wi ∧ wi.heap[bn]? = some (.cells (aI num) 3 (0, 0)) ∧ wi.heap[bo]? = some (.cells (aI of) 3 (0, 0)) ∧ Kd.S kG 29 wi 0 (fun k => bo + 1 ≤ k) (.slice Ao out.length co) out ∧ bo + 1 ≤ wi.heap.size ∧ NI n d.comp ct i num of out))
            case atStart => exact ⟨0, _, _, [], none, 0, by omega, rfl, rfl, hL1⟩
            case round =>
              obtain ⟨i, num, of, out, Ao, co, hi, rfl, rfl, hJ⟩ := hrel
              clear hL1
              by_cases hlt : i < n
              · have hlti : (i : Int) < (n : Int) := by omega
                obtain ⟨gk1, rfl⟩ : ∃ q, gk = q + 1 := ⟨gk - 1, by omega⟩
                have hw1 : wrap64 ((i : Int) + 1) = ((i + 1 : Nat) : Int) := by have := hle'.out; have := hn9.out; unfold wrap64; omega
                have hb9 := Aside0.mk (And.intro (show i + 1 + gk1 = n by omega) (And.intro (show gk1 < gk1 + 1 by omega) (And.intro hlt hw1)))
                have hFi := hK.out.1.step (W := wr) (by rw [hbn'.out]; exact hJ.out.1)
                obtain ⟨k0, k1, k2, k3, k4, k5, k6, k7⟩ := hFi.cs
                obtain ⟨o4, g4⟩ := hFi.o4 (x := (i : Int)) (by omega) (by rw [hn9.out]; omega)
                rw [Int.toNat_natCast] at o4
                rw [hn9.out] at k5
                obtain ⟨cq, hcq⟩ : ∃ cq, rd d.comp (i : Int) = cq := ⟨_, rfl⟩
                have hcr := hCR.out.1 (i : Int) (by omega) hlti
                rw [hcq] at o4 hcr
                obtain ⟨hcr0, hcr1⟩ := hcr
                have y0 := cell_at (j := cq.toNat) hJ.out.2.1 (aI_at hcr0 (by rw [hJ.out.2.2.2.2.2.nl]; exact hcr1))
                have y1 := free_at hJ.out.2.1 cq.toNat
                obtain ⟨kk, hkk⟩ : ∃ kk, rd num cq = kk := ⟨_, rfl⟩
                rw [hkk] at y0
                have hq9 := Aside0.mk (And.intro hcq hkk)
                have hcl9 := Aside0.mk (And.intro hcr0 hcr1)
                clear k0 k1 k2 k3 k4 k6 k7 g4 hi hw1 hlt hFi hcq hkk
                go_upto_if 74 with fail
                go_cut [9] from 74 to 82 (fun v9 wx => ∃ (num' : List Int) (out' : List (List Int)) (A' : Option Addr) (c' : Nat) (k' : Int), v9 = .slice A' out'.length c' ∧ Aside0 (Below bn w4 wx ∧ wx.heap[bn]? = some (.cells (aI num') 3 (0, 0)) ∧ wx.heap[bo]? = some (.cells (aI of) 3 (0, 0)) ∧ Kd.S kG 29 wx 0 (fun k => bo + 1 ≤ k) (.slice A' out'.length c') out' ∧ bo + 1 ≤ wx.heap.size ∧ num'.length = ct ∧ rd num' cq = k' ∧ (0 ≤ k' ∧ k' < out'.length) ∧ out'.length ≤ n ∧ NI n d.comp ct (i + 1) num' (of.set i k') (out'.set k'.toNat (rd_L1 out' k' ++ [(i : Int)]))))
                case first =>
                  by_cases hneg : kk < 0
                  · have d2 : decide (kk < 0) = true := decide_eq_true hneg
                    have hN := NI.new hJ.out.2.2.2.2.2 hb9.out.2.2.1 hCR.out.1 (by rw [hq9.out.1, hq9.out.2]; exact hneg)
                    rw [hq9.out.1] at hN
                    obtain ⟨m, hm⟩ : ∃ m, out.length = m := ⟨_, rfl⟩
                    have hmn9 : m ≤ n := by have := hJ.out.2.2.2.2.2.ol2; have := hb9.out.2.2.1; omega
                    have hm1n : m + 1 ≤ n := by have := hJ.out.2.2.2.2.2.ol2; have := hb9.out.2.2.1; omega
                    have hmM : m ≤ 1000000 := by have := hle'.out; have := hn9.out; omega
                    have hV1 : Aside0 (Below bn w4 (wr.setCell ⟨bn, cq.toNat, none⟩ (.int .i64 (m : Int))) ∧ (wr.setCell ⟨bn, cq.toNat, none⟩ (.int .i64 (m : Int))).heap[bn]? = some (.cells (aI (num.set cq.toNat (m : Int))) 3 (0, 0)) ∧ (wr.setCell ⟨bn, cq.toNat, none⟩ (.int .i64 (m : Int))).heap[bo]? = some (.cells (aI of) 3 (0, 0)) ∧ Kd.S kG 29 (wr.setCell ⟨bn, cq.toNat, none⟩ (.int .i64 (m : Int))) 0 (fun k => bo + 1 ≤ k) (.slice Ao m co) out ∧ bo + 1 ≤ (wr.setCell ⟨bn, cq.toNat, none⟩ (.int .i64 (m : Int))).heap.size) := by
                      have hbn3 : bn ≤ wr.heap.size := Nat.le_of_lt (blk_lt' hJ.out.2.1)
                      refine ⟨hJ.out.1.trans (((Kp.refl (fun k => k = bn) wr).setCell (p := ⟨bn, cq.toNat, none⟩) (.inl rfl) _).belowB (fun k hk => Nat.le_of_eq hk.symm) hbn3), by rw [set_at hJ.out.2.1, aI_set], (set_other _ (by have := hbb.out; omega)).trans hJ.out.2.2.1, ?_, by simpa [World.setCell] using hJ.out.2.2.2.2.1⟩
                      rw [← hm]
                      exact Kd.S_step hJ.out.2.2.2.1 (fun k hk _ => set_other _ (by have := hbb.out; omega))
                    have hN' := Aside0.mk hN
                    have hm' := Aside0.mk hm
                    clear hN
                    rw [hm]
                    clear hm
                    go_upto_region 23 with fail
                    obtain ⟨V, hV⟩ : ∃ V, wr.setCell ⟨bn, cq.toNat, none⟩ (.int .i64 (m : Int)) = V := ⟨_, rfl⟩
                    rw [hV] at hV1 ⊢
                    clear hV k5 o4 y0 y1 d2
                    go_wp2_with (at_builtin; refine Kd.S_append kG (w0 := V) 0 (by rfl) (.tmp 80) (.tmp 81) 22 29 (.slice none 0 0) 24 (by rfl) Try.underlying22 info29 rfl (by decide) (by decide) (.slice Ao m co) out [] [.slice none 0 0] (fun k => bo + 1 ≤ k) (fun _ => False) (by rfl) (by rfl) ⟨_, rfl, Kd.R_nil _ _ _ _ _⟩ (fun _ h => h.elim) (fun k hk => Nat.le_trans hV1.out.2.2.2.2 hk) (Kd.S_mono hV1.out.2.2.2.1 (fun k hk => ⟨hk, fun h => h⟩)) ((Kp.refl (fun _ => False) V).belowB (fun _ h => h.elim) (Nat.zero_le _)) (Nat.zero_le _) (by rw [hm'.out]; omega) ?_; intro v1 wa hRA hBA hgA hatA; obtain ⟨A1, c1, ev, _, _⟩ := Kd.S_reads hRA; subst ev; have hkp : Kp (fun k => bo + 1 ≤ k) V wa := (Kp.refl _ V).grown hgA (fun k hk => .inl ((Kd.S_R hV1.out.2.2.2.1).1 k hk)); have hRA' := Aside0.mk (And.intro hRA hkp); clear hRA hBA hgA hatA hkp)
                    have hgo : Aside0 (Below bn w4 wa ∧ wa.heap[bn]? = some (.cells (aI (num.set cq.toNat (m : Int))) 3 (0, 0)) ∧ wa.heap[bo]? = some (.cells (aI of) 3 (0, 0)) ∧ Kd.S kG 29 wa 0 (fun k => bo + 1 ≤ k) (.slice A1 (out ++ [[]]).length c1) (out ++ [[]]) ∧ bo + 1 ≤ wa.heap.size ∧ (num.set cq.toNat (m : Int)).length = ct ∧ rd (num.set cq.toNat (m : Int)) cq = (m : Int) ∧ (0 ≤ (m : Int) ∧ (m : Int) < (out ++ [[]]).length) ∧ (out ++ [[]]).length ≤ n ∧ NI n d.comp ct (i + 1) (num.set cq.toNat (m : Int)) (of.set i (m : Int)) ((out ++ [[]]).set ((m : Int)).toNat (rd_L1 (out ++ [[]]) (m : Int) ++ [(i : Int)]))) := by
                      have hkp := hRA'.out.2
                      have hnl := hJ.out.2.2.2.2.2.nl
                      have hN := hN'.out
                      have hl9 : (out ++ [[]]).length = m + 1 := by rw [List.length_append, hm'.out]; rfl
                      refine ⟨hV1.out.1.trans (hkp.belowB (fun k hk => by have := hbb.out; omega) (by have := blk_lt' hV1.out.2.1; omega)), hkp.blk hV1.out.2.1 (by have := hbb.out; omega), hkp.blk hV1.out.2.2.1 (by omega), hRA'.out.1, Nat.le_trans hV1.out.2.2.2.2 hkp.size, by rw [List.length_set]; exact hnl, ?_, by rw [hl9]; omega, by rw [hl9]; exact hm1n, ?_⟩
                      · rw [rdi_set hcr0 (by rw [hnl]; exact hcr1) hcr0, if_pos rfl]
                      · rw [← hm'.out, snoc_put]; exact hN
                    clear hRA' hN' hV1 hm' hJ hcl9
                    go_meet
                    case rel => exact ⟨_, _, A1, c1, _, by simp, hgo⟩
                  · have d2 : decide (kk < 0) = false := decide_eq_false hneg
                    obtain ⟨hk1, hN⟩ := NI.old hJ.out.2.2.2.2.2 hb9.out.2.2.1 hCR.out.1 (k := kk) (by rw [hq9.out.1, hq9.out.2]) (by omega)
                    have hgo : Aside0 (Below bn w4 wr ∧ wr.heap[bn]? = some (.cells (aI num) 3 (0, 0)) ∧ wr.heap[bo]? = some (.cells (aI of) 3 (0, 0)) ∧ Kd.S kG 29 wr 0 (fun k => bo + 1 ≤ k) (.slice Ao out.length co) out ∧ bo + 1 ≤ wr.heap.size ∧ num.length = ct ∧ rd num cq = kk ∧ (0 ≤ kk ∧ kk < out.length) ∧ out.length ≤ n ∧ NI n d.comp ct (i + 1) num (of.set i kk) (out.set kk.toNat (rd_L1 out kk ++ [(i : Int)]))) :=
                      ⟨hJ.out.1, hJ.out.2.1, hJ.out.2.2.1, hJ.out.2.2.2.1, hJ.out.2.2.2.2.1, hJ.out.2.2.2.2.2.nl, hq9.out.2, ⟨by omega, hk1⟩, by have := hJ.out.2.2.2.2.2.ol2; have := hb9.out.2.2.1; omega, hN⟩
                    clear hN hk1 hJ
                    go_wp2_with fail
                    go_meet
                    case rel => exact ⟨num, out, Ao, co, kk, rfl, hgo⟩
                case rest =>
                  obtain ⟨num', out', A', c', k', rfl, hM⟩ := hcut
                  clear k5 o4 y0 y1 hJ hq9
                  obtain ⟨m, hm⟩ : ∃ m, out'.length = m := ⟨_, rfl⟩
                  rw [hm] at hM ⊢
                  obtain ⟨hk0, hk1⟩ := hM.out.2.2.2.2.2.2.2.1
                  have hkl := hM.out.2.2.2.2.2.2.1
                  have y0 := cell_at (j := cq.toNat) hM.out.2.1 (aI_at hcr0 (by rw [hM.out.2.2.2.2.2.1]; exact hcr1))
                  rw [hkl] at y0
                  have hofl : of.length = n := by have := hM.out.2.2.2.2.2.2.2.2.2.ol; rwa [List.length_set] at this
                  have z0 := cell_at (j := i) (v := .int .i64 (rd of (i : Int))) hM.out.2.2.1 (by have := aI_at (l := of) (x := (i : Int)) (by omega) (by rw [hofl]; exact hlti); rwa [Int.toNat_natCast] at this)
                  have z1 := free_at hM.out.2.2.1 i
                  have hV1 : Aside0 (Below bn w4 (wc.setCell ⟨bo, i, none⟩ (.int .i64 k')) ∧ (wc.setCell ⟨bo, i, none⟩ (.int .i64 k')).heap[bn]? = some (.cells (aI num') 3 (0, 0)) ∧ (wc.setCell ⟨bo, i, none⟩ (.int .i64 k')).heap[bo]? = some (.cells (aI (of.set i k')) 3 (0, 0)) ∧ Kd.S kG 29 (wc.setCell ⟨bo, i, none⟩ (.int .i64 k')) 0 (fun k => bo + 1 ≤ k) (.slice A' m c') out' ∧ bo + 1 ≤ (wc.setCell ⟨bo, i, none⟩ (.int .i64 k')).heap.size) := by
                    have hbo3 : bn ≤ wc.heap.size := Nat.le_of_lt (blk_lt' hM.out.2.1)
                    refine ⟨hM.out.1.trans (((Kp.refl (fun k => k = bo) wc).setCell (p := ⟨bo, i, none⟩) (.inl rfl) _).belowB (fun k hk => by have := hbb.out; omega) hbo3), (set_other _ (by have := hbb.out; omega)).trans hM.out.2.1, by rw [set_at hM.out.2.2.1, aI_set], Kd.S_step hM.out.2.2.2.1 (fun k hk _ => set_other _ (by omega)), by simpa [World.setCell] using hM.out.2.2.2.2.1⟩
                  go_upto_region 25 with fail
                  obtain ⟨V, hV⟩ : ∃ V, wc.setCell ⟨bo, i, none⟩ (.int .i64 k') = V := ⟨_, rfl⟩
                  rw [hV] at hV1 ⊢
                  clear hV y0 z0 z1
                  obtain ⟨g, gcap, ev, _⟩ := Kd.S_form hV1.out.2.2.2.1 (by omega)
                  injection ev with e1 e2 e3
                  subst e1
                  clear e2 e3
                  obtain ⟨A0, c0, oki, q1, q2, q3, q4, q5⟩ := kid_open (W := V.drew) (Kd.S_step hV1.out.2.2.2.1 (fun _ _ _ => rfl)) k' hk0 hk1
                  replace q1 : V.cell? ⟨g, k'.toNat, none⟩ = some (.slice A0 (rd_L1 out' k').length c0) := q1
                  replace q2 : V.frozen? ⟨g, k'.toNat, none⟩ = false := q2
                  obtain ⟨row, hrow⟩ : ∃ row, rd_L1 out' k' = row := ⟨_, rfl⟩
                  have hrl : row.length ≤ 1000000 := by
                    have hk2 : k' < (out'.set k'.toNat (rd_L1 out' k' ++ [(i : Int)])).length := by rw [List.length_set, hm]; exact hk1
                    have h9 := hM.out.2.2.2.2.2.2.2.2.2.row_len hk0 hk2
                    rw [rdl_set hk0 (by rw [hm]; exact hk1) hk0, if_pos rfl, hrow, List.length_append] at h9
                    have := hle'.out; have := hn9.out; have := hb9.out.2.2.1
                    omega
                  rw [hrow] at q1 q3 q5
                  have z0 := cell_at (j := i) (v := .int .i64 k') hV1.out.2.2.1 (by
                    have h1 := aI_at (l := of.set i k') (x := (i : Int)) (by omega) (by rw [List.length_set, hofl]; exact hlti)
                    rw [Int.toNat_natCast] at h1
                    rw [h1]
                    have h2 := rdi_set (l := of) (s := (i : Int)) (by omega) (by rw [hofl]; exact hlti) (x := (i : Int)) (by omega) k'
                    rw [Int.toNat_natCast, if_pos rfl] at h2
                    rw [h2])
                  have z2 : (V.alloc (.cells #[.int .i64 (i : Int)] 3)).cell? ⟨bo, i, none⟩ = some (.int .i64 k') := by
                    rw [← z0]; exact Below.cell (below_alloc (Below.refl _ V) _) (blk_lt' hV1.out.2.2.1)
                  have hgl := (Kd.S_R hV1.out.2.2.2.1).1 g rfl
                  have q1a : (V.alloc (.cells #[.int .i64 (i : Int)] 3)).cell? ⟨g, k'.toNat, none⟩ = some (.slice A0 row.length c0) := by
                    rw [← q1]; exact Below.cell (below_alloc (Below.refl _ V) _) (World.block_lt_of_cell? _ _ q1)
                  have hQ := Aside0.mk (And.intro q3 (And.intro q4 (And.intro q5 (And.intro hV1.out (And.intro hgl hrow)))))
                  clear q3 q4 q5 hV1 hgl hrow
                  go_region_law (first
                    | ((rw [show (V.alloc (.cells #[.int .i64 (i : Int)] 3)).drew = V.drew.alloc (.cells #[.int .i64 (i : Int)] 3) from rfl]; refine Kd.R_append_step (Kd.int .i64) (w0 := V) 0 (by rfl) (.tmp 101) (.tmp 103) 29 3 (.int .i64 0) 8 (by rfl) Try.underlying29 info3 rfl (by decide) (by decide) (.slice A0 row.length c0) row (i : Int) [.int .i64 (i : Int)] (fun k => oki k ∨ bo + 1 ≤ k ∧ V.heap.size ≤ k) (fun _ => False) (by rfl) (by rfl) (by rfl) ?_ ?_ ?_ ?_ (Nat.zero_le _) ?_ ?_)
                       · intro k hk; exact hk.elim
                       · intro k hk; exact .inr ⟨Nat.le_trans hQ.out.2.2.2.1.2.2.2.2 hk, hk⟩
                       · exact Kd.R_mono hQ.out.1 (fun k hk => .inl hk)
                       · exact ((Kp.refl (fun _ => False) V).drewN _).belowB (fun _ h => h.elim) (Nat.zero_le _)
                       · omega
                       intro v1 wa hRA hBA hgA hatA
                       obtain ⟨A1, c1, ev, _, _⟩ := Kd.R_reads hRA
                       rw [List.length_append, List.length_singleton] at ev
                       subst ev
                       obtain ⟨x1, x2, x3⟩ := hQ.out.2.2.1 wa _ _ hgA hRA
                       have hkp : Kp (fun k => bo + 1 ≤ k) V wa := ((Kp.refl (fun k => bo + 1 ≤ k) V).drewN 1).grown hgA (fun k hk => .inl (hQ.out.2.1 k (hQ.out.1.1 k hk)).1)
                       have x4 : wa.cell? ⟨bo, i, none⟩ = some (.int .i64 k') := by
                         rw [← z0]; exact cell_at2 (hkp.block (blk_lt' hQ.out.2.2.2.1.2.2.1) (by omega))
                       have hA3 := Aside0.mk (And.intro x3 hkp)
                       clear hRA hBA hgA hatA x3 hkp))
                  all_goals
                    have hgo : Aside0 (Below bn w4 (wa.setCell ⟨g, k'.toNat, none⟩ (.slice A1 (row.length + 1) c1)) ∧ (wa.setCell ⟨g, k'.toNat, none⟩ (.slice A1 (row.length + 1) c1)).heap[bn]? = some (.cells (aI num') 3 (0, 0)) ∧ (wa.setCell ⟨g, k'.toNat, none⟩ (.slice A1 (row.length + 1) c1)).heap[bo]? = some (.cells (aI (of.set i k')) 3 (0, 0)) ∧ Kd.S kG 29 (wa.setCell ⟨g, k'.toNat, none⟩ (.slice A1 (row.length + 1) c1)) 0 (fun k => bo + 1 ≤ k) (.slice (some ⟨g, 0, none⟩) (out'.set k'.toNat (row ++ [(i : Int)])).length c') (out'.set k'.toNat (row ++ [(i : Int)])) ∧ bo + 1 ≤ (wa.setCell ⟨g, k'.toNat, none⟩ (.slice A1 (row.length + 1) c1)).heap.size ∧ NI n d.comp ct (i + 1) num' (of.set i k') (out'.set k'.toNat (row ++ [(i : Int)]))) := by
                      have hkp := hA3.out.2
                      have hV := hQ.out.2.2.2.1
                      have hb := hbb.out
                      have hg := hQ.out.2.2.2.2.1
                      have hkp2 := hkp.setCell (p := ⟨g, k'.toNat, none⟩) (.inl hg) (.slice A1 (row.length + 1) c1)
                      refine ⟨hV.1.trans (hkp2.belowB (fun k hk => by omega) (by have := blk_lt' hV.2.1; omega)), hkp2.blk hV.2.1 (by omega), hkp2.blk hV.2.2.1 (by omega), by rw [List.length_set, hm]; exact hA3.out.1, Nat.le_trans hV.2.2.2.2 hkp2.size, ?_⟩
                      have := hM.out.2.2.2.2.2.2.2.2.2
                      rw [hQ.out.2.2.2.2.2] at this
                      exact this
                    have hl9 : m = (out'.set k'.toNat (row ++ [(i : Int)])).length := by rw [List.length_set, hm]
                    have hl9' := Aside0.mk hl9
                    have hw1 := hb9.out.2.2.2
                    clear hl9 hA3 hQ hM x1 x2 x4 q1 q2 q1a z0 z2 hkl hofl
                    go_wp2_with fail
                    go_roundg gk1
                    case rel => exact ⟨i + 1, num', of.set i k', out'.set k'.toNat (row ++ [(i : Int)]), some ⟨g, 0, none⟩, c', hb9.out.1, by go_num, by rw [← hl9'.out], hgo⟩
                    case measure => exact hb9.out.2.1
              · have hin : i = n := by omega
                have hni : ¬ (i : Int) < (n : Int) := by omega
                have hF : CMP G w (.returned (.tuple #[.slice Ao out.length co, .slice (some ⟨bo, 0, none⟩) n n])) wr := by
                  have hN := hJ.out.2.2.2.2.2
                  rw [hin] at hN
                  have hbw : w.heap.size ≤ bn := by rw [← hbn'.out]; exact hK.out.1.below.size
                  refine ⟨_, _, out, of, rfl, Kd.S_mono hJ.out.2.2.2.1 (fun k hk => by have := hbb.out; omega), own_raw hJ.out.2.2.1 hN.ol (by have := hle'.out; have := hn9.out; omega) (by have := hbb.out; omega), ?_, hK.out.1.below.trans (hJ.out.1.mono hbw)⟩
                  have := hn9.out
                  subst this
                  exact hN.done hCR.out.2
                have hF' := Aside0.mk hF
                clear hF hJ hX hC2 hK hm' hCR hbb hlt hi hin
                go_wp2
                refine bodyPost_ret (results_tmp2 rfl _ _ _) rfl ?_
                exact hF'.out
end Go.Proofs.Ytmlikgmcekofbaa
end

section
/- The edges between components, counted row by row; the ready list in memory. -/
set_option linter.unusedVariables false
set_option linter.unusedSimpArgs false
set_option linter.unusedSectionVars false
namespace Go.Proofs.Ytmlikgmcekofbaa
open Go.RowKit Go.Proofs.YtmlikgmcekofbaaW.PrintWords Go.Proofs.Ytmlikgmcekofbaa.PDigraphTells Mem

/-- E holds the edges between components of the rows before i, and of row i before j. -/
structure EP (G : List (List Int)) (of : List Int) (E : EL) (i j : Nat) : Prop where
  mem : ∀ p, p ∈ E ↔ ∃ a b, isNode G a ∧ (a < i ∧ b ∈ adj G a ∨ a = i ∧ b ∈ (adj G a).take j) ∧ rd of a ≠ rd of b ∧ p = (rd of a, rd of b)
  len : E.length ≤ edges (G.take i) + j
section
variable {G : List (List Int)} {of : List Int} {E : EL} {i j : Nat}
theorem EP.start (G : List (List Int)) (of : List Int) : EP G of [] 0 0 := by
  refine ⟨fun p => ?_, by simp⟩
  constructor
  · intro h; cases h
  · rintro ⟨a, b, h1, h2, _⟩
    rcases h2 with h2 | h2
    · have := h1.1; omega
    · have := h2.2; simp at this
theorem take_snoc_mem {l : List Int} {j : Nat} (h : j < l.length) (b : Int) : b ∈ l.take (j + 1) ↔ b ∈ l.take j ∨ b = l[j] := by
  rw [List.take_add_one, List.getElem?_eq_getElem h, List.mem_append]; simp
theorem EP.skip (h : EP G of E i j) (hj : j < (adj G (i : Int)).length) {b : Int} (hb : (adj G (i : Int))[j] = b) (e : rd of (i : Int) = rd of b) : EP G of E i (j + 1) := by
  refine ⟨fun p => ?_, by have := h.len; omega⟩
  rw [h.mem]
  constructor
  · rintro ⟨a, c, h1, h2, h3⟩
    refine ⟨a, c, h1, ?_, h3⟩
    rcases h2 with h2 | ⟨h2, h4⟩
    · exact .inl h2
    · subst h2; exact .inr ⟨rfl, (take_snoc_mem hj c).2 (.inl h4)⟩
  · rintro ⟨a, c, h1, h2, h3⟩
    refine ⟨a, c, h1, ?_, h3⟩
    rcases h2 with h2 | ⟨h2, h4⟩
    · exact .inl h2
    · subst h2
      rcases (take_snoc_mem hj c).1 h4 with h5 | h5
      · exact .inr ⟨rfl, h5⟩
      · rw [hb] at h5; subst h5; exact absurd e h3.1
theorem EP.add (h : EP G of E i j) (hi : isNode G (i : Int)) (hj : j < (adj G (i : Int)).length) {b : Int} (hb : (adj G (i : Int))[j] = b) (e : rd of (i : Int) ≠ rd of b) : EP G of (E ++ [(rd of (i : Int), rd of b)]) i (j + 1) := by
  refine ⟨fun p => ?_, by have := h.len; simp; omega⟩
  rw [List.mem_append, h.mem]
  constructor
  · rintro (⟨a, c, h1, h2, h3⟩ | hp)
    · refine ⟨a, c, h1, ?_, h3⟩
      rcases h2 with h2 | ⟨h2, h4⟩
      · exact .inl h2
      · subst h2; exact .inr ⟨rfl, (take_snoc_mem hj c).2 (.inl h4)⟩
    · have hp : p = (rd of (i : Int), rd of b) := by simpa using hp
      exact ⟨(i : Int), b, hi, .inr ⟨rfl, (take_snoc_mem hj b).2 (.inr hb.symm)⟩, e, hp⟩
  · rintro ⟨a, c, h1, h2, h3, rfl⟩
    rcases h2 with h2 | ⟨h2, h4⟩
    · exact .inl ⟨a, c, h1, .inl h2, h3, rfl⟩
    · subst h2
      rcases (take_snoc_mem hj c).1 h4 with h5 | h5
      · exact .inl ⟨_, c, h1, .inr ⟨rfl, h5⟩, h3, rfl⟩
      · rw [hb] at h5; subst h5; exact .inr (by simp)
theorem EP.row (h : EP G of E i j) (hi : i < G.length) (hj : (adj G (i : Int)).length ≤ j) (hj2 : j ≤ (adj G (i : Int)).length) : EP G of E (i + 1) 0 := by
  have ha : adj G (i : Int) = G[i] := adj_nat G i hi
  refine ⟨fun p => ?_, ?_⟩
  · rw [h.mem]
    constructor
    · rintro ⟨a, c, h1, h2, h3⟩
      refine ⟨a, c, h1, .inl ?_, h3⟩
      rcases h2 with h2 | ⟨h2, h4⟩
      · exact ⟨by omega, h2.2⟩
      · exact ⟨by omega, List.mem_of_mem_take h4⟩
    · rintro ⟨a, c, h1, h2, h3⟩
      refine ⟨a, c, h1, ?_, h3⟩
      rcases h2 with h2 | ⟨h2, h4⟩
      · by_cases e : a = i
        · subst e; exact .inr ⟨rfl, by rw [List.take_of_length_le hj]; exact h2.2⟩
        · exact .inl ⟨by omega, h2.2⟩
      · simp at h4
  · have h1 := h.len
    rw [ha] at hj hj2
    have h2 : edges (G.take (i + 1)) = edges (G.take i) + G[i].length := by
      unfold edges
      rw [List.take_succ_eq_append_getElem hi, List.map_append, List.sum_append]; simp
    omega
theorem EP.done (h : EP G of E G.length 0) : EG G of E ∧ E.length ≤ edges G := by
  refine ⟨⟨fun p => ?_⟩, by have := h.len; rw [List.take_length] at this; omega⟩
  rw [h.mem]
  constructor
  · rintro ⟨a, c, h1, h2, h3⟩
    rcases h2 with h2 | ⟨h2, h4⟩
    · exact ⟨a, c, h1, h2.2, h3⟩
    · simp at h4
  · rintro ⟨a, c, h1, h2, h3⟩
    exact ⟨a, c, h1, .inl ⟨h1.2, h2⟩, h3⟩
theorem edges_tk (G : List (List Int)) (i : Nat) (h : i < G.length) : edges (G.take i) + (adj G (i : Int)).length ≤ edges G := by
  rw [adj_nat G i h]
  have : edges G = edges (G.take i) + edges (G.drop i) := by
    unfold edges; rw [← List.sum_append, ← List.map_append, List.take_append_drop]
  rw [this, List.drop_eq_getElem_cons h]
  simp only [edges, List.map_cons, List.sum_cons]
  omega
end

/-- The ready list vq and the list vo in blocks of their own, the counts at bw. -/
structure QO (X wi : World) (bw : Nat) (wt q out : List Int) (vq vo : Value) : Prop where
  ex : ∃ P O : Nat → Prop, (∀ k, P k → X.heap.size ≤ k ∧ k < wi.heap.size ∧ ¬ O k) ∧ (∀ k, O k → X.heap.size ≤ k ∧ k < wi.heap.size) ∧ QS wi P vq q ∧ Kd.R (Kd.int .i64) 3 wi 0 O vo out
  w : wi.heap[bw]? = some (.cells (aI wt) 3 (0, 0))
  lt : bw < X.heap.size
  kp : Kp (fun k => k = bw ∨ X.heap.size ≤ k) X wi
section
variable {X wi W : World} {bw : Nat} {wt q out : List Int} {vq vo : Value}
theorem QO.step (h : QO X wi bw wt q out vq vo) (hb : Below wi.heap.size wi W) : QO X W bw wt q out vq vo := by
  obtain ⟨P, O, h1, h2, h3, h4⟩ := h.ex
  have hs := hb.size
  exact ⟨⟨P, O, fun k hk => ⟨(h1 k hk).1, by have := (h1 k hk).2.1; omega, (h1 k hk).2.2⟩, fun k hk => ⟨(h2 k hk).1, by have := (h2 k hk).2; omega⟩, h3.step (fun k _ hk => hb.block k hk), Kd.R_step h4 (fun k _ hk => hb.block k hk)⟩,
    (hb.block bw (blk_lt' h.w)).trans h.w, h.lt, h.kp.then_ (Kp.of_below hb (fun _ => False)) (fun _ h => h.elim)⟩
theorem QO.setw (h : QO X wi bw wt q out vq vo) (i : Nat) (v : Int) : QO X (wi.setCell ⟨bw, i, none⟩ (.int .i64 v)) bw (wt.set i v) q out vq vo := by
  obtain ⟨P, O, h1, h2, h3, h4⟩ := h.ex
  have hl := h.lt
  refine ⟨⟨P, O, fun k hk => ⟨(h1 k hk).1, by simpa [World.setCell] using (h1 k hk).2.1, (h1 k hk).2.2⟩, fun k hk => ⟨(h2 k hk).1, by simpa [World.setCell] using (h2 k hk).2⟩, h3.step (fun k hk _ => set_other _ (by have := (h1 k hk).1; omega)), Kd.R_step h4 (fun k hk _ => set_other _ (by have := (h2 k hk).1; omega))⟩,
    by rw [set_at h.w, aI_set], h.lt, h.kp.setCell (p := ⟨bw, i, none⟩) (.inl (.inl rfl)) _⟩
theorem QO.app {v1 : Value} {x : Int} {ok : Nat → Prop} (h : QO X wi bw wt q out vq vo) (hR : Kd.R (Kd.int .i64) 3 W 0 ok v1 (out ++ [x])) (hg : wi.grownBy W vo.ownBlock) (hat : v1.ownBlock = vo.ownBlock ∨ ∃ b, v1.ownBlock = some b ∧ wi.heap.size ≤ b) : QO X W bw wt q (out ++ [x]) vq v1 := by
  obtain ⟨P, O, h1, h2, h3, h4⟩ := h.ex
  have hk : Kp (fun k => vo.ownBlock = some k) wi W := (Kp.refl _ wi).grown hg (fun k hk => .inl hk)
  have hs := hk.size
  have hO : ∀ k, vo.ownBlock = some k → O k := fun k e => h4.1 k e
  have hl := h.lt
  refine ⟨⟨P, fun k => v1.ownBlock = some k, fun k hk1 => ⟨(h1 k hk1).1, by have := (h1 k hk1).2.1; omega, fun e => ?_⟩, fun k e => ?_, h3.step (fun k hk1 hlt => hk.block hlt (fun e => (h1 k hk1).2.2 (hO k e))), Kd.R_of_own (h1 := fun _ => rfl) (Kd.own_of_R hR) (fun k hk => hk)⟩,
    hk.blk h.w (fun e => by have := (h2 bw (hO bw e)).1; omega), h.lt, h.kp.then_ hk (fun k e => .inl (.inr (h2 k (hO k e)).1))⟩
  · rcases hat with e1 | ⟨b, e1, hge⟩
    · exact (h1 k hk1).2.2 (hO k (by rw [← e1]; exact e))
    · rw [e1] at e; injection e with e; have := (h1 k hk1).2.1; omega
  · have hlt : k < W.heap.size := own_lt (Kd.own_of_R hR) k e
    rcases hat with e1 | ⟨b, e1, hge⟩
    · exact ⟨(h2 k (hO k (by rw [← e1]; exact e))).1, hlt⟩
    · rw [e1] at e; injection e with e; have := h.kp.size; exact ⟨by omega, hlt⟩
theorem QO.pop {x : Int} {g off cap : Nat} {A : Option Addr} (h : QO X wi bw wt (x :: q) out (.slice (some ⟨g, off, none⟩) (q.length + 1) cap) vo) (hA : 0 < cap - 1 → A = some ⟨g, off + 1, none⟩) : QO X wi bw wt q out (.slice A q.length (cap - 1)) vo := by
  obtain ⟨P, O, h1, h2, h3, h4⟩ := h.ex
  exact ⟨⟨P, O, h1, h2, h3.tail A hA, h4⟩, h.w, h.lt, h.kp⟩
/-- A search, then an insertion: the list alone is written. -/
theorem QO.ins {q' : List Int} {v' : Value} {P O : Nat → Prop} (h : QO X wi bw wt q out vq vo) (h1 : ∀ k, P k → X.heap.size ≤ k ∧ k < wi.heap.size ∧ ¬ O k) (h2 : ∀ k, O k → X.heap.size ≤ k ∧ k < wi.heap.size) (h4 : Kd.R (Kd.int .i64) 3 wi 0 O vo out) (h5 : QS W (fun k => P k ∨ wi.heap.size ≤ k) v' q') (h6 : Kp P wi W) : QO X W bw wt q' out v' vo := by
  have hs := h6.size
  have hl := h.lt
  have hx := h.kp.size
  refine ⟨⟨fun k => (P k ∨ wi.heap.size ≤ k) ∧ k < W.heap.size, O, fun k hk => ?_, fun k hk => ⟨(h2 k hk).1, by have := (h2 k hk).2; omega⟩, h5.mono (fun k hk hlt => ⟨hk, hlt⟩), Kd.R_step h4 (fun k hk hlt => h6.block hlt (fun hp => (h1 k hp).2.2 hk))⟩,
    h6.blk h.w (fun hp => by have := (h1 bw hp).1; omega), h.lt, h.kp.then_ h6 (fun k hp => .inl (.inr (h1 k hp).1))⟩
  rcases hk.1 with hk1 | hk1
  · exact ⟨(h1 k hk1).1, hk.2, (h1 k hk1).2.2⟩
  · exact ⟨by omega, hk.2, fun ho => by have := (h2 k ho).2; omega⟩
end
end Go.Proofs.Ytmlikgmcekofbaa
end

section
/- A drawn region whose first n operations go in whatever order while S holds, and whose rest (a store into a cell that the region loads) goes behind them all, in the text's order. -/
set_option linter.unusedVariables false
namespace Go.Proofs.Ytmlikgmcekofbaa.Held
open Go

section
variable {P : Program} {ops : Array Oper} {Q : Exit → Act → World → Prop} {S : World → Prop} {n : Nat}

/-- The first n operations come before the rest, and the rest goes in the text's order. -/
abbrev Fit (ops : Array Oper) (n : Nat) : Prop := (Region.noSelect ops && decide (n < ops.size) && Region.sinkB .any ops n && Region.chainB .any ops n) = true
theorem Fit.out (h : Fit ops n) : Region.noSelect ops = true ∧ n < ops.size ∧ Region.sinkB .any ops n = true ∧ Region.chainB .any ops n = true := by
  unfold Fit at h
  simp only [Bool.and_eq_true, decide_eq_true_eq] at h
  exact ⟨h.1.1.1, h.1.1.2, h.1.2, h.2⟩

/-- Whatever order is picked from here on among the first n; S holds behind each of them; then the rest. -/
def wpT (P : Program) (ops : Array Oper) (Q : Exit → Act → World → Prop) (S : World → Prop) (n : Nat) : Nat → Array Bool → Act → World → Prop
  | 0, listed, a, w => Region.seqB .any ops (ops.size - n) n listed = true ∧ wpList P ops Q (ops.toList.drop n) a w
  | f + 1, listed, a, w => (∃ i, i < n ∧ listed.getD i true = false) ∧ Region.ready .any ops listed ≠ [] ∧
    ∀ i ∈ Region.ready .any ops listed, wpOp P ops Q i (fun a' w' => S w' ∧ wpT P ops Q S n f (listed.setIfInBounds i true) a' w') a w

theorem heads {listed : Array Bool} (hF : Fit ops n) (inv : HeadInv .any ops n listed) (h : ∃ i, i < n ∧ listed.getD i true = false) {j : Nat} (hj : j ∈ Region.ready .any ops listed) : j < n := by
  obtain ⟨_, hn, hs, hc⟩ := hF.out
  obtain ⟨i, hi, hun⟩ := h
  rcases Nat.lt_or_ge j n with h | h
  · exact h
  · exact absurd hj (tail_waits hs hc hn inv _ i rfl hi hun j h)

theorem sound (hF : Fit ops n) : ∀ (f : Nat) (listed : Array Bool) (a : Act) (w : World), HeadInv .any ops n listed → wpT P ops Q S n f listed a w → wpAny P .any ops Q (f + (ops.size - n)) listed a w
  | 0, listed, a, w, inv, h => by
    have hl : (ops.toList.drop n).length = ops.size - n := by simp
    rw [Nat.zero_add, ← hl]
    exact wpAny_of_seq _ n listed a w (fun j => by simp) (by rw [hl]; exact h.1) h.2
  | f + 1, listed, a, w, inv, h => by
    rw [show f + 1 + (ops.size - n) = (f + (ops.size - n)) + 1 by omega]
    refine ⟨fun h0 => absurd h0 h.2.1, fun i hi => ?_⟩
    have hin := heads hF inv h.1 hi
    exact wpOp_mono (fun a' w' h' => sound hF f _ a' w' (inv.set hi hin) h'.2) (h.2.2 i hi)

theorem first_ (hF : Fit ops n) {i : Nat} {oi : Oper} {v : Value} (hi : ops[i]? = some oi)
    (hQ : ∀ c a w, Q (.panic c) (a.put oi.dst v) w → Q (.panic c) a w) (hin : i < n) :
    ∀ (f : Nat) (listed : Array Bool) (a : Act) (w : World), HeadInv .any ops n listed →
      (∀ j oj, ops[j]? = some oj → j ≠ i → listed.getD j true = false → (∀ e ∈ oj.after, Region.binds .any e = true → e.on ≠ i) → oi.apart ops oj = true) →
      i ∈ Region.ready .any ops listed → YieldsIf P ops S oi v a → S w →
      wpT P ops Q S n f (listed.setIfInBounds i true) (a.put oi.dst v) w → wpT P ops Q S n (f + 1) listed a w := by
  have hsel := Region.noSelect_spec hF.out.1
  intro f
  induction f with
  | zero =>
    intro listed a w inv _ hr hy hS H
    have hun := (mem_ready.1 hr).1
    refine ⟨⟨i, hin, hun⟩, fun h => (by rw [h] at hr; cases hr), fun j hj => ?_⟩
    by_cases hji : j = i
    · subst hji; exact hy.wpOp hi hS ⟨hS, H⟩
    · have h1 := seqB_ready H.1 j (ready_mono hj hji)
      have h2 := heads hF inv ⟨i, hin, hun⟩ hj
      omega
  | succ f ih =>
    intro listed a w inv hfree hr hy hS H
    have hun := (mem_ready.1 hr).1
    refine ⟨⟨i, hin, hun⟩, fun h => (by rw [h] at hr; cases hr), fun j hj => ?_⟩
    by_cases hji : j = i
    · subst hji; exact hy.wpOp hi hS ⟨hS, H⟩
    · have hjn := heads hF inv ⟨i, hin, hun⟩ hj
      have h1 := H.2.2 j (ready_mono hj hji)
      obtain ⟨hjun, oj, hoj, hall⟩ := mem_ready.1 hj
      have hnot : ∀ e ∈ oj.after, Region.binds .any e = true → e.on ≠ i := fun e he hb heq => by
        have h1 := hall e he hb
        rw [heq, getD_both hun] at h1
        cases h1
      have h2 := wpOp_putIf hoj (hfree j oj hoj hji hjun hnot) (fun cs b => hsel i oi cs b hi) (fun cs b => hsel j oj cs b hoj) hQ hy h1
      have hfree' : ∀ k ok, ops[k]? = some ok → k ≠ i → (listed.setIfInBounds j true).getD k true = false →
          (∀ e ∈ ok.after, Region.binds .any e = true → e.on ≠ i) → oi.apart ops ok = true := fun k ok hk hki hun2 hno => by
        refine hfree k ok hk hki ?_ hno
        by_cases hjk : j = k
        · subst hjk; exact hjun
        · rw [getD_set_ne true hjk] at hun2; exact hun2
      refine wpOp_mono (fun a' w' h3 => ⟨h3.2.1, ih (listed.setIfInBounds j true) a' w' (inv.set hj hjn) hfree' (ready_mono hr (Ne.symm hji)) h3.1 h3.2.1 ?_⟩) h2
      rw [Array.setIfInBounds_comm _ _ hji]
      exact h3.2.2

/-- The goal of the walk by hand. -/
def Go_ (P : Program) (ops : Array Oper) (Q : Exit → Act → World → Prop) (S : World → Prop) (n f : Nat) (listed : Array Bool) (a : Act) (w : World) : Prop :=
  Fit ops n → HeadInv .any ops n listed → wpT P ops Q S n f listed a w

/-- **The beginning.** -/
theorem begin_ {id : Nat} {a : Act} {w : World} {l : List Oper} (n : Nat) (hm : P.follows .mixedOrders = true) (hF : (Region.noSelect l.toArray && decide (n < l.toArray.size) && Region.sinkB .any l.toArray n && Region.chainB .any l.toArray n) = true) (hS : S w.drew)
    (h : S w.drew → Go_ P l.toArray Q S n n (Array.replicate l.length false) a w.drew) : (Code.region id l.toArray true).wp P Q a w := by
  obtain ⟨_, hn', _, _⟩ := Fit.out hF
  have inv0 : HeadInv .any l.toArray n (Array.replicate l.toArray.size false) :=
    ⟨by simp, fun j oj _ hl => (by rw [getD_replicate_false] at hl; cases hl), fun t _ ht => getD_in (by simpa using ht) (getD_replicate_false _ _)⟩
  refine wp_region_any hm ?_
  have := sound (P := P) (Q := Q) (S := S) hF n _ a w.drew inv0 (by have := h hS hF (by simpa using inv0); simpa using this)
  rwa [show n + (l.toArray.size - n) = l.toArray.size by omega] at this

/-- Operation i of the first n yields v wherever S holds: it is taken first. -/
theorem take_ {l : List Oper} (i : Nat) {oi : Oper} {v : Value} {f : Nat} {listed : Array Bool} {a : Act} {w : World} (hi0 : l[i]? = some oi) (hin : decide (i < n) = true)
    (hf : Region.free .any l.toArray listed i = true) (hr : (Region.ready .any l.toArray listed).contains i = true)
    (hQ : ∀ c a w, Q (.panic c) (a.put oi.dst v) w → Q (.panic c) a w) (hS : S w) (hy : YieldsIf P l.toArray S oi v a)
    (h : Go_ P l.toArray Q S n f (listed.setIfInBounds i true) (a.put oi.dst v) w) : Go_ P l.toArray Q S n (f + 1) listed a w := fun hF inv => by
  have hi : l.toArray[i]? = some oi := by simpa using hi0
  have hin' : i < n := of_decide_eq_true hin
  have hr' : i ∈ Region.ready .any l.toArray listed := by simpa using hr
  exact first_ hF hi hQ hin' f listed a w inv (Region.free_spec hi hf) hr' hy hS (h hF (inv.set hr' hin'))

/-- Operation i is the one that may come up: it is carried out; S is to be shown anew. -/
theorem step_ {l : List Oper} (i : Nat) {oi : Oper} {f : Nat} {listed : Array Bool} {a : Act} {w : World} (hi0 : l[i]? = some oi) (hin : decide (i < n) = true)
    (hr : Region.ready .any l.toArray listed = [i])
    (h : ∀ K' : Act → World → Prop, Shut (∀ a w, S w → (S w → Go_ P l.toArray Q S n f (listed.setIfInBounds i true) a w) → K' a w) → if Region.wanted oi (yielded l.toArray a.tmps) = true then Oper.wp P oi a w K' Q else K' (a.put oi.dst undef) w) :
    Go_ P l.toArray Q S n (f + 1) listed a w := fun hF inv => by
  have hi : l.toArray[i]? = some oi := by simpa using hi0
  have hin' : i < n := of_decide_eq_true hin
  have hr' : i ∈ Region.ready .any l.toArray listed := by rw [hr]; simp
  have hun := (mem_ready.1 hr').1
  refine ⟨⟨i, hin', hun⟩, by rw [hr]; simp, fun j hj => ?_⟩
  rw [hr] at hj
  have hji : j = i := by simpa using hj
  subst hji
  exact wpOp_step hi (fun K' hK => h K' (fun a w hS hW => hK a w ⟨hS, hW hS hF (inv.set hr' hin')⟩))

/-- The first n have come up: the rest. -/
theorem rest_ {l : List Oper} {listed : Array Bool} {a : Act} {w : World} (hB : Region.seqB .any l.toArray (l.toArray.size - n) n listed = true) (h : wpList P l.toArray Q (l.drop n) a w) : Go_ P l.toArray Q S n 0 listed a w := fun _ _ => ⟨hB, h⟩
end
end Go.Proofs.Ytmlikgmcekofbaa.Held
end

