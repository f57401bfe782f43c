/- digraph.distances. -/
import Derived.Test.YtjkclhpibielfaaFrE
set_option linter.unusedVariables false
set_option linter.unusedSimpArgs false
namespace Go.Proofs.Ytjkclhpibielfaa
open Go.RowKit Go.Proofs.YtjkclhpibielfaaW.PrintWords Go.Proofs.Ytjkclhpibielfaa.PDigraphTells Mem

theorem preds_any (A : Option Addr) (c : Nat) (G : List (List Int)) (w : World) (hC : Kd.C kG w A G.length G) (hc : G.length ≤ c) (hs : short G) :
    Calls Try.prog 12 #[.agg #[.slice A G.length c]] w fun e w' => ∃ v, e = .returned v ∧ Kd.R kG 36 w' w.heap.size (fun k => w.heap.size ≤ k) v (predL G) ∧ Below w.heap.size w w' := by
  obtain ⟨k, hk⟩ := (pred_f G hs).get
  refine (digraph_Preds.calls k A c G _ w hC hc hk).mono ?_
  rintro e w' ⟨v, rfl, hS, hb⟩
  exact ⟨v, rfl, Kd.S_R (Kd.S_mono (Kd.S_bound hS) (fun k hk => hk.2.1)), hb⟩
def pre (G : List (List Int)) (x : Int) : List Int := rd_L1 (predL G) x
theorem pre_mem {G : List (List Int)} (hG : okG G) (a : Int) (ha : a ∈ nodes G) (p : Int) : p ∈ pre G a ↔ p ∈ nodes G ∧ a ∈ adj G p := by
  have hG' : chk G = 0 := hG
  have ha' := (mem_nodes G a).1 ha
  unfold isNode at ha'
  have hi : a.toNat < G.length := by omega
  have e : pre G a = pvU G G.length a := by
    unfold pre predL
    rw [if_pos hG']
    have h1 : a = ((a.toNat : Nat) : Int) := by omega
    rw [h1, rd1_get _ a.toNat (by rw [List.length_map, nodes_len]; exact hi), List.getElem_map]
    unfold nodes
    rw [List.getElem_map, List.getElem_range]
  rw [e, mem_pvU, mem_nodes]
theorem predL_len {G : List (List Int)} (hG : okG G) : (predL G).length = G.length := by
  have hG' : chk G = 0 := hG
  unfold predL; rw [if_pos hG', List.length_map, nodes_len]
theorem pre_len {G : List (List Int)} (hG : okG G) (a : Int) (ha : isNode G a) : (pre G a).length ≤ G.length := by
  have hG' : chk G = 0 := hG
  have ha' := ha
  unfold isNode at ha'
  have hi : a.toNat < G.length := by omega
  have e : pre G a = pvU G G.length a := by
    unfold pre predL
    rw [if_pos hG']
    have h1 : a = ((a.toNat : Nat) : Int) := by omega
    rw [h1, rd1_get _ a.toNat (by rw [List.length_map, nodes_len]; exact hi), List.getElem_map]
    unfold nodes
    rw [List.getElem_map, List.getElem_range]
  rw [e]
  exact pvU_len _ _ _

/-- What holds in distances: the answer's row, the predecessors', the queue. -/
structure DS (G : List (List Int)) (w wr : World) (b0 b1 b2 : Nat) (vo : Value) (o : List Int) (vp vq : Value) (q : List Int) : Prop where
  out : Kd.R (Kd.int .i64) 3 wr 0 (fun k => b0 ≤ k ∧ k < b1) vo o
  olen : o.length = G.length
  prd : Kd.R kG 36 wr b1 (fun k => b1 ≤ k ∧ k < b2) vp (predL G)
  que : QR wr (fun k => b2 ≤ k) vq q
  below : Below w.heap.size w wr
  b : w.heap.size ≤ b0 ∧ b0 ≤ b1 ∧ b1 ≤ b2 ∧ b2 ≤ wr.heap.size
section
variable {G : List (List Int)} {w wr W : World} {b0 b1 b2 : Nat} {vo vp vq : Value} {o q : List Int}
theorem DS.step (h : DS G w wr b0 b1 b2 vo o vp vq q) (hb : Below wr.heap.size wr W) : DS G w W b0 b1 b2 vo o vp vq q :=
  ⟨Kd.R_step h.out (fun k _ hk => hb.block k hk), h.olen, Kd.R_step h.prd (fun k _ hk => hb.block k hk), h.que.step (fun k _ hk => hb.block k hk), h.below.trans (hb.mono h.below.size), ⟨h.b.1, h.b.2.1, h.b.2.2.1, Nat.le_trans h.b.2.2.2 hb.size⟩⟩
theorem DS.put {g cap : Nat} (h : DS G w wr b0 b1 b2 (.slice (some ⟨g, 0, none⟩) G.length cap) o vp vq q) (p v : Int) : DS G w (wr.setCell ⟨g, p.toNat, none⟩ (.int .i64 v)) b0 b1 b2 (.slice (some ⟨g, 0, none⟩) G.length cap) (o.set p.toNat v) vp vq q := by
  have hg := h.out.1 g rfl
  have hk : Kp (fun k => b0 ≤ k ∧ k < b1) wr (wr.setCell ⟨g, p.toNat, none⟩ (.int .i64 v)) := (Kp.refl (fun k => b0 ≤ k ∧ k < b1) wr).setCell (p := ⟨g, p.toNat, none⟩) (.inl hg) _
  have hs := hk.size
  exact ⟨(Kd.R_putg h.out p v).1, by rw [List.length_set]; exact h.olen, Kd.R_step h.prd (fun k h1 hlt => hk.block hlt (fun h2 => by have := h2.2; have := h1.1; omega)), h.que.step (fun k h1 hlt => hk.block hlt (fun h2 => by have := h2.2; have := h.b.2.2.1; omega)), h.below.trans (hk.belowB (fun k hk => Nat.le_trans h.b.1 hk.1) h.below.size), ⟨h.b.1, h.b.2.1, h.b.2.2.1, Nat.le_trans h.b.2.2.2 hs⟩⟩
theorem DS.at_ {g cap : Nat} (h : DS G w wr b0 b1 b2 (.slice (some ⟨g, 0, none⟩) G.length cap) o vp vq q) (p : Int) (hp : isNode G p) : wr.cell? ⟨g, p.toNat, none⟩ = some (.int .i64 (distOf o p)) ∧ wr.frozen? ⟨g, p.toNat, none⟩ = false := by
  have hp' := hp
  unfold isNode at hp'
  obtain ⟨h1, h2⟩ := Kd.R_celln 0 h.out p hp'.1 hp'.2
  refine ⟨?_, h2⟩
  rw [h1, ← distOf_rd o p hp'.1 (by rw [h.olen]; exact hp'.2)]
  rfl
theorem DS.app {q' : List Int} {vq' : Value} (h : DS G w wr b0 b1 b2 vo o vp vq q) (hq : QR W (fun k => b2 ≤ k ∨ wr.heap.size ≤ k) vq' q') (hk : Kp (fun k => b2 ≤ k) wr W) : DS G w W b0 b1 b2 vo o vp vq' q' := by
  have hs := hk.size
  have hb := h.b
  exact ⟨Kd.R_step h.out (fun k h1 hlt => hk.block hlt (by omega)), h.olen, Kd.R_step h.prd (fun k h1 hlt => hk.block hlt (by omega)), hq.mono (fun k h1 _ => by omega), h.below.trans (hk.belowB (fun k hk => by omega) h.below.size), ⟨h.b.1, h.b.2.1, h.b.2.2.1, by omega⟩⟩
theorem DS.cut {q' : List Int} {vq' : Value} (h : DS G w wr b0 b1 b2 vo o vp vq q) (hq : QR wr (fun k => b2 ≤ k) vq' q') : DS G w wr b0 b1 b2 vo o vp vq' q' := ⟨h.out, h.olen, h.prd, hq, h.below, h.b⟩
end
theorem DS.row {G : List (List Int)} {w wr : World} {b0 b1 b2 cp : Nat} {vo vq : Value} {o q : List Int} {Ap : Option Addr} (hG : okG G) (h : DS G w wr b0 b1 b2 vo o (.slice Ap G.length cp) vq q) (x : Int) (hx : isNode G x) :
    ∃ gp Ar cr, Ap = some ⟨gp, 0, none⟩ ∧ wr.cell? ⟨gp, x.toNat, none⟩ = some (.slice Ar (pre G x).length cr) ∧ Kd.R (Kd.int .i64) 3 wr b1 (fun k => b1 ≤ k ∧ k < b2) (.slice Ar (pre G x).length cr) (pre G x) := by
  have hx' := hx
  unfold isNode at hx'
  have hl := predL_len hG
  have hR := h.prd
  obtain ⟨gp, cap, ev, _⟩ := Kd.R_form hR (by rw [hl]; omega)
  injection ev with e1 e2 e3
  subst e1
  obtain ⟨c, hc, ⟨v, rfl, hM⟩, hcell, _⟩ := Kd.R_elem hR ([] : List Int) x hx'.1 hx'.2
  have h0 := hcell 0 v rfl
  have e : (predL G).getD x.toNat [] = pre G x := rfl
  rw [e] at hM
  obtain ⟨Ar, cr, rfl, _, _⟩ := Kd.R_reads hM
  refine ⟨gp, Ar, cr, rfl, ?_, Kd.R_mono hM (fun k hk => hk.1)⟩
  rw [show kG.sz = 1 from rfl, Nat.mul_one] at h0
  exact h0
theorem cneg_le (V : List Int) (f : Int → Int) : Grf.cneg V f ≤ V.length := by unfold Grf.cneg; exact List.length_filter_le _ _
/-- The numbers that bound the search. -/
structure DB (G : List (List Int)) (o q : List Int) : Prop where
  high : ∀ a, distOf o a + Grf.cneg (nodes G) (distOf o) ≤ G.length
  room : q.length + Grf.cneg (nodes G) (distOf o) ≤ G.length
theorem DB.put {G : List (List Int)} {o q : List Int} {x p : Int} (h : DB G o q) (hp : isNode G p) (hl : o.length = G.length) (hneg : distOf o p < 0) (hx : 0 ≤ distOf o x) : DB G (o.set p.toNat (distOf o x + 1)) (q ++ [p]) := by
  have hp' := hp
  unfold isNode at hp'
  have hset := distOf_set o p (distOf o x + 1) hp'.1 (by rw [hl]; exact hp'.2)
  have hc := Grf.cneg_put (v := distOf o x + 1) ((mem_nodes G p).2 hp) hneg (by omega)
  refine ⟨fun a => ?_, ?_⟩
  · rw [hset]
    by_cases e : a = p
    · rw [e, Grf.put_same]
      have := h.high x
      omega
    · rw [Grf.put_other _ _ e]
      have := h.high a
      omega
  · rw [hset, List.length_append, List.length_singleton]
    have := h.room
    omega
theorem DB.start {G : List (List Int)} {t : Int} (ht : isNode G t) : DB G ((List.replicate G.length (-1)).set t.toNat 0) [t] := by
  have ht' := ht
  unfold isNode at ht'
  have hset : distOf ((List.replicate G.length (-1)).set t.toNat 0) = Grf.put (fun _ => -1) t 0 := by
    rw [distOf_set _ t 0 ht'.1 (by simp; exact ht'.2), distOf_neg]
  have hc := Grf.cneg_put (f := fun _ => (-1 : Int)) (v := 0) ((mem_nodes G t).2 ht) (by omega) (by omega)
  have h1 := cneg_le (nodes G) (fun _ => -1)
  rw [nodes_len] at h1
  refine ⟨fun a => ?_, ?_⟩
  · rw [hset]
    by_cases e : a = t
    · rw [e, Grf.put_same]; omega
    · rw [Grf.put_other _ _ e]; omega
  · rw [hset, List.length_singleton]; omega

set_option maxRecDepth 100000 in
set_option maxHeartbeats 2000000 in
theorem dist_main (A : Option Addr) (c : Nat) (G : List (List Int)) (t : Int) (w : World) (hC : Kd.C kG w A G.length G) (hc : G.length ≤ c) (hs : short G) (hG : okG G) (ht : isNode G t) :
    Calls Try.prog 35 #[.agg #[.slice A G.length c], .int .i64 t] w fun e w' => ∃ vo r, e = .returned vo ∧ farL G t r ∧ Kd.R (Kd.int .i64) 3 w' 0 (fun k => w.heap.size ≤ k) vo r ∧ Below w.heap.size w w' := by
  have hl := okG.len hG
  have htn := ht
  unfold isNode at htn
  have ht1 := htn.1
  have ht2 := htn.2
  have hpos : 0 < G.length := by omega
  have hX := Aside0.mk (And.intro hC (And.intro hc (And.intro hs (And.intro hG ht))))
  clear hC hc hs hG ht htn
  go_enter Try.func35, Try.ntmps35
  go_wp2_with fail
  have hC0 : Kd.C (Kd.int .i64) ((w.alloc (.cells #[.slice A G.length c] 24)).alloc (.cells #[.int .i64 (-1)] 3)) (some ⟨w.heap.size + 1, 0, none⟩) 1 [-1] := by
    have := C_new (w.alloc (.cells #[.slice A G.length c] 24)) [-1] (by simp) _ rfl
    simpa using this
  refine (repeat_any (some ⟨w.heap.size + 1, 0, none⟩) 1 G.length _ hC0 (Nat.le_refl _) hpos hl).mono ?_
  rintro e w1 ⟨v1, rfl, R1, B1⟩
  obtain ⟨gb, hgb⟩ : ∃ gb, gb = w.heap.size := ⟨_, rfl⟩
  have hsz : ((w.alloc (.cells #[.slice A G.length c] 24)).alloc (.cells #[.int .i64 (-1)] 3)).heap.size = w.heap.size + 2 := by simp
  rw [hsz] at B1 R1
  have hb1 : Below w.heap.size w w1 := (below_alloc (below_alloc (Below.refl _ w) _) _).trans (B1.mono (by omega))
  have hg1 : w1.heap[gb]? = some (.cells #[.slice A G.length c] 24 (0, 0)) := by
    rw [hgb]
    refine (B1.block _ (by omega)).trans ?_
    rw [Below.heap_alloc _ _ _ (by simp)]
    exact heap_alloc_new w _
  obtain ⟨g, cap, ev, _⟩ := Kd.R_form R1 (by rw [List.length_replicate]; exact hpos)
  rw [List.length_replicate] at ev
  subst ev
  have hgne : g ≠ gb := by have : w.heap.size + 2 ≤ g := R1.1 g rfl
                           omega
  obtain ⟨x0, x1⟩ := Kd.R_celln 0 R1 t ht1 ht2
  have hput := Kd.R_putg R1 t 0
  have c0 : (w1.setCell ⟨g, t.toNat, none⟩ (.int .i64 0)).cell? ⟨gb, 0, none⟩ = some (.slice A G.length c) := cell_at ((Below.heap_setCell w1 ⟨g, t.toNat, none⟩ _ gb (fun e => hgne e.symm)).trans hg1) rfl
  have hK1 : Kp (fun k => w.heap.size + 2 ≤ k) w1 (w1.setCell ⟨g, t.toNat, none⟩ (.int .i64 0)) := (Kp.refl (fun k => w.heap.size + 2 ≤ k) w1).setCell (p := ⟨g, t.toNat, none⟩) (.inl (R1.1 g rfl)) _
  have hb2 := hb1.trans (hK1.belowB (fun k hk => by omega) hb1.size)
  have hsz1 : w.heap.size + 2 ≤ w1.heap.size := by have := B1.size; rw [hsz] at this; exact this
  have H1 := Aside0.mk (And.intro hput.1 (And.intro hb2 (And.intro hK1.size hsz1)))
  rw [show Value.pointer (some (⟨w.heap.size, 0, none⟩ : Addr)) = Value.pointer (some ⟨gb, 0, none⟩) by rw [hgb]]
  clear R1 B1 hb1 hg1 hput hK1 hb2 hsz hsz1 hC0 hgb
  go_wp2_with fail
  refine (preds_any A c G _ (Kd.C_below hX.out.1 H1.out.2.1) hX.out.2.1 hX.out.2.2.1).mono ?_
  rintro e w2 ⟨v2, rfl, R2, B2⟩
  have hPl := predL_len hX.out.2.2.2.1
  obtain ⟨Ap, cp, ep, hcp, _⟩ := Kd.R_reads R2
  rw [hPl] at ep hcp
  subst ep
  have hb3 := H1.out.2.1.trans (B2.mono H1.out.2.1.size)
  obtain ⟨W1, hW1⟩ : ∃ W1, W1 = w1.setCell ⟨g, t.toNat, none⟩ (.int .i64 0) := ⟨_, rfl⟩
  rw [← hW1] at H1 R2 B2
  have hDS : DS G w (w2.alloc (.cells #[.int .i64 t] 3)) (w.heap.size + 2) W1.heap.size w2.heap.size (.slice (some ⟨g, 0, none⟩) G.length cap) ((List.replicate G.length (-1)).set t.toNat 0) (.slice Ap G.length cp) (.slice (some ⟨w2.heap.size, 0, none⟩) 1 1) [t] := by
    have s1 := H1.out.2.2.1
    have s2 := H1.out.2.2.2
    have s3 := B2.size
    refine ⟨Kd.R_alloc (Kd.R_step (Kd.R_mono (Kd.R_bound H1.out.1) (fun k hk => ⟨hk.1, hk.2.2.1⟩)) (fun k hk _ => B2.block k hk.2)) _, by simp, Kd.R_alloc (Kd.R_mono (Kd.R_bound R2) (fun k hk => ⟨hk.1, hk.2.2.1⟩)) _, ?_, below_alloc hb3 _, ⟨by omega, by omega, by omega, by simp⟩⟩
    refine ⟨some ⟨w2.heap.size, 0, none⟩, 1, rfl, fun _ => ⟨w2.heap.size, 0, _, rfl, Nat.le_refl _, heap_alloc_new w2 _, Nat.le_refl _, by unfold maxLen; omega, rfl, rfl⟩⟩
  obtain ⟨b1, hb1e⟩ : ∃ b1, W1.heap.size = b1 := ⟨_, rfl⟩
  obtain ⟨b2, hb2e⟩ : ∃ b2, w2.heap.size = b2 := ⟨_, rfl⟩
  rw [hb1e, hb2e] at hDS
  have hBI : Grf.BI (adj G) (pre G) (nodes G) t (distOf ((List.replicate G.length (-1)).set t.toNat 0)) [t] := by
    rw [show distOf ((List.replicate G.length (-1)).set t.toNat 0) = Grf.put (fun _ => -1) t 0 by rw [distOf_set _ t 0 ht1 (by simp; exact ht2), distOf_neg]]
    exact Grf.BI.start ((mem_nodes G t).2 hX.out.2.2.2.2)
  have hDB := DB.start hX.out.2.2.2.2
  have hm0 : 2 * Grf.cneg (nodes G) (distOf ((List.replicate G.length (-1)).set t.toNat 0)) + 1 ≤ 2 * G.length + 1 := by have := hDB.room; rw [List.length_singleton] at this; omega
  have hI0 := Aside0.mk (And.intro hDS (And.intro hBI (And.intro hDB hm0)))
  clear hDS hBI hDB hm0 H1 R2 B2 hW1 hb1e hb3 x0 x1 c0 hgne hPl
  go_wp2_with fail
  go_loopg [7] (2 * G.length + 1) (fun n vq wi => ∃ (o q : List Int) (Aq : Option Addr) (cq : Nat), vq = .slice Aq q.length cq ∧ Aside0 (DS G w wi (w.heap.size + 2) b1 b2 (.slice (some ⟨g, 0, none⟩) G.length cap) o (.slice Ap G.length cp) (.slice Aq q.length cq) q ∧ Grf.BI (adj G) (pre G) (nodes G) t (distOf o) q ∧ DB G o q ∧ 2 * Grf.cneg (nodes G) (distOf o) + q.length ≤ n))
  case atStart => exact ⟨_, [t], some ⟨b2, 0, none⟩, 1, rfl, hI0⟩
  case round =>
    obtain ⟨o, q, Aq, cq, rfl, hJ⟩ := hrel
    clear hI0
    cases q with
    | nil =>
      have hfar : farL G t o := ⟨hJ.out.1.olen, hJ.out.2.1.far (okG.cl hX.out.2.2.2.1) (pre_mem hX.out.2.2.2.1)⟩
      have hE := Aside0.mk hfar
      clear hfar
      go_wp2
      go_ret
      exact ⟨_, _, rfl, hE.out, Kd.R_mono hJ.out.1.out (fun k hk => by omega), hJ.out.1.below⟩
    | cons x q' =>
      obtain ⟨gk1, rfl⟩ : ∃ n, gk = n + 1 := ⟨gk - 1, by have := hJ.out.2.2.2; simp only [List.length_cons] at this; omega⟩
      obtain ⟨g2, off, cq2, ev, hcq, hx0⟩ := hJ.out.1.que.at_
      injection ev with ev1 ev2 ev3
      subst ev1
      subst ev3
      clear ev2
      have hxn : isNode G x := (mem_nodes G x).1 (hJ.out.2.1.qV x List.mem_cons_self)
      have hxn' := hxn
      unfold isNode at hxn'
      have hxa := hxn'.1
      have hxb := hxn'.2
      clear hxn'
      obtain ⟨gp, Ar, cr, hpA, p0, pR⟩ := hJ.out.1.row hX.out.2.2.2.1 x hxn
      subst hpA
      obtain ⟨ps, hps⟩ : ∃ ps, pre G x = ps := ⟨_, rfl⟩
      rw [hps] at p0 pR
      have hpl : ps.length ≤ 65536 := by have := pre_len hX.out.2.2.2.1 x hxn; rw [hps] at this; omega
      have hround := hJ.out.2.1.round (pre_mem hX.out.2.2.2.1)
      rw [hps] at hround
      obtain ⟨R0, hR0⟩ : ∃ R0, Grf.relax x ps (distOf o) q' = R0 := ⟨_, rfl⟩
      rw [hR0] at hround
      have hmm := hJ.out.2.2.2
      simp only [List.length_cons] at hmm
      have hfx := hJ.out.2.1.nonneg x List.mem_cons_self
      have hpsn : ∀ p ∈ ps, isNode G p := fun p hp => by
        have := (pre_mem hX.out.2.2.2.1 x ((mem_nodes G x).2 hxn) p).1 (by rw [hps]; exact hp)
        exact (mem_nodes G p).1 this.1
      have hY := Aside0.mk (And.intro hround (And.intro hxn (And.intro hps (And.intro hpsn (show 2 * Grf.cneg (nodes G) R0.1 + R0.2.length ≤ gk1 by omega)))))
      have hI1 : Aside0 (DS G w wr (w.heap.size + 2) b1 b2 (.slice (some ⟨g, 0, none⟩) G.length cap) o (.slice (some ⟨gp, 0, none⟩) G.length cp) (.slice (some ⟨g2, off, none⟩) (q'.length + 1) cq) (x :: q') ∧ Grf.relax x (ps.drop 0) (distOf o) q' = R0 ∧ DB G o (x :: q') ∧ 0 ≤ distOf o x) := ⟨hJ.out.1, by rw [List.drop_zero]; exact hR0, hJ.out.2.2.1, hfx⟩
      have hP : Aside0 (Kd.R (Kd.int .i64) 3 wr b1 (fun k => b1 ≤ k ∧ k < b2) (.slice Ar ps.length cr) ps) := ⟨pR⟩
      clear hround hxn hps hpsn hJ hR0 pR hfx hmm
      go_wp2_with fail
      go_loopg [7, 34] ps.length (fun n v7 v34 wi => ∃ (j : Nat) (o1 q1 : List Int) (A1 : Option Addr) (c1 : Nat), j + n = ps.length ∧ v7 = .slice A1 (q1.length + 1) c1 ∧ v34 = .int .i64 (j : Int) ∧ Aside0 (DS G w wi (w.heap.size + 2) b1 b2 (.slice (some ⟨g, 0, none⟩) G.length cap) o1 (.slice (some ⟨gp, 0, none⟩) G.length cp) (.slice A1 (q1.length + 1) c1) (x :: q1) ∧ Grf.relax x (ps.drop j) (distOf o1) q1 = R0 ∧ DB G o1 (x :: q1) ∧ 0 ≤ distOf o1 x) ∧ Aside0 (Kd.R (Kd.int .i64) 3 wi b1 (fun k => b1 ≤ k ∧ k < b2) (.slice Ar ps.length cr) ps))
      case atStart => exact ⟨0, o, q', some ⟨g2, off, none⟩, cq, by omega, by simp, rfl, hI1, hP⟩
      case round =>
        obtain ⟨j, o1, q1, A1, c1, hj, rfl, rfl, hJ, hPr⟩ := hrel
        clear hI1 hP p0
        obtain ⟨g3, off3, c3, ev3, hcq3, hx3⟩ := hJ.out.1.que.at_
        injection ev3 with ev31 ev32 ev33
        subst ev31
        subst ev33
        clear ev32
        by_cases hlt : j < ps.length
        · have hlti : (j : Int) < ps.length := by omega
          obtain ⟨gk2, rfl⟩ : ∃ n, gk = n + 1 := ⟨gk - 1, by omega⟩
          have hj2 : j + 1 + gk2 = ps.length := by omega
          have hgk2 : gk2 < gk2 + 1 := by omega
          obtain ⟨A9, c9, e9, _, C9⟩ := Kd.R_reads hPr.out
          injection e9 with e91 e92 e93
          subst e91
          subst e93
          clear e92
          obtain ⟨pad, eA, a0⟩ := Kd.at_int C9 (j : Int) (by omega) hlti
          rw [rd_get ps j hlt, Int.toNat_natCast] at a0
          subst eA
          have hpn := hY.out.2.2.2.1 ps[j] (List.getElem_mem hlt)
          have hre := hJ.out.2.1
          rw [List.drop_eq_getElem_cons hlt, Grf.relax] at hre
          obtain ⟨p, hp⟩ : ∃ p, p = ps[j] := ⟨_, rfl⟩
          rw [← hp] at a0 hpn hre
          obtain ⟨y0, y1⟩ := hJ.out.1.at_ p hpn
          obtain ⟨z0, z1⟩ := hJ.out.1.at_ x hY.out.2.1
          have hpn' := hpn
          unfold isNode at hpn'
          have hpa := hpn'.1
          have hpb := hpn'.2
          clear hpn' C9 hp
          obtain ⟨fp, hfp⟩ : ∃ fp, distOf o1 p = fp := ⟨_, rfl⟩
          obtain ⟨fx, hfx⟩ : ∃ fx, distOf o1 x = fx := ⟨_, rfl⟩
          rw [hfp] at y0
          rw [hfx] at z0
          by_cases hneg : fp < 0
          · rw [hfp, if_pos hneg] at hre
            have hfx0 : 0 ≤ distOf o1 x := hJ.out.2.2.2
            have hxp : x ≠ p := fun e => by rw [e, hfp] at hfx0; omega
            have hhigh := hJ.out.2.2.1.high x
            have hw9 : wrap64 (fx + 1) = fx + 1 := by unfold wrap64; omega
            have hset := distOf_set o1 p (distOf o1 x + 1) hpa (by rw [hJ.out.1.olen]; exact hpb)
            have hDB2 := hJ.out.2.2.1.put hpn hJ.out.1.olen (by rw [hfp]; exact hneg) hfx0
            have hfx2 : 0 ≤ distOf (o1.set p.toNat (distOf o1 x + 1)) x := by rw [hset, Grf.put_other _ _ hxp]; exact hfx0
            rw [← hset] at hre
            rw [hfx] at hset hDB2 hfx2 hre
            have hput := hJ.out.1.put p (fx + 1)
            have hrow2 : Kd.R (Kd.int .i64) 3 (wr.setCell ⟨g, p.toNat, none⟩ (.int .i64 (fx + 1))) b1 (fun k => b1 ≤ k ∧ k < b2) (.slice (some pad) ps.length cr) ps := Kd.R_step hPr.out (fun k hk _ => Below.heap_setCell wr ⟨g, p.toNat, none⟩ _ k (fun e => by have h9 := (hJ.out.1.out.1 g rfl).2; have h8 := hk.1; simp only at e; omega))
            have hroom := hDB2.room
            simp only [List.length_append, List.length_cons, List.length_nil] at hroom
            have hqb : q1.length + 1 + 1 ≤ 1000000 := by omega
            have hZ := Aside0.mk (And.intro hput (And.intro hrow2 (And.intro hDB2 (And.intro hfx2 hre))))
            clear hput hrow2 hDB2 hfx2 hre hset hhigh hroom hJ hPr hfp hfx hfx0 hxp hpn
            have hN1 : (wr.setCell ⟨g, p.toNat, none⟩ (.int .i64 (fx + 1))).heap.size = wr.heap.size := by simp
            have hDA := hZ.out.1.step (W := (wr.setCell ⟨g, p.toNat, none⟩ (.int .i64 (fx + 1))).alloc (.cells #[.int .i64 p] 3)) (below_alloc (Below.refl _ _) _)
            have hRA : Kd.R (Kd.int .i64) 3 ((wr.setCell ⟨g, p.toNat, none⟩ (.int .i64 (fx + 1))).alloc (.cells #[.int .i64 p] 3)) b1 (fun k => b1 ≤ k ∧ k < b2) (.slice (some pad) ps.length cr) ps := Kd.R_alloc hZ.out.2.1 _
            have hy : ((wr.setCell ⟨g, p.toNat, none⟩ (.int .i64 (fx + 1))).alloc (.cells #[.int .i64 p] 3)).cell? ⟨wr.heap.size, 0, none⟩ = some (.int .i64 p) := by
              have := heap_alloc_new (wr.setCell ⟨g, p.toNat, none⟩ (.int .i64 (fx + 1))) (.cells #[.int .i64 p] 3)
              rw [hN1] at this
              exact cell_at this rfl
            have hlq : 0 < (x :: q1).length := by simp
            have hlq2 : (x :: q1).length + 1 ≤ 1000000 := by simp only [List.length_cons]; omega
            have hV := Aside0.mk (And.intro hDA (And.intro hRA (And.intro hy (And.intro hlq hlq2))))
            clear hDA hRA hy hlq hlq2 hN1
            go_wp2_with (at_builtin; refine wpList_append_q rfl (.tmp 53) (.tmp 55) rfl (fun k => b2 ≤ k) (.slice (some ⟨g3, off3, none⟩) (q1.length + 1) c1) (x :: q1) ⟨wr.heap.size, 0, none⟩ 1 p (by rfl) (by rfl) hV.out.1.que hV.out.2.2.2.1 hV.out.2.2.1 hV.out.2.2.2.2 ?_; intro v5 w5 hq5 hk5; have hD5 := hV.out.1.app hq5 hk5; have hR5 : Kd.R (Kd.int .i64) 3 w5 b1 (fun k => b1 ≤ k ∧ k < b2) (.slice (some pad) ps.length cr) ps := Kd.R_step hV.out.2.1 (fun k hk hlt9 => hk5.block hlt9 (fun h9 => by have := hk.2; omega)); obtain ⟨A5, c5, e5, _⟩ := hq5; subst e5; have hU := Aside0.mk (And.intro hD5 hR5); clear hk5 hD5 hR5)
            have hI2 : Aside0 (DS G w w5 (w.heap.size + 2) b1 b2 (.slice (some ⟨g, 0, none⟩) G.length cap) (o1.set p.toNat (fx + 1)) (.slice (some ⟨gp, 0, none⟩) G.length cp) (.slice A5 ((q1 ++ [p]).length + 1) c5) (x :: (q1 ++ [p])) ∧ Grf.relax x (ps.drop (j + 1)) (distOf (o1.set p.toNat (fx + 1))) (q1 ++ [p]) = R0 ∧ DB G (o1.set p.toNat (fx + 1)) (x :: (q1 ++ [p])) ∧ 0 ≤ distOf (o1.set p.toNat (fx + 1)) x) := ⟨hU.out.1, hZ.out.2.2.2.2, hZ.out.2.2.1, hZ.out.2.2.2.1⟩
            have hI3 : Aside0 (Kd.R (Kd.int .i64) 3 w5 b1 (fun k => b1 ≤ k ∧ k < b2) (.slice (some pad) ps.length cr) ps) := ⟨hU.out.2⟩
            have el : (q1 ++ [p]).length + 1 = ((x :: q1) ++ [p]).length := by simp
            
            clear hU hV hZ hw9
            go_wp2
            go_roundg gk2
            case rel => exact ⟨j + 1, _, q1 ++ [p], A5, c5, hj2, by simp, by go_num, hI2, hI3⟩
            case measure => exact hgk2
          · rw [hfp, if_neg hneg] at hre
            have hI2 : Aside0 (DS G w wr (w.heap.size + 2) b1 b2 (.slice (some ⟨g, 0, none⟩) G.length cap) o1 (.slice (some ⟨gp, 0, none⟩) G.length cp) (.slice (some ⟨g3, off3, none⟩) (q1.length + 1) c1) (x :: q1) ∧ Grf.relax x (ps.drop (j + 1)) (distOf o1) q1 = R0 ∧ DB G o1 (x :: q1) ∧ 0 ≤ distOf o1 x) := ⟨hJ.out.1, hre, hJ.out.2.2.1, hJ.out.2.2.2⟩
            have hI3 := hPr
            clear hJ hPr hre hpn hfp hfx
            go_wp2
            go_roundg gk2
            case rel => exact ⟨j + 1, o1, q1, some ⟨g3, off3, none⟩, c1, hj2, rfl, by go_num, hI2, hI3⟩
            case measure => exact hgk2
        · have hre := hJ.out.2.1
          rw [List.drop_eq_nil_of_le (by omega), Grf.relax] at hre
          have e1 : distOf o1 = R0.1 := by rw [← hre]
          have e2 : q1 = R0.2 := by rw [← hre]
          have hb := hY.out.1
          have hm8 := hY.out.2.2.2.2
          rw [← e1, ← e2] at hm8
          rw [← e1, ← e2] at hb
          have hDB3 : DB G o1 q1 := ⟨hJ.out.2.2.1.high, by have := hJ.out.2.2.1.room; simp only [List.length_cons] at this; omega⟩
          have hW := Aside0.mk (And.intro hJ.out.1 (And.intro hb.1 (And.intro hDB3 hm8)))
          clear hre e1 e2 hb hm8 hDB3 hJ hPr
          have hq3 : q1.length + 1 ≤ c1 := hcq3
          have hgk9 : gk1 < gk1 + 1 := by omega
          go_wp2_with fail
          all_goals
            go_roundg gk1
            case rel => first
              | exact ⟨o1, q1, _, _, rfl, ⟨hW.out.1.cut (hW.out.1.que.tail _ (fun h9 => rfl)), hW.out.2.1, hW.out.2.2.1, hW.out.2.2.2⟩⟩
              | exact ⟨o1, q1, _, _, rfl, ⟨hW.out.1.cut ⟨_, _, rfl, fun h9 => by exfalso; omega⟩, hW.out.2.1, hW.out.2.2.1, hW.out.2.2.2⟩⟩
            case measure => exact hgk9
theorem distances_any (A : Option Addr) (c : Nat) (G : List (List Int)) (t : Int) (w : World) (hC : Kd.C kG w A G.length G) (hc : G.length ≤ c) (hs : short G) (hG : okG G) (ht : isNode G t) :
    Calls Try.prog 35 #[.agg #[.slice A G.length c], .int .i64 t] w fun e w' => ∃ Ad cd r, e = .returned (.slice Ad r.length cd) ∧ farL G t r ∧ Kd.C (Kd.int .i64) w' Ad r.length r ∧ Below w.heap.size w w' := by
  refine (dist_main A c G t w hC hc hs hG ht).mono ?_
  rintro e w' ⟨vo, r, rfl, hf, hR, hb⟩
  obtain ⟨A1, c1, rfl, _, hC1⟩ := Kd.R_reads hR
  exact ⟨A1, c1, r, rfl, hf, hC1, hb⟩
end Go.Proofs.Ytjkclhpibielfaa
