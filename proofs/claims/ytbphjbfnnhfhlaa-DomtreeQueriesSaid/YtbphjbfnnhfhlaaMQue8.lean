import Derived.Test.YtbphjbfnnhfhlaaRows
import Derived.WalkKit
import Derived.ProofKit
import Derived.OpenShut
import Derived.SizedLaws
import Derived.Deep.Slices
import Derived.Test.YtbphjbfnnhfhlaaMQue7
section
/- A queue: a slice that is cut at its head and appended to. -/
set_option linter.unusedVariables false
set_option linter.unusedSimpArgs false
namespace Go.Proofs.Ytbphjbfnnhfhlaa
open Go.RowKit Go.Proofs.YtbphjbfnnhfhlaaW.PrintWords Go.Proofs.Ytbphjbfnnhfhlaa.PDigraphTells Mem

/-- v is a queue that holds q, in a block that satisfies ok. -/
def QR (w : World) (ok : Nat → Prop) (v : Value) (q : List Int) : Prop :=
  ∃ A cap, v = .slice A q.length cap ∧ (0 < q.length → ∃ g off cur, A = some ⟨g, off, none⟩ ∧ ok g ∧ w.heap[g]? = some (.cells cur 3 (0, 0)) ∧ q.length ≤ cap ∧ cap ≤ maxLen ∧ cur.size = off + cap ∧ (cur.toList.drop off).take q.length = encs (Value.int .i64) q)
theorem QR.step {w W : World} {ok : Nat → Prop} {v : Value} {q : List Int} (h : QR w ok v q) (hm : ∀ k, ok k → k < w.heap.size → W.heap[k]? = w.heap[k]?) : QR W ok v q := by
  obtain ⟨A, cap, rfl, h⟩ := h
  refine ⟨A, cap, rfl, fun hp => ?_⟩
  obtain ⟨g, off, cur, hA, hg, hh, r⟩ := h hp
  exact ⟨g, off, cur, hA, hg, (hm g hg (blk_lt' hh)).trans hh, r⟩
theorem QR.mono {w : World} {ok ok' : Nat → Prop} {v : Value} {q : List Int} (h : QR w ok v q) (hm : ∀ k, ok k → k < w.heap.size → ok' k) : QR w ok' v q := by
  obtain ⟨A, cap, rfl, h⟩ := h
  refine ⟨A, cap, rfl, fun hp => ?_⟩
  obtain ⟨g, off, cur, hA, hg, hh, r⟩ := h hp
  exact ⟨g, off, cur, hA, hm g hg (blk_lt' hh), hh, r⟩
theorem QR.at_ {w : World} {ok : Nat → Prop} {v : Value} {x : Int} {q : List Int} (h : QR w ok v (x :: q)) : ∃ g off cap, v = .slice (some ⟨g, off, none⟩) (q.length + 1) cap ∧ q.length + 1 ≤ cap ∧ w.cell? ⟨g, off, none⟩ = some (.int .i64 x) := by
  obtain ⟨A, cap, rfl, h⟩ := h
  obtain ⟨g, off, cur, rfl, hg, hh, hle, hcm, hcs, ht⟩ := h (by simp)
  refine ⟨g, off, cap, rfl, by simpa using hle, cell_at hh ?_⟩
  have h0 : ((cur.toList.drop off).take (x :: q).length)[0]? = some (.int .i64 x) := by rw [ht]; rfl
  rw [List.getElem?_take] at h0
  simp only [List.length_cons, Nat.zero_lt_succ, if_true, List.getElem?_drop, Nat.add_zero] at h0
  simpa using h0
theorem QR.tail {w : World} {ok : Nat → Prop} {x : Int} {q : List Int} {g off cap : Nat} (h : QR w ok (.slice (some ⟨g, off, none⟩) (q.length + 1) cap) (x :: q)) (A : Option Addr) (hA : 0 < q.length → A = some ⟨g, off + 1, none⟩) : QR w ok (.slice A q.length (cap - 1)) q := by
  obtain ⟨A1, cap1, e, h⟩ := h
  injection e with e1 e2 e3
  subst e1
  subst e3
  refine ⟨A, cap - 1, rfl, fun hp => ?_⟩
  obtain ⟨g1, off1, cur, e, hg, hh, hle, hcm, hcs, ht⟩ := h (by simp)
  injection e with e
  injection e with e4 e5
  subst e4
  subst e5
  simp only [List.length_cons] at hle ht
  refine ⟨g, off + 1, cur, hA hp, hg, hh, by omega, by omega, by omega, ?_⟩
  have h2 : ((cur.toList.drop off).take (q.length + 1)).drop 1 = (encs (Value.int .i64) (x :: q)).drop 1 := by rw [ht]
  rw [List.drop_take, List.drop_drop] at h2
  simpa [encs] using h2
end Go.Proofs.Ytbphjbfnnhfhlaa
end

section
/- digraph.distances. -/
set_option linter.unusedVariables false
set_option linter.unusedSimpArgs false
namespace Go.Proofs.Ytbphjbfnnhfhlaa
open Go.RowKit Go.Proofs.YtbphjbfnnhfhlaaW.PrintWords Go.Proofs.Ytbphjbfnnhfhlaa.PDigraphTells Mem

theorem preds_any (A : Option Addr) (c : Nat) (G : List (List Int)) (w : World) (hC : Kd.C kG w A G.length G) (hc : G.length ≤ c) (hs : short G) :
    Calls Try.prog 32 #[.agg #[.slice A G.length c]] w fun e w' => ∃ v, e = .returned v ∧ Kd.R kG 28 w' w.heap.size (fun k => w.heap.size ≤ k) v (predL G) ∧ Below w.heap.size w w' := by
  obtain ⟨k, hk⟩ := (pred_f G hs).get
  refine (digraph_Preds.calls k A c G _ w hC hc hk).mono ?_
  rintro e w' ⟨v, rfl, hS, hb⟩
  exact ⟨v, rfl, Kd.S_R (Kd.S_mono (Kd.S_bound hS) (fun k hk => hk.2.1)), hb⟩
def pre (G : List (List Int)) (x : Int) : List Int := rd_L1 (predL G) x
theorem predL_len {G : List (List Int)} (hG : okG G) : (predL G).length = G.length := by
  have hG' : chk G = 0 := hG
  unfold predL; rw [if_pos hG', List.length_map, nodes_len]
/-- What holds in distances: the answer's row, the predecessors', the queue. -/
structure DS (G : List (List Int)) (w wr : World) (b0 b1 b2 : Nat) (vo : Value) (o : List Int) (vp vq : Value) (q : List Int) : Prop where
  out : Kd.R (Kd.int .i64) 3 wr 0 (fun k => b0 ≤ k ∧ k < b1) vo o
  olen : o.length = G.length
  prd : Kd.R kG 28 wr b1 (fun k => b1 ≤ k ∧ k < b2) vp (predL G)
  que : QR wr (fun k => b2 ≤ k) vq q
  below : Below w.heap.size w wr
  b : w.heap.size ≤ b0 ∧ b0 ≤ b1 ∧ b1 ≤ b2 ∧ b2 ≤ wr.heap.size
section
variable {G : List (List Int)} {w wr W : World} {b0 b1 b2 : Nat} {vo vp vq : Value} {o q : List Int}
theorem DS.step (h : DS G w wr b0 b1 b2 vo o vp vq q) (hb : Below wr.heap.size wr W) : DS G w W b0 b1 b2 vo o vp vq q :=
  ⟨Kd.R_step h.out (fun k _ hk => hb.block k hk), h.olen, Kd.R_step h.prd (fun k _ hk => hb.block k hk), h.que.step (fun k _ hk => hb.block k hk), h.below.trans (hb.mono h.below.size), ⟨h.b.1, h.b.2.1, h.b.2.2.1, Nat.le_trans h.b.2.2.2 hb.size⟩⟩
theorem DS.put {g cap : Nat} (h : DS G w wr b0 b1 b2 (.slice (some ⟨g, 0, none⟩) G.length cap) o vp vq q) (p v : Int) : DS G w (wr.setCell ⟨g, p.toNat, none⟩ (.int .i64 v)) b0 b1 b2 (.slice (some ⟨g, 0, none⟩) G.length cap) (o.set p.toNat v) vp vq q := by
  have hg := h.out.1 g rfl
  have hk : Kp (fun k => b0 ≤ k ∧ k < b1) wr (wr.setCell ⟨g, p.toNat, none⟩ (.int .i64 v)) := (Kp.refl (fun k => b0 ≤ k ∧ k < b1) wr).setCell (p := ⟨g, p.toNat, none⟩) (.inl hg) _
  have hs := hk.size
  exact ⟨(Kd.R_putg h.out p v).1, by rw [List.length_set]; exact h.olen, Kd.R_step h.prd (fun k h1 hlt => hk.block hlt (fun h2 => by have := h2.2; have := h1.1; omega)), h.que.step (fun k h1 hlt => hk.block hlt (fun h2 => by have := h2.2; have := h.b.2.2.1; omega)), h.below.trans (hk.belowB (fun k hk => Nat.le_trans h.b.1 hk.1) h.below.size), ⟨h.b.1, h.b.2.1, h.b.2.2.1, Nat.le_trans h.b.2.2.2 hs⟩⟩
theorem DS.at_ {g cap : Nat} (h : DS G w wr b0 b1 b2 (.slice (some ⟨g, 0, none⟩) G.length cap) o vp vq q) (p : Int) (hp : isNode G p) : wr.cell? ⟨g, p.toNat, none⟩ = some (.int .i64 (distOf o p)) ∧ wr.frozen? ⟨g, p.toNat, none⟩ = false := by
  have hp' := hp
  unfold isNode at hp'
  obtain ⟨h1, h2⟩ := Kd.R_celln 0 h.out p hp'.1 hp'.2
  refine ⟨?_, h2⟩
  rw [h1, ← distOf_rd o p hp'.1 (by rw [h.olen]; exact hp'.2)]
  rfl
theorem DS.app {q' : List Int} {vq' : Value} (h : DS G w wr b0 b1 b2 vo o vp vq q) (hq : QR W (fun k => b2 ≤ k ∨ wr.heap.size ≤ k) vq' q') (hk : Kp (fun k => b2 ≤ k) wr W) : DS G w W b0 b1 b2 vo o vp vq' q' := by
  have hs := hk.size
  have hb := h.b
  exact ⟨Kd.R_step h.out (fun k h1 hlt => hk.block hlt (by omega)), h.olen, Kd.R_step h.prd (fun k h1 hlt => hk.block hlt (by omega)), hq.mono (fun k h1 _ => by omega), h.below.trans (hk.belowB (fun k hk => by omega) h.below.size), ⟨h.b.1, h.b.2.1, h.b.2.2.1, by omega⟩⟩
theorem DS.cut {q' : List Int} {vq' : Value} (h : DS G w wr b0 b1 b2 vo o vp vq q) (hq : QR wr (fun k => b2 ≤ k) vq' q') : DS G w wr b0 b1 b2 vo o vp vq' q' := ⟨h.out, h.olen, h.prd, hq, h.below, h.b⟩
end
theorem DS.row {G : List (List Int)} {w wr : World} {b0 b1 b2 cp : Nat} {vo vq : Value} {o q : List Int} {Ap : Option Addr} (hG : okG G) (h : DS G w wr b0 b1 b2 vo o (.slice Ap G.length cp) vq q) (x : Int) (hx : isNode G x) :
    ∃ gp Ar cr, Ap = some ⟨gp, 0, none⟩ ∧ wr.cell? ⟨gp, x.toNat, none⟩ = some (.slice Ar (pre G x).length cr) ∧ Kd.R (Kd.int .i64) 3 wr b1 (fun k => b1 ≤ k ∧ k < b2) (.slice Ar (pre G x).length cr) (pre G x) := by
  have hx' := hx
  unfold isNode at hx'
  have hl := predL_len hG
  have hR := h.prd
  obtain ⟨gp, cap, ev, _⟩ := Kd.R_form hR (by rw [hl]; omega)
  injection ev with e1 e2 e3
  subst e1
  obtain ⟨c, hc, ⟨v, rfl, hM⟩, hcell, _⟩ := Kd.R_elem hR ([] : List Int) x hx'.1 hx'.2
  have h0 := hcell 0 v rfl
  have e : (predL G).getD x.toNat [] = pre G x := rfl
  rw [e] at hM
  obtain ⟨Ar, cr, rfl, _, _⟩ := Kd.R_reads hM
  refine ⟨gp, Ar, cr, rfl, ?_, Kd.R_mono hM (fun k hk => hk.1)⟩
  rw [show kG.sz = 1 from rfl, Nat.mul_one] at h0
  exact h0
theorem cneg_le (V : List Int) (f : Int → Int) : Grf.cneg V f ≤ V.length := by unfold Grf.cneg; exact List.length_filter_le _ _
/-- The numbers that bound the search. -/
structure DB (G : List (List Int)) (o q : List Int) : Prop where
  high : ∀ a, distOf o a + Grf.cneg (nodes G) (distOf o) ≤ G.length
  room : q.length + Grf.cneg (nodes G) (distOf o) ≤ G.length
theorem DB.put {G : List (List Int)} {o q : List Int} {x p : Int} (h : DB G o q) (hp : isNode G p) (hl : o.length = G.length) (hneg : distOf o p < 0) (hx : 0 ≤ distOf o x) : DB G (o.set p.toNat (distOf o x + 1)) (q ++ [p]) := by
  have hp' := hp
  unfold isNode at hp'
  have hset := distOf_set o p (distOf o x + 1) hp'.1 (by rw [hl]; exact hp'.2)
  have hc := Grf.cneg_put (v := distOf o x + 1) ((mem_nodes G p).2 hp) hneg (by omega)
  refine ⟨fun a => ?_, ?_⟩
  · rw [hset]
    by_cases e : a = p
    · rw [e, Grf.put_same]
      have := h.high x
      omega
    · rw [Grf.put_other _ _ e]
      have := h.high a
      omega
  · rw [hset, List.length_append, List.length_singleton]
    have := h.room
    omega
theorem DB.start {G : List (List Int)} {t : Int} (ht : isNode G t) : DB G ((List.replicate G.length (-1)).set t.toNat 0) [t] := by
  have ht' := ht
  unfold isNode at ht'
  have hset : distOf ((List.replicate G.length (-1)).set t.toNat 0) = Grf.put (fun _ => -1) t 0 := by
    rw [distOf_set _ t 0 ht'.1 (by simp; exact ht'.2), distOf_neg]
  have hc := Grf.cneg_put (f := fun _ => (-1 : Int)) (v := 0) ((mem_nodes G t).2 ht) (by omega) (by omega)
  have h1 := cneg_le (nodes G) (fun _ => -1)
  rw [nodes_len] at h1
  refine ⟨fun a => ?_, ?_⟩
  · rw [hset]
    by_cases e : a = t
    · rw [e, Grf.put_same]; omega
    · rw [Grf.put_other _ _ e]; omega
  · rw [hset, List.length_singleton]; omega

end Go.Proofs.Ytbphjbfnnhfhlaa
end

section
/- digraph.ShortestPath. -/
set_option linter.unusedVariables false
set_option linter.unusedSimpArgs false
namespace Go.Proofs.Ytbphjbfnnhfhlaa
open Go.RowKit Go.Proofs.YtbphjbfnnhfhlaaW.PrintWords Go.Proofs.Ytbphjbfnnhfhlaa.PDigraphTells Mem

/-- What holds ahead of a step along the path. -/
structure PS2 (G : List (List Int)) (r : List Int) (tot : List Int) (w2 wr : World) (vo : Value) (out : List Int) (n : Int) (d : Nat) : Prop where
  row : Kd.R (Kd.int .i64) 3 wr 0 (fun k => w2.heap.size ≤ k) vo out
  below : Below w2.heap.size w2 wr
  node : isNode G n
  far : distOf r n = d
  eq : out ++ (Grf.path (adj G) (distOf r) d n).tail = tot
  len : out.length + d ≤ 70000
theorem PS2.step {G : List (List Int)} {r tot : List Int} {w2 wr W : World} {vo : Value} {out : List Int} {n : Int} {d : Nat} (h : PS2 G r tot w2 wr vo out n d) (hb : Below wr.heap.size wr W) : PS2 G r tot w2 W vo out n d :=
  ⟨Kd.R_step h.row (fun k _ hk => hb.block k hk), h.below.trans (hb.mono h.below.size), h.node, h.far, h.eq, h.len⟩
theorem PS2.zero {G : List (List Int)} {r tot : List Int} {b : Int} {w2 wr : World} {vo : Value} {out : List Int} {n : Int} {d : Nat} (hf : farL G b r) (h : PS2 G r tot w2 wr vo out n d) : n = b ↔ d = 0 := by
  constructor
  · rintro rfl
    have h1 := h.far
    rw [hf.2.zero] at h1
    omega
  · intro h0
    have h1 := hf.2.walk n ((mem_nodes G n).2 h.node) (by rw [h.far]; omega)
    rw [h.far, h0] at h1
    cases h1
    rfl
end Go.Proofs.Ytbphjbfnnhfhlaa
end

section
/- The reference's Preds; what the other printed functions answer, as contracts. -/
set_option linter.unusedVariables false
set_option linter.unusedSimpArgs false
namespace Go.Proofs.Ytbphjbfnnhfhlaa
open Go.RowKit Go.Proofs.YtbphjbfnnhfhlaaW.PrintWords Go.Proofs.Ytbphjbfnnhfhlaa.PDigraphTells Mem

end Go.Proofs.Ytbphjbfnnhfhlaa
end

section
/- The example of chapter 6. -/
set_option linter.unusedVariables false
set_option linter.unusedSimpArgs false
namespace Go.Proofs.Ytbphjbfnnhfhlaa
open Go.RowKit Go.Proofs.YtbphjbfnnhfhlaaW.PrintWords Go.Proofs.Ytbphjbfnnhfhlaa.PDigraphTells Mem

def Dia : List (List Int) := [[2, 1], [3], [3], []]
end Go.Proofs.Ytbphjbfnnhfhlaa
end

section
/- What awake answers: the document's fixed results. -/
set_option linter.unusedVariables false
set_option linter.unusedSimpArgs false
namespace Go.Proofs.Ytbphjbfnnhfhlaa
open Go.RowKit Go.Proofs.YtbphjbfnnhfhlaaW.PrintWords Go.Proofs.Ytbphjbfnnhfhlaa.PDigraphTells Mem

/-- The example's world: its graph lies at gb, and its rows are still there. -/
structure AW (w wi : World) (gb : Nat) (A : Option Addr) (c : Nat) : Prop where
  b : Below w.heap.size w wi
  C : Kd.C kG wi A 4 Dia
  g : wi.heap[gb]? = some (.cells #[.slice A 4 c] 24 (0, 0))
theorem AW.step {w wi wj : World} {gb : Nat} {A : Option Addr} {c : Nat} (h : AW w wi gb A c) (hb : Below wi.heap.size wi wj) : AW w wj gb A c :=
  ⟨h.b.trans (hb.mono h.b.size), Kd.C_below h.C hb, (hb.block gb (by have := h.g; rw [Array.getElem?_eq_some_iff] at this; exact this.1)).trans h.g⟩
theorem AW.cell {w wi : World} {gb : Nat} {A : Option Addr} {c : Nat} (h : AW w wi gb A c) : wi.cell? ⟨gb, 0, none⟩ = some (.slice A 4 c) := cell_at h.g rfl

theorem lit_ints (w : World) (cs : Array Value) (e : Nat) (xs : List Int) (g : Nat) (hg : w.heap.size = g) (hcs : cs.toList = xs.map (Value.int .i64)) (hm : xs.length ≤ 1000) : Kd.C (Kd.int .i64) (w.alloc (.cells cs e (0, 0))) (some ⟨g, 0, none⟩) xs.length xs := by
  subst hg
  refine ⟨rfl, by omega, fun _ => ⟨_, rfl, fun j p hj => ⟨[.int .i64 p], rfl, rfl, fun i u hu => ?_⟩⟩⟩
  rcases i with _ | i
  · simp at hu
    subst hu
    rw [show (Kd.int IntKind.i64).sz = 1 from rfl, Nat.mul_one, Nat.add_zero, show (⟨w.heap.size, 0, none⟩ : Addr).add j = ⟨w.heap.size, j, none⟩ from by rcases j with _ | j <;> simp [Addr.add]]
    refine Mem.cell_at (heap_alloc_new w _) ?_
    rw [← Array.getElem?_toList, hcs]
    simp [hj]
  · simp at hu
end Go.Proofs.Ytbphjbfnnhfhlaa
end

section
/- An argument's reading opened by its kind: whole numbers, bools, strings, slices and structs of these, to any depth. -/
set_option linter.unusedVariables false
set_option linter.unusedSimpArgs false
namespace Go.Proofs.Ytbphjbfnnhfhlaa.Opens
open Go.RowKit Go.Proofs.YtbphjbfnnhfhlaaW.PrintWords Go.Proofs.Ytbphjbfnnhfhlaa.Mem Go.Deep

variable {H : Type} {enc : TypeId × Value → H} {P : Program} {W : World}

/-- Whatever cells read as a datum of type t hold a value of kind d, which is good. -/
structure Op {α : Type} (enc : TypeId × Value → H) (P : Program) (W : World) (t : TypeId) (d : Kd α) (good : α → Prop) : Prop where
  op : ∀ {fuel : Nat} {cs : List Value} {x : DataW H × List MemPlace}, DataW.trod enc P W 0 (fun _ => true) true fuel t cs = some x → (∀ n ∈ x.1.weights P t, n ≤ reachBytes) → ∃ y, d.K W y cs ∧ good y

theorem Op.int {t : TypeId} {k : IntKind} (ht : P.underlying t = some (.int k)) : Op enc P W t (Kd.int k) (fun n => (Lit.int k n).wf = true) :=
  ⟨fun h _ => by
    obtain ⟨n, rfl, _, hw⟩ := DataW.trod_int ht h
    exact ⟨n, rfl, hw⟩⟩
theorem Op.bool {t : TypeId} (ht : P.underlying t = some .bool) : Op enc P W t Kd.bool (fun _ => True) :=
  ⟨fun h _ => by
    obtain ⟨n, rfl, _⟩ := DataW.trod_bool ht h
    exact ⟨n, rfl, trivial⟩⟩
theorem cell_of_cells {w : World} {a : Addr} {n : Nat} {cs : List Value} (h : w.cells? 0 a n = some cs) : cs.length = n ∧ ∀ i u, cs[i]? = some u → w.cell? (a.add i) = some u := by
  unfold World.cells? at h
  rw [if_pos (Nat.zero_le _)] at h
  have key : ∀ (l : List Nat) (cs : List Value), l.mapM (fun i => w.cell? (a.add i)) = some cs → cs.length = l.length ∧ ∀ (i j : Nat) u, l[i]? = some j → cs[i]? = some u → w.cell? (a.add j) = some u := by
    intro l
    induction l with
    | nil =>
      intro cs h
      simp at h
      subst h
      simp
    | cons b r ih =>
      intro cs h
      simp only [List.mapM_cons, Option.bind_eq_bind, Option.bind_eq_some_iff] at h
      obtain ⟨v, hv, ys, hys, he⟩ := h
      obtain rfl : v :: ys = cs := by simpa using he
      obtain ⟨h1, h2⟩ := ih ys hys
      refine ⟨by simp [h1], fun i j u hi hu => ?_⟩
      cases i with
      | zero => simp at hi hu; subst hi; subst hu; exact hv
      | succ i => exact h2 i j u (by simpa using hi) (by simpa using hu)
  obtain ⟨h1, h2⟩ := key _ _ h
  refine ⟨by simpa using h1, fun i u hu => h2 i i u ?_ hu⟩
  have hl : i < cs.length := (List.getElem?_eq_some_iff.1 hu).1
  rw [h1] at hl
  simp at hl
  simp [hl]

theorem weights_all {e : TypeId} : ∀ (l : List (DataW H)) (n : Nat) (i : Nat) (d : DataW H), l[i]? = some d → n ∈ d.weights P e → n ∈ DataW.weightsAll P e l
  | [], _, _, _, h, _ => by simp at h
  | d0 :: r, n, 0, d, h, hn => by
    simp at h
    subst h
    rw [DataW.weightsAll]
    exact List.mem_append_left _ hn
  | d0 :: r, n, i + 1, d, h, hn => by
    rw [DataW.weightsAll]
    exact List.mem_append_right _ (weights_all r n i d (by simpa using h) hn)

theorem build {β : Type} {n : Nat} {p : Nat → β → Prop} (h : ∀ i, i < n → ∃ y, p i y) : ∃ xs : List β, xs.length = n ∧ ∀ i, i < n → ∃ y, xs[i]? = some y ∧ p i y := by
  induction n with
  | zero => exact ⟨[], rfl, fun i hi => by omega⟩
  | succ m ih =>
    obtain ⟨xs, h1, h2⟩ := ih (fun i hi => h i (by omega))
    obtain ⟨y, g⟩ := h m (by omega)
    refine ⟨xs ++ [y], by simp [h1], fun i hi => ?_⟩
    by_cases e : i < m
    · obtain ⟨y', h3, g'⟩ := h2 i e
      exact ⟨y', by rw [List.getElem?_append_left (by omega)]; exact h3, g'⟩
    · obtain rfl : i = m := by omega
      exact ⟨y, by rw [← h1]; simp, g⟩

theorem Op.slice {α : Type} {t e : TypeId} {d : Kd α} {good : α → Prop} {B : Nat} (h : Op enc P W e d good) (ht : P.underlying t = some (.slice e)) (hc : P.cellsOf e = d.sz) (hB : P.bytesOf e = B) :
    Op enc P W t (Kd.slice e d) (fun xs => xs.length * B ≤ 140737488351232 ∧ ∀ x ∈ xs, good x) := by
  refine ⟨fun {fuel cs x} hx hw => ?_⟩
  rcases DataW.trod_slice ht hx with ⟨rfl, rfl⟩ | ⟨a, len, cap, elems, rest, n, rfl, rfl, rfl, _, hl, hm, hel, hcell, _, _⟩
  · exact ⟨[], ⟨none, 0, rfl, Nat.le_refl _, Kd.C_nil d W⟩, by simp, fun x hx => by simp at hx⟩
  · have hsz : (elems.length + rest.length) * B ≤ 140737488351232 := by
      have := hw ((elems.length + rest.length) * P.bytesOf e) (by simp [DataW.weights, ht])
      simpa [hB, reachBytes] using this
    have each : ∀ i, i < len → ∃ y c, c.length = d.sz ∧ (∀ j u, c[j]? = some u → W.cell? ((a.add (i * d.sz)).add j) = some u) ∧ d.K W y c ∧ good y := by
      intro i hi
      have h1 := hcell i hi
      have hi2 : i < elems.length := by omega
      rw [List.getElem?_eq_getElem hi2, Option.bind_eq_some_iff] at h1
      obtain ⟨c, hc1, hc2⟩ := h1
      obtain ⟨y, hy, hg⟩ := h.op hc2 (fun n hn => hw n (by
        simp only [DataW.weights, ht]
        refine List.mem_cons_of_mem _ (List.mem_append_left _ (weights_all _ n i elems[i].1 ?_ hn))
        simp [hi2]))
      rw [hc] at hc1
      obtain ⟨g1, g2⟩ := cell_of_cells hc1
      exact ⟨y, c, g1, g2, hy, hg⟩
    have hxs : ∃ xs : List α, xs.length = len ∧ ∀ i, i < len → ∃ y, xs[i]? = some y ∧ ∃ c, c.length = d.sz ∧ (∀ j u, c[j]? = some u → W.cell? ((a.add (i * d.sz)).add j) = some u) ∧ d.K W y c ∧ good y := build each
    obtain ⟨xs, h1, h2⟩ := hxs
    refine ⟨xs, ⟨some a, cap, by rw [h1], by omega, ?_⟩, ?_, ?_⟩
    · refine ⟨rfl, by rw [h1]; unfold maxLen at hm; omega, fun _ => ⟨a, rfl, fun j p hj => ?_⟩⟩
      have hjl : j < len := by
        have := (List.getElem?_eq_some_iff.1 hj).1
        omega
      obtain ⟨y, e1, c, g1, g2, g3, g4⟩ := h2 j hjl
      rw [hj] at e1
      injection e1 with e1
      subst e1
      refine ⟨c, g1, g3, fun i u hu => ?_⟩
      have := g2 i u hu
      rwa [Go.Deep.add_add] at this
    · refine Nat.le_trans (Nat.mul_le_mul_right _ ?_) hsz
      omega
    · intro x hx
      obtain ⟨i, hi, rfl⟩ := List.getElem_of_mem hx
      obtain ⟨y, e1, c, g1, g2, g3, g4⟩ := h2 i (by omega)
      rw [List.getElem?_eq_getElem hi] at e1
      injection e1 with e1
      exact e1 ▸ g4

/-- The fields fs of a struct, from the cell at off on, hold a value of kind d. -/
structure Fs {α : Type} (enc : TypeId × Value → H) (P : Program) (W : World) (fs : List Field) (off : Nat) (d : Kd α) (good : α → Prop) : Prop where
  op : ∀ {fuel : Nat} {cs : List Value} {xs : List (DataW H × List MemPlace)}, xs.length = fs.length → (∀ (i : Nat) (f : Field), fs[i]? = some f → DataW.trod enc P W 0 (fun _ => true) true fuel f.type ((cs.drop f.offset).take (P.cellsOf f.type)) = xs[i]?) →
    (∀ n ∈ DataW.weightsEach P (fs.map (·.type)) (xs.map (·.1)), n ≤ reachBytes) → ∃ y, d.K W y ((cs.drop off).take d.sz) ∧ good y

theorem Fs.one {α : Type} {f : Field} {d : Kd α} {good : α → Prop} (h : Op enc P W f.type d good) (hc : P.cellsOf f.type = d.sz) : Fs enc P W [f] f.offset d good := by
  refine ⟨fun {fuel cs xs} hl hx hw => ?_⟩
  match xs, hl with
  | [x], _ =>
    have h1 := hx 0 f rfl
    obtain ⟨y, hy, hg⟩ := h.op h1 (fun n hn => hw n (by simp [DataW.weightsEach, hn]))
    rw [hc] at hy
    exact ⟨y, hy, hg⟩
theorem Fs.cons {α β : Type} {f : Field} {fs : List Field} {a : Kd α} {b : Kd β} {ga : α → Prop} {gb : β → Prop} {off : Nat} (h : Op enc P W f.type a ga) (k : Fs enc P W fs off b gb) (hc : P.cellsOf f.type = a.sz) (ho : off = f.offset + a.sz) :
    Fs enc P W (f :: fs) f.offset (Kd.pair a b) (fun x => ga x.1 ∧ gb x.2) := by
  refine ⟨fun {fuel cs xs} hl hx hw => ?_⟩
  match xs, hl with
  | x :: r, hl =>
    have h1 := hx 0 f rfl
    obtain ⟨y, hy, hg⟩ := h.op h1 (fun n hn => hw n (by simp [DataW.weightsEach, hn]))
    obtain ⟨z, hz, hgz⟩ := k.op (cs := cs) (xs := r) (by simpa using hl) (fun i f' hf => by simpa using hx (i + 1) f' (by simpa using hf)) (fun n hn => hw n (by
      simp only [List.map_cons, DataW.weightsEach]
      exact List.mem_append_right _ hn))
    rw [hc] at hy
    refine ⟨(y, z), ⟨_, _, ?_, hy, hz⟩, hg, hgz⟩
    rw [ho, ← List.drop_drop]
    show List.take (a.sz + b.sz) _ = _
    rw [List.take_add]
theorem Op.struct {α β : Type} {t : TypeId} {fs : Array Field} {l : List Field} {d : Kd α} {good : α → Prop} (h : Fs enc P W l 0 d good) (ht : P.underlying t = some (.struct fs)) (hl : fs.toList = l) (hc : P.cellsOf t = d.sz) (f : β → α) (g : α → β) (hfg : ∀ z, f (g z) = z) :
    Op enc P W t (Kd.iso d f) (fun y => good (f y)) := by
  refine ⟨fun {fuel cs x} hx hw => ?_⟩
  obtain ⟨xs, n, rfl, rfl, hcs, hxl, hall⟩ := DataW.trod_struct ht hx
  obtain ⟨y, hy, hg⟩ := h.op (fuel := n) (cs := cs) (xs := xs) (by rw [← hl]; simpa using hxl) (fun i f' hf => hall i f' (by rw [← hl] at hf; simpa using hf)) (fun n hn => hw n (by simpa [DataW.weights, ht, hl] using hn))
  refine ⟨g y, ?_, by rw [hfg]; exact hg⟩
  show d.K W (f (g y)) cs
  rw [hfg]
  have e : (cs.drop 0).take d.sz = cs := by rw [List.drop_zero, ← hc, ← hcs, List.take_length]
  rwa [e] at hy
theorem Op.imp {α : Type} {t : TypeId} {d : Kd α} {good good' : α → Prop} (h : Op enc P W t d good) (hg : ∀ x, good x → good' x) : Op enc P W t d good' := ⟨fun hx hw => by
  obtain ⟨y, hy, hgy⟩ := h.op hx hw
  exact ⟨y, hy, hg y hgy⟩⟩

/-- An argument that is a slice. -/
theorem Op.arg_slice {α : Type} {t e : TypeId} {d : Kd α} {good : List α → Prop} {v : Value} {x : DataW H} {p : List MemPlace} (h : Op enc P W t (Kd.slice e d) good) (hv : ∃ a len cap, v = .slice a len cap) (hx : DataW.Trod enc P W 0 (fun _ => true) true t v x p)
    (hw : ∀ n ∈ x.weights P t, n ≤ reachBytes) : ∃ A c xs, v = .slice A xs.length c ∧ xs.length ≤ c ∧ d.C W A xs.length xs ∧ good xs := by
  obtain ⟨a, len, cap, rfl⟩ := hv
  obtain ⟨fuel, hf⟩ := hx
  obtain ⟨y, ⟨A, c, he, hle, hC⟩, hg⟩ := h.op hf hw
  simp [Value.cells] at he
  obtain ⟨rfl, rfl, rfl⟩ := he
  exact ⟨_, _, y, rfl, hle, hC, hg⟩
theorem weight_of {ts : List TypeId} {ds : List (DataW H)} (h : (DataW.weightsEach P ts ds).all (· ≤ reachBytes) = true) {j : Nat} {t : TypeId} {d : DataW H} (ht : ts[j]? = some t) (hd : ds[j]? = some d) : ∀ n ∈ d.weights P t, n ≤ reachBytes :=
  fun n hn => by simpa using List.all_eq_true.1 h n (DataW.weights_mem_each ht hd n hn)
end Go.Proofs.Ytbphjbfnnhfhlaa.Opens
end

section
/- What the laws' walks share: the argument, the world. -/
set_option linter.unusedVariables false
set_option linter.unusedSimpArgs false
namespace Go.Proofs.Ytbphjbfnnhfhlaa
open Go.RowKit Go.Proofs.YtbphjbfnnhfhlaaW.PrintWords Go.Proofs.Ytbphjbfnnhfhlaa.PDigraphTells Mem

/-- What an argument's weights say about a graph. -/
structure big (G : List (List Int)) : Prop where
  len : G.length * 24 ≤ 140737488351232
  row : ∀ l ∈ G, l.length * 8 ≤ 140737488351232
theorem big.short {G : List (List Int)} (h : big G) : short G := ⟨by have := h.len; omega, fun l hl => by have := h.row l hl; omega⟩
theorem big.edges {G : List (List Int)} (h : big G) (hl : G.length ≤ 60) : edges G < 4611686018427387904 := by
  have h1 := edges_le 17592186043904 G (fun l hl => by have := h.row l hl; omega)
  have h2 : G.length * 17592186043904 ≤ 60 * 17592186043904 := Nat.mul_le_mul_right _ hl
  omega
/-- The law's world: its argument lies at gb, the graph's rows are there, and nothing below has changed. -/
structure Gw (w wi : World) (gb : Nat) (A : Option Addr) (c : Nat) (G : List (List Int)) : Prop where
  b : Below w.heap.size w wi
  C : Kd.C kG wi A G.length G
  g : wi.heap[gb]? = some (.cells #[.slice A G.length c] 24 (0, 0))
theorem Gw.start {w : World} {A : Option Addr} {c : Nat} {G : List (List Int)} (h : Kd.C kG w A G.length G) : Gw w (w.alloc (.cells #[.slice A G.length c] 24 (0, 0))) w.heap.size A c G :=
  ⟨below_alloc (Below.refl _ _) _, Kd.C_alloc h _, heap_alloc_new w _⟩
theorem Gw.step {w wi wj : World} {gb : Nat} {A : Option Addr} {c : Nat} {G : List (List Int)} (h : Gw w wi gb A c G) (hb : Below wi.heap.size wi wj) : Gw w wj gb A c G :=
  ⟨h.b.trans (hb.mono h.b.size), Kd.C_below h.C hb, (hb.block gb (blk_lt' h.g)).trans h.g⟩
theorem Gw.drewN {w wi : World} {gb : Nat} {A : Option Addr} {c : Nat} {G : List (List Int)} (h : Gw w wi gb A c G) (n : Nat) : Gw w (wi.drewN n) gb A c G :=
  h.step (pw_below_drewN (Below.refl _ _) _)
theorem Gw.cell {w wi : World} {gb : Nat} {A : Option Addr} {c : Nat} {G : List (List Int)} (h : Gw w wi gb A c G) : wi.cell? ⟨gb, 0, none⟩ = some (.slice A G.length c) := cell_at h.g rfl

end Go.Proofs.Ytbphjbfnnhfhlaa
end

section
/- The reverse postorder in plain lists: positions, backward edges and cycles. -/
set_option linter.unusedVariables false
set_option linter.unusedSimpArgs false
namespace Go.Proofs.Ytbphjbfnnhfhlaa
open Go.RowKit Go.Proofs.YtbphjbfnnhfhlaaW.PrintWords Go.Proofs.Ytbphjbfnnhfhlaa.PDigraphTells Mem

/-- Where n stands in a list; -1 if it does not. -/
def pos (T : List Int) (n : Int) : Int := if n ∈ T then (T.idxOf n : Int) else -1
theorem pos_out {T : List Int} {n : Int} (h : n ∉ T) : pos T n = -1 := by unfold pos; rw [if_neg h]
theorem pos_in {T : List Int} {n : Int} (h : n ∈ T) : 0 ≤ pos T n ∧ pos T n < T.length := by
  unfold pos; rw [if_pos h]
  have := List.idxOf_lt_length_of_mem h
  omega
theorem pos_nonneg {T : List Int} {n : Int} : 0 ≤ pos T n ↔ n ∈ T := by
  by_cases h : n ∈ T
  · exact ⟨fun _ => h, fun _ => (pos_in h).1⟩
  · rw [pos_out h]; exact ⟨fun h1 => by omega, fun h1 => absurd h1 h⟩
theorem pos_left {T R : List Int} {n : Int} (h : n ∈ T) : pos (T ++ R) n = pos T n := by
  unfold pos
  rw [if_pos h, if_pos (List.mem_append_left _ h), List.idxOf_append, if_pos h]
theorem pos_mid {T R : List Int} {x : Int} (h : x ∉ T) : pos (T ++ x :: R) x = T.length := by
  unfold pos
  rw [if_pos (by simp), List.idxOf_append, if_neg h]
  simp
theorem pos_snoc {T : List Int} {x : Int} (hx : x ∉ T) (n : Int) : pos (T ++ [x]) n = if n = x then (T.length : Int) else pos T n := by
  by_cases e : n = x
  · subst e; rw [if_pos rfl, pos_mid hx]
  · rw [if_neg e]
    by_cases h : n ∈ T
    · exact pos_left h
    · rw [pos_out h, pos_out (by simp [h, e])]
theorem pos_inj {T : List Int} {x y : Int} (hx : x ∈ T) (h : pos T x = pos T y) : x = y := by
  have hy : y ∈ T := pos_nonneg.1 (by rw [← h]; exact (pos_in hx).1)
  unfold pos at h
  rw [if_pos hx, if_pos hy] at h
  have h1 := List.idxOf_lt_length_of_mem hx
  have h2 : T.idxOf x = T.idxOf y := by omega
  have e1 : T[T.idxOf x]'h1 = x := List.getElem_idxOf h1
  have e2 : T[T.idxOf y]'(List.idxOf_lt_length_of_mem hy) = y := List.getElem_idxOf _
  rw [← e1, ← e2]
  simp only [h2]
/-- The list of positions. -/
def posL (G : List (List Int)) (T : List Int) : List Int := (nodes G).map (pos T)
theorem posL_len (G : List (List Int)) (T : List Int) : (posL G T).length = G.length := by unfold posL; rw [List.length_map, nodes_len]
theorem posL_get (G : List (List Int)) (T : List Int) (n : Int) (h : isNode G n) : rd (posL G T) n = pos T n := by
  unfold isNode at h
  rw [distOf_rd _ _ h.1 (by rw [posL_len]; exact h.2)]
  have e : n = (n.toNat : Int) := by omega
  rw [e, distOf_get _ n.toNat (by rw [posL_len]; omega)]
  unfold posL nodes
  rw [List.getElem_map, List.getElem_map, List.getElem_range]
theorem posL_set (G : List (List Int)) {T : List Int} {x : Int} (h : isNode G x) (hx : x ∉ T) : (posL G T).set x.toNat (T.length : Int) = posL G (T ++ [x]) := by
  have h' := h
  unfold isNode at h'
  refine distOf_ext (by rw [List.length_set, posL_len, posL_len]) fun y h0 h1 => ?_
  rw [List.length_set, posL_len] at h1
  have hy : isNode G y := by unfold isNode; omega
  rw [distOf_set _ _ _ h'.1 (by rw [posL_len]; exact h'.2), ← distOf_rd (posL G (T ++ [x])) y h0 (by rw [posL_len]; exact h1), posL_get G _ y hy, pos_snoc hx]
  unfold Grf.put
  split
  · rfl
  · rw [← distOf_rd (posL G T) y h0 (by rw [posL_len]; exact h1), posL_get G _ y hy]
theorem posL_nil (G : List (List Int)) : posL G [] = List.replicate G.length (-1) := by
  unfold posL
  rw [← nodes_len G]
  have : ∀ l : List Int, l.map (pos []) = List.replicate l.length (-1) := by
    intro l
    induction l with
    | nil => rfl
    | cons x r ih => rw [List.map_cons, ih, List.length_cons, List.replicate_succ, pos_out (by simp)]
  exact this _
theorem posL_last (G : List (List Int)) {L : List Int} (hnd : L.Nodup) (i : Nat) (h : i < L.length) : L[i] ∉ L.take i := by
  intro hm
  obtain ⟨j, hj, e⟩ := List.getElem_of_mem hm
  rw [List.length_take] at hj
  rw [List.getElem_take] at e
  exact List.pairwise_iff_getElem.1 hnd j i (by omega) h (by omega) e

/-- The edges of the rows below i. -/
def pairs (G : List (List Int)) (i : Nat) : List (Int × Int) := (List.range i).flatMap fun a => (G.getD a []).map fun k => ((a : Int), k)
theorem mem_pairs (G : List (List Int)) (m k : Int) : (m, k) ∈ pairs G G.length ↔ isNode G m ∧ k ∈ adj G m := by
  unfold pairs
  rw [List.mem_flatMap]
  constructor
  · rintro ⟨a, ha, h⟩
    rw [List.mem_range] at ha
    obtain ⟨x, hx, e⟩ := List.mem_map.1 h
    injection e with e1 e2
    subst e1 e2
    refine ⟨by unfold isNode; omega, ?_⟩
    rw [adj_nat G a ha]
    simpa [ha] using hx
  · rintro ⟨h1, h2⟩
    obtain ⟨hi, e⟩ := adj_eq h1
    unfold isNode at h1
    refine ⟨m.toNat, List.mem_range.2 hi, List.mem_map.2 ⟨k, ?_, ?_⟩⟩
    · rw [e] at h2; simpa [hi] using h2
    · rw [Int.toNat_of_nonneg h1.1]
def pA (f : Int → Int) (n : Int) (e : Int × Int) : Bool := (e.2 == n) && (decide (0 ≤ f e.1) && decide (f e.1 < f n))
section
variable {G : List (List Int)} {a : Int} (h : chk G = 0 ∧ isNode G a)
include h
theorem rpo_mem (x : Int) : x ∈ (post G a).reverse ↔ Grf.Reach (adj G) a x := by rw [List.mem_reverse]; exact post_mem h x
theorem reach_node {x : Int} (hx : Grf.Reach (adj G) a x) : isNode G x := (mem_nodes G x).1 (hx.mem (okG.cl h.1) ((mem_nodes G a).2 h.2))
theorem rpo_head : ∃ t, (post G a).reverse = a :: t := by
  obtain ⟨_, _, i, hi⟩ := post_found h
  exact ⟨i.reverse, by rw [hi]; simp⟩
theorem rpo_split {i : List Int} {x : Int} {b : List Int} (e : post G a = i ++ x :: b) : (post G a).reverse = b.reverse ++ x :: i.reverse ∧ x ∉ i ∧ x ∉ b ∧ ∀ y ∈ i, y ∉ b := by
  have hnd := post_nd h
  rw [e] at hnd ⊢
  rw [List.nodup_append] at hnd
  obtain ⟨h1, h2, h3⟩ := hnd
  rw [List.nodup_cons] at h2
  refine ⟨by simp, fun hx => h3 x hx x (by simp) rfl, h2.1, fun y hy hb => h3 y hy y (List.mem_cons_of_mem _ hb) rfl⟩
theorem after_final {x : Int} (hx : Grf.Reach (adj G) a x) : x = a ∨ (pairs G G.length).any (pA (pos (post G a).reverse) x) = true := by
  obtain ⟨met', hf, _⟩ := post_found h
  obtain ⟨i, b, e⟩ := List.append_of_mem ((post_mem h x).2 hx)
  rcases hf.parent i x b e with h1 | ⟨m, hm, hadj⟩
  · exact .inl (by simpa using h1)
  · right
    obtain ⟨e2, n1, n2, n3⟩ := rpo_split h e
    have hmr : Grf.Reach (adj G) a m := (post_mem h m).1 (by rw [e]; simp [hm])
    rw [List.any_eq_true]
    refine ⟨(m, x), (mem_pairs G m x).2 ⟨reach_node h hmr, hadj⟩, ?_⟩
    have p1 : pos (post G a).reverse x = b.length := by rw [e2, pos_mid (by simpa using n2)]; simp
    have p2 : pos (post G a).reverse m = pos b.reverse m := by rw [e2]; exact pos_left (by simpa using hm)
    have p3 := pos_in (T := b.reverse) (n := m) (by simpa using hm)
    rw [List.length_reverse] at p3
    simp only [pA, beq_self_eq_true, Bool.true_and, Bool.and_eq_true, decide_eq_true_eq]
    rw [p1, p2]
    exact p3
end
end Go.Proofs.Ytbphjbfnnhfhlaa
end

section
/- Dominators in plain lists: the iteration over trees of parents comes to the dominators. -/
set_option linter.unusedVariables false
set_option linter.unusedSimpArgs false
set_option linter.unusedSectionVars false
namespace Go.Proofs.Ytbphjbfnnhfhlaa.Dm

/-- v lies on the way up from x in the parents T. -/
inductive Anc (T : Int → Int) : Int → Int → Prop
  | refl {x : Int} (h : 0 ≤ T x) : Anc T x x
  | step {v x : Int} (h : 0 ≤ T x) (hn : T x ≠ x) (ha : Anc T v (T x)) : Anc T v x
theorem Anc.right {T : Int → Int} {v x : Int} (h : Anc T v x) : 0 ≤ T x := by cases h <;> assumption
theorem Anc.left {T : Int → Int} {v x : Int} (h : Anc T v x) : 0 ≤ T v := by
  induction h with
  | refl h => exact h
  | step _ _ _ ih => exact ih
theorem Anc.trans {T : Int → Int} {v w x : Int} (h : Anc T v w) (h2 : Anc T w x) : Anc T v x := by
  induction h2 with
  | refl => exact h
  | step a b _ ih => exact .step a b ih
theorem Anc.up {T : Int → Int} {v x : Int} (h : Anc T v x) (hn : v ≠ x) : T x ≠ x ∧ Anc T v (T x) := by
  cases h with
  | refl => exact absurd rfl hn
  | step _ a b => exact ⟨a, b⟩

/-- What holds of the parents: those that are set lead down in rank to the root. -/
structure WF (r : Int → Int) (e : Int) (T : Int → Int) : Prop where
  root : T e = e
  e0 : 0 ≤ e
  r0 : r e = 0
  nn : ∀ x, 0 ≤ T x → 0 ≤ x ∧ 0 ≤ r x
  down : ∀ x, 0 ≤ T x → x ≠ e → 0 ≤ T (T x) ∧ r (T x) < r x
  inj : ∀ x y, 0 ≤ r x → r x = r y → x = y
section
variable {r : Int → Int} {e : Int} {T : Int → Int} (h : WF r e T)
include h
theorem WF.anc_le {v x : Int} (ha : Anc T v x) : r v ≤ r x ∧ (r v = r x → v = x) := by
  induction ha with
  | refl => exact ⟨Int.le_refl _, fun _ => rfl⟩
  | @step x a b c ih =>
    have hx : x ≠ e := fun e1 => b (by rw [e1]; exact h.root)
    have := (h.down x a hx).2
    exact ⟨by omega, fun e1 => by omega⟩
theorem WF.anc_e {v : Int} (ha : Anc T v e) : v = e := by
  have h1 := h.anc_le ha
  have h2 := (h.nn v ha.left).2
  have h3 := h.r0
  exact h1.2 (by omega)
theorem WF.self {x : Int} (hx : 0 ≤ T x) (hn : x ≠ e) : T x ≠ x := fun e1 => by have := (h.down x hx hn).2; rw [e1] at this; omega
theorem WF.parent {x : Int} (hx : 0 ≤ T x) (hn : x ≠ e) : Anc T (T x) x := .step hx (h.self hx hn) (.refl (h.down x hx hn).1)
theorem WF.from_root : ∀ (n : Nat) (x : Int), (r x).toNat ≤ n → 0 ≤ T x → Anc T e x := by
  intro n
  induction n with
  | zero =>
    intro x hx h0
    have h1 := (h.nn x h0).2
    have h2 : x = e := h.inj x e h1 (by rw [h.r0]; omega)
    subst h2
    exact .refl h0
  | succ n ih =>
    intro x hx h0
    by_cases e1 : x = e
    · subst e1; exact .refl h0
    · obtain ⟨h1, h2⟩ := h.down x h0 e1
      have h3 := (h.nn _ h1).2
      exact .step h0 (h.self h0 e1) (ih _ (by omega) h1)
theorem WF.all {x : Int} (hx : 0 ≤ T x) : Anc T e x := h.from_root _ x (Nat.le_refl _) hx
end
def put (T : Int → Int) (x w : Int) : Int → Int := fun y => if y = x then w else T y
theorem put_at (T : Int → Int) (x w : Int) : put T x w x = w := by unfold put; rw [if_pos rfl]
theorem put_ne (T : Int → Int) {x w y : Int} (h : y ≠ x) : put T x w y = T y := by unfold put; rw [if_neg h]
theorem put_same (T : Int → Int) (x : Int) : put T x (T x) = T := by
  funext y
  unfold put
  split
  · rename_i h; rw [h]
  · rfl
section
variable {r : Int → Int} {e : Int} {T : Int → Int} (h : WF r e T)
include h
theorem WF.put {x w : Int} (hxe : x ≠ e) (hx : 0 ≤ x) (hrx : 0 ≤ r x) (hw : 0 ≤ T w) (hr : r w < r x) : WF r e (put T x w) := by
  have hw0 := (h.nn w hw).1
  have hwx : w ≠ x := fun e1 => by rw [e1] at hr; omega
  refine ⟨by rw [put_ne _ (Ne.symm hxe)]; exact h.root, h.e0, h.r0, fun y hy => ?_, fun y hy hye => ?_, h.inj⟩
  · by_cases e1 : y = x
    · subst e1; exact ⟨hx, hrx⟩
    · rw [put_ne _ e1] at hy; exact h.nn y hy
  · by_cases e1 : y = x
    · subst e1
      rw [put_at, put_ne _ hwx]
      exact ⟨hw, hr⟩
    · rw [put_ne _ e1] at hy ⊢
      obtain ⟨h1, h2⟩ := h.down y hy hye
      refine ⟨?_, h2⟩
      by_cases e2 : T y = x
      · rw [e2, put_at]; exact hw0
      · rw [put_ne _ e2]; exact h1
theorem WF.same {x w : Int} {u : Int} (hu : r u < r x) (v : Int) : Anc (Dm.put T x w) v u ↔ Anc T v u := by
  constructor
  · intro ha
    have key : ∀ v u, Anc (Dm.put T x w) v u → r u < r x → Anc T v u := by
      intro v u ha
      induction ha with
      | refl hh =>
        intro hu
        have : v ≠ x := fun e1 => by rw [e1] at hu; omega
        rw [put_ne _ this] at hh
        exact .refl hh
      | @step u a b c ih =>
        intro hu
        have hne : u ≠ x := fun e1 => by rw [e1] at hu; omega
        rw [put_ne _ hne] at a b c ih
        have hue : u ≠ e := fun e1 => b (by rw [e1]; exact h.root)
        have := (h.down u a hue).2
        exact .step a b (ih (by omega))
    exact key v u ha hu
  · intro ha
    induction ha with
    | refl hh =>
      have : v ≠ x := fun e1 => by rw [e1] at hu; omega
      exact .refl (by rw [put_ne _ this]; exact hh)
    | @step u a b c ih =>
      have hne : u ≠ x := fun e1 => by rw [e1] at hu; omega
      have hue : u ≠ e := fun e1 => b (by rw [e1]; exact h.root)
      have := (h.down u a hue).2
      refine .step (by rw [put_ne _ hne]; exact a) (by rw [put_ne _ hne]; exact b) ?_
      rw [put_ne _ hne]
      exact ih (by omega)
theorem WF.shrink {x w : Int} (hxe : x ≠ e) (hx : 0 ≤ T x) (hw : Anc T w (T x)) {u v : Int} (ha : Anc (Dm.put T x w) v u) : Anc T v u := by
  induction ha with
  | refl hh =>
    by_cases e1 : v = x
    · subst e1; exact .refl hx
    · rw [put_ne _ e1] at hh; exact .refl hh
  | @step u a b c ih =>
    by_cases e1 : u = x
    · subst e1
      rw [put_at] at ih
      exact .step hx (h.self hx hxe) (ih.trans hw)
    · rw [put_ne _ e1] at a b ih
      exact .step a b ih
end

/-- The graph as the iteration sees it. -/
structure Gd (r : Int → Int) (e : Int) (E : Int → Int → Prop) (Dom : Int → Int → Prop) : Prop where
  fwd : ∀ x, 0 ≤ r x → x ≠ e → ∃ u, E u x ∧ 0 ≤ r u ∧ r u < r x
  nn : ∀ x, 0 ≤ r x → 0 ≤ x
  domE : ∀ d p y, Dom d y → d ≠ y → E p y → 0 ≤ r p → Dom d p
  domRoot : ∀ d, Dom d e → d = e
/-- w is the deepest common ancestor of x's predecessors that are set. -/
structure Nca (r : Int → Int) (E : Int → Int → Prop) (T : Int → Int) (x w : Int) : Prop where
  pr : 0 ≤ T w
  all : ∀ p, E p x → 0 ≤ r p → 0 ≤ T p → Anc T w p
  max : ∀ v, (∀ p, E p x → 0 ≤ r p → 0 ≤ T p → Anc T v p) → Anc T v w
def domOk (e : Int) (Dom : Int → Int → Prop) (T : Int → Int) : Prop := ∀ y d, y ≠ e → 0 ≤ T y → Dom d y → d ≠ y → Dom d (T y)
theorem chainD {r : Int → Int} {e : Int} {E : Int → Int → Prop} {Dom : Int → Int → Prop} {T : Int → Int} (g : Gd r e E Dom) (h : WF r e T) (hD : domOk e Dom T) {d : Int} :
    ∀ (n : Nat) (p : Int), (r p).toNat ≤ n → 0 ≤ T p → Dom d p → Anc T d p ∧ ∀ q, Anc T q p → r d ≤ r q → Dom d q := by
  intro n
  induction n with
  | zero =>
    intro p hp h0 hd
    have h1 := (h.nn p h0).2
    have h2 : p = e := h.inj p e h1 (by rw [h.r0]; omega)
    subst h2
    have := g.domRoot d hd
    subst this
    exact ⟨.refl h0, fun q hq _ => by rw [h.anc_e hq]; exact hd⟩
  | succ n ih =>
    intro p hp h0 hd
    by_cases e1 : d = p
    · subst e1
      refine ⟨.refl h0, fun q hq hr => ?_⟩
      have h1 := h.anc_le hq
      rw [h1.2 (by omega)]
      exact hd
    · by_cases e2 : p = e
      · subst e2; exact absurd (g.domRoot d hd) e1
      · obtain ⟨h1, h2⟩ := h.down p h0 e2
        have h3 := (h.nn _ h1).2
        obtain ⟨i1, i2⟩ := ih (T p) (by omega) h1 (hD p d e2 h0 hd e1)
        refine ⟨.step h0 (h.self h0 e2) i1, fun q hq hr => ?_⟩
        by_cases e3 : q = p
        · rw [e3]; exact hd
        · exact i2 q (hq.up e3).2 hr
section
variable {r : Int → Int} {e : Int} {E : Int → Int → Prop} {Dom : Int → Int → Prop} (g : Gd r e E Dom)
include g
/-- A forward predecessor that is set, and what follows for the deepest common ancestor. -/
theorem nca_fwd {T : Int → Int} (h : WF r e T) {x w : Int} (hx : 0 ≤ r x) (hxe : x ≠ e) (hall : ∀ u, 0 ≤ r u → r u < r x → 0 ≤ T u) (hw : Nca r E T x w) : ∃ u, E u x ∧ 0 ≤ r u ∧ r u < r x ∧ Anc T w u ∧ r w < r x := by
  obtain ⟨u, h1, h2, h3⟩ := g.fwd x hx hxe
  have h4 := hw.all u h1 h2 (hall u h2 h3)
  have := (h.anc_le h4).1
  exact ⟨u, h1, h2, h3, h4, by omega⟩
theorem dom_step {T : Int → Int} (h : WF r e T) (hD : domOk e Dom T) {x w : Int} (hx : 0 ≤ r x) (hxe : x ≠ e) (hall : ∀ u, 0 ≤ r u → r u < r x → 0 ≤ T u) (hw : Nca r E T x w) : domOk e Dom (put T x w) := by
  intro y d hye hy hd hdy
  by_cases e1 : y = x
  · subst e1
    rw [put_at]
    obtain ⟨u, h1, h2, h3, h4, h5⟩ := nca_fwd g h hx hxe hall hw
    have hc : Anc T d w := hw.max d fun p a b c => (chainD g h hD _ p (Nat.le_refl _) c (g.domE d p y hd hdy a b)).1
    exact (chainD g h hD _ u (Nat.le_refl _) (hall u h2 h3) (g.domE d u y hd hdy h1 h2)).2 w h4 (h.anc_le hc).1
  · rw [put_ne _ e1] at hy ⊢
    exact hD y d hye hy hd hdy

/-- The parents between two passes. -/
structure Full (r : Int → Int) (e : Int) (E : Int → Int → Prop) (Dom : Int → Int → Prop) (T : Int → Int) : Prop where
  wf : WF r e T
  all : ∀ x, 0 ≤ r x → 0 ≤ T x
  B : ∀ x u, x ≠ e → 0 ≤ r x → E u x → 0 ≤ r u → r u < r x → Anc T (T x) u
  C : ∀ x, x ≠ e → 0 ≤ r x → ∀ v, (∀ p, E p x → 0 ≤ r p → 0 ≤ T p → Anc T v p) → r v ≤ r (T x)
  D : domOk e Dom T
/-- The parents M inside a pass, up to rank i. s: the parents with which the pass began; none in the first pass. -/
structure Mid (r : Int → Int) (e : Int) (E : Int → Int → Prop) (Dom : Int → Int → Prop) (s : Option (Int → Int)) (M : Int → Int) (i : Int) : Prop where
  wf : WF r e M
  one : s = none → ∀ x, 0 ≤ r x → (0 ≤ M x ↔ r x < i)
  full : ∀ T, s = some T → Full r e E Dom T ∧ (∀ x, i ≤ r x → M x = T x) ∧ (∀ x, 0 ≤ r x → 0 ≤ M x) ∧ (∀ u v, Anc M v u → Anc T v u) ∧
    ∀ u z v, r u < i → Anc T z u → Anc M v u → r v ≤ r z → Anc M v z
  B : ∀ x u, x ≠ e → 0 ≤ r x → r x < i → E u x → 0 ≤ r u → r u < r x → Anc M (M x) u
  C : ∀ x, x ≠ e → 0 ≤ r x → r x < i → ∀ v, (∀ p, E p x → 0 ≤ r p → 0 ≤ M p → Anc M v p) → r v ≤ r (M x)
  D : domOk e Dom M
theorem Mid.set {s : Option (Int → Int)} {M : Int → Int} {i : Int} (h : Mid r e E Dom s M i) {u : Int} (h0 : 0 ≤ r u) (hi : r u < i) : 0 ≤ M u := by
  cases s with
  | none => exact (h.one rfl u h0).2 hi
  | some T => exact (h.full T rfl).2.2.1 u h0
theorem Full.begin {T : Int → Int} (h : Full r e E Dom T) : Mid r e E Dom (some T) T 1 := by
  have h1 : ∀ x, 0 ≤ r x → r x < 1 → x = e := fun x h0 h1 => h.wf.inj x e h0 (by rw [h.wf.r0]; omega)
  refine ⟨h.wf, (fun h2 => by cases h2), fun T2 e2 => ?_, fun x u a b c => absurd (h1 x b c) a, fun x a b c => absurd (h1 x b c) a, h.D⟩
  injection e2 with e2
  subst e2
  refine ⟨h, fun _ _ => rfl, h.all, fun _ _ h => h, fun u z v hu hz hv hr => ?_⟩
  have hu' : u = e := h1 u (h.wf.nn u hz.right).2 hu
  subst hu'
  rw [h.wf.anc_e hz, h.wf.anc_e hv]
  exact .refl hz.right
theorem Mid.finish {s : Option (Int → Int)} {M : Int → Int} {i : Int} (h : Mid r e E Dom s M i) (hi : ∀ x, r x < i) : Full r e E Dom M :=
  ⟨h.wf, fun x hx => h.set g hx (hi x), fun x u a b => h.B x u a b (hi x), fun x a b => h.C x a b (hi x), h.D⟩
theorem Mid.step {s : Option (Int → Int)} {M : Int → Int} {i : Int} (h : Mid r e E Dom s M i) {x w : Int} (hx : r x = i) (hi : 0 < i) (hw : Nca r E M x w) :
    Mid r e E Dom s (put M x w) (i + 1) ∧ r w < i ∧ (0 ≤ M x → w ≠ M x → r w < r (M x)) := by
  have hxe : x ≠ e := fun e1 => by rw [e1, h.wf.r0] at hx; omega
  have hx0 : 0 ≤ r x := by omega
  have hset : ∀ u, 0 ≤ r u → r u < r x → 0 ≤ M u := fun u a b => h.set g a (by omega)
  obtain ⟨u0, f1, f2, f3, f4, f5⟩ := nca_fwd g h.wf hx0 hxe hset hw
  have hwf := h.wf.put hxe (g.nn x hx0) hx0 hw.pr f5
  have hD := dom_step g h.wf h.D hx0 hxe hset hw
  have hsame : ∀ u v, r u < i → (Anc (put M x w) v u ↔ Anc M v u) := fun u v hu => h.wf.same (by omega) v
  have hnx : ∀ u, r u < i → u ≠ x := fun u hu e1 => by rw [e1] at hu; omega
  -- x's own new way up
  have hB : ∀ y u, y ≠ e → 0 ≤ r y → r y < i + 1 → E u y → 0 ≤ r u → r u < r y → Anc (put M x w) (put M x w y) u := by
    intro y u a b c d e1 f
    by_cases e2 : y = x
    · subst e2
      rw [put_at, hsame u _ (by omega)]
      exact hw.all u d e1 (hset u e1 f)
    · have hy : r y < i := by
        by_cases e3 : r y = i
        · exact absurd (h.wf.inj y x b (by omega)) e2
        · omega
      rw [put_ne _ e2, hsame u _ (by omega)]
      exact h.B y u a b hy d e1 f
  cases s with
  | none =>
    have hun : ¬ 0 ≤ M x := fun h1 => by have := (h.one rfl x hx0).1 h1; omega
    refine ⟨⟨hwf, fun _ y hy => ?_, (fun T e2 => by cases e2), hB, fun y a b c v hv => ?_, hD⟩, by omega, fun h1 => absurd h1 hun⟩
    · by_cases e2 : y = x
      · subst e2; rw [put_at]; have := (h.wf.nn w hw.pr).1; omega
      · rw [put_ne _ e2, h.one rfl y hy]
        constructor
        · intro h1; omega
        · intro h1
          by_cases e3 : r y = i
          · exact absurd (h.wf.inj y x hy (by omega)) e2
          · omega
    · -- of all predecessors: the forward ones are enough
      by_cases e2 : y = x
      · subst e2
        rw [put_at]
        refine (h.wf.anc_le (hw.max v fun p a1 b1 c1 => ?_)).1
        have hp : r p < i := (h.one rfl p b1).1 c1
        exact (hsame p v hp).1 (hv p a1 b1 (by rw [put_ne _ (hnx p hp)]; exact c1))
      · have hy : r y < i := by
          by_cases e3 : r y = i
          · exact absurd (h.wf.inj y x b (by omega)) e2
          · omega
        rw [put_ne _ e2]
        refine h.C y a b hy v fun p a1 b1 c1 => ?_
        have hp : r p < i := (h.one rfl p b1).1 c1
        exact (hsame p v hp).1 (hv p a1 b1 (by rw [put_ne _ (hnx p hp)]; exact c1))
  | some T =>
    obtain ⟨hF, hun, hall, hS, hJ⟩ := h.full T rfl
    have hMx : M x = T x := hun x (by omega)
    have hpx := hall x hx0
    -- w lies on the way up from x's parent
    have hrw : r w ≤ r (T x) := by
      refine hF.C x hxe hx0 w fun p a b c => hS p w (hw.all p a b (hall p b))
    have hanc : Anc M w (M x) := by
      rw [hMx]
      exact hJ u0 (T x) w (by omega) (hF.B x u0 hxe hx0 f1 f2 f3) f4 hrw
    have hsh : ∀ u v, Anc (put M x w) v u → Anc M v u := fun u v ha => h.wf.shrink hxe hpx hanc ha
    refine ⟨⟨hwf, (fun e2 => by cases e2), fun T2 e2 => ?_, hB, fun y a b c v hv => ?_, hD⟩, by omega, fun _ hne => ?_⟩
    · injection e2 with e2
      subst e2
      refine ⟨hF, fun y hy => ?_, fun y hy => ?_, fun u v ha => hS u v (hsh u v ha), fun u z v hu hz hv hr => ?_⟩
      · rw [put_ne _ (fun e2 => by rw [e2] at hy; omega)]; exact hun y (by omega)
      · by_cases e2 : y = x
        · subst e2; rw [put_at]; exact (h.wf.nn w hw.pr).1
        · rw [put_ne _ e2]; exact hall y hy
      · by_cases e2 : u = x
        · subst e2
          by_cases e3 : z = u
          · subst e3; exact hv
          · have hz2 := (hz.up e3).2
            have hzr := (hF.wf.anc_le hz2).1
            have hdn := (hF.wf.down u hz.right hxe).2
            have hvu : v ≠ u := fun e4 => by rw [e4] at hr; omega
            have hv2 := (hv.up hvu).2
            rw [put_at] at hv2
            have hv3 := (hsame w v (by omega)).1 hv2
            rw [hMx] at hanc
            have := hJ (T u) z v (by omega) hz2 (hv3.trans hanc) hr
            exact (hsame z v (by omega)).2 this
        · have hu2 : r u < i := by
            by_cases e3 : r u = i
            · exact absurd (h.wf.inj u x (hwf.nn u hv.right).2 (by omega)) e2
            · omega
          have h1 := hJ u z v hu2 hz ((hsame u v hu2).1 hv) hr
          have hz3 := (hF.wf.anc_le hz).1
          exact (hsame z v (by omega)).2 h1
    · by_cases e2 : y = x
      · subst e2
        rw [put_at]
        refine (h.wf.anc_le (hw.max v fun p a1 b1 c1 => hsh p v (hv p a1 b1 ?_))).1
        by_cases e3 : p = y
        · subst e3; rw [put_at]; exact (h.wf.nn w hw.pr).1
        · rw [put_ne _ e3]; exact c1
      · have hy : r y < i := by
          by_cases e3 : r y = i
          · exact absurd (h.wf.inj y x b (by omega)) e2
          · omega
        rw [put_ne _ e2]
        refine h.C y a b hy v fun p a1 b1 c1 => hsh p v (hv p a1 b1 ?_)
        by_cases e3 : p = x
        · subst e3; rw [put_at]; exact (h.wf.nn w hw.pr).1
        · rw [put_ne _ e3]; exact c1
    · have h1 := h.wf.anc_le hanc
      by_cases e3 : r w = r (M x)
      · exact absurd (h1.2 e3) hne
      · omega
/-- Parents that no pass changes: what is found on the way up is met on every way from the root. -/
theorem Full.dom {T : Int → Int} (h : Full r e E Dom T) {v x : Int} (hx : 0 ≤ r x) (hd : Dom v x) : Anc T v x := (chainD g h.wf h.D _ x (Nat.le_refl _) (h.all x hx) hd).1
theorem Full.not_dom {T : Int → Int} (h : Full r e E Dom T) (hfix : ∀ x, x ≠ e → 0 ≤ r x → Nca r E T x (T x)) {v p x : Int} (hp : 0 ≤ r p) (hx : 0 ≤ r x) (hE : E p x) (hv : v ≠ x) (ha : Anc T v x) : Anc T v p := by
  have hxe : x ≠ e := fun e1 => by subst e1; exact hv (h.wf.anc_e ha)
  exact ((ha.up hv).2).trans ((hfix x hxe hx).all p hE hp (h.all p hp))
end
end Go.Proofs.Ytbphjbfnnhfhlaa.Dm
end

section
/- The walks of domtree's solver: fill, common, best. -/
set_option linter.unusedVariables false
set_option linter.unusedSimpArgs false
namespace Go.Proofs.Ytbphjbfnnhfhlaa
open Go.RowKit Go.Proofs.YtbphjbfnnhfhlaaW.PrintWords Go.Proofs.Ytbphjbfnnhfhlaa.PDigraphTells Mem

theorem dr_cell {w wi : World} (h : Drawn0 w wi) (a : Addr) : wi.cell? a = w.cell? a := by obtain ⟨n, rfl⟩ := h.out; rfl
/-- The solver as its methods read it: ranks R and parents T. -/
structure Sr (w : World) (p gr gt n cr ct : Nat) (RL TL : List Int) : Prop where
  c1 : w.cell? ⟨p, 1, none⟩ = some (.slice (some ⟨gr, 0, none⟩) n cr)
  c2 : w.cell? ⟨p, 2, none⟩ = some (.slice (some ⟨gt, 0, none⟩) n ct)
  r : ∀ x : Int, 0 ≤ x → x < n → w.cell? ⟨gr, x.toNat, none⟩ = some (.int .i64 (rd RL x))
  t : ∀ x : Int, 0 ≤ x → x < n → w.cell? ⟨gt, x.toNat, none⟩ = some (.int .i64 (rd TL x))
  rl : RL.length = n
  tl : TL.length = n
theorem Sr.drawn {w wi : World} {p gr gt n cr ct : Nat} {RL TL : List Int} (h : Sr w p gr gt n cr ct RL TL) (hD : Drawn0 w wi) : Sr wi p gr gt n cr ct RL TL :=
  ⟨by rw [dr_cell hD]; exact h.c1, by rw [dr_cell hD]; exact h.c2, fun x a b => by rw [dr_cell hD]; exact h.r x a b, fun x a b => by rw [dr_cell hD]; exact h.t x a b, h.rl, h.tl⟩
/-- a is set, a node, of rank k. -/
structure At (n : Nat) (r T : Int → Int) (RL TL : List Int) (a k : Int) : Prop where
  lo : 0 ≤ a
  hi : a < n
  t0 : 0 ≤ T a
  rk : rd RL a = k
  rk2 : r a = k
  tt : rd TL a = T a
  k0 : 0 ≤ k
/-- What the walk needs of ranks and parents. -/
structure Wf (n : Nat) (r T : Int → Int) (e : Int) (RL TL : List Int) : Prop where
  wf : Dm.WF r e T
  rk : ∀ x : Int, 0 ≤ x → x < n → rd RL x = r x
  tt : ∀ x : Int, 0 ≤ x → x < n → rd TL x = T x
  nd : ∀ x : Int, 0 ≤ r x → x < n
theorem Wf.at {n : Nat} {r T : Int → Int} {e : Int} {RL TL : List Int} (h : Wf n r T e RL TL) {a : Int} (ha : 0 ≤ T a) : At n r T RL TL a (r a) := by
  obtain ⟨h1, h2⟩ := h.wf.nn a ha
  have h3 := h.nd a h2
  exact ⟨h1, h3, ha, h.rk a h1 h3, rfl, h.tt a h1 h3, h2⟩
/-- On the way to the common ancestor. -/
structure Com (r T : Int → Int) (a b x y : Int) : Prop where
  x0 : 0 ≤ T x
  y0 : 0 ≤ T y
  ax : Dm.Anc T x a
  ay : Dm.Anc T y b
  all : ∀ v, Dm.Anc T v a → Dm.Anc T v b → Dm.Anc T v x ∧ Dm.Anc T v y
theorem Com.left {n : Nat} {r T : Int → Int} {e : Int} {RL TL : List Int} (h : Wf n r T e RL TL) {a b x y : Int} (c : Com r T a b x y) (hlt : r y < r x) : Com r T a b (T x) y ∧ r (T x) < r x := by
  have hy := (h.wf.nn y c.y0).2
  have hxe : x ≠ e := fun e1 => by have := h.wf.r0; rw [e1] at hlt; omega
  obtain ⟨h1, h2⟩ := h.wf.down x c.x0 hxe
  refine ⟨⟨h1, c.y0, (h.wf.parent c.x0 hxe).trans c.ax, c.ay, fun v ha hb => ?_⟩, h2⟩
  obtain ⟨i1, i2⟩ := c.all v ha hb
  have h3 := (h.wf.anc_le i2).1
  exact ⟨(i1.up (fun e1 => by rw [e1] at h3; omega)).2, i2⟩
theorem Com.right {n : Nat} {r T : Int → Int} {e : Int} {RL TL : List Int} (h : Wf n r T e RL TL) {a b x y : Int} (c : Com r T a b x y) (hlt : r x < r y) : Com r T a b x (T y) ∧ r (T y) < r y := by
  have hx := (h.wf.nn x c.x0).2
  have hye : y ≠ e := fun e1 => by have := h.wf.r0; rw [e1] at hlt; omega
  obtain ⟨h1, h2⟩ := h.wf.down y c.y0 hye
  refine ⟨⟨c.x0, h1, c.ax, (h.wf.parent c.y0 hye).trans c.ay, fun v ha hb => ?_⟩, h2⟩
  obtain ⟨i1, i2⟩ := c.all v ha hb
  have h3 := (h.wf.anc_le i1).1
  exact ⟨i1, (i2.up (fun e1 => by rw [e1] at h3; omega)).2⟩
theorem or_down {r : Int → Int} {x x2 x3 : Int} (h : x2 = x ∨ r x2 < r x) (h2 : r x3 < r x2) : x3 = x ∨ r x3 < r x := by
  rcases h with e4 | e4
  · subst e4; exact .inr h2
  · exact .inr (by omega)
theorem Com.pos {n : Nat} {r T : Int → Int} {e : Int} {RL TL : List Int} (h : Wf n r T e RL TL) {a b x y : Int} (c : Com r T a b x y) (hn : x ≠ y) {q : Nat} (hq : (r x).toNat + (r y).toNat ≤ q) : 1 ≤ q := by
  have hxn := h.wf.nn x c.x0
  have hyn := h.wf.nn y c.y0
  have hin := h.wf.inj x y hxn.2
  have h1 : r x ≠ r y := fun e1 => hn (hin e1)
  omega
theorem Com.less {n : Nat} {r T : Int → Int} {e : Int} {RL TL : List Int} (h : Wf n r T e RL TL) {a b x y x2 y2 : Int} (c : Com r T a b x y) (hn : x ≠ y) (c2 : Com r T a b x2 y2) (i1 : x2 = x ∨ r x2 < r x) (i2 : r x2 ≤ r y) (i3 : y2 = y ∨ r y2 < r y) (i4 : r y2 ≤ r x2) {q : Nat} (hq : (r x).toNat + (r y).toNat ≤ q + 1) : (r x2).toNat + (r y2).toNat ≤ q := by
  have hxn := h.wf.nn x c.x0
  have hyn := h.wf.nn y c.y0
  have hxn2 := h.wf.nn x2 c2.x0
  have hyn2 := h.wf.nn y2 c2.y0
  have hin := h.wf.inj x y hxn.2
  have h1 : r x ≠ r y := fun e1 => hn (hin e1)
  rcases i1 with i1 | i1 <;> rcases i3 with i3 | i3
  · subst i1; subst i3; omega
  · subst i1; omega
  · subst i3; omega
  · omega
/-- The deepest common ancestor of a and b. -/
structure Nc (T : Int → Int) (a b m : Int) : Prop where
  pr : 0 ≤ T m
  l : Dm.Anc T m a
  r : Dm.Anc T m b
  max : ∀ v, Dm.Anc T v a → Dm.Anc T v b → Dm.Anc T v m

set_option maxRecDepth 100000 in
set_option maxHeartbeats 2000000 in
theorem common_any {n : Nat} {r T : Int → Int} {e : Int} {RL TL : List Int} (h : Wf n r T e RL TL) (a b : Int) (p gr gt cr ct : Nat) (w : World) (hS : Sr w p gr gt n cr ct RL TL) (ha : 0 ≤ T a) (hb : 0 ≤ T b) :
    Calls Try.prog 47 #[.pointer (some ⟨p, 0, none⟩), .int .i64 a, .int .i64 b] w fun e' w' => ∃ m, e' = .returned (.int .i64 m) ∧ Nc T a b m ∧ Drawn0 w w' := by
  have hX := Aside0.mk (And.intro h hS)
  have hst : Aside0 (Com r T a b a b) := ⟨⟨ha, hb, .refl ha, .refl hb, fun v h1 h2 => ⟨h1, h2⟩⟩⟩
  clear h hS ha hb
  go_enter Try.func47, Try.ntmps47
  go_wp2_with fail
  go_loopg [1, 2] ((r a).toNat + (r b).toNat) (fun q va vb wi => ∃ x y : Int, va = .int .i64 x ∧ vb = .int .i64 y ∧ Aside0 (Com r T a b x y ∧ Drawn0 w wi ∧ (r x).toNat + (r y).toNat ≤ q))
  case atStart => exact ⟨a, b, rfl, rfl, hst.out, Drawn0.refl _, Nat.le_refl _⟩
  case round =>
    obtain ⟨x, y, rfl, rfl, hJ⟩ := hrel
    clear hst
    by_cases hxy : x = y
    · subst hxy
      have hN : Aside0 (Nc T a b x ∧ Drawn0 w wr) := ⟨⟨hJ.out.1.x0, hJ.out.1.ax, hJ.out.1.ay, fun v h1 h2 => (hJ.out.1.all v h1 h2).1⟩, hJ.out.2.1⟩
      clear hJ
      go_wp2
      go_ret
      exact ⟨x, rfl, hN.out⟩
    · have e1 : (x != y) = true := by simpa using hxy
      have e2 : (x == y) = false := by simpa using hxy
      have hne := Aside0.mk hxy
      have hpos := Com.pos hX.out.1 hJ.out.1 hxy hJ.out.2.2
      obtain ⟨gk1, rfl⟩ : ∃ q, gk = q + 1 := ⟨gk - 1, by omega⟩
      have hgk1 : gk1 < gk1 + 1 := by omega
      clear hxy hpos
      go_wp2_with fail
      clear e1 e2
      have hI0 : Aside0 (Com r T a b x y ∧ Drawn0 w wr ∧ (x = x ∨ r x < r x)) := ⟨hJ.out.1, hJ.out.2.1, .inl rfl⟩
      go_loopg [1] (r x).toNat (fun q va wi => ∃ x2 : Int, va = .int .i64 x2 ∧ Aside0 (Com r T a b x2 y ∧ Drawn0 w wi ∧ (x2 = x ∨ r x2 < r x) ∧ (r x2).toNat ≤ q))
      case atStart => exact ⟨x, rfl, hI0.out.1, hI0.out.2.1, .inl rfl, Nat.le_refl _⟩
      case round =>
        obtain ⟨x2, rfl, hK⟩ := hrel
        clear hI0
        obtain ⟨p1, p2, p3, p4, p5, p6, p7⟩ := hX.out.1.at hK.out.1.x0
        obtain ⟨q1, q2, q3, q4, q5, q6, q7⟩ := hX.out.1.at hK.out.1.y0
        have hs := hX.out.2.drawn hK.out.2.1
        have d1 := hs.c1
        have d2 := hs.r x2 p1 p2
        have d3 := hs.r y q1 q2
        rw [p4] at d2
        rw [q4] at d3
        by_cases hlt : r y < r x2
        · obtain ⟨hc, hr⟩ := hK.out.1.left hX.out.1 hlt
          obtain ⟨gk2, rfl⟩ : ∃ q, gk = q + 1 := ⟨gk - 1, by have := hK.out.2.2.2; omega⟩
          have hgk2 : gk2 < gk2 + 1 := by omega
          have d4 := hs.c2
          have d5 := hs.t x2 p1 p2
          rw [p6] at d5
          have e3 : decide (r y < r x2) = true := decide_eq_true hlt
          have hm : (r (T x2)).toNat ≤ gk2 := by have := hK.out.2.2.2; omega
          have hor : T x2 = x ∨ r (T x2) < r x := or_down hK.out.2.2.1 hr
          obtain ⟨x3, hx3⟩ : ∃ x3, T x2 = x3 := ⟨_, rfl⟩
          obtain ⟨ry, hry⟩ : ∃ ry, r y = ry := ⟨_, rfl⟩
          obtain ⟨rx, hrx⟩ : ∃ rx, r x2 = rx := ⟨_, rfl⟩
          rw [hx3] at d5 hc hm hor
          rw [hry] at d3 e3
          rw [hrx] at d2 e3
          have hI := Aside0.mk (And.intro hc (And.intro hK.out.2.1 (And.intro hor hm)))
          clear hc hr hm hor hs p3 p4 p5 p6 p7 q3 q4 q5 q6 q7 hlt hx3 hry hrx hK
          go_wp2_with fail
          go_quiet (fail)
          go_wp2_with fail
          go_roundg gk2
          case rel => exact ⟨x3, rfl, hI.out.1, hI.out.2.1.step nq, hI.out.2.2⟩
          case measure => exact hgk2
        · have e3 : decide (r y < r x2) = false := decide_eq_false hlt
          have hle : Aside0 (r x2 ≤ r y) := ⟨by omega⟩
          obtain ⟨ry, hry⟩ : ∃ ry, r y = ry := ⟨_, rfl⟩
          obtain ⟨rx, hrx⟩ : ∃ rx, r x2 = rx := ⟨_, rfl⟩
          rw [hry] at d3 e3
          rw [hrx] at d2 e3
          clear hs p3 p4 p5 p6 p7 q3 q4 q5 q6 q7 hlt hry hrx
          go_wp2_with fail
          go_quiet (fail)
          go_wp2_with fail
          clear d1 d2 d3 e3 p1 p2 q1 q2
          have hI1 : Aside0 (Com r T a b x2 y ∧ Drawn0 w (wr.drewN nq) ∧ (x2 = x ∨ r x2 < r x) ∧ r x2 ≤ r y) := ⟨hK.out.1, hK.out.2.1.step nq, hK.out.2.2.1, hle.out⟩
          clear hK hle
          go_loopg [2] (r y).toNat (fun q vb wi => ∃ y2 : Int, vb = .int .i64 y2 ∧ Aside0 (Com r T a b x2 y2 ∧ Drawn0 w wi ∧ (y2 = y ∨ r y2 < r y) ∧ (r y2).toNat ≤ q))
          case atStart => exact ⟨y, rfl, hI1.out.1, hI1.out.2.1, .inl rfl, Nat.le_refl _⟩
          case round =>
            obtain ⟨y2, rfl, hK⟩ := hrel
            obtain ⟨p1, p2, p3, p4, p5, p6, p7⟩ := hX.out.1.at hK.out.1.x0
            obtain ⟨q1, q2, q3, q4, q5, q6, q7⟩ := hX.out.1.at hK.out.1.y0
            have hs := hX.out.2.drawn hK.out.2.1
            have d1 := hs.c1
            have d2 := hs.r x2 p1 p2
            have d3 := hs.r y2 q1 q2
            rw [p4] at d2
            rw [q4] at d3
            by_cases hlt : r x2 < r y2
            · obtain ⟨hc, hr⟩ := hK.out.1.right hX.out.1 hlt
              obtain ⟨gk2, rfl⟩ : ∃ q, gk = q + 1 := ⟨gk - 1, by have := hK.out.2.2.2; omega⟩
              have hgk2 : gk2 < gk2 + 1 := by omega
              have d4 := hs.c2
              have d5 := hs.t y2 q1 q2
              rw [q6] at d5
              have e3 : decide (r x2 < r y2) = true := decide_eq_true hlt
              have hm : (r (T y2)).toNat ≤ gk2 := by have := hK.out.2.2.2; omega
              have hor : T y2 = y ∨ r (T y2) < r y := or_down hK.out.2.2.1 hr
              obtain ⟨y3, hy3⟩ : ∃ y3, T y2 = y3 := ⟨_, rfl⟩
              obtain ⟨ry, hry⟩ : ∃ ry, r y2 = ry := ⟨_, rfl⟩
              obtain ⟨rx, hrx⟩ : ∃ rx, r x2 = rx := ⟨_, rfl⟩
              rw [hy3] at d5 hc hm hor
              rw [hry] at d3 e3
              rw [hrx] at d2 e3
              have hI := Aside0.mk (And.intro hc (And.intro hK.out.2.1 (And.intro hor hm)))
              clear hc hr hm hor hs p3 p4 p5 p6 p7 q3 q4 q5 q6 q7 hlt hy3 hry hrx hK
              go_wp2_with fail
              go_quiet (fail)
              go_wp2_with fail
              go_roundg gk2
              case rel => exact ⟨y3, rfl, hI.out.1, hI.out.2.1.step nq, hI.out.2.2⟩
              case measure => exact hgk2
            · have e3 : decide (r x2 < r y2) = false := decide_eq_false hlt
              have hsum := Com.less hX.out.1 hJ.out.1 hne.out hK.out.1 hI1.out.2.2.1 hI1.out.2.2.2 hK.out.2.2.1 (by omega) hJ.out.2.2
              have hI := Aside0.mk (And.intro hK.out.1 (And.intro hK.out.2.1 hsum))
              obtain ⟨ry, hry⟩ : ∃ ry, r y2 = ry := ⟨_, rfl⟩
              obtain ⟨rx, hrx⟩ : ∃ rx, r x2 = rx := ⟨_, rfl⟩
              rw [hry] at d3 e3
              rw [hrx] at d2 e3
              clear hs p3 p4 p5 p6 p7 q3 q4 q5 q6 q7 hlt hsum hry hrx hK
              go_wp2_with fail
              go_quiet (fail)
              go_wp2_with fail
              go_roundg gk1
              case rel => exact ⟨x2, y2, rfl, rfl, hI.out.1, hI.out.2.1.step nq, hI.out.2.2⟩
              case measure => exact hgk1
def fillX (n : Nat) (x : Int) (i : Nat) : List Int := List.replicate i x ++ List.replicate (n - i) 0
theorem fillX_len {n : Nat} {x : Int} {i : Nat} (h : i ≤ n) : (fillX n x i).length = n := by simp [fillX]; omega
theorem fillX_set (n : Nat) (x : Int) (i : Nat) (h : i < n) : (fillX n x i).set ((i : Int)).toNat x = fillX n x (i + 1) := by
  unfold fillX
  rw [Int.toNat_natCast, List.set_append_right _ _ (by simp), List.length_replicate, Nat.sub_self, show n - i = (n - (i + 1)) + 1 by omega, List.replicate_succ, List.set_cons_zero, List.replicate_succ', List.append_assoc]
  rfl
set_option maxRecDepth 100000 in
set_option maxHeartbeats 2000000 in
theorem fill_any (n : Nat) (x : Int) (w : World) (hn : n ≤ 70000) :
    Calls Try.prog 33 #[.int .i64 (n : Int), .int .i64 x] w fun e w' => ∃ v, e = .returned v ∧ Kd.R (Kd.int .i64) 3 w' 0 (fun k => w.heap.size ≤ k) v (List.replicate n x) ∧ Below w.heap.size w w' := by
  go_enter Try.func33, Try.ntmps33
  go_wp2_with (at_make; refine Kd.R_make (Kd.int .i64) (w0 := w) 0 3 (by rfl) (N := 8) (by rfl) 28 (.tmp 7) (.tmp 7) (by rfl) (n : Int) (by rfl) (by rfl) Try.underlying28 (.int .i64 0) 8 info3 rfl (by decide) (by decide) 0 (ok := fun k => w.heap.size ≤ k) (okp := fun _ => False) rfl (fun _ h => h.elim) (Nat.le_refl _) (by omega) (by omega) ((Kp.refl (fun _ => False) w).belowB (fun _ h => h.elim) (Nat.zero_le _)) (Nat.zero_le _) ?_; intro v7 w7 hRA hBA hgA hatA; rw [Int.toNat_natCast] at hRA; have hb7 : Below w.heap.size w w7 := ((Kp.refl (fun _ => False) w).grown hgA (fun k hk => by cases hk)).none_below; obtain ⟨A, cap, ev, hx, Cx⟩ := Kd.R_reads hRA; rw [List.length_replicate] at ev; subst ev; clear hx Cx; have hI0 : Aside0 (Kd.R (Kd.int .i64) 3 w7 0 (fun k => w.heap.size ≤ k) (.slice A n cap) (List.replicate n 0) ∧ Below w.heap.size w w7) := ⟨hRA, hb7⟩; clear hRA hBA hgA hatA hb7)
  go_wp2_with fail
  go_loopg [11] n (fun q v wi => ∃ i : Nat, i + q = n ∧ v = .int .i64 (i : Int) ∧ Aside0 (Kd.R (Kd.int .i64) 3 wi 0 (fun k => w.heap.size ≤ k) (.slice A n cap) (fillX n x i) ∧ Below w.heap.size w wi))
  case atStart => exact ⟨0, by omega, rfl, ⟨by simpa [fillX] using hI0.out⟩⟩
  case round =>
    obtain ⟨i, hi, rfl, hJ⟩ := hrel
    clear hI0
    by_cases hlt : i < n
    · have hlti : (i : Int) < n := by omega
      obtain ⟨gk1, rfl⟩ : ∃ q, gk = q + 1 := ⟨gk - 1, by omega⟩
      have hi1 : i + 1 + gk1 = n := by omega
      have hgk1 : gk1 < gk1 + 1 := by omega
      obtain ⟨g, cap', ev, _⟩ := Kd.R_form hJ.out.1 (by rw [fillX_len (by omega)]; omega)
      injection ev with e1 e2 e3
      subst e1
      clear e2 e3
      obtain ⟨s0, f0⟩ := Kd.R_celln 0 hJ.out.1 (i : Int) (by omega) hlti
      have hk : Kp (fun k => w.heap.size ≤ k) wr (wr.setCell ⟨g, ((i : Int)).toNat, none⟩ (.int .i64 x)) := (Kp.refl _ wr).setCell (p := ⟨g, ((i : Int)).toNat, none⟩) (.inl (hJ.out.1.1 g rfl)) _
      have hput := And.intro (Kd.R_putg hJ.out.1 (i : Int) x).1 (hJ.out.2.trans (hk.belowB (B := w.heap.size) (fun k hk => hk) hJ.out.2.size))
      rw [fillX_set n x i hlt] at hput
      rw [Int.toNat_natCast] at s0 f0 hput
      have hI := Aside0.mk hput
      clear hput hJ hk
      go_wp2
      go_roundg gk1
      case rel => exact ⟨i + 1, hi1, by go_num, hI⟩
      case measure => exact hgk1
    · have hie : i = n := by omega
      subst hie
      have hEnd : Aside0 (Kd.R (Kd.int .i64) 3 wr 0 (fun k => w.heap.size ≤ k) (.slice A i cap) (List.replicate i x) ∧ Below w.heap.size w wr) := ⟨by simpa [fillX] using hJ.out⟩
      clear hJ
      go_wp2
      go_ret
      exact ⟨_, rfl, hEnd.out⟩

/-- The best parent after some predecessors. -/
def Bst (r T : Int → Int) (l : List Int) (d : Int) : Prop :=
  (d = -1 ∧ ∀ p ∈ l, ¬ (0 ≤ r p ∧ 0 ≤ T p)) ∨ (0 ≤ T d ∧ 0 ≤ d ∧ (∀ p ∈ l, 0 ≤ r p → 0 ≤ T p → Dm.Anc T d p) ∧ ∀ v, (∀ p ∈ l, 0 ≤ r p → 0 ≤ T p → Dm.Anc T v p) → Dm.Anc T v d)
theorem Bst.skip {r T : Int → Int} {l : List Int} {d p : Int} (h : Bst r T l d) (hp : ¬ (0 ≤ r p ∧ 0 ≤ T p)) : Bst r T (l ++ [p]) d := by
  rcases h with ⟨h1, h2⟩ | ⟨h1, h0, h2, h3⟩
  · refine .inl ⟨h1, fun q hq => ?_⟩
    rcases List.mem_append.1 hq with hq | hq
    · exact h2 q hq
    · rw [List.mem_singleton.1 hq]; exact hp
  · refine .inr ⟨h1, h0, fun q hq a b => ?_, fun v hv => h3 v fun q hq => hv q (List.mem_append_left _ hq)⟩
    rcases List.mem_append.1 hq with hq | hq
    · exact h2 q hq a b
    · rw [List.mem_singleton.1 hq] at a b; exact absurd ⟨a, b⟩ hp
theorem Bst.first {r T : Int → Int} {l : List Int} {p : Int} (h : Bst r T l (-1)) (h0 : 0 ≤ p) (hp : 0 ≤ T p) (hr : 0 ≤ r p) : Bst r T (l ++ [p]) p := by
  rcases h with ⟨_, h2⟩ | ⟨_, h4, _⟩
  · refine .inr ⟨hp, h0, fun q hq a b => ?_, fun v hv => hv p (by simp) hr hp⟩
    rcases List.mem_append.1 hq with hq | hq
    · exact absurd ⟨a, b⟩ (h2 q hq)
    · rw [List.mem_singleton.1 hq]; exact .refl hp
  · omega
theorem Bst.next {r T : Int → Int} {l : List Int} {d p m : Int} (h : Bst r T l d) (hd : 0 ≤ d) (hm0 : 0 ≤ m) (hp : 0 ≤ T p) (hr : 0 ≤ r p) (hm : Nc T d p m) : Bst r T (l ++ [p]) m := by
  rcases h with ⟨h1, _⟩ | ⟨_, _, h2, h3⟩
  · omega
  · refine .inr ⟨hm.pr, hm0, fun q hq a b => ?_, fun v hv => hm.max v (h3 v fun q hq => hv q (List.mem_append_left _ hq)) (hv p (by simp) hr hp)⟩
    rcases List.mem_append.1 hq with hq | hq
    · exact hm.l.trans (h2 q hq a b)
    · rw [List.mem_singleton.1 hq]; exact hm.r

set_option maxRecDepth 100000 in
set_option maxHeartbeats 2000000 in
theorem best_any {n : Nat} {r T : Int → Int} {e : Int} {RL TL : List Int} (h : Wf n r T e RL TL) (x : Int) (hx0 : 0 ≤ x) (hx1 : x < n) (p gr gt cr ct cp : Nat) (Ap : Option Addr) (PL : List (List Int)) (w : World) (hS : Sr w p gr gt n cr ct RL TL)
    (hP : Kd.C kG w Ap n PL) (hc0 : w.cell? ⟨p, 0, none⟩ = some (.slice Ap n cp)) (hrow : ∀ q ∈ rd_L1 PL x, 0 ≤ q ∧ q < n) (hl : (rd_L1 PL x).length ≤ 70000) :
    Calls Try.prog 34 #[.pointer (some ⟨p, 0, none⟩), .int .i64 x] w fun e' w' => ∃ d, e' = .returned (.int .i64 d) ∧ Bst r T (rd_L1 PL x) d ∧ Drawn0 w w' := by
  obtain ⟨ga, Ar, car, eA, r0, rl, rC⟩ := at_L1 hP x hx0 hx1
  subst eA
  obtain ⟨row, hrw⟩ : ∃ row, rd_L1 PL x = row := ⟨_, rfl⟩
  rw [hrw] at r0 rl rC hrow hl ⊢
  have hX := Aside0.mk (And.intro h (And.intro hS (And.intro hrow rC)))
  clear hrw hP h hS hrow rC rl
  go_enter Try.func34, Try.ntmps34
  go_wp2_with fail
  clear r0 hc0
  go_loopg [5, 16] row.length (fun q vd v wi => ∃ (j : Nat) (d : Int), j + q = row.length ∧ v = .int .i64 (j : Int) ∧ vd = .int .i64 d ∧ Aside0 (Bst r T (row.take j) d ∧ Drawn0 w wi))
  case atStart => exact ⟨0, -1, by omega, rfl, rfl, .inl ⟨rfl, by simp⟩, Drawn0.refl _⟩
  case round =>
    obtain ⟨j, d, hj, rfl, rfl, hJ⟩ := hrel
    by_cases hltj : j < row.length
    · have hltji : (j : Int) < row.length := by omega
      obtain ⟨gk3, rfl⟩ : ∃ q, gk = q + 1 := ⟨gk - 1, by omega⟩
      have hj1 : j + 1 + gk3 = row.length := by omega
      have hgk3 : gk3 < gk3 + 1 := by omega
      have hs := hX.out.2.1.drawn hJ.out.2
      obtain ⟨ad, eA, x0⟩ := Kd.at_int hX.out.2.2.2 (j : Int) (by omega) hltji
      rw [← dr_cell hJ.out.2, rd_get row j hltj, Int.toNat_natCast] at x0
      subst eA
      have hsn : row.take (j + 1) = row.take j ++ [row[j]] := List.take_succ_eq_append_getElem hltj
      obtain ⟨k1, k2⟩ := hX.out.2.2.1 row[j] (List.getElem_mem hltj)
      obtain ⟨k, hk⟩ : ∃ k, k = row[j] := ⟨_, rfl⟩
      rw [← hk] at x0 hsn k1 k2
      have d1 := hs.c1
      have d2 := hs.c2
      have d3 := hs.r k k1 k2
      have d4 := hs.t k k1 k2
      rw [hX.out.1.rk k k1 k2] at d3
      rw [hX.out.1.tt k k1 k2] at d4
      have hsn := Aside0.mk hsn
      clear hk hs
      by_cases hr0 : r k < 0
      · have hI : Aside0 (Bst r T (row.take (j + 1)) d ∧ Drawn0 w wr) := ⟨by rw [hsn.out]; exact hJ.out.1.skip (by omega), hJ.out.2⟩
        obtain ⟨rk, hrk⟩ : ∃ rk, r k = rk := ⟨_, rfl⟩
        rw [hrk] at d3 hr0
        clear hJ hsn hrk d2 d4
        go_wp2_with fail
        go_roundg gk3
        case rel => exact ⟨j + 1, d, hj1, by go_num, rfl, hI⟩
        case measure => exact hgk3
      · by_cases ht0 : T k < 0
        · have hI : Aside0 (Bst r T (row.take (j + 1)) d ∧ Drawn0 w wr) := ⟨by rw [hsn.out]; exact hJ.out.1.skip (by omega), hJ.out.2⟩
          obtain ⟨rk, hrk⟩ : ∃ rk, r k = rk := ⟨_, rfl⟩
          obtain ⟨tk, htk⟩ : ∃ tk, T k = tk := ⟨_, rfl⟩
          rw [hrk] at d3 hr0
          rw [htk] at d4 ht0
          clear hJ hsn hrk htk
          go_wp2_with fail
          go_roundg gk3
          case rel => exact ⟨j + 1, d, hj1, by go_num, rfl, hI⟩
          case measure => exact hgk3
        · by_cases hd : d < 0
          · have hI : Aside0 (Bst r T (row.take (j + 1)) k ∧ Drawn0 w wr) := ⟨by
              have hdm : d = -1 := by rcases hJ.out.1 with ⟨h1, _⟩ | ⟨_, h1, _⟩ <;> omega
              rw [hsn.out]; have := hJ.out.1; rw [hdm] at this; exact this.first k1 (by omega) (by omega), hJ.out.2⟩
            obtain ⟨rk, hrk⟩ : ∃ rk, r k = rk := ⟨_, rfl⟩
            obtain ⟨tk, htk⟩ : ∃ tk, T k = tk := ⟨_, rfl⟩
            rw [hrk] at d3 hr0
            rw [htk] at d4 ht0
            clear hJ hsn hrk htk
            go_wp2_with fail
            go_roundg gk3
            case rel => exact ⟨j + 1, k, hj1, by go_num, rfl, hI⟩
            case measure => exact hgk3
          · have hcall := common_any hX.out.1 d k p gr gt cr ct wr (hX.out.2.1.drawn hJ.out.2) (by rcases hJ.out.1 with ⟨h1, _⟩ | ⟨h1, _⟩ <;> omega) (by omega)
            have hT := Aside0.mk (And.intro (show 0 ≤ T k by omega) (show 0 ≤ r k by omega))
            obtain ⟨rk, hrk⟩ : ∃ rk, r k = rk := ⟨_, rfl⟩
            obtain ⟨tk, htk⟩ : ∃ tk, T k = tk := ⟨_, rfl⟩
            rw [hrk] at d3 hr0
            rw [htk] at d4 ht0
            have hcall := Aside0.mk hcall
            have hd1 := Aside0.mk (show 0 ≤ d by omega)
            clear hrk htk
            go_wp2_with fail
            refine hcall.out.mono ?_
            rintro e' w2 ⟨m, rfl, hm, hD⟩
            have hI : Aside0 (Bst r T (row.take (j + 1)) m ∧ Drawn0 w w2) := ⟨by
              rw [hsn.out]; exact hJ.out.1.next hd1.out (hX.out.1.wf.nn m hm.pr).1 hT.out.1 hT.out.2 hm, by obtain ⟨n1, h1⟩ := hJ.out.2.out; obtain ⟨n2, h2⟩ := hD.out; exact ⟨⟨n1 + n2, by rw [h2, h1, World.drewN_drewN]⟩⟩⟩
            clear hJ hsn hm hD hcall d1 d2 d3 d4 x0
            go_wp2_with fail
            go_roundg gk3
            case rel => exact ⟨j + 1, m, hj1, by go_num, rfl, hI⟩
            case measure => exact hgk3
    · have hEnd : Aside0 (Bst r T row d ∧ Drawn0 w wr) := ⟨by have := hJ.out; rw [List.take_of_length_le (by omega)] at this; exact this⟩
      clear hJ
      go_wp2
      go_ret
      exact ⟨d, rfl, hEnd.out⟩
end Go.Proofs.Ytbphjbfnnhfhlaa
end

section
/- Dominators of a graph in plain lists: what Build computes. -/
set_option linter.unusedVariables false
set_option linter.unusedSimpArgs false
set_option linter.unusedSectionVars false
namespace Go.Proofs.Ytbphjbfnnhfhlaa
open Go.RowKit Go.Proofs.YtbphjbfnnhfhlaaW.PrintWords Go.Proofs.Ytbphjbfnnhfhlaa.PDigraphTells Mem

/-- x can be reached from e on a way that does not meet a. -/
inductive RA (ad : Int → List Int) (e a : Int) : Int → Prop
  | base (h : e ≠ a) : RA ad e a e
  | step {p x : Int} (h : RA ad e a p) (hx : x ∈ ad p) (hn : x ≠ a) : RA ad e a x
theorem RA.reach {ad : Int → List Int} {e a x : Int} (h : RA ad e a x) : Grf.Reach ad e x := by
  induction h with
  | base => exact .refl _
  | step _ hx _ ih => exact .tail ih hx
theorem RA.ne {ad : Int → List Int} {e a x : Int} (h : RA ad e a x) : x ≠ a := by
  cases h with
  | base h => exact h
  | step _ _ h => exact h
/-- d dominates x. -/
def domG (G : List (List Int)) (e d x : Int) : Prop := Grf.Reach (adj G) e x ∧ ¬ RA (adj G) e d x
/-- The list of the immediate dominators. -/
structure Idm (G : List (List Int)) (e : Int) (l : List Int) : Prop where
  len : l.length = G.length
  out : ∀ x, isNode G x → ¬ Grf.Reach (adj G) e x → rd l x = -1
  root : rd l e = e
  up : ∀ x, Grf.Reach (adj G) e x → x ≠ e → domG G e (rd l x) x ∧ rd l x ≠ x ∧ ∀ v, domG G e v x → v ≠ x → domG G e v (rd l x)
def edgeG (G : List (List Int)) (p x : Int) : Prop := isNode G p ∧ x ∈ adj G p
section
variable {G : List (List Int)} {e : Int} (h : chk G = 0 ∧ isNode G e)
include h
theorem rk_reach {x : Int} : 0 ≤ pos (post G e).reverse x ↔ Grf.Reach (adj G) e x := by rw [pos_nonneg, rpo_mem h]
theorem gd_of : Dm.Gd (pos (post G e).reverse) e (edgeG G) (domG G e) := by
  refine ⟨fun x hx hxe => ?_, fun x hx => (reach_node h ((rk_reach h).1 hx)).1, fun d p y hd hdy hE hp => ⟨(rk_reach h).1 hp, fun hr => hd.2 (.step hr hE.2 (Ne.symm hdy))⟩, fun d hd => ?_⟩
  · rcases after_final h ((rk_reach h).1 hx) with h1 | h1
    · exact absurd h1 hxe
    · obtain ⟨⟨m, k⟩, hm, hp⟩ := List.any_eq_true.1 h1
      unfold pA at hp
      simp only [Bool.and_eq_true, decide_eq_true_eq, beq_iff_eq] at hp
      obtain ⟨h2, h3, h4⟩ := hp
      subst h2
      exact ⟨m, (mem_pairs G m k).1 hm, h3, h4⟩
  · by_cases h1 : d = e
    · exact h1
    · exact absurd (.base (Ne.symm h1)) hd.2
theorem full_idm {T : List Int} (hl : T.length = G.length) (hF : Dm.Full (pos (post G e).reverse) e (edgeG G) (domG G e) (distOf T))
    (hfix : ∀ x, x ≠ e → 0 ≤ pos (post G e).reverse x → Dm.Nca (pos (post G e).reverse) (edgeG G) (distOf T) x (distOf T x)) (hneg : ∀ x, isNode G x → 0 ≤ distOf T x ∨ distOf T x = -1) : Idm G e T := by
  have g := gd_of h
  have hrd : ∀ x, isNode G x → rd T x = distOf T x := fun x hx => distOf_rd T x hx.1 (by rw [hl]; exact hx.2)
  have hdom : ∀ v x, Grf.Reach (adj G) e x → (Dm.Anc (distOf T) v x ↔ domG G e v x) := by
    intro v x hx
    constructor
    · intro ha
      refine ⟨hx, fun hr => ?_⟩
      have key : ∀ y, RA (adj G) e v y → ¬ Dm.Anc (distOf T) v y := by
        intro y hy
        induction hy with
        | base h1 => intro h2; exact h1 (hF.wf.anc_e h2).symm
        | @step p y h1 h2 h3 ih =>
          intro h4
          have hp := (rk_reach h).2 h1.reach
          exact ih (hF.not_dom g hfix hp ((rk_reach h).2 (h1.reach.tail h2)) ⟨reach_node h h1.reach, h2⟩ (Ne.symm h3) h4)
      exact key x hr ha
    · intro hd
      exact hF.dom g ((rk_reach h).2 hx) hd
  refine ⟨hl, fun x hx hr => ?_, by rw [hrd e h.2]; exact hF.wf.root, fun x hx hxe => ?_⟩
  · rw [hrd x hx]
    rcases hneg x hx with h1 | h1
    · exact absurd ((rk_reach h).1 (hF.wf.nn x h1).2) hr
    · exact h1
  · have hxn := reach_node h hx
    have hx0 := hF.all x ((rk_reach h).2 hx)
    rw [hrd x hxn]
    have hd := hF.wf.down x hx0 hxe
    have hTr : Grf.Reach (adj G) e (distOf T x) := (rk_reach h).1 (hF.wf.nn _ hd.1).2
    refine ⟨(hdom _ x hx).1 (hF.wf.parent hx0 hxe), hF.wf.self hx0 hxe, fun v hv hvx => (hdom v _ hTr).1 ((hdom v x hx).2 hv |>.up hvx).2⟩
theorem idm_uniq {l m : List Int} (hl : Idm G e l) (hm : Idm G e m) : l = m := by
  refine distOf_ext (by rw [hl.len, hm.len]) fun x h0 h1 => ?_
  rw [hl.len] at h1
  rw [← distOf_rd l x h0 (by rw [hl.len]; exact h1), ← distOf_rd m x h0 (by rw [hm.len]; exact h1)]
  by_cases hr : Grf.Reach (adj G) e x
  · by_cases hxe : x = e
    · subst hxe; rw [hl.root, hm.root]
    · obtain ⟨a1, a2, a3⟩ := hl.up x hr hxe
      obtain ⟨b1, b2, b3⟩ := hm.up x hr hxe
      have h2 := a3 _ b1 b2
      have h3 := b3 _ a1 a2
      -- two nodes that dominate each other are one
      have key : ∀ u v, domG G e u v → domG G e v u → u = v := by
        intro u v huv hvu
        by_cases h9 : u = v
        · exact h9
        · exfalso
          -- the first of the two on a way from e
          have hw : ∀ y, Grf.Reach (adj G) e y → RA (adj G) e u y ∨ RA (adj G) e v y ∨ y = y ∧ (∃ z, (z = u ∨ z = v) ∧ RA (adj G) e (if z = u then v else u) z) := by
            intro y hy
            induction hy with
            | refl =>
              by_cases e1 : e = u
              · subst e1
                exact .inr (.inl (.base h9))
              · exact .inl (.base e1)
            | @tail b y hb hy ih =>
              rcases ih with ih | ih | ih
              · by_cases e1 : y = u
                · -- b avoids u; does the way to b avoid v? it is decided below
                  by_cases e2 : RA (adj G) e v b
                  · exact .inr (.inr ⟨rfl, u, .inl rfl, by rw [if_pos rfl]; exact .step e2 (by rw [← e1]; exact hy) h9⟩)
                  · -- v dominates b, so b's way meets v, and v is met without u
                    have hvb : domG G e v b := ⟨hb, e2⟩
                    have : RA (adj G) e u v := by
                      have hgo : ∀ z, RA (adj G) e u z → ¬ RA (adj G) e v z → RA (adj G) e u v := by
                        intro z hz
                        induction hz with
                        | base h5 => intro h6; by_cases e3 : e = v
                                     · subst e3; exact .base h5
                                     · exact absurd (.base e3) h6
                        | @step p z h5 h6 h7 ih2 =>
                          intro h8
                          by_cases e3 : z = v
                          · subst e3; exact .step h5 h6 h7
                          · by_cases e4 : RA (adj G) e v p
                            · exact absurd (.step e4 h6 e3) h8
                            · exact ih2 e4
                      exact hgo b ih e2
                    exact absurd this huv.2
                · exact .inl (.step ih hy e1)
              · by_cases e1 : y = v
                · by_cases e2 : RA (adj G) e u b
                  · exact .inr (.inr ⟨rfl, v, .inr rfl, by rw [if_neg (Ne.symm h9)]; exact .step e2 (by rw [← e1]; exact hy) (Ne.symm h9)⟩)
                  · have : RA (adj G) e v u := by
                      have hgo : ∀ z, RA (adj G) e v z → ¬ RA (adj G) e u z → RA (adj G) e v u := by
                        intro z hz
                        induction hz with
                        | base h5 => intro h6; by_cases e3 : e = u
                                     · subst e3; exact .base h5
                                     · exact absurd (.base e3) h6
                        | @step p z h5 h6 h7 ih2 =>
                          intro h8
                          by_cases e3 : z = u
                          · subst e3; exact .step h5 h6 h7
                          · by_cases e4 : RA (adj G) e u p
                            · exact absurd (.step e4 h6 e3) h8
                            · exact ih2 e4
                      exact hgo b ih e2
                    exact absurd this hvu.2
                · exact .inr (.inl (.step ih hy e1))
              · exact .inr (.inr ⟨rfl, ih.2⟩)
          have hfin : ∀ z, (z = u ∨ z = v) → RA (adj G) e (if z = u then v else u) z → False := by
            intro z hz hr2
            rcases hz with rfl | rfl
            · rw [if_pos rfl] at hr2; exact hvu.2 hr2
            · rw [if_neg (Ne.symm h9)] at hr2; exact huv.2 hr2
          rcases hw v huv.1 with h5 | h5 | h5
          · exact huv.2 h5
          · exact h5.ne rfl
          · obtain ⟨_, z, hz, hr2⟩ := h5
            exact hfin z hz hr2
      exact key _ _ h3 h2
  · have hxn : isNode G x := ⟨h0, h1⟩
    rw [hl.out x hxn hr, hm.out x hxn hr]
end

/-- How far the parents T are from the root, all ranks added. -/
def mu (n : Nat) (r T : Int → Int) (L : List Int) : Nat := (L.map fun x => if T x < 0 then n else (r (T x)).toNat).sum
theorem sum_le (f g : Int → Nat) : ∀ L : List Int, (∀ x ∈ L, f x ≤ g x) → (L.map f).sum ≤ (L.map g).sum
  | [], _ => Nat.le_refl _
  | a :: L, h => by
    have := sum_le f g L (fun x hx => h x (List.mem_cons_of_mem _ hx))
    have := h a List.mem_cons_self
    simp only [List.map_cons, List.sum_cons]
    omega
theorem sum_lt (f g : Int → Nat) : ∀ L : List Int, (∀ x ∈ L, f x ≤ g x) → (∃ x ∈ L, f x < g x) → (L.map f).sum < (L.map g).sum
  | [], _, h => by obtain ⟨x, hx, _⟩ := h; cases hx
  | a :: L, h, he => by
    have h1 := sum_le f g L (fun x hx => h x (List.mem_cons_of_mem _ hx))
    have h2 := h a List.mem_cons_self
    obtain ⟨x, hx, hlt⟩ := he
    simp only [List.map_cons, List.sum_cons]
    rcases List.mem_cons.1 hx with rfl | hx
    · omega
    · have := sum_lt f g L (fun x hx => h x (List.mem_cons_of_mem _ hx)) ⟨x, hx, hlt⟩
      omega
theorem mu_put {n : Nat} {r T : Int → Int} {L : List Int} {x w : Int} (hx : x ∈ L) (hw : 0 ≤ w) (hr0 : 0 ≤ r w) (hn : r w < n) (h : 0 ≤ T x → r w < r (T x)) : mu n r (Dm.put T x w) L < mu n r T L := by
  unfold mu
  refine sum_lt _ _ L (fun y hy => ?_) ⟨x, hx, ?_⟩
  · by_cases e1 : y = x
    · subst e1
      rw [Dm.put_at, if_neg (by omega)]
      split
      · omega
      · rename_i h1; have := h (by omega); omega
    · rw [Dm.put_ne _ e1]; exact Nat.le_refl _
  · rw [Dm.put_at, if_neg (by omega)]
    split
    · omega
    · rename_i h1; have := h (by omega); omega
end Go.Proofs.Ytbphjbfnnhfhlaa
end

section
/- The reversed graph in plain lists. -/
set_option linter.unusedVariables false
set_option linter.unusedSimpArgs false
namespace Go.Proofs.Ytbphjbfnnhfhlaa
open Go.RowKit Go.Proofs.YtbphjbfnnhfhlaaW.PrintWords Go.Proofs.Ytbphjbfnnhfhlaa.PDigraphTells Mem

theorem pred_len {G : List (List Int)} (h : chk G = 0) : (predL G).length = G.length := by unfold predL; rw [if_pos h, List.length_map, nodes_len]
theorem pred_adj {G : List (List Int)} (h : chk G = 0) {b : Int} (hb : isNode G b) : adj (predL G) b = pvU G G.length b := by
  unfold isNode at hb
  have hl : b.toNat < (predL G).length := by rw [pred_len h]; omega
  have e : b = (b.toNat : Int) := by omega
  rw [e, adj_nat _ _ hl]
  unfold predL nodes
  simp only [if_pos h, List.getElem_map, List.getElem_range]
end Go.Proofs.Ytbphjbfnnhfhlaa
end

section
/- One pass of Build in plain lists. -/
set_option linter.unusedVariables false
set_option linter.unusedSimpArgs false
set_option linter.unusedSectionVars false
namespace Go.Proofs.Ytbphjbfnnhfhlaa
open Go.RowKit Go.Proofs.YtbphjbfnnhfhlaaW.PrintWords Go.Proofs.Ytbphjbfnnhfhlaa.PDigraphTells Mem

theorem distOf_put (TL : List Int) (x d : Int) (h0 : 0 ≤ x) (h1 : x < TL.length) : distOf (TL.set x.toNat d) = Dm.put (distOf TL) x d := by
  rw [distOf_set TL x d h0 h1]; rfl
/-- Inside a pass, up to rank i; ch: something has changed; m0: how far the parents were at the pass's start. -/
structure Ps (G : List (List Int)) (e : Int) (L : List Int) (s : Option (Int → Int)) (TL : List Int) (i : Int) (ch : Bool) (m0 : Nat) : Prop where
  mid : Dm.Mid (pos L) e (edgeG G) (domG G e) s (distOf TL) i
  fix : ch = false → ∀ y, y ≠ e → 0 ≤ pos L y → pos L y < i → Dm.Nca (pos L) (edgeG G) (distOf TL) y (distOf TL y)
  m1 : mu G.length (pos L) (distOf TL) L ≤ m0
  m2 : ch = true → mu G.length (pos L) (distOf TL) L < m0
  neg : ∀ x, isNode G x → 0 ≤ distOf TL x ∨ distOf TL x = -1
  len : TL.length = G.length
/-- At the head of the passes. -/
structure Hd (G : List (List Int)) (e : Int) (L : List Int) (TL : List Int) (ch : Bool) (q : Nat) : Prop where
  go : ch = true → (∃ s, Dm.Mid (pos L) e (edgeG G) (domG G e) s (distOf TL) 1) ∧ mu G.length (pos L) (distOf TL) L + 1 ≤ q
  stop : ch = false → Dm.Full (pos L) e (edgeG G) (domG G e) (distOf TL) ∧ ∀ y, y ≠ e → 0 ≤ pos L y → Dm.Nca (pos L) (edgeG G) (distOf TL) y (distOf TL y)
  neg : ∀ x, isNode G x → 0 ≤ distOf TL x ∨ distOf TL x = -1
  len : TL.length = G.length
section
variable {G : List (List Int)} {e : Int} (h : chk G = 0 ∧ isNode G e) {L : List Int} (hL : L = (post G e).reverse)
include h hL
theorem gdL : Dm.Gd (pos L) e (edgeG G) (domG G e) := by rw [hL]; exact gd_of h
theorem posL_e : pos L e = 0 := by
  obtain ⟨t, ht⟩ := rpo_head h
  rw [hL, ht]
  unfold pos
  rw [if_pos List.mem_cons_self, List.idxOf_cons_self]
  rfl
theorem Ps.wf {s : Option (Int → Int)} {TL RL : List Int} {i : Int} {ch : Bool} {m0 : Nat} (p : Ps G e L s TL i ch m0) (hR : RL = posL G L) : Wf G.length (pos L) (distOf TL) e RL TL := by
  refine ⟨p.mid.wf, fun x a b => by rw [hR]; exact posL_get G L x ⟨a, b⟩, fun x a b => distOf_rd TL x a (by rw [p.len]; exact b), fun x hx => ?_⟩
  rw [hL] at hx
  exact (reach_node h ((rk_reach h).1 hx)).2
theorem pass_start {TL : List Int} {q : Nat} (p : Hd G e L TL true (q + 1)) : ∃ s, Ps G e L s TL 1 false q := by
  obtain ⟨⟨s, hm⟩, hq⟩ := p.go rfl
  refine ⟨s, hm, fun _ y hy a b => ?_, by omega, (fun h => by cases h), p.neg, p.len⟩
  exact absurd (hm.wf.inj y e a (by rw [hm.wf.r0]; omega)) hy
theorem pass_end {s : Option (Int → Int)} {TL : List Int} {ch : Bool} {q : Nat} (p : Ps G e L s TL L.length ch q) : Hd G e L TL ch q := by
  have g := gdL h hL
  have hall : ∀ x, pos L x < L.length := fun x => by
    by_cases hx : x ∈ L
    · exact (pos_in hx).2
    · rw [pos_out hx]; omega
  have hF := p.mid.finish g hall
  exact ⟨fun hc => ⟨⟨_, hF.begin g⟩, p.m2 hc⟩, fun hc => ⟨hF, fun y a b => p.fix hc y a b (hall y)⟩, p.neg, p.len⟩
theorem bst_nca {s : Option (Int → Int)} {TL : List Int} {i : Int} {ch : Bool} {m0 : Nat} (p : Ps G e L s TL i ch m0) {x d : Int} (hx : pos L x = i) (hi : 0 < i) (hb : Bst (pos L) (distOf TL) (rd_L1 (predL G) x) d) :
    Dm.Nca (pos L) (edgeG G) (distOf TL) x d ∧ isNode G d := by
  have g := gdL h hL
  have hxe : x ≠ e := fun e1 => by rw [e1, posL_e h hL] at hx; omega
  obtain ⟨u, f1, f2, f3⟩ := g.fwd x (by omega) hxe
  have hxn : isNode G x := by
    have : 0 ≤ pos L x := by omega
    rw [hL] at this
    exact reach_node h ((rk_reach h).1 this)
  have hmem : ∀ p, p ∈ rd_L1 (predL G) x ↔ edgeG G p x := fun p => by
    have e1 : rd_L1 (predL G) x = pvU G G.length x := pred_adj h.1 hxn
    rw [e1, mem_pvU]
    rfl
  have hu := p.mid.set g f2 (by omega)
  rcases hb with ⟨_, h2⟩ | ⟨h1, h0, h2, h3⟩
  · exact absurd ⟨f2, hu⟩ (h2 u ((hmem u).2 f1))
  · refine ⟨⟨h1, fun q a b c => h2 q ((hmem q).2 a) b c, fun v hv => h3 v fun q hq b c => hv q ((hmem q).1 hq) b c⟩, ?_⟩
    have := (p.mid.wf.nn d h1).2
    rw [hL] at this
    exact reach_node h ((rk_reach h).1 this)
theorem pass_same {s : Option (Int → Int)} {TL : List Int} {i : Int} {ch : Bool} {m0 : Nat} (p : Ps G e L s TL i ch m0) {x d : Int} (hx : pos L x = i) (hi : 0 < i) (hd : Dm.Nca (pos L) (edgeG G) (distOf TL) x d) (he : d = distOf TL x) : Ps G e L s TL (i + 1) ch m0 := by
  have g := gdL h hL
  obtain ⟨h1, _, _⟩ := p.mid.step g hx hi hd
  rw [he, Dm.put_same] at h1
  refine ⟨h1, fun hc y a b c => ?_, p.m1, p.m2, p.neg, p.len⟩
  by_cases e1 : pos L y = i
  · have := h1.wf.inj y x b (by omega)
    subst this
    rw [← he]; exact hd
  · exact p.fix hc y a b (by omega)
theorem pass_new {s : Option (Int → Int)} {TL : List Int} {i : Int} {ch : Bool} {m0 : Nat} (p : Ps G e L s TL i ch m0) {x d : Int} (hx : pos L x = i) (hi : 0 < i) (hd : Dm.Nca (pos L) (edgeG G) (distOf TL) x d) (he : d ≠ distOf TL x) : Ps G e L s (TL.set x.toNat d) (i + 1) true m0 := by
  have g := gdL h hL
  have hxm : x ∈ L := pos_nonneg.1 (by omega)
  have hxn : isNode G x := by
    have : 0 ≤ pos L x := by omega
    rw [hL] at this
    exact reach_node h ((rk_reach h).1 this)
  have hln : L.length ≤ G.length := by rw [hL, List.length_reverse]; exact post_len G e
  obtain ⟨h1, h2, h3⟩ := p.mid.step g hx hi hd
  have hdn := p.mid.wf.nn d hd.pr
  have hlt := mu_put (n := G.length) (L := L) hxm hdn.1 hdn.2 (by have := pos_in hxm; omega) (fun a => h3 a he)
  have hp := distOf_put TL x d hxn.1 (by rw [p.len]; exact hxn.2)
  have hm := p.m1
  refine ⟨by rw [hp]; exact h1, (fun hc => by cases hc), by rw [hp]; omega, fun _ => by rw [hp]; omega, fun y hy => ?_, by rw [List.length_set]; exact p.len⟩
  rw [hp]
  by_cases e1 : y = x
  · subst e1; rw [Dm.put_at]; exact .inl hdn.1
  · rw [Dm.put_ne _ e1]; exact p.neg y hy
theorem hd_start : Hd G e L ((List.replicate G.length (-1)).set e.toNat e) true (G.length * G.length + 1) := by
  have hen := h.2
  have hp : distOf ((List.replicate G.length (-1)).set e.toNat e) = Dm.put (fun _ => -1) e e := by
    rw [distOf_put _ e e hen.1 (by rw [List.length_replicate]; exact hen.2), distOf_neg]
  have he0 := posL_e h hL
  have hln : L.length ≤ G.length := by rw [hL, List.length_reverse]; exact post_len G e
  have hs : ∀ x, 0 ≤ Dm.put (fun _ => -1) e e x ↔ x = e := fun x => by
    by_cases e1 : x = e
    · subst e1; rw [Dm.put_at]; exact ⟨fun _ => rfl, fun _ => hen.1⟩
    · rw [Dm.put_ne _ e1]; exact ⟨fun h9 => by omega, fun h9 => absurd h9 e1⟩
  have hinj : ∀ x y, 0 ≤ pos L x → pos L x = pos L y → x = y := fun x y a b => pos_inj (pos_nonneg.1 a) b
  refine ⟨fun _ => ⟨⟨none, ?_⟩, ?_⟩, (fun hc => by cases hc), fun x hx => ?_, by rw [List.length_set, List.length_replicate]⟩
  · rw [hp]
    refine ⟨⟨Dm.put_at _ _ _, hen.1, he0, fun x hx => ?_, fun x hx hxe => absurd ((hs x).1 hx) hxe, hinj⟩, fun _ x hx => ?_, (fun T hT => by cases hT), fun x u a b c => ?_, fun x a b c => ?_, fun y d hy hy0 => absurd ((hs y).1 hy0) hy⟩
    · rw [(hs x).1 hx]; exact ⟨hen.1, by omega⟩
    · rw [hs x]
      exact ⟨fun e1 => by rw [e1]; omega, fun e1 => hinj x e hx (by omega)⟩
    · exact absurd (hinj x e b (by omega)) a
    · exact absurd (hinj x e b (by omega)) a
  · have hle : mu G.length (pos L) (distOf ((List.replicate G.length (-1)).set e.toNat e)) L ≤ (L.map fun _ => G.length).sum := by
      rw [hp]
      unfold mu
      refine sum_le _ _ L fun x hx => ?_
      by_cases e1 : x = e
      · subst e1; rw [Dm.put_at]; split
        · exact Nat.le_refl _
        · omega
      · rw [Dm.put_ne _ e1, if_pos (by omega)]; exact Nat.le_refl _
    have h2 : ∀ M : List Int, (M.map fun _ => G.length).sum = M.length * G.length := by
      intro M
      induction M with
      | nil => simp
      | cons a M ih => simp only [List.map_cons, List.sum_cons, List.length_cons, ih, Nat.add_mul]; omega
    rw [h2] at hle
    have h3 : L.length * G.length ≤ G.length * G.length := Nat.mul_le_mul_right _ hln
    omega
  · rw [hp]
    by_cases e1 : x = e
    · subst e1; rw [Dm.put_at]; exact .inl hen.1
    · rw [Dm.put_ne _ e1]; exact .inr rfl
theorem hd_idm {TL : List Int} {q : Nat} (p : Hd G e L TL false q) : Idm G e TL := by
  obtain ⟨h1, h2⟩ := p.stop rfl
  subst hL
  exact full_idm h p.len h1 h2 p.neg
end
/-- A row from its second element on. -/
theorem row_from1 {A : Option Addr} {c : Nat} {l : List Int} (hn : 1 ≤ l.length) (hc : l.length ≤ c) :
    ∃ X, (∀ W : World, (Instr.slice 28 (.slice A l.length c) (some (.int .i64 1)) none none).run Try.prog W = .ok (.slice X (l.length - 1) (c - 1)) W) ∧ ∀ W, Kd.C (Kd.int .i64) W A l.length l → Kd.C (Kd.int .i64) W X (l.drop 1).length (l.drop 1) := by
  obtain ⟨i0, hi, hz⟩ : ∃ i0, Try.prog.info? 3 = some i0 ∧ i0.size = 1 := ⟨_, rfl, by kernel_rfl⟩
  refine ⟨if c = 1 then A else A.map (·.add (1 * 1)), fun W => ?_, fun W h => Kd.C_drop h hn hc⟩
  have := cut_from 28 3 .i64 Try.underlying28 hi 1 hz A l.length c 1 (by omega) (by omega) W
  rw [this]
  rfl
/-- The node of rank i. -/
theorem pos_at {L : List Int} (hnd : L.Nodup) (i : Nat) (h : i < L.length) : pos L L[i] = (i : Int) := by
  unfold pos
  rw [if_pos (List.getElem_mem h)]
  rw [List.Nodup.idxOf_getElem hnd i h]
end Go.Proofs.Ytbphjbfnnhfhlaa
end

