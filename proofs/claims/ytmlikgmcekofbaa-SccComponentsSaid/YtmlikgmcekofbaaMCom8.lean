import Derived.StillTailTactics
import Derived.Deep.QuietTactic
import Derived.BigQuiet
import Derived.Deep.RegionLaw
import Derived.Deep.LoopGhost
import Derived.WalkMore
import Derived.Laws.CopyOwn
import Derived.BigRegion
import Derived.Test.YtmlikgmcekofbaaMCom7
section
/- The machine's memory in chapter 7: rows of ints and bools, the stack of calls, a queue, the finder. -/
set_option linter.unusedVariables false
set_option linter.unusedSimpArgs false
set_option linter.unusedSectionVars false
namespace Go.Proofs.Ytmlikgmcekofbaa
open Go.RowKit Go.Proofs.YtmlikgmcekofbaaW.PrintWords Go.Proofs.Ytmlikgmcekofbaa.PDigraphTells Mem

theorem infoF : (Try.prog.info? 58).map (fun i => (i.zero, i.size, i.bytes)) = some (some (.agg #[(.int .i64 0), (.int .i64 0)]), 2, 16) := by kernel_rfl
def kF : Kd (Int × Nat) := Kd.iso (Kd.pair (Kd.int .i64) (Kd.int .i64)) (fun x : Int × Nat => (x.1, (x.2 : Int)))
theorem kF_open {w : World} {x : Int × Nat} {cs : List Value} (h : kF.K w x cs) : cs = [.int .i64 x.1, .int .i64 (x.2 : Int)] := by
  obtain ⟨_, _, rfl, rfl, rfl⟩ := h
  exact rfl
theorem kF_mkM (w : World) (base : Nat) (ok : Nat → Prop) (x : Int × Nat) : kF.M w base ok x [.int .i64 x.1, .int .i64 (x.2 : Int)] := ⟨[.int .i64 x.1], [.int .i64 (x.2 : Int)], rfl, rfl, rfl⟩
theorem add0 (g k : Nat) : (⟨g, 0, none⟩ : Addr).add k = ⟨g, k, none⟩ := by
  unfold Addr.add
  by_cases h : k = 0
  · subst h; simp
  · simp [h]
theorem R_free {α : Type} {d : Kd α} {e : Nat} {w : World} {ok : Nat → Prop} {g n cap : Nat} {xs : List α} (h : Kd.R d e w 0 ok (.slice (some ⟨g, 0, none⟩) n cap) xs) (j : Nat) : w.frozen? ⟨g, j, none⟩ = false := by
  obtain ⟨h0, inner, ⟨hl, ho2⟩, hr⟩ := h
  rcases ho2 with ⟨hv, _⟩ | ⟨g', cap', cur, hv, hb, hh, hnc', hcm, hcs, ht⟩
  · cases hv
  injection hv with ha _ hc
  injection ha with ha
  injection ha with hg
  subst hg
  exact free_at hh j
/-- A frame of one's own is read. -/
theorem R_atF {w : World} {ok : Nat → Prop} {g n cap : Nat} {xs : List (Int × Nat)} (h : Kd.R kF 58 w 0 ok (.slice (some ⟨g, 0, none⟩) n cap) xs) (i : Nat) (hi : i < xs.length) :
    w.cell? ⟨g, i * 2, none⟩ = some (.int .i64 (xs[i]).1) ∧ w.cell? ⟨g, i * 2 + 1, none⟩ = some (.int .i64 ((xs[i]).2 : Int)) ∧ w.frozen? ⟨g, i * 2, none⟩ = false ∧ w.frozen? ⟨g, i * 2 + 1, none⟩ = false := by
  obtain ⟨hn, hc, hC⟩ := Kd.R_reads' h
  obtain ⟨ad, c, e, _, hK, hc0⟩ := Kd.C_get hC (0, 0) (i : Int) (by omega) (by omega)
  injection e with e
  subst e
  obtain rfl := kF_open hK
  have e1 : xs.getD ((i : Int)).toNat (0, 0) = xs[i] := by simp [hi]
  rw [e1] at hc0
  have h1 := hc0 0 _ rfl
  have h2 := hc0 1 _ rfl
  rw [Int.toNat_natCast, show kF.sz = 2 from rfl, add0] at h1 h2
  exact ⟨h1, h2, R_free h _, R_free h _⟩
/-- A frame's second cell is written over. -/
theorem R_nextF {w : World} {ok : Nat → Prop} {g n cap : Nat} {xs : List (Int × Nat)} (h : Kd.R kF 58 w 0 ok (.slice (some ⟨g, 0, none⟩) n cap) xs) (i : Nat) (hi : i < xs.length) (t : Nat) :
    Kd.R kF 58 (w.setCell ⟨g, i * 2 + 1, none⟩ (.int .i64 (t : Int))) 0 ok (.slice (some ⟨g, 0, none⟩) n cap) (xs.set i (xs[i].1, t)) ∧ Kp ok w (w.setCell ⟨g, i * 2 + 1, none⟩ (.int .i64 (t : Int))) := by
  obtain ⟨hn, _, hC⟩ := Kd.R_reads' h
  obtain ⟨h1', h2', _, _⟩ := R_atF h i hi
  have := Kd.R_seg h (i : Int) (by omega) (by omega) (c := [.int .i64 (xs[i]).1, .int .i64 ((xs[i]).2 : Int)]) (seg := [.int .i64 (t : Int)]) (j := 1) (x' := (xs[i].1, t)) (okp := fun _ => False) rfl (fun j u hj => by
    rw [Int.toNat_natCast, show kF.sz = 2 from rfl]
    rcases j with _ | _ | j
    · simp at hj; rw [← hj]; exact h1'
    · simp at hj; rw [← hj]; exact h2'
    · simp at hj) (by show 1 + 1 ≤ 2; omega) (kF_mkM _ _ _ (xs[i].1, t)) (fun _ h => h.elim)
  rw [Int.toNat_natCast, show kF.sz = 2 from rfl] at this
  exact ⟨this.1, (Kp.refl ok w).grown this.2 (fun j hj => .inl (h.1 j (by simpa [Value.ownBlock] using hj)))⟩

abbrev kG : Kd (List Int) := Kd.slice 3 (Kd.int .i64)
theorem own_oneF (W : World) (x : Int × Nat) : Kd.R kF 58 (W.alloc (.cells #[.int .i64 x.1, .int .i64 (x.2 : Int)] 58)) 0 (fun k => k = W.heap.size) (.slice (some ⟨W.heap.size, 0, none⟩) 1 1) [x] := by
  refine ⟨fun k hk => ?_, [.int .i64 x.1, .int .i64 (x.2 : Int)], ?_, ⟨rfl, fun j p hj => ?_⟩⟩
  · have : W.heap.size = k := by simpa [Value.ownBlock] using hk
    exact this.symm
  · have h := World.ownsRow_lit (base := 0) (e := 58) (size := 2) W #[.int .i64 x.1, .int .i64 (x.2 : Int)] 1 (Nat.zero_le _) (by unfold maxLen; omega) (by simp)
    exact h
  · rcases j with _ | j
    · simp at hj
      subst hj
      exact kF_mkM _ _ _ x
    · simp at hj
theorem getLast_app {α : Type} (l : List α) (x : α) (h : l.length < (l ++ [x]).length) : (l ++ [x])[l.length]'h = x := by simp
theorem set_last {α : Type} (l : List α) (x y : α) : (l ++ [x]).set l.length y = l ++ [y] := by simp
theorem take_last {α : Type} (l : List α) (x : α) : (l ++ [x]).take l.length = l := by simp
/-- The zeros of make. -/
theorem cells_zero (N : Nat) : madeCells (Value.int .i64 0).cells N = (List.replicate N (Value.int .i64 0)).toArray := by
  unfold madeCells
  apply Array.ext
  · simp
  · intro i h1 h2
    simp [Value.cells, Nat.mod_one]
theorem info3' : ∃ i, Try.prog.info? 3 = some i ∧ i.zero = some (.int .i64 0) ∧ i.size = 1 ∧ i.bytes = 8 := by
  obtain ⟨i, h1, h2⟩ := Option.map_eq_some_iff.1 info3
  simp only [Prod.mk.injEq] at h2
  exact ⟨i, h1, h2.1, h2.2.1, h2.2.2⟩
theorem make_run (N : Nat) (hN : N ≤ 70000) (w : World) : (Instr.makeSlice 29 (.int .i64 (N : Int)) (.int .i64 (N : Int))).run Try.prog w = .ok (.slice (some ⟨w.heap.size, 0, none⟩) N N) (w.alloc (.cells (List.replicate N (Value.int .i64 0)).toArray 3)) := by
  obtain ⟨i, h1, h2, h3, h4⟩ := info3'
  have h := run_make (P := Try.prog) w 29 3 i (.int .i64 0) Try.underlying29 h1 h2 .i64 .i64 (N : Int) (N : Int) (by omega) (by omega) (by rw [h4]; omega) (by omega)
  rw [Int.toNat_natCast, h3, Nat.mul_one, cells_zero] at h
  exact h
/-- v is a queue that holds q, in a block that satisfies ok. -/
def QR (w : World) (ok : Nat → Prop) (v : Value) (q : List Int) : Prop :=
  ∃ A cap, v = .slice A q.length cap ∧ (0 < q.length → ∃ g off cur, A = some ⟨g, off, none⟩ ∧ ok g ∧ w.heap[g]? = some (.cells cur 3 (0, 0)) ∧ q.length ≤ cap ∧ cap ≤ maxLen ∧ cur.size = off + cap ∧ (cur.toList.drop off).take q.length = encs (Value.int .i64) q)
theorem QR.step {w W : World} {ok : Nat → Prop} {v : Value} {q : List Int} (h : QR w ok v q) (hm : ∀ k, ok k → k < w.heap.size → W.heap[k]? = w.heap[k]?) : QR W ok v q := by
  obtain ⟨A, cap, rfl, h⟩ := h
  refine ⟨A, cap, rfl, fun hp => ?_⟩
  obtain ⟨g, off, cur, hA, hg, hh, r⟩ := h hp
  exact ⟨g, off, cur, hA, hg, (hm g hg (blk_lt' hh)).trans hh, r⟩
theorem QR.mono {w : World} {ok ok' : Nat → Prop} {v : Value} {q : List Int} (h : QR w ok v q) (hm : ∀ k, ok k → k < w.heap.size → ok' k) : QR w ok' v q := by
  obtain ⟨A, cap, rfl, h⟩ := h
  refine ⟨A, cap, rfl, fun hp => ?_⟩
  obtain ⟨g, off, cur, hA, hg, hh, r⟩ := h hp
  exact ⟨g, off, cur, hA, hm g hg (blk_lt' hh), hh, r⟩
theorem QR.at_ {w : World} {ok : Nat → Prop} {v : Value} {x : Int} {q : List Int} (h : QR w ok v (x :: q)) : ∃ g off cap, v = .slice (some ⟨g, off, none⟩) (q.length + 1) cap ∧ q.length + 1 ≤ cap ∧ w.cell? ⟨g, off, none⟩ = some (.int .i64 x) := by
  obtain ⟨A, cap, rfl, h⟩ := h
  obtain ⟨g, off, cur, rfl, hg, hh, hle, hcm, hcs, ht⟩ := h (by simp)
  refine ⟨g, off, cap, rfl, by simpa using hle, cell_at hh ?_⟩
  have h0 : ((cur.toList.drop off).take (x :: q).length)[0]? = some (.int .i64 x) := by rw [ht]; rfl
  rw [List.getElem?_take] at h0
  simp only [List.length_cons, Nat.zero_lt_succ, if_true, List.getElem?_drop, Nat.add_zero] at h0
  simpa using h0
theorem QR.tail {w : World} {ok : Nat → Prop} {x : Int} {q : List Int} {g off cap : Nat} (h : QR w ok (.slice (some ⟨g, off, none⟩) (q.length + 1) cap) (x :: q)) (A : Option Addr) (hA : 0 < q.length → A = some ⟨g, off + 1, none⟩) : QR w ok (.slice A q.length (cap - 1)) q := by
  obtain ⟨A1, cap1, e, h⟩ := h
  injection e with e1 e2 e3
  subst e1
  subst e3
  refine ⟨A, cap - 1, rfl, fun hp => ?_⟩
  obtain ⟨g1, off1, cur, e, hg, hh, hle, hcm, hcs, ht⟩ := h (by simp)
  injection e with e
  injection e with e4 e5
  subst e4
  subst e5
  simp only [List.length_cons] at hle ht
  refine ⟨g, off + 1, cur, hA hp, hg, hh, by omega, by omega, by omega, ?_⟩
  have h2 : ((cur.toList.drop off).take (q.length + 1)).drop 1 = (encs (Value.int .i64) (x :: q)).drop 1 := by rw [ht]
  rw [List.drop_take, List.drop_drop] at h2
  simpa [encs] using h2
/-- The cells of a row of ints, of bools. -/
def aI (l : List Int) : Array Value := (l.map (Value.int .i64)).toArray
def aB (l : List Bool) : Array Value := (l.map Value.bool).toArray
theorem aI_at {l : List Int} {x : Int} (h0 : 0 ≤ x) (h : x < l.length) : (aI l)[x.toNat]? = some (.int .i64 (rd l x)) := by
  have h1 : x.toNat < l.length := by omega
  have h2 : rd l x = l[x.toNat] := by rw [← rd_get l x.toNat h1, Int.toNat_of_nonneg h0]
  simp [aI, h1, h2]
theorem aB_at {l : List Bool} {x : Int} (h0 : 0 ≤ x) (h : x < l.length) : (aB l)[x.toNat]? = some (.bool (rdOf false l x)) := by
  have h1 : x.toNat < l.length := by omega
  have h2 : rdOf false l x = l[x.toNat] := by simp [rdOf, h0, h1]
  simp [aB, h1, h2]
theorem aI_set (l : List Int) (i : Nat) (v : Int) : (aI l).setIfInBounds i (.int .i64 v) = aI (l.set i v) := by
  unfold aI
  rw [List.setIfInBounds_toArray, List.map_set]
theorem aB_set (l : List Bool) (i : Nat) (v : Bool) : (aB l).setIfInBounds i (.bool v) = aB (l.set i v) := by
  unfold aB
  rw [List.setIfInBounds_toArray, List.map_set]

/-- What the finder holds. -/
structure FD where
  ord : List Int
  low : List Int
  on : List Bool
  stk : List Int
  comp : List Int
  cnt : Int
  nxt : Int
/-- The finder in memory: itself at p, its rows at b1 .. b4, its stack vs in blocks of its own. -/
structure FS (G : List (List Int)) (A : Option Addr) (c : Nat) (w wr : World) (p b1 b2 b3 b4 : Nat) (vs : Value) (d : FD) : Prop where
  cell : wr.heap[p]? = some (.cells #[.slice A G.length c, .slice (some ⟨b1, 0, none⟩) G.length G.length, .slice (some ⟨b2, 0, none⟩) G.length G.length, .slice (some ⟨b3, 0, none⟩) G.length G.length, vs, .slice (some ⟨b4, 0, none⟩) G.length G.length, .int .i64 d.cnt, .int .i64 d.nxt] 50 (0, 0))
  h1 : wr.heap[b1]? = some (.cells (aI d.ord) 3 (0, 0))
  h2 : wr.heap[b2]? = some (.cells (aI d.low) 3 (0, 0))
  h3 : wr.heap[b3]? = some (.cells (aB d.on) 4 (0, 0))
  h4 : wr.heap[b4]? = some (.cells (aI d.comp) 3 (0, 0))
  st : wr.ownsRow 0 3 1 vs d.stk.length (encs (Value.int .i64) d.stk) ∧ ∀ k, vs.ownBlock = some k → w.heap.size ≤ k ∧ k ≠ p ∧ k ≠ b1 ∧ k ≠ b2 ∧ k ≠ b3 ∧ k ≠ b4
  ne : p ≠ b1 ∧ p ≠ b2 ∧ p ≠ b3 ∧ p ≠ b4 ∧ b1 ≠ b2 ∧ b1 ≠ b3 ∧ b1 ≠ b4 ∧ b2 ≠ b3 ∧ b2 ≠ b4 ∧ b3 ≠ b4
  ge : w.heap.size ≤ p ∧ w.heap.size ≤ b1 ∧ w.heap.size ≤ b2 ∧ w.heap.size ≤ b3 ∧ w.heap.size ≤ b4
  below : Below w.heap.size w wr
  len : d.ord.length = G.length ∧ d.low.length = G.length ∧ d.on.length = G.length ∧ d.comp.length = G.length
section
variable {G : List (List Int)} {A : Option Addr} {c : Nat} {w wr W : World} {p b1 b2 b3 b4 : Nat} {vs : Value} {d : FD}
theorem FS.keep (h : FS G A c w wr p b1 b2 b3 b4 vs d) {T : Nat → Prop} (hk : Kp T wr W) (hT : ∀ k, T k → wr.heap.size ≤ k) : FS G A c w W p b1 b2 b3 b4 vs d := by
  have hB := hk.below hT
  obtain ⟨hR, hS⟩ := h.st
  exact ⟨(hB.block p (blk_lt' h.cell)).trans h.cell, (hB.block _ (blk_lt' h.h1)).trans h.h1, (hB.block _ (blk_lt' h.h2)).trans h.h2, (hB.block _ (blk_lt' h.h3)).trans h.h3, (hB.block _ (blk_lt' h.h4)).trans h.h4,
    ⟨own_move hR (fun k hk => hB.block k (own_lt hR k hk)), hS⟩, h.ne, h.ge, h.below.trans (hB.mono h.below.size), h.len⟩
theorem FS.step (h : FS G A c w wr p b1 b2 b3 b4 vs d) (hb : Below wr.heap.size wr W) : FS G A c w W p b1 b2 b3 b4 vs d := h.keep (Kp.of_below hb (fun _ => False)) (fun _ h => h.elim)
/-- A step that touches the blocks of T alone, which are none of the finder's. -/
theorem FS.apart (h : FS G A c w wr p b1 b2 b3 b4 vs d) {T : Nat → Prop} (hk : Kp T wr W) (hT : ∀ k, T k → w.heap.size ≤ k ∧ k ≠ p ∧ k ≠ b1 ∧ k ≠ b2 ∧ k ≠ b3 ∧ k ≠ b4) (hv : ∀ k, vs.ownBlock = some k → ¬ T k) : FS G A c w W p b1 b2 b3 b4 vs d := by
  obtain ⟨hR, hS⟩ := h.st
  refine ⟨hk.blk h.cell (fun e => (hT _ e).2.1 rfl), hk.blk h.h1 (fun e => (hT _ e).2.2.1 rfl), hk.blk h.h2 (fun e => (hT _ e).2.2.2.1 rfl), hk.blk h.h3 (fun e => (hT _ e).2.2.2.2.1 rfl), hk.blk h.h4 (fun e => (hT _ e).2.2.2.2.2 rfl),
    ⟨own_move hR (fun k hk1 => hk.block (own_lt hR k hk1) (hv k hk1)), hS⟩, h.ne, h.ge, h.below.trans (hk.belowB (fun k hk => (hT k hk).1) h.below.size), h.len⟩
theorem set_other {W : World} {b i k : Nat} (v : Value) (h : k ≠ b) : (W.setCell ⟨b, i, none⟩ v).heap[k]? = W.heap[k]? := Below.heap_setCell W ⟨b, i, none⟩ v k h
theorem FS.set1 (h : FS G A c w wr p b1 b2 b3 b4 vs d) (i : Nat) (v : Int) : FS G A c w (wr.setCell ⟨b1, i, none⟩ (.int .i64 v)) p b1 b2 b3 b4 vs { d with ord := d.ord.set i v } := by
  obtain ⟨hR, hS⟩ := h.st
  obtain ⟨n1, n2, n3, n4, n5, n6, n7, n8, n9, n10⟩ := h.ne
  refine ⟨(set_other _ n1).trans h.cell, by rw [set_at h.h1, aI_set], (set_other _ n5.symm).trans h.h2, (set_other _ n6.symm).trans h.h3, (set_other _ n7.symm).trans h.h4, ⟨own_move hR (fun k hk => set_other _ (hS k hk).2.2.1), hS⟩, h.ne, h.ge,
    h.below.trans (((Kp.refl (fun k => k = b1) wr).setCell (p := ⟨b1, i, none⟩) (.inl rfl) _).belowB (fun k hk => by rw [hk]; exact h.ge.2.1) h.below.size), by simpa using h.len⟩
theorem FS.set2 (h : FS G A c w wr p b1 b2 b3 b4 vs d) (i : Nat) (v : Int) : FS G A c w (wr.setCell ⟨b2, i, none⟩ (.int .i64 v)) p b1 b2 b3 b4 vs { d with low := d.low.set i v } := by
  obtain ⟨hR, hS⟩ := h.st
  obtain ⟨n1, n2, n3, n4, n5, n6, n7, n8, n9, n10⟩ := h.ne
  refine ⟨(set_other _ n2).trans h.cell, (set_other _ n5).trans h.h1, by rw [set_at h.h2, aI_set], (set_other _ n8.symm).trans h.h3, (set_other _ n9.symm).trans h.h4, ⟨own_move hR (fun k hk => set_other _ (hS k hk).2.2.2.1), hS⟩, h.ne, h.ge,
    h.below.trans (((Kp.refl (fun k => k = b2) wr).setCell (p := ⟨b2, i, none⟩) (.inl rfl) _).belowB (fun k hk => by rw [hk]; exact h.ge.2.2.1) h.below.size), by simpa using h.len⟩
theorem FS.set3 (h : FS G A c w wr p b1 b2 b3 b4 vs d) (i : Nat) (v : Bool) : FS G A c w (wr.setCell ⟨b3, i, none⟩ (.bool v)) p b1 b2 b3 b4 vs { d with on := d.on.set i v } := by
  obtain ⟨hR, hS⟩ := h.st
  obtain ⟨n1, n2, n3, n4, n5, n6, n7, n8, n9, n10⟩ := h.ne
  refine ⟨(set_other _ n3).trans h.cell, (set_other _ n6).trans h.h1, (set_other _ n8).trans h.h2, by rw [set_at h.h3, aB_set], (set_other _ n10.symm).trans h.h4, ⟨own_move hR (fun k hk => set_other _ (hS k hk).2.2.2.2.1), hS⟩, h.ne, h.ge,
    h.below.trans (((Kp.refl (fun k => k = b3) wr).setCell (p := ⟨b3, i, none⟩) (.inl rfl) _).belowB (fun k hk => by rw [hk]; exact h.ge.2.2.2.1) h.below.size), by simpa using h.len⟩
theorem FS.set4 (h : FS G A c w wr p b1 b2 b3 b4 vs d) (i : Nat) (v : Int) : FS G A c w (wr.setCell ⟨b4, i, none⟩ (.int .i64 v)) p b1 b2 b3 b4 vs { d with comp := d.comp.set i v } := by
  obtain ⟨hR, hS⟩ := h.st
  obtain ⟨n1, n2, n3, n4, n5, n6, n7, n8, n9, n10⟩ := h.ne
  refine ⟨(set_other _ n4).trans h.cell, (set_other _ n7).trans h.h1, (set_other _ n9).trans h.h2, (set_other _ n10).trans h.h3, by rw [set_at h.h4, aI_set], ⟨own_move hR (fun k hk => set_other _ (hS k hk).2.2.2.2.2), hS⟩, h.ne, h.ge,
    h.below.trans (((Kp.refl (fun k => k = b4) wr).setCell (p := ⟨b4, i, none⟩) (.inl rfl) _).belowB (fun k hk => by rw [hk]; exact h.ge.2.2.2.2) h.below.size), by simpa using h.len⟩
theorem FS.setF (h : FS G A c w wr p b1 b2 b3 b4 vs d) (j : Nat) (u : Value) (vs' : Value) (d' : FD) (hc : (#[.slice A G.length c, .slice (some ⟨b1, 0, none⟩) G.length G.length, .slice (some ⟨b2, 0, none⟩) G.length G.length, .slice (some ⟨b3, 0, none⟩) G.length G.length, vs, .slice (some ⟨b4, 0, none⟩) G.length G.length, .int .i64 d.cnt, .int .i64 d.nxt] : Array Value).setIfInBounds j u = #[.slice A G.length c, .slice (some ⟨b1, 0, none⟩) G.length G.length, .slice (some ⟨b2, 0, none⟩) G.length G.length, .slice (some ⟨b3, 0, none⟩) G.length G.length, vs', .slice (some ⟨b4, 0, none⟩) G.length G.length, .int .i64 d'.cnt, .int .i64 d'.nxt])
    (hs : wr.ownsRow 0 3 1 vs' d'.stk.length (encs (Value.int .i64) d'.stk) ∧ ∀ k, vs'.ownBlock = some k → w.heap.size ≤ k ∧ k ≠ p ∧ k ≠ b1 ∧ k ≠ b2 ∧ k ≠ b3 ∧ k ≠ b4) (e : d'.ord = d.ord ∧ d'.low = d.low ∧ d'.on = d.on ∧ d'.comp = d.comp) :
    FS G A c w (wr.setCell ⟨p, j, none⟩ u) p b1 b2 b3 b4 vs' d' := by
  obtain ⟨hR, hS⟩ := hs
  obtain ⟨n1, n2, n3, n4, n5, n6, n7, n8, n9, n10⟩ := h.ne
  refine ⟨by rw [set_at h.cell, hc], ?_, ?_, ?_, ?_, ⟨own_move hR (fun k hk => set_other _ (hS k hk).2.1), hS⟩, h.ne, h.ge,
    h.below.trans (((Kp.refl (fun k => k = p) wr).setCell (p := ⟨p, j, none⟩) (.inl rfl) _).belowB (fun k hk => by rw [hk]; exact h.ge.1) h.below.size), ?_⟩
  · rw [e.1]; exact (set_other _ n1.symm).trans h.h1
  · rw [e.2.1]; exact (set_other _ n2.symm).trans h.h2
  · rw [e.2.2.1]; exact (set_other _ n3.symm).trans h.h3
  · rw [e.2.2.2]; exact (set_other _ n4.symm).trans h.h4
  · rw [e.1, e.2.1, e.2.2.1, e.2.2.2]; exact h.len
theorem FS.setNxt (h : FS G A c w wr p b1 b2 b3 b4 vs d) (v : Int) : FS G A c w (wr.setCell ⟨p, 7, none⟩ (.int .i64 v)) p b1 b2 b3 b4 vs { d with nxt := v } := h.setF 7 _ vs _ rfl h.st ⟨rfl, rfl, rfl, rfl⟩
theorem FS.setCnt (h : FS G A c w wr p b1 b2 b3 b4 vs d) (v : Int) : FS G A c w (wr.setCell ⟨p, 6, none⟩ (.int .i64 v)) p b1 b2 b3 b4 vs { d with cnt := v } := h.setF 6 _ vs _ rfl h.st ⟨rfl, rfl, rfl, rfl⟩
/-- The cells of the finder itself. -/
theorem FS.cs (h : FS G A c w wr p b1 b2 b3 b4 vs d) : wr.cell? ⟨p, 0, none⟩ = some (.slice A G.length c) ∧ wr.cell? ⟨p, 1, none⟩ = some (.slice (some ⟨b1, 0, none⟩) G.length G.length) ∧ wr.cell? ⟨p, 2, none⟩ = some (.slice (some ⟨b2, 0, none⟩) G.length G.length) ∧ wr.cell? ⟨p, 3, none⟩ = some (.slice (some ⟨b3, 0, none⟩) G.length G.length) ∧ wr.cell? ⟨p, 4, none⟩ = some vs ∧ wr.cell? ⟨p, 5, none⟩ = some (.slice (some ⟨b4, 0, none⟩) G.length G.length) ∧ wr.cell? ⟨p, 6, none⟩ = some (.int .i64 d.cnt) ∧ wr.cell? ⟨p, 7, none⟩ = some (.int .i64 d.nxt) :=
  ⟨cell_at h.cell rfl, cell_at h.cell rfl, cell_at h.cell rfl, cell_at h.cell rfl, cell_at h.cell rfl, cell_at h.cell rfl, cell_at h.cell rfl, cell_at h.cell rfl⟩
theorem FS.o1 (h : FS G A c w wr p b1 b2 b3 b4 vs d) {x : Int} (h0 : 0 ≤ x) (hx : x < G.length) : wr.cell? ⟨b1, x.toNat, none⟩ = some (.int .i64 (rd d.ord x)) ∧ wr.frozen? ⟨b1, x.toNat, none⟩ = false := ⟨cell_at h.h1 (aI_at h0 (by rw [h.len.1]; exact hx)), free_at h.h1 _⟩
theorem FS.o2 (h : FS G A c w wr p b1 b2 b3 b4 vs d) {x : Int} (h0 : 0 ≤ x) (hx : x < G.length) : wr.cell? ⟨b2, x.toNat, none⟩ = some (.int .i64 (rd d.low x)) ∧ wr.frozen? ⟨b2, x.toNat, none⟩ = false := ⟨cell_at h.h2 (aI_at h0 (by rw [h.len.2.1]; exact hx)), free_at h.h2 _⟩
theorem FS.o3 (h : FS G A c w wr p b1 b2 b3 b4 vs d) {x : Int} (h0 : 0 ≤ x) (hx : x < G.length) : wr.cell? ⟨b3, x.toNat, none⟩ = some (.bool (rdOf false d.on x)) ∧ wr.frozen? ⟨b3, x.toNat, none⟩ = false := ⟨cell_at h.h3 (aB_at h0 (by rw [h.len.2.2.1]; exact hx)), free_at h.h3 _⟩
theorem FS.o4 (h : FS G A c w wr p b1 b2 b3 b4 vs d) {x : Int} (h0 : 0 ≤ x) (hx : x < G.length) : wr.cell? ⟨b4, x.toNat, none⟩ = some (.int .i64 (rd d.comp x)) ∧ wr.frozen? ⟨b4, x.toNat, none⟩ = false := ⟨cell_at h.h4 (aI_at h0 (by rw [h.len.2.2.2]; exact hx)), free_at h.h4 _⟩
end
end Go.Proofs.Ytmlikgmcekofbaa
end

section
/- scc: enter, lower, leave. -/
set_option linter.unusedVariables false
set_option linter.unusedSimpArgs false
set_option linter.unusedSectionVars false
namespace Go.Proofs.Ytmlikgmcekofbaa
open Go.RowKit Go.Proofs.YtmlikgmcekofbaaW.PrintWords Go.Proofs.Ytmlikgmcekofbaa.PDigraphTells Mem

/-- The finder's own blocks. -/
def FT (p b1 b2 b3 b4 : Nat) (vs : Value) (k : Nat) : Prop := k = p ∨ k = b1 ∨ k = b2 ∨ k = b3 ∨ k = b4 ∨ vs.ownBlock = some k
section
variable {G : List (List Int)} {A : Option Addr} {c : Nat} {w wr : World} {p b1 b2 b3 b4 : Nat} {vs : Value} {d : FD}
set_option maxRecDepth 100000 in
set_option maxHeartbeats 2000000 in
theorem lower_any (h : FS G A c w wr p b1 b2 b3 b4 vs d) (fb : Nat) (hf : wr.heap[fb]? = some (.cells #[.pointer (some ⟨p, 0, none⟩)] 48 (0, 0))) (n : Int) (hn : 0 ≤ n) (hn2 : n < G.length) (u : Int) :
    Calls Try.prog 31 #[.int .i64 n, .int .i64 u, .pointer (some ⟨fb, 0, none⟩)] wr fun e w' => e = .returned (.tuple #[]) ∧ FS G A c w w' p b1 b2 b3 b4 vs { d with low := d.low.set n.toNat (min (rd d.low n) u) } ∧ Kp (fun k => k = b2) wr w' := by
  have f0 := cell_at (j := 0) hf rfl
  obtain ⟨c0, c1, c2, c3, c4, c5, c6, c7⟩ := h.cs
  obtain ⟨l0, l1⟩ := h.o2 hn hn2
  have hX := Aside0.mk h
  clear h hf c0 c1 c3 c4 c5 c6 c7
  go_enter Try.func31, Try.ntmps31
  go_wp2_with fail
  go_region
  have e : (if u < rd d.low n then u else rd d.low n) = min (rd d.low n) u := by split <;> omega
  go_end0
  try rw [e]
  exact ⟨rfl, (hX.out.set2 n.toNat _).step (below_drew (Below.refl _ _)), ((Kp.refl (fun k => k = b2) wr).setCell (p := ⟨b2, n.toNat, none⟩) (.inl rfl) _).drew⟩
theorem FS.ap (h : FS G A c w wr p b1 b2 b3 b4 vs d) {wa : World} {v1 : Value} {x : Int} {ok : Nat → Prop} (hR : Kd.R (Kd.int .i64) 3 wa 0 ok v1 (d.stk ++ [x])) (hg : wr.grownBy wa vs.ownBlock) (hat : v1.ownBlock = vs.ownBlock ∨ ∃ b, v1.ownBlock = some b ∧ wr.heap.size ≤ b) :
    wa.heap[p]? = wr.heap[p]? ∧ FS G A c w (wa.setCell ⟨p, 4, none⟩ v1) p b1 b2 b3 b4 v1 { d with stk := d.stk ++ [x] } := by
  obtain ⟨hO, hS⟩ := h.st
  have hb : ∀ {k : Nat} {o : Obj}, wr.heap[k]? = some o → vs.ownBlock ≠ some k → wa.heap[k]? = some o := fun {k o} hk hne => (hg.block k (blk_lt' hk) (fun e => hne e.symm)).trans hk
  have hne : vs.ownBlock ≠ some p ∧ vs.ownBlock ≠ some b1 ∧ vs.ownBlock ≠ some b2 ∧ vs.ownBlock ≠ some b3 ∧ vs.ownBlock ≠ some b4 := ⟨fun e => (hS _ e).2.1 rfl, fun e => (hS _ e).2.2.1 rfl, fun e => (hS _ e).2.2.2.1 rfl, fun e => (hS _ e).2.2.2.2.1 rfl, fun e => (hS _ e).2.2.2.2.2 rfl⟩
  have hcp := hb h.cell hne.1
  refine ⟨hcp.trans h.cell.symm, ?_⟩
  obtain ⟨n1, n2, n3, n4, n5, n6, n7, n8, n9, n10⟩ := h.ne
  have s0 := h.below.size
  have s1 := blk_lt' h.cell
  have s2 := blk_lt' h.h1
  have s3 := blk_lt' h.h2
  have s4 := blk_lt' h.h3
  have s5 := blk_lt' h.h4
  have hS' : ∀ k, v1.ownBlock = some k → w.heap.size ≤ k ∧ k ≠ p ∧ k ≠ b1 ∧ k ≠ b2 ∧ k ≠ b3 ∧ k ≠ b4 := fun k hk => by
    rcases hat with e | ⟨b, e, hge⟩
    · exact hS k (e ▸ hk)
    · rw [e] at hk
      injection hk with hk
      omega
  have hkp : Kp (fun k => vs.ownBlock = some k) wr wa := (Kp.refl _ wr).grown hg (fun k hk => .inl hk)
  refine ⟨by rw [set_at hcp]; rfl, (set_other _ n1.symm).trans (hb h.h1 hne.2.1), (set_other _ n2.symm).trans (hb h.h2 hne.2.2.1), (set_other _ n3.symm).trans (hb h.h3 hne.2.2.2.1), (set_other _ n4.symm).trans (hb h.h4 hne.2.2.2.2),
    ⟨own_move (Kd.own_of_R hR) (fun k hk => set_other _ (hS' k hk).2.1), hS'⟩, h.ne, h.ge, h.below.trans ((hkp.mono (S' := fun k => w.heap.size ≤ k) (fun k hk => (hS k hk).1)).setCell (p := ⟨p, 4, none⟩) (.inl h.ge.1) _ |>.belowB (fun k hk => hk) h.below.size), h.len⟩
theorem own_of (h : wr.ownsRow 0 3 1 vs d.stk.length (encs (Value.int .i64) d.stk)) (ok : Nat → Prop) (hok : ∀ k, vs.ownBlock = some k → ok k) : Kd.R (Kd.int .i64) 3 wr 0 ok vs d.stk := Kd.R_of_own (h1 := fun _ => rfl) h hok
set_option maxRecDepth 100000 in
set_option maxHeartbeats 4000000 in
theorem enter_any (h : FS G A c w wr p b1 b2 b3 b4 vs d) (n : Int) (hn : 0 ≤ n) (hn2 : n < G.length) (hx : 0 ≤ d.nxt ∧ d.nxt < 1000000) (hs : d.stk.length < 1000000) :
    Calls Try.prog 32 #[.pointer (some ⟨p, 0, none⟩), .int .i64 n] wr fun e w' => e = .returned (.agg #[.int .i64 n, .int .i64 0]) ∧ ∃ vs', FS G A c w w' p b1 b2 b3 b4 vs' { d with nxt := d.nxt + 1, ord := d.ord.set n.toNat (d.nxt + 1), low := d.low.set n.toNat (d.nxt + 1), stk := d.stk ++ [n], on := d.on.set n.toNat true } ∧ Kp (FT p b1 b2 b3 b4 vs) wr w' := by
  have hw : wrap64 (d.nxt + 1) = d.nxt + 1 := by unfold wrap64; omega
  have hA : FS G A c w (wr.alloc (.cells #[.int .i64 0, .int .i64 0] 58)) p b1 b2 b3 b4 vs d := h.step (below_alloc (Below.refl _ _) _)
  have hlt := blk_lt' h.cell
  obtain ⟨c0, c1, c2, c3, c4, c5, c6, c7⟩ := hA.cs
  have f7 := free_at hA.cell 7
  have hX := Aside0.mk (And.intro hA h)
  clear h hA c0 c1 c2 c3 c4 c5 c6
  go_enter Try.func32, Try.ntmps32
  go_wp2_with fail
  have hB : FS G A c w ((wr.setCell ⟨p, 7, none⟩ (.int .i64 (d.nxt + 1))).alloc (.cells #[.int .i64 0, .int .i64 0] 58)) p b1 b2 b3 b4 vs { d with nxt := d.nxt + 1 } := (hX.out.2.setNxt (d.nxt + 1)).step (below_alloc (Below.refl _ _) _)
  have hkB : Kp (FT p b1 b2 b3 b4 vs) wr ((wr.setCell ⟨p, 7, none⟩ (.int .i64 (d.nxt + 1))).alloc (.cells #[.int .i64 0, .int .i64 0] 58)) := ((Kp.refl _ wr).setCell (p := ⟨p, 7, none⟩) (.inl (.inl rfl)) _).alloc _
  have hrB : ((wr.setCell ⟨p, 7, none⟩ (.int .i64 (d.nxt + 1))).alloc (.cells #[.int .i64 0, .int .i64 0] 58)).heap[wr.heap.size]? = some (.cells #[.int .i64 0, .int .i64 0] 58 (0, 0)) := by
    have := heap_alloc_new (wr.setCell ⟨p, 7, none⟩ (.int .i64 (d.nxt + 1))) (.cells #[.int .i64 0, .int .i64 0] 58)
    simpa using this
  obtain ⟨W, hW⟩ : ∃ W, (wr.setCell ⟨p, 7, none⟩ (.int .i64 (d.nxt + 1))).alloc (.cells #[.int .i64 0, .int .i64 0] 58) = W := ⟨_, rfl⟩
  rw [hW] at hB hkB hrB ⊢
  obtain ⟨q, hq⟩ : ∃ q, wr.heap.size = q := ⟨_, rfl⟩
  rw [hq] at hlt hrB ⊢
  clear hW c7 f7
  obtain ⟨c0, c1, c2, c3, c4, c5, c6, c7⟩ := hB.cs
  obtain ⟨o1, g1⟩ := hB.o1 hn hn2
  obtain ⟨o2, g2⟩ := hB.o2 hn hn2
  have hB1 := hB.set1 n.toNat (d.nxt + 1)
  have hC := (hB1.set2 n.toNat (d.nxt + 1)).step (below_drew1 (Below.refl _ _))
  have hkC : Kp (FT p b1 b2 b3 b4 vs) wr ((W.setCell ⟨b1, n.toNat, none⟩ (.int .i64 (d.nxt + 1))).setCell ⟨b2, n.toNat, none⟩ (.int .i64 (d.nxt + 1))).drew := ((hkB.setCell (p := ⟨b1, n.toNat, none⟩) (.inl (.inr (.inl rfl))) _).setCell (p := ⟨b2, n.toNat, none⟩) (.inl (.inr (.inr (.inl rfl)))) _).drew
  have hqC : ((W.setCell ⟨b1, n.toNat, none⟩ (.int .i64 (d.nxt + 1))).setCell ⟨b2, n.toNat, none⟩ (.int .i64 (d.nxt + 1))).drew.heap[q]? = some (.cells #[.int .i64 0, .int .i64 0] 58 (0, 0)) := by
    have l1 := blk_lt' hX.out.2.h1
    have l2 := blk_lt' hX.out.2.h2
    exact (set_other _ (by omega)).trans ((set_other _ (by omega)).trans hrB)
  obtain ⟨e0, e1, e2, e3, e4, e5, e6, e7⟩ := hB1.cs
  obtain ⟨o3, g3⟩ := hB1.o2 hn hn2
  have k4 := hC.cs.2.2.2.2.1
  have hR0 := Aside0.mk (And.intro hC (And.intro hkC (And.intro hqC (show wr.heap.size = q ∧ vs.ownBlock ≠ some q from ⟨hq, fun e => by have := own_lt hX.out.2.st.1 q e; omega⟩))))
  clear c0 c3 c4 c5 c6 e0 e3 e4 e5 e6 hC hkC hB hkB hrB hB1 hqC hlt
  go_wp2_with fail
  go_region
  obtain ⟨W2, hW2⟩ : ∃ W2, ((W.setCell ⟨b1, n.toNat, none⟩ (.int .i64 (d.nxt + 1))).setCell ⟨b2, n.toNat, none⟩ (.int .i64 (d.nxt + 1))).drew = W2 := ⟨_, rfl⟩
  rw [hW2] at hR0 k4 ⊢
  clear hW2 c1 c2 c7 o1 g1 o2 g2 e1 e2 e7 o3 g3
  have hn2' := Aside0.mk hn2
  have e9 : (d.stk ++ [n]).length = d.stk.length + 1 := by simp
  go_wp2_with (at_builtin; refine Kd.R_append (Kd.int .i64) (w0 := W2) 0 (by rfl) (.tmp 36) (.tmp 38) 29 3 (.int .i64 0) 8 (by rfl) Try.underlying29 info3 rfl (by decide) (by decide) vs d.stk n [.int .i64 n] (fun k => vs.ownBlock = some k ∨ W2.heap.size ≤ k) (fun _ => False) (by rfl) (by rfl) rfl (fun _ h => h.elim) (fun k hk => .inr hk) (own_of (d := d) hR0.out.1.st.1 _ (fun k hk => .inl hk)) ((Kp.refl (fun _ => False) W2).belowB (fun _ h => h.elim) (Nat.zero_le _)) (Nat.zero_le _) (by omega) ?_; intro v1 wa hRA hBA hgA hatA; obtain ⟨A1, k1, hv, _, _⟩ := Kd.R_reads hRA; rw [e9] at hv; subst hv; obtain ⟨hpA, hE⟩ := hR0.out.1.ap hRA hgA hatA; have x4 := free_at (hpA.trans hR0.out.1.cell) 4; have y4 := cell_at (j := 4) (hpA.trans hR0.out.1.cell) rfl; obtain ⟨x0, x1, x2, x3, x5, x6, x7, x8⟩ := hE.cs; obtain ⟨z0, z1⟩ := hE.o3 hn hn2'.out; have hq1 : ((wa.setCell ⟨p, 4, none⟩ (.slice A1 (d.stk.length + 1) k1)).setCell ⟨b3, n.toNat, none⟩ (.bool true)).heap[q]? = some (.cells #[.int .i64 0, .int .i64 0] 58 (0, 0)) := (set_other _ (by have := blk_lt' hX.out.2.h3; have := hR0.out.2.2.2.1; omega)).trans ((set_other _ (by have := blk_lt' hX.out.2.cell; have := hR0.out.2.2.2.1; omega)).trans ((hgA.block q (blk_lt' hR0.out.2.2.1) (fun e => hR0.out.2.2.2.2 e.symm)).trans hR0.out.2.2.1)); have q0 := cell_at (j := 0) hq1 rfl; have q1 := cell_at (j := 1) hq1 rfl; have r0 := free_at hq1 0; have r1 := free_at hq1 1; have hA2 := Aside0.mk (And.intro hE (And.intro hgA hatA)); clear hRA hBA hatA hE hpA hgA x0 x1 x2 x5 x6 x7 x8 hq1)
  have hqn : q ≠ p ∧ q ≠ b1 ∧ q ≠ b2 ∧ q ≠ b3 ∧ q ≠ b4 ∧ w.heap.size ≤ q := by
    have l0 := blk_lt' hX.out.2.cell
    have l1 := blk_lt' hX.out.2.h1
    have l2 := blk_lt' hX.out.2.h2
    have l3 := blk_lt' hX.out.2.h3
    have l4 := blk_lt' hX.out.2.h4
    have l5 := hX.out.2.below.size
    have := hR0.out.2.2.2.1
    omega
  have hlt2 := blk_lt' hR0.out.2.2.1
  have hF := hA2.out.1.set3 n.toNat true
  have hK : Kp (FT p b1 b2 b3 b4 vs) wr ((wa.setCell ⟨p, 4, none⟩ (.slice A1 (d.stk.length + 1) k1)).setCell ⟨b3, n.toNat, none⟩ (.bool true)) :=
    ((hR0.out.2.1.grown hA2.out.2.1 (fun k hk => .inl (.inr (.inr (.inr (.inr (.inr hk))))))).setCell (p := ⟨p, 4, none⟩) (.inl (.inl rfl)) _).setCell (p := ⟨b3, n.toNat, none⟩) (.inl (.inr (.inr (.inr (.inl rfl))))) _
  have hq9 : (((wa.setCell ⟨p, 4, none⟩ (.slice A1 (d.stk.length + 1) k1)).setCell ⟨b3, n.toNat, none⟩ (.bool true))).heap[q]? = some (.cells #[.int .i64 0, .int .i64 0] 58 (0, 0)) :=
    (set_other _ hqn.2.2.2.1).trans ((set_other _ hqn.1).trans ((hA2.out.2.1.block q hlt2 (fun e => hR0.out.2.2.2.2 e.symm)).trans hR0.out.2.2.1))
  obtain ⟨W3, hW3⟩ : ∃ W3, ((wa.setCell ⟨p, 4, none⟩ (.slice A1 (d.stk.length + 1) k1)).setCell ⟨b3, n.toNat, none⟩ (.bool true)) = W3 := ⟨_, rfl⟩
  rw [hW3] at hF hK hq9 ⊢
  have hat : ∀ k, (Value.slice A1 (d.stk.length + 1) k1).ownBlock = some k → k ≠ q := fun k hk e => by
    rcases hA2.out.2.2 with e1 | ⟨b, e1, hge⟩
    · exact hR0.out.2.2.2.2 (by rw [← e1, hk, e])
    · rw [e1] at hk; injection hk with hk; omega
  have hq8 : ((W3.setCell ⟨q, 0, none⟩ (.int .i64 n)).setCell ⟨q, 1, none⟩ (.int .i64 0)).heap[q]? = some (.cells #[.int .i64 n, .int .i64 0] 58 (0, 0)) := by
    rw [set_at (set_at hq9 _)]; rfl
  have hfin : ∃ vs', FS G A c w ((W3.setCell ⟨q, 0, none⟩ (.int .i64 n)).setCell ⟨q, 1, none⟩ (.int .i64 0)) p b1 b2 b3 b4 vs' { d with nxt := d.nxt + 1, ord := d.ord.set n.toNat (d.nxt + 1), low := d.low.set n.toNat (d.nxt + 1), stk := d.stk ++ [n], on := d.on.set n.toNat true } ∧ Kp (FT p b1 b2 b3 b4 vs) wr ((W3.setCell ⟨q, 0, none⟩ (.int .i64 n)).setCell ⟨q, 1, none⟩ (.int .i64 0)) :=
    ⟨_, hF.apart (T := fun k => k = q) (((Kp.refl (fun k => k = q) W3).setCell (p := ⟨q, 0, none⟩) (.inl rfl) _).setCell (p := ⟨q, 1, none⟩) (.inl rfl) _) (fun k hk => by subst hk; exact ⟨hqn.2.2.2.2.2, hqn.1, hqn.2.1, hqn.2.2.1, hqn.2.2.2.1, hqn.2.2.2.2.1⟩) (fun k hk e => hat k hk e),
      (hK.setCell (p := ⟨q, 0, none⟩) (.inr (Nat.le_of_eq hR0.out.2.2.2.1)) _).setCell (p := ⟨q, 1, none⟩) (.inr (Nat.le_of_eq hR0.out.2.2.2.1)) _⟩
  have m0 := cell_at (j := 0) hq8 rfl
  have m1 := cell_at (j := 1) hq8 rfl
  have hfin' := Aside0.mk hfin
  clear hX hR0 hA2 hF hK hq9 hat hfin hW3 q0 q1 r0 r1 x4 y4 z0 z1 x3 hqn hlt2 k4
  refine bodyPost_ret (results_cell_row rfl _ _ q 58 #[.int .i64 n, .int .i64 0] (0, 0) _ rfl hq8 Try.underlying58 rfl (by kernel_rfl)) rfl ?_
  obtain ⟨v9, h1, h2⟩ := hfin'.out
  exact ⟨rfl, ⟨v9, h1⟩, h2⟩
end
end Go.Proofs.Ytmlikgmcekofbaa
end

section
/- scc: leave. -/
set_option linter.unusedVariables false
set_option linter.unusedSimpArgs false
set_option linter.unusedSectionVars false
namespace Go.Proofs.Ytmlikgmcekofbaa
open Go.RowKit Go.Proofs.YtmlikgmcekofbaaW.PrintWords Go.Proofs.Ytmlikgmcekofbaa.PDigraphTells Mem

/-- The row l with v at the places of P. -/
def putAll {α : Type} (l : List α) (P : List Int) (v : α) : List α := P.foldl (fun l x => l.set x.toNat v) l
theorem putAll_snoc {α : Type} (l : List α) (P : List Int) (x : Int) (v : α) : putAll l (P ++ [x]) v = (putAll l P v).set x.toNat v := by simp [putAll]
theorem putAll_len {α : Type} (v : α) : ∀ (P : List Int) (l : List α), (putAll l P v).length = l.length
  | [], _ => rfl
  | x :: P, l => by
    show (putAll (l.set x.toNat v) P v).length = _
    rw [putAll_len v P]; simp
section
variable {G : List (List Int)} {A : Option Addr} {c : Nat} {w wr : World} {p b1 b2 b3 b4 : Nat} {vs : Value} {d : FD}
theorem FS.form (h : FS G A c w wr p b1 b2 b3 b4 vs d) {ys : List Int} {x : Int} (e : d.stk = ys ++ [x]) : ∃ g cc, vs = .slice (some ⟨g, 0, none⟩) (ys.length + 1) cc ∧ ys.length + 1 ≤ cc ∧ wr.cell? ⟨g, ys.length, none⟩ = some (.int .i64 x) := by
  have hR := own_of h.st.1 (fun _ => True) (fun _ _ => trivial)
  rw [e] at hR
  obtain ⟨g, cc, e1, _⟩ := Kd.R_form hR (by simp)
  subst e1
  have el : (ys ++ [x]).length = ys.length + 1 := by simp
  obtain ⟨A1, c1, e2, hle, _⟩ := Kd.R_reads hR
  injection e2 with _ _ e3
  obtain ⟨h1, _⟩ := Kd.R_cell (0 : Int) hR (ys.length : Int) (by omega) (by rw [el]; omega)
  rw [el] at hle
  refine ⟨g, cc, by rw [el], by omega, ?_⟩
  have h2 : rdOf 0 (ys ++ [x]) (ys.length : Int) = x := by simp [rdOf]
  rw [h2, Int.toNat_natCast] at h1
  exact h1
theorem FS.cut (h : FS G A c w wr p b1 b2 b3 b4 vs d) {ys : List Int} {x : Int} {g cc : Nat} (e : d.stk = ys ++ [x]) (hv : vs = .slice (some ⟨g, 0, none⟩) (ys.length + 1) cc) : FS G A c w (wr.setCell ⟨p, 4, none⟩ (.slice (some ⟨g, 0, none⟩) ys.length cc)) p b1 b2 b3 b4 (.slice (some ⟨g, 0, none⟩) ys.length cc) { d with stk := ys } := by
  subst hv
  have hR := own_of h.st.1 (fun _ => True) (fun _ _ => trivial)
  rw [e] at hR
  have h2 := Kd.R_take (m := ys.length) hR (by simp)
  rw [List.take_left'] at h2
  · exact h.setF 4 _ _ _ rfl ⟨Kd.own_of_R h2, fun k hk => h.st.2 k (by simpa [Value.ownBlock] using hk)⟩ ⟨rfl, rfl, rfl, rfl⟩
  · rfl
/-- What leave does to what the finder holds: R, the last first, is taken from the stack. -/
def FD.off (d : FD) (L R : List Int) : FD := { d with stk := L, on := putAll d.on R false, comp := putAll d.comp R d.cnt, cnt := d.cnt }
set_option maxRecDepth 100000 in
set_option maxHeartbeats 4000000 in
theorem leave_any (h : FS G A c w wr p b1 b2 b3 b4 vs d) (n : Int) (hn : isNode G n) (L U : List Int) (hL : d.stk = L ++ n :: U) (hU : ∀ x ∈ U, isNode G x ∧ x ≠ n) (hl : d.stk.length < 1000000) (hc : 0 ≤ d.cnt ∧ d.cnt < 1000000) (d' : FD) (hd : d' = if rd d.low n = rd d.ord n then { d.off L (n :: U).reverse with cnt := d.cnt + 1 } else d) :
    Calls Try.prog 33 #[.pointer (some ⟨p, 0, none⟩), .int .i64 n] wr fun e w' => e = .returned (.tuple #[]) ∧ ∃ vs', FS G A c w w' p b1 b2 b3 b4 vs' d' ∧ Kp (FT p b1 b2 b3 b4 vs) wr w' := by
  have hn1 := hn.1
  have hn2 := hn.2
  obtain ⟨c0, c1, c2, c3, c4, c5, c6, c7⟩ := h.cs
  obtain ⟨o1, g1⟩ := h.o1 hn1 hn2
  obtain ⟨o2, g2⟩ := h.o2 hn1 hn2
  have hX := Aside0.mk (And.intro h (And.intro hL (And.intro hU hn)))
  have hD := Aside0.mk hd
  clear h hL hU hd c0 c3 c4 c5 c6 c7 hn g1 g2
  go_enter Try.func33, Try.ntmps33
  by_cases hlo : rd d.low n = rd d.ord n
  · have d1 : (rd d.low n != rd d.ord n) = false := by simp [hlo]
    have hD2 : d' = { d.off L (n :: U).reverse with cnt := d.cnt + 1 } := by rw [hD.out, if_pos hlo]
    have hD3 := Aside0.mk hD2
    clear hlo hD2 hD
    go_wp2_with fail
    go_quiet (fail)
    go_wp2_with fail
    obtain ⟨V0, hV0⟩ : ∃ V, wr.drewN nq = V := ⟨_, rfl⟩
    have hS0 : Aside0 (FS G A c w V0 p b1 b2 b3 b4 vs (d.off (L ++ n :: U) []) ∧ Kp (FT p b1 b2 b3 b4 vs) wr V0) := by
      subst hV0
      have h1 := hX.out.1.step (below_drewN (Below.refl _ wr) nq)
      have e : d.off (L ++ n :: U) [] = d := by unfold FD.off putAll; rw [← hX.out.2.1]; rfl
      rw [e]
      exact ⟨h1, (Kp.refl _ wr).drewN nq⟩
    rw [hV0]
    clear hV0 c1 c2 o1 o2 d1
    have hUl := Aside0.mk (show (L ++ n :: U).length < 1000000 by rw [← hX.out.2.1]; exact hl)
    clear hl
    replace hX : Aside0 (d.stk = L ++ n :: U ∧ (∀ x ∈ U, isNode G x ∧ x ≠ n) ∧ isNode G n) := ⟨hX.out.2⟩
    obtain ⟨w9, rfl⟩ : ∃ w9 : World, w9 = wr := ⟨_, rfl⟩
    go_loopg [] U.length (fun q wi => ∃ (R P : List Int) (vs' : Value), R.length = q ∧ Aside0 (U = R ++ P ∧ FS G A c w wi p b1 b2 b3 b4 vs' (d.off (L ++ n :: R) P.reverse) ∧ Kp (FT p b1 b2 b3 b4 vs) w9 wi ∧ ∀ k, vs'.ownBlock = some k → vs.ownBlock = some k))
    case atStart => exact ⟨U, [], vs, rfl, ⟨by simp, hS0.out.1, hS0.out.2, fun _ h => h⟩⟩
    case round =>
      obtain ⟨R, P, vs', hR, hJ⟩ := hrel
      clear hS0
      obtain ⟨ys, x, hyx, hcase⟩ : ∃ ys x, L ++ n :: R = ys ++ [x] ∧ ((x = n ∧ R = [] ∧ ys = L) ∨ (x ≠ n ∧ ∃ R', R = R' ++ [x] ∧ ys = L ++ n :: R')) := by
        rcases List.eq_nil_or_concat R with rfl | ⟨R', x, rfl⟩
        · exact ⟨L, n, rfl, .inl ⟨rfl, rfl, rfl⟩⟩
        · refine ⟨L ++ n :: R', x, by simp, .inr ⟨?_, R', by simp, rfl⟩⟩
          exact (hX.out.2.1 x (by rw [hJ.out.1]; simp)).2
      have hxn : isNode G x := by
        rcases hcase with ⟨rfl, _⟩ | ⟨_, R', rfl, _⟩
        · exact hX.out.2.2
        · exact (hX.out.2.1 x (by rw [hJ.out.1]; simp)).1
      have hx1 := hxn.1
      have hx2 := hxn.2
      obtain ⟨g, cc, hv, hcc, t0⟩ := hJ.out.2.1.form (ys := ys) (x := x) hyx
      subst hv
      have hyl : ys.length < 1000000 := by
        have h1 : (ys ++ [x]).length ≤ (L ++ n :: U).length := by rw [← hyx, hJ.out.1]; simp <;> omega
        have h2 := hUl.out; simp at h1 h2; omega
      obtain ⟨c0, c1, c2, c3, c4, c5, c6, c7⟩ := hJ.out.2.1.cs
      have f4 := free_at hJ.out.2.1.cell 4
      clear c0 c1 c2 c3 c5 c6 c7
      have hw1 : wrap64 (ys.length : Int) = (ys.length : Int) := by unfold wrap64; omega
      obtain ⟨m, hm⟩ : ∃ m, ys.length = m := ⟨_, rfl⟩
      rw [hm] at hw1 hyl hcc t0 c4
      have hC := Aside0.mk (And.intro hcase (And.intro hyx (And.intro hm hR)))
      have hm0 : m < 1000000 := hyl
      clear hcase hyx hm hR hyl hxn
      go_wp2_with fail
      go_quiet (fail)
      obtain ⟨V, hV⟩ : ∃ V, wr.drewN nq = V := ⟨_, rfl⟩
      have hJ1 : FS G A c w V p b1 b2 b3 b4 (.slice (some ⟨g, 0, none⟩) (m + 1) cc) (d.off (L ++ n :: R) P.reverse) := by
        rw [← hV, ← hC.out.2.2.1]; exact hJ.out.2.1.step (below_drewN (Below.refl _ wr) nq)
      have hK1 : Kp (FT p b1 b2 b3 b4 vs) w9 V := by
        rw [← hV]; exact hJ.out.2.2.1.drewN nq
      rw [hV]
      have hJ2 := hJ1.cut (ys := ys) (x := x) (cc := cc) hC.out.2.1 (by rw [hC.out.2.2.1])
      rw [hC.out.2.2.1] at hJ2
      have hJ3 := hJ2.set3 x.toNat false
      have hJ4 := hJ3.set4 x.toNat d.cnt
      have hK4 : Kp (FT p b1 b2 b3 b4 vs) w9 (((V.setCell ⟨p, 4, none⟩ (.slice (some ⟨g, 0, none⟩) m cc)).setCell ⟨b3, x.toNat, none⟩ (.bool false)).setCell ⟨b4, x.toNat, none⟩ (.int .i64 d.cnt)) :=
        ((hK1.setCell (p := ⟨p, 4, none⟩) (.inl (.inl rfl)) _).setCell (p := ⟨b3, x.toNat, none⟩) (.inl (.inr (.inr (.inr (.inl rfl))))) _).setCell (p := ⟨b4, x.toNat, none⟩) (.inl (.inr (.inr (.inr (.inr (.inl rfl)))))) _
      obtain ⟨a0, a1, a2, a3, a4, a5, a6, a7⟩ := hJ1.cs
      have e4 := free_at hJ1.cell 4
      obtain ⟨k0, k1, k2, k3, k4, k5, k6, k7⟩ := hJ2.cs
      obtain ⟨o3, g3⟩ := hJ2.o3 hx1 hx2
      obtain ⟨l0, l1, l2, l3, l4, l5, l6, l7⟩ := hJ3.cs
      obtain ⟨o4, g4⟩ := hJ3.o4 hx1 hx2
      have l6' : ((V.setCell ⟨p, 4, none⟩ (.slice (some ⟨g, 0, none⟩) m cc)).setCell ⟨b3, x.toNat, none⟩ (.bool false)).cell? ⟨p, 6, none⟩ = some (.int .i64 d.cnt) := l6
      have hJ5 := Aside0.mk (And.intro hJ4 hK4)
      clear hJ1 hJ2 hJ3 hJ4 hK4 hK1 hV c4 t0 f4 a0 a1 a2 a3 a5 a6 a7 k0 k1 k2 k4 k5 k6 k7 l0 l1 l2 l3 l4 l6 l7
      go_wp2_with fail
      go_region
      go_wp2_with fail
      go_region
      obtain ⟨X, hX9⟩ : ∃ X, (((V.setCell ⟨p, 4, none⟩ (.slice (some ⟨g, 0, none⟩) m cc)).setCell ⟨b3, x.toNat, none⟩ (.bool false)).setCell ⟨b4, x.toNat, none⟩ (.int .i64 d.cnt)).drew.drew = X := ⟨_, rfl⟩
      have hJ6 : Aside0 (FS G A c w X p b1 b2 b3 b4 (.slice (some ⟨g, 0, none⟩) m cc) (d.off ys (x :: P).reverse) ∧ Kp (FT p b1 b2 b3 b4 vs) w9 X) := by
        refine ⟨?_, by rw [← hX9]; exact hJ5.out.2.drew.drew⟩
        have h1 := hJ5.out.1.step (W := X) (by rw [← hX9]; exact below_drew1 (below_drew1 (Below.refl _ _)))
        have h2 : d.off ys (x :: P).reverse = { d.off (L ++ n :: R) P.reverse with stk := ys, on := (d.off (L ++ n :: R) P.reverse).on.set x.toNat false, comp := (d.off (L ++ n :: R) P.reverse).comp.set x.toNat d.cnt } := by
          unfold FD.off
          simp only [List.reverse_cons, putAll_snoc]
        rw [h2]
        exact h1
      rw [hX9]
      clear hJ5 hX9 e4 a4 k3 o3 g3 o4 g4 l5 l6'
      rcases hC.out.1 with ⟨hx, hR0, hy0⟩ | ⟨hx, R', hR0, hy0⟩
      · have h0 : d' = { d.off L (x :: P).reverse with cnt := d.cnt + 1 } := by rw [hD3.out, hJ.out.1, hR0, hx]; rfl
        have hJ7 : Aside0 (FS G A c w X p b1 b2 b3 b4 (.slice (some ⟨g, 0, none⟩) m cc) (d.off L (x :: P).reverse) ∧ Kp (FT p b1 b2 b3 b4 vs) w9 X) := by rw [← hy0]; exact hJ6
        have d2 : (x == n) = true := by simp [hx]
        have hw2 : wrap64 (d.cnt + 1) = d.cnt + 1 := by unfold wrap64; omega
        obtain ⟨_, _, _, _, _, _, c6, _⟩ := hJ7.out.1.cs
        have c6' : X.cell? ⟨p, 6, none⟩ = some (.int .i64 d.cnt) := c6
        have f6 := free_at hJ7.out.1.cell 6
        have hF : ∃ vs', FS G A c w (X.setCell ⟨p, 6, none⟩ (.int .i64 (d.cnt + 1))) p b1 b2 b3 b4 vs' d' ∧ Kp (FT p b1 b2 b3 b4 vs) w9 (X.setCell ⟨p, 6, none⟩ (.int .i64 (d.cnt + 1))) := by
          rw [h0]
          exact ⟨_, hJ7.out.1.setCnt (d.cnt + 1), hJ7.out.2.setCell (p := ⟨p, 6, none⟩) (.inl (.inl rfl)) _⟩
        have hF' := Aside0.mk hF
        clear hF hJ6 hJ7 h0 c6 hR0 hy0 hJ hC hX hD3
        go_wp2_with fail
        go_end0
        exact ⟨rfl, hF'.out⟩
      · have d2 : (x == n) = false := by simp [hx]
        obtain ⟨gk1, rfl⟩ : ∃ q, gk = q + 1 := ⟨R'.length, by rw [← hC.out.2.2.2, hR0]; simp⟩
        have hg9 : R'.length = gk1 := by have := hC.out.2.2.2; rw [hR0] at this; simpa using this
        have hE : Aside0 (U = R' ++ (x :: P) ∧ FS G A c w X p b1 b2 b3 b4 (.slice (some ⟨g, 0, none⟩) m cc) (d.off (L ++ n :: R') (x :: P).reverse) ∧ Kp (FT p b1 b2 b3 b4 vs) w9 X ∧ ∀ k, (Value.slice (some ⟨g, 0, none⟩) m cc).ownBlock = some k → vs.ownBlock = some k) := by
          refine ⟨by rw [hJ.out.1, hR0]; simp, by rw [← hy0]; exact hJ6.out.1, hJ6.out.2, fun k hk => hJ.out.2.2.2 k hk⟩
        have hgk : gk1 < gk1 + 1 := by omega
        clear hJ6 hJ hC hR0 hy0 hx
        go_wp2_with fail
        go_roundg gk1
        case rel => exact ⟨R', x :: P, _, hg9, hE⟩
        case measure => exact hgk
  · have d1 : (rd d.low n != rd d.ord n) = true := by simp [hlo]
    have hD2 : d' = d := by rw [hD.out, if_neg hlo]
    subst hD2
    clear hlo hD
    go_wp2_with fail
    go_quiet (fail)
    have hF : ∃ vs', FS G A c w (wr.drewN nq) p b1 b2 b3 b4 vs' d' ∧ Kp (FT p b1 b2 b3 b4 vs) wr (wr.drewN nq) := ⟨vs, hX.out.1.step (below_drewN (Below.refl _ wr) nq), (Kp.refl _ wr).drewN nq⟩
    go_wp2
    refine bodyPost_ret (results_none rfl _ _ _) rfl ?_
    exact ⟨rfl, hF⟩
end
end Go.Proofs.Ytmlikgmcekofbaa
end

section
/- What the finder holds, and Tarjan's invariant: the steps of the search on the finder's rows. -/
set_option linter.unusedVariables false
set_option linter.unusedSimpArgs false
set_option linter.unusedSectionVars false
namespace Go.Proofs.Ytmlikgmcekofbaa
open Go.RowKit Go.Proofs.YtmlikgmcekofbaaW.PrintWords Go.Proofs.Ytmlikgmcekofbaa.PDigraphTells Mem

/-- A row as a table. -/
def tb (l : List Int) (x : Int) : Int := if 0 ≤ x then l.getD x.toNat 0 else 0
theorem tb_rd {l : List Int} {x : Int} (h0 : 0 ≤ x) (h : x < l.length) : tb l x = rd l x := by
  have h1 : x.toNat < l.length := by omega
  have h2 : rd l x = l[x.toNat] := by rw [← rd_get l x.toNat h1, Int.toNat_of_nonneg h0]
  unfold tb; rw [if_pos h0, h2]; simp [h1]
theorem tb_set {l : List Int} {s : Int} (h0 : 0 ≤ s) (h : s < l.length) (v : Int) : tb (l.set s.toNat v) = Grf.Tj.put (tb l) s v := by
  funext x
  unfold tb Grf.Tj.put
  by_cases e : x = s
  · subst e
    rw [if_pos h0, if_pos rfl]
    have h1 : x.toNat < l.length := by omega
    simp [h1]
  · rw [if_neg e]
    show (if 0 ≤ x then (l.set s.toNat v).getD x.toNat 0 else 0) = if 0 ≤ x then l.getD x.toNat 0 else 0
    by_cases hx : 0 ≤ x
    · rw [if_pos hx, if_pos hx]
      have h1 : s.toNat ≠ x.toNat := by omega
      simp [List.getD_eq_getElem?_getD, List.getElem?_set_ne h1]
    · rw [if_neg hx, if_neg hx]
theorem rdB_set {l : List Bool} {s x : Int} (h0 : 0 ≤ s) (h : s < l.length) (hx : 0 ≤ x) (v : Bool) : rdOf false (l.set s.toNat v) x = if x = s then v else rdOf false l x := by
  unfold rdOf
  by_cases e : x = s
  · subst e
    have h1 : x.toNat < l.length := by omega
    simp [hx, h1]
  · rw [if_neg e]
    have h1 : s.toNat ≠ x.toNat := by omega
    simp [hx, List.getD_eq_getElem?_getD, List.getElem?_set_ne h1]
theorem tb_all {v : Int} : ∀ (P : List Int) (l : List Int), (∀ x ∈ P, 0 ≤ x ∧ x < l.length) → ∀ x, tb (putAll l P v) x = if x ∈ P then v else tb l x
  | [], l, _, x => by simp [putAll]
  | s :: P, l, h, x => by
    have hs := h s List.mem_cons_self
    show tb (putAll (l.set s.toNat v) P v) x = _
    rw [tb_all P _ (fun y hy => by simpa using h y (List.mem_cons_of_mem _ hy)) x, tb_set hs.1 hs.2]
    unfold Grf.Tj.put
    by_cases e : x = s
    · subst e; simp
    · by_cases hP : x ∈ P <;> simp [e, hP]
theorem rdB_all {v : Bool} : ∀ (P : List Int) (l : List Bool), (∀ x ∈ P, 0 ≤ x ∧ x < l.length) → ∀ x, 0 ≤ x → rdOf false (putAll l P v) x = if x ∈ P then v else rdOf false l x
  | [], l, _, x, _ => by simp [putAll]
  | s :: P, l, h, x, hx => by
    have hs := h s List.mem_cons_self
    show rdOf false (putAll (l.set s.toNat v) P v) x = _
    rw [rdB_all P _ (fun y hy => by simpa using h y (List.mem_cons_of_mem _ hy)) x hx, rdB_set hs.1 hs.2 hx]
    by_cases e : x = s
    · subst e; simp
    · by_cases hP : x ∈ P <;> simp [e, hP]

theorem cnt_mark_le (m : Grf.Met) (s : Int) : ∀ (V : List Int), V.Nodup → Grf.cnt V m ≤ Grf.cnt V (Grf.mark m s) + 1
  | [], _ => by simp [Grf.cnt]
  | a :: V, h => by
    obtain ⟨h1, h2⟩ := List.nodup_cons.1 h
    have ih := cnt_mark_le m s V h2
    unfold Grf.cnt at ih ⊢
    by_cases e : a = s
    · subst e
      have h3 : V.filter (fun x => !Grf.mark m a x) = V.filter (fun x => !m x) := List.filter_congr (fun x hx => by
        have : x ≠ a := fun e => h1 (e ▸ hx)
        simp [Grf.mark, this])
      have h4 : Grf.mark m a a = true := (Grf.mark_iff m a a).2 (.inl rfl)
      rw [List.filter_cons, List.filter_cons, h4, h3]
      split <;> simp
    · have h4 : Grf.mark m s a = m a := by simp [Grf.mark, e]
      rw [List.filter_cons, List.filter_cons, h4]
      split
      · simp only [List.length_cons]; omega
      · exact ih
def visd (d : FD) : Grf.Met := fun x => decide (tb d.ord x ≠ 0)
structure TI (G : List (List Int)) (d : FD) (C : List (Int × Nat)) (ct nx : Nat) : Prop where
  inv : Grf.Tj.Inv (adj G) (nodes G) (tb d.ord) (tb d.low) d.stk.reverse C (tb d.comp) ct nx
  on : ∀ x, isNode G x → (rdOf false d.on x = true ↔ x ∈ d.stk)
  hc : d.cnt = ct
  hn : d.nxt = nx
  len : d.ord.length = G.length ∧ d.low.length = G.length ∧ d.on.length = G.length ∧ d.comp.length = G.length
  cn : nx + Grf.cnt (nodes G) (visd d) = G.length
  ce : ct + d.stk.length ≤ nx
section
variable {G : List (List Int)} {d : FD} {C : List (Int × Nat)} {ct nx : Nat}
theorem TI.stkN (h : TI G d C ct nx) {x : Int} (hx : x ∈ d.stk) : isNode G x := (mem_nodes G x).1 (h.inv.ordV x (h.inv.sv x (List.mem_reverse.2 hx)))
theorem TI.callN (h : TI G d C ct nx) {c : Int × Nat} (hc : c ∈ C) : isNode G c.1 := h.stkN (List.mem_reverse.1 (h.inv.cs c hc))
theorem TI.rdO (h : TI G d C ct nx) {x : Int} (hx : isNode G x) : tb d.ord x = rd d.ord x := tb_rd hx.1 (by rw [h.len.1]; exact hx.2)
theorem TI.rdL (h : TI G d C ct nx) {x : Int} (hx : isNode G x) : tb d.low x = rd d.low x := tb_rd hx.1 (by rw [h.len.2.1]; exact hx.2)
theorem TI.le (h : TI G d C ct nx) : nx ≤ G.length ∧ ct ≤ G.length ∧ d.stk.length ≤ G.length := by have := h.cn; have := h.ce; omega
/-- What enter does. -/
def FD.ent (d : FD) (s : Int) : FD := { d with nxt := d.nxt + 1, ord := d.ord.set s.toNat (d.nxt + 1), low := d.low.set s.toNat (d.nxt + 1), stk := d.stk ++ [s], on := d.on.set s.toNat true }
theorem TI.ent_rest (h : TI G d C ct nx) {s : Int} (hs : isNode G s) (h0 : rd d.ord s = 0) {C' : List (Int × Nat)} (hI : Grf.Tj.Inv (adj G) (nodes G) (Grf.Tj.put (tb d.ord) s (nx + 1 : Nat)) (Grf.Tj.put (tb d.low) s (nx + 1 : Nat)) (s :: d.stk.reverse) C' (tb d.comp) ct (nx + 1)) :
    TI G (d.ent s) C' ct (nx + 1) ∧ Grf.cnt (nodes G) (visd (d.ent s)) + 1 = Grf.cnt (nodes G) (visd d) ∧ (∀ x, visd d x = true → visd (d.ent s) x = true) ∧ visd (d.ent s) s = true := by
  have hl := h.len
  have e1 : tb (d.ent s).ord = Grf.Tj.put (tb d.ord) s (nx + 1 : Nat) := by
    show tb (d.ord.set s.toNat (d.nxt + 1)) = _
    rw [tb_set hs.1 (by rw [hl.1]; exact hs.2), h.hn]; rfl
  have e2 : tb (d.ent s).low = Grf.Tj.put (tb d.low) s (nx + 1 : Nat) := by
    show tb (d.low.set s.toNat (d.nxt + 1)) = _
    rw [tb_set hs.1 (by rw [hl.2.1]; exact hs.2), h.hn]; rfl
  have e3 : visd (d.ent s) = Grf.mark (visd d) s := by
    funext x
    unfold visd Grf.mark
    rw [e1]
    unfold Grf.Tj.put
    by_cases e : x = s
    · rw [if_pos e, if_pos e]; exact decide_eq_true (by omega)
    · rw [if_neg e, if_neg e]
  have hm : visd d s = false := by unfold visd; rw [h.rdO hs, h0]; rfl
  have e4 := Grf.cnt_mark ((mem_nodes G s).2 hs) hm
  have e5 : Grf.cnt (nodes G) (visd d) ≤ Grf.cnt (nodes G) (Grf.mark (visd d) s) + 1 := by
    have := cnt_mark_le (visd d) s (nodes G) (nodes_nd G)
    omega
  refine ⟨⟨?_, fun x hx => ?_, h.hc, ?_, ?_, ?_, ?_⟩, ?_, fun x hx => ?_, ?_⟩
  · rw [e1, e2]
    show Grf.Tj.Inv _ _ _ _ (d.stk ++ [s]).reverse _ _ _ _
    rw [List.reverse_append]
    exact hI
  · show rdOf false (d.on.set s.toNat true) x = true ↔ x ∈ d.stk ++ [s]
    rw [rdB_set hs.1 (by rw [hl.2.2.1]; exact hs.2) hx.1]
    by_cases e : x = s
    · simp [e]
    · rw [if_neg e, h.on x hx]; simp [e]
  · show d.nxt + 1 = _
    rw [h.hn]; rfl
  · unfold FD.ent; simpa using hl
  · rw [e3]; have := h.cn; omega
  · show ct + (d.stk ++ [s]).length ≤ _
    have := h.ce; simp; omega
  · rw [e3]; omega
  · rw [e3]; exact (Grf.mark_iff _ _ _).2 (.inr hx)
  · rw [e3]; exact (Grf.mark_iff _ _ _).2 (.inl rfl)
theorem TI.begin (h : TI G d [] ct nx) {s : Int} (hs : isNode G s) (h0 : rd d.ord s = 0) :
    TI G (d.ent s) [(s, 0)] ct (nx + 1) ∧ Grf.cnt (nodes G) (visd (d.ent s)) + 1 = Grf.cnt (nodes G) (visd d) ∧ (∀ x, visd d x = true → visd (d.ent s) x = true) ∧ visd (d.ent s) s = true := by
  have he := h.inv.empty
  have hi := h.inv
  rw [he] at hi
  refine h.ent_rest hs h0 ?_
  rw [he]
  exact hi.begin ((mem_nodes G s).2 hs) (by rw [h.rdO hs]; exact h0)
theorem TI.new (hG : okG G) {n s : Int} {i : Nat} (h : TI G d ((n, i) :: C) ct nx) (hi : i < (adj G n).length) (e : (adj G n)[i] = s) (h0 : rd d.ord s = 0) :
    TI G (d.ent s) ((s, 0) :: (n, i + 1) :: C) ct (nx + 1) ∧ Grf.cnt (nodes G) (visd (d.ent s)) + 1 = Grf.cnt (nodes G) (visd d) ∧ (∀ x, visd d x = true → visd (d.ent s) x = true) ∧ visd (d.ent s) s = true := by
  have hs : isNode G s := hG.adj (h.callN List.mem_cons_self) (e ▸ List.getElem_mem hi)
  exact h.ent_rest hs h0 (h.inv.new hG.cl hi e (by rw [h.rdO hs]; exact h0))
theorem TI.old (hG : okG G) {n s : Int} {i : Nat} (h : TI G d ((n, i) :: C) ct nx) (hi : i < (adj G n).length) (e : (adj G n)[i] = s) (h0 : rd d.ord s ≠ 0) (h1 : rdOf false d.on s = false) : TI G d ((n, i + 1) :: C) ct nx := by
  have hs : isNode G s := hG.adj (h.callN List.mem_cons_self) (e ▸ List.getElem_mem hi)
  subst e
  refine ⟨h.inv.old hi (by rw [h.rdO hs]; exact h0) (fun hc => ?_), h.on, h.hc, h.hn, h.len, h.cn, h.ce⟩
  have := (h.on _ hs).2 (List.mem_reverse.1 hc)
  rw [h1] at this; cases this
/-- What lower does. -/
def FD.lo (d : FD) (n u : Int) : FD := { d with low := d.low.set n.toNat (min (rd d.low n) u) }
theorem FD.lo_tb (hl : d.low.length = G.length) {n : Int} (hn : isNode G n) (u : Int) : tb (d.lo n u).low = Grf.Tj.put (tb d.low) n (min (tb d.low n) u) := by
  show tb (d.low.set n.toNat (min (rd d.low n) u)) = _
  rw [tb_set hn.1 (by rw [hl]; exact hn.2), tb_rd hn.1 (by rw [hl]; exact hn.2)]
theorem TI.lower (hG : okG G) {n s : Int} {i : Nat} (h : TI G d ((n, i) :: C) ct nx) (hi : i < (adj G n).length) (e : (adj G n)[i] = s) (h1 : rdOf false d.on s = true) : TI G (d.lo n (rd d.ord s)) ((n, i + 1) :: C) ct nx := by
  have hs : isNode G s := hG.adj (h.callN List.mem_cons_self) (e ▸ List.getElem_mem hi)
  have hn : isNode G n := h.callN List.mem_cons_self
  have h2 := h.inv.lower hi e (List.mem_reverse.2 ((h.on s hs).1 h1))
  refine ⟨?_, h.on, h.hc, h.hn, ?_, h.cn, h.ce⟩
  · rw [FD.lo_tb h.len.2.1 hn, ← h.rdO hs]; exact h2
  · have := h.len; unfold FD.lo; simpa using this
/-- The place of the top node in the stack. -/
theorem TI.split {n : Int} {i : Nat} (h : TI G d ((n, i) :: C) ct nx) : ∃ L U, d.stk = L ++ n :: U ∧ ∀ x ∈ U, isNode G x ∧ x ≠ n := by
  obtain ⟨L, U, e⟩ := List.append_of_mem (List.mem_reverse.1 (h.inv.cs (n, i) List.mem_cons_self))
  refine ⟨L, U, e, fun x hx => ⟨h.stkN (by rw [e]; simp [hx]), fun e1 => ?_⟩⟩
  subst e1
  have h1 := h.inv.sp
  simp only at e
  rw [e, List.reverse_append, List.reverse_cons, List.append_assoc] at h1
  have := (List.pairwise_append.1 h1).2.2 x (List.mem_reverse.2 hx) x (by simp)
  omega
/-- What the end of a visit does to the parent. -/
def FD.par (d : FD) (n : Int) (C : List (Int × Nat)) : FD :=
  match C with
  | [] => d
  | (p, _) :: _ => d.lo p (rd d.low n)
theorem FD.par_tb (hl : d.low.length = G.length) {n : Int} (hn : isNode G n) (hC : ∀ c ∈ C, isNode G c.1) : tb (d.par n C).low = Grf.Tj.lowP (tb d.low) n C := by
  unfold FD.par Grf.Tj.lowP
  rcases C with _ | ⟨⟨p, j⟩, C⟩
  · rfl
  · simp only
    rw [FD.lo_tb hl (hC (p, j) List.mem_cons_self), tb_rd hn.1 (by rw [hl]; exact hn.2)]
theorem FD.par_same (d : FD) (n : Int) (C : List (Int × Nat)) : (d.par n C).ord = d.ord ∧ (d.par n C).on = d.on ∧ (d.par n C).stk = d.stk ∧ (d.par n C).comp = d.comp ∧ (d.par n C).cnt = d.cnt ∧ (d.par n C).nxt = d.nxt ∧ (d.par n C).low.length = d.low.length := by
  unfold FD.par FD.lo
  rcases C with _ | ⟨⟨p, j⟩, C⟩ <;> simp
theorem TI.leave {n : Int} {i : Nat} (h : TI G d ((n, i) :: C) ct nx) (hi : (adj G n).length ≤ i) {L U : List Int} (e : d.stk = L ++ n :: U) (d' : FD) (hd : d' = if rd d.low n = rd d.ord n then { d.off L (n :: U).reverse with cnt := d.cnt + 1 } else d) :
    ∃ ct', TI G (d'.par n C) C ct' nx ∧ visd (d'.par n C) = visd d := by
  have hn : isNode G n := h.callN List.mem_cons_self
  have hC : ∀ c ∈ C, isNode G c.1 := fun c hc => h.callN (List.mem_cons_of_mem _ hc)
  obtain ⟨q1, q2, q3, q4, q5, q6, q7⟩ := FD.par_same d' n C
  by_cases hlo : rd d.low n = rd d.ord n
  · rw [if_pos hlo] at hd
    have hP : ∀ x ∈ (n :: U).reverse, 0 ≤ x ∧ x < G.length := fun x hx => h.stkN (by rw [e]; simp at hx ⊢; rcases hx with hx | hx <;> simp [hx])
    have hin : ∀ x, x ∈ (n :: U).reverse ↔ x ∈ U.reverse ∨ x = n := fun x => by simp [or_comm]
    have hinv := h.inv
    rw [e, List.reverse_append, List.reverse_cons, List.append_assoc] at hinv
    have h1 : d'.comp = putAll d.comp (n :: U).reverse d.cnt := by rw [hd]; rfl
    have h2 : d'.on = putAll d.on (n :: U).reverse false := by rw [hd]; rfl
    have h3 : d'.stk = L := by rw [hd]; rfl
    have h4 : d'.ord = d.ord := by rw [hd]; rfl
    have h5 : d'.low = d.low := by rw [hd]; rfl
    have h6 : d'.cnt = d.cnt + 1 := by rw [hd]
    have h7 : d'.nxt = d.nxt := by rw [hd]; rfl
    have hcomp := tb_all (v := d.cnt) (n :: U).reverse d.comp (fun x hx => by rw [h.len.2.2.2]; exact hP x hx)
    have hpop := Grf.Tj.Inv.pop (comp' := tb (d'.par n C).comp) hinv hi (by rw [h.rdL hn, h.rdO hn]; exact hlo)
      (fun x hx => by rw [q4, h1, hcomp, if_pos ((hin x).2 hx), h.hc]) (fun x hx => by rw [q4, h1, hcomp, if_neg (fun hh => hx ((hin x).1 hh))])
    refine ⟨ct + 1, ⟨?_, fun x hx => ?_, ?_, ?_, ?_, ?_, ?_⟩, ?_⟩
    · rw [q1, q3, h3, h4, FD.par_tb (by rw [h5]; exact h.len.2.1) hn hC, h5]
      exact hpop
    · rw [q2, q3, h2, h3, rdB_all _ _ (fun x hx => by rw [h.len.2.2.1]; exact hP x hx) x hx.1]
      by_cases hxP : x ∈ (n :: U).reverse
      · rw [if_pos hxP]
        refine ⟨fun hh => (by cases hh), fun hxL => ?_⟩
        have hsp := h.inv.sp
        rw [e, List.reverse_append, List.reverse_cons] at hsp
        have := (List.pairwise_append.1 hsp).2.2 x (by rw [hin] at hxP; simpa using hxP) x (List.mem_reverse.2 hxL)
        omega
      · rw [if_neg hxP, h.on x hx, e]
        have : x ≠ n ∧ x ∉ U := ⟨fun e => hxP ((hin x).2 (.inr e)), fun hh => hxP ((hin x).2 (.inl (List.mem_reverse.2 hh)))⟩
        simp [this.1, this.2]
    · rw [q5, h6, h.hc]; rfl
    · rw [q6, h7, h.hn]
    · rw [q1, q7, q2, q4, h1, h2, h4, h5, putAll_len, putAll_len]; exact h.len
    · have : visd (d'.par n C) = visd d := by unfold visd; rw [q1, h4]
      rw [this]; exact h.cn
    · rw [q3, h3]; have := h.ce; rw [e] at this; simp at this; omega
    · unfold visd; rw [q1, h4]
  · rw [if_neg hlo] at hd
    subst hd
    refine ⟨ct, ⟨?_, fun x hx => ?_, ?_, ?_, ?_, ?_, ?_⟩, ?_⟩
    · rw [q1, q3, q4, FD.par_tb h.len.2.1 hn hC]
      exact h.inv.stay hi (by rw [h.rdL hn, h.rdO hn]; exact hlo)
    · rw [q2, q3]; exact h.on x hx
    · rw [q5]; exact h.hc
    · rw [q6]; exact h.hn
    · rw [q1, q7, q2, q4]; exact h.len
    · have : visd (d'.par n C) = visd d' := by unfold visd; rw [q1]
      rw [this]; exact h.cn
    · rw [q3]; exact h.ce
    · unfold visd; rw [q1]
end
end Go.Proofs.Ytmlikgmcekofbaa
end

section
/- scc: visit. -/
set_option linter.unusedVariables false
set_option linter.unusedSimpArgs false
set_option linter.unusedSectionVars false
namespace Go.Proofs.Ytmlikgmcekofbaa
open Go.RowKit Go.Proofs.YtmlikgmcekofbaaW.PrintWords Go.Proofs.Ytmlikgmcekofbaa.PDigraphTells Mem

theorem ty_ne {w : World} {a b t t' : Nat} {x y : Array Value} (h : w.heap[a]? = some (.cells x t (0, 0))) (k : w.heap[b]? = some (.cells y t' (0, 0))) (hne : t ≠ t') : a ≠ b := fun e => by
  subst e; rw [h] at k; injection k with k; injection k with _ k; exact hne k
/-- The search in memory: the finder, the captured pointer to it at fb, the calls xs (the last is the top) in v. -/
structure VI (G : List (List Int)) (A : Option Addr) (c : Nat) (w wr : World) (p b1 b2 b3 b4 fb : Nat) (vs : Value) (d : FD) (v : Value) (xs : List (Int × Nat)) : Prop where
  fs : FS G A c w wr p b1 b2 b3 b4 vs d
  fbc : wr.heap[fb]? = some (.cells #[.pointer (some ⟨p, 0, none⟩)] 48 (0, 0))
  fbn : w.heap.size ≤ fb
  row : Kd.R kF 58 wr 0 (fun k => v.ownBlock = some k) v xs
  rown : ∀ k, v.ownBlock = some k → w.heap.size ≤ k
section
variable {G : List (List Int)} {A : Option Addr} {c : Nat} {w wr W : World} {p b1 b2 b3 b4 fb : Nat} {vs vs' v : Value} {d d' : FD} {xs : List (Int × Nat)}
theorem FS.apartT (h : FS G A c w wr p b1 b2 b3 b4 vs d) {k t : Nat} {cs : Array Value} (hk : wr.heap[k]? = some (.cells cs t (0, 0))) (h3 : t ≠ 3) (h4 : t ≠ 4) (h5 : t ≠ 50) : ¬ FT p b1 b2 b3 b4 vs k ∧ k ≠ p ∧ k ≠ b1 ∧ k ≠ b2 ∧ k ≠ b3 ∧ k ≠ b4 ∧ vs.ownBlock ≠ some k := by
  have n0 := ty_ne hk h.cell h5
  have n1 := ty_ne hk h.h1 h3
  have n2 := ty_ne hk h.h2 h3
  have n3 := ty_ne hk h.h3 h4
  have n4 := ty_ne hk h.h4 h3
  have n5 : vs.ownBlock ≠ some k := fun e => by
    obtain ⟨cells, hc⟩ := own_typed h.st.1 k e
    exact ty_ne hk hc h3 rfl
  refine ⟨fun hf => ?_, n0, n1, n2, n3, n4, n5⟩
  rcases hf with e | e | e | e | e | e
  · exact n0 e
  · exact n1 e
  · exact n2 e
  · exact n3 e
  · exact n4 e
  · exact n5 e
theorem VI.rowT (h : VI G A c w wr p b1 b2 b3 b4 fb vs d v xs) (k : Nat) (hk : v.ownBlock = some k) : ¬ FT p b1 b2 b3 b4 vs k ∧ k ≠ p ∧ k ≠ b1 ∧ k ≠ b2 ∧ k ≠ b3 ∧ k ≠ b4 ∧ k ≠ fb := by
  obtain ⟨cells, hc⟩ := Kd.R_typed h.row k hk
  obtain ⟨n0, n1, n2, n3, n4, n5, _⟩ := h.fs.apartT hc (by decide) (by decide) (by decide)
  exact ⟨n0, n1, n2, n3, n4, n5, ty_ne hc h.fbc (by decide)⟩
/-- The finder's methods leave the calls alone. -/
theorem VI.fin (h : VI G A c w wr p b1 b2 b3 b4 fb vs d v xs) (hF : FS G A c w W p b1 b2 b3 b4 vs' d') (hk : Kp (FT p b1 b2 b3 b4 vs) wr W) : VI G A c w W p b1 b2 b3 b4 fb vs' d' v xs :=
  ⟨hF, hk.blk h.fbc (h.fs.apartT h.fbc (by decide) (by decide) (by decide)).1, h.fbn, Kd.R_step h.row (fun k hk1 hlt => hk.block hlt (h.rowT k hk1).1), h.rown⟩
theorem VI.step (h : VI G A c w wr p b1 b2 b3 b4 fb vs d v xs) (hb : Below wr.heap.size wr W) : VI G A c w W p b1 b2 b3 b4 fb vs d v xs := h.fin (h.fs.step hb) (Kp.of_below hb _)
theorem VI.form (h : VI G A c w wr p b1 b2 b3 b4 fb vs d v xs) (hp : 0 < xs.length) : ∃ g cc, v = .slice (some ⟨g, 0, none⟩) xs.length cc ∧ xs.length ≤ cc := by
  obtain ⟨g, cc, e, _⟩ := Kd.R_form h.row hp
  obtain ⟨A1, c1, e1, hle, _⟩ := Kd.R_reads h.row
  rw [e] at e1
  injection e1 with _ _ e2
  exact ⟨g, cc, e, by omega⟩
theorem VI.top {ys : List (Int × Nat)} {x : Int × Nat} {g cc L : Nat} (h : VI G A c w wr p b1 b2 b3 b4 fb vs d (.slice (some ⟨g, 0, none⟩) (L + 1) cc) (ys ++ [x])) (hL : ys.length = L) :
    wr.cell? ⟨g, L * 2, none⟩ = some (.int .i64 x.1) ∧ wr.cell? ⟨g, L * 2 + 1, none⟩ = some (.int .i64 (x.2 : Int)) ∧ wr.frozen? ⟨g, L * 2, none⟩ = false ∧ wr.frozen? ⟨g, L * 2 + 1, none⟩ = false := by
  subst hL
  have h1 := R_atF h.row ys.length (by simp)
  rw [getLast_app] at h1
  exact h1
theorem VI.next {ys : List (Int × Nat)} {n : Int} {i : Nat} {g cc L : Nat} (h : VI G A c w wr p b1 b2 b3 b4 fb vs d (.slice (some ⟨g, 0, none⟩) (L + 1) cc) (ys ++ [(n, i)])) (hL : ys.length = L) (t : Nat) :
    VI G A c w (wr.setCell ⟨g, L * 2 + 1, none⟩ (.int .i64 (t : Int))) p b1 b2 b3 b4 fb vs d (.slice (some ⟨g, 0, none⟩) (L + 1) cc) (ys ++ [(n, t)]) := by
  subst hL
  obtain ⟨h1, h2⟩ := R_nextF h.row ys.length (by simp) t
  rw [getLast_app, set_last] at h1
  obtain ⟨n0, n1, n2, n3, n4, n5, n6⟩ := h.rowT g rfl
  have hg := h.rown g rfl
  refine ⟨h.fs.apart h2 (fun k hk => ?_) (fun k hk e => ?_), h2.blk h.fbc (fun e => ?_), h.fbn, h1, h.rown⟩
  · simp only [Value.ownBlock, Option.some.injEq] at hk; subst hk; exact ⟨hg, n1, n2, n3, n4, n5⟩
  · simp only [Value.ownBlock, Option.some.injEq] at e; subst e; exact n0 (.inr (.inr (.inr (.inr (.inr hk)))))
  · simp only [Value.ownBlock, Option.some.injEq] at e; exact n6 e
theorem VI.push {x : Int × Nat} {v1 : Value} {ok : Nat → Prop} (h : VI G A c w wr p b1 b2 b3 b4 fb vs d v xs) (hR : Kd.R kF 58 W 0 ok v1 (xs ++ [x])) (hg : wr.grownBy W v.ownBlock) (hat : v1.ownBlock = v.ownBlock ∨ ∃ b, v1.ownBlock = some b ∧ wr.heap.size ≤ b) : VI G A c w W p b1 b2 b3 b4 fb vs d v1 (xs ++ [x]) := by
  have hk : Kp (fun k => v.ownBlock = some k) wr W := (Kp.refl _ wr).grown hg (fun k hk => .inl hk)
  refine ⟨h.fs.apart hk (fun k hk => ?_) (fun k hk e => (h.rowT k e).1 (.inr (.inr (.inr (.inr (.inr hk)))))), hk.blk h.fbc (fun e => (h.rowT fb e).2.2.2.2.2.2 rfl), h.fbn, ?_, fun k hk => ?_⟩
  · obtain ⟨n0, n1, n2, n3, n4, n5, n6⟩ := h.rowT k hk
    exact ⟨h.rown k hk, n1, n2, n3, n4, n5⟩
  · obtain ⟨h1, h2⟩ := hR
    exact ⟨fun k hk => hk, h2.imp_ (fun _ _ hp => by obtain rfl := kF_open (kF.K_of_M hp); exact kF_mkM _ _ _ _)⟩
  · rcases hat with e | ⟨b, e, hge⟩
    · exact h.rown k (e ▸ hk)
    · rw [e] at hk; injection hk with hk; have := h.fs.below.size; omega
theorem VI.pop {ys : List (Int × Nat)} {x : Int × Nat} {g cc L : Nat} (h : VI G A c w wr p b1 b2 b3 b4 fb vs d (.slice (some ⟨g, 0, none⟩) (L + 1) cc) (ys ++ [x])) (hL : ys.length = L) : VI G A c w wr p b1 b2 b3 b4 fb vs d (.slice (some ⟨g, 0, none⟩) L cc) ys := by
  subst hL
  have h2 := Kd.R_take (m := ys.length) h.row (by simp)
  rw [take_last] at h2
  exact ⟨h.fs, h.fbc, h.fbn, h2, h.rown⟩
theorem TI.cnt0 {G : List (List Int)} {d : FD} {C : List (Int × Nat)} {ct nx : Nat} (h : TI G d C ct nx) : (0 ≤ d.nxt ∧ d.nxt ≤ G.length) ∧ (0 ≤ d.cnt ∧ d.cnt ≤ G.length) ∧ d.stk.length ≤ G.length := by
  obtain ⟨h1, h2, h3⟩ := h.le
  rw [h.hn, h.hc]; omega
set_option maxRecDepth 100000 in
set_option maxHeartbeats 4000000 in
theorem visit_any {ct nx : Nat} (hC : Kd.C kG w A G.length G) (hs : short G) (hG : okG G) (h : FS G A c w wr p b1 b2 b3 b4 vs d) (hT : TI G d [] ct nx) (r : Int) (hr : isNode G r) (h0 : rd d.ord r = 0) :
    Calls Try.prog 27 #[.pointer (some ⟨p, 0, none⟩), .int .i64 r] wr fun e w' => e = .returned (.tuple #[]) ∧ ∃ vs' d' ct' nx', FS G A c w w' p b1 b2 b3 b4 vs' d' ∧ TI G d' [] ct' nx' ∧ visd d' r = true ∧ ∀ x, visd d x = true → visd d' x = true := by
  obtain ⟨q, hq⟩ : ∃ q, wr.heap.size = q := ⟨_, rfl⟩
  have hle := okG.len hG
  have hbx : (wr.alloc (.cells #[.pointer (some ⟨p, 0, none⟩)] 48)).cell? ⟨wr.heap.size, 0, none⟩ = some (.pointer (some ⟨p, 0, none⟩)) := cell_at (heap_alloc_new wr _) rfl
  rw [hq] at hbx
  have hX := Aside0.mk (And.intro hC (And.intro hs (And.intro hG (And.intro h (And.intro hT (And.intro hr h0))))))
  clear hC hs hG h hT hr h0
  go_enter Try.func27, Try.ntmps27
  go_wp2_with fail
  go_step3
  go_wp2_with fail
  obtain ⟨hb1, hb2, hb3⟩ := hX.out.2.2.2.2.1.cnt0
  refine (enter_any (hX.out.2.2.2.1.step (below_alloc (Below.refl _ wr) (.cells #[.pointer (some ⟨p, 0, none⟩)] 48))) r hX.out.2.2.2.2.2.1.1 hX.out.2.2.2.2.2.1.2 (by omega) (by omega)).mono ?_
  rintro e w2 ⟨rfl, vs2, hF2, hK2⟩
  obtain ⟨hT2, hc2, hv2, hv3⟩ := hX.out.2.2.2.2.1.begin hX.out.2.2.2.2.2.1 hX.out.2.2.2.2.2.2
  have hgn : (wr.alloc (.cells #[.pointer (some ⟨p, 0, none⟩)] 48)).heap[q]? = some (.cells #[.pointer (some ⟨p, 0, none⟩)] 48 (0, 0)) := by rw [← hq]; exact heap_alloc_new wr _
  have hqg : w.heap.size ≤ q := by rw [← hq]; exact hX.out.2.2.2.1.below.size
  have hfb : w2.heap[q]? = some (.cells #[.pointer (some ⟨p, 0, none⟩)] 48 (0, 0)) := hK2.blk hgn ((hX.out.2.2.2.1.step (below_alloc (Below.refl _ wr) (.cells #[.pointer (some ⟨p, 0, none⟩)] 48))).apartT hgn (by decide) (by decide) (by decide)).1
  have hI0 : Aside0 (VI G A c w (w2.alloc (.cells #[.int .i64 r, .int .i64 0] 58)) p b1 b2 b3 b4 q vs2 (d.ent r) (.slice (some ⟨w2.heap.size, 0, none⟩) 1 1) [(r, 0)] ∧ TI G (d.ent r) [(r, 0)] ct (nx + 1) ∧ visd (d.ent r) r = true ∧ ∀ x, visd d x = true → visd (d.ent r) x = true) := by
    refine ⟨⟨hF2.step (below_alloc (Below.refl _ w2) _), ?_, hqg, ?_, fun k hk => ?_⟩, hT2, hv3, hv2⟩
    · rw [Below.heap_alloc _ _ _ (blk_lt' hfb)]; exact hfb
    · have h1 := own_oneF w2 (r, 0)
      exact Kd.R_mono h1 (fun k hk => by rw [hk]; rfl)
    · simp only [Value.ownBlock, Option.some.injEq] at hk; subst hk; exact hF2.below.size
  obtain ⟨w9, rfl⟩ : ∃ w9 : World, w9 = wr := ⟨_, rfl⟩
  have hgS := hX.out.2.1
  clear hF2 hK2 hT2 hc2 hv2 hv3 hgn hqg hfb hbx hb1 hb2 hb3 hq
  go_wp2_with fail
  go_step3
  go_wp2
  go_loopg [5] (2 * Grf.cnt (nodes G) (visd (d.ent r)) + 1) (fun n v5 wi => ∃ (S : List (Int × Nat)) (vs' : Value) (d' : FD) (As : Option Addr) (cs nx' ct' : Nat), v5 = .slice As S.length cs ∧ 2 * Grf.cnt (nodes G) (visd d') + S.length ≤ n ∧ Aside0 (VI G A c w wi p b1 b2 b3 b4 q vs' d' (.slice As S.length cs) S.reverse ∧ TI G d' S ct' nx' ∧ visd d' r = true ∧ ∀ x, visd d x = true → visd d' x = true))
  case atStart => exact ⟨[(r, 0)], vs2, d.ent r, some ⟨w2.heap.size, 0, none⟩, 1, nx + 1, ct, rfl, by simp, hI0⟩
  case round =>
    obtain ⟨S, vs3, d3, As, cs, nx3, ct3, rfl, hM, hJ⟩ := hrel
    clear hI0
    cases S with
    | nil =>
      have hF : ∃ vs' d' ct' nx', FS G A c w wr p b1 b2 b3 b4 vs' d' ∧ TI G d' [] ct' nx' ∧ visd d' r = true ∧ ∀ x, visd d x = true → visd d' x = true := ⟨vs3, d3, ct3, nx3, hJ.out.1.fs, hJ.out.2⟩
      have hF' := Aside0.mk hF
      clear hF hJ hX hM hgS
      go_wp2
      simp only [Exit.noGoto]
      go_end0
      exact ⟨rfl, hF'.out⟩
    | cons top S' =>
      obtain ⟨n, i0⟩ := top
      obtain ⟨g, cc, ev, hcc⟩ := hJ.out.1.form (by simp)
      rw [List.length_reverse] at ev hcc
      injection ev with ev1 ev2 ev3
      subst ev1
      subst ev3
      obtain ⟨ys, hys⟩ : ∃ ys, S'.reverse = ys := ⟨_, rfl⟩
      have hSr : ((n, i0) :: S').reverse = ys ++ [(n, i0)] := by rw [List.reverse_cons, hys]
      have hSl : ((n, i0) :: S').length = S'.length + 1 := rfl
      have hyl : ys.length = S'.length := by rw [← hys, List.length_reverse]
      obtain ⟨L, hL⟩ : ∃ L, S'.length = L := ⟨_, rfl⟩
      have hJ1 := hJ.out.1
      rw [hSr, hSl, hL] at hJ1
      rw [hSl, hL] at hcc hM
      rw [hL] at hyl
      obtain ⟨m, rfl⟩ : ∃ m, gk = m + 1 := ⟨gk - 1, by omega⟩
      have hnn : isNode G n := hJ.out.2.1.callN List.mem_cons_self
      have hLb : L + 1 ≤ 1000000 := by
        have h1 := Grf.Tj.calls_len hJ.out.2.1.inv
        have h2 := hJ.out.2.1.cnt0.2.2
        rw [hSl, hL, List.length_reverse] at h1
        omega
      have hn2a := hnn.1
      have hn2b := hnn.2
      obtain ⟨row, hrow⟩ : ∃ row, rd_L1 G n = row := ⟨_, rfl⟩
      have hrl : row.length < 4611686018427387904 := by rw [← hrow]; exact hgS.2 _ (adj_mem hnn)
      have hI1 : Aside0 (VI G A c w wr p b1 b2 b3 b4 q vs3 d3 (.slice (some ⟨g, 0, none⟩) (L + 1) cs) (ys ++ [(n, i0)]) ∧ TI G d3 ((n, i0) :: S') ct3 nx3 ∧ visd d3 = visd d3) := ⟨hJ1, hJ.out.2.1, rfl⟩
      have hY := Aside0.mk (And.intro hys (And.intro hyl (And.intro hL (And.intro hrow (And.intro hnn (And.intro hJ.out.2.2 hM))))))
      have hw1 : wrap64 (L : Int) = (L : Int) := by unfold wrap64; omega
      rw [hSl, hL]
      clear hys hyl hL hJ hJ1 hSr hSl hrow hnn hM hgS
      go_wp2_with fail
      go_loopg [5] row.length (fun z v5 wi => ∃ (i : Nat) (vs4 : Value) (d4 : FD), v5 = .slice (some ⟨g, 0, none⟩) (L + 1) cs ∧ row.length ≤ i + z ∧ Aside0 (VI G A c w wi p b1 b2 b3 b4 q vs4 d4 (.slice (some ⟨g, 0, none⟩) (L + 1) cs) (ys ++ [(n, i)]) ∧ TI G d4 ((n, i) :: S') ct3 nx3 ∧ visd d4 = visd d3))
      case atStart => exact ⟨i0, vs3, d3, rfl, by omega, ⟨hI1.out.1, hI1.out.2.1, rfl⟩⟩
      case round =>
        obtain ⟨i, vs4, d4, rfl, hi, hJ⟩ := hrel
        clear hI1
        obtain ⟨t0, t1, t2, t3⟩ := hJ.out.1.top hY.out.2.1
        obtain ⟨ad, A1, c1, eA, r0, rl, rC⟩ := at_L1 (Kd.C_below hX.out.1 hJ.out.1.fs.below) n hn2a hn2b
        rw [hY.out.2.2.2.1] at r0 rl rC
        subst eA
        have cq := cell_at (j := 0) hJ.out.1.fbc rfl
        have cp := cell_at (j := 0) hJ.out.1.fs.cell rfl
        have hR := Aside0.mk (And.intro rC rl)
        clear rC rl
        by_cases hlt : i < row.length
        · have hlti : (i : Int) < row.length := by omega
          obtain ⟨gk1, rfl⟩ : ∃ z, gk = z + 1 := ⟨gk - 1, by omega⟩
          have hi2 : row.length ≤ i + 1 + gk1 := by omega
          have hm2 : gk1 < gk1 + 1 := by omega
          have hm3 : m < m + 1 := by omega
          obtain ⟨bd, eB, b0⟩ := Kd.at_int hR.out.1 (i : Int) (by omega) hlti
          rw [rd_get row i hlt, Int.toNat_natCast] at b0
          subst eB
          obtain ⟨s, hs⟩ : ∃ s, row[i] = s := ⟨_, rfl⟩
          have hsn0 : gk1 < gk1 + 1 ∧ row.length ≤ i + 1 + gk1 := ⟨hm2, hi2⟩
          rw [hs] at b0
          have had : i < (adj G n).length := by unfold adj; rw [hY.out.2.2.2.1]; exact hlt
          have hse : (adj G n)[i] = s := by unfold adj; simp only [hY.out.2.2.2.1]; exact hs
          have hsn : isNode G s := okG.adj hX.out.2.2.1 hY.out.2.2.2.2.1 (hse ▸ List.getElem_mem had)
          have hs' : Aside0 (∃ had : i < (adj G n).length, (adj G n)[i] = s ∧ isNode G s) := ⟨had, hse, hsn⟩
          have hs1 := hsn.1
          have hs2 := hsn.2
          clear hs hse hsn had
          have hw2 : wrap64 ((i : Int) + 1) = ((i + 1 : Nat) : Int) := w64 i row.length hlt hrl
          go_wp2_with fail
          go_quiet (fail)
          obtain ⟨z1, hz1⟩ : ∃ z1, z1 = nq := ⟨_, rfl⟩
          rw [← hz1]
          clear hz1
          go_wp2_with fail
          go_quiet (fail)
          obtain ⟨V, hV⟩ : ∃ V, (wr.drewN z1).drewN nq = V := ⟨_, rfl⟩
          have hJV : VI G (some ad) c w V p b1 b2 b3 b4 q vs4 d4 (.slice (some ⟨g, 0, none⟩) (L + 1) cs) (ys ++ [(n, i)]) := by
            rw [← hV]; exact hJ.out.1.step (below_drewN (below_drewN (Below.refl _ wr) _) _)
          have hT4 := hJ.out.2.1
          have hV4 := hJ.out.2.2
          have hN := hJV.next hY.out.2.1 (i + 1)
          rw [show ((i + 1 : Nat) : Int) = (i : Int) + 1 by omega] at hN
          rw [hV]
          clear t0 t1 t2 t3 r0 cq cp b0 hV hJ hlti
          obtain ⟨t0, t1, t2, t3⟩ := hJV.top hY.out.2.1
          have e0 := cell_at (j := 0) hN.fbc rfl
          obtain ⟨k0, k1, k2, k3, k4, k5, k6, k7⟩ := hN.fs.cs
          obtain ⟨o1, g1⟩ := hN.fs.o1 hs1 hs2
          obtain ⟨o3, g3⟩ := hN.fs.o3 hs1 hs2
          obtain ⟨o, ho⟩ : ∃ o, rd d4.ord s = o := ⟨_, rfl⟩
          rw [ho] at o1
          clear k0 k2 k4 k5 k6 k7 g1 g3 hJV
          have hZ := Aside0.mk (And.intro hN (And.intro hT4 (And.intro hV4 ho)))
          clear hN hT4 hV4 ho
          by_cases h0 : o = 0
          · have d2 : (o == 0) = true := by simp [h0]
            have h0' := Aside0.mk (And.intro h0 (And.intro hLb (And.intro hm3 hsn0)))
            clear h0 hi hi2 hm2 hrl hlt hn2a hn2b hcc hw1 k3 o3 hLb hm3 hsn0 t0 t2
            go_wp2_with fail
            obtain ⟨hb1, hb2, hb3⟩ := hZ.out.2.1.cnt0
            have hle := okG.len hX.out.2.2.1
            refine (enter_any hZ.out.1.fs s hs1 hs2 (by omega) (by omega)).mono ?_
            rintro e w3 ⟨rfl, vs5, hF3, hK3⟩
            have hE := hZ.out.1.fin hF3 hK3
            obtain ⟨had, hse, hsn⟩ := hs'.out
            obtain ⟨hT5, hc5, hv5, hv6⟩ := hZ.out.2.1.new hX.out.2.2.1 had hse (by rw [hZ.out.2.2.2]; exact h0'.out.1)
            have hP := Aside0.mk (And.intro hE (And.intro hT5 (And.intro hc5 hv5)))
            clear hF3 hK3 hE hT5 hc5 hv5 hv6 hsn k1 o1 d2 e0 t1 t3 hb1 hb2 hb3 hle
            have e9 : (ys ++ [(n, i + 1)] ++ [(s, 0)]).length = L + 2 := by simp [hY.out.2.1]
            have e8 : (ys ++ [(n, i + 1)]).length = L + 1 := by simp [hY.out.2.1]
            have e9' := Aside0.mk (And.intro e9 e8)
            clear e9 e8
            go_wp2_with (at_builtin; refine Kd.R_append kF (w0 := w3) 0 (by rfl) (.tmp 71) (.tmp 75) 60 58 (.agg #[.int .i64 0, .int .i64 0]) 16 (by rfl) Try.underlying60 infoF rfl (by decide) (by decide) (.slice (some ⟨g, 0, none⟩) (L + 1) cs) (ys ++ [(n, i + 1)]) (s, 0) [.int .i64 s, .int .i64 0] (fun k => (Value.slice (some ⟨g, 0, none⟩) (L + 1) cs).ownBlock = some k ∨ w3.heap.size ≤ k) (fun _ => False) (by rfl) (by rfl) (kF_mkM _ _ _ (s, 0)) (fun _ h => h.elim) (fun k hk => .inr hk) (Kd.R_mono hP.out.1.row (fun k hk => .inl hk)) ((Kp.refl (fun _ => False) w3).belowB (fun _ h => h.elim) (Nat.zero_le _)) (Nat.zero_le _) (by rw [e9'.out.2]; have := h0'.out.2.1; omega) ?_; intro v1 wa hRA hBA hgA hatA; have hE9 := hP.out.1.push hRA hgA hatA; obtain ⟨A4, c4, hv, _, _⟩ := Kd.R_reads hRA; rw [e9'.out.1] at hv; subst hv; have hE9' := Aside0.mk hE9; clear hRA hBA hgA hatA hE9)
            have hfin : 2 * Grf.cnt (nodes G) (visd (d4.ent s)) + ((s, 0) :: (n, i + 1) :: S').length ≤ m ∧ Aside0 (VI G (some ad) c w wa p b1 b2 b3 b4 q vs5 (d4.ent s) (.slice A4 ((s, 0) :: (n, i + 1) :: S').length c4) ((s, 0) :: (n, i + 1) :: S').reverse ∧ TI G (d4.ent s) ((s, 0) :: (n, i + 1) :: S') ct3 (nx3 + 1) ∧ visd (d4.ent s) r = true ∧ ∀ x, visd d x = true → visd (d4.ent s) x = true) := by
              have hl : ((s, 0) :: (n, i + 1) :: S').length = L + 2 := by simp [hY.out.2.2.1]
              have hv4 := hZ.out.2.2.1
              have hM := hY.out.2.2.2.2.2.2
              have hc := hP.out.2.2.1
              rw [hv4] at hc
              refine ⟨by omega, ?_, hP.out.2.1, hP.out.2.2.2 r (by rw [hv4]; exact hY.out.2.2.2.2.2.1.1), fun x hx => hP.out.2.2.2 x (by rw [hv4]; exact hY.out.2.2.2.2.2.1.2 x hx)⟩
              rw [hl, List.reverse_cons, List.reverse_cons, hY.out.1]
              exact hE9'.out
            have hm3 := h0'.out.2.2.1
            have hS9 : L + 2 = ((s, 0) :: (n, i + 1) :: S').length := by simp [hY.out.2.2.1]
            have hS9' := Aside0.mk hS9
            clear hE9' hP hS9
            go_roundg m
            case rel => exact ⟨(s, 0) :: (n, i + 1) :: S', vs5, d4.ent s, A4, c4, nx3 + 1, ct3, by rw [hS9'.out], hfin.1, hfin.2⟩
            case measure => exact hm3
          · have d2 : (o == 0) = false := by simp [h0]
            obtain ⟨t5, t6, _, _⟩ := hZ.out.1.top hY.out.2.1
            obtain ⟨bb, hbb⟩ : ∃ b, rdOf false d4.on s = b := ⟨_, rfl⟩
            rw [hbb] at o3
            have h0' := Aside0.mk (And.intro h0 (And.intro hbb hsn0))
            clear h0 hbb hi hi2 hm2 hm3 hrl hlt hn2a hn2b hcc hw1 hLb hsn0 t0 t2
            obtain ⟨had, hse, hsn⟩ := hs'.out
            cases bb with
            | false =>
              have hT5 := hZ.out.2.1.old hX.out.2.2.1 had hse (by rw [hZ.out.2.2.2]; exact h0'.out.1) h0'.out.2.1
              have hE9 : Aside0 (VI G (some ad) c w (V.setCell ⟨g, L * 2 + 1, none⟩ (.int .i64 ((i : Int) + 1))) p b1 b2 b3 b4 q vs4 d4 (.slice (some ⟨g, 0, none⟩) (L + 1) cs) (ys ++ [(n, i + 1)]) ∧ TI G d4 ((n, i + 1) :: S') ct3 nx3 ∧ visd d4 = visd d3) := ⟨hZ.out.1, hT5, hZ.out.2.2.1⟩
              clear hZ hT5 hsn had hse t5 t6
              go_wp2_with fail
              go_roundg gk1
              case rel => exact ⟨i + 1, vs4, d4, rfl, h0'.out.2.2.2, hE9⟩
              case measure => exact h0'.out.2.2.1
            | true =>
              have hT5 := hZ.out.2.1.lower hX.out.2.2.1 had hse h0'.out.2.1
              have hT5' := Aside0.mk hT5
              clear hT5 hsn had hse t6
              go_wp2_with fail
              refine still_tail 12 (by kernel_rfl) (by kernel_rfl) ?_
              simp only [List.take_succ_cons, List.take_zero, List.drop_succ_cons, List.drop_zero]
              repeat still_step
              refine wpStill_nil ?_
              go_wp2_with fail
              have hn := hY.out.2.2.2.2.1
              have hD9 := hZ.out.1.step (below_drew1 (Below.refl _ _))
              refine (lower_any hD9.fs q hD9.fbc n hn.1 hn.2 o).mono ?_
              rintro e w3 ⟨rfl, hF3, hK3⟩
              have hE := hD9.fin hF3 (hK3.mono (fun k hk => .inr (.inr (.inl hk))))
              have hE9 : Aside0 (VI G (some ad) c w w3 p b1 b2 b3 b4 q vs4 (d4.lo n o) (.slice (some ⟨g, 0, none⟩) (L + 1) cs) (ys ++ [(n, i + 1)]) ∧ TI G (d4.lo n o) ((n, i + 1) :: S') ct3 nx3 ∧ visd (d4.lo n o) = visd d3) := ⟨hE, by rw [← hZ.out.2.2.2]; exact hT5'.out, hZ.out.2.2.1⟩
              clear hF3 hK3 hE hT5' hZ hD9 t5 t3 t1 e0 k1 k3 o1 o3 d2
              go_wp2_with fail
              go_roundg gk1
              case rel => exact ⟨i + 1, vs4, d4.lo n o, rfl, h0'.out.2.2.2, hE9⟩
              case measure => exact h0'.out.2.2.1
        · have hlti : ¬ (i : Int) < row.length := by omega
          have hadl : (adj G n).length ≤ i := by unfold adj; rw [hY.out.2.2.2.1]; omega
          have hB9 := Aside0.mk (And.intro hadl (And.intro hLb (And.intro (show m < m + 1 by omega) hcc)))
          clear hadl hi hcc hrl hLb
          go_wp2_with fail
          go_quiet (fail)
          obtain ⟨V, hV⟩ : ∃ V, wr.drewN nq = V := ⟨_, rfl⟩
          have hJV : VI G (some ad) c w V p b1 b2 b3 b4 q vs4 d4 (.slice (some ⟨g, 0, none⟩) (L + 1) cs) (ys ++ [(n, i)]) := by
            rw [← hV]; exact hJ.out.1.step (below_drewN (Below.refl _ wr) _)
          have hT4 := hJ.out.2.1
          have hV4 := hJ.out.2.2
          rw [hV]
          clear t0 t1 t2 t3 r0 cq cp hV hJ hlti hlt
          obtain ⟨t0, t1, t2, t3⟩ := hJV.top hY.out.2.1
          have e0 := cell_at (j := 0) hJV.fbc rfl
          have hZ := Aside0.mk (And.intro hJV (And.intro hT4 hV4))
          clear hJV hT4 hV4 t1 t2 t3 hn2a hn2b
          go_wp2_with fail
          obtain ⟨hb1, hb2, hb3⟩ := hZ.out.2.1.cnt0
          have hle := okG.len hX.out.2.2.1
          obtain ⟨Lk, U, eU, hU⟩ := hZ.out.2.1.split
          obtain ⟨d5, hd5⟩ : ∃ d5, d5 = if rd d4.low n = rd d4.ord n then { d4.off Lk (n :: U).reverse with cnt := d4.cnt + 1 } else d4 := ⟨_, rfl⟩
          refine (leave_any hZ.out.1.fs n hY.out.2.2.2.2.1 Lk U eU hU (by omega) (by omega) d5 hd5).mono ?_
          rintro e' w3 ⟨rfl, vs5, hF3, hK3⟩
          have hE := (hZ.out.1.fin hF3 hK3).pop hY.out.2.1
          obtain ⟨ct5, hT5, hv5⟩ := hZ.out.2.1.leave hB9.out.1 eU d5 hd5
          have hQ := Aside0.mk (And.intro hE (And.intro hT5 (hv5.trans hZ.out.2.2)))
          have hm3 := hB9.out.2.2.1
          have hMm : 2 * Grf.cnt (nodes G) (visd (d5.par n S')) + S'.length ≤ m := by
            have hM := hY.out.2.2.2.2.2.2
            have hL := hY.out.2.2.1
            rw [hQ.out.2.2]; omega
          have hvis : visd (d5.par n S') r = true ∧ ∀ x, visd d x = true → visd (d5.par n S') x = true := by
            rw [hQ.out.2.2]; exact hY.out.2.2.2.2.2.1
          have hMm' := Aside0.mk (And.intro hMm (And.intro hvis hB9.out.2))
          clear hF3 hK3 hE hT5 hv5 hd5 eU hU t0 e0 hb1 hb2 hb3 hle hZ hMm hvis hB9 hm3
          rcases S' with _ | ⟨⟨u, j⟩, S2⟩
          · obtain rfl : L = 0 := hY.out.2.2.1.symm
            obtain rfl : ys = [] := hY.out.1.symm
            have hE9 : Aside0 (VI G (some ad) c w w3 p b1 b2 b3 b4 q vs5 d5 (.slice (some ⟨g, 0, none⟩) ([] : List (Int × Nat)).length cs) ([] : List (Int × Nat)).reverse ∧ TI G d5 [] ct5 nx3 ∧ visd d5 r = true ∧ ∀ x, visd d x = true → visd d5 x = true) := ⟨hQ.out.1, hQ.out.2.1, hMm'.out.2.1⟩
            have hm3 := hMm'.out.2.2.2.1
            clear hQ
            go_wp2_with fail
            go_roundg m
            case rel => exact ⟨[], vs5, d5, some ⟨g, 0, none⟩, cs, nx3, ct5, rfl, hMm'.out.1, hE9⟩
            case measure => exact hm3
          · obtain ⟨L2, hL2⟩ : ∃ L2, S2.length = L2 := ⟨_, rfl⟩
            have hLL : L = L2 + 1 := by have := hY.out.2.2.1; simp at this; omega
            have hys2 : ys = S2.reverse ++ [(u, j)] := by rw [← hY.out.1, List.reverse_cons]
            have hyl2 : S2.reverse.length = L2 := by rw [List.length_reverse, hL2]
            have hQ1 := hQ.out.1
            rw [hys2, hLL] at hQ1
            obtain ⟨t0, t1, t2, t3⟩ := hQ1.top hyl2
            have e0 := cell_at (j := 0) hQ1.fbc rfl
            obtain ⟨k0, k1, k2, k3, k4, k5, k6, k7⟩ := hQ1.fs.cs
            obtain ⟨hn1, hn2⟩ := hY.out.2.2.2.2.1
            obtain ⟨o2, g2⟩ := hQ1.fs.o2 hn1 hn2
            have hun : isNode G u := hQ.out.2.1.callN (c := (u, j)) List.mem_cons_self
            have hw2 : IntKind.i64.wrap ((L : Int) - 1) = (L2 : Int) := (IntKind.wrap_i64 _).trans (by have := hMm'.out.2.2.1; omega)
            have hc1 := hMm'.out.2.2.2.2
            have hc2 : (L : Int) ≤ (cs : Int) := by omega
            have hc3 : L ≤ cs := by omega
            clear hc1
            have hp9 : (0 : Int) < (L : Int) := by omega
            have hp8 : 0 < L := by omega
            have hp7 : (L2 : Int) < (L : Int) := by omega
            have hp6 : L2 < L := by omega
            have hLL' := Aside0.mk hLL
            clear hLL
            have hZ := Aside0.mk (And.intro hQ1 (And.intro hun (And.intro hys2 (And.intro hyl2 hL2))))
            clear hQ1 hun hys2 hyl2 k0 k1 k3 k4 k5 k6 k7 g2 t1 t2 t3 hL2
            go_wp2_with fail
            refine still_tail 15 (by kernel_rfl) (by kernel_rfl) ?_
            simp only [List.take_succ_cons, List.take_zero, List.drop_succ_cons, List.drop_zero]
            repeat still_step
            refine wpStill_nil ?_
            go_wp2_with fail
            have hD9 := hZ.out.1.step (below_drew1 (Below.refl _ _))
            refine (lower_any hD9.fs q hD9.fbc u hZ.out.2.1.1 hZ.out.2.1.2 (rd d5.low n)).mono ?_
            rintro e w4 ⟨rfl, hF4, hK4⟩
            have hE := hD9.fin hF4 (hK4.mono (fun k hk => .inr (.inr (.inl hk))))
            have hE9 : Aside0 (VI G (some ad) c w w4 p b1 b2 b3 b4 q vs5 (d5.par n ((u, j) :: S2)) (.slice (some ⟨g, 0, none⟩) ((u, j) :: S2).length cs) ((u, j) :: S2).reverse ∧ TI G (d5.par n ((u, j) :: S2)) ((u, j) :: S2) ct5 nx3 ∧ visd (d5.par n ((u, j) :: S2)) r = true ∧ ∀ x, visd d x = true → visd (d5.par n ((u, j) :: S2)) x = true) := by
              refine ⟨?_, hQ.out.2.1, hMm'.out.2.1⟩
              rw [List.reverse_cons, List.length_cons, hZ.out.2.2.2.2]
              exact hE
            have hm3 := hMm'.out.2.2.2.1
            have hl9 : L2 + 1 = ((u, j) :: S2).length := by rw [List.length_cons, hZ.out.2.2.2.2]
            have hl9' := Aside0.mk hl9
            clear hl9 hE hF4 hK4 hZ hD9 hQ t0 e0 k2 o2 hn1 hn2
            go_wp2_with fail
            go_roundg m
            case rel => exact ⟨(u, j) :: S2, vs5, d5.par n ((u, j) :: S2), some ⟨g, 0, none⟩, cs, nx3, ct5, by rw [← hl9'.out, hLL'.out], hMm'.out.1, hE9⟩
            case measure => exact hm3
end
end Go.Proofs.Ytmlikgmcekofbaa
end

